/- irsem.Agree, observe.kind and what they call: contracts. -/
import Derived.Test.YtledkbgjjmdflaaDoorCheck
import Derived.Deep.Draws
namespace Go.Proofs.YtledkbgjjmdflaaDoor.Obs
open Go Go.RowKit Go.Proofs Go.Shelf Go.Sort

def eqL (xs ys : List Int) : Bool := decide (xs = ys)
theorem eqL_true {xs ys : List Int} (h : xs = ys) : eqL xs ys = true := decide_eq_true h
theorem eqL_false {xs ys : List Int} (h : xs ≠ ys) : eqL xs ys = false := decide_eq_false h
theorem readsI_drewN {w : World} {A : Option Addr} {n : Nat} {xs : List Int} (h : ReadsI w A n xs) (k : Nat) : ReadsI (w.drewN k) A n xs := h
theorem take_succ_getD (xs : List Int) (k : Nat) (h : k < xs.length) : xs.take (k + 1) = xs.take k ++ [xs.getD k 0] := by
  rw [List.take_add_one, List.getElem?_eq_getElem h, List.getD_eq_getElem?_getD, List.getElem?_eq_getElem h]; rfl

theorem ret_b {a b : Bool} (h : a = b) : Ending.returned (.bool a) = Ending.returned (.bool b) := by rw [h]
/-- It returns v; some orders have been drawn. -/
def Ret (v : Value) (w : World) (e : Ending) (w' : World) : Prop := e = .returned v ∧ ∃ q, w' = w.drewN q

set_option maxHeartbeats 400000 in
theorem equal_any (A B : Option Addr) (n m c d : Nat) (xs ys : List Int) (w : World) (hx : ReadsI w A n xs) (hy : ReadsI w B m ys) (hn : n ≤ 140737488351232) (hm : m ≤ 140737488351232) :
    Calls Tryd.prog 30 #[.slice A n c, .slice B m d] w (Ret (.bool (eqL xs ys)) w) := by
  by_cases hnm : n = m
  · subst hnm
    have HX := Lib.hid hx.1
    have HY := Lib.hid hy.1
    have hne : ((n : Int) != (n : Int)) = false := by simp
    go_enter Tryd.func30, Tryd.ntmps30
    go_wp2
    go_loopw [13] (fun i wr => ∃ k : Nat, k ≤ n ∧ i = .int .i64 k ∧ Hid (xs.take k = ys.take k) ∧ ∃ q, wr = w.drewN q) (fun i _ => n - (intOf i).toNat)
    case atStart => exact ⟨0, Nat.zero_le _, rfl, rfl, 0, rfl⟩
    case round =>
      obtain ⟨k, hk, rfl, HT, q, rfl⟩ := hrel
      by_cases hlt : k < n
      · obtain ⟨ad, rfl, hcx⟩ := hx.2 (by omega)
        obtain ⟨bd, rfl, hcy⟩ := hy.2 (by omega)
        have h1 : w.cell? (ad.add k) = some (.int .i64 (xs.getD k 0)) := hcx k hlt
        have h2 : w.cell? (bd.add k) = some (.int .i64 (ys.getD k 0)) := hcy k hlt
        have i0 : (0 : Int) ≤ (k : Int) := Int.natCast_nonneg _
        have i1 : (k : Int) < (n : Int) := by omega
        clear hcx hcy
        have ex : xs.take (k + 1) = xs.take k ++ [xs.getD k 0] := take_succ_getD xs k (by have := HX.out; omega)
        have ey : ys.take (k + 1) = ys.take k ++ [ys.getD k 0] := take_succ_getD ys k (by have := HY.out; omega)
        have EX := Lib.hid ex
        have EY := Lib.hid ey
        clear ex ey
        obtain ⟨x, hxv⟩ : ∃ x, x = xs.getD k 0 := ⟨_, rfl⟩
        obtain ⟨y, hyv⟩ : ∃ y, y = ys.getD k 0 := ⟨_, rfl⟩
        rw [← hxv] at h1
        rw [← hyv] at h2
        have HXV := Lib.hid hxv
        have HYV := Lib.hid hyv
        clear hxv hyv
        by_cases he : x = y
        · subst he
          have hb : (x != x) = false := by simp
          go_wp2
          go_quiet (fail)
          go_wp2
          go_roundw
          case rel => exact ⟨k + 1, by omega, by go_num, (by show _ = _; rw [EX.out, EY.out, HT.out, ← HXV.out, ← HYV.out]), q + nq, rfl⟩
          case measure => simp [intOf]; omega
        · have hb : (x != y) = true := by simpa using he
          have hfin : eqL xs ys = false := eqL_false (fun h => he (by rw [HXV.out, HYV.out, h]))
          have HFIN := Lib.hid hfin
          clear hfin
          go_wp2
          go_quiet (fail)
          go_wp2
          go_ret
          exact ⟨ret_b HFIN.out.symm, q + nq, World.drewN_drewN ..⟩
      · have hfin : eqL xs ys = true := eqL_true (by
          have h := HT.out
          rwa [List.take_of_length_le (by have := HX.out; omega), List.take_of_length_le (by have := HY.out; omega)] at h)
        have HFIN := Lib.hid hfin
        clear hfin
        go_wp2
        go_ret
        exact ⟨ret_b HFIN.out.symm, q, rfl⟩
  · have hne : ((n : Int) != (m : Int)) = true := by simp; omega
    have hfin : eqL xs ys = false := eqL_false (fun h => hnm (by rw [← hx.1, ← hy.1, h]))
    have HFIN := Lib.hid hfin
    clear hfin
    go_enter Tryd.func30, Tryd.ntmps30
    go_wp2
    go_ret
    exact ⟨ret_b HFIN.out.symm, 0, rfl⟩
end Go.Proofs.YtledkbgjjmdflaaDoor.Obs
