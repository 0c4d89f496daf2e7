/- observe.kind: its contract. -/
import Derived.Test.YtledkbgjjmdflaaDoorAgree
namespace Go.Proofs.YtledkbgjjmdflaaDoor.Obs
open Go Go.RowKit Go.Proofs Go.Shelf Go.Sort

theorem belowN' {B : Nat} {a w : World} (h : Below B a w) (n : Nat) : Below B a (w.drewN n) := ⟨h.os, h.tape, h.output, h.size, h.block⟩
/-- The first place at which two lists differ, or the length of the shorter one. -/
def mis : List Int → List Int → Nat
  | x :: xs, y :: ys => if x = y then mis xs ys + 1 else 0
  | _, _ => 0
theorem mis_at : ∀ (xs ys : List Int) (k : Nat), xs.take k = ys.take k → k < xs.length → k < ys.length → xs.getD k 0 ≠ ys.getD k 0 → mis xs ys = k
  | [], _, _, _, h, _, _ => by simp at h
  | _ :: _, [], _, _, _, h, _ => by simp at h
  | x :: xs, y :: ys, 0, _, _, _, h => by
    simp only [mis]
    rw [if_neg (by simpa using h)]
  | x :: xs, y :: ys, k + 1, h, h1, h2, h3 => by
    simp only [List.take_succ_cons, List.cons.injEq] at h
    simp only [mis]
    rw [if_pos h.1, mis_at xs ys k h.2 (by simpa using h1) (by simpa using h2) (by simpa using h3)]
theorem mis_end : ∀ (xs ys : List Int) (k : Nat), xs.take k = ys.take k → k = min xs.length ys.length → mis xs ys = k
  | [], ys, k, _, h => by simp [mis] at h ⊢; omega
  | _ :: _, [], k, _, h => by simp [mis] at h ⊢; omega
  | x :: xs, y :: ys, k, h, hk => by
    obtain ⟨j, rfl⟩ : ∃ j, k = j + 1 := ⟨k - 1, by simp at hk; omega⟩
    simp only [List.take_succ_cons, List.cons.injEq] at h
    simp only [mis]
    rw [if_pos h.1, mis_end xs ys j h.2 (by simp at hk; omega)]
def mn2 (xs ys : List Int) : Nat := min xs.length ys.length
def kindOf (xs : List Int) (ea : Int) (ys : List Int) (eb : Int) : Int × Int :=
  if mis xs ys < mn2 xs ys then (1, mis xs ys)
  else if xs.length ≠ ys.length then (2, mn2 xs ys)
  else if ea ≠ eb then (3, mn2 xs ys) else (4, mn2 xs ys)

def Ret2 (p : Int × Int) (w : World) (e : Ending) (w' : World) : Prop := e = .returned (.tuple #[.int .i64 p.1, .int .i64 p.2]) ∧ Below w.heap.size w w'
theorem ret_2 {p : Int × Int} {a b : Int} (h : p = (a, b)) : Ending.returned (.tuple #[.int .i64 a, .int .i64 b]) = Ending.returned (.tuple #[.int .i64 p.1, .int .i64 p.2]) := by rw [h]

set_option maxHeartbeats 2000000 in
set_option maxRecDepth 100000 in
theorem kind_any (A B : Option Addr) (n m c d : Nat) (xs ys : List Int) (ea ca eb cb : Int) (w : World) (hx : ReadsI w A n xs) (hy : ReadsI w B m ys) (hn : n ≤ 140737488351232) (hm : m ≤ 140737488351232) :
    Calls Tryd.prog 16 #[.agg #[.slice A n c, .int .i64 ea, .int .i64 ca], .agg #[.slice B m d, .int .i64 eb, .int .i64 cb]] w (Ret2 (kindOf xs ea ys eb) w) := by
  obtain ⟨mn, hmn⟩ : ∃ mn, mn = min n m := ⟨_, rfl⟩
  have HX := Lib.hid hx.1
  have HY := Lib.hid hy.1
  have hmin : min (n : Int) (m : Int) = (mn : Int) := by omega
  have hmnb : mn ≤ n ∧ mn ≤ m := by omega
  obtain ⟨hmnb1, hmnb2⟩ := hmnb
  have HMN := Lib.hid hmn
  clear hmn
  obtain ⟨wa, hwa⟩ : ∃ wa, wa = (w.alloc (Obj.cells #[.slice A n c, .int .i64 ea, .int .i64 ca] 34)).alloc (Obj.cells #[.slice B m d, .int .i64 eb, .int .i64 cb] 34) := ⟨_, rfl⟩
  have hba : Below w.heap.size w wa := by rw [hwa]; exact ((Below.refl _ _).alloc (Nat.le_refl _) _).alloc (by simp) _
  have hx' := hx.below (Nat.le_refl _) hba
  have hy' := hy.below (Nat.le_refl _) hba
  have c1 : ∀ i, wa.cell? ⟨w.heap.size, i, none⟩ = (#[.slice A n c, .int .i64 ea, .int .i64 ca] : Array Value)[i]? := fun i => by
    rw [hwa, World.cell?_alloc_lt _ _ _ (by simp), cell_new_at]
  have c2 : ∀ i, wa.cell? ⟨w.heap.size + 1, i, none⟩ = (#[.slice B m d, .int .i64 eb, .int .i64 cb] : Array Value)[i]? := fun i => by
    rw [hwa, cell_new_eq _ _ _ _ _ (by simp)]
  have a0 : wa.cell? ⟨w.heap.size, 0, none⟩ = some (.slice A n c) := c1 0
  have a1 : wa.cell? ⟨w.heap.size, 1, none⟩ = some (.int .i64 ea) := c1 1
  have b0 : wa.cell? ⟨w.heap.size + 1, 0, none⟩ = some (.slice B m d) := c2 0
  have b1 : wa.cell? ⟨w.heap.size + 1, 1, none⟩ = some (.int .i64 eb) := c2 1
  have HWA := Lib.hid hwa
  clear hwa c1 c2 hx hy
  go_enter Tryd.func16, Tryd.ntmps16
  go_wp2
  rw [← HWA.out]
  go_loopw [16] (fun i wr => ∃ k : Nat, k ≤ mn ∧ i = .int .i64 k ∧ Hid (xs.take k = ys.take k) ∧ ∃ q, wr = wa.drewN q) (fun i _ => mn - (intOf i).toNat)
  case atStart => exact ⟨0, Nat.zero_le _, rfl, rfl, 0, rfl⟩
  case round =>
    obtain ⟨k, hk, rfl, HT, q, rfl⟩ := hrel
    by_cases hlt : k < mn
    · obtain ⟨ad, rfl, hcx⟩ := hx'.2 (by omega)
      obtain ⟨bd, rfl, hcy⟩ := hy'.2 (by omega)
      have h1 : wa.cell? (ad.add k) = some (.int .i64 (xs.getD k 0)) := hcx k (by omega)
      have h2 : wa.cell? (bd.add k) = some (.int .i64 (ys.getD k 0)) := hcy k (by omega)
      have i0 : (0 : Int) ≤ (k : Int) := Int.natCast_nonneg _
      have i1 : (k : Int) < (n : Int) := by omega
      have i2 : (k : Int) < (m : Int) := by omega
      clear hcx hcy hx' hy'
      have EX := Lib.hid (take_succ_getD xs k (by have := HX.out; omega))
      have EY := Lib.hid (take_succ_getD ys k (by have := HY.out; omega))
      obtain ⟨x, hxv⟩ : ∃ x, x = xs.getD k 0 := ⟨_, rfl⟩
      obtain ⟨y, hyv⟩ : ∃ y, y = ys.getD k 0 := ⟨_, rfl⟩
      rw [← hxv] at h1
      rw [← hyv] at h2
      have HXV := Lib.hid hxv
      have HYV := Lib.hid hyv
      clear hxv hyv
      by_cases he : x = y
      · subst he
        have hb : (x != x) = false := by simp
        go_wp2
        go_quiet (fail)
        go_wp2
        go_roundw
        case rel => exact ⟨k + 1, by omega, by go_num, (by show _ = _; rw [EX.out, EY.out, HT.out, ← HXV.out, ← HYV.out]), q + nq, rfl⟩
        case measure => simp [intOf]; omega
      · have hb : (x != y) = true := by simpa using he
        have hfin : kindOf xs ea ys eb = (1, (k : Int)) := by
          have h := mis_at xs ys k HT.out (by have := HX.out; omega) (by have := HY.out; omega) (by rw [← HXV.out, ← HYV.out]; exact he)
          unfold kindOf
          rw [h, if_pos (by unfold mn2; have := HX.out; have := HY.out; have := HMN.out; omega)]
        have HFIN := Lib.hid hfin
        clear hfin
        go_wp2
        go_quiet (fail)
        go_wp2
        go_ret2
        exact ⟨ret_2 HFIN.out, (belowN' (belowN' hba _) _)⟩
    · have hkm : k = mn := by omega
      have hnd : ¬ mis xs ys < mn2 xs ys := by
        unfold mn2
        rw [mis_end xs ys k HT.out (by have := HX.out; have := HY.out; have := HMN.out; omega)]
        have := HX.out; have := HY.out; have := HMN.out; omega
      have hml : mn2 xs ys = mn := by unfold mn2; have := HX.out; have := HY.out; have := HMN.out; omega
      have HND := Lib.hid hnd
      have HML := Lib.hid hml
      clear hnd hml hkm
      by_cases hnm : n = m
      · have hne : ((n : Int) != (m : Int)) = false := by simp; omega
        have HNM := Lib.hid hnm
        clear hnm
        by_cases hee : ea = eb
        · have hb : (ea != eb) = false := by simpa using hee
          have hfin : kindOf xs ea ys eb = (4, (mn : Int)) := by
            unfold kindOf
            rw [if_neg HND.out, if_neg (by have := HX.out; have := HY.out; have := HNM.out; omega), if_neg (by simpa using hee), HML.out]
          have HFIN := Lib.hid hfin
          clear hfin hee
          go_wp2
          go_ret2
          exact ⟨ret_2 HFIN.out, belowN' hba _⟩
        · have hb : (ea != eb) = true := by simpa using hee
          have hfin : kindOf xs ea ys eb = (3, (mn : Int)) := by
            unfold kindOf
            rw [if_neg HND.out, if_neg (by have := HX.out; have := HY.out; have := HNM.out; omega), if_pos hee, HML.out]
          have HFIN := Lib.hid hfin
          clear hfin hee
          go_wp2
          go_ret2
          exact ⟨ret_2 HFIN.out, belowN' hba _⟩
      · have hne : ((n : Int) != (m : Int)) = true := by simp; omega
        have hfin : kindOf xs ea ys eb = (2, (mn : Int)) := by
          unfold kindOf
          rw [if_neg HND.out, if_pos (by have := HX.out; have := HY.out; omega), HML.out]
        have HFIN := Lib.hid hfin
        clear hfin hnm
        go_wp2
        go_ret2
        exact ⟨ret_2 HFIN.out, belowN' hba _⟩
end Go.Proofs.YtledkbgjjmdflaaDoor.Obs
