/- small: its contract; and Differ of more than a hundred outcomes. -/
import Derived.Test.YtledkbgjjmdflaaDoorRefDif
namespace Go.Proofs.YtledkbgjjmdflaaDoor.Obs
open Go Go.RowKit Go.Proofs Go.Shelf Go.Sort

/-- How many numbers the first k outcomes have. -/
def sumL (l : List Beh) (k : Nat) : Nat := ((l.take k).map fun x => x.1.length).sum
theorem sumL_succ (l : List Beh) (k : Nat) (h : k < l.length) : sumL l (k + 1) = sumL l k + (l.getD k beh0).1.length := by
  unfold sumL
  rw [List.take_add_one, List.getElem?_eq_getElem h, List.map_append, List.sum_append, List.getD_eq_getElem?_getD, List.getElem?_eq_getElem h]
  simp
theorem sumL_mem (l : List Beh) (k j : Nat) (hj : j < k) (h : k ≤ l.length) : (l.getD j beh0).1.length ≤ sumL l k := by
  induction k with
  | zero => omega
  | succ k ih =>
    rw [sumL_succ l k (by omega)]
    by_cases e : j = k
    · subst e; omega
    · have := ih (by omega) (by omega)
      omega
def SmallRes (l : List Beh) (w : World) (e : Ending) (w' : World) : Prop := ∃ b : Bool, e = .returned (.bool b) ∧ Below w.heap.size w w' ∧ (b = true → l.length ≤ 110 ∧ sumL l l.length ≤ 300)

set_option maxHeartbeats 2000000 in
set_option maxRecDepth 100000 in
theorem small_any (A : Option Addr) (n c : Nat) (l : List Beh) (w : World) (hl : OutsR w A n l) (hn : n ≤ 140737488351232) :
    Calls Tryd.prog 5 #[.slice A n c] w (SmallRes l w) := by
  have HL := Lib.hid hl.1
  go_enter Tryd.func5, Tryd.ntmps5
  go_wp2
  go_loopg [3, 4] n (fun g1 vs vi wr => ∃ (i : Nat) (s : Int), i ≤ n ∧ vi = .int .i64 i ∧ n - i ≤ g1 ∧ vs = .int .i64 s ∧ Hid (i ≤ 110 → s = (sumL l i : Int) ∧ sumL l i ≤ i * 140737488351232) ∧ wr = w)
  case atStart => exact ⟨0, 0, Nat.zero_le _, by go_num, by omega, rfl, fun _ => ⟨by simp [sumL], by simp [sumL]⟩, rfl⟩
  case round =>
    obtain ⟨i, s, hi, rfl, hg1, rfl, HS, hw⟩ := hrel
    obtain rfl := hw.symm
    by_cases hlt : i < n
    · have hltz : (i : Int) < (n : Int) := by omega
      have i0 : (0 : Int) ≤ (i : Int) := Int.natCast_nonneg _
      obtain ⟨b, off, rfl, hcs⟩ := hl.2 (by omega)
      obtain ⟨sx, Ax, cx, x0, x1, lx, lx2, rx, x2, x3⟩ := hcs i hlt
      obtain ⟨m, hm⟩ : ∃ m, m = (l.getD i beh0).1.length := ⟨_, rfl⟩
      rw [← hm] at x1 lx
      have HM := Lib.hid hm
      have HLX := Lib.hid lx
      have HLX2 := Lib.hid lx2
      clear hm hcs x2 x3 rx lx lx2
      by_cases hb : 200 < sx.size
      · have hbz : (200 : Int) < (sx.size : Int) := by omega
        go_wp2
        go_ret
        exact ⟨false, rfl, Below.refl _ _, fun h => by cases h⟩
      · have hbz : ¬ (200 : Int) < (sx.size : Int) := by omega
        go_wp2
        go_roundg (n - (i + 1))
        case measure => omega
        case rel =>
          refine ⟨i + 1, _, by omega, by go_num, Nat.le_refl _, rfl, (show Hid _ from ?_), rfl⟩
          intro h110
          have h1 := HS.out (by omega)
          have h2 := sumL_succ l i (by have := HL.out; omega)
          rw [← HM.out] at h2
          have h3 := HLX.out
          have h4 := HLX2.out
          have h5 : (i + 1) * 140737488351232 = i * 140737488351232 + 140737488351232 := by rw [Nat.add_mul]
          have h6 : i * 140737488351232 ≤ 110 * 140737488351232 := Nat.mul_le_mul_right _ (by omega)
          refine ⟨?_, by omega⟩
          rw [h1.1, h2]
          unfold wrap64
          omega
    · have hltz : ¬ (i : Int) < (n : Int) := by omega
      have hin : i = n := by omega
      by_cases h110 : n ≤ 110
      · have hz : (n : Int) ≤ 110 := by omega
        have hs := (HS.out (by omega)).1
        rw [hin] at hs
        have HSS := Lib.hid hs
        have HN := Lib.hid h110
        clear hs hin HS
        by_cases h300 : s ≤ 300
        · have H3 := Lib.hid h300
          go_wp2
          go_ret
          refine ⟨_, rfl, Below.refl _ _, fun _ => ?_⟩
          have q1 := HSS.out
          have q2 := H3.out
          rw [HL.out]
          exact ⟨HN.out, by omega⟩
        · have hd : decide (s ≤ 300) = false := decide_eq_false h300
          go_wp2
          go_ret
          exact ⟨false, rfl, Below.refl _ _, fun h => by cases h⟩
      · have hz : ¬ (n : Int) ≤ 110 := by omega
        go_wp2
        go_ret
        exact ⟨false, rfl, Below.refl _ _, fun h => by cases h⟩

set_option maxHeartbeats 400000 in
theorem differ_long (A : Option Addr) (n c : Nat) (w : World) (hn : 100 < n) : Calls Tryd.prog 7 #[.slice A n c] w (Ret (.tuple #[.slice none 0 0, .int .i64 3]) w) := by
  have hz : decide ((100 : Int) < (n : Int)) = true := by simp; omega
  go_enter Tryd.func7, Tryd.ntmps7
  go_wp2
  go_ret2
  exact ⟨rfl, 0, rfl⟩
set_option maxHeartbeats 400000 in
theorem refDif_long (A : Option Addr) (n c : Nat) (w : World) (hn : 100 < n) : Calls Tryd.prog 8 #[.slice A n c] w (Ret (.tuple #[.slice none 0 0, .int .i64 3]) w) := by
  have hz : decide ((100 : Int) < (n : Int)) = true := by simp; omega
  go_enter Tryd.func8, Tryd.ntmps8
  go_wp2
  go_ret2
  exact ⟨rfl, 0, rfl⟩
end Go.Proofs.YtledkbgjjmdflaaDoor.Obs
