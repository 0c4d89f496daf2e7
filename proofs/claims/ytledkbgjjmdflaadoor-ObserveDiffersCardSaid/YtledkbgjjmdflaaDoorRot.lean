/- slices.rotateCmpFunc at differences: what it computes, out of what swapRangeCmpFunc does. -/
import Derived.Test.YtledkbgjjmdflaaDoorSort
import Derived.Test.YtledkbgjjmdflaaDoorSym
import Derived.Deep.LoopGhost
namespace Go.Proofs.YtledkbgjjmdflaaDoor.Obs
open Go Go.RowKit Go.Proofs Go.Shelf Go.Sort

theorem sortWorld_on (w : World) (blk n m : Nat) (dk dk' : Array Dif) (os os' : Array Obj) (hblk : blk < w.heap.size) (h : dk'.size = dk.size) :
    sortWorldK encD 4 (sortWorldK encD 4 w blk 0 n dk os) blk 0 m dk' os' = sortWorldK encD 4 w blk 0 (n + m) dk' (os ++ os') := grow_step_growK encD 4 w os os' n m blk 0 dk dk' hblk h
theorem sortWorld_lt (w : World) (blk n : Nat) (dk : Array Dif) (os : Array Obj) (h : blk < w.heap.size) : blk < (sortWorldK encD 4 w blk 0 n dk os).heap.size := Nat.lt_of_lt_of_le h (size_sortWorldK_c encD 4 w blk 0 n dk os)
theorem size_swapN (d : Array Dif) (a b k : Nat) : (Stab.swapN d a b k).size = d.size := by
  induction k with
  | zero => rfl
  | succ k ih => rw [Stab.swapN, size_swp, ih]
/-- What swapRangeCmpFunc does. -/
def SwapDoes : Prop := ∀ (blk cap a b n : Nat) (d : Array Dif) (w : World), HoldsK encD 4 w blk 0 d → blk < w.heap.size → a + n ≤ d.size → b + n ≤ d.size → d.size ≤ 1000000 →
    Calls Tryd.prog 54 #[.slice (some ⟨blk, 0, none⟩) d.size cap, .int .i64 a, .int .i64 b, .int .i64 n, cmpV] w fun e w' => e = .returned (.tuple #[]) ∧ ∃ q os, w' = sortWorldK encD 4 w blk 0 q (Stab.swapN d a b n) os

set_option maxHeartbeats 1000000 in
set_option maxRecDepth 100000 in
theorem rotate_any (hsw : SwapDoes) (blk cap a m b : Nat) (d : Array Dif) (w : World) (hH : HoldsK encD 4 w blk 0 d) (hblk : blk < w.heap.size) (ham : a < m) (hmb : m < b) (hb : b ≤ d.size) (hsz : d.size ≤ 1000000) :
    Calls Tryd.prog 49 #[.slice (some ⟨blk, 0, none⟩) d.size cap, .int .i64 a, .int .i64 m, .int .i64 b, cmpV] w fun e w' => e = .returned (.tuple #[]) ∧ ∃ q os, w' = sortWorldK encD 4 w blk 0 q (Stab.rotN (b - a) d m (m - a) (b - m)) os := by
  have HST : Hid (w = sortWorldK encD 4 w blk 0 0 d #[]) := by show w = _; unfold sortWorldK; rw [grow_empty]; exact (putRowK_self encD 4 w blk 0 d hH).symm
  have HH : Hid (HoldsK encD 4 w blk 0 d) := hH
  have HSW : Hid SwapDoes := hsw
  clear hH hsw
  obtain ⟨T, hT⟩ : ∃ T, T = Stab.rotN (b - a) d m (m - a) (b - m) := ⟨_, rfl⟩
  rw [← hT]
  have HT := Lib.hid hT
  clear hT
  go_enter Tryd.func49, Tryd.ntmps49
  go_wp2
  go_loopg [10, 11] (b - a) (fun g1 vi vj wr => ∃ (i j f q : Nat) (dk : Array Dif) (os : Array Obj), vi = .int .i64 i ∧ vj = .int .i64 j ∧ 0 < i ∧ 0 < j ∧ a + i ≤ m ∧ m + j ≤ b ∧ i + j ≤ f ∧ i + j ≤ g1 ∧ dk.size = d.size ∧ wr = sortWorldK encD 4 w blk 0 q dk os ∧ Hid (Stab.rotN f dk m i j = T))
  case atStart => exact ⟨m - a, b - m, b - a, 0, d, #[], by go_num, by go_num, by omega, by omega, by omega, by omega, by omega, by omega, rfl, HST.out, HT.out.symm⟩
  case round =>
    obtain ⟨i, j, f, q, dk, os, rfl, rfl, hi0, hj0, hia, hjb, hf, hg1, hsk, hwr, HR⟩ := hrel
    have hHk : HoldsK encD 4 wr blk 0 dk := by rw [hwr]; exact holdsK_sortWorldK_c encD 4 w blk 0 d dk _ _ HH.out hblk hsk
    have hbk : blk < wr.heap.size := by rw [hwr]; exact sortWorld_lt w blk q dk os hblk
    obtain ⟨f', rfl⟩ : ∃ f', f = f' + 1 := ⟨f - 1, by omega⟩
    have HW := Lib.hid hwr
    clear hwr
    by_cases he : i = j
    · subst he
      have hne : ((i : Int) != (i : Int)) = false := by simp
      have K := HSW.out blk cap (m - i) m i dk wr hHk hbk (by omega) (by omega) (by omega)
      rw [hsk, show ((m - i : Nat) : Int) = (m : Int) - (i : Int) by omega] at K
      have HK := Lib.hid K
      clear K hHk
      go_wp2_with (go_at_call 54; refine HK.out.mono ?_; rintro e w' ⟨rfl, q', os', hw'⟩; have HW' := Lib.hid hw'; clear hw')
      go_end0
      refine ⟨rfl, q + q', os ++ os', ?_⟩
      rw [HW'.out, HW.out, sortWorld_on w blk q q' dk _ os os' hblk (size_swapN _ _ _ _), ← HR.out, Stab.rotN, if_pos rfl]
    · have hne : ((i : Int) != (j : Int)) = true := by simp; omega
      by_cases hlt : j < i
      · have hltz : (j : Int) < (i : Int) := by omega
        have K := HSW.out blk cap (m - i) m j dk wr hHk hbk (by omega) (by omega) (by omega)
        rw [hsk, show ((m - i : Nat) : Int) = (m : Int) - (i : Int) by omega] at K
        have HK := Lib.hid K
        clear K hHk
        go_wp2_with (go_at_call 54; refine HK.out.mono ?_; rintro e w' ⟨rfl, q', os', hw'⟩; have HW' := Lib.hid hw'; clear hw')
        go_roundg (i - j + j)
        case measure => omega
        case rel =>
          refine ⟨i - j, j, f', q + q', Stab.swapN dk (m - i) m j, os ++ os', by go_num, rfl, by omega, hj0, by omega, hjb, by omega, Nat.le_refl _, ?_, ?_, (show Hid _ from ?_)⟩
          · rw [size_swapN, hsk]
          · rw [HW'.out, HW.out]; exact sortWorld_on w blk q q' dk _ os os' hblk (size_swapN _ _ _ _)
          · show _ = _
            rw [← HR.out, Stab.rotN, if_neg he, if_pos hlt]
      · have hltz : ¬ (j : Int) < (i : Int) := by omega
        have K := HSW.out blk cap (m - i) (m + j - i) i dk wr hHk hbk (by omega) (by omega) (by omega)
        rw [hsk, show ((m - i : Nat) : Int) = (m : Int) - (i : Int) by omega, show ((m + j - i : Nat) : Int) = (m : Int) + (j : Int) - (i : Int) by omega] at K
        have HK := Lib.hid K
        clear K hHk
        go_wp2_with (go_at_call 54; refine HK.out.mono ?_; rintro e w' ⟨rfl, q', os', hw'⟩; have HW' := Lib.hid hw'; clear hw')
        go_roundg (i + (j - i))
        case measure => omega
        case rel =>
          refine ⟨i, j - i, f', q + q', Stab.swapN dk (m - i) (m + j - i) i, os ++ os', rfl, by go_num, hi0, by omega, hia, by omega, by omega, Nat.le_refl _, ?_, ?_, (show Hid _ from ?_)⟩
          · rw [size_swapN, hsk]
          · rw [HW'.out, HW.out]; exact sortWorld_on w blk q q' dk _ os os' hblk (size_swapN _ _ _ _)
          · show _ = _
            rw [← HR.out, Stab.rotN, if_neg he, if_neg hlt]
end Go.Proofs.YtledkbgjjmdflaaDoor.Obs
