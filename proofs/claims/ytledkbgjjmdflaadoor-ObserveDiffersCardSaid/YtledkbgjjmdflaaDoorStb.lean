/- slices.stableCmpFunc at differences: what it computes, out of what symMergeCmpFunc does. -/
import Derived.Test.YtledkbgjjmdflaaDoorRot
import Derived.Test.YtledkbgjjmdflaaDoorSym6
namespace Go.Proofs.YtledkbgjjmdflaaDoor.Obs
open Go Go.RowKit Go.Proofs Go.Shelf Go.Sort

/-- What symMergeCmpFunc does. -/
def SymDoes : Prop := ∀ (blk cap a m b : Nat) (d : Array Dif) (w : World), HoldsK encD 4 w blk 0 d → blk < w.heap.size → a < m → m < b → b ≤ d.size → d.size ≤ 1000000 →
    Calls Tryd.prog 45 #[.slice (some ⟨blk, 0, none⟩) d.size cap, .int .i64 a, .int .i64 m, .int .i64 b, cmpV] w fun e w' => e = .returned (.tuple #[]) ∧ ∃ q os, w' = sortWorldK encD 4 w blk 0 q (Stab.symM (ltOf cfD) (b - a) d a m b) os

theorem size_insInner (lt : Dif → Dif → Bool) (a : Nat) : ∀ (j : Nat) (d : Array Dif), (insInner lt a j d).size = d.size
  | 0, _ => rfl
  | j + 1, d => by
    unfold insInner
    split
    · rw [size_insInner lt a j, size_swp]
    · rfl
theorem size_insOuter (lt : Dif → Dif → Bool) (a b : Nat) : ∀ (n i : Nat) (d : Array Dif), b - i = n → (insOuter lt a b i d).size = d.size
  | 0, i, d, h => by rw [insOuter, if_neg (by omega)]
  | n + 1, i, d, h => by
    rw [insOuter]
    split
    · rw [size_insOuter lt a b n (i + 1) _ (by omega), size_insInner]
    · rfl
theorem size_insertion (lt : Dif → Dif → Bool) (d : Array Dif) (a b : Nat) : (Sort.insertionSort lt d a b).size = d.size := size_insOuter _ _ _ _ _ _ rfl
theorem size_slideUp : ∀ (n k : Nat) (d : Array Dif), (Stab.slideUp d k n).size = d.size
  | 0, _, _ => rfl
  | n + 1, k, d => by rw [Stab.slideUp, size_slideUp n, size_swp]
theorem size_slideDown : ∀ (n k : Nat) (d : Array Dif), (Stab.slideDown d k n).size = d.size
  | 0, _, _ => rfl
  | n + 1, k, d => by rw [Stab.slideDown, size_slideDown n, size_swp]
theorem size_rotN : ∀ (f : Nat) (d : Array Dif) (m i j : Nat), (Stab.rotN f d m i j).size = d.size
  | 0, _, _, _, _ => rfl
  | f + 1, d, m, i, j => by
    rw [Stab.rotN]
    split
    · rw [size_swapN]
    · split
      · rw [size_rotN f, size_swapN]
      · rw [size_rotN f, size_swapN]
theorem size_symM (lt : Dif → Dif → Bool) : ∀ (f : Nat) (d : Array Dif) (a m b : Nat), (Stab.symM lt f d a m b).size = d.size
  | 0, _, _, _, _ => rfl
  | f + 1, d, a, m, b => by
    rw [Stab.symM]
    split
    · rw [size_slideUp]
    · split
      · rw [size_slideDown]
      · have key : ∀ (c : Prop) [Decidable c] (x y : Array Dif), x.size = d.size → y.size = d.size → (if c then x else y).size = d.size := by
          intro c _ x y hx hy
          split
          · exact hx
          · exact hy
        have r1 := fun (c : Prop) [Decidable c] (f m i j : Nat) => key c (Stab.rotN f d m i j) d (size_rotN f d m i j) rfl
        exact key _ _ _ ((size_symM lt f _ _ _ _).trans (key _ _ _ ((size_symM lt f _ _ _ _).trans (r1 _ _ _ _ _)) (r1 _ _ _ _ _))) (key _ _ _ ((size_symM lt f _ _ _ _).trans (r1 _ _ _ _ _)) (r1 _ _ _ _ _))

set_option maxHeartbeats 1000000 in
set_option maxRecDepth 100000 in
theorem stable_all (hsym : SymDoes) (blk cap : Nat) (d : Array Dif) (w : World) (hH : HoldsK encD 4 w blk 0 d) (hblk : blk < w.heap.size) (hsz : d.size ≤ 1000000) :
    Calls Tryd.prog 31 #[.slice (some ⟨blk, 0, none⟩) d.size cap, .int .i64 d.size, cmpV] w fun e w' => e = .returned (.tuple #[]) ∧ ∃ q os, w' = sortWorldK encD 4 w blk 0 q (Stab.stableM (ltOf cfD) d) os := by
  have HST : Hid (w = sortWorldK encD 4 w blk 0 0 d #[]) := by show w = _; unfold sortWorldK; rw [grow_empty]; exact (putRowK_self encD 4 w blk 0 d hH).symm
  have HH : Hid (HoldsK encD 4 w blk 0 d) := hH
  have HSY : Hid SymDoes := hsym
  clear hH hsym
  obtain ⟨n, hn⟩ : ∃ n, n = d.size := ⟨_, rfl⟩
  obtain ⟨T, hT⟩ : ∃ T, T = Stab.stableM (ltOf cfD) d := ⟨_, rfl⟩
  obtain ⟨T1, hT1⟩ : ∃ T1, T1 = Stab.ph1 (ltOf cfD) (n + 1) d 0 n := ⟨_, rfl⟩
  have HT : Hid (T = Stab.ph3 (ltOf cfD) (n + 1) T1 20 n) := by show _ = _; rw [hT, hT1, Stab.stableM, hn]
  rw [← hT, ← hn]
  have HN := Lib.hid hn
  have hnz : n ≤ 1000000 := by omega
  have HT1 := Lib.hid hT1
  clear hT hT1 hn hsz
  go_enter Tryd.func31, Tryd.ntmps31
  go_wp2
  go_loopg [7, 8] (n + 1) (fun g1 va vb wr => ∃ (a f q : Nat) (dk : Array Dif) (os : Array Obj), va = .int .i64 a ∧ vb = .int .i64 ((a : Int) + 20) ∧ a ≤ n ∧ n + 1 ≤ a + f ∧ n + 1 - a ≤ g1 ∧ dk.size = n ∧ wr = sortWorldK encD 4 w blk 0 q dk os ∧ Hid (Stab.ph1 (ltOf cfD) f dk a n = T1))
  case atStart => exact ⟨0, n + 1, 0, d, #[], by go_num, by go_num, by omega, by omega, by omega, HN.out.symm, HST.out, HT1.out.symm⟩
  case round =>
    obtain ⟨a, f, q, dk, os, rfl, rfl, han, hf, hg1, hsk, hwr, HR⟩ := hrel
    have hHk : HoldsK encD 4 wr blk 0 dk := by rw [hwr]; exact holdsK_sortWorldK_c encD 4 w blk 0 d dk _ _ HH.out hblk (hsk.trans HN.out)
    have hbk : blk < wr.heap.size := by rw [hwr]; exact sortWorld_lt w blk q dk os hblk
    obtain ⟨f', rfl⟩ : ∃ f', f = f' + 1 := ⟨f - 1, by omega⟩
    have HW := Lib.hid hwr
    clear hwr
    by_cases h20 : a + 20 ≤ n
    · have hz : (a : Int) + 20 ≤ (n : Int) := by omega
      have K := ins_any blk cap a (a + 20) dk wr hHk hbk (by omega) (by omega) (by omega)
      rw [hsk, show ((a + 20 : Nat) : Int) = (a : Int) + 20 by omega] at K
      have HK := Lib.hid K
      clear K hHk
      go_wp2_with (go_at_call 44; refine HK.out.mono ?_; rintro e w' ⟨rfl, q', os', hw'⟩; have HW' := Lib.hid hw'; clear hw')
      go_roundg (n + 1 - (a + 20))
      case measure => omega
      case rel =>
        refine ⟨a + 20, f', q + q', Sort.insertionSort (ltOf cfD) dk a (a + 20), os ++ os', by go_num, by go_num, by omega, by omega, Nat.le_refl _, by rw [size_insertion, hsk], ?_, (show Hid _ from ?_)⟩
        · rw [HW'.out, HW.out]; exact sortWorld_on w blk q q' dk _ os os' hblk (size_insertion _ _ _ _)
        · show _ = _
          rw [← HR.out, Stab.ph1, if_pos h20]
    · have hz : ¬ (a : Int) + 20 ≤ (n : Int) := by omega
      have K := ins_any blk cap a n dk wr hHk hbk (by omega) (by omega) (by omega)
      rw [hsk] at K
      have HK := Lib.hid K
      clear K hHk
      go_wp2_with (go_at_call 44; refine HK.out.mono ?_; rintro e w' ⟨rfl, q', os', hw'⟩; have HW' := Lib.hid hw'; clear hw')
      have hw1 : ∃ q1 os1, w' = sortWorldK encD 4 w blk 0 q1 T1 os1 := ⟨q + q', os ++ os', by
        rw [HW'.out, HW.out, sortWorld_on w blk q q' dk _ os os' hblk (size_insertion _ _ _ _), ← HR.out, Stab.ph1, if_neg h20]⟩
      have hs1 : T1.size = n := by rw [← HR.out, Stab.ph1, if_neg h20, size_insertion, hsk]
      have HW1 := Lib.hid hw1
      clear hw1
      have hs1' := hs1
      go_loopg [6, 7, 8, 9] (n + 1) (fun g1 vs va vb vm wr => ∃ (bs f q : Nat) (dk : Array Dif) (os : Array Obj), vs = .int .i64 bs ∧ 0 < bs ∧ bs ≤ 2 * n + 20 ∧ n + 1 ≤ f + bs ∧ n + 1 ≤ g1 + bs ∧ dk.size = n ∧ wr = sortWorldK encD 4 w blk 0 q dk os ∧ Hid (Stab.ph3 (ltOf cfD) f dk bs n = T))
      case atStart =>
        obtain ⟨q1, os1, h1⟩ := HW1.out
        exact ⟨20, n + 1, q1, T1, os1, by go_num, by omega, by omega, by omega, by omega, hs1, h1, HT.out.symm⟩
      case round =>
        obtain ⟨bs, f, q, dk, os, rfl, hb0, hbn, hf, hg2, hsk, hwr, HR2⟩ := hrel
        have HWo := Lib.hid hwr
        clear hwr
        by_cases hlt : bs < n
        · have hltz : (bs : Int) < (n : Int) := by omega
          obtain ⟨f2, rfl⟩ : ∃ f2, f = f2 + 1 := ⟨f - 1, by omega⟩
          obtain ⟨T2, hT2⟩ : ∃ T2, T2 = Stab.pass (ltOf cfD) bs (n + 1) dk 0 n := ⟨_, rfl⟩
          have HT2 := Lib.hid hT2
          clear hT2
          go_wp2
          go_loopg [7, 8] (n + 1) (fun g3 va vb wr2 => ∃ (a f3 q : Nat) (dj : Array Dif) (os : Array Obj), va = .int .i64 a ∧ vb = .int .i64 ((a : Int) + 2 * (bs : Int)) ∧ a ≤ n ∧ n + 1 ≤ a + f3 ∧ n + 1 - a ≤ g3 ∧ dj.size = n ∧ wr2 = sortWorldK encD 4 w blk 0 q dj os ∧ Hid (Stab.pass (ltOf cfD) bs f3 dj a n = T2))
          case atStart => exact ⟨0, n + 1, q, dk, os, by go_num, by go_num, by omega, by omega, by omega, hsk, HWo.out, HT2.out.symm⟩
          case round =>
            obtain ⟨a, f3, q3, dj, os3, rfl, rfl, han3, hf3, hg3, hsj, hwr3, HR3⟩ := hrel
            obtain ⟨f4, rfl⟩ : ∃ f4, f3 = f4 + 1 := ⟨f3 - 1, by omega⟩
            have hHj : HoldsK encD 4 wr blk 0 dj := by rw [hwr3]; exact holdsK_sortWorldK_c encD 4 w blk 0 d dj _ _ HH.out hblk (hsj.trans HN.out)
            have hbj : blk < wr.heap.size := by rw [hwr3]; exact sortWorld_lt w blk q3 dj os3 hblk
            have HSYj := HSY.out blk cap
            have HW3 := Lib.hid hwr3
            clear hwr3
            by_cases h2 : a + 2 * bs ≤ n
            · have hz : (a : Int) + 2 * (bs : Int) ≤ (n : Int) := by omega
              have K := HSYj a (a + bs) (a + 2 * bs) dj wr hHj hbj (by omega) (by omega) (by omega) (by omega)
              rw [hsj, show ((a + bs : Nat) : Int) = (a : Int) + (bs : Int) by omega, show ((a + 2 * bs : Nat) : Int) = (a : Int) + 2 * (bs : Int) by omega, show a + 2 * bs - a = 2 * bs by omega] at K
              have HK := Lib.hid K
              clear K hHj HSYj
              go_wp2_with (go_at_call 45; refine HK.out.mono ?_; rintro e w' ⟨rfl, q', os', hw'⟩; have HW' := Lib.hid hw'; clear hw')
              go_roundg (n + 1 - (a + 2 * bs))
              case measure => omega
              case rel =>
                refine ⟨a + 2 * bs, f4, q3 + q', Stab.symM (ltOf cfD) (2 * bs) dj a (a + bs) (a + 2 * bs), os3 ++ os', by go_num, by go_num, by omega, by omega, Nat.le_refl _, by rw [size_symM, hsj], ?_, (show Hid _ from ?_)⟩
                · rw [HW'.out, HW3.out]; exact sortWorld_on w blk q3 q' dj _ os3 os' hblk (size_symM _ _ _ _ _ _)
                · show _ = _
                  rw [← HR3.out, Stab.pass, if_pos h2]
            · have hz : ¬ (a : Int) + 2 * (bs : Int) ≤ (n : Int) := by omega
              by_cases hm : a + bs < n
              · have hmz : (a : Int) + (bs : Int) < (n : Int) := by omega
                have K := HSYj a (a + bs) n dj wr hHj hbj (by omega) (by omega) (by omega) (by omega)
                rw [hsj, show ((a + bs : Nat) : Int) = (a : Int) + (bs : Int) by omega] at K
                have HK := Lib.hid K
                clear K hHj HSYj
                go_wp2_with (go_at_call 45; refine HK.out.mono ?_; rintro e w' ⟨rfl, q', os', hw'⟩; have HW' := Lib.hid hw'; clear hw')
                go_roundg (n + 1 - 2 * bs)
                case measure => omega
                case rel =>
                  refine ⟨2 * bs, f2, q3 + q', Stab.symM (ltOf cfD) (n - a) dj a (a + bs) n, os3 ++ os', by go_num, by omega, by omega, by omega, by omega, by rw [size_symM, hsj], ?_, (show Hid _ from ?_)⟩
                  · rw [HW'.out, HW3.out]; exact sortWorld_on w blk q3 q' dj _ os3 os' hblk (size_symM _ _ _ _ _ _)
                  · show _ = _
                    rw [← HR2.out, Stab.ph3, if_pos hlt, ← HT2.out, ← HR3.out, Stab.pass, if_neg h2, if_pos hm]
              · have hmz : ¬ (a : Int) + (bs : Int) < (n : Int) := by omega
                clear hHj HSYj
                go_wp2
                go_roundg (n + 1 - 2 * bs)
                case measure => omega
                case rel =>
                  refine ⟨2 * bs, f2, q3, dj, os3, by go_num, by omega, by omega, by omega, by omega, hsj, HW3.out, (show Hid _ from ?_)⟩
                  show _ = _
                  rw [← HR2.out, Stab.ph3, if_pos hlt, ← HT2.out, ← HR3.out, Stab.pass, if_neg h2, if_neg hm]
        · have hltz : ¬ (bs : Int) < (n : Int) := by omega
          go_wp2
          go_end0
          refine ⟨rfl, q, os, ?_⟩
          rw [HWo.out, ← HR2.out]
          cases f with
          | zero => rfl
          | succ f => rw [Stab.ph3, if_neg hlt]
end Go.Proofs.YtledkbgjjmdflaaDoor.Obs
