/- slices.swapRangeCmpFunc and slices.rotateCmpFunc at differences: what they compute. -/
import Derived.Test.YtledkbgjjmdflaaDoorRot
import Derived.Shelf.RegionOpenPlain
namespace Go.Proofs.YtledkbgjjmdflaaDoor.Obs
open Go Go.RowKit Go.Proofs Go.Shelf Go.Sort

set_option maxHeartbeats 2000000 in
set_option maxRecDepth 100000 in
theorem swapRange_any (blk cap a b n : Nat) (d : Array Dif) (w : World) (hH : HoldsK encD 4 w blk 0 d) (hblk : blk < w.heap.size) (ha : a + n ≤ d.size) (hb : b + n ≤ d.size) (hsz : d.size ≤ 1000000) :
    Calls Tryd.prog 54 #[.slice (some ⟨blk, 0, none⟩) d.size cap, .int .i64 a, .int .i64 b, .int .i64 n, cmpV] w fun e w' => e = .returned (.tuple #[]) ∧ ∃ q os, w' = sortWorldK encD 4 w blk 0 q (Stab.swapN d a b n) os := by
  have HST : Hid (w = sortWorldK encD 4 w blk 0 0 d #[]) := by show w = _; unfold sortWorldK; rw [grow_empty]; exact (putRowK_self encD 4 w blk 0 d hH).symm
  have HH : Hid (HoldsK encD 4 w blk 0 d) := hH
  have mixed : Tryd.prog.follows .mixedOrders = true := by kernel_rfl
  have aE := Tryd.isAgg30
  obtain ⟨kk, hkk⟩ : ∃ k : Nat, k = 4 := ⟨_, rfl⟩
  have zE : ∀ w, (Go.sizeOf 30).run Tryd.prog w = .ok kk w := fun w => by rw [hkk]; exact Tryd.sizeOf30 w
  have HKK := Lib.hid hkk
  clear hkk
  clear hH
  go_enter Tryd.func54, Tryd.ntmps54
  go_wp2
  go_loopg [10] n (fun g1 vi wr => ∃ (i q : Nat) (os : Array Obj), vi = .int .i64 i ∧ i ≤ n ∧ n - i ≤ g1 ∧ wr = sortWorldK encD 4 w blk 0 q (Stab.swapN d a b i) os)
  case atStart => exact ⟨0, 0, #[], by go_num, Nat.zero_le _, by omega, HST.out⟩
  case round =>
    obtain ⟨i, q, os, rfl, hin, hg1, hwr⟩ := hrel
    by_cases hlt : i < n
    · have hltz : (i : Int) < (n : Int) := by omega
      obtain ⟨dk, hdk⟩ : ∃ dk, dk = Stab.swapN d a b i := ⟨_, rfl⟩
      have hsk : dk.size = d.size := by rw [hdk, size_swapN]
      rw [← hdk] at hwr
      have HDK := Lib.hid hdk
      clear hdk
      obtain ⟨ja, hja⟩ : ∃ j, j = a + i := ⟨_, rfl⟩
      obtain ⟨jb, hjb⟩ : ∃ j, j = b + i := ⟨_, rfl⟩
      obtain ⟨xa, hxa⟩ : ∃ x, dk[ja]! = x := ⟨_, rfl⟩
      obtain ⟨xb, hxb⟩ : ∃ x, dk[jb]! = x := ⟨_, rfl⟩
      have ea : (a : Int) + (i : Int) = (ja : Int) := by omega
      have eb : (b : Int) + (i : Int) = (jb : Int) := by omega
      have wa : IntKind.i64.wrap (ja : Int) = (ja : Int) := by rw [IntKind.wrap_i64]; omega
      have wb : IntKind.i64.wrap (jb : Int) = (jb : Int) := by rw [IntKind.wrap_i64]; omega
      have za : (0 : Int) ≤ (ja : Int) := by omega
      have zb : (0 : Int) ≤ (jb : Int) := by omega
      have la : (ja : Int) < (d.size : Int) := by omega
      have lb : (jb : Int) < (d.size : Int) := by omega
      have hHd : HoldsK encD 4 wr.drew blk 0 dk := by
        have : HoldsK encD 4 wr blk 0 dk := by rw [hwr]; exact holdsK_sortWorldK_c encD 4 w blk 0 d dk _ _ HH.out hblk hsk
        exact this
      have bnd : ∀ x, x < dk.size → x * 4 + 4 ≤ dk.size * 4 := fun x hx => by omega
      have lja : Sem.run Tryd.prog (loadCellsFrom ⟨blk, 0 + ja * 4, none⟩ 0 4 #[]) wr.drew = .ok (encD xa).toArray wr.drew := by rw [← hxa]; exact run_loadCellsFrom_list _ _ _ _ 4 rfl (HoldsK.cells hHd (fun _ => rfl) (by omega))
      have ljb : Sem.run Tryd.prog (loadCellsFrom ⟨blk, 0 + jb * 4, none⟩ 0 4 #[]) wr.drew = .ok (encD xb).toArray wr.drew := by rw [← hxb]; exact run_loadCellsFrom_list _ _ _ _ 4 rfl (HoldsK.cells hHd (fun _ => rfl) (by omega))
      have s1 : Sem.run Tryd.prog (storeCells ⟨blk, 0 + ja * 4, none⟩ (encD xb) 0) wr.drew = .ok () (wr.drew.setCells blk (0 + ja * 4) (encD xb)) := stores_of_holds _ hHd (ja * 4) _ (by rw [encD_len, size_flatK]; exact bnd ja (by omega)) (encD_one _)
      have s2 : Sem.run Tryd.prog (storeCells ⟨blk, 0 + jb * 4, none⟩ (encD xa) 0) (wr.drew.setCells blk (0 + ja * 4) (encD xb)) = .ok () ((wr.drew.setCells blk (0 + ja * 4) (encD xb)).setCells blk (0 + jb * 4) (encD xa)) :=
        stores_of_holds _ (holds_setCells_c hHd (ja * 4) _ (by rw [encD_len, size_flatK]; exact bnd ja (by omega))) (jb * 4) _ (by rw [encD_len, size_setMany, size_flatK]; exact bnd jb (by omega)) (encD_one _)
      rw [Nat.zero_add] at lja ljb s1
      rw [Nat.zero_add, Nat.zero_add] at s2
      rw [← HKK.out] at lja ljb s1 s2
      have HW := Lib.hid hwr
      have hsA : (encD xa).length = 4 := rfl
      have hsB : (encD xb).length = 4 := rfl
      have HJA := Lib.hid hja
      have HJB := Lib.hid hjb
      have HXA := Lib.hid hxa
      have HXB := Lib.hid hxb
      clear hwr hHd bnd hja hjb hxa hxb
      obtain ⟨cA, hcA⟩ : ∃ c, c = encD xa := ⟨_, rfl⟩
      obtain ⟨cB, hcB⟩ : ∃ c, c = encD xb := ⟨_, rfl⟩
      rw [← hcB] at s1 ljb hsB
      rw [← hcA] at lja hsA
      rw [← hcA, ← hcB] at s2
      have CC : Hid (cA = encD xa ∧ cB = encD xb) := ⟨hcA, hcB⟩
      rw [← HKK.out] at hsA hsB
      clear hcA hcB
      go_wp2_with fail
      go_big_region_o
      all_goals go_wp2
      go_roundg (n - (i + 1))
      case measure => omega
      case rel =>
        refine ⟨i + 1, q + 1, os, by go_num, by omega, Nat.le_refl _, ?_⟩
        rw [CC.out.1, CC.out.2, HW.out, ← HXA.out, ← HXB.out, Stab.swapN, ← HDK.out, ← HJA.out, ← HJB.out]
        have h := sortWorldK_swp_c encD 4 w blk 0 (fun _ => rfl) q dk os hblk ja jb (by have := HJA.out; omega) (by have := HJB.out; omega)
        rw [Nat.zero_add, Nat.zero_add] at h
        rw [HKK.out]
        exact h
    · have hltz : ¬ (i : Int) < (n : Int) := by omega
      have hi : i = n := by omega
      subst hi
      go_wp2
      go_end0
      exact ⟨rfl, q, os, rfl⟩
theorem swap_does : SwapDoes := fun blk cap a b n d w hH hblk ha hb hsz => swapRange_any blk cap a b n d w hH hblk ha hb hsz
end Go.Proofs.YtledkbgjjmdflaaDoor.Obs
