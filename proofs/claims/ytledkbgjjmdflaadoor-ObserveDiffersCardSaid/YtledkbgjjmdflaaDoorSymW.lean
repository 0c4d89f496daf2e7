/- slices.symMergeCmpFunc at differences: the cases of one element. -/
import Derived.Test.YtledkbgjjmdflaaDoorStb
import Derived.Test.YtledkbgjjmdflaaDoorSwap
import Derived.Test.YtledkbgjjmdflaaDoorSym7
import Derived.Shelf.SlSortCmp.QuietGrown
namespace Go.Proofs.YtledkbgjjmdflaaDoor.Obs
open Go Go.RowKit Go.Proofs Go.Shelf Go.Sort

set_option maxHeartbeats 2000000 in
set_option maxRecDepth 100000 in
theorem sym_one_up (blk cap a m b : Nat) (d : Array Dif) (w : World) (hH : HoldsK encD 4 w blk 0 d) (hblk : blk < w.heap.size) (ham : m = a + 1) (hmb : m < b) (hb : b ≤ d.size) (hsz : d.size ≤ 1000000) :
    Calls Tryd.prog 45 #[.slice (some ⟨blk, 0, none⟩) d.size cap, .int .i64 a, .int .i64 m, .int .i64 b, cmpV] w fun e w' => e = .returned (.tuple #[]) ∧ ∃ q os, w' = sortWorldK encD 4 w blk 0 q (Stab.slideUp d a (Stab.bsr (b - m) (fun h => ltOf cfD d[h]! d[a]!) m b - 1 - a)) os := by
  have HST : Hid (w = sortWorldK encD 4 w blk 0 0 d #[]) := by show w = _; unfold sortWorldK; rw [grow_empty]; exact (putRowK_self encD 4 w blk 0 d hH).symm
  have HH : Hid (HoldsK encD 4 w blk 0 d) := hH
  have h1 : ((m : Int) - (a : Int) == 1) = true := by simp; omega
  have HAM := Lib.hid ham
  have ham2 : a < m := by omega
  have ham3 : m ≤ a + 1 := by omega
  clear ham
  have mixed : Tryd.prog.follows .mixedOrders = true := by kernel_rfl
  have aE := Tryd.isAgg30
  obtain ⟨kk, hkk⟩ : ∃ k : Nat, k = 4 := ⟨_, rfl⟩
  have zE : ∀ w, (Go.sizeOf 30).run Tryd.prog w = .ok kk w := fun w => by rw [hkk]; exact Tryd.sizeOf30 w
  have HKK := Lib.hid hkk
  clear hkk hH
  obtain ⟨st, hst⟩ : ∃ s, s = Stab.bsr (b - m) (fun h => ltOf cfD d[h]! d[a]!) m b := ⟨_, rfl⟩
  obtain ⟨T, hT⟩ : ∃ T, T = Stab.slideUp d a (st - 1 - a) := ⟨_, rfl⟩
  rw [← hst, ← hT]
  have HS := Lib.hid hst
  have HT := Lib.hid hT
  clear hst hT
  go_enter Tryd.func45, Tryd.ntmps45
  go_wp2
  go_loopg [10, 11, 12] (b - m) (fun g1 vi vj vh wr => ∃ (i j f q : Nat) (os : Array Obj), vi = .int .i64 i ∧ vj = .int .i64 j ∧ m ≤ i ∧ i ≤ j ∧ j ≤ b ∧ j - i ≤ f ∧ j - i ≤ g1 ∧ wr = sortWorldK encD 4 w blk 0 q d os ∧ Hid (Stab.bsr f (fun h => ltOf cfD d[h]! d[a]!) i j = st))
  case atStart => exact ⟨m, b, b - m, 0, #[], rfl, rfl, Nat.le_refl _, by omega, Nat.le_refl _, Nat.le_refl _, Nat.le_refl _, HST.out, HS.out.symm⟩
  case round =>
    obtain ⟨i, j, f, q, os, rfl, rfl, hmi, hij, hjb, hf, hg1, hwr, HR⟩ := hrel
    clear h1
    by_cases hlt : i < j
    · have hltz : (i : Int) < (j : Int) := by omega
      obtain ⟨f', rfl⟩ : ∃ f', f = f' + 1 := ⟨f - 1, by omega⟩
      obtain ⟨h, hh⟩ : ∃ h, h = (i + j) / 2 := ⟨_, rfl⟩
      have eh : ((i : Int) + (j : Int)) / 2 = (h : Int) := by omega
      have hih : i ≤ h := by omega
      have hhj : h < j := by omega
      have z0 : (0 : Int) ≤ (h : Int) := by omega
      have z1 : (h : Int) < (d.size : Int) := by omega
      have z2 : (0 : Int) ≤ (a : Int) := by omega
      have z3 : (a : Int) < (d.size : Int) := by omega
      obtain ⟨xh, hxh⟩ : ∃ x, d[h]! = x := ⟨_, rfl⟩
      obtain ⟨xa, hxa⟩ : ∃ x, d[a]! = x := ⟨_, rfl⟩
      have hcls : ∀ n' os', grow (wr.drewN n') os' = sortWorldK encD 4 w blk 0 (q + n') d (os ++ os') := fun n' os' => by rw [hwr]; exact sortWorldK_grown_c encD 4 w blk 0 q n' d os os'
      have hHc : ∀ n' os', HoldsK encD 4 (grow (wr.drewN n') os') blk 0 d := fun n' os' => by rw [hcls]; exact holdsK_sortWorldK_c encD 4 w blk 0 d d _ _ HH.out hblk rfl
      have lh : ∀ n' os', Sem.run Tryd.prog (loadCellsFrom ⟨blk, h * kk, none⟩ 0 kk #[]) (grow (wr.drewN n') os') = .ok (encD xh).toArray (grow (wr.drewN n') os') := fun n' os' => by
        rw [← hxh, HKK.out, ← Nat.zero_add (h * 4)]; exact run_loadCellsFrom_list _ _ _ _ 4 rfl (HoldsK.cells (hHc n' os') (fun _ => rfl) (by omega))
      have la : ∀ n' os', Sem.run Tryd.prog (loadCellsFrom ⟨blk, a * kk, none⟩ 0 kk #[]) (grow (wr.drewN n') os') = .ok (encD xa).toArray (grow (wr.drewN n') os') := fun n' os' => by
        rw [← hxa, HKK.out, ← Nat.zero_add (a * 4)]; exact run_loadCellsFrom_list _ _ _ _ 4 rfl (HoldsK.cells (hHc n' os') (fun _ => rfl) (by omega))
      have hcg : ∀ n' os', Calls Tryd.prog 18 #[.agg (encD xh).toArray, .agg (encD xa).toArray] (grow (wr.drewN n') os') fun e w' => e = .returned (.int .i64 (cfD xh xa)) ∧ ∃ q os'', w' = grow ((grow (wr.drewN n') os').drewN q) os'' := fun n' os' => cmp_any xh xa _
      have CLS := Lib.hid hcls
      have HXH := Lib.hid hxh
      have HXA := Lib.hid hxa
      have HHH := Lib.hid hh
      have HW := Lib.hid hwr
      obtain ⟨cH, hcH⟩ : ∃ c, c = (encD xh).toArray := ⟨_, rfl⟩
      obtain ⟨cA, hcA⟩ : ∃ c, c = (encD xa).toArray := ⟨_, rfl⟩
      rw [← hcH] at lh hcg
      rw [← hcA] at la hcg
      clear hcls hHc hxh hxa hh hwr hcH hcA
      by_cases hlv : cfD xh xa < 0
      · have HLV := Lib.hid hlv
        go_wp2_with fail
        go_quiet_grown (exact Calls.grown_of (hcg _ _))
        go_wp2
        go_roundg (j - (h + 1))
        case measure => omega
        case rel =>
          refine ⟨h + 1, j, f', q + nq, os ++ osq, by go_num, rfl, by omega, by omega, hjb, by omega, Nat.le_refl _, CLS.out nq osq, (show Hid _ from ?_)⟩
          show _ = _
          have e : ltOf cfD d[(i + j) / 2]! d[a]! = true := by rw [← HHH.out, HXH.out, HXA.out]; exact decide_eq_true HLV.out
          rw [← HR.out, Stab.bsr, if_pos hlt, e, if_pos rfl, HHH.out]
      · have HLV := Lib.hid hlv
        go_wp2_with fail
        go_quiet_grown (exact Calls.grown_of (hcg _ _))
        go_wp2
        go_roundg (h - i)
        case measure => omega
        case rel =>
          refine ⟨i, h, f', q + nq, os ++ osq, rfl, by go_num, hmi, hih, by omega, by omega, Nat.le_refl _, CLS.out nq osq, (show Hid _ from ?_)⟩
          show _ = _
          have e : ¬ ltOf cfD d[(i + j) / 2]! d[a]! = true := by rw [← HHH.out, HXH.out, HXA.out]; intro h; have h := of_decide_eq_true h; have := HLV.out; omega
          rw [← HR.out, Stab.bsr, if_pos hlt, if_neg e, HHH.out]
    · have hltz : ¬ (i : Int) < (j : Int) := by omega
      have hst : st = i := by
        rw [← HR.out]
        cases f with
        | zero => rfl
        | succ f => rw [Stab.bsr, if_neg hlt]
      have HW := Lib.hid hwr
      have HST2 := Lib.hid hst
      clear hwr hst
      go_wp2
      go_loopg [13] (i - 1 - a) (fun g2 vk wr => ∃ (k q2 : Nat) (dk : Array Dif) (os2 : Array Obj), vk = .int .i64 k ∧ a ≤ k ∧ k ≤ i - 1 ∧ i - 1 - k ≤ g2 ∧ dk.size = d.size ∧ wr = sortWorldK encD 4 w blk 0 q2 dk os2 ∧ Hid (Stab.slideUp dk k (i - 1 - k) = T))
      case atStart => exact ⟨a, q, d, os, rfl, Nat.le_refl _, by have := HAM.out; omega, Nat.le_refl _, rfl, HW.out, by show _ = _; rw [HT.out, HST2.out]⟩
      case round =>
        obtain ⟨ja, q2, dk, os2, rfl, hak, hki, hg2, hsk, hwr, HR2⟩ := hrel
        by_cases hlk : ja < i - 1
        · have hlkz : (ja : Int) < (i : Int) - 1 := by omega
          obtain ⟨jb, hjb⟩ : ∃ j, j = ja + 1 := ⟨_, rfl⟩
          have eb : (ja : Int) + 1 = (jb : Int) := by omega
          have wb : IntKind.i64.wrap (jb : Int) = (jb : Int) := by rw [IntKind.wrap_i64]; omega
          have za : (0 : Int) ≤ (ja : Int) := by omega
          have zb : (0 : Int) ≤ (jb : Int) := by omega
          have la : (ja : Int) < (d.size : Int) := by omega
          have lb : (jb : Int) < (d.size : Int) := by omega
          have hHd : HoldsK encD 4 wr.drew blk 0 dk := by
            have : HoldsK encD 4 wr blk 0 dk := by rw [hwr]; exact holdsK_sortWorldK_c encD 4 w blk 0 d dk _ _ HH.out hblk hsk
            exact this
          have bnd : ∀ x, x < dk.size → x * 4 + 4 ≤ dk.size * 4 := fun x hx => by omega
          obtain ⟨xa, hxa⟩ : ∃ x, dk[ja]! = x := ⟨_, rfl⟩
          obtain ⟨xb, hxb⟩ : ∃ x, dk[jb]! = x := ⟨_, rfl⟩
          have lja : Sem.run Tryd.prog (loadCellsFrom ⟨blk, 0 + ja * 4, none⟩ 0 4 #[]) wr.drew = .ok (encD xa).toArray wr.drew := by rw [← hxa]; exact run_loadCellsFrom_list _ _ _ _ 4 rfl (HoldsK.cells hHd (fun _ => rfl) (by omega))
          have ljb : Sem.run Tryd.prog (loadCellsFrom ⟨blk, 0 + jb * 4, none⟩ 0 4 #[]) wr.drew = .ok (encD xb).toArray wr.drew := by rw [← hxb]; exact run_loadCellsFrom_list _ _ _ _ 4 rfl (HoldsK.cells hHd (fun _ => rfl) (by omega))
          have s1 : Sem.run Tryd.prog (storeCells ⟨blk, 0 + ja * 4, none⟩ (encD xb) 0) wr.drew = .ok () (wr.drew.setCells blk (0 + ja * 4) (encD xb)) := stores_of_holds _ hHd (ja * 4) _ (by rw [encD_len, size_flatK]; exact bnd ja (by omega)) (encD_one _)
          have s2 : Sem.run Tryd.prog (storeCells ⟨blk, 0 + jb * 4, none⟩ (encD xa) 0) (wr.drew.setCells blk (0 + ja * 4) (encD xb)) = .ok () ((wr.drew.setCells blk (0 + ja * 4) (encD xb)).setCells blk (0 + jb * 4) (encD xa)) :=
            stores_of_holds _ (holds_setCells_c hHd (ja * 4) _ (by rw [encD_len, size_flatK]; exact bnd ja (by omega))) (jb * 4) _ (by rw [encD_len, size_setMany, size_flatK]; exact bnd jb (by omega)) (encD_one _)
          rw [Nat.zero_add] at lja ljb s1
          rw [Nat.zero_add, Nat.zero_add] at s2
          rw [← HKK.out] at lja ljb s1 s2
          have HW2 := Lib.hid hwr
          have hsA : (encD xa).length = 4 := rfl
          have hsB : (encD xb).length = 4 := rfl
          have HJB := Lib.hid hjb
          have HXA2 := Lib.hid hxa
          have HXB2 := Lib.hid hxb
          have HSK := Lib.hid hsk
          clear hwr hHd bnd hjb hxa hxb hsk
          obtain ⟨cA2, hcA2⟩ : ∃ c, c = encD xa := ⟨_, rfl⟩
          obtain ⟨cB2, hcB2⟩ : ∃ c, c = encD xb := ⟨_, rfl⟩
          rw [← hcB2] at s1 ljb hsB
          rw [← hcA2] at lja hsA
          rw [← hcA2, ← hcB2] at s2
          have CC : Hid (cA2 = encD xa ∧ cB2 = encD xb) := ⟨hcA2, hcB2⟩
          rw [← HKK.out] at hsA hsB
          clear hcA2 hcB2
          go_wp2_with fail
          go_big_region_o
          all_goals go_wp2
          go_roundg (i - 1 - (ja + 1))
          case measure => omega
          case rel =>
            refine ⟨ja + 1, q2 + 1, swp dk ja jb, os2, by go_num, by omega, by omega, Nat.le_refl _, by rw [size_swp]; exact HSK.out, ?_, (show Hid _ from ?_)⟩
            · rw [CC.out.1, CC.out.2, HW2.out, ← HXA2.out, ← HXB2.out]
              have h := sortWorldK_swp_c encD 4 w blk 0 (fun _ => rfl) q2 dk os2 hblk ja jb (by have := HSK.out; have := HJB.out; omega) (by have := HSK.out; have := HJB.out; omega)
              rw [Nat.zero_add, Nat.zero_add] at h
              rw [HKK.out]
              exact h
            · show _ = _
              rw [← HR2.out, show i - 1 - ja = (i - 1 - (ja + 1)) + 1 by omega, Stab.slideUp, HJB.out]
        · have hlkz : ¬ (ja : Int) < (i : Int) - 1 := by omega
          go_wp2
          (try simp only [Exit.inBlock, Exit.then]); refine bodyPost_ret (results_none rfl _ _ _) rfl ?_
          refine ⟨rfl, q2, os2, ?_⟩
          rw [← HR2.out, show i - 1 - ja = 0 by omega]
          rfl
set_option maxHeartbeats 2000000 in
set_option maxRecDepth 100000 in
theorem sym_one_down (blk cap a m b : Nat) (d : Array Dif) (w : World) (hH : HoldsK encD 4 w blk 0 d) (hblk : blk < w.heap.size) (ham : a + 1 < m) (hmb : b = m + 1) (hb : b ≤ d.size) (hsz : d.size ≤ 1000000) :
    Calls Tryd.prog 45 #[.slice (some ⟨blk, 0, none⟩) d.size cap, .int .i64 a, .int .i64 m, .int .i64 b, cmpV] w fun e w' => e = .returned (.tuple #[]) ∧ ∃ q os, w' = sortWorldK encD 4 w blk 0 q (Stab.slideDown d m (m - Stab.bsr (m - a) (fun h => !ltOf cfD d[m]! d[h]!) a m)) os := by
  have HST : Hid (w = sortWorldK encD 4 w blk 0 0 d #[]) := by show w = _; unfold sortWorldK; rw [grow_empty]; exact (putRowK_self encD 4 w blk 0 d hH).symm
  have HH : Hid (HoldsK encD 4 w blk 0 d) := hH
  have h1 : ((m : Int) - (a : Int) == 1) = false := by simp; omega
  have h2 : ((b : Int) - (m : Int) == 1) = true := by simp; omega
  have HAM := Lib.hid ham
  have hmb2 : m < b := by omega
  have hmb3 : b ≤ m + 1 := by omega
  have HMB := Lib.hid hmb
  clear hmb
  have mixed : Tryd.prog.follows .mixedOrders = true := by kernel_rfl
  have aE := Tryd.isAgg30
  obtain ⟨kk, hkk⟩ : ∃ k : Nat, k = 4 := ⟨_, rfl⟩
  have zE : ∀ w, (Go.sizeOf 30).run Tryd.prog w = .ok kk w := fun w => by rw [hkk]; exact Tryd.sizeOf30 w
  have HKK := Lib.hid hkk
  clear hkk hH
  obtain ⟨st, hst⟩ : ∃ s, s = Stab.bsr (m - a) (fun h => !ltOf cfD d[m]! d[h]!) a m := ⟨_, rfl⟩
  obtain ⟨T, hT⟩ : ∃ T, T = Stab.slideDown d m (m - st) := ⟨_, rfl⟩
  rw [← hst, ← hT]
  have HS := Lib.hid hst
  have HT := Lib.hid hT
  clear hst hT
  go_enter Tryd.func45, Tryd.ntmps45
  go_wp2
  go_loopg [14, 15, 16] (m - a) (fun g1 vi vj vh wr => ∃ (i j f q : Nat) (os : Array Obj), vi = .int .i64 i ∧ vj = .int .i64 j ∧ a ≤ i ∧ i ≤ j ∧ j ≤ m ∧ j - i ≤ f ∧ j - i ≤ g1 ∧ wr = sortWorldK encD 4 w blk 0 q d os ∧ Hid (Stab.bsr f (fun h => !ltOf cfD d[m]! d[h]!) i j = st))
  case atStart => exact ⟨a, m, m - a, 0, #[], rfl, rfl, Nat.le_refl _, by omega, Nat.le_refl _, Nat.le_refl _, Nat.le_refl _, HST.out, HS.out.symm⟩
  case round =>
    obtain ⟨i, j, f, q, os, rfl, rfl, hmi, hij, hjb, hf, hg1, hwr, HR⟩ := hrel
    clear h1 h2
    by_cases hlt : i < j
    · have hltz : (i : Int) < (j : Int) := by omega
      obtain ⟨f', rfl⟩ : ∃ f', f = f' + 1 := ⟨f - 1, by omega⟩
      obtain ⟨h, hh⟩ : ∃ h, h = (i + j) / 2 := ⟨_, rfl⟩
      have eh : ((i : Int) + (j : Int)) / 2 = (h : Int) := by omega
      have hih : i ≤ h := by omega
      have hhj : h < j := by omega
      have z0 : (0 : Int) ≤ (h : Int) := by omega
      have z1 : (h : Int) < (d.size : Int) := by omega
      have z2 : (0 : Int) ≤ (m : Int) := by omega
      have z3 : (m : Int) < (d.size : Int) := by omega
      obtain ⟨xh, hxh⟩ : ∃ x, d[m]! = x := ⟨_, rfl⟩
      obtain ⟨xa, hxa⟩ : ∃ x, d[h]! = x := ⟨_, rfl⟩
      have hcls : ∀ n' os', grow (wr.drewN n') os' = sortWorldK encD 4 w blk 0 (q + n') d (os ++ os') := fun n' os' => by rw [hwr]; exact sortWorldK_grown_c encD 4 w blk 0 q n' d os os'
      have hHc : ∀ n' os', HoldsK encD 4 (grow (wr.drewN n') os') blk 0 d := fun n' os' => by rw [hcls]; exact holdsK_sortWorldK_c encD 4 w blk 0 d d _ _ HH.out hblk rfl
      have lh : ∀ n' os', Sem.run Tryd.prog (loadCellsFrom ⟨blk, m * kk, none⟩ 0 kk #[]) (grow (wr.drewN n') os') = .ok (encD xh).toArray (grow (wr.drewN n') os') := fun n' os' => by
        rw [← hxh, HKK.out, ← Nat.zero_add (m * 4)]; exact run_loadCellsFrom_list _ _ _ _ 4 rfl (HoldsK.cells (hHc n' os') (fun _ => rfl) (by omega))
      have la : ∀ n' os', Sem.run Tryd.prog (loadCellsFrom ⟨blk, h * kk, none⟩ 0 kk #[]) (grow (wr.drewN n') os') = .ok (encD xa).toArray (grow (wr.drewN n') os') := fun n' os' => by
        rw [← hxa, HKK.out, ← Nat.zero_add (h * 4)]; exact run_loadCellsFrom_list _ _ _ _ 4 rfl (HoldsK.cells (hHc n' os') (fun _ => rfl) (by omega))
      have hcg : ∀ n' os', Calls Tryd.prog 18 #[.agg (encD xh).toArray, .agg (encD xa).toArray] (grow (wr.drewN n') os') fun e w' => e = .returned (.int .i64 (cfD xh xa)) ∧ ∃ q os'', w' = grow ((grow (wr.drewN n') os').drewN q) os'' := fun n' os' => cmp_any xh xa _
      have CLS := Lib.hid hcls
      have HXH := Lib.hid hxh
      have HXA := Lib.hid hxa
      have HHH := Lib.hid hh
      have HW := Lib.hid hwr
      obtain ⟨cH, hcH⟩ : ∃ c, c = (encD xh).toArray := ⟨_, rfl⟩
      obtain ⟨cA, hcA⟩ : ∃ c, c = (encD xa).toArray := ⟨_, rfl⟩
      rw [← hcH] at lh hcg
      rw [← hcA] at la hcg
      clear hcls hHc hxh hxa hh hwr hcH hcA
      by_cases hlv : cfD xh xa < 0
      · have HLV := Lib.hid hlv
        go_wp2_with fail
        go_quiet_grown (exact Calls.grown_of (hcg _ _))
        go_wp2
        go_roundg (h - i)
        case measure => omega
        case rel =>
          refine ⟨i, h, f', q + nq, os ++ osq, rfl, by go_num, hmi, hih, by omega, by omega, Nat.le_refl _, CLS.out nq osq, (show Hid _ from ?_)⟩
          show _ = _
          have e : ¬ (!ltOf cfD d[m]! d[(i + j) / 2]!) = true := by rw [← HHH.out, HXH.out, HXA.out, show ltOf cfD xh xa = true from decide_eq_true HLV.out]; decide
          rw [← HR.out, Stab.bsr, if_pos hlt, if_neg e, HHH.out]
      · have HLV := Lib.hid hlv
        have hdec : decide (cfD xh xa < 0) = false := decide_eq_false hlv
        have hlv2 : 0 ≤ cfD xh xa := by omega
        go_wp2_with fail
        go_quiet_grown (exact Calls.grown_of (hcg _ _))
        go_wp2
        go_roundg (j - (h + 1))
        case measure => omega
        case rel =>
          refine ⟨h + 1, j, f', q + nq, os ++ osq, by go_num, rfl, by omega, by omega, hjb, by omega, Nat.le_refl _, CLS.out nq osq, (show Hid _ from ?_)⟩
          show _ = _
          have e : (!ltOf cfD d[m]! d[(i + j) / 2]!) = true := by rw [← HHH.out, HXH.out, HXA.out, show ltOf cfD xh xa = false from decide_eq_false (by have := HLV.out; omega)]; rfl
          rw [← HR.out, Stab.bsr, if_pos hlt, if_pos e, HHH.out]
    · have hltz : ¬ (i : Int) < (j : Int) := by omega
      have hst : st = i := by
        rw [← HR.out]
        cases f with
        | zero => rfl
        | succ f => rw [Stab.bsr, if_neg hlt]
      have HW := Lib.hid hwr
      have HST2 := Lib.hid hst
      clear hwr hst
      go_wp2
      go_loopg [17] (m - i) (fun g2 vk wr => ∃ (k q2 : Nat) (dk : Array Dif) (os2 : Array Obj), vk = .int .i64 k ∧ i ≤ k ∧ k ≤ m ∧ k - i ≤ g2 ∧ dk.size = d.size ∧ wr = sortWorldK encD 4 w blk 0 q2 dk os2 ∧ Hid (Stab.slideDown dk k (k - i) = T))
      case atStart => exact ⟨m, q, d, os, rfl, by omega, Nat.le_refl _, Nat.le_refl _, rfl, HW.out, by show _ = _; rw [HT.out, HST2.out]⟩
      case round =>
        obtain ⟨ja, q2, dk, os2, rfl, hik, hkm, hg2, hsk, hwr, HR2⟩ := hrel
        by_cases hlk : i < ja
        · have hlkz : (i : Int) < (ja : Int) := by omega
          obtain ⟨jb, hjb⟩ : ∃ j, j = ja - 1 := ⟨_, rfl⟩
          have eb : (ja : Int) - 1 = (jb : Int) := by omega
          have wb : IntKind.i64.wrap (jb : Int) = (jb : Int) := by rw [IntKind.wrap_i64]; omega
          have za : (0 : Int) ≤ (ja : Int) := by omega
          have zb : (0 : Int) ≤ (jb : Int) := by omega
          have la : (ja : Int) < (d.size : Int) := by omega
          have lb : (jb : Int) < (d.size : Int) := by omega
          have hHd : HoldsK encD 4 wr.drew blk 0 dk := by
            have : HoldsK encD 4 wr blk 0 dk := by rw [hwr]; exact holdsK_sortWorldK_c encD 4 w blk 0 d dk _ _ HH.out hblk hsk
            exact this
          have bnd : ∀ x, x < dk.size → x * 4 + 4 ≤ dk.size * 4 := fun x hx => by omega
          obtain ⟨xa, hxa⟩ : ∃ x, dk[ja]! = x := ⟨_, rfl⟩
          obtain ⟨xb, hxb⟩ : ∃ x, dk[jb]! = x := ⟨_, rfl⟩
          have lja : Sem.run Tryd.prog (loadCellsFrom ⟨blk, 0 + ja * 4, none⟩ 0 4 #[]) wr.drew = .ok (encD xa).toArray wr.drew := by rw [← hxa]; exact run_loadCellsFrom_list _ _ _ _ 4 rfl (HoldsK.cells hHd (fun _ => rfl) (by omega))
          have ljb : Sem.run Tryd.prog (loadCellsFrom ⟨blk, 0 + jb * 4, none⟩ 0 4 #[]) wr.drew = .ok (encD xb).toArray wr.drew := by rw [← hxb]; exact run_loadCellsFrom_list _ _ _ _ 4 rfl (HoldsK.cells hHd (fun _ => rfl) (by omega))
          have s1 : Sem.run Tryd.prog (storeCells ⟨blk, 0 + ja * 4, none⟩ (encD xb) 0) wr.drew = .ok () (wr.drew.setCells blk (0 + ja * 4) (encD xb)) := stores_of_holds _ hHd (ja * 4) _ (by rw [encD_len, size_flatK]; exact bnd ja (by omega)) (encD_one _)
          have s2 : Sem.run Tryd.prog (storeCells ⟨blk, 0 + jb * 4, none⟩ (encD xa) 0) (wr.drew.setCells blk (0 + ja * 4) (encD xb)) = .ok () ((wr.drew.setCells blk (0 + ja * 4) (encD xb)).setCells blk (0 + jb * 4) (encD xa)) :=
            stores_of_holds _ (holds_setCells_c hHd (ja * 4) _ (by rw [encD_len, size_flatK]; exact bnd ja (by omega))) (jb * 4) _ (by rw [encD_len, size_setMany, size_flatK]; exact bnd jb (by omega)) (encD_one _)
          rw [Nat.zero_add] at lja ljb s1
          rw [Nat.zero_add, Nat.zero_add] at s2
          rw [← HKK.out] at lja ljb s1 s2
          have HW2 := Lib.hid hwr
          have hsA : (encD xa).length = 4 := rfl
          have hsB : (encD xb).length = 4 := rfl
          have HJB := Lib.hid hjb
          have HXA2 := Lib.hid hxa
          have HXB2 := Lib.hid hxb
          have HSK := Lib.hid hsk
          clear hwr hHd bnd hjb hxa hxb hsk
          obtain ⟨cA2, hcA2⟩ : ∃ c, c = encD xa := ⟨_, rfl⟩
          obtain ⟨cB2, hcB2⟩ : ∃ c, c = encD xb := ⟨_, rfl⟩
          rw [← hcB2] at s1 ljb hsB
          rw [← hcA2] at lja hsA
          rw [← hcA2, ← hcB2] at s2
          have CC : Hid (cA2 = encD xa ∧ cB2 = encD xb) := ⟨hcA2, hcB2⟩
          rw [← HKK.out] at hsA hsB
          clear hcA2 hcB2
          go_wp2_with fail
          go_big_region_o
          all_goals go_wp2
          go_roundg (ja - 1 - i)
          case measure => omega
          case rel =>
            refine ⟨ja - 1, q2 + 1, swp dk ja jb, os2, by go_num, by omega, by omega, Nat.le_refl _, by rw [size_swp]; exact HSK.out, ?_, (show Hid _ from ?_)⟩
            · rw [CC.out.1, CC.out.2, HW2.out, ← HXA2.out, ← HXB2.out]
              have h := sortWorldK_swp_c encD 4 w blk 0 (fun _ => rfl) q2 dk os2 hblk ja jb (by have := HSK.out; have := HJB.out; omega) (by have := HSK.out; have := HJB.out; omega)
              rw [Nat.zero_add, Nat.zero_add] at h
              rw [HKK.out]
              exact h
            · show _ = _
              rw [← HR2.out, show ja - i = (ja - 1 - i) + 1 by omega, Stab.slideDown, HJB.out]
        · have hlkz : ¬ (i : Int) < (ja : Int) := by omega
          go_wp2
          (try simp only [Exit.inBlock, Exit.then]); refine bodyPost_ret (results_none rfl _ _ _) rfl ?_
          refine ⟨rfl, q2, os2, ?_⟩
          rw [← HR2.out, show ja - i = 0 by omega]
          rfl
end Go.Proofs.YtledkbgjjmdflaaDoor.Obs
