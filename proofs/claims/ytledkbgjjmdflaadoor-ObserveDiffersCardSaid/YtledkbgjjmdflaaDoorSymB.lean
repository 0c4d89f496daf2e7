/- slices.symMergeCmpFunc at differences: the general case; and the whole. -/
import Derived.Test.YtledkbgjjmdflaaDoorStb
import Derived.Test.YtledkbgjjmdflaaDoorSwap
import Derived.Test.YtledkbgjjmdflaaDoorSym7
import Derived.Test.YtledkbgjjmdflaaDoorSymW
import Derived.Deep.DeepCutAuto
namespace Go.Proofs.YtledkbgjjmdflaaDoor.Obs
open Go Go.RowKit Go.Proofs Go.Shelf Go.Sort

set_option maxHeartbeats 4000000 in
set_option maxRecDepth 100000 in
theorem sym_both (blk cap a m b : Nat) (d : Array Dif) (w : World) (hH : HoldsK encD 4 w blk 0 d) (hblk : blk < w.heap.size) (ham : a + 1 < m) (hmb : m + 1 < b) (hb : b ≤ d.size) (hsz : d.size ≤ 1000000)
    (ih : ∀ (a' m' b' : Nat) (d' : Array Dif) (w' : World), b' - a' < b - a → HoldsK encD 4 w' blk 0 d' → blk < w'.heap.size → a' < m' → m' < b' → b' ≤ d'.size → d'.size ≤ 1000000 →
      Calls Tryd.prog 45 #[.slice (some ⟨blk, 0, none⟩) d'.size cap, .int .i64 a', .int .i64 m', .int .i64 b', cmpV] w' fun e w'' => e = .returned (.tuple #[]) ∧ ∃ q os, w'' = sortWorldK encD 4 w' blk 0 q (Stab.symM (ltOf cfD) (b' - a') d' a' m' b') os) :
    Calls Tryd.prog 45 #[.slice (some ⟨blk, 0, none⟩) d.size cap, .int .i64 a, .int .i64 m, .int .i64 b, cmpV] w fun e w' => e = .returned (.tuple #[]) ∧ ∃ q os, w' = sortWorldK encD 4 w blk 0 q (Stab.symM (ltOf cfD) (b - a) d a m b) os := by
  have HST : Hid (w = sortWorldK encD 4 w blk 0 0 d #[]) := by show w = _; unfold sortWorldK; rw [grow_empty]; exact (putRowK_self encD 4 w blk 0 d hH).symm
  have HH : Hid (HoldsK encD 4 w blk 0 d) := hH
  have h1 : ((m : Int) - (a : Int) == 1) = false := by simp; omega
  have h2 : ((b : Int) - (m : Int) == 1) = false := by simp; omega
  have IH := Lib.hid ih
  clear ih
  have mixed : Tryd.prog.follows .mixedOrders = true := by kernel_rfl
  have aE := Tryd.isAgg30
  obtain ⟨kk, hkk⟩ : ∃ k : Nat, k = 4 := ⟨_, rfl⟩
  have zE : ∀ w, (Go.sizeOf 30).run Tryd.prog w = .ok kk w := fun w => by rw [hkk]; exact Tryd.sizeOf30 w
  have HKK := Lib.hid hkk
  clear hkk hH
  obtain ⟨mid, hmid⟩ : ∃ c, c = (a + b) / 2 := ⟨_, rfl⟩
  have emid : ((a : Int) + (b : Int)) / 2 = (mid : Int) := by omega
  obtain ⟨s0, hs0⟩ : ∃ s, s = (if mid < m then mid + m - b else a) := ⟨_, rfl⟩
  obtain ⟨r0, hr0⟩ : ∃ s, s = (if mid < m then mid else m) := ⟨_, rfl⟩
  have hmida : a < mid := by omega
  have hmidb : mid < b := by omega
  have hsr : s0 ≤ r0 := by rw [hs0, hr0]; split <;> omega
  have hrm : r0 ≤ m := by rw [hr0]; split <;> omega
  have hrd : r0 ≤ mid := by rw [hr0]; split <;> omega
  have hsa : a ≤ s0 := by rw [hs0]; split <;> omega
  have hsb : mid + m ≤ s0 + b := by rw [hs0]; split <;> omega
  obtain ⟨st, hst⟩ : ∃ s, s = Stab.bsr (r0 - s0) (fun c => !ltOf cfD d[mid + m - 1 - c]! d[c]!) s0 r0 := ⟨_, rfl⟩
  obtain ⟨d1, hd1⟩ : ∃ x, x = (if st < m ∧ m < mid + m - st then Stab.rotN (mid + m - st - st) d m (m - st) (mid + m - st - m) else d) := ⟨_, rfl⟩
  obtain ⟨d2, hd2⟩ : ∃ x, x = (if a < st ∧ st < mid then Stab.symM (ltOf cfD) (mid - a) d1 a st mid else d1) := ⟨_, rfl⟩
  obtain ⟨T, hT⟩ : ∃ x, x = (if mid < mid + m - st ∧ mid + m - st < b then Stab.symM (ltOf cfD) (b - mid) d2 mid (mid + m - st) b else d2) := ⟨_, rfl⟩
  have hTT : Stab.symM (ltOf cfD) (b - a) d a m b = T := by
    obtain ⟨f, hf⟩ : ∃ f, b - a = f + 1 := ⟨b - a - 1, by omega⟩
    rw [hf, Stab.symM, if_neg (by omega), if_neg (by omega)]
    simp only
    rw [← hmid, ← hs0, ← hr0, ← hst, ← hd1, hT]
    have e1 : (if a < st ∧ st < mid then Stab.symM (ltOf cfD) f d1 a st mid else d1) = d2 := by
      rw [hd2]
      split
      · rename_i hc
        exact Stab.symM_fuel _ f (mid - a) d1 a st mid hc.1 hc.2 (by omega) (Nat.le_refl _)
      · rfl
    rw [e1]
    split
    · rename_i hc
      exact Stab.symM_fuel _ f (b - mid) d2 mid _ b hc.1 hc.2 (by omega) (Nat.le_refl _)
    · rfl
  rw [hTT]
  have hz1 : d1.size = d.size := by
    rw [hd1]
    split
    · exact size_rotN _ _ _ _ _
    · rfl
  have hz2 : d2.size = d.size := by
    rw [hd2]
    split
    · exact (size_symM _ _ _ _ _ _).trans hz1
    · exact hz1
  have HS := Lib.hid hst
  have HD1 := Lib.hid hd1
  have HD2 := Lib.hid hd2
  have HT := Lib.hid hT
  have HZ1 := Lib.hid hz1
  have HZ2 := Lib.hid hz2
  have HS0 := Lib.hid hs0
  have HR0 := Lib.hid hr0
  have HMID := Lib.hid hmid
  clear hst hd1 hd2 hT hTT hz1 hz2 hs0 hr0 hmid
  go_enter Tryd.func45, Tryd.ntmps45
  go_upto_if 140 with fail
  go_cut [20, 21] (fun vs vr wx => vs = .int .i64 s0 ∧ vr = .int .i64 r0 ∧ wx = w)
  case first => as_aux_lemma =>
      by_cases hm : mid < m
      · have hmz : (mid : Int) < (m : Int) := by omega
        have e0 : (mid : Int) + (m : Int) - (b : Int) = (s0 : Int) := by have := HS0.out; rw [if_pos hm] at this; omega
        have e1 : Hid (r0 = mid) := by have := HR0.out; rw [if_pos hm] at this; exact this
        clear hm
        go_wp2
        go_meet
        case rel => exact ⟨by go_num, by rw [e1.out], rfl⟩
      · have hmz : ¬ (mid : Int) < (m : Int) := by omega
        have e0 : Hid (s0 = a) := by have := HS0.out; rw [if_neg hm] at this; exact this
        have e1 : Hid (r0 = m) := by have := HR0.out; rw [if_neg hm] at this; exact this
        clear hm
        go_wp2
        go_meet
        case rel => exact ⟨by rw [e0.out], by rw [e1.out], rfl⟩
  case rest =>
    obtain ⟨rfl, rfl, hw2⟩ := hcut
    have hw3 := hw2.symm
    subst hw3
    obtain ⟨np, hnp⟩ : ∃ x, x = mid + m - 1 := ⟨_, rfl⟩
    have enp : (mid : Int) + (m : Int) - 1 = (np : Int) := by omega
    rw [← hnp] at HS
    have HNP := Lib.hid hnp
    clear hnp
    go_wp2
    go_loopg [20, 21, 23] (r0 - s0) (fun g1 vi vj vh wr => ∃ (i j f q : Nat) (os : Array Obj), vi = .int .i64 i ∧ vj = .int .i64 j ∧ s0 ≤ i ∧ i ≤ j ∧ j ≤ r0 ∧ j - i ≤ f ∧ j - i ≤ g1 ∧ wr = sortWorldK encD 4 w blk 0 q d os ∧ Hid (Stab.bsr f (fun c => !ltOf cfD d[np - c]! d[c]!) i j = st))
    case atStart => exact ⟨s0, r0, r0 - s0, 0, #[], rfl, rfl, Nat.le_refl _, hsr, Nat.le_refl _, Nat.le_refl _, Nat.le_refl _, HST.out, HS.out.symm⟩
    case round =>
      obtain ⟨i, j, f, q, os, rfl, rfl, hmi, hij, hjb, hf, hg1, hwr, HR⟩ := hrel
      clear h1 h2 emid enp
      by_cases hlt : i < j
      · have hltz : (i : Int) < (j : Int) := by omega
        obtain ⟨f', rfl⟩ : ∃ f', f = f' + 1 := ⟨f - 1, by omega⟩
        obtain ⟨h, hh⟩ : ∃ h, h = (i + j) / 2 := ⟨_, rfl⟩
        have eh : ((i : Int) + (j : Int)) / 2 = (h : Int) := by omega
        have hih : i ≤ h := by omega
        have hhj : h < j := by omega
        obtain ⟨pc, hpc⟩ : ∃ x, x = np - h := ⟨_, rfl⟩
        have hnp := HNP.out
        have epc : (np : Int) - (h : Int) = (pc : Int) := by omega
        have wpc : IntKind.i64.wrap (pc : Int) = (pc : Int) := by rw [IntKind.wrap_i64]; omega
        have z0 : (0 : Int) ≤ (h : Int) := by omega
        have z1 : (h : Int) < (d.size : Int) := by omega
        have z2 : (0 : Int) ≤ (pc : Int) := by omega
        have z3 : (pc : Int) < (d.size : Int) := by omega
        obtain ⟨xh, hxh⟩ : ∃ x, d[pc]! = x := ⟨_, rfl⟩
        obtain ⟨xa, hxa⟩ : ∃ x, d[h]! = x := ⟨_, rfl⟩
        have hcls : ∀ n' os', grow (wr.drewN n') os' = sortWorldK encD 4 w blk 0 (q + n') d (os ++ os') := fun n' os' => by rw [hwr]; exact sortWorldK_grown_c encD 4 w blk 0 q n' d os os'
        have hHc : ∀ n' os', HoldsK encD 4 (grow (wr.drewN n') os') blk 0 d := fun n' os' => by rw [hcls]; exact holdsK_sortWorldK_c encD 4 w blk 0 d d _ _ HH.out hblk rfl
        have lh : ∀ n' os', Sem.run Tryd.prog (loadCellsFrom ⟨blk, pc * kk, none⟩ 0 kk #[]) (grow (wr.drewN n') os') = .ok (encD xh).toArray (grow (wr.drewN n') os') := fun n' os' => by
          rw [← hxh, HKK.out, ← Nat.zero_add (pc * 4)]; exact run_loadCellsFrom_list _ _ _ _ 4 rfl (HoldsK.cells (hHc n' os') (fun _ => rfl) (by omega))
        have la : ∀ n' os', Sem.run Tryd.prog (loadCellsFrom ⟨blk, h * kk, none⟩ 0 kk #[]) (grow (wr.drewN n') os') = .ok (encD xa).toArray (grow (wr.drewN n') os') := fun n' os' => by
          rw [← hxa, HKK.out, ← Nat.zero_add (h * 4)]; exact run_loadCellsFrom_list _ _ _ _ 4 rfl (HoldsK.cells (hHc n' os') (fun _ => rfl) (by omega))
        have hcg : ∀ n' os', Calls Tryd.prog 18 #[.agg (encD xh).toArray, .agg (encD xa).toArray] (grow (wr.drewN n') os') fun e w' => e = .returned (.int .i64 (cfD xh xa)) ∧ ∃ q os'', w' = grow ((grow (wr.drewN n') os').drewN q) os'' := fun n' os' => cmp_any xh xa _
        have CLS := Lib.hid hcls
        have HXH := Lib.hid hxh
        have HXA := Lib.hid hxa
        have HHH := Lib.hid hh
        have HW := Lib.hid hwr
        obtain ⟨cH, hcH⟩ : ∃ c, c = (encD xh).toArray := ⟨_, rfl⟩
        obtain ⟨cA, hcA⟩ : ∃ c, c = (encD xa).toArray := ⟨_, rfl⟩
        rw [← hcH] at lh hcg
        rw [← hcA] at la hcg
        clear hcls hHc hxh hxa hh hwr hcH hcA
        have HPC := Lib.hid hpc
        clear hpc hnp
        by_cases hlv : cfD xh xa < 0
        · as_aux_lemma =>
            have HLV := Lib.hid hlv
            go_wp2_with fail
            go_quiet_grown (exact Calls.grown_of (hcg _ _))
            go_wp2
            go_roundg (h - i)
            case measure => omega
            case rel =>
              refine ⟨i, h, f', q + nq, os ++ osq, rfl, by go_num, hmi, hih, by omega, by omega, Nat.le_refl _, CLS.out nq osq, (show Hid _ from ?_)⟩
              show _ = _
              have e : ¬ (!ltOf cfD d[np - (i + j) / 2]! d[(i + j) / 2]!) = true := by rw [← HHH.out, ← HPC.out, HXH.out, HXA.out, show ltOf cfD xh xa = true from decide_eq_true HLV.out]; decide
              rw [← HR.out, Stab.bsr, if_pos hlt, if_neg e, HHH.out]
        · as_aux_lemma =>
            have HLV := Lib.hid hlv
            have hdec : decide (cfD xh xa < 0) = false := decide_eq_false hlv
            have hlv2 : 0 ≤ cfD xh xa := by omega
            go_wp2_with fail
            go_quiet_grown (exact Calls.grown_of (hcg _ _))
            go_wp2
            go_roundg (j - (h + 1))
            case measure => omega
            case rel =>
              refine ⟨h + 1, j, f', q + nq, os ++ osq, by go_num, rfl, by omega, by omega, hjb, by omega, Nat.le_refl _, CLS.out nq osq, (show Hid _ from ?_)⟩
              show _ = _
              have e : (!ltOf cfD d[np - (i + j) / 2]! d[(i + j) / 2]!) = true := by rw [← HHH.out, ← HPC.out, HXH.out, HXA.out, show ltOf cfD xh xa = false from decide_eq_false (by have := HLV.out; omega)]; rfl
              rw [← HR.out, Stab.bsr, if_pos hlt, if_pos e, HHH.out]
      · have hltz : ¬ (i : Int) < (j : Int) := by omega
        have hst : st = i := by
          rw [← HR.out]
          cases f with
          | zero => rfl
          | succ f => rw [Stab.bsr, if_neg hlt]
        subst hst
        obtain rfl : st = j := by omega
        have HW := Lib.hid hwr
        obtain ⟨en, hen⟩ : ∃ x, x = mid + m - st := ⟨_, rfl⟩
        rw [← hen] at HD1 HT
        have een : (mid : Int) + (m : Int) - (st : Int) = (en : Int) := by omega
        have henb : en ≤ b := by omega
        have henm : mid ≤ en := by omega
        have hstm : st ≤ m := by omega
        have hast : a ≤ st := by omega
        obtain ⟨bA, hbA⟩ : ∃ x : Bool, x = decide (st < m ∧ m < en) := ⟨_, rfl⟩
        obtain ⟨bB, hbB⟩ : ∃ x : Bool, x = decide (a < st ∧ st < mid) := ⟨_, rfl⟩
        obtain ⟨bC, hbC⟩ : ∃ x : Bool, x = decide (mid < en ∧ en < b) := ⟨_, rfl⟩
        have HBA := Lib.hid hbA
        have HBB := Lib.hid hbB
        have HBC := Lib.hid hbC
        have HEN := Lib.hid hen
        clear hbA hbB hbC hen HR hf hg1 hlt hij hwr
        go_upto_region 39 with fail
        go_cut [185] (fun v wx => v = .bool bA ∧ Hid (wx = sortWorldK encD 4 w blk 0 q d os))
        case first => as_aux_lemma =>
            by_cases k1 : st < m
            · have k1z : (st : Int) < (m : Int) := by omega
              by_cases k2 : m < en
              · have k2z : (m : Int) < (en : Int) := by omega
                have K := Lib.hid (And.intro k1 k2)
                go_wp2
                go_meet
                case rel =>
                  refine ⟨?_, HW⟩
                  rw [HBA.out, decide_eq_true K.out]
              · have k2z : ¬ (m : Int) < (en : Int) := by omega
                have K : Hid (¬ (st < m ∧ m < en)) := fun h => k2 h.2
                go_wp2
                go_meet
                case rel =>
                  refine ⟨?_, HW⟩
                  rw [HBA.out, decide_eq_false K.out]
            · have k1z : ¬ (st : Int) < (m : Int) := by omega
              have K : Hid (¬ (st < m ∧ m < en)) := fun h => k1 h.1
              go_wp2
              go_meet
              case rel =>
                refine ⟨?_, HW⟩
                rw [HBA.out, decide_eq_false K.out]
        case rest =>
          clear HW
          obtain ⟨rfl, HW⟩ := hcut
          go_upto_if 185 with fail
          go_cut [24] (fun v wx => v = .int .i64 en ∧ ∃ q os, wx = sortWorldK encD 4 w blk 0 q d1 os)
          case first => as_aux_lemma =>
              cases bA
              · go_wp2
                go_meet
                case rel =>
                  refine ⟨rfl, q, os, ?_⟩
                  have e : d1 = d := by rw [HD1.out, if_neg (of_decide_eq_false HBA.out.symm)]
                  rw [e]; exact HW.out
              · have hc := of_decide_eq_true HBA.out.symm
                have hHk : HoldsK encD 4 wc blk 0 d := by rw [HW.out]; exact holdsK_sortWorldK_c encD 4 w blk 0 d d _ _ HH.out hblk rfl
                have K := Lib.hid (rotate_any swap_does blk cap st m en d wc hHk (by rw [HW.out]; exact sortWorld_lt w blk q d os hblk) hc.1 hc.2 (by omega) hsz)
                clear hHk hc
                go_wp2_with (go_at_call 49; refine K.out.mono ?_; rintro e w' ⟨rfl, q', os', hw'⟩; have HW' := Lib.hid hw'; clear hw')
                go_meet
                case rel =>
                  refine ⟨rfl, q + q', os ++ os', ?_⟩
                  rw [HW'.out, HW.out, sortWorld_on w blk q q' d _ os os' hblk (size_rotN _ _ _ _ _), HD1.out, if_pos (of_decide_eq_true HBA.out.symm)]
          case rest =>
            clear HW
            obtain ⟨rfl, q1, os1, hw1⟩ := hcut
            have HW1 := Lib.hid hw1
            clear hw1
            go_upto_region 41 with fail
            go_cut [199] (fun v wx => v = .bool bB ∧ Hid (wx = sortWorldK encD 4 w blk 0 q1 d1 os1))
            case first => as_aux_lemma =>
                by_cases k1 : a < st
                · have k1z : (a : Int) < (st : Int) := by omega
                  by_cases k2 : st < mid
                  · have k2z : (st : Int) < (mid : Int) := by omega
                    have K := Lib.hid (And.intro k1 k2)
                    go_wp2
                    go_meet
                    case rel =>
                      refine ⟨?_, HW1⟩
                      rw [HBB.out, decide_eq_true K.out]
                  · have k2z : ¬ (st : Int) < (mid : Int) := by omega
                    have K : Hid (¬ (a < st ∧ st < mid)) := fun h => k2 h.2
                    go_wp2
                    go_meet
                    case rel =>
                      refine ⟨?_, HW1⟩
                      rw [HBB.out, decide_eq_false K.out]
                · have k1z : ¬ (a : Int) < (st : Int) := by omega
                  have K : Hid (¬ (a < st ∧ st < mid)) := fun h => k1 h.1
                  go_wp2
                  go_meet
                  case rel =>
                    refine ⟨?_, HW1⟩
                    rw [HBB.out, decide_eq_false K.out]
            case rest =>
              clear HW1
              obtain ⟨rfl, HW1⟩ := hcut
              go_upto_if 199 with fail
              go_cut [24] (fun v wx => v = .int .i64 en ∧ ∃ q os, wx = sortWorldK encD 4 w blk 0 q d2 os)
              case first => as_aux_lemma =>
                  cases bB
                  · go_wp2
                    go_meet
                    case rel =>
                      refine ⟨rfl, q1, os1, ?_⟩
                      have e : d2 = d1 := by rw [HD2.out, if_neg (of_decide_eq_false HBB.out.symm)]
                      rw [e]; exact HW1.out
                  · have hc := of_decide_eq_true HBB.out.symm
                    have K := IH.out a st mid d1 wc (by omega) (by rw [HW1.out]; exact holdsK_sortWorldK_c encD 4 w blk 0 d d1 _ _ HH.out hblk HZ1.out) (by rw [HW1.out]; exact sortWorld_lt w blk q1 d1 os1 hblk) hc.1 hc.2 (by rw [HZ1.out]; omega) (by rw [HZ1.out]; omega)
                    rw [HZ1.out] at K
                    replace K := Lib.hid K
                    clear hc
                    go_wp2_with (go_at_call 45; refine K.out.mono ?_; rintro e w' ⟨rfl, q', os', hw'⟩; have HW' := Lib.hid hw'; clear hw')
                    go_meet
                    case rel =>
                      refine ⟨rfl, q1 + q', os1 ++ os', ?_⟩
                      rw [HW'.out, HW1.out, sortWorld_on w blk q1 q' d1 _ os1 os' hblk (size_symM _ _ _ _ _ _), HD2.out, if_pos (of_decide_eq_true HBB.out.symm)]
              case rest =>
                clear HW1
                obtain ⟨rfl, q2, os2, hw2⟩ := hcut
                have HW2 := Lib.hid hw2
                clear hw2
                go_upto_region 43 with fail
                go_cut [213] (fun v wx => v = .bool bC ∧ Hid (wx = sortWorldK encD 4 w blk 0 q2 d2 os2))
                case first => as_aux_lemma =>
                    by_cases k1 : mid < en
                    · have k1z : (mid : Int) < (en : Int) := by omega
                      by_cases k2 : en < b
                      · have k2z : (en : Int) < (b : Int) := by omega
                        have K := Lib.hid (And.intro k1 k2)
                        go_wp2
                        go_meet
                        case rel =>
                          refine ⟨?_, HW2⟩
                          rw [HBC.out, decide_eq_true K.out]
                      · have k2z : ¬ (en : Int) < (b : Int) := by omega
                        have K : Hid (¬ (mid < en ∧ en < b)) := fun h => k2 h.2
                        go_wp2
                        go_meet
                        case rel =>
                          refine ⟨?_, HW2⟩
                          rw [HBC.out, decide_eq_false K.out]
                    · have k1z : ¬ (mid : Int) < (en : Int) := by omega
                      have K : Hid (¬ (mid < en ∧ en < b)) := fun h => k1 h.1
                      go_wp2
                      go_meet
                      case rel =>
                        refine ⟨?_, HW2⟩
                        rw [HBC.out, decide_eq_false K.out]
                case rest =>
                  clear HW2
                  obtain ⟨rfl, HW2⟩ := hcut
                  cases bC
                  · go_wp2
                    go_end0
                    refine ⟨rfl, q2, os2, ?_⟩
                    have e : T = d2 := by rw [HT.out, if_neg (of_decide_eq_false HBC.out.symm)]
                    rw [e]; exact HW2.out
                  · have hc := of_decide_eq_true HBC.out.symm
                    have K := IH.out mid en b d2 wc (by omega) (by rw [HW2.out]; exact holdsK_sortWorldK_c encD 4 w blk 0 d d2 _ _ HH.out hblk HZ2.out) (by rw [HW2.out]; exact sortWorld_lt w blk q2 d2 os2 hblk) hc.1 hc.2 (by rw [HZ2.out]; omega) (by rw [HZ2.out]; omega)
                    rw [HZ2.out] at K
                    replace K := Lib.hid K
                    clear hc
                    go_wp2_with (go_at_call 45; refine K.out.mono ?_; rintro e w' ⟨rfl, q', os', hw'⟩; have HW' := Lib.hid hw'; clear hw')
                    go_end0
                    refine ⟨rfl, q2 + q', os2 ++ os', ?_⟩
                    rw [HW'.out, HW2.out, sortWorld_on w blk q2 q' d2 _ os2 os' hblk (size_symM _ _ _ _ _ _), HT.out, if_pos (of_decide_eq_true HBC.out.symm)]

theorem sym_does : SymDoes := by
  intro blk cap a m b d w
  generalize hN : b - a = N
  induction N using Nat.strongRecOn generalizing a m b d w with
  | _ N ih =>
    subst hN
    intro hH hblk ham hmb hb hsz
    by_cases h1 : m - a = 1
    · have e : Stab.symM (ltOf cfD) (b - a) d a m b = Stab.slideUp d a (Stab.bsr (b - m) (fun h => ltOf cfD d[h]! d[a]!) m b - 1 - a) := by
        obtain ⟨f, hf⟩ : ∃ f, b - a = f + 1 := ⟨b - a - 1, by omega⟩
        rw [hf, Stab.symM, if_pos h1]
      rw [e]
      exact sym_one_up blk cap a m b d w hH hblk (by omega) hmb hb hsz
    · by_cases h2 : b - m = 1
      · have e : Stab.symM (ltOf cfD) (b - a) d a m b = Stab.slideDown d m (m - Stab.bsr (m - a) (fun h => !ltOf cfD d[m]! d[h]!) a m) := by
          obtain ⟨f, hf⟩ : ∃ f, b - a = f + 1 := ⟨b - a - 1, by omega⟩
          rw [hf, Stab.symM, if_neg h1, if_pos h2]
        rw [e]
        exact sym_one_down blk cap a m b d w hH hblk (by omega) (by omega) hb hsz
      · exact sym_both blk cap a m b d w hH hblk (by omega) (by omega) hb hsz (fun a' m' b' d' w' hlt hH' hblk' ham' hmb' hb' hsz' => ih (b' - a') hlt a' m' b' d' w' rfl hH' hblk' ham' hmb' hb' hsz')
end Go.Proofs.YtledkbgjjmdflaaDoor.Obs
