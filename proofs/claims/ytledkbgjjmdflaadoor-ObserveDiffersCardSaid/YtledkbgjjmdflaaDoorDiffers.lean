/- ObserveDiffers: its contract: it returns true. -/
import Derived.Test.YtledkbgjjmdflaaDoorAwake
import Derived.Test.YtledkbgjjmdflaaDoorFew
import Derived.Test.YtledkbgjjmdflaaDoorRefText
import Derived.Lib.QuietBelow
namespace Go.Proofs.YtledkbgjjmdflaaDoor.Obs
open Go Go.RowKit Go.Proofs Go.Shelf Go.Sort

def dif0 : Dif := (0, 0, 0, 0)
/-- A slice of differences, read. -/
def SL (w : World) (A : Option Addr) (ds : List Dif) : Prop :=
  0 < ds.length → ∃ g, A = some ⟨g, 0, none⟩ ∧ ∀ j, j < ds.length → ∀ q u, (encD (ds.getD j dif0))[q]? = some u → w.cell? ⟨g, j * 4 + q, none⟩ = some u
theorem SL.below {w w' : World} {A : Option Addr} {ds : List Dif} (h : SL w A ds) (hb : Below w.heap.size w w') : SL w' A ds := fun h0 => by
  obtain ⟨g, e, hc⟩ := h h0
  exact ⟨g, e, fun j hj q u hq => cellB hb (hc j hj q u hq)⟩
theorem SL.of_holds {w : World} {g : Nat} {ds : List Dif} (h : HoldsK encD 4 w g 0 ds.toArray) : SL w (some ⟨g, 0, none⟩) ds := fun _ => ⟨g, rfl, fun j hj q u hq => by
  have hc := HoldsK.cells h (fun _ => rfl) (i := j) (by simpa using hj) q u (by
    have e : ds.toArray[j]! = ds.getD j dif0 := by
      simp [getElem!_def, List.getD_eq_getElem?_getD, List.getElem?_eq_getElem hj]
    rw [e]; exact hq)
  rw [Addr.add_lit, Nat.zero_add] at hc
  exact hc⟩
/-- What both Differ return: the list and the error. -/
def dl (l : List Beh) : List Dif := if l.length ≤ 100 then refs l l.length l.length else []
def de (l : List Beh) : Int := if l.length ≤ 100 then 0 else 3
def DRes (l : List Beh) (w : World) (e : Ending) (w' : World) : Prop :=
  ∃ A cap, e = .returned (.tuple #[.slice A (dl l).length cap, .int .i64 (de l)]) ∧ Below w.heap.size w w' ∧ SL w' A (dl l)
theorem refs_len (l : List Beh) (h : l.length ≤ 100) : (refs l l.length l.length).length ≤ 10000 := by
  have h1 := refs_le l l.length l.length
  have h2 : l.length * l.length ≤ 100 * 100 := Nat.mul_le_mul h h
  omega
theorem dl_len (l : List Beh) : (dl l).length ≤ 10000 := by
  unfold dl
  split
  · rename_i h; exact refs_len l h
  · simp
theorem sorted_len (l : List Beh) (h : l.length ≤ 100) : (difs l l.length).length = (refs l l.length l.length).length := by
  have h1 := sorted_refs l l.length (by omega)
  have h2 := size_stableM (ltOf cfD) (difs l l.length).toArray
  rw [h1] at h2
  simpa using h2.symm
theorem differ_sl (A : Option Addr) (n c : Nat) (l : List Beh) (w : World) (hl : OutsR w A n l) (hc : n ≤ c) (hcm : c ≤ 140737488351232) : Calls Tryd.prog 7 #[.slice A n c] w (DRes l w) := by
  have hL := hl.1
  by_cases h : l.length ≤ 100
  · have hM : (difs l n).length ≤ 1000000 := by
      rw [← hL, sorted_len l h]
      have := refs_len l h
      omega
    refine (differ_any _ _ sorts_all (fun d => size_stableM _ d) A n c l w hl (by omega) hc hcm hM).mono ?_
    rintro e w' ⟨v, rfl, hb, hv⟩
    rcases hv with ⟨rfl, hz⟩ | ⟨g, cap, rfl, hg, hg2, hH⟩
    · have hr : dl l = [] := by
        unfold dl
        rw [if_pos h]
        have := sorted_len l h
        rw [hz] at this
        exact List.eq_nil_of_length_eq_zero this.symm
      exact ⟨none, 0, by rw [hr, de, if_pos h]; rfl, hb, by rw [hr]; exact fun h0 => absurd h0 (by simp)⟩
    · refine ⟨some ⟨g, 0, none⟩, cap, by rw [de, if_pos h, dl, if_pos h, sorted_len l h], hb, ?_⟩
      rw [dl, if_pos h]
      replace hH : HoldsK encD 4 w' g 0 (Stab.stableM (ltOf cfD) (difs l l.length).toArray) := hH
      rw [sorted_refs l l.length (by omega)] at hH
      exact SL.of_holds hH
  · refine (differ_long A n c w (by omega)).mono ?_
    rintro e w' ⟨rfl, q, rfl⟩
    exact ⟨none, 0, by rw [de, if_neg h, dl, if_neg h]; rfl, belowN (Below.refl _ _) q, by rw [dl, if_neg h]; exact fun h0 => absurd h0 (by simp)⟩
theorem refDif_sl (A : Option Addr) (n c : Nat) (l : List Beh) (w : World) (hl : OutsR w A n l) (hc : n ≤ c) (hcm : c ≤ 140737488351232) : Calls Tryd.prog 8 #[.slice A n c] w (DRes l w) := by
  have hL := hl.1
  by_cases h : l.length ≤ 100
  · refine (refDif_any A n c l w hl (by omega) hc hcm).mono ?_
    rintro e w' ⟨v, rfl, hb, hv⟩
    rcases hv with ⟨rfl, hz⟩ | ⟨g, cap, rfl, hg, hg2, hH⟩
    · have hr : dl l = [] := by unfold dl; rw [if_pos h]; exact hz
      exact ⟨none, 0, by rw [hr, de, if_pos h]; rfl, hb, by rw [hr]; exact fun h0 => absurd h0 (by simp)⟩
    · refine ⟨some ⟨g, 0, none⟩, cap, by rw [de, if_pos h, dl, if_pos h], hb, ?_⟩
      rw [dl, if_pos h]
      exact SL.of_holds hH
  · refine (refDif_long A n c w (by omega)).mono ?_
    rintro e w' ⟨rfl, q, rfl⟩
    exact ⟨none, 0, by rw [de, if_neg h, dl, if_neg h]; rfl, belowN (Below.refl _ _) q, by rw [dl, if_neg h]; exact fun h0 => absurd h0 (by simp)⟩

set_option maxHeartbeats 4000000 in
set_option maxRecDepth 100000 in
theorem differs_ok (A : Option Addr) (n c : Nat) (l : List Beh) (w : World) (hl : OutsR w A n l) (hc : n ≤ c) (hcm : c ≤ 140737488351232) (hI : ∀ x ∈ l, (∀ v ∈ x.1, I64 v) ∧ I64 x.2.1 ∧ I64 x.2.2) (hT : Tab w) :
    Calls Tryd.prog 3 #[.slice A n c] w (RetB (.bool true) w) := by
  have HL := Lib.hid hl.1
  have K6 : Hid (∀ W, Below w.heap.size w W → Calls Tryd.prog 6 #[] W (RetB (.bool true) W)) := fun W hb => awake_ok W (tab_on hT hb)
  have HO := Lib.hid hl
  have HT := Lib.hid hT
  have HI := Lib.hid hI
  have HC := Lib.hid (And.intro hc hcm)
  have hnb : n ≤ 140737488351232 := by omega
  have HK5 := Lib.hid (small_any A n c l w hl hnb)
  clear hl hT hI hc hcm
  go_enter Tryd.func3, Tryd.ntmps3
  go_wp2_with fail
  refine HK5.out.mono ?_
  rintro e w1 ⟨b, rfl, hb1, hsm⟩
  have HB1 := Lib.hid hb1
  cases b
  · clear hb1 hsm
    go_wp2_with (go_at_call 6; refine (K6.out _ HB1.out).mono ?_; rintro e w2 ⟨rfl, hb⟩; have HB := Lib.hid hb; clear hb)
    go_ret
    exact ⟨rfl, HB1.out.trans (HB.out.mono HB1.out.size)⟩
  · have HSM := Lib.hid (hsm rfl)
    have HK7 := Lib.hid (differ_sl A n c l w1 (HO.out.below (Nat.le_refl _) hb1) HC.out.1 HC.out.2)
    clear hsm hb1
    go_wp2_with fail
    refine HK7.out.mono ?_
    rintro e w2 ⟨A3, cap3, rfl, hb2', hs3⟩
    have hb2 : Below w.heap.size w w2 := HB1.out.trans (hb2'.mono HB1.out.size)
    have HB2 := Lib.hid hb2
    have HK8 := Lib.hid (refDif_sl A n c l w2 (HO.out.below (Nat.le_refl _) hb2) HC.out.1 HC.out.2)
    have HS3' := Lib.hid hs3
    clear hb2 hb2' hs3
    go_wp2_with fail
    refine HK8.out.mono ?_
    rintro e w3 ⟨A5, cap5, rfl, hb3', hs5⟩
    have hb3 : Below w.heap.size w w3 := HB2.out.trans (hb3'.mono HB2.out.size)
    have HB3 := Lib.hid hb3
    have HS3 := Lib.hid (HS3'.out.below hb3')
    have HS5 := Lib.hid hs5
    have hml := dl_len l
    obtain ⟨ds, hds⟩ : ∃ ds, ds = dl l := ⟨_, rfl⟩
    obtain ⟨m, hm⟩ : ∃ m, m = ds.length := ⟨_, rfl⟩
    obtain ⟨er, her⟩ : ∃ er, er = de l := ⟨_, rfl⟩
    rw [← hds] at HS3 HS5 hml
    rw [← hds, ← her, ← hm]
    rw [← hm] at hml
    have HM := Lib.hid hm
    have hmm : ((m : Int) != (m : Int)) = false := by simp
    have hee : (er != er) = false := by simp
    clear hds hm her hs5 hb3 hb3'
    go_wp2_with fail
    go_loopg [7] m (fun g1 vi wr => ∃ i q : Nat, i ≤ m ∧ vi = .int .i64 i ∧ m - i ≤ g1 ∧ wr = w3.drewN q)
    case atStart => exact ⟨0, 0, Nat.zero_le _, by go_num, by omega, rfl⟩
    case round =>
      obtain ⟨i, q, hi, rfl, hg1, rfl⟩ := hrel
      by_cases hlt : i < m
      · have hltz : (i : Int) < (m : Int) := by omega
        have i0 : (0 : Int) ≤ (i : Int) := Int.natCast_nonneg _
        obtain ⟨g3, rfl, c3⟩ := HS3.out (by have := HM.out; omega)
        obtain ⟨g5, rfl, c5⟩ := HS5.out (by have := HM.out; omega)
        obtain ⟨x, hx⟩ : ∃ x, x = ds.getD i dif0 := ⟨_, rfl⟩
        have k3 := c3 i (by have := HM.out; omega)
        have k5 := c5 i (by have := HM.out; omega)
        rw [← hx] at k3 k5
        have p0 : w3.cell? ⟨g3, i * 4, none⟩ = some (.int .i64 x.1) := k3 0 _ rfl
        have p1 : w3.cell? ⟨g3, i * 4 + 1, none⟩ = some (.int .i64 x.2.1) := k3 1 _ rfl
        have p2 : w3.cell? ⟨g3, i * 4 + 2, none⟩ = some (.int .i64 x.2.2.1) := k3 2 _ rfl
        have p3 : w3.cell? ⟨g3, i * 4 + 3, none⟩ = some (.int .i64 x.2.2.2) := k3 3 _ rfl
        have q0 : w3.cell? ⟨g5, i * 4, none⟩ = some (.int .i64 x.1) := k5 0 _ rfl
        have q1 : w3.cell? ⟨g5, i * 4 + 1, none⟩ = some (.int .i64 x.2.1) := k5 1 _ rfl
        have q2 : w3.cell? ⟨g5, i * 4 + 2, none⟩ = some (.int .i64 x.2.2.1) := k5 2 _ rfl
        have q3 : w3.cell? ⟨g5, i * 4 + 3, none⟩ = some (.int .i64 x.2.2.2) := k5 3 _ rfl
        clear c3 c5 k3 k5 hx
        go_wp2_with fail
        go_quiet (fail)
        go_wp2
        go_roundg (m - (i + 1))
        case measure => omega
        case rel => exact ⟨i + 1, q + nq, by omega, by go_num, Nat.le_refl _, by rw [← World.drewN_drewN]⟩
      · have hltz : ¬ (i : Int) < (m : Int) := by omega
        have hb4 : Below w.heap.size w (w3.drewN q) := belowN HB3.out q
        have HB4 := Lib.hid hb4
        clear hb4
        go_wp2_with fail
        go_loopg [8] n (fun g2 vk wr => ∃ k : Nat, k ≤ n ∧ vk = .int .i64 k ∧ n - k ≤ g2 ∧ Below w.heap.size w wr)
        case atStart => exact ⟨0, Nat.zero_le _, by go_num, by omega, HB4.out⟩
        case round =>
          obtain ⟨k, hk, rfl, hg2, hbr⟩ := hrel
          have HBR := Lib.hid hbr
          by_cases hlt2 : k < n
          · have hltz2 : (k : Int) < (n : Int) := by omega
            have k0' : (0 : Int) ≤ (k : Int) := Int.natCast_nonneg _
            obtain ⟨b, off, rfl, hcs⟩ := HO.out.2 (by omega)
            obtain ⟨sx, Ax, cx, x0, x1, lx, lx2, rx, x2, x3⟩ := hcs k hlt2
            obtain ⟨X, hX⟩ : ∃ X, X = l.getD k beh0 := ⟨_, rfl⟩
            rw [← hX] at x1 x2 x3 lx rx
            have hXl : X ∈ l := by
              have hl2 : k < l.length := by have := HL.out; omega
              rw [hX, List.getD_eq_getElem?_getD, List.getElem?_eq_getElem hl2]; exact List.getElem_mem hl2
            have hX300 : X.1.length ≤ 300 := by
              rw [hX]
              have := sumL_mem l l.length k (by have := HL.out; omega) (Nat.le_refl _)
              have := HSM.out.2
              omega
            obtain ⟨hxi, hei, hci⟩ := HI.out X hXl
            have hwg : ∀ dq os, Below w.heap.size w (grow (redrawn wr dq) os) := fun dq os => hbr.trans ((below_regrown wr dq os).mono hbr.size)
            have k1 : ∀ d os, (grow (redrawn wr d) os).cell? ⟨b, off + k * 4 + 1, none⟩ = some (.slice Ax X.1.length cx) := fun d os => cell_regrown (cellB hbr x1) d os
            have k2 : ∀ d os, (grow (redrawn wr d) os).cell? ⟨b, off + k * 4 + 2, none⟩ = some (.int .i64 X.2.1) := fun d os => cell_regrown (cellB hbr x2) d os
            have k3 : ∀ d os, (grow (redrawn wr d) os).cell? ⟨b, off + k * 4 + 3, none⟩ = some (.int .i64 X.2.2) := fun d os => cell_regrown (cellB hbr x3) d os
            obtain ⟨tx, htx⟩ : ∃ t : ByteArray, t = ⟨(textOf X.1 X.2.1 X.2.2).toArray⟩ := ⟨_, rfl⟩
            have C9 : Hid (∀ dq os, Calls Tryd.prog 9 #[.agg #[.slice Ax X.1.length cx, .int .i64 X.2.1, .int .i64 X.2.2]] (grow (redrawn wr dq) os) fun e w'' => e = .returned (.string tx) ∧ ∃ p : Regrown, w'' = grow (redrawn wr p.d) p.os) := fun dq os =>
              Calls.regrown_of (by rw [htx]; exact text_any Ax _ cx X.1 X.2.1 X.2.2 _ (rx.below (Nat.le_refl _) (hwg dq os)) hxi hci hei hX300 (tab_on HT.out (hwg dq os)))
            have C10 : Hid (∀ dq os, Calls Tryd.prog 10 #[.agg #[.slice Ax X.1.length cx, .int .i64 X.2.1, .int .i64 X.2.2]] (grow (redrawn wr dq) os) fun e w'' => e = .returned (.string tx) ∧ ∃ p : Regrown, w'' = grow (redrawn wr p.d) p.os) := fun dq os =>
              Calls.regrown_of (by rw [htx]; exact refText_any Ax _ cx X.1 X.2.1 X.2.2 _ (rx.below (Nat.le_refl _) (hwg dq os)) hxi hci hei hX300)
            have htt : (tx.toList != tx.toList) = false := by simp
            clear hcs x0 x1 x2 x3 lx lx2 rx hX hXl hX300 hxi hei hci hwg htx hbr
            go_wp2_with fail
            refine wp_region_quiet_below (by kernel_rfl) (by kernel_rfl) ?_
            quiet_step (fail)
            quiet_step (fail)
            quiet_step (fail)
            quiet_step (fail)
            quiet_step (fail)
            quiet_step (exact C9.out _ _)
            quiet_step (fail)
            quiet_step (fail)
            quiet_step (fail)
            quiet_step (fail)
            quiet_step (fail)
            quiet_step (exact C10.out _ _)
            quiet_step (fail)
            refine wpQuiet_nil ?_
            intro _ hw'
            obtain ⟨⟨dq, osq⟩, hw''⟩ := hw'
            subst hw''
            go_wp2
            go_roundg (n - (k + 1))
            case measure => omega
            case rel => exact ⟨k + 1, by omega, by go_num, Nat.le_refl _, HBR.out.trans ((below_regrown wr dq osq).mono HBR.out.size)⟩
          · have hltz2 : ¬ (k : Int) < (n : Int) := by omega
            clear hbr
            go_wp2_with (go_at_call 6; refine (K6.out _ HBR.out).mono ?_; rintro e w4 ⟨rfl, hb⟩; have HB := Lib.hid hb; clear hb)
            go_ret
            exact ⟨rfl, HBR.out.trans (HB.out.mono HBR.out.size)⟩
end Go.Proofs.YtledkbgjjmdflaaDoor.Obs
