/- The reference's Text: its contract. -/
import Derived.Test.YtledkbgjjmdflaaDoorText2
import Derived.Test.YtledkbgjjmdflaaDoorRefNum
namespace Go.Proofs.YtledkbgjjmdflaaDoor.Obs
open Go Go.RowKit Go.Proofs Go.Shelf Go.Sort

theorem bytes_app (a b : List UInt8) : (⟨a.toArray⟩ : ByteArray) ++ ⟨b.toArray⟩ = ⟨(a ++ b).toArray⟩ := ByteArray.ext (by simp)
theorem bytes_size (l : List UInt8) : (⟨l.toArray⟩ : ByteArray).size = l.length := by simp [ByteArray.size]

set_option maxHeartbeats 2000000 in
set_option maxRecDepth 100000 in
theorem refText_any (A : Option Addr) (n c : Nat) (xs : List Int) (e cd : Int) (w : World) (hr : ReadsI w A n xs) (hx : ∀ v ∈ xs, I64 v) (hcd : I64 cd) (hei : I64 e) (hn : n ≤ 300) :
    Calls Tryd.prog 10 #[.agg #[.slice A n c, .int .i64 e, .int .i64 cd]] w (RetB (.string ⟨(textOf xs e cd).toArray⟩) w) := by
  have HX := Lib.hid hr.1
  obtain ⟨wa, hwa⟩ : ∃ wa, wa = w.alloc (Obj.cells #[Value.slice A n c, Value.int IntKind.i64 e, Value.int IntKind.i64 cd] 34) := ⟨_, rfl⟩
  have hba : Below w.heap.size w wa := by rw [hwa]; exact (Below.refl _ _).alloc (Nat.le_refl _) _
  have hf0 : wa.cell? ⟨w.heap.size, 0, none⟩ = some (.slice A n c) := by rw [hwa, Lib.cell_of_heap (heap_alloc_new w _)]; rfl
  have hf1 : wa.cell? ⟨w.heap.size, 1, none⟩ = some (.int .i64 e) := by rw [hwa, Lib.cell_of_heap (heap_alloc_new w _)]; rfl
  have hf2 : wa.cell? ⟨w.heap.size, 2, none⟩ = some (.int .i64 cd) := by rw [hwa, Lib.cell_of_heap (heap_alloc_new w _)]; rfl
  have HWA := Lib.hid hwa
  obtain ⟨R, hR⟩ : ∃ R : ByteArray, R = ⟨(textOf xs e cd).toArray⟩ := ⟨_, rfl⟩
  rw [← hR]
  have HR := Lib.hid hR
  clear hwa hR
  go_enter Tryd.func10, Tryd.ntmps10
  go_wp2
  rw [← HWA.out]
  go_loopg [3, 4] n (fun g1 vs vi wr => ∃ k : Nat, k ≤ n ∧ vi = .int .i64 k ∧ n - k ≤ g1 ∧ vs = .string ⟨(outText (xs.take k)).toArray⟩ ∧ Below wa.heap.size wa wr)
  case atStart => exact ⟨0, Nat.zero_le _, by go_num, by omega, rfl, Below.refl _ _⟩
  case round =>
    obtain ⟨k, hk, rfl, hg1, rfl, hbw⟩ := hrel
    have hbw0 : Below w.heap.size w wr := hba.trans (hbw.mono hba.size)
    have g0 := cellB hbw hf0
    have g1' := cellB hbw hf1
    have g2 := cellB hbw hf2
    have htk : (xs.take k).length = k := by rw [List.length_take]; have := HX.out; omega
    have hol := outText_length (xs.take k) (fun v hv => hx v (List.mem_of_mem_take hv))
    rw [htk] at hol
    obtain ⟨s, hs⟩ : ∃ s : ByteArray, s = ⟨(outText (xs.take k)).toArray⟩ := ⟨_, rfl⟩
    have hss : s.size ≤ 6600 := by rw [hs, bytes_size]; omega
    rw [← hs]
    have HSS := Lib.hid hs
    have HBW := Lib.hid hbw
    have HB0 := Lib.hid hbw0
    clear hs htk hol
    by_cases hlt : k < n
    · have hltz : (k : Int) < (n : Int) := by omega
      have k0 : (0 : Int) ≤ (k : Int) := Int.natCast_nonneg _
      have hxk : xs.getD k 0 ∈ xs := by
        have hl : k < xs.length := by have := HX.out; omega
        rw [List.getD_eq_getElem?_getD, List.getElem?_eq_getElem hl]; exact List.getElem_mem hl
      obtain ⟨ad, rfl, hc⟩ := (hr.below (Nat.le_refl _) hbw0).2 (by omega)
      have hck := hc k hlt
      clear hc
      obtain ⟨v, hv⟩ : ∃ v, v = xs.getD k 0 := ⟨_, rfl⟩
      rw [← hv] at hck hxk
      have HV := Lib.hid hv
      have hvi := hx v hxk
      have hil := Lib.itoa_length_le v hvi.1 hvi.2
      obtain ⟨nm, hnm⟩ : ∃ s : ByteArray, s = ⟨(Lib.itoa v).toArray⟩ := ⟨_, rfl⟩
      have hnms : nm.size ≤ 21 := by rw [hnm, bytes_size]; exact hil
      have K := number_any v hvi wr
      rw [← hnm] at K
      have HK := Lib.hid K
      have HNM := Lib.hid hnm
      clear hv K hnm hvi hil hxk hbw hbw0
      go_wp2_with fail
      refine HK.out.mono ?_
      rintro en w2 ⟨rfl, hb2⟩
      go_wp2
      go_roundg (n - (k + 1))
      case measure => omega
      case rel =>
        refine ⟨k + 1, by omega, by go_num, Nat.le_refl _, ?_, HBW.out.trans (hb2.mono HBW.out.size)⟩
        have hs : xs.take (k + 1) = xs.take k ++ [v] := by
          have hl : k < xs.length := by have := HX.out; omega
          rw [List.take_add_one, List.getElem?_eq_getElem hl, HV.out, List.getD_eq_getElem?_getD, List.getElem?_eq_getElem hl]; rfl
        rw [hs, outText_snoc, HSS.out, HNM.out]
        exact congrArg Value.string (ByteArray.ext (by simp))
    · have hltz : ¬ (k : Int) < (n : Int) := by omega
      have hke : xs.take k = xs := List.take_of_length_le (by have := HX.out; omega)
      have HSX : Hid (s = ⟨(outText xs).toArray⟩) := by show _ = _; rw [HSS.out, hke]
      have hil := Lib.itoa_length_le cd hcd.1 hcd.2
      have hil2 := Lib.itoa_length_le e hei.1 hei.2
      obtain ⟨se, hse⟩ : ∃ s : ByteArray, s = ⟨(Lib.itoa e).toArray⟩ := ⟨_, rfl⟩
      obtain ⟨sc, hsc⟩ : ∃ s : ByteArray, s = ⟨(Lib.itoa cd).toArray⟩ := ⟨_, rfl⟩
      have hses : se.size ≤ 21 := by rw [hse, bytes_size]; exact hil2
      have hscs : sc.size ≤ 21 := by rw [hsc, bytes_size]; exact hil
      have C0 : Hid (Calls Tryd.prog 25 #[.int .i64 cd] wr (RetB (.string sc) wr)) := by show Calls _ _ _ _ _; rw [hsc]; exact number_any cd hcd wr
      have C1 : Hid (∀ dq os, Calls Tryd.prog 25 #[.int .i64 e] (grow (redrawn wr dq) os) fun en w'' => en = .returned (.string se) ∧ ∃ p : Regrown, w'' = grow (redrawn wr p.d) p.os) := fun dq os =>
        Calls.regrown_of (by rw [hse]; exact number_any e hei _)
      have C2 : Hid (∀ dq os, Calls Tryd.prog 25 #[.int .i64 cd] (grow (redrawn wr dq) os) fun en w'' => en = .returned (.string sc) ∧ ∃ p : Regrown, w'' = grow (redrawn wr p.d) p.os) := fun dq os =>
        Calls.regrown_of (by rw [hsc]; exact number_any cd hcd _)
      have HSE := Lib.hid hse
      have HSC := Lib.hid hsc
      clear hse hsc hke hil hil2 hcd hei hbw hbw0 hx hr hf0 hf1 hf2
      by_cases q1 : e = 1
      · have b1 : (e == 1) = true := by simpa using q1
        have HF : Hid (s ++ { data := #[100, 111, 110, 101] } = R) := by
          show _ = _
          rw [HR.out, HSX.out, textOf, tailOf, if_pos q1]
          exact bytes_app _ _
        clear q1
        go_wp2
        go_ret
        exact ⟨ret_s HF.out, HB0.out⟩
      · have b1 : (e == 1) = false := by simpa using q1
        by_cases q2 : e = 2
        · have b2 : (e == 2) = true := by simpa using q2
          have HF : Hid (s ++ { data := #[116, 114, 97, 112, 32] } ++ sc = R) := by
            show _ = _
            rw [HR.out, HSX.out, HSC.out, textOf, tailOf, if_neg q1, if_pos q2, ← List.append_assoc, ← bytes_app, ← bytes_app]
            rfl
          clear q1 q2
          go_wp2_with fail
          refine C0.out.mono ?_
          rintro en w2 ⟨rfl, hb2⟩
          go_wp2
          go_ret
          exact ⟨ret_s HF.out, HB0.out.trans (hb2.mono HB0.out.size)⟩
        · have b2 : (e == 2) = false := by simpa using q2
          by_cases q3 : e = 3
          · have b3 : (e == 3) = true := by simpa using q3
            have HF : Hid (s ++ { data := #[117, 110, 100, 101, 102, 105, 110, 101, 100, 32] } ++ sc = R) := by
              show _ = _
              rw [HR.out, HSX.out, HSC.out, textOf, tailOf, if_neg q1, if_neg q2, if_pos q3, ← List.append_assoc, ← bytes_app, ← bytes_app]
              rfl
            clear q1 q2 q3
            go_wp2_with fail
            refine C0.out.mono ?_
            rintro en w2 ⟨rfl, hb2⟩
            go_wp2
            go_ret
            exact ⟨ret_s HF.out, HB0.out.trans (hb2.mono HB0.out.size)⟩
          · have b3 : (e == 3) = false := by simpa using q3
            by_cases q4 : e = 4
            · have b4 : (e == 4) = true := by simpa using q4
              have HF : Hid (s ++ { data := #[99, 117, 116] } = R) := by
                show _ = _
                rw [HR.out, HSX.out, textOf, tailOf, if_neg q1, if_neg q2, if_neg q3, if_pos q4]
                exact bytes_app _ _
              clear q1 q2 q3 q4
              go_wp2
              go_ret
              exact ⟨ret_s HF.out, HB0.out⟩
            · have b4 : (e == 4) = false := by simpa using q4
              have HF : Hid (s ++ { data := #[101, 110, 100, 32] } ++ se ++ { data := #[32] } ++ sc = R) := by
                show _ = _
                rw [HR.out, HSX.out, HSC.out, HSE.out, textOf, tailOf, if_neg q1, if_neg q2, if_neg q3, if_neg q4]
                exact ByteArray.ext (by simp [endT])
              have k1 : ∀ d os, (grow (redrawn wr d) os).cell? ⟨w.heap.size, 1, none⟩ = some (.int .i64 e) := fun d os => cell_regrown g1' d os
              have k2 : ∀ d os, (grow (redrawn wr d) os).cell? ⟨w.heap.size, 2, none⟩ = some (.int .i64 cd) := fun d os => cell_regrown g2 d os
              have k4 : ¬ 9223372036854775807 < s.size + 4 := by omega
              have k5 : ¬ 9223372036854775807 < s.size + 4 + se.size := by omega
              have k6 : ¬ 9223372036854775807 < s.size + 4 + se.size + 1 := by omega
              have k7 : ¬ 9223372036854775807 < s.size + 4 + se.size + 1 + sc.size := by omega
              clear q1 q2 q3 q4
              go_wp2_with fail
              refine wp_region_quiet_below (by kernel_rfl) (by kernel_rfl) ?_
              quiet_step (fail)
              quiet_step (fail)
              quiet_step (fail)
              quiet_step (fail)
              quiet_step (exact C1.out _ _)
              quiet_step (fail)
              quiet_step (fail)
              quiet_step (fail)
              quiet_step (fail)
              quiet_step (exact C2.out _ _)
              quiet_step (fail)
              quiet_step (fail)
              refine wpQuiet_nil ?_
              intro _ hw'
              obtain ⟨⟨dq, osq⟩, hw''⟩ := hw'
              subst hw''
              go_wp2
              go_ret
              exact ⟨ret_s HF.out, HB0.out.trans ((below_regrown wr dq osq).mono HB0.out.size)⟩
end Go.Proofs.YtledkbgjjmdflaaDoor.Obs
