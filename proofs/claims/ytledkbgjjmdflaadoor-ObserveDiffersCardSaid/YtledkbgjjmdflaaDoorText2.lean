/- observe.Text and the reference's Text: at every end. -/
import Derived.Test.YtledkbgjjmdflaaDoorText
import Derived.Test.YtledkbgjjmdflaaDoorQTail
import Derived.Test.YtledkbgjjmdflaaDoorRefNum
namespace Go.Proofs.YtledkbgjjmdflaaDoor.Obs
open Go Go.RowKit Go.Proofs Go.Shelf Go.Sort

set_option maxHeartbeats 2000000 in
set_option maxRecDepth 100000 in
theorem text_odd (A : Option Addr) (n c : Nat) (xs : List Int) (e cd : Int) (w : World) (hr : ReadsI w A n xs) (hx : ∀ v ∈ xs, I64 v) (hcd : I64 cd) (hn : n ≤ 300) (hei : I64 e) (hu : e ≠ 1 ∧ e ≠ 2 ∧ e ≠ 3 ∧ e ≠ 4) (hT : Tab w) :
    Calls Tryd.prog 9 #[.agg #[.slice A n c, .int .i64 e, .int .i64 cd]] w fun en w' => en = .returned (.string ⟨(textOf xs e cd).toArray⟩) ∧ Below w.heap.size w w' := by
  have hxl := hr.1
  have HX := Lib.hid hxl
  clear hxl
  have HB0 : Lib.IsBuilderF 55 5 (w.heap.size + 1) (w.heap.size + 1) (Lib.byteCells []) ((w.alloc (Obj.cells #[Value.slice A n c, Value.int IntKind.i64 e, Value.int IntKind.i64 cd] 34)).alloc (Obj.cells #[Value.pointer none, Value.slice none 0 0] 55)) := by
    have := Lib.IsBuilderF.of (Lib.fresh_isBuilder 55 5 (w.alloc (Obj.cells #[Value.slice A n c, Value.int IntKind.i64 e, Value.int IntKind.i64 cd] 34)))
    rw [World.size_alloc] at this
    exact this
  obtain ⟨wa, hwa⟩ : ∃ wa, wa = w.alloc (Obj.cells #[Value.slice A n c, Value.int IntKind.i64 e, Value.int IntKind.i64 cd] 34) := ⟨_, rfl⟩
  have hba : Below w.heap.size w wa := by rw [hwa]; exact (Below.refl _ _).alloc (Nat.le_refl _) _
  have hsa : wa.heap.size = w.heap.size + 1 := by rw [hwa]; simp
  have hf1 : wa.cell? ⟨w.heap.size, 1, none⟩ = some (.int .i64 e) := by rw [hwa, Lib.cell_of_heap (heap_alloc_new w _)]; rfl
  have hf2 : wa.cell? ⟨w.heap.size, 2, none⟩ = some (.int .i64 cd) := by rw [hwa, Lib.cell_of_heap (heap_alloc_new w _)]; rfl
  rw [← hwa] at HB0
  have HWA := Lib.hid hwa
  have HSA := Lib.hid hsa
  clear hwa hsa
  go_enter Tryd.func9, Tryd.ntmps9
  go_wp2
  rw [← HWA.out]
  go_loopw [11] (fun i wr => ∃ k : Nat, k ≤ n ∧ i = .int .i64 k ∧ Lib.IsBuilderF 55 5 (w.heap.size + 1) (w.heap.size + 1) (Lib.byteCells (outText (xs.take k))) wr ∧ Below (w.heap.size + 1) wa wr) (fun i _ => n - (intOf i).toNat)
  case atStart =>
    refine ⟨0, Nat.zero_le _, rfl, HB0, (Below.refl _ _).alloc ?_ _⟩
    rw [HSA.out]; exact Nat.le_refl _
  case round =>
    obtain ⟨k, hk, rfl, hB, hbw⟩ := hrel
    have hbw0 : Below w.heap.size w wr := hba.trans (hbw.mono (Nat.le_succ _))
    have hsr : w.heap.size + 1 ≤ wr.heap.size := by have := hbw.size; have := HSA.out; omega
    have htk : (xs.take k).length = k := by rw [List.length_take]; have := HX.out; omega
    have hol := outText_length (xs.take k) (fun v hv => hx v (List.mem_of_mem_take hv))
    have HTK := Lib.hid htk
    rw [htk] at hol
    clear htk
    by_cases hlt : k < n
    · have hxk : xs.getD k 0 ∈ xs := by
        have hl : k < xs.length := by have := HX.out; omega
        rw [List.getD_eq_getElem?_getD, List.getElem?_eq_getElem hl]; exact List.getElem_mem hl
      obtain ⟨ad, rfl, hc⟩ := (hr.below (Nat.le_refl _) hbw0).2 (by omega)
      have hck := hc k hlt
      clear hc
      obtain ⟨v, hv⟩ : ∃ v, v = xs.getD k 0 := ⟨_, rfl⟩
      rw [← hv] at hck hxk
      have HV := Lib.hid hv
      clear hv
      go_wp2_with (go_at_call 21; refine (write_any (w.heap.size + 1) (w.heap.size + 1) _ v wr (hx v hxk) (tab_on hT hbw0) hB (by omega) hsr).mono ?_; rintro en w2 ⟨rfl, h2, hb2⟩)
      go_roundw
      case rel =>
        refine ⟨k + 1, by omega, by go_num, ?_, hbw.trans hb2⟩
        have hs : xs.take (k + 1) = xs.take k ++ [v] := by
          have hl : k < xs.length := by have := HX.out; omega
          rw [List.take_add_one, List.getElem?_eq_getElem hl, HV.out, List.getD_eq_getElem?_getD, List.getElem?_eq_getElem hl]; rfl
        rw [hs, outText_snoc]
        exact h2
      case measure => simp [intOf]; omega
    · have hke : xs.take k = xs := List.take_of_length_le (by have := HX.out; omega)
      rw [hke] at hB
      clear hke
      have g1 : wr.cell? ⟨w.heap.size, 1, none⟩ = some (.int .i64 e) := (hbw.cell (p := ⟨w.heap.size, 1, none⟩) (Nat.lt_succ_self _)).trans hf1
      have g2 : wr.cell? ⟨w.heap.size, 2, none⟩ = some (.int .i64 cd) := (hbw.cell (p := ⟨w.heap.size, 2, none⟩) (Nat.lt_succ_self _)).trans hf2
      have hTr := tab_on hT hbw0
      have hos : (outText xs).length ≤ 6600 := by
        have h1 := outText_length xs hx
        have := HX.out
        omega
      have hil := Lib.itoa_length_le cd hcd.1 hcd.2
      have hbl : (Lib.byteCells (outText xs)).length ≤ 6600 := by rw [Lib.byteCells_length]; exact hos
      have e1 : (e == 1) = false := by simpa using hu.1
      have e2 : (e == 2) = false := by simpa using hu.2.1
      have e3 : (e == 3) = false := by simpa using hu.2.2.1
      have e4 : (e == 4) = false := by simpa using hu.2.2.2
      have hil2 := Lib.itoa_length_le e hei.1 hei.2
      obtain ⟨se, hse⟩ : ∃ s : ByteArray, s = ⟨(Lib.itoa e).toArray⟩ := ⟨_, rfl⟩
      obtain ⟨sc, hsc⟩ : ∃ s : ByteArray, s = ⟨(Lib.itoa cd).toArray⟩ := ⟨_, rfl⟩
      have C1 : Hid (∀ dq os, Calls Tryd.prog 23 #[.int .i64 e] (grow (redrawn wr dq) os) fun en w'' => en = .returned (.string se) ∧ ∃ p : Regrown, w'' = grow (redrawn wr p.d) p.os) := fun dq os =>
        Calls.regrown_of (by rw [hse]; exact itoa_any e _ hei (tab_on hTr (below_regrown wr dq os)))
      have C2 : Hid (∀ dq os, Calls Tryd.prog 23 #[.int .i64 cd] (grow (redrawn wr dq) os) fun en w'' => en = .returned (.string sc) ∧ ∃ p : Regrown, w'' = grow (redrawn wr p.d) p.os) := fun dq os =>
        Calls.regrown_of (by rw [hsc]; exact itoa_any cd _ hcd (tab_on hTr (below_regrown wr dq os)))
      have k1 : ∀ d os, (grow (redrawn wr d) os).cell? ⟨w.heap.size, 1, none⟩ = some (.int .i64 e) := fun d os => cell_regrown g1 d os
      have k2 : ∀ d os, (grow (redrawn wr d) os).cell? ⟨w.heap.size, 2, none⟩ = some (.int .i64 cd) := fun d os => cell_regrown g2 d os
      have hses : se.size ≤ 21 := by rw [hse]; simpa [ByteArray.size] using hil2
      have hscs : sc.size ≤ 21 := by rw [hsc]; simpa [ByteArray.size] using hil
      have k5 : ¬ 9223372036854775807 < 4 + se.size := by omega
      have k6 : ¬ 9223372036854775807 < 4 + se.size + 1 := by omega
      have k7 : ¬ 9223372036854775807 < 4 + se.size + 1 + sc.size := by omega
      have HSE := Lib.hid hse
      have HSC := Lib.hid hsc
      have HUU := Lib.hid hu
      have HBB := Lib.hid hB
      have HBW := Lib.hid hbw0
      have HTR := Lib.hid hTr
      clear hse hsc hu hei hcd hil hil2 hos hTr hB hbw0 hT hx hr
      go_wp2_with fail
      refine QTail.region_below_tail 10 (by kernel_rfl) (by kernel_rfl) ?_
      simp only [List.take_succ_cons, List.take_zero, List.drop_succ_cons, List.drop_zero]
      quiet_step (fail)
      quiet_step (fail)
      quiet_step (fail)
      quiet_step (exact C1.out _ _)
      quiet_step (fail)
      quiet_step (fail)
      quiet_step (fail)
      quiet_step (fail)
      quiet_step (exact C2.out _ _)
      quiet_step (fail)
      refine wpQuiet_nil ?_
      intro _ hw'
      obtain ⟨⟨dq, osq⟩, hw''⟩ := hw'
      subst hw''
      go_wp2_with fail
      obtain ⟨w1, hw1⟩ : ∃ W, W = grow (redrawn wr dq) osq := ⟨_, rfl⟩
      rw [← hw1]
      have hb1 : Below wr.heap.size wr w1 := by rw [hw1]; exact below_regrown wr dq osq
      have h1 := isBuilder_below HBB.out hb1
      have hs1 := hb1.size
      obtain ⟨S, hS⟩ : ∃ S : ByteArray, S = { data := #[101, 110, 100, 32] } ++ se ++ { data := #[32] } ++ sc := ⟨_, rfl⟩
      have hSs : S.size ≤ 60 := by
        rw [hS]
        simp only [ByteArray.size_append]
        have q1 : ({ data := #[101, 110, 100, 32] } : ByteArray).size = 4 := rfl
        have q2 : ({ data := #[32] } : ByteArray).size = 1 := rfl
        omega
      have hSl : S = ⟨(tailOf e cd).toArray⟩ := by
        rw [hS, HSE.out, HSC.out, tailOf, if_neg HUU.out.1, if_neg HUU.out.2.1, if_neg HUU.out.2.2.1, if_neg HUU.out.2.2.2]
        exact ByteArray.ext (by simp [endT])
      have hK := writeString_any (w.heap.size + 1) (w.heap.size + 1) _ S w1 h1 (by omega) (by omega)
      rw [hS] at hK
      refine hK.mono ?_
      rintro en w2 ⟨rfl, h2, hb2, _⟩
      rw [← hS] at h2
      have h3 : Lib.IsBuilderF 55 5 (w.heap.size + 1) (w.heap.size + 1) (Lib.byteCells (textOf xs e cd)) w2 := by
        refine Or.inr ?_
        rw [hSl, strCells_itoa] at h2
        rw [textOf, Lib.byteCells_append]
        exact h2
      have hbw2 : Below w.heap.size w w2 := HBW.out.trans ((hb1.mono (by omega)).trans (hb2.mono (Nat.le_succ _)))
      have HB2 := Lib.hid hbw2
      have H3 := Lib.hid h3
      have HS2 : Hid (w.heap.size + 1 ≤ w2.heap.size) := by have := hb2.size; show _ ≤ _; omega
      clear hK h1 h2 hb2 hS hSl hSs hb1 hs1 hw1 h3 hbw2
      go_wp2_with (go_at_call 24; refine (Tryd.Builder_String_any_k (w.heap.size + 1) (w.heap.size + 1) (textOf xs e cd) _ H3.out HS2.out).mono ?_; rintro en w3 ⟨rfl, _, hb3, _⟩)
      go_ret
      exact ⟨rfl, HB2.out.trans (hb3.mono (Nat.le_succ _))⟩
theorem text_any (A : Option Addr) (n c : Nat) (xs : List Int) (e cd : Int) (w : World) (hr : ReadsI w A n xs) (hx : ∀ v ∈ xs, I64 v) (hcd : I64 cd) (hei : I64 e) (hn : n ≤ 300) (hT : Tab w) :
    Calls Tryd.prog 9 #[.agg #[.slice A n c, .int .i64 e, .int .i64 cd]] w (RetB (.string ⟨(textOf xs e cd).toArray⟩) w) := by
  by_cases h : e = 1 ∨ e = 2 ∨ e = 3 ∨ e = 4
  · exact text_usual A n c xs e cd w hr hx hcd hn h hT
  · exact text_odd A n c xs e cd w hr hx hcd hn hei (by omega) hT
end Go.Proofs.YtledkbgjjmdflaaDoor.Obs
