/- Proved: the law PeepNumbers (two operations over numbers and cells, all kinds, all ways of making numbers constants) returns true, whatever its arguments are, and its tied card. Conditions: the listed table of Go's library holds when the call begins what the program's text lays in it (the card ties it to the text). -/
import Derived.Test.YtgoccionghehoaaGreatDoorRows
import Derived.Test.YtgoccionghehoaaGreatDoorCards
import Derived.Test.YtgoccionghehoaaGreatDoorTie
import Derived.Test.YtgoccionghehoaaGreatDoorPe9
import Derived.Test.YtgoccionghehoaaGreatDoorPeY4
import Derived.ProofKit
import Derived.LaidMore
import Derived.MakeChecks
import Derived.Stop.Joined
import Derived.Stop.LaidErr
import Derived.Lib.LaidTab
import Derived.Lib.SmallJoins
import Derived.SevenTiedAt
import Derived.WalkKit
import Derived.OpenShut
set_option linter.unusedSimpArgs false
set_option linter.unusedVariables false
set_option linter.unusedSectionVars false
namespace Go.Proofs.YtgoccionghehoaaGreatDoor.Ev
open Go Go.ChangeShapes Go.WideShapes Go.ChangeAt Go.RowKit Go.Proofs Go.Joins Go.Proofs.YtgoccionghehoaaGreatDoor

theorem gok_of {W : World} (h : Lib.TabIs Tryz.prog W "math/bits.deBruijn64tab" .u8 debs) : GOk W := by
  have hg : Tryz.prog.globalNamed "math/bits.deBruijn64tab" = some 0 := by kernel_rfl
  unfold Lib.TabIs World.var? at h
  rw [hg] at h
  simp only [Option.bind_some] at h
  split at h
  case h_2 => cases h
  rename_i cs t z hc
  have h := Option.some.inj h
  subst h
  refine ⟨fun b o v e => ?_⟩
  have e : (bif Nat.beq b 0 then (debs[o]?).map fun z => Value.int .u8 z else none) = some v := e
  rw [Tr.bif_beq] at e
  split at e
  case isFalse => cases e
  rename_i hb
  subst hb
  refine ⟨(Array.getElem?_eq_some_iff.1 hc).1, ?_⟩
  simp only [World.cell?, hc]
  have e2 : ((debs.map fun z => Value.int .u8 z).toArray)[o]? = some v := by
    rw [List.getElem?_toArray, List.getElem?_map]
    exact e
  rw [e2]
  rfl
/-- The law, as a call. -/
theorem known (W : World) (h : Lib.TabIs Tryz.prog W "math/bits.deBruijn64tab" .u8 debs) {K N A B C kn : Int} (hK : 0 ≤ K ∧ K ≤ 255) (hN : 0 ≤ N ∧ N ≤ 255) (hA : Pn.R A) (hB : Pn.R B) (hC : Pn.R C) :
    Calls Tryz.prog 3 #[.agg #[.int .u8 K, .int .u8 N, .int .i64 A, .int .i64 B, .int .i64 C], .int .u8 kn] W fun e W' => e = .returned (.bool true) ∧ Below W.heap.size W W' := by
  haveI := gok_of h
  obtain ⟨h', g, c⟩ := law3 (W0 := W) awake9 hK hN hA hB hC kn
  refine c ⟨fun _ => none, fun _ => none⟩ W [.agg #[.int .u8 K, .int .u8 N, .int .i64 A, .int .i64 B, .int .i64 C], .int .u8 kn] ⟨.refl _ _, fun id o e => (by cases e), fun id id' o o' s s' a => (by cases a), fun j A z e => (by cases e), fun j a z id o s e => (by cases e)⟩ ⟨fun _ _ _ => rfl, fun _ _ _ => rfl⟩ rfl _ fun E' v w' e r st => ⟨?_, r.below⟩
  have : v = .bool true := (Option.some.inj e).symm
  rw [this]
theorem own : ownKnob Tryz.prog.godebug = none := by kernel_rfl
def laid1 : List (String × DataW Unit) := Rows.peepNumbersRow.laid
theorem plain1 : (laid1.all fun x => x.2.handleName?.isNone) = true := by kernel_rfl
theorem door_met (os : Os) (args : Array Value) : laidMetH Tryz.prog laid1 ((World.doorLaid Tryz.prog 19 os).forCall (fun _ _ => 0) ⟨#[], args, []⟩).memory := by
  rw [Go.MakeChecks.laidMetH_plain _ _ _ plain1]
  exact laidMet_of_run' 8 (by kernel_rfl) (by kernel_rfl)
theorem tab_of_laid {W : World} (h : laidMetH Tryz.prog laid1 W) : Lib.TabIs Tryz.prog W "math/bits.deBruijn64tab" .u8 debs := by
  rw [Go.MakeChecks.laidMetH_plain _ _ _ plain1] at h
  have h2 : laidMet Tryz.prog [("math/bits.deBruijn64tab", Rows.laid_math_bits_deBruijn64tab)] W := h
  exact Lib.tabIs_of_head (g := 0) (t := 251) (e := 5) (n := 64) (by kernel_rfl) (by kernel_rfl) (by kernel_rfl) (by kernel_rfl) (by kernel_rfl) (by kernel_rfl) h2
section
variable {H : Type} {enc : TypeId × Value → H} {W : World} {base : Nat} {sp : Nat → Bool} {held : Bool}
theorem one5 : Tryz.prog.cellsOf 5 = 1 := by kernel_rfl
theorem one2 : Tryz.prog.cellsOf 2 = 1 := by kernel_rfl
theorem five : Tryz.prog.cellsOf 23 = 5 := by kernel_rfl
set_option maxRecDepth 100000 in
theorem open_sum {r : Reach} {b0 : Nat} {v : Value} {d : DataW H} {ps : List MemPlace} (hval : Value.okWide Tryz.prog W r b0 23 v) (hd : DataW.Trod enc Tryz.prog W base sp held 23 v d ps) :
    ∃ K N A B C : Int, v = .agg #[.int .u8 K, .int .u8 N, .int .i64 A, .int .i64 B, .int .i64 C] ∧ d = .agg [.lit (.int .u8 K), .lit (.int .u8 N), .lit (.int .i64 A), .lit (.int .i64 B), .lit (.int .i64 C)] ∧ ps = [] ∧ (Lit.int .u8 K).wf = true ∧ (Lit.int .u8 N).wf = true ∧ (Lit.int .i64 A).wf = true ∧ (Lit.int .i64 B).wf = true ∧ (Lit.int .i64 C).wf = true := by
  have hv : ∃ c0 c1 c2 c3 c4, v = .agg #[c0, c1, c2, c3, c4] := by
    simp only [Value.okWide, Tryz.underlying23] at hval
    obtain ⟨cs, h1, h2, _⟩ := hval
    rw [five] at h2
    obtain ⟨l⟩ := cs
    match l, h2 with
    | [c0, c1, c2, c3, c4], _ => exact ⟨c0, c1, c2, c3, c4, h1⟩
  obtain ⟨c0, c1, c2, c3, c4, rfl⟩ := hv
  obtain ⟨fuel, hf⟩ := hd
  obtain ⟨xs, n, _, hx, hl, hlen, hfs⟩ := DataW.trod_struct Tryz.underlying23 hf
  match xs, hlen with
  | [y0, y1, y2, y3, y4], _ =>
    have f0 := hfs 0 _ rfl
    have f1 := hfs 1 _ rfl
    have f2 := hfs 2 _ rfl
    have f3 := hfs 3 _ rfl
    have f4 := hfs 4 _ rfl
    simp only [one5, one2, Value.cells] at f0 f1 f2 f3 f4
    obtain ⟨K, e0, rfl, w0⟩ := DataW.trod_int Tryz.underlying5 f0
    obtain ⟨N, e1, rfl, w1⟩ := DataW.trod_int Tryz.underlying5 f1
    obtain ⟨A, e2, rfl, w2⟩ := DataW.trod_int Tryz.underlying2 f2
    obtain ⟨B, e3, rfl, w3⟩ := DataW.trod_int Tryz.underlying2 f3
    obtain ⟨C, e4, rfl, w4⟩ := DataW.trod_int Tryz.underlying2 f4
    clear hfs hf hval f0 f1 f2 f3 f4
    have e0 : c0 = .int .u8 K := by simpa [one5] using e0
    have e1 : c1 = .int .u8 N := by simpa [one5] using e1
    have e2 : c2 = .int .i64 A := by simpa [one2] using e2
    have e3 : c3 = .int .i64 B := by simpa [one2] using e3
    have e4 : c4 = .int .i64 C := by simpa [one2] using e4
    rw [e0, e1, e2, e3, e4]
    simp only [Prod.mk.injEq] at hx
    exact ⟨K, N, A, B, C, rfl, by rw [hx.1]; rfl, by rw [hx.2]; rfl, w0, w1, w2, w3, w4⟩
theorem shut_sum {K N A B C : Int} (w0 : (Lit.int .u8 K).wf = true) (w1 : (Lit.int .u8 N).wf = true) (w2 : (Lit.int .i64 A).wf = true) (w3 : (Lit.int .i64 B).wf = true) (w4 : (Lit.int .i64 C).wf = true) :
    DataW.Trod enc Tryz.prog W base sp held 23 (.agg #[.int .u8 K, .int .u8 N, .int .i64 A, .int .i64 B, .int .i64 C]) (.agg [.lit (.int .u8 K), .lit (.int .u8 N), .lit (.int .i64 A), .lit (.int .i64 B), .lit (.int .i64 C)]) [] := by
  refine ⟨2, ?_⟩
  have := trod_struct_mk (enc := enc) (P := Tryz.prog) (w := W) (base := base) (spare := sp) (held := held) (n := 1) (t := 23) (cs := [.int .u8 K, .int .u8 N, .int .i64 A, .int .i64 B, .int .i64 C]) (xs := [(.lit (.int .u8 K), []), (.lit (.int .u8 N), []), (.lit (.int .i64 A), []), (.lit (.int .i64 B), []), (.lit (.int .i64 C), [])]) Tryz.underlying23 (by rw [five]; rfl) (by
    simp [one5, one2, trod_int_mk 0 Tryz.underlying5 w0, trod_int_mk 0 Tryz.underlying5 w1, trod_int_mk 0 Tryz.underlying2 w2, trod_int_mk 0 Tryz.underlying2 w3, trod_int_mk 0 Tryz.underlying2 w4])
  exact this
end
theorem u8_of {n : Int} (h : (Lit.int .u8 n).wf = true) : 0 ≤ n ∧ n ≤ 255 := by
  simp [Lit.wf, IntKind.min, IntKind.max, IntKind.signed, IntKind.bits] at h
  omega
theorem i64_of {n : Int} (h : (Lit.int .i64 n).wf = true) : Pn.R n := by
  simp [Lit.wf, IntKind.min, IntKind.max, IntKind.signed, IntKind.bits] at h
  rw [Pn.R]
  omega

set_option maxRecDepth 100000 in
theorem lifted (os : Os) (started : os.Started) (H : Type) (enc : TypeId × Value → H) :
    ReturnsInHanded {} Tryz.checked os 3 .any (fun w args => (Rows.peepNumbersSpec.pre enc Tryz.prog Tryz.f3 [] false w args ∧ laidMetH Tryz.prog laid1 w) ∧ sizedMet enc Tryz.prog Tryz.f3 (OpenSpec.ofChange Rows.peepNumbersSpec) false w args)
      (Rows.peepNumbersSpec.post enc Tryz.prog Tryz.f3 false true false false) := by
  refine returnsInHanded_of_change_and (C := Tryz.checked) (X := fun w _ => laidMetH Tryz.prog laid1 w) (fun _ _ _ hh h => h.of_heap hh) own started (by kernel_rfl) Tryz.func3
    (ChangeSpec.witness_shaped (enc := enc) (C := Tryz.checked) (os := os) (X := fun w _ => laidMetH Tryz.prog laid1 w) false (World.doorLaid Tryz.prog 19 os) #[.agg #[.int .u8 0, .int .u8 0, .int .i64 0, .int .i64 0, .int .i64 0], .int .u8 0] 8 rfl (World.shaped_of_RefB (by kernel_rfl) (by kernel_rfl)) (by kernel_rfl) (by kernel_rfl) (by kernel_rfl) (door_met os _)) ?_
  intro W base args ds gs before hval0 hW _ _ hL _
  have hval : ∀ (j : Nat) t v, Tryz.f3.params[j]? = some t → args[j]? = some v → Value.okWide Tryz.prog W .any base t v := hval0
  have hW' := hW
  obtain ⟨p, q, hA0, hV, rfl, hfz, hnd⟩ := hW
  have hA : DataW.TrodAll enc Tryz.prog W 0 (fun _ => true) true Tryz.f3.params.toList args.toList ds p := hA0
  rw [Tryz.params3] at hA hval
  obtain ⟨v, v', d, d', p1, p2, rfl, rfl, rfl, hd, hd'⟩ := trodAll_two hA
  obtain ⟨rfl, rfl⟩ := trodVars_none hV
  have hv := hval 0 23 v rfl rfl
  have hv' := hval 1 5 v' rfl rfl
  obtain ⟨K, N, A, B, C, rfl, rfl, rfl, w0, w1, w2, w3, w4⟩ := open_sum hv hd
  obtain ⟨kn, rfl, rfl, rfl, w5⟩ := open_int Tryz.underlying5 hv' hd'
  clear hA0 hval0
  simp only [List.append_nil] at hW'
  refine (known W (tab_of_laid hL) (u8_of w0) (u8_of w1) (i64_of w2) (i64_of w3) (i64_of w4) (kn := kn)).mono fun e W' ⟨he, hb⟩ => ?_
  subst he
  refine ⟨_, rfl, _, _, _, [], [], [], hW', ?_, ?_, rfl, hb.frame _, fun h => by cases h⟩
  · exact trodAll_mk1 (shut_bool Tryz.underlying4 _)
  · exact trodAll_mk2 (shut_sum w0 w1 w2 w3 w4) (shut_int Tryz.underlying5 w5)

theorem said : Rows.PeepNumbersSaid :=
  OpenClaim.holds_of_wide 3 Tryz.f3 rfl rfl rfl rfl rfl rfl rfl ⟨rfl, rfl, rfl, rfl, rfl⟩ rfl rfl rfl rfl rfl (by kernel_rfl) Tryz.func3 (by kernel_rfl)
    (of_decide_eq_true (by kernel_rfl)) (by unfold Func.isWrapper; first | (rw [if_pos (by decide +kernel)]; kernel_rfl) | (rw [if_neg (by decide +kernel)]; exact ⟨rfl, rfl⟩))
    (fun os started H enc _ => lifted os started H enc)

theorem card_said : Rows.PeepNumbersCardSaid :=
  Claim7.holds_tied_plain_at .later [] [.data] true (true, "5fb3ffe8555c759c82949b0cf9299865fbc1c48af3beb3195dcf13298f9fd538") false
    said (fun _ h => by cases h) (by kernel_rfl) (fun _ h => by cases h) peepNumbers_row_tie rfl ⟨rfl, rfl⟩ (by kernel_rfl) rfl
    (fun f fn hf hfn => by
      obtain rfl : f = 3 := Option.some.inj ((show Tryz.prog.funcNamed Rows.peepNumbersRow.func = some 3 by kernel_rfl).symm.trans hf) |>.symm
      obtain rfl : fn = Tryz.f3 := (Option.some.inj (Tryz.func3.symm.trans hfn)).symm
      exact ⟨by kernel_rfl, fun j t ht => by
        rw [Tryz.params3] at ht
        have h3 : t = 23 ∨ t = 5 := by
          rcases j with _ | _ | j
          · exact .inl (by simpa using ht.symm)
          · exact .inr (by simpa using ht.symm)
          · simp at ht
        rcases h3 with rfl | rfl
        · exact (show Tryz.prog.wantsStandIn 23 = false by kernel_rfl)
        · exact (show Tryz.prog.wantsStandIn 5 = false by kernel_rfl)⟩)
    (by kernel_rfl)
end Go.Proofs.YtgoccionghehoaaGreatDoor.Ev
