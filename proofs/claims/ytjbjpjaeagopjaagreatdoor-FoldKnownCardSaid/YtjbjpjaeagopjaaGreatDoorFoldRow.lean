/- Proved: the law FoldKnown returns true (it takes no argument), and its tied card. Conditions: the listed table of Go's library holds when the call begins what the program's text lays in it (the card ties it to the text). -/
import Derived.Test.YtjbjpjaeagopjaaGreatDoorRows
import Derived.Test.YtjbjpjaeagopjaaGreatDoorCards
import Derived.Test.YtjbjpjaeagopjaaGreatDoorTie
import Derived.Test.YtjbjpjaeagopjaaGreatDoorFoldKM
import Derived.ProofKit
import Derived.LaidMore
import Derived.MakeChecks
import Derived.Stop.Joined
import Derived.Stop.LaidErr
import Derived.Deep.Strs
import Derived.Lib.SmallJoins
import Derived.SevenTiedAt
import Derived.WalkKit
import Derived.OpenShut
namespace Go.Proofs.YtjbjpjaeagopjaaGreatDoor.Fold
open Go Go.ChangeShapes Go.WideShapes Go.ChangeAt Go.RowKit Go.Proofs Go.Joins

theorem own : ownKnob Tryz.prog.godebug = none := by kernel_rfl
def laid1 : List (String × DataW Unit) := Rows.foldKnownRow.laid
theorem plain1 : (laid1.all fun x => x.2.handleName?.isNone) = true := by kernel_rfl
theorem door_met (os : Os) (args : Array Value) : laidMetH Tryz.prog laid1 ((World.doorLaid Tryz.prog 19 os).forCall (fun _ _ => 0) ⟨#[], args, []⟩).memory := by
  rw [Go.MakeChecks.laidMetH_plain _ _ _ plain1]
  exact laidMet_of_run' 8 (by kernel_rfl) (by kernel_rfl)
theorem tab_of_laid {W : World} (h : laidMetH Tryz.prog laid1 W) : W.var? Tryz.prog "cupel/fold.varying" = some vary.toArray := by
  rw [Go.MakeChecks.laidMetH_plain _ _ _ plain1] at h
  have h2 : laidMet Tryz.prog [("cupel/fold.varying", Rows.laid_cupel_fold_varying)] W := h
  obtain ⟨ps, ⟨g, t, cs, fuel, p, q, hg, ht, hv, hd, _, _⟩, _⟩ := h2
  obtain rfl : 0 = g := Option.some.inj ((show Tryz.prog.globalNamed "cupel/fold.varying" = some 0 by kernel_rfl).symm.trans hg)
  obtain rfl : 51 = t := Option.some.inj ((show (Tryz.prog.globals[0]?).map (·.type) = some 51 by kernel_rfl).symm.trans ht)
  have hs : Tryz.prog.underlying 51 = some (.struct #[⟨"known", 4, 0, false, "", "cupel/fold", 0⟩, ⟨"varies", 4, 1, false, "", "cupel/fold", 1⟩, ⟨"value", 2, 2, false, "", "cupel/fold", 8⟩]) := by kernel_rfl
  obtain ⟨y0, y1, y2, n, hx, hl, h0, h1, h2⟩ := Go.Deep.trod_struct3 hs hd
  dsimp only at h0 h1 h2
  have hc : Tryz.prog.cellsOf 51 = 3 := by kernel_rfl
  have hb : Tryz.prog.cellsOf 4 = 1 := by kernel_rfl
  have hi : Tryz.prog.cellsOf 2 = 1 := by kernel_rfl
  rw [hb] at h0 h1
  rw [hi] at h2
  rw [hc] at hl
  obtain ⟨b0, e0, rfl, _⟩ := DataW.trod_bool (by kernel_rfl) h0
  obtain ⟨b1, e1, rfl, _⟩ := DataW.trod_bool (by kernel_rfl) h1
  obtain ⟨i2, e2, rfl, _⟩ := DataW.trod_int (k := .i64) (by kernel_rfl) h2
  have hx := congrArg Prod.fst hx
  simp only [Rows.laid_cupel_fold_varying, DataW.agg.injEq, List.cons.injEq, DataW.lit.injEq, Lit.bool.injEq, Lit.int.injEq, true_and, and_true] at hx
  obtain ⟨q0, q1, q2⟩ := hx
  rw [hv]
  refine congrArg some (Array.ext' ?_)
  show cs.toList = vary
  match hL : cs.toList, hl with
  | [a, b, c], _ =>
    rw [hL] at e0 e1 e2
    simp only [List.drop_zero, List.drop_succ_cons, List.take_succ_cons, List.take_zero, List.cons.injEq, and_true] at e0 e1 e2
    rw [e0, e1, e2, ← q0, ← q1, ← q2]
    rfl

set_option maxRecDepth 100000 in
theorem lifted (os : Os) (started : os.Started) (H : Type) (enc : TypeId × Value → H) :
    ReturnsInHanded {} Tryz.checked os 3 .any (fun w args => (Rows.foldKnownSpec.pre enc Tryz.prog Tryz.f3 [] false w args ∧ laidMetH Tryz.prog laid1 w) ∧ sizedMet enc Tryz.prog Tryz.f3 (OpenSpec.ofChange Rows.foldKnownSpec) false w args)
      (Rows.foldKnownSpec.post enc Tryz.prog Tryz.f3 false true false false) := by
  refine returnsInHanded_of_change_and (C := Tryz.checked) (X := fun w _ => laidMetH Tryz.prog laid1 w) (fun _ _ _ hh h => h.of_heap hh) own started (by kernel_rfl) Tryz.func3
    (ChangeSpec.witness_shaped (enc := enc) (C := Tryz.checked) (os := os) (X := fun w _ => laidMetH Tryz.prog laid1 w) false (World.doorLaid Tryz.prog 19 os) #[] 8 rfl (World.shaped_of_RefB (by kernel_rfl) (by kernel_rfl)) (by kernel_rfl) (by kernel_rfl) (by kernel_rfl) (door_met os _)) ?_
  intro W base args ds gs before hval0 hW _ _ hL _
  have hW' := hW
  obtain ⟨p, q, hA0, hV, rfl, hfz, hnd⟩ := hW
  have hA : DataW.TrodAll enc Tryz.prog W 0 (fun _ => true) true Tryz.f3.params.toList args.toList ds p := hA0
  rw [Tryz.params3] at hA
  obtain ⟨rfl, rfl, rfl⟩ := trodAll_none hA
  obtain ⟨rfl, rfl⟩ := trodVars_none hV
  clear hA0 hval0
  simp only [List.append_nil] at hW'
  refine (known W (tab_of_laid hL)).mono fun e W' ⟨he, hb⟩ => ?_
  subst he
  refine ⟨_, rfl, _, _, _, [], [], [], hW', ?_, ?_, rfl, hb.frame _, fun h => by cases h⟩
  · exact trodAll_mk1 (shut_bool Tryz.underlying4 _)
  · exact trodAll_mk0

theorem said : Rows.FoldKnownSaid :=
  OpenClaim.holds_of_wide 3 Tryz.f3 rfl rfl rfl rfl rfl rfl rfl ⟨rfl, rfl, rfl, rfl, rfl⟩ rfl rfl rfl rfl rfl (by kernel_rfl) Tryz.func3 (by kernel_rfl)
    (of_decide_eq_true (by kernel_rfl)) (by unfold Func.isWrapper; first | (rw [if_pos (by decide +kernel)]; kernel_rfl) | (rw [if_neg (by decide +kernel)]; exact ⟨rfl, rfl⟩))
    (fun os started H enc _ => lifted os started H enc)

theorem card_said : Rows.FoldKnownCardSaid :=
  Claim7.holds_tied_plain_at .later [] [.data] true (true, "f58609aacf221bcd9c4f85e93f1a72833065a14ded436a3752a2495d6e83c43b") false
    said (fun _ h => by cases h) (by kernel_rfl) (fun _ h => by cases h) foldKnown_row_tie rfl ⟨rfl, rfl⟩ (by kernel_rfl) rfl
    (fun f fn hf hfn => by
      obtain rfl : f = 3 := Option.some.inj ((show Tryz.prog.funcNamed Rows.foldKnownRow.func = some 3 by kernel_rfl).symm.trans hf) |>.symm
      obtain rfl : fn = Tryz.f3 := (Option.some.inj (Tryz.func3.symm.trans hfn)).symm
      exact ⟨by kernel_rfl, fun j t ht => by
        rw [Tryz.params3] at ht
        simp at ht⟩)
    (by kernel_rfl)
end Go.Proofs.YtjbjpjaeagopjaaGreatDoor.Fold
