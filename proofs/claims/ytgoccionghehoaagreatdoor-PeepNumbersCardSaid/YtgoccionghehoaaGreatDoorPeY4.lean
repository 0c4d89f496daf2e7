/- awake. -/
import Derived.Test.YtgoccionghehoaaGreatDoorPeX
import Derived.Test.YtgoccionghehoaaGreatDoorPeY0
import Derived.Test.YtgoccionghehoaaGreatDoorPeY1
import Derived.Test.YtgoccionghehoaaGreatDoorPeY2
import Derived.Test.YtgoccionghehoaaGreatDoorPeY3
set_option linter.unusedSimpArgs false
set_option linter.unusedVariables false
set_option linter.unusedSectionVars false
namespace Go.Proofs.YtgoccionghehoaaGreatDoor.Ev
open Go Go.Proofs

variable {W0 : World} [GOk W0]
noncomputable abbrev cB (W0 : World) [GOk W0] : CallK := callH Tryz.prog W0 [(22, fun _ => .bool true)] [] 100 30
theorem ra (q : SV → Bool) : fnRunJ Tryz.prog 9 100 (cB W0) [] ⟨.e, 0, 0, 0⟩ (fun s _ => q s) = andR (andR (andR (andR (q (.bool true)) (grdA Tryz.prog W0 22 [.lit (.string x7.text), .lit (.string x8.text), .agg [I (-1), nilS], I 1] (.bool true))) (grdA Tryz.prog W0 22 [.lit (.string x5.text), .lit (.string x6.text), .agg [I (-1), nilS], I 1] (.bool true))) (grdA Tryz.prog W0 22 [.lit (.string x3.text), .lit (.string x4.text), .agg [I (-1), nilS], I 1] (.bool true))) (grdA Tryz.prog W0 22 [.lit (.string x1.text), .lit (.string x2.text), .agg [I (-1), nilS], I 2] (.bool true)) := by kernel_rfl
theorem awake9 : grdA Tryz.prog W0 9 [] (.bool true) = true := by
  classical
  obtain ⟨sv, h', k1, g, c⟩ := fnRunJ_ok (W0 := W0) (callH_ok (LP := [(22, fun _ => .bool true)]) (L := []) (m := 100) mixed 30) mixed (by kernel_rfl) ((ra fun s => decide (s = .bool true)).trans (by
    rw [becomes0, becomes1, becomes2, becomes3]
    simp [andR]))
  have e := of_decide_eq_true k1
  rw [e] at c
  exact grdA_of fun h => CallOk.closed c rfl rfl h
end Go.Proofs.YtgoccionghehoaaGreatDoor.Ev
