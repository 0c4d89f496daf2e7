/- One module becomes another. -/
import Derived.Test.YtgoccionghehoaaGreatDoorPeX
import Derived.Test.YtgoccionghehoaaGreatDoorPeX0
set_option linter.unusedSimpArgs false
set_option linter.unusedVariables false
set_option linter.unusedSectionVars false
namespace Go.Proofs.YtgoccionghehoaaGreatDoor.Ev
open Go Go.Proofs

def isT0 : SV → Bool
  | .bool true => true
  | _ => false
set_option maxHeartbeats 4000000 in
theorem rb0 : fnRunJ Tryz.prog 22 300 (callE Tryz.prog [x1, x2] 300 60) [.lit (.string x1.text), .lit (.string x2.text), .agg [I (-1), nilS], I 2] ⟨.e, 0, 0, 0⟩ (fun s _ => isT0 s) = true := by kernel_rfl
theorem becomes0 {W0 : World} [GOk W0] : grdA Tryz.prog W0 22 [.lit (.string x1.text), .lit (.string x2.text), .agg [I (-1), nilS], I 2] (.bool true) = true := by
  obtain ⟨sv, h', k1, g, c⟩ := fnRunJ_ok (W0 := W0) (callE_ok (W0 := W0) (T := [x1, x2]) (fun e he => by
    simp only [List.mem_cons, List.not_mem_nil, or_false] at he
    rcases he with rfl | rfl
    · exact ex1
    · exact ex2) mixed (m := 300) 60) mixed (by kernel_rfl) rb0
  have : sv = .bool true := by
    unfold isT0 at k1
    split at k1
    · rfl
    · cases k1
  subst this
  exact grdA_of fun h => CallOk.closed c rfl rfl h
end Go.Proofs.YtgoccionghehoaaGreatDoor.Ev
