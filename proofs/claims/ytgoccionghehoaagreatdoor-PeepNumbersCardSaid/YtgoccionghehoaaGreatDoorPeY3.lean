/- One module becomes another: with a removed check. -/
import Derived.Test.YtgoccionghehoaaGreatDoorPeX
import Derived.Test.YtgoccionghehoaaGreatDoorPeX3
import Derived.Test.YtgoccionghehoaaGreatDoorPeY5
set_option linter.unusedSimpArgs false
set_option linter.unusedVariables false
set_option linter.unusedSectionVars false
namespace Go.Proofs.YtgoccionghehoaaGreatDoor.Ev
open Go Go.Proofs

def isT3 : SV → Bool
  | .bool true => true
  | _ => false
set_option maxHeartbeats 4000000 in
theorem rb3 : @fnRunJ G1 Tryz.prog 22 300 (@callE G1 Tryz.prog [x7, x8] 300 60) [.lit (.string x7.text), .lit (.string x8.text), .agg [I (-1), nilS], I 1] ⟨.e, 0, 0, 0⟩ (fun s _ => isT3 s) = true := by kernel_rfl
theorem ent_g {W0 : World} [h0 : @GOk G0 W0] {e : Ent5} (h : @Ent5Ok G0 Tryz.prog W0 h0 e) : @Ent5Ok G1 Tryz.prog W0 (gok_g h0) e := by
  obtain ⟨⟨ne1, c⟩, h1, h2⟩ := h
  exact ⟨⟨ne1, call_g (g := G0) (g' := G1) rfl c⟩, h1, h2⟩
theorem becomes3 {W0 : World} [h0 : @GOk G0 W0] : grdA Tryz.prog W0 22 [.lit (.string x7.text), .lit (.string x8.text), .agg [I (-1), nilS], I 1] (.bool true) = true := by
  have hx7 := @ent_g W0 h0 x7 ex7
  have hx8 := @ent_g W0 h0 x8 ex8
  obtain ⟨sv, h', k1, g, c⟩ := @fnRunJ_ok G1 Tryz.prog W0 (gok_g h0) _ (@callE_ok G1 Tryz.prog W0 (gok_g h0) [x7, x8] (fun e he => by
    simp only [List.mem_cons, List.not_mem_nil, or_false] at he
    rcases he with rfl | rfl
    · exact hx7
    · exact hx8) mixed 300 60) mixed 22 300 _ _ _ (by kernel_rfl) rb3
  have : sv = .bool true := by
    unfold isT3 at k1
    split at k1
    · rfl
    · cases k1
  subst this
  have c0 : @CallOk G0 Tryz.prog W0 22 [.lit (.string x7.text), .lit (.string x8.text), .agg [I (-1), nilS], I 1] ⟨.e, 0, 0, 0⟩ h' (.bool true) := call_g (g := G1) (g' := G0) rfl c
  exact grdA_of fun h => CallOk.closed c0 rfl rfl h
end Go.Proofs.YtgoccionghehoaaGreatDoor.Ev
