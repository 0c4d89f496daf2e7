/- Two texts, read. -/
import Derived.Test.YtgoccionghehoaaGreatDoorPeX
set_option linter.unusedSimpArgs false
set_option linter.unusedVariables false
set_option linter.unusedSectionVars false
namespace Go.Proofs.YtgoccionghehoaaGreatDoor.Ev
open Go Go.Proofs

set_option maxHeartbeats 4000000 in
theorem rx5 {W0 : World} [GOk W0] (q : SV → List (Option SO) → Bool → Bool) : fnRunJ Tryz.prog 65 300 (cX W0) [.lit (.string x5.text)] ⟨.e, 0, 0, 0⟩ (fun s h' => q s (x5.ids.map h'.hp.get) (Nat.ble h'.nx x5.n1)) = q x5.sv (x5.ids.map x5.g1.get) true := by kernel_rfl
theorem ex5 {W0 : World} [GOk W0] : Ent5Ok Tryz.prog W0 x5 := ent5_of (by kernel_rfl) rx5 (fun id o h => put_ids (l := l5) h) (by kernel_rfl) (by kernel_rfl)
set_option maxHeartbeats 4000000 in
theorem rx6 {W0 : World} [GOk W0] (q : SV → List (Option SO) → Bool → Bool) : fnRunJ Tryz.prog 65 300 (cX W0) [.lit (.string x6.text)] ⟨.e, 0, 0, 0⟩ (fun s h' => q s (x6.ids.map h'.hp.get) (Nat.ble h'.nx x6.n1)) = q x6.sv (x6.ids.map x6.g1.get) true := by kernel_rfl
theorem ex6 {W0 : World} [GOk W0] : Ent5Ok Tryz.prog W0 x6 := ent5_of (by kernel_rfl) rx6 (fun id o h => put_ids (l := l6) h) (by kernel_rfl) (by kernel_rfl)
end Go.Proofs.YtgoccionghehoaaGreatDoor.Ev
