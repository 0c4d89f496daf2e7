/- Two texts, read. -/
import Derived.Test.YtgoccionghehoaaGreatDoorPeX
set_option linter.unusedSimpArgs false
set_option linter.unusedVariables false
set_option linter.unusedSectionVars false
namespace Go.Proofs.YtgoccionghehoaaGreatDoor.Ev
open Go Go.Proofs

set_option maxHeartbeats 4000000 in
theorem rx1 {W0 : World} [GOk W0] (q : SV → List (Option SO) → Bool → Bool) : fnRunJ Tryz.prog 65 300 (cX W0) [.lit (.string x1.text)] ⟨.e, 0, 0, 0⟩ (fun s h' => q s (x1.ids.map h'.hp.get) (Nat.ble h'.nx x1.n1)) = q x1.sv (x1.ids.map x1.g1.get) true := by kernel_rfl
theorem ex1 {W0 : World} [GOk W0] : Ent5Ok Tryz.prog W0 x1 := ent5_of (by kernel_rfl) rx1 (fun id o h => put_ids (l := l1) h) (by kernel_rfl) (by kernel_rfl)
set_option maxHeartbeats 4000000 in
theorem rx2 {W0 : World} [GOk W0] (q : SV → List (Option SO) → Bool → Bool) : fnRunJ Tryz.prog 65 300 (cX W0) [.lit (.string x2.text)] ⟨.e, 0, 0, 0⟩ (fun s h' => q s (x2.ids.map h'.hp.get) (Nat.ble h'.nx x2.n1)) = q x2.sv (x2.ids.map x2.g1.get) true := by kernel_rfl
theorem ex2 {W0 : World} [GOk W0] : Ent5Ok Tryz.prog W0 x2 := ent5_of (by kernel_rfl) rx2 (fun id o h => put_ids (l := l2) h) (by kernel_rfl) (by kernel_rfl)
end Go.Proofs.YtgoccionghehoaaGreatDoor.Ev
