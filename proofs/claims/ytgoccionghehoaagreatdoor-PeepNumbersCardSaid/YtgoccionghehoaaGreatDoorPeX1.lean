/- Two texts, read. -/
import Derived.Test.YtgoccionghehoaaGreatDoorPeX
set_option linter.unusedSimpArgs false
set_option linter.unusedVariables false
set_option linter.unusedSectionVars false
namespace Go.Proofs.YtgoccionghehoaaGreatDoor.Ev
open Go Go.Proofs

set_option maxHeartbeats 4000000 in
theorem rx3 {W0 : World} [GOk W0] (q : SV → List (Option SO) → Bool → Bool) : fnRunJ Tryz.prog 65 300 (cX W0) [.lit (.string x3.text)] ⟨.e, 0, 0, 0⟩ (fun s h' => q s (x3.ids.map h'.hp.get) (Nat.ble h'.nx x3.n1)) = q x3.sv (x3.ids.map x3.g1.get) true := by kernel_rfl
theorem ex3 {W0 : World} [GOk W0] : Ent5Ok Tryz.prog W0 x3 := ent5_of (by kernel_rfl) rx3 (fun id o h => put_ids (l := l3) h) (by kernel_rfl) (by kernel_rfl)
set_option maxHeartbeats 4000000 in
theorem rx4 {W0 : World} [GOk W0] (q : SV → List (Option SO) → Bool → Bool) : fnRunJ Tryz.prog 65 300 (cX W0) [.lit (.string x4.text)] ⟨.e, 0, 0, 0⟩ (fun s h' => q s (x4.ids.map h'.hp.get) (Nat.ble h'.nx x4.n1)) = q x4.sv (x4.ids.map x4.g1.get) true := by kernel_rfl
theorem ex4 {W0 : World} [GOk W0] : Ent5Ok Tryz.prog W0 x4 := ent5_of (by kernel_rfl) rx4 (fun id o h => put_ids (l := l4) h) (by kernel_rfl) (by kernel_rfl)
end Go.Proofs.YtgoccionghehoaaGreatDoor.Ev
