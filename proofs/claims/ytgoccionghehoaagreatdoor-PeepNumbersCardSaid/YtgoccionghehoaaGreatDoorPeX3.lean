/- Two texts, read. -/
import Derived.Test.YtgoccionghehoaaGreatDoorPeX
set_option linter.unusedSimpArgs false
set_option linter.unusedVariables false
set_option linter.unusedSectionVars false
namespace Go.Proofs.YtgoccionghehoaaGreatDoor.Ev
open Go Go.Proofs

set_option maxHeartbeats 4000000 in
theorem rx7 {W0 : World} [GOk W0] (q : SV → List (Option SO) → Bool → Bool) : fnRunJ Tryz.prog 65 300 (cX W0) [.lit (.string x7.text)] ⟨.e, 0, 0, 0⟩ (fun s h' => q s (x7.ids.map h'.hp.get) (Nat.ble h'.nx x7.n1)) = q x7.sv (x7.ids.map x7.g1.get) true := by kernel_rfl
theorem ex7 {W0 : World} [GOk W0] : Ent5Ok Tryz.prog W0 x7 := ent5_of (by kernel_rfl) rx7 (fun id o h => put_ids (l := l7) h) (by kernel_rfl) (by kernel_rfl)
set_option maxHeartbeats 4000000 in
theorem rx8 {W0 : World} [GOk W0] (q : SV → List (Option SO) → Bool → Bool) : fnRunJ Tryz.prog 65 300 (cX W0) [.lit (.string x8.text)] ⟨.e, 0, 0, 0⟩ (fun s h' => q s (x8.ids.map h'.hp.get) (Nat.ble h'.nx x8.n1)) = q x8.sv (x8.ids.map x8.g1.get) true := by kernel_rfl
theorem ex8 {W0 : World} [GOk W0] : Ent5Ok Tryz.prog W0 x8 := ent5_of (by kernel_rfl) rx8 (fun id o h => put_ids (l := l8) h) (by kernel_rfl) (by kernel_rfl)
end Go.Proofs.YtgoccionghehoaaGreatDoor.Ev
