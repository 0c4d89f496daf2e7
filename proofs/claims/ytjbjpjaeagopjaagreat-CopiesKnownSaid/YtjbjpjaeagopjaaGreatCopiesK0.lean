/- What all the runs of the law lean on. -/
import Derived.Test.YtjbjpjaeagopjaaGreatProg
import Derived.Test.YtjbjpjaeagopjaaGreatEvCtl2
import Derived.KernelRfl
import Derived.Lib.LaidTab
namespace Go.Proofs.YtjbjpjaeagopjaaGreat.Copies
open Go Go.Proofs.YtjbjpjaeagopjaaGreat.Ev
def isT : SV → Bool
  | .bool true => true
  | _ => false
theorem isT_flat : ∀ sv, isT sv = true → flat sv = some (.bool true) := by
  intro sv h
  unfold isT at h
  split at h
  · rfl
  · cases h
noncomputable instance : GTab := ⟨fun _ _ => none⟩
instance gok (w : World) : GOk w := ⟨fun _ _ _ e => by cases e⟩
def bs (l : List Nat) : ByteArray := ⟨(l.map UInt8.ofNat).toArray⟩
theorem none_ok : TabOk Tryz.prog [] := fun x hx => by cases hx
set_option maxRecDepth 1000000 in
theorem fns : fnsB Tryz.prog.funcs.toList = true := by kernel_rfl
theorem mixed : Tryz.prog.follows .mixedOrders = true := by kernel_rfl
end Go.Proofs.YtjbjpjaeagopjaaGreat.Copies
