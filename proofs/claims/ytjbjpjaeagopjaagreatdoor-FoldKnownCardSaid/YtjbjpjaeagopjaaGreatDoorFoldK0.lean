/- What all the runs of the law lean on. -/
import Derived.Test.YtjbjpjaeagopjaaGreatDoorProg
import Derived.Test.YtjbjpjaeagopjaaGreatDoorEvCtl2
import Derived.KernelRfl
import Derived.Deep.Strs
import Derived.LaidMore
namespace Go.Proofs.YtjbjpjaeagopjaaGreatDoor.Fold
open Go Go.Proofs.YtjbjpjaeagopjaaGreatDoor.Ev
def isT : SV → Bool
  | .bool true => true
  | _ => false
theorem isT_flat : ∀ sv, isT sv = true → flat sv = some (.bool true) := by
  intro sv h
  unfold isT at h
  split at h
  · rfl
  · cases h
def vary : List Value := [.bool true, .bool true, .int .i64 0]
noncomputable instance : GTab := ⟨fun b o => bif Nat.beq b 0 then vary[o]? else none⟩
theorem gok_of {W : World} (h : W.var? Tryz.prog "cupel/fold.varying" = some vary.toArray) : GOk W := by
  have hg : Tryz.prog.globalNamed "cupel/fold.varying" = some 0 := by kernel_rfl
  unfold World.var? at h
  rw [hg] at h
  simp only [Option.bind_some] at h
  split at h
  case h_2 => cases h
  rename_i cs t z hc
  have h := Option.some.inj h
  subst h
  refine ⟨fun b o v e => ?_⟩
  have e : (bif Nat.beq b 0 then vary[o]? else none) = some v := e
  rw [Tr.bif_beq] at e
  split at e
  case isFalse => cases e
  rename_i hb
  subst hb
  refine ⟨(Array.getElem?_eq_some_iff.1 hc).1, ?_⟩
  simp only [World.cell?, hc]
  have e2 : (vary.toArray)[o]? = some v := by
    rw [List.getElem?_toArray]
    exact e
  rw [e2]
  rfl
def bs (l : List Nat) : ByteArray := ⟨(l.map UInt8.ofNat).toArray⟩
theorem none_ok : TabOk Tryz.prog [] := fun x hx => by cases hx
set_option maxRecDepth 1000000 in
theorem fns : fnsB Tryz.prog.funcs.toList = true := by kernel_rfl
theorem mixed : Tryz.prog.follows .mixedOrders = true := by kernel_rfl
end Go.Proofs.YtjbjpjaeagopjaaGreatDoor.Fold
