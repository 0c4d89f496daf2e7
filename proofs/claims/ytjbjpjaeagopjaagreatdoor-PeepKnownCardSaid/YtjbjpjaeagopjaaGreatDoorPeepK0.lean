/- What all the runs of the law lean on. -/
import Derived.Test.YtjbjpjaeagopjaaGreatDoorProg
import Derived.Test.YtjbjpjaeagopjaaGreatDoorEvCtl2
import Derived.KernelRfl
import Derived.Lib.LaidTab
namespace Go.Proofs.YtjbjpjaeagopjaaGreatDoor.Peep
open Go Go.Proofs.YtjbjpjaeagopjaaGreatDoor.Ev
def isT : SV → Bool
  | .bool true => true
  | _ => false
theorem isT_flat : ∀ sv, isT sv = true → flat sv = some (.bool true) := by
  intro sv h
  unfold isT at h
  split at h
  · rfl
  · cases h
def debs : List Int := [0, 1, 56, 2, 57, 49, 28, 3, 61, 58, 42, 50, 38, 29, 17, 4, 62, 47, 59, 36, 45, 43, 51, 22, 53, 39, 33, 30, 24, 18, 12, 5, 63, 55, 48, 27, 60, 41, 37, 16, 46, 35, 44, 21, 52, 32, 23, 11, 54, 26, 40, 15, 34, 20, 31, 10, 25, 14, 19, 9, 13, 8, 7, 6]
noncomputable instance : GTab := ⟨fun b o => bif Nat.beq b 1 then (debs[o]?).map fun z => Value.int .u8 z else none⟩
theorem gok_of {W : World} (h : Lib.TabIs Tryz.prog W "math/bits.deBruijn64tab" .u8 debs) : GOk W := by
  have hg : Tryz.prog.globalNamed "math/bits.deBruijn64tab" = some 1 := by kernel_rfl
  unfold Lib.TabIs World.var? at h
  rw [hg] at h
  simp only [Option.bind_some] at h
  split at h
  case h_2 => cases h
  rename_i cs t z hc
  have h := Option.some.inj h
  subst h
  refine ⟨fun b o v e => ?_⟩
  have e : (bif Nat.beq b 1 then (debs[o]?).map fun z => Value.int .u8 z else none) = some v := e
  rw [Tr.bif_beq] at e
  split at e
  case isFalse => cases e
  rename_i hb
  subst hb
  refine ⟨(Array.getElem?_eq_some_iff.1 hc).1, ?_⟩
  simp only [World.cell?, hc]
  have e2 : ((debs.map fun z => Value.int .u8 z).toArray)[o]? = some v := by
    rw [List.getElem?_toArray, List.getElem?_map]
    exact e
  rw [e2]
  rfl
def bs (l : List Nat) : ByteArray := ⟨(l.map UInt8.ofNat).toArray⟩
theorem none_ok : TabOk Tryz.prog [] := fun x hx => by cases hx
set_option maxRecDepth 1000000 in
theorem fns : fnsB Tryz.prog.funcs.toList = true := by kernel_rfl
theorem mixed : Tryz.prog.follows .mixedOrders = true := by kernel_rfl
end Go.Proofs.YtjbjpjaeagopjaaGreatDoor.Peep
