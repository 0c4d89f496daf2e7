/- What all the runs of the law lean on. -/
import Derived.Test.YtbkgehknhjkaoaaGreatDoorProg
import Derived.Test.YtbkgehknhjkaoaaGreatDoorEvM6
import Derived.KernelRfl
import Derived.Lib.LaidTab
namespace Go.Proofs.YtbkgehknhjkaoaaGreatDoor.Pipe
open Go Go.Proofs.YtbkgehknhjkaoaaGreatDoor.Ev
def isT : SV → Bool
  | .bool true => true
  | _ => false
theorem isT_flat : ∀ sv, isT sv = true → flat sv = some (.bool true) := by
  intro sv h
  unfold isT at h
  split at h
  · rfl
  · cases h
def debs : List Int := [0, 1, 56, 2, 57, 49, 28, 3, 61, 58, 42, 50, 38, 29, 17, 4, 62, 47, 59, 36, 45, 43, 51, 22, 53, 39, 33, 30, 24, 18, 12, 5, 63, 55, 48, 27, 60, 41, 37, 16, 46, 35, 44, 21, 52, 32, 23, 11, 54, 26, 40, 15, 34, 20, 31, 10, 25, 14, 19, 9, 13, 8, 7, 6]
def ords : List Int := [1, 4, 6, 2, 3, 1, 4, 5, 7, 4, 5, 6, 2, 3, 9, 1, 4, 5, 7, 8, 4, 5, 7, 6, 2, 3]
def vary : List Value := [.bool true, .bool true, .int .i64 0]
def zer : List Value := [.int .i64 (-1), .int .i64 0]
def ty : Ty := ⟨206, 3, 4⟩
noncomputable instance : GTab := ⟨fun b o => bif Nat.beq b 0 then (ords.map fun z => Value.int .i64 z)[o]? else bif Nat.beq b 1 then vary[o]? else bif Nat.beq b 2 then zer[o]? else bif Nat.beq b 3 then (debs.map fun z => Value.int .u8 z)[o]? else none, fun ks ob => pSet Tryz.prog ty ks ob⟩
theorem var_cells {W : World} {name : String} {g : Nat} {l : List Value} (hg : Tryz.prog.globalNamed name = some g) (h : W.var? Tryz.prog name = some l.toArray) {o : Nat} {v : Value} (e : l[o]? = some v) : g < W.heap.size ∧ W.cell? ⟨g, o, none⟩ = some v := by
  unfold World.var? at h
  rw [hg] at h
  simp only [Option.bind_some] at h
  split at h
  case h_2 => cases h
  rename_i cs t z hc
  have h := Option.some.inj h
  subst h
  refine ⟨(Array.getElem?_eq_some_iff.1 hc).1, ?_⟩
  simp only [World.cell?, hc]
  rw [List.getElem?_toArray, e]
  rfl
theorem gok_of {W : World} (h0 : Lib.TabIs Tryz.prog W "cupel/pipeline.orders" .i64 ords) (h1 : W.var? Tryz.prog "cupel/fold.varying" = some vary.toArray) (h2 : W.var? Tryz.prog "cupel/inline.zero" = some zer.toArray) (h3 : Lib.TabIs Tryz.prog W "math/bits.deBruijn64tab" .u8 debs) : GOk W := by
  refine ⟨fun b o v e => ?_⟩
  have e : (bif Nat.beq b 0 then (ords.map fun z => Value.int .i64 z)[o]? else bif Nat.beq b 1 then vary[o]? else bif Nat.beq b 2 then zer[o]? else bif Nat.beq b 3 then (debs.map fun z => Value.int .u8 z)[o]? else none) = some v := e
  rw [Tr.bif_beq] at e
  split at e
  · rename_i hb
    subst hb
    exact var_cells (by kernel_rfl) h0 e
  rw [Tr.bif_beq] at e
  split at e
  · rename_i hb
    subst hb
    exact var_cells (by kernel_rfl) h1 e
  rw [Tr.bif_beq] at e
  split at e
  · rename_i hb
    subst hb
    exact var_cells (by kernel_rfl) h2 e
  rw [Tr.bif_beq] at e
  split at e
  · rename_i hb
    subst hb
    exact var_cells (by kernel_rfl) h3 e
  · cases e
def bs (l : List Nat) : ByteArray := ⟨(l.map UInt8.ofNat).toArray⟩
theorem none_ok : TabOk Tryz.prog [] := fun x hx => by cases hx
set_option maxRecDepth 1000000 in
theorem fns : fnsB Tryz.prog.funcs.toList = true := by kernel_rfl
theorem mixed : Tryz.prog.follows .mixedOrders = true := by kernel_rfl
theorem ty_ok : TyOk Tryz.prog ty := ⟨by kernel_rfl, by kernel_rfl, by kernel_rfl, fun _ _ => Iff.rfl⟩
end Go.Proofs.YtbkgehknhjkaoaaGreatDoor.Pipe
