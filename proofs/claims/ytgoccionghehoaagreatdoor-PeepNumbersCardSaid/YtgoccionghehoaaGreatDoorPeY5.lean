/- Other functions raised: the same claims. -/
import Derived.Test.YtgoccionghehoaaGreatDoorPeX
set_option linter.unusedSimpArgs false
set_option linter.unusedVariables false
set_option linter.unusedSectionVars false
namespace Go.Proofs.YtgoccionghehoaaGreatDoor.Ev
open Go Go.Proofs

theorem obj_g {g g' : GTab} (h : g.set = g'.set) {E : Env} {s : Spot} {w : World} {o : SO} (k : @objOk g E s w o) : @objOk g' E s w o := by
  cases o with
  | row n sz t => exact k
  | mp es clock => exact k
  | lp st pend fr N ps assign body D => exact k
  | df => exact k
  | ml ks =>
    obtain ⟨ms, clock, a, b, c⟩ := k
    exact ⟨ms, clock, a, b, by rw [← h]; exact c⟩
  | any sz => exact k
theorem rel_g {g g' : GTab} (h : g.set = g'.set) {W0 : World} {E : Env} {hp : Hp} {w : World} (r : @Rel g W0 E hp w) : @Rel g' W0 E hp w :=
  @Rel.mk g' W0 E hp w (@Rel.below g W0 E hp w r) (fun id o e => by
    obtain ⟨s, a, b, c⟩ := @Rel.obj g W0 E hp w r id o e
    exact ⟨s, a, b, obj_g h c⟩) (@Rel.inj g W0 E hp w r) (@Rel.fz g W0 E hp w r) (@Rel.frz g W0 E hp w r)
theorem call_g {g g' : GTab} (h : g.set = g'.set) {P : Program} {W0 : World} {f : FuncId} {l : List SV} {h1 h2 : HS} {sv : SV} (c : @CallOk g P W0 f l h1 h2 sv) : @CallOk g' P W0 f l h1 h2 sv :=
  fun E w vl rel fe hv R hR => c E w vl (rel_g h.symm rel) fe hv R fun E' v w' e r st => hR E' v w' e (rel_g h r) st
@[instance_reducible] noncomputable def G1 : GTab := ⟨fun b o => bif Nat.beq b 0 then (debs[o]?).map fun z => Value.int .u8 z else none, fun _ _ => False, fun g => !(Nat.beq g 6) && !(Nat.beq g 58)⟩
theorem gok_g {W0 : World} (h : @GOk G0 W0) : @GOk G1 W0 := @GOk.mk G1 W0 (@GOk.cell G0 W0 h)
end Go.Proofs.YtgoccionghehoaaGreatDoor.Ev
