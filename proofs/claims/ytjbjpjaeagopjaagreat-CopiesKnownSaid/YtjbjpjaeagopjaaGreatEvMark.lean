/- The marks among a frame's deferred calls are taken at its end. -/
import Derived.Test.YtjbjpjaeagopjaaGreatEvDraw7
import Derived.RangeFuncLeaves
import Derived.RangeFuncRecord
set_option linter.unusedSimpArgs false
set_option linter.unusedVariables false
set_option linter.unusedSectionVars false
namespace Go.Proofs.YtjbjpjaeagopjaaGreat.Ev
open Go Go.RowKit

variable [GTab] {P : Program} {W0 : World} [GOk W0]
noncomputable def asDf (so : SO) (d : Bool) : Bool := SO.rec (fun _ _ _ => false) (fun _ _ => false) (fun _ _ _ _ _ _ _ _ => false) d so
theorem asDf_ok {so : SO} {d : Bool} (h : asDf so d = true) : so = .df ∧ d = true := by
  cases so with
  | df => exact ⟨rfl, h⟩
  | row => cases h
  | mp => cases h
  | lp => cases h
/-- The blocks of the marks are taken away. -/
noncomputable def dropK (l : List Nat) : HS → (HS → Bool) → Bool :=
  List.rec (fun h k => k h) (fun D _ ih h k => HS.rec (fun hp nx ne bar => getQ hp D fun so => asDf so (Bool.rec false (hp.putK D none fun hp' => ih ⟨hp', nx, ne, bar⟩ k) (Nat.ble bar D))) h) l
theorem Rel.taken {E : Env} {g : Tr SO} {w : World} (r : Rel W0 E g.get w) {D : Nat} {so : SO} (hD : g.get D = some so) {s : Spot} (hs : E.at_ D = some s) (ob : Obj) : Rel W0 E (g.put D none).get (w.putObj s.blk ob) := by
  obtain ⟨s', a, b, c⟩ := r.obj D _ hD
  obtain rfl := Option.some.inj (a.symm.trans hs)
  have hoth : ∀ j, j ≠ s'.blk → (w.putObj s'.blk ob).heap[j]? = w.heap[j]? := fun j hj => World.putObj_heap_other hj
  have hb := r.below.size
  refine ⟨⟨r.below.os, r.below.tape, r.below.output, by simpa using hb, fun j hj => (hoth j (by omega)).trans (r.below.block j hj)⟩, fun j o' e => ?_, fun j j' o1 o2 p1 p2 g1 g2 g3 g4 g5 => ?_⟩
  · rw [Tr.get_put] at e
    by_cases hj : j = D
    · rw [if_pos hj] at e; cases e
    · rw [if_neg hj] at e
      obtain ⟨sj, k1, k2, k3⟩ := r.obj j o' e
      exact ⟨sj, k1, k2, k3.of_heap (hoth _ fun eq => hj (r.inj j D o' _ sj s' e hD k1 a eq))⟩
  · rw [Tr.get_put] at g1 g2
    split at g1
    · cases g1
    · split at g2
      · cases g2
      · exact r.inj j j' o1 o2 p1 p2 g1 g2 g3 g4 g5
theorem dropK_ok (l : List Nat) : ∀ (h : HS) (k : HS → Bool), dropK l h k = true → ∃ h', k h' = true ∧ Goes h h' ∧ (h'.nx = h.nx ∧ h'.ne = h.ne) ∧ ∀ (E : Env) (w : World) (ds : List Deferred) (fn : Func) (tmps : Array Value) (R : Ending → World → Prop), Rel W0 E h.hp.get w → Marks E l ds →
    (∀ w', Rel W0 E h'.hp.get w' → Step h.bar h.hp.get h.nx h'.nx h.ne h'.ne E E w w' → LeavesInM Fence.wide 0 P fn tmps R [] .returning w') → LeavesInM Fence.wide 0 P fn tmps R ds .returning w := by
  induction l with
  | nil =>
    intro h k hk
    refine ⟨h, hk, Goes.refl h, ⟨rfl, rfl⟩, fun E w ds fn tmps R r hm hR => ?_⟩
    have hm : ds = [] := hm
    subst hm
    exact hR w r (Step.refl _ _ _ _ _ _)
  | cons D l ih =>
    intro h k hk
    obtain ⟨hp, nx, ne, bar⟩ := h
    have hk : (getQ hp D fun so => asDf so (Bool.rec false (hp.putK D none fun hp' => dropK l ⟨hp', nx, ne, bar⟩ k) (Nat.ble bar D))) = true := hk
    rw [getQ_eq] at hk
    split at hk
    case h_2 => cases hk
    rename_i so hso
    obtain ⟨rfl, hk⟩ := asDf_ok hk
    obtain ⟨hb, hk⟩ := rec_true hk
    have hb := Nat.le_of_ble_eq_true hb
    rw [Tr.putK_eq] at hk
    obtain ⟨h', k1, g, ⟨n1, n2⟩, ok⟩ := ih _ _ hk
    have g0 : Goes ⟨hp, nx, ne, bar⟩ ⟨hp.put D none, nx, ne, bar⟩ := by
      refine ⟨fun j hj => ?_, rfl, Nat.le_refl _, Nat.le_refl _, fun j x e => ?_⟩
      · have hj : j < bar := hj
        show (hp.put D none).get j = _
        rw [Tr.get_put, if_neg (by omega)]
      · have e : (hp.put D none).get j = some x := e
        rw [Tr.get_put] at e
        split at e
        · cases e
        · exact .inr ⟨x, e⟩
    refine ⟨h', k1, g0.trans g, ⟨n1, n2⟩, fun E w ds fn tmps R r hm hR => ?_⟩
    obtain ⟨s, ds', hs, rfl, hm⟩ := hm
    obtain ⟨s', a, b, c⟩ := r.obj D _ hso
    obtain rfl := Option.some.inj (a.symm.trans hs)
    have c : w.heap[s'.blk]? = some (.deferred (some [])) := c
    refine ⟨by simp, .inl ⟨s'.blk, _, rfl, run_takeDeferred c, ok E _ ds' fn tmps R (r.taken hso a _) hm fun w' r' st => hR w' r' ?_⟩⟩
    have st0 : Step bar hp.get nx nx ne ne E E w (w.putObj s'.blk (.deferred none)) := Step.upd hso hb a (by simp) (fun j hj => World.putObj_heap_other hj)
    exact Step.trans g0 g st0 st
noncomputable def asMks (s : SV) : (List Nat → Bool) → Bool → Bool :=
  SV.rec (motive_1 := fun _ => (List Nat → Bool) → Bool → Bool) (motive_2 := fun _ => Unit) (fun _ _ d => d) (fun _ _ _ d => d) (fun _ _ d => d) (fun _ _ _ d => d) (fun _ _ _ _ _ d => d) (fun _ _ _ _ _ d => d) (fun _ _ _ _ _ d => d) (fun _ _ d => d) (fun _ _ _ _ _ _ d => d) (fun _ _ _ _ d => d) (fun _ _ _ d => d) (fun _ _ _ d => d) (fun _ _ d => d) (fun l k _ => k l) () (fun _ _ _ _ => ()) s
theorem asMks_ok {s : SV} {k : List Nat → Bool} {d : Bool} (h : asMks s k d = true) : (∃ l, s = .mks l ∧ k l = true) ∨ ((∀ l, s ≠ .mks l) ∧ d = true) := by
  cases s <;> first | exact .inl ⟨_, rfl, h⟩ | exact .inr ⟨(fun l e => by cases e), h⟩
/-- The frame's end: the marks that it holds. -/
noncomputable def endK (p : Pa) (fr : Tr SV) (h : HS) (k : HS → Bool) : Bool := getP fr p fun v => asMks v (fun l => dropK l h k) (k h)
theorem endK_ok {N : Nat} {fr : Tr SV} {h : HS} {k : HS → Bool} (hk : endK (pa N) fr h k = true) : ∃ h', k h' = true ∧ Goes h h' ∧ (h'.nx = h.nx ∧ h'.ne = h.ne) ∧ ∀ (E : Env) (w : World) (ds : List Deferred) (fn : Func) (tmps : Array Value) (R : Ending → World → Prop), Rel W0 E h.hp.get w → DefOk E (opd fr (.tmp N)) ds →
    (∀ w', Rel W0 E h'.hp.get w' → Step h.bar h.hp.get h.nx h'.nx h.ne h'.ne E E w w' → LeavesInM Fence.wide 0 P fn tmps R [] .returning w') → LeavesInM Fence.wide 0 P fn tmps R ds .returning w := by
  unfold endK at hk
  rw [getP_eq, opdK_eq] at hk
  rcases asMks_ok hk with ⟨l, e, q⟩ | ⟨e, q⟩
  · obtain ⟨h', k1, g, n, ok⟩ := dropK_ok (W0 := W0) (P := P) l h k q
    refine ⟨h', k1, g, n, fun E w ds fn tmps R r hd hR => ok E w ds fn tmps R r ?_ hR⟩
    rw [e] at hd
    exact hd
  · refine ⟨h, q, Goes.refl h, ⟨rfl, rfl⟩, fun E w ds fn tmps R r hd hR => ?_⟩
    have : ds = [] := by
      unfold DefOk at hd
      split at hd
      · rename_i l hl; exact absurd hl (e l)
      · exact hd
    subst this
    exact hR w r (Step.refl _ _ _ _ _ _)
end Go.Proofs.YtjbjpjaeagopjaaGreat.Ev
