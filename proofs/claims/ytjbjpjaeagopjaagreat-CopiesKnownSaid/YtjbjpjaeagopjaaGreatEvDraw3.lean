/- Any order: a region that draws. -/
import Derived.Test.YtjbjpjaeagopjaaGreatEvDraw2
set_option linter.unusedSimpArgs false
set_option linter.unusedVariables false
set_option linter.unusedSectionVars false
namespace Go.Proofs.YtjbjpjaeagopjaaGreat.Ev
open Go

variable [GTab] {P : Program} {W0 : World} [GOk W0] {N : Nat} {ops : Array Oper} {p : Nat → Pl} {fr : Nat → Tr SV} {h0 : Hp} {fr0 : Tr SV} {b nx0 nxN ne0 neN : Nat}
def upOf (up : Array Bool) (j : Nat) : Bool := up.getD j false
theorem filter_lt {α : Type} (q r : α → Bool) (l : List α) (h : ∀ x, q x = true → r x = true) : (l.filter q).length ≤ (l.filter r).length ∧ ∀ x ∈ l, r x = true → q x = false → (l.filter q).length < (l.filter r).length := by
  induction l with
  | nil => exact ⟨Nat.le_refl _, fun x hx => by cases hx⟩
  | cons y l ih =>
    simp only [List.filter_cons]
    cases hq : q y with
    | true =>
      rw [h y hq]
      simp only [if_true, List.length_cons]
      refine ⟨by have := ih.1; omega, fun x hx hr hn => ?_⟩
      rcases List.mem_cons.1 hx with e | e
      · subst e; rw [hq] at hn; cases hn
      · have := ih.2 x e hr hn; omega
    | false =>
      cases hr : r y with
      | true =>
        simp only [if_true, Bool.false_eq_true, if_false, List.length_cons]
        refine ⟨by have := ih.1; omega, fun x hx _ _ => by have := ih.1; omega⟩
      | false =>
        simp only [Bool.false_eq_true, if_false]
        refine ⟨ih.1, fun x hx hr' hn => ?_⟩
        rcases List.mem_cons.1 hx with e | e
        · subst e; rw [hr] at hr'; cases hr'
        · exact ih.2 x e hr' hn
def unl (n : Nat) (up : Array Bool) : Nat := ((List.range n).filter fun j => !upOf up j).length
theorem upOf_set {up : Array Bool} {i : Nat} (hi : i < up.size) (j : Nat) : upOf (up.setIfInBounds i true) j = if j = i then true else upOf up j := by
  unfold upOf
  by_cases e : j = i
  · subst e; simp [hi]
  · rw [getD_set_ne false (Ne.symm e), if_neg e]
theorem any_of_inv {ro : Option Nat} (D : Draw P W0 N ops p fr h0 fr0 b nx0 nxN ne0 neN) {E0 : Env} {w0 : World} {Q : Exit → Act → World → Prop} (hQ : ∀ E a w, Inv P W0 N ops p h0 fr0 b nx0 nxN ne0 neN E0 w0 (fun _ => true) E a w → Q .normal a w) (f : Nat) :
    ∀ (up : Array Bool) (E : Env) (a : Act) (w : World), up.size = ops.size → Closed ops (upOf up) → unl ops.size up ≤ f → Inv P W0 N ops p h0 fr0 b nx0 nxN ne0 neN E0 w0 (upOf up) E a w → wpAnyIn (Fw ro) 0 P .any ops Q f up a w := by
  have done : ∀ (up : Array Bool) (E : Env) (a : Act) (w : World), (∀ j, j < ops.size → upOf up j = true) → Inv P W0 N ops p h0 fr0 b nx0 nxN ne0 neN E0 w0 (upOf up) E a w → Q .normal a w := by
    intro up E a w hall I
    refine hQ E a w ⟨?_, ?_, I.step, fun i _ hf => by cases hf⟩
    · have e : gU ops p h0 (fun _ => true) = gU ops p h0 (upOf up) := by
        funext id
        exact last_congr _ _ fun j hj _ => (hall j (List.mem_range.1 hj)).symm
      rw [e]
      exact I.rel
    · refine I.frok.of_get fun t => ?_
      rw [get_frL, get_frL]
      exact last_congr _ _ fun j hj _ => (hall j (List.mem_range.1 hj)).symm
  have fin : ∀ (up : Array Bool), up.size = ops.size → Region.ready .any ops up = [] → ∀ j, j < ops.size → upOf up j = true := by
    intro up hs hr j
    induction j using Nat.strongRecOn with
    | _ j ih =>
      intro hj
      cases hu : upOf up j with
      | true => rfl
      | false =>
        exfalso
        have hj' : ops[j]? = some ops[j] := Array.getElem?_eq_getElem hj
        have : j ∈ Region.ready .any ops up := mem_ready.2 ⟨getD_in (by rw [hs]; exact hj) hu, ops[j], hj', fun e he hb => ih e.on (D.edge j _ hj' e he hb) (Nat.lt_trans (D.edge j _ hj' e he hb) hj)⟩
        rw [hr] at this
        cases this
  have rest : ∀ (up : Array Bool), (∀ j, j < ops.size → upOf up j = true) → Region.ready .any ops up = [] := by
    intro up hall
    cases hr : Region.ready .any ops up with
    | nil => rfl
    | cons j l =>
      exfalso
      have hm : j ∈ Region.ready .any ops up := by rw [hr]; exact List.mem_cons_self
      obtain ⟨h1, o, ho, _⟩ := mem_ready.1 hm
      have := hall j (Array.getElem?_eq_some_iff.1 ho).1
      unfold upOf at this
      rw [getD_both h1] at this
      cases this
  induction f with
  | zero =>
    intro up E a w hs c hu I
    have hall : ∀ j, j < ops.size → upOf up j = true := fun j hj => by
      cases hq : upOf up j with
      | true => rfl
      | false =>
        exfalso
        have : j ∈ (List.range ops.size).filter fun j => !upOf up j := List.mem_filter.2 ⟨List.mem_range.2 hj, by rw [hq]; rfl⟩
        have h2 := List.length_pos_of_mem this
        unfold unl at hu
        omega
    exact ⟨rest up hall, done up E a w hall I⟩
  | succ f ih =>
    intro up E a w hs c hu I
    refine ⟨fun hr => done up E a w (fin up hs hr) I, fun i hi => ?_⟩
    obtain ⟨h1, o, ho, hr⟩ := mem_ready.1 hi
    have hn : i < ops.size := (Array.getElem?_eq_some_iff.1 ho).1
    have hset := upOf_set (up := up) (i := i) (by rw [hs]; exact hn)
    refine inv_step D c ho (getD_both h1) hr hset I fun E' a' w' I' => ih _ E' a' w' (by simp [hs]) ?_ ?_ I'
    · intro j oj hj hu' e he hb
      rw [hset] at hu' ⊢
      by_cases q : e.on = i
      · rw [if_pos q]
      · rw [if_neg q]
        by_cases q2 : j = i
        · subst q2
          rw [ho] at hj
          obtain rfl := Option.some.inj hj
          exact hr e he hb
        · rw [if_neg q2] at hu'
          exact c j oj hj hu' e he hb
    · have := (filter_lt (fun j => !upOf (up.setIfInBounds i true) j) (fun j => !upOf up j) (List.range ops.size) (fun x hx => by
        rw [hset] at hx
        split at hx
        · cases hx
        · exact hx)).2 i (List.mem_range.2 hn) (by show (!upOf up i) = true; unfold upOf; rw [getD_both h1]; rfl) (by show (!upOf (up.setIfInBounds i true) i) = false; rw [hset, if_pos rfl]; rfl)
      unfold unl at hu ⊢
      omega
theorem draw_region {ro : Option Nat} (hm : P.follows .mixedOrders = true) (D : Draw P W0 N ops p fr h0 fr0 b nx0 nxN ne0 neN) {id : Nat} {E0 : Env} {a0 : Act} {w0 : World} (r : Rel W0 E0 h0 w0) (fe : Free E0 nx0 nxN ne0 neN) (fo : FrOk E0 fr0 N a0) {Q : Exit → Act → World → Prop}
    (hQ : ∀ E' a' w', Rel W0 E' (gU ops p h0 fun _ => true) w' → Step b h0 nx0 nxN ne0 neN E0 E' w0 w' → FrOk E' (frL ops p (fun _ => true) (List.range ops.size) fr0) N a' → Q .normal a' w') : (Code.region id ops true).wpIn (Fw ro) 0 P Q a0 w0 := by
  refine wpIn_region_any hm (any_of_inv D (E0 := E0) (w0 := w0) (fun E a w I => hQ E a w I.rel I.step I.frok) ops.size _ E0 a0 _ (by simp) (fun j o _ hu => ?_) ?_ ⟨?_, ?_, ?_, fun i hi _ => ?_⟩)
  · unfold upOf at hu
    rw [getD_replicate_false] at hu
    cases hu
  · unfold unl
    exact Nat.le_trans (List.length_filter_le _ _) (by simp)
  · have e : gU ops p h0 (upOf (Array.replicate ops.size false)) = h0 := by
      funext id
      exact last_same _ _ fun i _ hu => by unfold upOf at hu; rw [getD_replicate_false] at hu; cases hu
    rw [e]
    exact r.drew
  · refine fo.of_get fun t => ?_
    rw [get_frL]
    exact last_same _ _ fun i _ hu => by unfold upOf at hu; rw [getD_replicate_false] at hu; cases hu
  · exact ⟨E0.le_refl, fun _ _ => rfl, fun _ _ => rfl, Nat.le_refl _, fun _ _ _ => rfl, fun id s x y e => by rw [fe.at_ id x y] at e; cases e⟩
  · obtain ⟨c1, c2, c3, c4, c5, c6, _⟩ := D.box i hi
    exact ⟨fun id x y => fe.at_ id (by omega) (by omega), fun j x y => fe.emp j (by omega) (by omega)⟩
end Go.Proofs.YtjbjpjaeagopjaaGreat.Ev
