/- Any order: the theorem. -/
import Derived.Test.YtjbjpjaeagopjaaGreatEvDraw
import Derived.OrdersIn
set_option linter.unusedSimpArgs false
set_option linter.unusedVariables false
set_option linter.unusedSectionVars false
namespace Go.Proofs.YtjbjpjaeagopjaaGreat.Ev
open Go

variable [GTab] {P : Program} {W0 : World} [GOk W0]
def dstOf (ops : Array Oper) (i : Nat) : Option Tmp := (ops[i]?).bind (·.dst)
noncomputable def wF (ops : Array Oper) (p : Nat → Pl) (t : Nat) (i : Nat) : Option (Option SV) := if dstOf ops i = some t then some (some (p i).sv) else none
/-- What operation i does, from every frame that is fr where it looks. -/
def PlOk (P : Program) (W0 : World) (N : Nat) (ops : Array Oper) (i : Nat) (fr : Tr SV) (p : Pl) : Prop :=
  ∀ ro fr' E a w, (∀ o, ops[i]? = some o → Same fr fr' o.op.operands ∧ SameG ops o fr fr') → Rel W0 E p.view w → Free E p.nx p.nx' p.ne p.ne' → FrOk E fr' N a → ∀ (K : Act → World → Prop) (Q : Exit → Act → World → Prop),
    (∀ E' v w', val E' p.sv = some v → Rel W0 E' p.out w' → Step p.bar p.view p.nx p.nx' p.ne p.ne' E E' w w' → K (a.put (dstOf ops i) v) w') → wpOpIn (Fw ro) 0 P ops Q i K a w
structure Draw (P : Program) (W0 : World) (N : Nat) (ops : Array Oper) (p : Nat → Pl) (fr : Nat → Tr SV) (h0 : Hp) (fr0 : Tr SV) (b nx0 nxN ne0 neN : Nat) : Prop where
  ok : ∀ i, i < ops.size → PlOk P W0 N ops i (fr i) (p i)
  lives : ∀ i, i < ops.size → (p i).lives
  lexF : ∀ i, i < ops.size → ∀ t, (fr i).get t = last (wF ops p t) (fun j => decide (j < i)) (List.range ops.size) (fr0.get t)
  lexH : ∀ i, i < ops.size → ∀ id o, (p i).view id = some o → last (wH p id) (fun j => decide (j < i)) (List.range ops.size) (h0 id) = some o
  ind : ∀ i j, i < ops.size → j < ops.size → i ≠ j → ¬ Bef ops i j → ¬ Bef ops j i → ∀ id, (p i).out id ≠ (p i).view id → (p j).view id = none ∧ (p j).out id = none
  apart : ∀ i j oi oj, ops[i]? = some oi → ops[j]? = some oj → i ≠ j → ¬ Bef ops i j → ¬ Bef ops j i → oi.apart ops oj = true
  inN : ∀ i, i < ops.size → inN N (dstOf ops i)
  nx : ∀ i j, i < j → j < ops.size → (p i).nx' ≤ (p j).nx
  ne : ∀ i j, i < j → j < ops.size → (p i).ne' ≤ (p j).ne
  box : ∀ i, i < ops.size → nx0 ≤ (p i).nx ∧ (p i).nx ≤ (p i).nx' ∧ (p i).nx' ≤ nxN ∧ ne0 ≤ (p i).ne ∧ (p i).ne ≤ (p i).ne' ∧ (p i).ne' ≤ neN ∧ b ≤ (p i).bar
  edge : ∀ i o, ops[i]? = some o → ∀ e ∈ o.after, Region.binds .any e = true → e.on < i

noncomputable def gU (ops : Array Oper) (p : Nat → Pl) (h0 : Hp) (up : Nat → Bool) : Hp := fun id => last (wH p id) up (List.range ops.size) (h0 id)
noncomputable def frL (ops : Array Oper) (p : Nat → Pl) (up : Nat → Bool) (l : List Nat) (fr : Tr SV) : Tr SV := l.foldl (fun fr i => bif up i then putD (dstOf ops i) (p i).sv fr else fr) fr
theorem get_putD (dst : Option Tmp) (sv : SV) (fr : Tr SV) (t : Nat) : (putD dst sv fr).get t = (if dst = some t then some (some sv) else none).getD (fr.get t) := by
  cases dst with
  | none => rfl
  | some d =>
    show (fr.put d (some sv)).get t = _
    rw [Tr.get_put]
    by_cases e : t = d
    · subst e; simp
    · rw [if_neg e, if_neg (fun q => e (Option.some.inj q).symm)]; rfl
theorem get_frL (ops : Array Oper) (p : Nat → Pl) (up : Nat → Bool) (t : Nat) (l : List Nat) : ∀ fr : Tr SV, (frL ops p up l fr).get t = last (wF ops p t) up l (fr.get t) := by
  induction l with
  | nil => intro fr; rfl
  | cons i l ih =>
    intro fr
    show (frL ops p up l (bif up i then putD (dstOf ops i) (p i).sv fr else fr)).get t = _
    rw [ih, last_cons]
    congr 1
    cases up i with
    | false => rfl
    | true => exact get_putD _ _ _ _
theorem FrOk.of_get {E : Env} {fr fr' : Tr SV} {N : Nat} {a : Act} (f : FrOk E fr N a) (h : ∀ t, fr'.get t = fr.get t) : FrOk E fr' N a := ⟨f.size, by rw [h]; exact f.defers, fun t => by rw [h]; exact f.get t⟩

section
variable {N : Nat} {ops : Array Oper} {p : Nat → Pl} {fr : Nat → Tr SV} {h0 : Hp} {fr0 : Tr SV} {b nx0 nxN ne0 neN : Nat}
theorem Bef.lt (h : ∀ i o, ops[i]? = some o → ∀ e ∈ o.after, Region.binds .any e = true → e.on < i) {i j : Nat} (k : Bef ops i j) : i < j := by
  induction k with
  | one a d e => exact h _ _ a _ d e
  | step _ a d e ih => exact Nat.lt_trans ih (h _ _ a _ d e)
structure Inv (P : Program) (W0 : World) (N : Nat) (ops : Array Oper) (p : Nat → Pl) (h0 : Hp) (fr0 : Tr SV) (b nx0 nxN ne0 neN : Nat) (E0 : Env) (w0 : World) (up : Nat → Bool) (E : Env) (a : Act) (w : World) : Prop where
  rel : Rel W0 E (gU ops p h0 up) w
  frok : FrOk E (frL ops p up (List.range ops.size) fr0) N a
  step : Step b h0 nx0 nxN ne0 neN E0 E w0 w
  free : ∀ i, i < ops.size → up i = false → Free E (p i).nx (p i).nx' (p i).ne (p i).ne'
/-- Whether it has come up is whether it stands ahead, for all that is ordered with i. -/
theorem up_iff (D : Draw P W0 N ops p fr h0 fr0 b nx0 nxN ne0 neN) {up : Nat → Bool} (c : Closed ops up) {i : Nat} {o : Oper} (ho : ops[i]? = some o) (hi : up i = false) (hr : ∀ e ∈ o.after, Region.binds .any e = true → up e.on = true) {j : Nat} (h : j = i ∨ Bef ops i j ∨ Bef ops j i) : decide (j < i) = up j := by
  rcases h with rfl | h | h
  · rw [hi]; simp
  · have := h.lt D.edge
    have hu : up j = false := by
      cases hq : up j with
      | false => rfl
      | true => rw [c.bef h hq] at hi; cases hi
    rw [hu]
    simp
    omega
  · rw [h.of_ready c ho hr]
    have := h.lt D.edge
    simpa using this
theorem or_unordered (i j : Nat) : j = i ∨ Bef ops i j ∨ Bef ops j i ∨ (i ≠ j ∧ ¬ Bef ops i j ∧ ¬ Bef ops j i) := by
  by_cases h1 : j = i
  · exact .inl h1
  by_cases h2 : Bef ops i j
  · exact .inr (.inl h2)
  by_cases h3 : Bef ops j i
  · exact .inr (.inr (.inl h3))
  exact .inr (.inr (.inr ⟨fun e => h1 e.symm, h2, h3⟩))
theorem wH_ne {id i : Nat} (h : wH p id i ≠ none) : (p i).out id ≠ (p i).view id := by
  unfold wH at h
  split at h
  · exact absurd rfl h
  · assumption
theorem wH_eq {id i : Nat} (h : (p i).out id = (p i).view id) : wH p id i = none := by unfold wH; rw [if_pos h]
theorem inv_step {ro : Option Nat} (D : Draw P W0 N ops p fr h0 fr0 b nx0 nxN ne0 neN) {E0 : Env} {w0 : World} {up up' : Nat → Bool} (c : Closed ops up) {i : Nat} {o : Oper} (ho : ops[i]? = some o) (hi : up i = false) (hr : ∀ e ∈ o.after, Region.binds .any e = true → up e.on = true)
    (hup : ∀ j, up' j = if j = i then true else up j) {E : Env} {a : Act} {w : World} (I : Inv P W0 N ops p h0 fr0 b nx0 nxN ne0 neN E0 w0 up E a w) {K : Act → World → Prop} {Q : Exit → Act → World → Prop}
    (hK : ∀ E' a' w', Inv P W0 N ops p h0 fr0 b nx0 nxN ne0 neN E0 w0 up' E' a' w' → K a' w') : wpOpIn (Fw ro) 0 P ops Q i K a w := by
  have hn : i < ops.size := (Array.getElem?_eq_some_iff.1 ho).1
  obtain ⟨b1, b2, b3, b4, b5, b6, b7⟩ := D.box i hn
  have hv : ∀ id o, (p i).view id = some o → gU ops p h0 up id = some o := fun id o1 h1 => by
    rw [← D.lexH i hn id o1 h1]
    unfold gU
    exact (last_congr _ _ fun j hj hw => up_iff D c ho hi hr (by
      rcases or_unordered (ops := ops) i j with q | q | q | ⟨q1, q2, q3⟩
      · exact .inl q
      · exact .inr (.inl q)
      · exact .inr (.inr q)
      · have := (D.ind j i (List.mem_range.1 hj) hn (Ne.symm q1) q3 q2 id (wH_ne hw)).1
        rw [h1] at this
        cases this)).symm
  have apart : ∀ j oj, ops[j]? = some oj → i ≠ j → ¬ Bef ops i j → ¬ Bef ops j i → (∀ d, oj.dst = some d → d ∉ o.looksAt ops) ∧ (∀ d, oj.dst = some d → o.dst ≠ some d) := fun j oj hj q1 q2 q3 => by
    have := Oper.apart_spec (D.apart j i oj o hj ho (Ne.symm q1) q3 q2)
    exact ⟨this.1, this.2.1⟩
  have frs : ∀ t, t ∈ o.looksAt ops → (fr i).get t = (frL ops p up (List.range ops.size) fr0).get t := fun t ht => by
    rw [get_frL, D.lexF i hn t]
    exact last_congr _ _ fun j hj hw => up_iff D c ho hi hr (by
      rcases or_unordered (ops := ops) i j with q | q | q | ⟨q1, q2, q3⟩
      · exact .inl q
      · exact .inr (.inl q)
      · exact .inr (.inr q)
      · exfalso
        have hjn := List.mem_range.1 hj
        have hj' : ops[j]? = some ops[j] := Array.getElem?_eq_getElem hjn
        unfold wF at hw
        split at hw
        · rename_i hd
          refine (apart j _ hj' q1 q2 q3).1 t ?_ ht
          unfold dstOf at hd
          rw [hj'] at hd
          exact hd
        · exact hw rfl)
  refine D.ok i hn ro (frL ops p up (List.range ops.size) fr0) E a w (fun o' ho' => ?_) ?_ (I.free i hn hi) I.frok K Q fun E' v w' e1 r' st => hK E' _ w' ?_
  · rw [ho] at ho'
    obtain rfl := Option.some.inj ho'
    refine ⟨fun x hx => ?_, fun g want t hg ht => ?_⟩
    · cases x with
      | tmp t =>
        simp only [opd]
        rw [frs t (List.mem_append_left _ (List.mem_filterMap.2 ⟨.tmp t, by simpa using hx, rfl⟩))]
      | const v => cases v <;> rfl
      | global g => rfl
      | func f => rfl
    · simp only [opd]
      rw [frs t (List.mem_append_right _ (by rw [hg]; simp [ht]))]
  · exact ⟨I.rel.below, fun id o1 h1 => I.rel.obj id o1 (hv id o1 h1), fun id id' o1 o2 s s' h1 h2 => I.rel.inj id id' o1 o2 s s' (hv id o1 h1) (hv id' o2 h2)⟩
  · refine ⟨?_, ?_, ?_, ?_⟩
    · have := I.rel.frame hv (D.lives i hn) r' st
      have e : gU ops p h0 up' = ov (p i) (gU ops p h0 up) := by
        funext id
        unfold gU
        rw [last_put hn hup]
        · unfold wH ov
          split <;> rfl
        · intro j hj1 hj2 hu hw
          rcases or_unordered (ops := ops) i j with q | q | q | ⟨q1, q2, q3⟩
          · omega
          · rw [c.bef q hu] at hi; cases hi
          · have := q.lt D.edge; omega
          · have := D.ind i j hn hj2 q1 q2 q3 id (wH_ne hw)
            exact wH_eq (this.2.trans this.1.symm)
      rw [e]
      exact this
    · refine ((I.frok.le st.le).putD (D.inN i hn) e1).of_get fun t => ?_
      rw [get_frL, get_putD, get_frL, last_put hn hup]
      · rfl
      · intro j hj1 hj2 hu hw
        unfold wF at hw ⊢
        split at hw
        case isFalse => exact absurd rfl hw
        rename_i hd
        split
        case isFalse => rfl
        rename_i hd2
        exfalso
        rcases or_unordered (ops := ops) i j with q | q | q | ⟨q1, q2, q3⟩
        · omega
        · rw [c.bef q hu] at hi; cases hi
        · have := q.lt D.edge; omega
        · have hj' : ops[j]? = some ops[j] := by rw [Array.getElem?_eq_getElem hj2]
          unfold dstOf at hd hd2
          rw [ho] at hd
          rw [hj'] at hd2
          exact (apart j _ hj' q1 q2 q3).2 t hd2 hd
    · refine Step.frame I.step st b7 hv (fun id o1 h1 => ?_) b1 b3 b4 b6
      -- what is there is new or was there
      have key : ∀ l : List Nat, (∀ j ∈ l, j < ops.size) → ∀ x : Option SO, ((nx0 ≤ id ∧ id < nxN) ∨ (∃ o0, h0 id = some o0) ∨ x = none) → ((nx0 ≤ id ∧ id < nxN) ∨ (∃ o0, h0 id = some o0) ∨ last (wH p id) up l x = none) := by
        intro l
        induction l with
        | nil => intro _ x hx; exact hx
        | cons j l ih =>
          intro hl x hx
          rw [last_cons]
          refine ih (fun k hk => hl k (List.mem_cons_of_mem _ hk)) _ ?_
          cases up j with
          | false => exact hx
          | true =>
            simp only [cond_true]
            cases hw : wH p id j with
            | none => exact hx
            | some y =>
              have hjn := hl j List.mem_cons_self
              unfold wH at hw
              split at hw
              · cases hw
              · obtain rfl := Option.some.inj hw
                cases ho1 : (p j).out id with
                | none => exact .inr (.inr rfl)
                | some o2 =>
                  rcases D.lives j hjn id o2 ho1 with q | ⟨o3, q⟩
                  · obtain ⟨c1, c2, c3, _⟩ := D.box j hjn
                    exact .inl ⟨by omega, by omega⟩
                  · have := D.lexH j hjn id o3 q
                    by_cases hq : nx0 ≤ id ∧ id < nxN
                    · exact .inl hq
                    by_cases hq2 : ∃ o0, h0 id = some o0
                    · exact .inr (.inl hq2)
                    · exfalso
                      exact noOld D id hq (by cases hz : h0 id with | none => rfl | some z => exact absurd ⟨z, hz⟩ hq2) j hjn o3 q
      rcases key (List.range ops.size) (fun j hj => List.mem_range.1 hj) (h0 id) (by
        cases hz : h0 id with
        | none => exact .inr (.inr rfl)
        | some z => exact .inr (.inl ⟨z, rfl⟩)) with q | q | q
      · exact .inl q
      · exact .inr q
      · unfold gU at h1
        rw [q] at h1
        cases h1
    · intro j hj hu
      rw [hup] at hu
      split at hu
      · cases hu
      rename_i hne
      have f := I.free j hj hu
      obtain ⟨c1, c2, c3, c4, c5, c6, c7⟩ := D.box j hj
      rcases Nat.lt_or_gt_of_ne hne with h | h
      · have n1 := D.nx j i h hn
        have n2 := D.ne j i h hn
        exact ⟨fun id x y => by rw [st.dom id (by omega)]; exact f.at_ id x y, fun id x y => by rw [st.dome id (by omega)]; exact f.emp id x y⟩
      · have n1 := D.nx i j h hj
        have n2 := D.ne i j h hj
        exact ⟨fun id x y => by rw [st.dom id (by omega)]; exact f.at_ id x y, fun id x y => by rw [st.dome id (by omega)]; exact f.emp id x y⟩
where
  noOld (D : Draw P W0 N ops p fr h0 fr0 b nx0 nxN ne0 neN) (id : Nat) (hq : ¬ (nx0 ≤ id ∧ id < nxN)) (hz : h0 id = none) : ∀ j, j < ops.size → ∀ o, (p j).view id ≠ some o := by
    intro j
    induction j using Nat.strongRecOn with
    | _ j ih =>
      intro hj o ho
      have h1 := D.lexH j hj id o ho
      rw [last_same, hz] at h1
      · cases h1
      · intro k hk hkj
        have hk' := List.mem_range.1 hk
        have hkj' : k < j := of_decide_eq_true hkj
        refine wH_eq ?_
        have v0 : (p k).view id = none := by
          cases hv : (p k).view id with
          | none => rfl
          | some z => exact absurd hv (ih k hkj' hk' z)
        rw [v0]
        cases ho2 : (p k).out id with
        | none => rfl
        | some z =>
          rcases D.lives k hk' id z ho2 with q | ⟨z', q⟩
          · obtain ⟨c1, c2, c3, _⟩ := D.box k hk'
            exact absurd ⟨by omega, by omega⟩ hq
          · rw [v0] at q; cases q
end
end Go.Proofs.YtjbjpjaeagopjaaGreat.Ev
