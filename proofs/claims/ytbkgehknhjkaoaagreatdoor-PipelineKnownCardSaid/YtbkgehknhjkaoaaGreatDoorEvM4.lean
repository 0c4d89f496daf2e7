/- Any order of a region's operations, where those that may come up in any order do not meddle with one another. Any order: the theorem. Any order: a region that draws. What a region that draws shows before it is run: which operations wait for which, that the others stand apart, and which pairs are to be looked at when it is run. One operation of a region that draws: what it sees, and what it may change. A region that draws, run once in the order of the text. A region that draws: what one run in the order of the text says of every order. -/
import Derived.Test.YtbkgehknhjkaoaaGreatDoorEvM3
import Derived.StillTail
import Derived.OrdersIn
set_option linter.unusedSimpArgs false
set_option linter.unusedVariables false
set_option linter.unusedSectionVars false
namespace Go.Proofs.YtbkgehknhjkaoaaGreatDoor.Ev
open Go
variable [GTab]

section last
variable {β : Type} {w : Nat → Option β} {up : Nat → Bool}
def last (w : Nat → Option β) (up : Nat → Bool) (l : List Nat) (b : β) : β := l.foldl (fun b i => bif up i then (w i).getD b else b) b
theorem last_cons (i : Nat) (l : List Nat) (b : β) : last w up (i :: l) b = last w up l (bif up i then (w i).getD b else b) := rfl
theorem last_append (l m : List Nat) (b : β) : last w up (l ++ m) b = last w up m (last w up l b) := by simp [last, List.foldl_append]
theorem last_congr {u2 : Nat → Bool} (l : List Nat) : ∀ b, (∀ i ∈ l, w i ≠ none → up i = u2 i) → last w up l b = last w u2 l b := by
  induction l with
  | nil => intro b _; rfl
  | cons i l ih =>
    intro b h
    rw [last_cons, last_cons]
    have : (bif up i then (w i).getD b else b) = (bif u2 i then (w i).getD b else b) := by
      by_cases hw : w i = none
      · rw [hw]; cases up i <;> cases u2 i <;> rfl
      · rw [h i List.mem_cons_self hw]
    rw [this]
    exact ih _ fun j hj => h j (List.mem_cons_of_mem _ hj)
theorem last_same (l : List Nat) : ∀ b, (∀ i ∈ l, up i = true → w i = none) → last w up l b = b := by
  induction l with
  | nil => intro b _; rfl
  | cons i l ih =>
    intro b h
    rw [last_cons]
    have : (bif up i then (w i).getD b else b) = b := by
      cases hu : up i with
      | false => rfl
      | true => rw [h i List.mem_cons_self hu]; rfl
    rw [this]
    exact ih _ fun j hj => h j (List.mem_cons_of_mem _ hj)
theorem range_split {n i : Nat} (hi : i < n) : List.range n = List.range i ++ i :: List.range' (i + 1) (n - i - 1) := by
  obtain ⟨m, rfl⟩ : ∃ m, n = i + (m + 1) := ⟨n - i - 1, by omega⟩
  rw [List.range_eq_range', List.range_eq_range', ← List.range'_append_1, Nat.zero_add, List.range'_succ]
  congr 3
  omega
theorem last_put {n i : Nat} (hi : i < n) {u2 : Nat → Bool} (hu2 : ∀ j, u2 j = if j = i then true else up j) (hlate : ∀ j, i < j → j < n → up j = true → w i ≠ none → w j = none) (b : β) :
    last w u2 (List.range n) b = (w i).getD (last w up (List.range n) b) := by
  cases hw : w i with
  | none =>
    exact last_congr _ b fun j _ hj => by
      rw [hu2]
      by_cases e : j = i
      · subst e; exact absurd hw hj
      · rw [if_neg e]
  | some v =>
    rw [range_split hi, last_append, last_cons, hu2, if_pos rfl, cond_true, hw, last_same]
    · rfl
    · intro j hj hu
      rw [List.mem_range'_1] at hj
      rw [hu2, if_neg (by omega)] at hu
      exact hlate j (by omega) (by omega) hu (by rw [hw]; simp)
end last

structure Pl where
  view : Hp
  out : Hp
  sv : SV
  bar : Nat
  nx : Nat
  nx' : Nat
  ne : Nat
  ne' : Nat
open Classical in
noncomputable def ov (p : Pl) (g : Hp) : Hp := fun id => if p.out id = p.view id then g id else p.out id
open Classical in
noncomputable def wH (p : Nat → Pl) (id : Nat) (i : Nat) : Option (Option SO) := if (p i).out id = (p i).view id then none else some ((p i).out id)
def Pl.lives (p : Pl) : Prop := ∀ id o, p.out id = some o → (p.nx ≤ id ∧ id < p.nx') ∨ ∃ o0, p.view id = some o0

section frame
variable {W0 : World} {E E' : Env} {g : Hp} {w w' : World} {p : Pl}
theorem ov_cases {id : Nat} {o : SO} (hv : ∀ id o, p.view id = some o → g id = some o) (h : ov p g id = some o) : p.out id = some o ∨ (g id = some o ∧ p.view id = none ∧ p.out id = none) := by
  unfold ov at h
  split at h
  · rename_i e
    cases hq : p.view id with
    | none => exact .inr ⟨h, rfl, e.trans hq⟩
    | some o1 =>
      rw [hv id o1 hq] at h
      rw [e, hq]
      exact .inl h
  · exact .inl h
theorem Rel.frame (r : Rel W0 E g w) (hv : ∀ id o, p.view id = some o → g id = some o) (hl : p.lives) (r' : Rel W0 E' p.out w') (st : Step p.bar p.view p.nx p.nx' p.ne p.ne' E E' w w') : Rel W0 E' (ov p g) w' := by
  have other : ∀ id o, g id = some o → p.view id = none → ∃ s, E.at_ id = some s ∧ E'.at_ id = some s ∧ W0.heap.size ≤ s.blk ∧ s.blk < w.heap.size ∧ objOk E' s w' o := by
    intro id o hg hn
    obtain ⟨s, a, b, c⟩ := r.obj id o hg
    refine ⟨s, a, st.le.1 _ _ a, b, c.lt, (c.of_heap (st.touch s.blk c.lt fun id1 s1 o1 _ h1 e1 q => ?_)).le st.le⟩
    have := r.inj id1 id o1 o s1 s (hv _ _ h1) hg e1 a q
    rw [this, hn] at h1
    cases h1
  have mix : ∀ id id' o o' s s', p.out id = some o → g id' = some o' → p.view id' = none → E'.at_ id = some s → E'.at_ id' = some s' → s.blk = s'.blk → id = id' := by
    intro id id' o o' s s' ho hg hn e e' q
    obtain ⟨s1, a1, a2, _, a4, _⟩ := other id' o' hg hn
    obtain rfl := Option.some.inj (a2.symm.trans e')
    rcases hl id o ho with hnew | ⟨o0, h0⟩
    · rcases st.fresh id s hnew.1 hnew.2 e with h | ⟨id0, s0, o0, _, h1, h2, h3⟩
      · omega
      · have := r.inj id0 id' o0 o' s0 s1 (hv _ _ h1) hg h2 a1 (h3.trans q)
        rw [this, hn] at h1
        cases h1
    · obtain ⟨s0, b1, _, _⟩ := r.obj id o0 (hv _ _ h0)
      have := st.le.1 _ _ b1
      rw [e] at this
      obtain rfl := Option.some.inj this
      exact r.inj id id' o0 o' s s1 (hv _ _ h0) hg b1 a1 q
  refine ⟨r'.below, fun id o h => ?_, fun id id' o o' s s' h h' e e' q => ?_⟩
  · rcases ov_cases hv h with h | ⟨h, hn, _⟩
    · exact r'.obj id o h
    · obtain ⟨s, _, a, b, _, c⟩ := other id o h hn
      exact ⟨s, a, b, c⟩
  · rcases ov_cases hv h with h | ⟨h, hn, _⟩
    · rcases ov_cases hv h' with h' | ⟨h', hn', _⟩
      · exact r'.inj id id' o o' s s' h h' e e' q
      · exact mix id id' o o' s s' h h' hn' e e' q
    · rcases ov_cases hv h' with h' | ⟨h', hn', _⟩
      · exact (mix id' id o' o s' s h' h hn e' e q.symm).symm
      · obtain ⟨s1, a1, a2, _⟩ := other id o h hn
        obtain ⟨s2, b1, b2, _⟩ := other id' o' h' hn'
        obtain rfl := Option.some.inj (a2.symm.trans e)
        obtain rfl := Option.some.inj (b2.symm.trans e')
        exact r.inj id id' o o' s1 s2 h h' a1 b1 q
theorem Step.frame {b nx0 nxN ne0 neN : Nat} {h0 : Hp} {E0 : Env} {w0 : World} (A : Step b h0 nx0 nxN ne0 neN E0 E w0 w) (B : Step p.bar p.view p.nx p.nx' p.ne p.ne' E E' w w') (hb : b ≤ p.bar) (hv : ∀ id o, p.view id = some o → g id = some o)
    (hg : ∀ id o, g id = some o → (nx0 ≤ id ∧ id < nxN) ∨ ∃ o0, h0 id = some o0) (h1 : nx0 ≤ p.nx) (h2 : p.nx' ≤ nxN) (h3 : ne0 ≤ p.ne) (h4 : p.ne' ≤ neN) : Step b h0 nx0 nxN ne0 neN E0 E' w0 w' := by
  refine ⟨Env.le_trans A.le B.le, fun id hid => ?_, fun j hj => ?_, Nat.le_trans A.size B.size, fun k hk hno => ?_, fun id s q1 q2 e => ?_⟩
  · rw [B.dom id (by omega), A.dom id hid]
  · rw [B.dome j (by omega), A.dome j hj]
  · rw [B.touch k (Nat.lt_of_lt_of_le hk A.size) ?_, A.touch k hk hno]
    intro id s o hbar ho he
    by_cases hn : nx0 ≤ id ∧ id < nxN
    · rcases A.fresh id s hn.1 hn.2 he with q | ⟨id0, s0, o0, q0, q1, q2, q3⟩
      · omega
      · rw [← q3]; exact hno id0 s0 o0 q0 q1 q2
    · rcases hg id o (hv id o ho) with q | ⟨o0, q⟩
      · exact absurd q hn
      · rw [A.dom id hn] at he
        exact hno id s o0 (Nat.le_trans hb hbar) q he
  · by_cases hn : p.nx ≤ id ∧ id < p.nx'
    · rcases B.fresh id s hn.1 hn.2 e with q | ⟨id0, s0, o0, q0, q3, q4, q5⟩
      · exact .inl (Nat.le_trans A.size q)
      · by_cases hm : nx0 ≤ id0 ∧ id0 < nxN
        · rcases A.fresh id0 s0 hm.1 hm.2 q4 with r | ⟨i1, s1, o1, r0, r1, r2, r3⟩
          · exact .inl (by omega)
          · exact .inr ⟨i1, s1, o1, r0, r1, r2, r3.trans q5⟩
        · rcases hg id0 o0 (hv _ _ q3) with r | ⟨o1, r⟩
          · exact absurd r hm
          · rw [A.dom id0 hm] at q4
            exact .inr ⟨id0, s0, o1, Nat.le_trans hb q0, r, q4, q5⟩
    · rw [B.dom id hn] at e
      exact A.fresh id s q1 q2 e
end frame

inductive Bef (ops : Array Oper) : Nat → Nat → Prop
  | one {j : Nat} {o : Oper} {e : Edge} : ops[j]? = some o → e ∈ o.after → Region.binds .any e = true → Bef ops e.on j
  | step {i j : Nat} {o : Oper} {e : Edge} : Bef ops i e.on → ops[j]? = some o → e ∈ o.after → Region.binds .any e = true → Bef ops i j
def Closed (ops : Array Oper) (up : Nat → Bool) : Prop := ∀ j o, ops[j]? = some o → up j = true → ∀ e ∈ o.after, Region.binds .any e = true → up e.on = true
theorem Closed.bef {ops : Array Oper} {up : Nat → Bool} (c : Closed ops up) {i j : Nat} (b : Bef ops i j) (h : up j = true) : up i = true := by
  induction b with
  | one a d e => exact c _ _ a h _ d e
  | step _ a d e ih => exact ih (c _ _ a h _ d e)
theorem Bef.of_ready {ops : Array Oper} {up : Nat → Bool} (c : Closed ops up) {i j : Nat} {o : Oper} (ho : ops[j]? = some o) (h : ∀ e ∈ o.after, Region.binds .any e = true → up e.on = true) (b : Bef ops i j) : up i = true := by
  cases b with
  | one a d e =>
    rw [ho] at a
    obtain rfl := Option.some.inj a
    exact h _ d e
  | step b a d e =>
    rw [ho] at a
    obtain rfl := Option.some.inj a
    exact c.bef b (h _ d e)
end Go.Proofs.YtbkgehknhjkaoaaGreatDoor.Ev
namespace Go.Proofs.YtbkgehknhjkaoaaGreatDoor.Ev
open Go

variable [GTab] {P : Program} {W0 : World} [GOk W0]
def dstOf (ops : Array Oper) (i : Nat) : Option Tmp := (ops[i]?).bind (·.dst)
noncomputable def wF (ops : Array Oper) (p : Nat → Pl) (t : Nat) (i : Nat) : Option (Option SV) := if dstOf ops i = some t then some (some (p i).sv) else none
/-- What operation i does, from every frame that is fr where it looks. -/
def PlOk (P : Program) (W0 : World) (N : Nat) (ops : Array Oper) (i : Nat) (fr : Tr SV) (p : Pl) : Prop :=
  ∀ ro fr' E a w, (∀ o, ops[i]? = some o → Same fr fr' o.op.operands ∧ SameG ops o fr fr') → Rel W0 E p.view w → Free E p.nx p.nx' p.ne p.ne' → FrOk E fr' N a → ∀ (K : Act → World → Prop) (Q : Exit → Act → World → Prop),
    (∀ E' v w', val E' p.sv = some v → Rel W0 E' p.out w' → Step p.bar p.view p.nx p.nx' p.ne p.ne' E E' w w' → K (a.put (dstOf ops i) v) w') → wpOpIn (Fw ro) 0 P ops Q i K a w
structure Draw (P : Program) (W0 : World) (N : Nat) (ops : Array Oper) (p : Nat → Pl) (fr : Nat → Tr SV) (h0 : Hp) (fr0 : Tr SV) (b nx0 nxN ne0 neN : Nat) : Prop where
  ok : ∀ i, i < ops.size → PlOk P W0 N ops i (fr i) (p i)
  lives : ∀ i, i < ops.size → (p i).lives
  lexF : ∀ i, i < ops.size → ∀ t, (fr i).get t = last (wF ops p t) (fun j => decide (j < i)) (List.range ops.size) (fr0.get t)
  lexH : ∀ i, i < ops.size → ∀ id o, (p i).view id = some o → last (wH p id) (fun j => decide (j < i)) (List.range ops.size) (h0 id) = some o
  ind : ∀ i j, i < ops.size → j < ops.size → i ≠ j → ¬ Bef ops i j → ¬ Bef ops j i → ∀ id, (p i).out id ≠ (p i).view id → (p j).view id = none ∧ (p j).out id = none
  apart : ∀ i j oi oj, ops[i]? = some oi → ops[j]? = some oj → i ≠ j → ¬ Bef ops i j → ¬ Bef ops j i → oi.apart ops oj = true
  inN : ∀ i, i < ops.size → inN N (dstOf ops i)
  nx : ∀ i j, i < j → j < ops.size → (p i).nx' ≤ (p j).nx
  ne : ∀ i j, i < j → j < ops.size → (p i).ne' ≤ (p j).ne
  box : ∀ i, i < ops.size → nx0 ≤ (p i).nx ∧ (p i).nx ≤ (p i).nx' ∧ (p i).nx' ≤ nxN ∧ ne0 ≤ (p i).ne ∧ (p i).ne ≤ (p i).ne' ∧ (p i).ne' ≤ neN ∧ b ≤ (p i).bar
  edge : ∀ i o, ops[i]? = some o → ∀ e ∈ o.after, Region.binds .any e = true → e.on < i

noncomputable def gU (ops : Array Oper) (p : Nat → Pl) (h0 : Hp) (up : Nat → Bool) : Hp := fun id => last (wH p id) up (List.range ops.size) (h0 id)
noncomputable def frL (ops : Array Oper) (p : Nat → Pl) (up : Nat → Bool) (l : List Nat) (fr : Tr SV) : Tr SV := l.foldl (fun fr i => bif up i then putD (dstOf ops i) (p i).sv fr else fr) fr
theorem get_putD (dst : Option Tmp) (sv : SV) (fr : Tr SV) (t : Nat) : (putD dst sv fr).get t = (if dst = some t then some (some sv) else none).getD (fr.get t) := by
  cases dst with
  | none => rfl
  | some d =>
    show (fr.put d (some sv)).get t = _
    rw [Tr.get_put]
    by_cases e : t = d
    · subst e; simp
    · rw [if_neg e, if_neg (fun q => e (Option.some.inj q).symm)]; rfl
theorem get_frL (ops : Array Oper) (p : Nat → Pl) (up : Nat → Bool) (t : Nat) (l : List Nat) : ∀ fr : Tr SV, (frL ops p up l fr).get t = last (wF ops p t) up l (fr.get t) := by
  induction l with
  | nil => intro fr; rfl
  | cons i l ih =>
    intro fr
    show (frL ops p up l (bif up i then putD (dstOf ops i) (p i).sv fr else fr)).get t = _
    rw [ih, last_cons]
    congr 1
    cases up i with
    | false => rfl
    | true => exact get_putD _ _ _ _
theorem FrOk.of_get {E : Env} {fr fr' : Tr SV} {N : Nat} {a : Act} (f : FrOk E fr N a) (h : ∀ t, fr'.get t = fr.get t) : FrOk E fr' N a := ⟨f.size, by rw [h]; exact f.defers, fun t => by rw [h]; exact f.get t⟩

section
variable {N : Nat} {ops : Array Oper} {p : Nat → Pl} {fr : Nat → Tr SV} {h0 : Hp} {fr0 : Tr SV} {b nx0 nxN ne0 neN : Nat}
theorem Bef.lt (h : ∀ i o, ops[i]? = some o → ∀ e ∈ o.after, Region.binds .any e = true → e.on < i) {i j : Nat} (k : Bef ops i j) : i < j := by
  induction k with
  | one a d e => exact h _ _ a _ d e
  | step _ a d e ih => exact Nat.lt_trans ih (h _ _ a _ d e)
structure Inv (P : Program) (W0 : World) (N : Nat) (ops : Array Oper) (p : Nat → Pl) (h0 : Hp) (fr0 : Tr SV) (b nx0 nxN ne0 neN : Nat) (E0 : Env) (w0 : World) (up : Nat → Bool) (E : Env) (a : Act) (w : World) : Prop where
  rel : Rel W0 E (gU ops p h0 up) w
  frok : FrOk E (frL ops p up (List.range ops.size) fr0) N a
  step : Step b h0 nx0 nxN ne0 neN E0 E w0 w
  free : ∀ i, i < ops.size → up i = false → Free E (p i).nx (p i).nx' (p i).ne (p i).ne'
/-- Whether it has come up is whether it stands ahead, for all that is ordered with i. -/
theorem up_iff (D : Draw P W0 N ops p fr h0 fr0 b nx0 nxN ne0 neN) {up : Nat → Bool} (c : Closed ops up) {i : Nat} {o : Oper} (ho : ops[i]? = some o) (hi : up i = false) (hr : ∀ e ∈ o.after, Region.binds .any e = true → up e.on = true) {j : Nat} (h : j = i ∨ Bef ops i j ∨ Bef ops j i) : decide (j < i) = up j := by
  rcases h with rfl | h | h
  · rw [hi]; simp
  · have := h.lt D.edge
    have hu : up j = false := by
      cases hq : up j with
      | false => rfl
      | true => rw [c.bef h hq] at hi; cases hi
    rw [hu]
    simp
    omega
  · rw [h.of_ready c ho hr]
    have := h.lt D.edge
    simpa using this
theorem or_unordered (i j : Nat) : j = i ∨ Bef ops i j ∨ Bef ops j i ∨ (i ≠ j ∧ ¬ Bef ops i j ∧ ¬ Bef ops j i) := by
  by_cases h1 : j = i
  · exact .inl h1
  by_cases h2 : Bef ops i j
  · exact .inr (.inl h2)
  by_cases h3 : Bef ops j i
  · exact .inr (.inr (.inl h3))
  exact .inr (.inr (.inr ⟨fun e => h1 e.symm, h2, h3⟩))
theorem wH_ne {id i : Nat} (h : wH p id i ≠ none) : (p i).out id ≠ (p i).view id := by
  unfold wH at h
  split at h
  · exact absurd rfl h
  · assumption
theorem wH_eq {id i : Nat} (h : (p i).out id = (p i).view id) : wH p id i = none := by unfold wH; rw [if_pos h]
theorem inv_step {ro : Option Nat} (D : Draw P W0 N ops p fr h0 fr0 b nx0 nxN ne0 neN) {E0 : Env} {w0 : World} {up up' : Nat → Bool} (c : Closed ops up) {i : Nat} {o : Oper} (ho : ops[i]? = some o) (hi : up i = false) (hr : ∀ e ∈ o.after, Region.binds .any e = true → up e.on = true)
    (hup : ∀ j, up' j = if j = i then true else up j) {E : Env} {a : Act} {w : World} (I : Inv P W0 N ops p h0 fr0 b nx0 nxN ne0 neN E0 w0 up E a w) {K : Act → World → Prop} {Q : Exit → Act → World → Prop}
    (hK : ∀ E' a' w', Inv P W0 N ops p h0 fr0 b nx0 nxN ne0 neN E0 w0 up' E' a' w' → K a' w') : wpOpIn (Fw ro) 0 P ops Q i K a w := by
  have hn : i < ops.size := (Array.getElem?_eq_some_iff.1 ho).1
  obtain ⟨b1, b2, b3, b4, b5, b6, b7⟩ := D.box i hn
  have hv : ∀ id o, (p i).view id = some o → gU ops p h0 up id = some o := fun id o1 h1 => by
    rw [← D.lexH i hn id o1 h1]
    unfold gU
    exact (last_congr _ _ fun j hj hw => up_iff D c ho hi hr (by
      rcases or_unordered (ops := ops) i j with q | q | q | ⟨q1, q2, q3⟩
      · exact .inl q
      · exact .inr (.inl q)
      · exact .inr (.inr q)
      · have := (D.ind j i (List.mem_range.1 hj) hn (Ne.symm q1) q3 q2 id (wH_ne hw)).1
        rw [h1] at this
        cases this)).symm
  have apart : ∀ j oj, ops[j]? = some oj → i ≠ j → ¬ Bef ops i j → ¬ Bef ops j i → (∀ d, oj.dst = some d → d ∉ o.looksAt ops) ∧ (∀ d, oj.dst = some d → o.dst ≠ some d) := fun j oj hj q1 q2 q3 => by
    have := Oper.apart_spec (D.apart j i oj o hj ho (Ne.symm q1) q3 q2)
    exact ⟨this.1, this.2.1⟩
  have frs : ∀ t, t ∈ o.looksAt ops → (fr i).get t = (frL ops p up (List.range ops.size) fr0).get t := fun t ht => by
    rw [get_frL, D.lexF i hn t]
    exact last_congr _ _ fun j hj hw => up_iff D c ho hi hr (by
      rcases or_unordered (ops := ops) i j with q | q | q | ⟨q1, q2, q3⟩
      · exact .inl q
      · exact .inr (.inl q)
      · exact .inr (.inr q)
      · exfalso
        have hjn := List.mem_range.1 hj
        have hj' : ops[j]? = some ops[j] := Array.getElem?_eq_getElem hjn
        unfold wF at hw
        split at hw
        · rename_i hd
          refine (apart j _ hj' q1 q2 q3).1 t ?_ ht
          unfold dstOf at hd
          rw [hj'] at hd
          exact hd
        · exact hw rfl)
  refine D.ok i hn ro (frL ops p up (List.range ops.size) fr0) E a w (fun o' ho' => ?_) ?_ (I.free i hn hi) I.frok K Q fun E' v w' e1 r' st => hK E' _ w' ?_
  · rw [ho] at ho'
    obtain rfl := Option.some.inj ho'
    refine ⟨fun x hx => ?_, fun g want t hg ht => ?_⟩
    · cases x with
      | tmp t =>
        simp only [opd]
        rw [frs t (List.mem_append_left _ (List.mem_filterMap.2 ⟨.tmp t, by simpa using hx, rfl⟩))]
      | const v => cases v <;> rfl
      | global g => rfl
      | func f => rfl
    · simp only [opd]
      rw [frs t (List.mem_append_right _ (by rw [hg]; simp [ht]))]
  · exact ⟨I.rel.below, fun id o1 h1 => I.rel.obj id o1 (hv id o1 h1), fun id id' o1 o2 s s' h1 h2 => I.rel.inj id id' o1 o2 s s' (hv id o1 h1) (hv id' o2 h2)⟩
  · refine ⟨?_, ?_, ?_, ?_⟩
    · have := I.rel.frame hv (D.lives i hn) r' st
      have e : gU ops p h0 up' = ov (p i) (gU ops p h0 up) := by
        funext id
        unfold gU
        rw [last_put hn hup]
        · unfold wH ov
          split <;> rfl
        · intro j hj1 hj2 hu hw
          rcases or_unordered (ops := ops) i j with q | q | q | ⟨q1, q2, q3⟩
          · omega
          · rw [c.bef q hu] at hi; cases hi
          · have := q.lt D.edge; omega
          · have := D.ind i j hn hj2 q1 q2 q3 id (wH_ne hw)
            exact wH_eq (this.2.trans this.1.symm)
      rw [e]
      exact this
    · refine ((I.frok.le st.le).putD (D.inN i hn) e1).of_get fun t => ?_
      rw [get_frL, get_putD, get_frL, last_put hn hup]
      · rfl
      · intro j hj1 hj2 hu hw
        unfold wF at hw ⊢
        split at hw
        case isFalse => exact absurd rfl hw
        rename_i hd
        split
        case isFalse => rfl
        rename_i hd2
        exfalso
        rcases or_unordered (ops := ops) i j with q | q | q | ⟨q1, q2, q3⟩
        · omega
        · rw [c.bef q hu] at hi; cases hi
        · have := q.lt D.edge; omega
        · have hj' : ops[j]? = some ops[j] := by rw [Array.getElem?_eq_getElem hj2]
          unfold dstOf at hd hd2
          rw [ho] at hd
          rw [hj'] at hd2
          exact (apart j _ hj' q1 q2 q3).2 t hd2 hd
    · refine Step.frame I.step st b7 hv (fun id o1 h1 => ?_) b1 b3 b4 b6
      -- what is there is new or was there
      have key : ∀ l : List Nat, (∀ j ∈ l, j < ops.size) → ∀ x : Option SO, ((nx0 ≤ id ∧ id < nxN) ∨ (∃ o0, h0 id = some o0) ∨ x = none) → ((nx0 ≤ id ∧ id < nxN) ∨ (∃ o0, h0 id = some o0) ∨ last (wH p id) up l x = none) := by
        intro l
        induction l with
        | nil => intro _ x hx; exact hx
        | cons j l ih =>
          intro hl x hx
          rw [last_cons]
          refine ih (fun k hk => hl k (List.mem_cons_of_mem _ hk)) _ ?_
          cases up j with
          | false => exact hx
          | true =>
            simp only [cond_true]
            cases hw : wH p id j with
            | none => exact hx
            | some y =>
              have hjn := hl j List.mem_cons_self
              unfold wH at hw
              split at hw
              · cases hw
              · obtain rfl := Option.some.inj hw
                cases ho1 : (p j).out id with
                | none => exact .inr (.inr rfl)
                | some o2 =>
                  rcases D.lives j hjn id o2 ho1 with q | ⟨o3, q⟩
                  · obtain ⟨c1, c2, c3, _⟩ := D.box j hjn
                    exact .inl ⟨by omega, by omega⟩
                  · have := D.lexH j hjn id o3 q
                    by_cases hq : nx0 ≤ id ∧ id < nxN
                    · exact .inl hq
                    by_cases hq2 : ∃ o0, h0 id = some o0
                    · exact .inr (.inl hq2)
                    · exfalso
                      exact noOld D id hq (by cases hz : h0 id with | none => rfl | some z => exact absurd ⟨z, hz⟩ hq2) j hjn o3 q
      rcases key (List.range ops.size) (fun j hj => List.mem_range.1 hj) (h0 id) (by
        cases hz : h0 id with
        | none => exact .inr (.inr rfl)
        | some z => exact .inr (.inl ⟨z, rfl⟩)) with q | q | q
      · exact .inl q
      · exact .inr q
      · unfold gU at h1
        rw [q] at h1
        cases h1
    · intro j hj hu
      rw [hup] at hu
      split at hu
      · cases hu
      rename_i hne
      have f := I.free j hj hu
      obtain ⟨c1, c2, c3, c4, c5, c6, c7⟩ := D.box j hj
      rcases Nat.lt_or_gt_of_ne hne with h | h
      · have n1 := D.nx j i h hn
        have n2 := D.ne j i h hn
        exact ⟨fun id x y => by rw [st.dom id (by omega)]; exact f.at_ id x y, fun id x y => by rw [st.dome id (by omega)]; exact f.emp id x y⟩
      · have n1 := D.nx i j h hj
        have n2 := D.ne i j h hj
        exact ⟨fun id x y => by rw [st.dom id (by omega)]; exact f.at_ id x y, fun id x y => by rw [st.dome id (by omega)]; exact f.emp id x y⟩
where
  noOld (D : Draw P W0 N ops p fr h0 fr0 b nx0 nxN ne0 neN) (id : Nat) (hq : ¬ (nx0 ≤ id ∧ id < nxN)) (hz : h0 id = none) : ∀ j, j < ops.size → ∀ o, (p j).view id ≠ some o := by
    intro j
    induction j using Nat.strongRecOn with
    | _ j ih =>
      intro hj o ho
      have h1 := D.lexH j hj id o ho
      rw [last_same, hz] at h1
      · cases h1
      · intro k hk hkj
        have hk' := List.mem_range.1 hk
        have hkj' : k < j := of_decide_eq_true hkj
        refine wH_eq ?_
        have v0 : (p k).view id = none := by
          cases hv : (p k).view id with
          | none => rfl
          | some z => exact absurd hv (ih k hkj' hk' z)
        rw [v0]
        cases ho2 : (p k).out id with
        | none => rfl
        | some z =>
          rcases D.lives k hk' id z ho2 with q | ⟨z', q⟩
          · obtain ⟨c1, c2, c3, _⟩ := D.box k hk'
            exact absurd ⟨by omega, by omega⟩ hq
          · rw [v0] at q; cases q
end
end Go.Proofs.YtbkgehknhjkaoaaGreatDoor.Ev
namespace Go.Proofs.YtbkgehknhjkaoaaGreatDoor.Ev
open Go

variable [GTab] {P : Program} {W0 : World} [GOk W0] {N : Nat} {ops : Array Oper} {p : Nat → Pl} {fr : Nat → Tr SV} {h0 : Hp} {fr0 : Tr SV} {b nx0 nxN ne0 neN : Nat}
def upOf (up : Array Bool) (j : Nat) : Bool := up.getD j false
theorem filter_lt {α : Type} (q r : α → Bool) (l : List α) (h : ∀ x, q x = true → r x = true) : (l.filter q).length ≤ (l.filter r).length ∧ ∀ x ∈ l, r x = true → q x = false → (l.filter q).length < (l.filter r).length := by
  induction l with
  | nil => exact ⟨Nat.le_refl _, fun x hx => by cases hx⟩
  | cons y l ih =>
    simp only [List.filter_cons]
    cases hq : q y with
    | true =>
      rw [h y hq]
      simp only [if_true, List.length_cons]
      refine ⟨by have := ih.1; omega, fun x hx hr hn => ?_⟩
      rcases List.mem_cons.1 hx with e | e
      · subst e; rw [hq] at hn; cases hn
      · have := ih.2 x e hr hn; omega
    | false =>
      cases hr : r y with
      | true =>
        simp only [if_true, Bool.false_eq_true, if_false, List.length_cons]
        refine ⟨by have := ih.1; omega, fun x hx _ _ => by have := ih.1; omega⟩
      | false =>
        simp only [Bool.false_eq_true, if_false]
        refine ⟨ih.1, fun x hx hr' hn => ?_⟩
        rcases List.mem_cons.1 hx with e | e
        · subst e; rw [hr] at hr'; cases hr'
        · exact ih.2 x e hr' hn
def unl (n : Nat) (up : Array Bool) : Nat := ((List.range n).filter fun j => !upOf up j).length
theorem upOf_set {up : Array Bool} {i : Nat} (hi : i < up.size) (j : Nat) : upOf (up.setIfInBounds i true) j = if j = i then true else upOf up j := by
  unfold upOf
  by_cases e : j = i
  · subst e; simp [hi]
  · rw [getD_set_ne false (Ne.symm e), if_neg e]
theorem any_of_inv {ro : Option Nat} (D : Draw P W0 N ops p fr h0 fr0 b nx0 nxN ne0 neN) {E0 : Env} {w0 : World} {Q : Exit → Act → World → Prop} (hQ : ∀ E a w, Inv P W0 N ops p h0 fr0 b nx0 nxN ne0 neN E0 w0 (fun _ => true) E a w → Q .normal a w) (f : Nat) :
    ∀ (up : Array Bool) (E : Env) (a : Act) (w : World), up.size = ops.size → Closed ops (upOf up) → unl ops.size up ≤ f → Inv P W0 N ops p h0 fr0 b nx0 nxN ne0 neN E0 w0 (upOf up) E a w → wpAnyIn (Fw ro) 0 P .any ops Q f up a w := by
  have done : ∀ (up : Array Bool) (E : Env) (a : Act) (w : World), (∀ j, j < ops.size → upOf up j = true) → Inv P W0 N ops p h0 fr0 b nx0 nxN ne0 neN E0 w0 (upOf up) E a w → Q .normal a w := by
    intro up E a w hall I
    refine hQ E a w ⟨?_, ?_, I.step, fun i _ hf => by cases hf⟩
    · have e : gU ops p h0 (fun _ => true) = gU ops p h0 (upOf up) := by
        funext id
        exact last_congr _ _ fun j hj _ => (hall j (List.mem_range.1 hj)).symm
      rw [e]
      exact I.rel
    · refine I.frok.of_get fun t => ?_
      rw [get_frL, get_frL]
      exact last_congr _ _ fun j hj _ => (hall j (List.mem_range.1 hj)).symm
  have fin : ∀ (up : Array Bool), up.size = ops.size → Region.ready .any ops up = [] → ∀ j, j < ops.size → upOf up j = true := by
    intro up hs hr j
    induction j using Nat.strongRecOn with
    | _ j ih =>
      intro hj
      cases hu : upOf up j with
      | true => rfl
      | false =>
        exfalso
        have hj' : ops[j]? = some ops[j] := Array.getElem?_eq_getElem hj
        have : j ∈ Region.ready .any ops up := mem_ready.2 ⟨getD_in (by rw [hs]; exact hj) hu, ops[j], hj', fun e he hb => ih e.on (D.edge j _ hj' e he hb) (Nat.lt_trans (D.edge j _ hj' e he hb) hj)⟩
        rw [hr] at this
        cases this
  have rest : ∀ (up : Array Bool), (∀ j, j < ops.size → upOf up j = true) → Region.ready .any ops up = [] := by
    intro up hall
    cases hr : Region.ready .any ops up with
    | nil => rfl
    | cons j l =>
      exfalso
      have hm : j ∈ Region.ready .any ops up := by rw [hr]; exact List.mem_cons_self
      obtain ⟨h1, o, ho, _⟩ := mem_ready.1 hm
      have := hall j (Array.getElem?_eq_some_iff.1 ho).1
      unfold upOf at this
      rw [getD_both h1] at this
      cases this
  induction f with
  | zero =>
    intro up E a w hs c hu I
    have hall : ∀ j, j < ops.size → upOf up j = true := fun j hj => by
      cases hq : upOf up j with
      | true => rfl
      | false =>
        exfalso
        have : j ∈ (List.range ops.size).filter fun j => !upOf up j := List.mem_filter.2 ⟨List.mem_range.2 hj, by rw [hq]; rfl⟩
        have h2 := List.length_pos_of_mem this
        unfold unl at hu
        omega
    exact ⟨rest up hall, done up E a w hall I⟩
  | succ f ih =>
    intro up E a w hs c hu I
    refine ⟨fun hr => done up E a w (fin up hs hr) I, fun i hi => ?_⟩
    obtain ⟨h1, o, ho, hr⟩ := mem_ready.1 hi
    have hn : i < ops.size := (Array.getElem?_eq_some_iff.1 ho).1
    have hset := upOf_set (up := up) (i := i) (by rw [hs]; exact hn)
    refine inv_step D c ho (getD_both h1) hr hset I fun E' a' w' I' => ih _ E' a' w' (by simp [hs]) ?_ ?_ I'
    · intro j oj hj hu' e he hb
      rw [hset] at hu' ⊢
      by_cases q : e.on = i
      · rw [if_pos q]
      · rw [if_neg q]
        by_cases q2 : j = i
        · subst q2
          rw [ho] at hj
          obtain rfl := Option.some.inj hj
          exact hr e he hb
        · rw [if_neg q2] at hu'
          exact c j oj hj hu' e he hb
    · have := (filter_lt (fun j => !upOf (up.setIfInBounds i true) j) (fun j => !upOf up j) (List.range ops.size) (fun x hx => by
        rw [hset] at hx
        split at hx
        · cases hx
        · exact hx)).2 i (List.mem_range.2 hn) (by show (!upOf up i) = true; unfold upOf; rw [getD_both h1]; rfl) (by show (!upOf (up.setIfInBounds i true) i) = false; rw [hset, if_pos rfl]; rfl)
      unfold unl at hu ⊢
      omega
theorem draw_region {ro : Option Nat} (hm : P.follows .mixedOrders = true) (D : Draw P W0 N ops p fr h0 fr0 b nx0 nxN ne0 neN) {id : Nat} {E0 : Env} {a0 : Act} {w0 : World} (r : Rel W0 E0 h0 w0) (fe : Free E0 nx0 nxN ne0 neN) (fo : FrOk E0 fr0 N a0) {Q : Exit → Act → World → Prop}
    (hQ : ∀ E' a' w', Rel W0 E' (gU ops p h0 fun _ => true) w' → Step b h0 nx0 nxN ne0 neN E0 E' w0 w' → FrOk E' (frL ops p (fun _ => true) (List.range ops.size) fr0) N a' → Q .normal a' w') : (Code.region id ops true).wpIn (Fw ro) 0 P Q a0 w0 := by
  refine wpIn_region_any hm (any_of_inv D (E0 := E0) (w0 := w0) (fun E a w I => hQ E a w I.rel I.step I.frok) ops.size _ E0 a0 _ (by simp) (fun j o _ hu => ?_) ?_ ⟨?_, ?_, ?_, fun i hi _ => ?_⟩)
  · unfold upOf at hu
    rw [getD_replicate_false] at hu
    cases hu
  · unfold unl
    exact Nat.le_trans (List.length_filter_le _ _) (by simp)
  · have e : gU ops p h0 (upOf (Array.replicate ops.size false)) = h0 := by
      funext id
      exact last_same _ _ fun i _ hu => by unfold upOf at hu; rw [getD_replicate_false] at hu; cases hu
    rw [e]
    exact r.drew
  · refine fo.of_get fun t => ?_
    rw [get_frL]
    exact last_same _ _ fun i _ hu => by unfold upOf at hu; rw [getD_replicate_false] at hu; cases hu
  · exact ⟨E0.le_refl, fun _ _ => rfl, fun _ _ => rfl, Nat.le_refl _, fun _ _ _ => rfl, fun id s x y e => by rw [fe.at_ id x y] at e; cases e⟩
  · obtain ⟨c1, c2, c3, c4, c5, c6, _⟩ := D.box i hi
    exact ⟨fun id x y => fe.at_ id (by omega) (by omega), fun j x y => fe.emp j (by omega) (by omega)⟩
end Go.Proofs.YtbkgehknhjkaoaaGreatDoor.Ev
namespace Go.Proofs.YtbkgehknhjkaoaaGreatDoor.Ev
open Go
variable [GTab]

section masks
variable {ops : Array Oper}
noncomputable def maskOf (t : Tr Nat) : List Edge → Nat
  | [] => 0
  | e :: r => bif Region.binds .any e then Nat.lor (Nat.lor (Nat.pow 2 e.on) ((t.get e.on).getD 0)) (maskOf t r) else maskOf t r
noncomputable def masksGo : List Oper → Nat → Tr Nat → Tr Nat
  | [], _, t => t
  | o :: r, j, t => masksGo r (j + 1) (t.put j (some (maskOf t o.after.toList)))
noncomputable def forceN {β : Type} (n : Nat) (k : Nat → β) : β := Nat.rec (k 0) (fun m _ => k (Nat.succ m)) n
theorem forceN_eq {β : Type} (n : Nat) (k : Nat → β) : forceN n k = k n := by cases n <;> rfl
noncomputable def masksK {β : Type} : List Oper → Nat → Tr Nat → (Tr Nat → β) → β
  | [], _, t, k => k t
  | o :: r, j, t, k => forceN (maskOf t o.after.toList) fun m => t.putK j (some m) fun t' => forceN (j + 1) fun j' => masksK r j' t' k
theorem masksK_eq {β : Type} (l : List Oper) : ∀ (j : Nat) (t : Tr Nat) (k : Tr Nat → β), masksK l j t k = k (masksGo l j t) := by
  induction l with
  | nil => intro j t k; rfl
  | cons o r ih => intro j t k; rw [masksK, forceN_eq, Tr.putK_eq, forceN_eq, ih]; rfl
noncomputable def bitB (t : Tr Nat) (i j : Nat) : Bool := Nat.testBit ((t.get j).getD 0) i
theorem maskOf_bit {t : Tr Nat} {j : Nat} {o : Oper} (ho : ops[j]? = some o) (ht : ∀ i k, bitB t i k = true → Bef ops i k) (l : List Edge) (hl : ∀ e ∈ l, e ∈ o.after) (i : Nat) (h : Nat.testBit (maskOf t l) i = true) : Bef ops i j := by
  induction l with
  | nil => simp [maskOf] at h
  | cons e r ih =>
    have ih' := ih fun e' he => hl e' (List.mem_cons_of_mem _ he)
    rw [maskOf] at h
    cases hb : Region.binds .any e with
    | false => rw [hb] at h; exact ih' h
    | true =>
      rw [hb, cond_true] at h
      change Nat.testBit ((2 ^ e.on ||| (t.get e.on).getD 0) ||| maskOf t r) i = true at h
      rw [Nat.testBit_or, Nat.testBit_or, Bool.or_eq_true, Bool.or_eq_true] at h
      rcases h with (h | h) | h
      · rw [Nat.testBit_two_pow] at h
        rw [← of_decide_eq_true h]
        exact .one ho (hl e List.mem_cons_self) hb
      · exact .step (ht i e.on h) ho (hl e List.mem_cons_self) hb
      · exact ih' h
theorem masksGo_bit (l : List Oper) : ∀ (j : Nat) (t : Tr Nat), (∀ m, l[m]? = ops[j + m]?) → (∀ i k, bitB t i k = true → Bef ops i k) → ∀ i k, bitB (masksGo l j t) i k = true → Bef ops i k := by
  induction l with
  | nil => intro j t _ ht; exact ht
  | cons o r ih =>
    intro j t hl ht
    have h0 : ops[j]? = some o := by simpa using (hl 0).symm
    refine ih (j + 1) _ (fun m => by have := hl (m + 1); simpa [Nat.add_assoc, Nat.add_comm 1 m] using this) fun i k h => ?_
    unfold bitB at h
    rw [Tr.get_put] at h
    by_cases e : k = j
    · rw [if_pos e] at h
      rw [e]
      exact maskOf_bit h0 ht _ (fun e he => by simpa using he) i h
    · rw [if_neg e] at h
      exact ht i k h
noncomputable def masks (ops : Array Oper) : Tr Nat := masksGo ops.toList 0 .e
theorem masks_bit (i k : Nat) (h : bitB (masks ops) i k = true) : Bef ops i k :=
  masksGo_bit ops.toList 0 .e (by simp) (fun i k h => by simp [bitB, Tr.get_e] at h) i k h
end masks

/-! ### apart -/
noncomputable def edgesB : List Edge → Nat → Bool
  | [], _ => true
  | e :: r, j => bif Region.binds .any e then (bif Nat.blt e.on j then edgesB r j else false) else edgesB r j
noncomputable def apartB (ops : Array Oper) (t : Tr Nat) (o : Oper) (j : Nat) : List Oper → Nat → Bool
  | [], _ => true
  | x :: r, i => bif bitB t i j then apartB ops t o j r (i + 1) else bif x.apart ops o && o.apart ops x then apartB ops t o j r (i + 1) else false
noncomputable def drawGo (ops : Array Oper) (t : Tr Nat) : List Oper → Nat → Bool
  | [], _ => true
  | o :: r, j => bif edgesB o.after.toList j && apartB ops t o j (ops.toList.take j) 0 then drawGo ops t r (j + 1) else false
noncomputable def drawOk (ops : Array Oper) : Bool := masksK ops.toList 0 .e fun t => drawGo ops t ops.toList 0
section
variable {ops : Array Oper}
theorem edgesB_ok {l : List Edge} {j : Nat} (h : edgesB l j = true) : ∀ e ∈ l, Region.binds .any e = true → e.on < j := by
  induction l with
  | nil => intro e he; cases he
  | cons x r ih =>
    rw [edgesB] at h
    intro e he hb
    cases hx : Region.binds .any x with
    | false =>
      rw [hx] at h
      rcases List.mem_cons.1 he with q | q
      · rw [q, hx] at hb; cases hb
      · exact ih h e q hb
    | true =>
      rw [hx, cond_true] at h
      obtain ⟨h1, h2⟩ := bif_true h
      rcases List.mem_cons.1 he with q | q
      · rw [q]; exact Nat.le_of_ble_eq_true h1
      · exact ih h2 e q hb
theorem apartB_ok {t : Tr Nat} {o : Oper} {j : Nat} {l : List Oper} : ∀ {i : Nat}, apartB ops t o j l i = true → ∀ m x, l[m]? = some x → bitB t (i + m) j = true ∨ (x.apart ops o = true ∧ o.apart ops x = true) := by
  induction l with
  | nil => intro i _ m x hx; simp at hx
  | cons y r ih =>
    intro i h m x hx
    rw [apartB] at h
    cases m with
    | zero =>
      simp only [List.getElem?_cons_zero, Option.some.injEq] at hx
      subst hx
      cases hb : bitB t i j with
      | true => exact .inl rfl
      | false =>
        rw [hb] at h
        obtain ⟨h1, _⟩ := bif_true h
        simp only [Bool.and_eq_true] at h1
        exact .inr h1
    | succ m =>
      have key : apartB ops t o j r (i + 1) = true := by
        cases hb : bitB t i j with
        | true => rw [hb] at h; exact h
        | false => rw [hb] at h; exact (bif_true h).2
      have := ih key m x (by simpa using hx)
      rwa [show i + (m + 1) = i + 1 + m by omega]
theorem drawGo_ok {t : Tr Nat} {l : List Oper} : ∀ {j : Nat}, drawGo ops t l j = true → ∀ m o, l[m]? = some o → edgesB o.after.toList (j + m) = true ∧ apartB ops t o (j + m) (ops.toList.take (j + m)) 0 = true := by
  induction l with
  | nil => intro j _ m o ho; simp at ho
  | cons x r ih =>
    intro j h m o ho
    rw [drawGo] at h
    obtain ⟨h1, h2⟩ := bif_true h
    simp only [Bool.and_eq_true] at h1
    cases m with
    | zero =>
      simp only [List.getElem?_cons_zero, Option.some.injEq] at ho
      subst ho
      exact h1
    | succ m =>
      have := ih h2 m o (by simpa using ho)
      rwa [show j + (m + 1) = j + 1 + m by omega]
theorem drawOk_edge (h : drawOk ops = true) : ∀ i o, ops[i]? = some o → ∀ e ∈ o.after, Region.binds .any e = true → e.on < i := by
  unfold drawOk at h
  rw [masksK_eq] at h
  intro i o ho e he hb
  have := (drawGo_ok h i o (by simpa using ho)).1
  rw [Nat.zero_add] at this
  exact edgesB_ok this e (by simpa using he) hb
theorem drawOk_apart (h : drawOk ops = true) : ∀ i j oi oj, ops[i]? = some oi → ops[j]? = some oj → i ≠ j → ¬ Bef ops i j → ¬ Bef ops j i → oi.apart ops oj = true := by
  unfold drawOk at h
  rw [masksK_eq] at h
  have key : ∀ i j oi oj, ops[i]? = some oi → ops[j]? = some oj → i < j → ¬ Bef ops i j → oi.apart ops oj = true ∧ oj.apart ops oi = true := by
    intro i j oi oj hi hj hij hn
    have := (drawGo_ok h j oj (by simpa using hj)).2
    rw [Nat.zero_add] at this
    rcases apartB_ok this i oi (by rw [List.getElem?_take, if_pos hij]; simpa using hi) with q | q
    · rw [Nat.zero_add] at q
      exact absurd (masks_bit i j q) hn
    · exact q
  intro i j oi oj hi hj hne h1 h2
  rcases Nat.lt_or_gt_of_ne hne with q | q
  · exact (key i j oi oj hi hj q h1).1
  · exact (key j i oj oi hj hi q h2).2
end

/-! ### what an operation touches -/
def cls : Op → Nat
  | .call c => (match c.callee with
    | .builtin b => (match b with | .append => 2 | .delete => 2 | .clear => 2 | .len => 1 | _ => 0)
    | _ => 3)
  | .slice _ _ _ _ _ => 2
  | .alloc _ => 2
  | .box _ _ => 2
  | .store _ _ _ => 2
  | .buildSlice _ _ _ => 2
  | .makeMap _ _ => 2
  | .makeSlice _ _ _ => 2
  | .mapUpdate _ _ _ _ => 2
  | .insert _ _ _ _ => 2
  | .mapEntry _ _ _ => 2
  | .entryStore _ _ _ _ => 2
  | .load _ _ => 1
  | .lookup _ _ _ _ => 1
  | _ => 0
def touches : Op → List Operand
  | .call c => (match c.callee with
    | .builtin _ => c.args.toList
    | _ => [])
  | .slice _ x _ _ _ => [x]
  | .store _ x _ => [x]
  | .mapUpdate _ x _ _ => [x]
  | .insert _ x _ _ => [x]
  | .mapEntry _ x _ => [x]
  | .entryStore _ x _ _ => [x]
  | .load _ x => [x]
  | .lookup _ x _ _ => [x]
  | _ => []
/-- May two operations of these kinds meddle with one another? -/
def meet : Nat → Nat → Bool
  | 0, _ => false
  | _, 0 => false
  | 1, 1 => false
  | _, _ => true
noncomputable def pairsAt (t : Tr Nat) (c j : Nat) : List Oper → Nat → List (Nat × Nat) → List (Nat × Nat)
  | [], _, r => r
  | x :: l, i, r => bif meet (cls x.op) c then (bif bitB t i j then pairsAt t c j l (i + 1) r else (i, j) :: pairsAt t c j l (i + 1) r) else pairsAt t c j l (i + 1) r
noncomputable def pairsGo (ops : Array Oper) (t : Tr Nat) : List Oper → Nat → List (Nat × Nat)
  | [], _ => []
  | o :: r, j => pairsAt t (cls o.op) j (ops.toList.take j) 0 (pairsGo ops t r (j + 1))
noncomputable def dynPairs (ops : Array Oper) : List (Nat × Nat) := masksK ops.toList 0 .e fun t => pairsGo ops t ops.toList 0
section
variable {ops : Array Oper}
theorem pairsAt_mem {t : Tr Nat} {c j : Nat} {l : List Oper} : ∀ {i : Nat} {r : List (Nat × Nat)}, (∀ x ∈ r, x ∈ pairsAt t c j l i r) ∧ ∀ m x, l[m]? = some x → meet (cls x.op) c = true → bitB t (i + m) j = false → (i + m, j) ∈ pairsAt t c j l i r := by
  induction l with
  | nil => intro i r; exact ⟨fun x hx => hx, fun m x hx => by simp at hx⟩
  | cons y l ih =>
    intro i r
    have ih' := ih (i := i + 1) (r := r)
    rw [pairsAt]
    refine ⟨fun x hx => ?_, fun m x hx hm hb => ?_⟩
    · have := ih'.1 x hx
      cases meet (cls y.op) c with
      | false => exact this
      | true => cases bitB t i j with
        | true => exact this
        | false => exact List.mem_cons_of_mem _ this
    · cases m with
      | zero =>
        simp only [List.getElem?_cons_zero, Option.some.injEq] at hx
        subst hx
        rw [Nat.add_zero] at hb ⊢
        rw [hm, hb]
        exact List.mem_cons_self
      | succ m =>
        have := ih'.2 m x (by simpa using hx) hm (by rwa [show i + 1 + m = i + (m + 1) by omega])
        rw [show i + 1 + m = i + (m + 1) by omega] at this
        cases meet (cls y.op) c with
        | false => exact this
        | true => cases bitB t i j with
          | true => exact this
          | false => exact List.mem_cons_of_mem _ this
theorem pairsGo_mem {t : Tr Nat} {l : List Oper} : ∀ {k : Nat}, ∀ m o, l[m]? = some o → ∀ i x, (ops.toList.take (k + m))[i]? = some x → meet (cls x.op) (cls o.op) = true → bitB t i (k + m) = false → (i, k + m) ∈ pairsGo ops t l k := by
  induction l with
  | nil => intro k m o ho; simp at ho
  | cons y l ih =>
    intro k m o ho i x hx hm hb
    rw [pairsGo]
    cases m with
    | zero =>
      simp only [List.getElem?_cons_zero, Option.some.injEq] at ho
      subst ho
      have := (pairsAt_mem (t := t) (c := cls y.op) (j := k) (l := ops.toList.take k) (i := 0) (r := pairsGo ops t l (k + 1))).2 i x hx hm (by rwa [Nat.zero_add])
      rwa [Nat.zero_add] at this
    | succ m =>
      rw [show k + (m + 1) = k + 1 + m by omega] at hx hb ⊢
      exact pairsAt_mem.1 _ (ih m o (by simpa using ho) i x hx hm hb)
theorem dynPairs_mem {i j : Nat} {oi oj : Oper} (hi : ops[i]? = some oi) (hj : ops[j]? = some oj) (hij : i < j) (hm : meet (cls oi.op) (cls oj.op) = true) (hn : ¬ Bef ops i j) : (i, j) ∈ dynPairs ops := by
  unfold dynPairs
  rw [masksK_eq]
  have := pairsGo_mem (ops := ops) (t := masks ops) (l := ops.toList) (k := 0) j oj (by simpa using hj) i oi (by rw [Nat.zero_add, List.getElem?_take, if_pos hij]; simpa using hi) hm (by
    rw [Nat.zero_add]
    cases hq : bitB (masks ops) i j with
    | false => rfl
    | true => exact absurd (masks_bit i j hq) hn)
  rwa [Nat.zero_add] at this
end
end Go.Proofs.YtbkgehknhjkaoaaGreatDoor.Ev
namespace Go.Proofs.YtbkgehknhjkaoaaGreatDoor.Ev
open Go

variable [GTab] {P : Program} {W0 : World} [GOk W0]
structure Rc where
  full : Bool
  ids : List Nat
  w : Bool
  bar : Nat
  nx : Nat
  nx' : Nat
  vw : Tr SO
  ou : Tr SO
def topId : SV → Option Nat
  | .ptr id _ => some id
  | .sl id _ _ _ => some id
  | .slr id _ _ _ => some id
  | .emp _ id _ _ => some id
  | .map id => some id
  | .yld id => some id
  | _ => none
noncomputable def viewK (fr : Tr SV) (h : HS) : List Operand → List Nat → Tr SO → (List Nat → Tr SO → Bool) → Bool
  | [], ids, v, k => k ids v
  | x :: r, ids, v, k => opdK fr x fun p => match topId p with
    | some id => bif Nat.blt id h.nx then (match h.hp.get id with
      | some o => v.putK id (some o) fun v' => viewK fr h r (id :: ids) v' k
      | none => false) else false
    | none => viewK fr h r ids v k
noncomputable def mergeK (v : Tr SO) : List Nat → Tr SO → (Tr SO → Bool) → Bool
  | [], hp, k => k hp
  | id :: r, hp, k => hp.putK id (v.get id) fun hp' => mergeK v r hp' k
noncomputable def rangeK (v : Tr SO) : Nat → Nat → Tr SO → (Tr SO → Bool) → Bool
  | 0, _, hp, k => k hp
  | m + 1, id, hp, k => match v.get id with
    | some o => hp.putK id (some o) fun hp' => rangeK v m (id + 1) hp' k
    | none => rangeK v m (id + 1) hp k
theorem viewK_ok {fr : Tr SV} {h : HS} {l : List Operand} : ∀ {ids : List Nat} {v : Tr SO} {k : List Nat → Tr SO → Bool}, viewK fr h l ids v k = true → (∀ id, v.get id = if id ∈ ids then h.hp.get id else none) → (∀ id ∈ ids, id < h.nx) →
    ∃ ids' v', k ids' v' = true ∧ (∀ id, v'.get id = if id ∈ ids' then h.hp.get id else none) ∧ (∀ id ∈ ids', id < h.nx) := by
  induction l with
  | nil => intro ids v k hk a b; exact ⟨ids, v, hk, a, b⟩
  | cons x r ih =>
    intro ids v k hk a b
    rw [viewK, opdK_eq] at hk
    split at hk
    · rename_i id _
      obtain ⟨h1, h2⟩ := bif_true hk
      split at h2
      case h_2 => cases h2
      rename_i o ho
      rw [Tr.putK_eq] at h2
      refine ih h2 (fun j => ?_) (fun j hj => ?_)
      · rw [Tr.get_put]
        by_cases e : j = id
        · subst e; rw [if_pos rfl, if_pos List.mem_cons_self, ho]
        · rw [if_neg e, a j]
          by_cases hm : j ∈ ids
          · rw [if_pos hm, if_pos (List.mem_cons_of_mem _ hm)]
          · rw [if_neg hm, if_neg (fun q => (List.mem_cons.1 q).elim e hm)]
      · rcases List.mem_cons.1 hj with e | e
        · rw [e]; exact Nat.le_of_ble_eq_true h1
        · exact b j e
    · exact ih hk a b
theorem mergeK_ok {v : Tr SO} {l : List Nat} : ∀ {hp : Tr SO} {k : Tr SO → Bool}, mergeK v l hp k = true → ∃ hp', k hp' = true ∧ ∀ id, hp'.get id = if id ∈ l then v.get id else hp.get id := by
  induction l with
  | nil => intro hp k hk; exact ⟨hp, hk, fun id => by simp⟩
  | cons x r ih =>
    intro hp k hk
    rw [mergeK, Tr.putK_eq] at hk
    obtain ⟨hp', h1, h2⟩ := ih hk
    refine ⟨hp', h1, fun id => ?_⟩
    rw [h2, Tr.get_put]
    by_cases e : id = x
    · subst e
      rw [if_pos rfl, if_pos List.mem_cons_self]
      split <;> rfl
    · rw [if_neg e]
      by_cases hm : id ∈ r
      · rw [if_pos hm, if_pos (List.mem_cons_of_mem _ hm)]
      · rw [if_neg hm, if_neg (fun q => (List.mem_cons.1 q).elim e hm)]
theorem rangeK_ok {v : Tr SO} {m : Nat} : ∀ {i : Nat} {hp : Tr SO} {k : Tr SO → Bool}, rangeK v m i hp k = true → ∃ hp', k hp' = true ∧ ∀ id, hp'.get id = if i ≤ id ∧ id < i + m ∧ v.get id ≠ none then v.get id else hp.get id := by
  induction m with
  | zero => intro i hp k hk; exact ⟨hp, hk, fun id => by rw [if_neg (by omega)]⟩
  | succ m ih =>
    intro i hp k hk
    rw [rangeK] at hk
    split at hk
    · rename_i o ho
      rw [Tr.putK_eq] at hk
      obtain ⟨hp', h1, h2⟩ := ih hk
      refine ⟨hp', h1, fun id => ?_⟩
      rw [h2, Tr.get_put]
      by_cases e : id = i
      · subst e
        rw [if_neg (by omega), if_pos rfl, if_pos ⟨by omega, by omega, by rw [ho]; simp⟩, ho]
      · by_cases q : i + 1 ≤ id ∧ id < i + 1 + m ∧ v.get id ≠ none
        · rw [if_pos q, if_pos ⟨by omega, by omega, q.2.2⟩]
        · rw [if_neg q, if_neg e, if_neg fun q2 => q ⟨by omega, by omega, q2.2.2⟩]
    · rename_i hn
      obtain ⟨hp', h1, h2⟩ := ih hk
      refine ⟨hp', h1, fun id => ?_⟩
      rw [h2]
      by_cases e : id = i
      · subst e
        rw [if_neg (by omega), if_neg (fun q => q.2.2 hn)]
      · by_cases q : i + 1 ≤ id ∧ id < i + 1 + m ∧ v.get id ≠ none
        · rw [if_pos q, if_pos ⟨by omega, by omega, q.2.2⟩]
        · rw [if_neg q, if_neg fun q2 => q ⟨by omega, by omega, q2.2.2⟩]

noncomputable def callV (P : Program) (call : CallK) (bar : Nat) (o : Oper) (fr : Tr SV) (h : HS) (k : SV → HS → Option Rc → Bool) : Bool :=
  bif Nat.ble h.bar bar then opK P call o fr ⟨h.hp, h.nx, h.ne, bar⟩ fun sv h1 => k sv ⟨h1.hp, h1.nx, h1.ne, h.bar⟩ (some ⟨true, [], true, bar, h.nx, h1.nx, h.hp, h1.hp⟩) else false
/-- An operation that may write, seen with its own part alone. -/
noncomputable def effV (P : Program) (o : Oper) (fr : Tr SV) (h : HS) (ids : List Nat) (v : Tr SO) (k : SV → HS → Option Rc → Bool) : Bool :=
  opK P (fun _ _ _ _ => false) o fr ⟨v, h.nx, h.ne, h.bar⟩ fun sv h1 =>
      mergeK h1.hp ids h.hp fun hp1 => rangeK h1.hp (h1.nx - h.nx) h.nx hp1 fun hp2 => k sv ⟨hp2, h1.nx, h1.ne, h.bar⟩ (some ⟨false, ids, true, h.bar, h.nx, h1.nx, .e, .e⟩)
noncomputable def opV (P : Program) (call : CallK) (raised : Bool) (nx0 : Nat) (o : Oper) (fr : Tr SV) (h : HS) (k : SV → HS → Option Rc → Bool) : Bool :=
  match cls o.op with
  | 0 => rdK P o fr .e fun sv => k sv h none
  | 1 => viewK fr h (touches o.op) [] .e fun ids v => rdK P o fr v fun sv => k sv h (some ⟨false, ids, false, h.bar, h.nx, h.nx, .e, .e⟩)
  | 2 => viewK fr h (touches o.op) [] .e fun ids v => bif isSl o.op then opK P (fun _ _ _ _ => false) o fr ⟨v, h.nx, h.ne, h.bar⟩ fun sv h1 => k sv ⟨h.hp, h.nx, h1.ne, h.bar⟩ (some ⟨false, ids, false, h.bar, h.nx, h.nx, .e, .e⟩) else effV P o fr h ids v k
  | _ => bif raised then callV P call nx0 o fr h k else callV P call h.bar o fr h k
def RcOk (r : Option Rc) (p : Pl) : Prop :=
  match r with
  | none => ∀ id, p.view id = none ∧ p.out id = none
  | some r => r.nx = p.nx ∧ r.nx' = p.nx' ∧ (r.full = false → (∀ id, p.view id ≠ none → id ∈ r.ids) ∧ (∀ id ∈ r.ids, id < p.nx) ∧ (r.w = false → ∀ id, p.out id = p.view id)) ∧ (r.full = true → (∀ id, p.out id ≠ p.view id → r.bar ≤ id) ∧ ∀ id, p.view id = r.vw.get id ∧ p.out id = r.ou.get id)
/-- What an operation does with its own part of the objects. -/
structure VOk (P : Program) (W0 : World) (o : Oper) (fr : Tr SV) (h h' : HS) (rc : Option Rc) (p : Pl) : Prop where
  run : ∀ ro fr' E N a w, Same fr fr' o.op.operands → Rel W0 E p.view w → Free E p.nx p.nx' p.ne p.ne' → FrOk E fr' N a → ∀ (K : Act → World → Prop) (Q : Exit → Act → World → Prop),
    (∀ E' v w', val E' p.sv = some v → Rel W0 E' p.out w' → Step p.bar p.view p.nx p.nx' p.ne p.ne' E E' w w' → K (a.put o.dst v) w') → o.wpIn (Fw ro) 0 P a w K Q
  lives : p.lives
  sub : ∀ id o, p.view id = some o → h.hp.get id = some o
  eq : ∀ id, h'.hp.get id = ov p h.hp.get id
  nx : p.nx = h.nx
  nx' : p.nx' = h'.nx
  ne : p.ne = h.ne
  ne' : p.ne' = h'.ne
  bar : h.bar ≤ p.bar
  rcok : RcOk rc p
  pure : cls o.op = 0 → rc = none
  read : cls o.op = 1 → ∀ r, rc = some r → r.w = false ∧ r.full = false
theorem ov_self {p : Pl} {g : Hp} {id : Nat} (h : p.out id = p.view id) : ov p g id = g id := by unfold ov; rw [if_pos h]
theorem ov_other {p : Pl} {g : Hp} {id : Nat} (h : p.out id ≠ p.view id) : ov p g id = p.out id := by unfold ov; rw [if_neg h]
theorem cls_rd {call : CallK} {o : Oper} {fr : Tr SV} {h : HS} {k : SV → HS → Bool} (hc : cls o.op = 0 ∨ cls o.op = 1) : opK P call o fr h k = rdK P o fr h.hp fun sv => k sv h := by
  unfold opK
  cases ho : o.op <;> (try rfl) <;> rw [ho] at hc <;> (try (rcases hc with hc | hc <;> cases hc))
  rename_i c
  rcases c with ⟨cal, args, ts⟩
  cases cal with
  | builtin b => cases b <;> first | rfl | (rcases hc with hc | hc <;> cases hc)
  | value f => rcases hc with hc | hc <;> cases hc
  | invoke r n => rcases hc with hc | hc <;> cases hc
def noCall : CallK := fun _ _ _ _ => false
noncomputable def opVC (P : Program) (o : Oper) : Cl (CallK → Tr SV → HS → (SV → HS → Option Rc → Bool) → Bool) :=
  (compOp P o).then fun g => match cls o.op with
  | 0 => ⟨fun _ fr h k => g noCall fr ⟨.e, h.nx, h.ne, h.bar⟩ fun sv _ => k sv h none⟩
  | 1 => ⟨fun _ fr h k => viewK fr h (touches o.op) [] .e fun ids v => g noCall fr ⟨v, h.nx, h.ne, h.bar⟩ fun sv _ => k sv h (some ⟨false, ids, false, h.bar, h.nx, h.nx, .e, .e⟩)⟩
  | 2 => (match isSl o.op with
    | true => ⟨fun _ fr h k => viewK fr h (touches o.op) [] .e fun ids v => g noCall fr ⟨v, h.nx, h.ne, h.bar⟩ fun sv h1 => normH ⟨h.hp, h.nx, h1.ne, h.bar⟩ fun h2 => k sv h2 (some ⟨false, ids, false, h.bar, h.nx, h.nx, .e, .e⟩)⟩
    | false => ⟨fun _ fr h k => viewK fr h (touches o.op) [] .e fun ids v => g noCall fr ⟨v, h.nx, h.ne, h.bar⟩ fun sv h1 =>
      mergeK h1.hp ids h.hp fun hp1 => rangeK h1.hp (h1.nx - h.nx) h.nx hp1 fun hp2 => normH ⟨hp2, h1.nx, h1.ne, h.bar⟩ fun h2 => k sv h2 (some ⟨false, ids, true, h.bar, h.nx, h1.nx, .e, .e⟩)⟩)
  | _ => ⟨fun call fr h k => g call fr ⟨h.hp, h.nx, h.ne, h.bar⟩ fun sv h1 => normH ⟨h1.hp, h1.nx, h1.ne, h.bar⟩ fun h2 => k sv h2 (some ⟨true, [], true, h.bar, h.nx, h1.nx, h.hp, h1.hp⟩)⟩
theorem viewK_mono {fr : Tr SV} {h : HS} {l : List Operand} : ∀ {ids : List Nat} {v : Tr SO} {k k' : List Nat → Tr SO → Bool}, (∀ i v, k i v = true → k' i v = true) → viewK fr h l ids v k = true → viewK fr h l ids v k' = true := by
  induction l with
  | nil => intro ids v k k' hm hk; exact hm _ _ hk
  | cons x r ih =>
    intro ids v k k' hm hk
    rw [viewK, opdK_eq] at hk ⊢
    split at hk
    · rename_i id e
      obtain ⟨h1, h2⟩ := bif_true hk
      rw [h1, cond_true]
      split at h2
      case h_2 => cases h2
      rename_i o ho
      simp only [Tr.putK_eq] at h2 ⊢
      exact ih hm h2
    · exact ih hm hk
theorem opVC_ok' {call : CallK} {o : Oper} {fr : Tr SV} {h : HS} {k : SV → HS → Option Rc → Bool} (hk : (opVC P o).f call fr h k = true) : opV P call false 0 o fr h k = true := by
  unfold opVC at hk
  rw [Cl.then_eq] at hk
  simp only [normH_eq] at hk
  unfold opV
  split at hk
  · rename_i hc
    have := compOp_ok hk
    rw [cls_rd (.inl hc)] at this
    exact this
  · rename_i hc
    refine viewK_mono (fun ids v hk => ?_) hk
    have := compOp_ok hk
    rw [cls_rd (.inr hc)] at this
    exact this
  · rename_i hc
    cases hs : isSl o.op with
    | true =>
      rw [hs] at hk
      simp only [cond_true]
      exact viewK_mono (fun ids v hk => compOp_ok hk) hk
    | false =>
      rw [hs] at hk
      simp only [cond_false]
      exact viewK_mono (fun ids v hk => compOp_ok hk) hk
  · rename_i n0 n1 n2
    simp only [cond_false, callV]
    rw [show Nat.ble h.bar h.bar = true from Nat.ble_eq_true_of_le (Nat.le_refl _), cond_true]
    exact compOp_ok hk
theorem opV_ok {call : CallK} (hc : CallSound P W0 call) {raised : Bool} {nx0 : Nat} {o : Oper} {fr : Tr SV} {h : HS} {k : SV → HS → Option Rc → Bool} (hk : opV P call raised nx0 o fr h k = true) :
    ∃ sv h' rc p, k sv h' rc = true ∧ p.sv = sv ∧ Goes h h' ∧ VOk P W0 o fr h h' rc p := by
  unfold opV at hk
  split at hk
  · rename_i hcls
    obtain ⟨sv, k1, k2⟩ := rd_op (W0 := W0) (h := ⟨.e, h.nx, h.ne, h.bar⟩) hk
    refine ⟨sv, h, none, ⟨Tr.e.get, Tr.e.get, sv, h.bar, h.nx, h.nx, h.ne, h.ne⟩, k1, rfl, Goes.refl h, ⟨k2, fun id o e => (by cases e), fun id o e => (by cases e), fun id => (ov_self rfl).symm, rfl, rfl, rfl, rfl, Nat.le_refl _, fun id => ⟨rfl, rfl⟩, fun _ => rfl, fun e => (by rw [hcls] at e; cases e)⟩⟩
  · rename_i hcls
    obtain ⟨ids, v, hk, v1, v2⟩ := viewK_ok hk (fun id => by simp [Tr.get_e]) (fun id hid => by cases hid)
    obtain ⟨sv, k1, k2⟩ := rd_op (W0 := W0) (h := ⟨v, h.nx, h.ne, h.bar⟩) hk
    refine ⟨sv, h, _, ⟨v.get, v.get, sv, h.bar, h.nx, h.nx, h.ne, h.ne⟩, k1, rfl, Goes.refl h, ⟨k2, fun id o e => .inr ⟨o, e⟩, fun id o e => ?_, fun id => (ov_self rfl).symm, rfl, rfl, rfl, rfl, Nat.le_refl _, ⟨rfl, rfl, fun _ => ⟨fun id hid => ?_, v2, fun _ _ => rfl⟩, fun e => (by cases e)⟩, fun e => (by rw [hcls] at e; cases e), fun _ r e => by (obtain rfl := Option.some.inj e; exact ⟨rfl, rfl⟩)⟩⟩
    · simp only at e
      rw [v1] at e
      split at e
      · exact e
      · cases e
    · simp only at hid
      rw [v1] at hid
      split at hid
      · assumption
      · exact absurd rfl hid
  · rename_i hcls
    obtain ⟨ids, v, hk, v1, v2⟩ := viewK_ok hk (fun id => by simp [Tr.get_e]) (fun id hid => by cases hid)
    rw [Bool.cond_eq_ite] at hk
    split at hk
    · rename_i his
      obtain ⟨sv, ne, k1, hne, k2⟩ := sl_op (W0 := W0) (h := ⟨v, h.nx, h.ne, h.bar⟩) his hk
      refine ⟨sv, ⟨h.hp, h.nx, ne, h.bar⟩, _, ⟨v.get, v.get, sv, h.bar, h.nx, h.nx, h.ne, ne⟩, k1, rfl, ⟨fun _ _ => rfl, rfl, Nat.le_refl _, hne, fun _ o e => .inr ⟨o, e⟩⟩, ⟨k2, fun id o e => .inr ⟨o, e⟩, fun id o e => ?_, fun id => (ov_self rfl).symm, rfl, rfl, rfl, rfl, Nat.le_refl _, ⟨rfl, rfl, fun _ => ⟨fun id hid => ?_, v2, fun _ _ => rfl⟩, fun e => (by cases e)⟩, fun e => (by rw [hcls] at e; cases e), fun e => by (rw [hcls] at e; cases e)⟩⟩
      · simp only at e
        rw [v1] at e
        split at e
        · exact e
        · cases e
      · simp only at hid
        rw [v1] at hid
        split at hid
        · assumption
        · exact absurd rfl hid
    unfold effV at hk
    obtain ⟨sv, h1, hk, g, k2⟩ := opK_ok (W0 := W0) (fun f l h k hk => by cases hk) hk
    obtain ⟨hp1, hk, m1⟩ := mergeK_ok hk
    obtain ⟨hp2, hk, m2⟩ := rangeK_ok hk
    have gnx : h.nx ≤ h1.nx := g.nx
    have gne : h.ne ≤ h1.ne := g.ne
    have gk : ∀ id, id < h.bar → h1.hp.get id = v.get id := g.kept
    have gl : ∀ id o, h1.hp.get id = some o → (h.nx ≤ id ∧ id < h1.nx) ∨ ∃ o0, v.get id = some o0 := g.live
    have gb : h1.bar = h.bar := g.bar
    have vin : ∀ id, v.get id ≠ none → id ∈ ids := fun id hid => by
      rw [v1] at hid
      split at hid
      · assumption
      · exact absurd rfl hid
    have hov : ∀ id, hp2.get id = ov ⟨v.get, h1.hp.get, sv, h.bar, h.nx, h1.nx, h.ne, h1.ne⟩ h.hp.get id := fun id => by
      rw [m2, m1]
      by_cases q : h1.hp.get id = v.get id
      · rw [ov_self (p := ⟨v.get, h1.hp.get, sv, h.bar, h.nx, h1.nx, h.ne, h1.ne⟩) q]
        by_cases hm : id ∈ ids
        · have := v2 id hm
          rw [if_neg (by omega), if_pos hm, q, v1, if_pos hm]
        · rw [if_neg hm]
          rw [v1, if_neg hm] at q
          rw [if_neg (fun z => z.2.2 q)]
      · rw [ov_other (p := ⟨v.get, h1.hp.get, sv, h.bar, h.nx, h1.nx, h.ne, h1.ne⟩) q]
        show _ = h1.hp.get id
        by_cases hm : id ∈ ids
        · have := v2 id hm
          rw [if_neg (by omega), if_pos hm]
        · rw [v1, if_neg hm] at q
          cases ho : h1.hp.get id with
          | none => exact absurd ho q
          | some o1 =>
            rcases gl id o1 ho with z | ⟨o0, z⟩
            · rw [if_pos ⟨z.1, by omega, by simp⟩]
            · rw [v1, if_neg hm] at z; cases z
    refine ⟨sv, _, _, ⟨v.get, h1.hp.get, sv, h.bar, h.nx, h1.nx, h.ne, h1.ne⟩, hk, rfl, ⟨fun id hid => ?_, rfl, gnx, gne, fun id o ho => ?_⟩, ⟨k2, gl, fun id o e => ?_, hov, rfl, rfl, rfl, rfl, Nat.le_refl _, ⟨rfl, rfl, fun _ => ⟨vin, v2, fun e => (by cases e)⟩, fun e => (by cases e)⟩, fun e => (by rw [hcls] at e; cases e), fun e => (by rw [hcls] at e; cases e)⟩⟩
    · show hp2.get id = h.hp.get id
      rw [hov, ov_self]
      exact gk id hid
    · change hp2.get id = some o at ho
      rw [hov] at ho
      by_cases q : h1.hp.get id = v.get id
      · rw [ov_self (p := ⟨v.get, h1.hp.get, sv, h.bar, h.nx, h1.nx, h.ne, h1.ne⟩) q] at ho
        exact .inr ⟨o, ho⟩
      · rw [ov_other (p := ⟨v.get, h1.hp.get, sv, h.bar, h.nx, h1.nx, h.ne, h1.ne⟩) q] at ho
        rcases gl id o ho with z | ⟨o0, z⟩
        · exact .inl z
        · have hm := vin id (by rw [z]; simp)
          rw [v1, if_pos hm] at z
          exact .inr ⟨o0, z⟩
    · simp only at e
      rw [v1] at e
      split at e
      · exact e
      · cases e
  · rename_i n0 n1 n2
    have full : ∀ (bar : Nat), h.bar ≤ bar → opK P call o fr ⟨h.hp, h.nx, h.ne, bar⟩ (fun sv h1 => k sv ⟨h1.hp, h1.nx, h1.ne, h.bar⟩ (some ⟨true, [], true, bar, h.nx, h1.nx, h.hp, h1.hp⟩)) = true → ∃ sv h' rc p, k sv h' rc = true ∧ p.sv = sv ∧ Goes h h' ∧ VOk P W0 o fr h h' rc p := by
      intro bar hb hk
      obtain ⟨sv, h1, hk, g, k2⟩ := opK_ok (W0 := W0) hc hk
      have gnx : h.nx ≤ h1.nx := g.nx
      have gne : h.ne ≤ h1.ne := g.ne
      have gk : ∀ id, id < bar → h1.hp.get id = h.hp.get id := g.kept
      have gl : ∀ id o, h1.hp.get id = some o → (h.nx ≤ id ∧ id < h1.nx) ∨ ∃ o0, h.hp.get id = some o0 := g.live
      refine ⟨sv, _, _, ⟨h.hp.get, h1.hp.get, sv, bar, h.nx, h1.nx, h.ne, h1.ne⟩, hk, rfl, ⟨fun id hid => gk id (Nat.lt_of_lt_of_le hid hb), rfl, gnx, gne, gl⟩, ⟨k2, gl, fun id o e => e, fun id => ?_, rfl, rfl, rfl, rfl, hb, ⟨rfl, rfl, fun e => (by cases e), fun _ => ⟨fun id hid => ?_, fun id => ⟨rfl, rfl⟩⟩⟩, fun e => absurd e n0, fun e => absurd e n1⟩⟩
      · show h1.hp.get id = ov _ h.hp.get id
        by_cases q : h1.hp.get id = h.hp.get id
        · rw [ov_self (p := ⟨h.hp.get, h1.hp.get, sv, bar, h.nx, h1.nx, h.ne, h1.ne⟩) q, q]
        · rw [ov_other (p := ⟨h.hp.get, h1.hp.get, sv, bar, h.nx, h1.nx, h.ne, h1.ne⟩) q]
      · rcases Nat.lt_or_ge id bar with q | q
        · exact absurd (gk id q) hid
        · exact q
    have full' : ∀ bar, callV P call bar o fr h k = true → ∃ sv h' rc p, k sv h' rc = true ∧ p.sv = sv ∧ Goes h h' ∧ VOk P W0 o fr h h' rc p := fun bar hk => by
      obtain ⟨h1, h2⟩ := bif_true hk
      exact full bar (Nat.le_of_ble_eq_true h1) h2
    rcases bif_or hk with hk | hk
    · exact full' _ hk
    · exact full' _ hk
theorem opVC_ok {call : CallK} (hc : CallSound P W0 call) {o : Oper} {fr : Tr SV} {h : HS} {k : SV → HS → Option Rc → Bool} (hk : (opVC P o).f call fr h k = true) :
    ∃ sv h' rc p, k sv h' rc = true ∧ p.sv = sv ∧ Goes h h' ∧ VOk P W0 o fr h h' rc p := opV_ok hc (opVC_ok' hk)
end Go.Proofs.YtbkgehknhjkaoaaGreatDoor.Ev
namespace Go.Proofs.YtbkgehknhjkaoaaGreatDoor.Ev
open Go

variable [GTab] {P : Program} {W0 : World} [GOk W0]
def isNil : List Nat → Bool
  | [] => true
  | _ => false
noncomputable def allLt : List Nat → Nat → Bool
  | [], _ => true
  | x :: r, b => bif Nat.blt x b then allLt r b else false
noncomputable def offB (x : Nat) : List Nat → Bool
  | [] => true
  | y :: r => bif Nat.beq x y then false else offB x r
noncomputable def allOff : List Nat → List Nat → Nat → Nat → Bool
  | [], _, _, _ => true
  | x :: r, l, a, b => bif offB x l && (Nat.blt x a || Nat.ble b x) then allOff r l a b else false
/-- None of these was changed. -/
noncomputable def allKept (b : Nat) (v o : Tr SO) : List Nat → Bool
  | [] => true
  | x :: r => bif Nat.blt x b then allKept b v o r else bif soEq (v.get x) (o.get x) then allKept b v o r else false
theorem allKept_ok {l : List Nat} {b : Nat} {v o : Tr SO} (h : allKept b v o l = true) : ∀ x ∈ l, x < b ∨ v.get x = o.get x := by
  induction l with
  | nil => intro x hx; cases hx
  | cons y r ih =>
    intro x hx
    rw [allKept] at h
    cases hb : Nat.blt y b with
    | true =>
      rw [hb] at h
      rcases List.mem_cons.1 hx with e | e
      · rw [e]; exact .inl (Nat.le_of_ble_eq_true hb)
      · exact ih h x e
    | false =>
      rw [hb] at h
      obtain ⟨h1, h2⟩ := bif_true h
      rcases List.mem_cons.1 hx with e | e
      · rw [e]; exact .inr (soEq_ok h1)
      · exact ih h2 x e
noncomputable def indB (a b : Rc) : Bool :=
  bif a.full then (bif b.full then false else (bif b.w then isNil b.ids else allKept a.bar a.vw a.ou b.ids))
  else bif b.full then (bif a.w then false else allKept b.bar b.vw b.ou a.ids)
  else bif a.w || b.w then allOff b.ids a.ids a.nx a.nx' else true
noncomputable def pairsOk (rs : Tr Rc) : List (Nat × Nat) → Bool
  | [] => true
  | x :: r => match rs.get x.1 with
    | none => pairsOk rs r
    | some a => match rs.get x.2 with
      | none => pairsOk rs r
      | some b => bif indB a b then pairsOk rs r else false
theorem allLt_ok {l : List Nat} {b : Nat} (h : allLt l b = true) : ∀ x ∈ l, x < b := by
  induction l with
  | nil => intro x hx; cases hx
  | cons y r ih =>
    obtain ⟨h1, h2⟩ := bif_true h
    intro x hx
    rcases List.mem_cons.1 hx with e | e
    · rw [e]; exact Nat.le_of_ble_eq_true h1
    · exact ih h2 x e
theorem offB_ok {x : Nat} {l : List Nat} (h : offB x l = true) : x ∉ l := by
  induction l with
  | nil => exact List.not_mem_nil
  | cons y r ih =>
    rw [offB, Tr.bif_beq] at h
    split at h
    · cases h
    · rename_i e
      intro hx
      rcases List.mem_cons.1 hx with q | q
      · exact e q
      · exact ih h q
theorem allOff_ok {l m : List Nat} {a b : Nat} (h : allOff l m a b = true) : ∀ x ∈ l, x ∉ m ∧ (x < a ∨ b ≤ x) := by
  induction l with
  | nil => intro x hx; cases hx
  | cons y r ih =>
    obtain ⟨h1, h2⟩ := bif_true h
    simp only [Bool.and_eq_true, Bool.or_eq_true] at h1
    intro x hx
    rcases List.mem_cons.1 hx with e | e
    · rw [e]
      exact ⟨offB_ok h1.1, h1.2.imp Nat.le_of_ble_eq_true Nat.le_of_ble_eq_true⟩
    · exact ih h2 x e
theorem pairsOk_ok {rs : Tr Rc} {l : List (Nat × Nat)} (h : pairsOk rs l = true) : ∀ i j a b, (i, j) ∈ l → rs.get i = some a → rs.get j = some b → indB a b = true := by
  induction l with
  | nil => intro i j a b hm; cases hm
  | cons x r ih =>
    intro i j a b hm ha hb
    rw [pairsOk] at h
    rcases List.mem_cons.1 hm with e | e
    · subst e
      simp only [ha, hb] at h
      exact (bif_true h).1
    · refine ih ?_ i j a b e ha hb
      split at h
      · exact h
      · split at h
        · exact h
        · exact (bif_true h).2

noncomputable def putRK (rs : Tr Rc) (j : Nat) (rc : Option Rc) (k : Tr Rc → Bool) : Bool :=
  match rc with
  | none => k rs
  | some c => rs.putK j (some c) k
noncomputable def drawC (P : Program) (N : Nat) (ops : Array Oper) (l : List Oper) : Nat → Cl (CallK → Tr SV → HS → Tr Rc → (Tr SV → HS → Tr Rc → Bool) → Bool) :=
  List.rec (fun _ => ⟨fun _ fr h rs k => k fr h rs⟩) (fun o _ ih j => (wantC ops o).then fun wc => (opVC P o).then fun g => (dstC N o.dst).then fun pd => natC (j + 1) fun j' =>
    ⟨fun call fr h rs k => wc fr (g call fr h fun sv h' rc => pd sv fr fun fr' => putRK rs j rc fun rs' => (ih j').f call fr' h' rs' k) (pd (.lit undef) fr fun fr' => (ih j').f call fr' h rs k)⟩) l
theorem drawC_step {P : Program} {N : Nat} {ops : Array Oper} {o : Oper} {l : List Oper} {j : Nat} {call : CallK} {fr : Tr SV} {h : HS} {rs : Tr Rc} {k : Tr SV → HS → Tr Rc → Bool} (hk : (drawC P N ops (o :: l) j).f call fr h rs k = true) :
    (wants ops o fr = some true ∧ (opVC P o).f call fr h (fun sv h' rc => putDK N o.dst sv fr fun fr' => putRK rs j rc fun rs' => (drawC P N ops l (j + 1)).f call fr' h' rs' k) = true) ∨ (wants ops o fr = some false ∧ putDK N o.dst (.lit undef) fr (fun fr' => (drawC P N ops l (j + 1)).f call fr' h rs k) = true) := by
  change ((wantC ops o).then fun wc => (opVC P o).then fun g => (dstC N o.dst).then fun pd => natC (j + 1) fun j' =>
    (⟨fun call fr h rs k => wc fr (g call fr h fun sv h' rc => pd sv fr fun fr' => putRK rs j rc fun rs' => (drawC P N ops l j').f call fr' h' rs' k) (pd (.lit undef) fr fun fr' => (drawC P N ops l j').f call fr' h rs k)⟩ : Cl (CallK → Tr SV → HS → Tr Rc → (Tr SV → HS → Tr Rc → Bool) → Bool))).f call fr h rs k = true at hk
  rw [Cl.then_eq, Cl.then_eq, Cl.then_eq, natC_eq] at hk
  simp only [dstC_eq] at hk
  obtain ⟨b, e, hb⟩ := wantC_ok hk
  cases b with
  | true => exact .inl ⟨e, hb⟩
  | false => exact .inr ⟨e, hb⟩
def anyB {α : Type} : List α → Bool
  | [] => false
  | _ => true
noncomputable def drawRC (P : Program) (N : Nat) (ops : Array Oper) : Cl (CallK → Tr SV → HS → (Tr SV → HS → Bool) → Bool) :=
  (drawC P N ops ops.toList 0).then fun g => match dynPairs ops with
    | [] => ⟨fun call fr h k => g call fr h .e fun fr' h' _ => k fr' h'⟩
    | x :: r => ⟨fun call fr h k => g call fr h .e fun fr' h' rs => bif pairsOk rs (x :: r) then k fr' h' else false⟩
structure SF (P : Program) (W0 : World) (N : Nat) (ops : Array Oper) (m : Nat) (p : Pl) (fr fr' : Tr SV) (h h' : HS) (rc : Option Rc) : Prop where
  pl : PlOk P W0 N ops m fr p
  lives : p.lives
  sub : ∀ id o, p.view id = some o → h.hp.get id = some o
  eq : ∀ id, h'.hp.get id = ov p h.hp.get id
  nx : p.nx = h.nx
  nx' : p.nx' = h'.nx
  ne : p.ne = h.ne
  ne' : p.ne' = h'.ne
  bar : h.bar ≤ p.bar
  rcok : RcOk rc p
  pure : ∀ o, ops[m]? = some o → cls o.op = 0 → rc = none
  read : ∀ o, ops[m]? = some o → cls o.op = 1 → ∀ r, rc = some r → r.w = false ∧ r.full = false
  frame : fr' = putD (dstOf ops m) p.sv fr
  inN : inN N (dstOf ops m)
  goes : Goes h h'
theorem dstOf_some {ops : Array Oper} {j : Nat} {o : Oper} (h : ops[j]? = some o) : dstOf ops j = o.dst := by unfold dstOf; rw [h]; rfl
theorem drawC_ok {call : CallK} (hc : CallSound P W0 call) {N : Nat} {ops : Array Oper} (l : List Oper) : ∀ (j : Nat) (fr : Tr SV) (h : HS) (rs : Tr Rc) (k : Tr SV → HS → Tr Rc → Bool), j ≤ ops.size → (∀ m, l[m]? = ops[j + m]?) → (∀ m, j ≤ m → rs.get m = none) →
    (drawC P N ops l j).f call fr h rs k = true → ∃ (p : Nat → Pl) (F : Nat → Tr SV) (H : Nat → HS) (R : Tr Rc), k (F ops.size) (H ops.size) R = true ∧ F j = fr ∧ H j = h ∧ (∀ m, m < j → R.get m = rs.get m) ∧ ∀ m, j ≤ m → m < ops.size → SF P W0 N ops m (p m) (F m) (F (m + 1)) (H m) (H (m + 1)) (R.get m) := by
  induction l with
  | nil =>
    intro j fr h rs k hj hl _ hk
    have h0 : ops[j]? = none := by simpa using (hl 0).symm
    have : ops.size ≤ j := by simpa using h0
    have : j = ops.size := Nat.le_antisymm hj this
    subst this
    exact ⟨fun _ => ⟨Tr.e.get, Tr.e.get, .lit undef, 0, 0, 0, 0, 0⟩, fun _ => fr, fun _ => h, rs, hk, rfl, rfl, fun _ _ => rfl, fun m a b => absurd b (by omega)⟩
  | cons o l ih =>
    intro j fr h rs k hj hl hrs hk
    have h0 : ops[j]? = some o := by simpa using (hl 0).symm
    have hjn : j < ops.size := (Array.getElem?_eq_some_iff.1 h0).1
    have hd := dstOf_some h0
    have hl' : ∀ m, l[m]? = ops[j + 1 + m]? := fun m => by have := hl (m + 1); simpa [Nat.add_assoc, Nat.add_comm 1 m] using this
    have go : ∀ (p0 : Pl) (fr1 : Tr SV) (h1 : HS) (rs1 : Tr Rc) (rc : Option Rc), (∀ m, rs1.get m = if m = j then rc else rs.get m) → SF P W0 N ops j p0 fr fr1 h h1 rc → (drawC P N ops l (j + 1)).f call fr1 h1 rs1 k = true →
        ∃ (p : Nat → Pl) (F : Nat → Tr SV) (H : Nat → HS) (R : Tr Rc), k (F ops.size) (H ops.size) R = true ∧ F j = fr ∧ H j = h ∧ (∀ m, m < j → R.get m = rs.get m) ∧ ∀ m, j ≤ m → m < ops.size → SF P W0 N ops m (p m) (F m) (F (m + 1)) (H m) (H (m + 1)) (R.get m) := by
      intro p0 fr1 h1 rs1 rc hr sf hk
      obtain ⟨p, F, H, R, k1, f1, h1', r1, s1⟩ := ih (j + 1) fr1 h1 rs1 k hjn hl' (fun m hm => by rw [hr, if_neg (by omega)]; exact hrs m (by omega)) hk
      refine ⟨fun m => if m = j then p0 else p m, fun m => if m = j then fr else F m, fun m => if m = j then h else H m, R, ?_, if_pos rfl, if_pos rfl, fun m hm => ?_, fun m a b => ?_⟩
      · simp only
        rw [if_neg (by omega), if_neg (by omega)]
        exact k1
      · rw [r1 m (by omega), hr, if_neg (by omega)]
      · by_cases e : m = j
        · subst e
          simp only [if_true]
          rw [if_neg (by omega), if_neg (by omega), f1, h1', r1 m (by omega), hr, if_pos rfl]
          exact sf
        · simp only
          rw [if_neg e, if_neg e, if_neg e, if_neg (by omega), if_neg (by omega)]
          exact s1 m (by omega) b
    rcases drawC_step hk with ⟨hw, hk⟩ | ⟨hw, hk⟩
    · obtain ⟨sv, h1, rc, p0, hk, psv, g, vo⟩ := opVC_ok (W0 := W0) hc hk
      obtain ⟨hk, hN⟩ := putDK_ok hk
      have hk2 : ∃ rs1 : Tr Rc, (∀ m, rs1.get m = if m = j then rc else rs.get m) ∧ (drawC P N ops l (j + 1)).f call (putD o.dst sv fr) h1 rs1 k = true := by
        unfold putRK at hk
        split at hk
        · exact ⟨rs, fun m => by
            by_cases e : m = j
            · rw [if_pos e, e]; exact hrs j (Nat.le_refl _)
            · rw [if_neg e], hk⟩
        · rename_i c
          simp only [Tr.putK_eq] at hk
          exact ⟨_, fun m => Tr.get_put _ _ _ _, hk⟩
      obtain ⟨rs1, hr, hk⟩ := hk2
      refine go p0 _ h1 rs1 rc hr ⟨fun ro fr' E a w hs r fe fo K Q hK => ?_, vo.lives, vo.sub, vo.eq, vo.nx, vo.nx', vo.ne, vo.ne', vo.bar, vo.rcok, fun o' ho' => ?_, fun o' ho' => ?_, by rw [hd, psv], by rw [hd]; exact hN, g⟩ hk
      · unfold wpOpIn
        rw [h0]
        simp only
        rw [wants_ok hw (hs o h0).2 fo, if_pos rfl]
        rw [hd] at hK
        exact (vo.run ro fr' E N a w (hs o h0).1 r fe fo K Q hK)
      · rw [h0] at ho'
        obtain rfl := Option.some.inj ho'
        exact vo.pure
      · rw [h0] at ho'
        obtain rfl := Option.some.inj ho'
        exact vo.read
    · obtain ⟨hk, hN⟩ := putDK_ok hk
      refine go ⟨Tr.e.get, Tr.e.get, .lit undef, h.bar, h.nx, h.nx, h.ne, h.ne⟩ _ h rs none (fun m => ?_) ⟨fun ro fr' E a w hs r fe fo K Q hK => ?_, fun id o e => (by cases e), fun id o e => (by cases e), fun id => (ov_self rfl).symm, rfl, rfl, rfl, rfl, Nat.le_refl _, fun id => ⟨rfl, rfl⟩, fun _ _ _ => rfl, fun _ _ _ r e => (by cases e), by rw [hd], by rw [hd]; exact hN, Goes.refl h⟩ hk
      · by_cases e : m = j
        · rw [if_pos e, e]; exact hrs j (Nat.le_refl _)
        · rw [if_neg e]
      · unfold wpOpIn
        rw [h0]
        simp only
        rw [wants_ok hw (hs o h0).2 fo, if_neg (by simp)]
        rw [hd] at hK
        exact ⟨fun _ _ => trivial, hK E undef w rfl r (Step.refl _ _ _ _ _ _)⟩
end Go.Proofs.YtbkgehknhjkaoaaGreatDoor.Ev
namespace Go.Proofs.YtbkgehknhjkaoaaGreatDoor.Ev
open Go

variable [GTab] {P : Program} {W0 : World} [GOk W0] {N : Nat} {ops : Array Oper}
/-- What the pair's looked-at facts give. -/
structure Apt (p q : Pl) : Prop where
  a : ∀ id, p.out id ≠ p.view id → q.view id = none ∧ q.out id = none
  b : ∀ id, q.out id ≠ q.view id → p.view id = none ∧ p.out id = none
theorem mod_of {p : Pl} (hl : p.lives) {id : Nat} (h : p.out id ≠ p.view id) : (p.nx ≤ id ∧ id < p.nx') ∨ p.view id ≠ none := by
  cases hv : p.view id with
  | some o => exact .inr (by simp)
  | none =>
    cases ho : p.out id with
    | none => exact absurd (ho.trans hv.symm) h
    | some o =>
      rcases hl id o ho with q | ⟨o0, q⟩
      · exact .inl q
      · rw [hv] at q; cases q
theorem out_of {p : Pl} (hl : p.lives) {id : Nat} (h : p.out id ≠ none) : (p.nx ≤ id ∧ id < p.nx') ∨ p.view id ≠ none := by
  cases ho : p.out id with
  | none => exact absurd ho h
  | some o =>
    rcases hl id o ho with q | ⟨o0, q⟩
    · exact .inl q
    · exact .inr (by rw [q]; simp)
theorem none_of {α : Type} {x : Option α} (h : ¬ x ≠ none) : x = none := Classical.byContradiction h
/-- The pair: p stands first in the text. -/
theorem apt_of {p q : Pl} {a b : Rc} {nxN : Nat} (hp : p.lives) (hq : q.lives) (ra : RcOk (some a) p) (rb : RcOk (some b) q) (h : indB a b = true) (h1 : p.nx ≤ p.nx') (h2 : p.nx' ≤ q.nx) (h3 : q.nx ≤ q.nx') (h4 : q.nx' ≤ nxN)
    (hno : ∀ id, p.view id ≠ none → ¬ (p.nx ≤ id ∧ id < nxN)) : Apt p q := by
  obtain ⟨a1, a2, al, af⟩ := ra
  obtain ⟨b1, b2, bl, bf⟩ := rb
  unfold indB at h
  cases hfa : a.full with
  | true =>
    rw [hfa, cond_true] at h
    cases hfb : b.full with
    | true => rw [hfb] at h; cases h
    | false =>
      rw [hfb, cond_false] at h
      obtain ⟨v1, v2, v3⟩ := bl hfb
      have af := af hfa
      -- what b sees is not changed by a
      have see : ∀ id, p.out id ≠ p.view id → q.view id = none := fun id hm => by
        refine none_of fun hv => ?_
        have hid := v1 id hv
        cases hw : b.w with
        | true =>
          rw [hw, cond_true] at h
          cases hi : b.ids with
          | nil => rw [hi] at hid; cases hid
          | cons x r => rw [hi] at h; cases h
        | false =>
          rw [hw, cond_false] at h
          rcases allKept_ok h id hid with q | q
          · have := af.1 id hm
            omega
          · exact hm (((af.2 id).2.trans q.symm).trans (af.2 id).1.symm)
      have old : ∀ id, q.nx ≤ id → id < q.nx' → p.view id = none ∧ p.out id = none := fun id x y => by
        have hv : p.view id = none := none_of fun hv => hno id hv ⟨by omega, by omega⟩
        refine ⟨hv, none_of fun ho => ?_⟩
        rcases out_of hp ho with z | z
        · omega
        · exact z hv
      refine ⟨fun id hm => ⟨see id hm, none_of fun ho => ?_⟩, fun id hm => ?_⟩
      · rcases out_of hq ho with z | z
        · obtain ⟨o1, o2⟩ := old id z.1 z.2
          exact hm (o2.trans o1.symm)
        · exact z (see id hm)
      · cases hw : b.w with
        | false => exact absurd (v3 hw id) hm
        | true =>
          rw [hw, cond_true] at h
          rcases mod_of hq hm with z | z
          · exact old id z.1 z.2
          · have hid := v1 id z
            cases hi : b.ids with
            | nil => rw [hi] at hid; cases hid
            | cons x r => rw [hi] at h; cases h
  | false =>
    rw [hfa, cond_false] at h
    obtain ⟨u1, u2, u3⟩ := al hfa
    cases hfb : b.full with
    | true =>
      rw [hfb, cond_true] at h
      have bf := bf hfb
      cases hw : a.w with
      | true => rw [hw] at h; cases h
      | false =>
        rw [hw, cond_false] at h
        have u3 := u3 hw
        refine ⟨fun id hm => absurd (u3 id) hm, fun id hm => ?_⟩
        have hb := bf.1 id hm
        have hv : p.view id = none := none_of fun hv => by
          rcases allKept_ok h id (u1 id hv) with q | q
          · omega
          · exact hm (((bf.2 id).2.trans q.symm).trans (bf.2 id).1.symm)
        exact ⟨hv, (u3 id).trans hv⟩
    | false =>
      rw [hfb, cond_false] at h
      obtain ⟨v1, v2, v3⟩ := bl hfb
      cases hw : (a.w || b.w) with
      | false =>
        rw [Bool.or_eq_false_iff] at hw
        exact ⟨fun id hm => absurd (u3 hw.1 id) hm, fun id hm => absurd (v3 hw.2 id) hm⟩
      | true =>
        rw [hw, cond_true] at h
        have off := allOff_ok h
        have pin : ∀ id, ((p.nx ≤ id ∧ id < p.nx') ∨ p.view id ≠ none) → id ∉ b.ids ∧ id < p.nx' := fun id z => by
          rcases z with z | z
          · refine ⟨fun hb => ?_, z.2⟩
            have := (off id hb).2
            rw [a1, a2] at this
            omega
          · have ha := u1 id z
            exact ⟨fun hb => (off id hb).1 ha, by have := u2 id ha; omega⟩
        have qin : ∀ id, ((q.nx ≤ id ∧ id < q.nx') ∨ q.view id ≠ none) → id ∈ b.ids ∨ q.nx ≤ id := fun id z => by
          rcases z with z | z
          · exact .inr z.1
          · exact .inl (v1 id z)
        have no : ∀ id, ((p.nx ≤ id ∧ id < p.nx') ∨ p.view id ≠ none) → ((q.nx ≤ id ∧ id < q.nx') ∨ q.view id ≠ none) → False := fun id z z' => by
          have z1 := pin id z
          rcases qin id z' with y | y
          · exact z1.1 y
          · omega
        refine ⟨fun id hm => ⟨none_of fun hv => no id (mod_of hp hm) (.inr hv), none_of fun ho => no id (mod_of hp hm) (out_of hq ho)⟩, fun id hm => ⟨none_of fun hv => no id (.inr hv) (mod_of hq hm), none_of fun ho => no id (out_of hp ho) (mod_of hq hm)⟩⟩
theorem apt_none_left {p q : Pl} (h : RcOk none p) : Apt p q := ⟨fun id hm => absurd ((h id).2.trans (h id).1.symm) hm, fun id _ => h id⟩
theorem apt_none_right {p q : Pl} (h : RcOk none q) : Apt p q := ⟨fun id _ => h id, fun id hm => absurd ((h id).2.trans (h id).1.symm) hm⟩

theorem last_succ {β : Type} {w : Nat → Option β} {n i : Nat} (hi : i < n) (b : β) : last w (fun j => decide (j < i + 1)) (List.range n) b = (w i).getD (last w (fun j => decide (j < i)) (List.range n) b) :=
  last_put hi (fun j => by
    by_cases e : j = i
    · subst e; simp
    · rw [if_neg e]
      by_cases q : j < i
      · simp [q, Nat.lt_succ_of_lt q]
      · simp [q]; omega) (fun j h1 _ h2 => by simp at h2; omega) b

/-- The region, from every frame and world that are so, comes to what is given. -/
def RegOk (P : Program) (W0 : World) (N : Nat) (ops : Array Oper) (draw : Bool) (fr : Tr SV) (h : HS) (fr' : Tr SV) (h' : HS) : Prop :=
  ∀ ro id E a w, Rel W0 E h.hp.get w → Free E h.nx h'.nx h.ne h'.ne → FrOk E fr N a → ∀ Q : Exit → Act → World → Prop,
    (∀ E' a' w', Rel W0 E' h'.hp.get w' → Step h.bar h.hp.get h.nx h'.nx h.ne h'.ne E E' w w' → FrOk E' fr' N a' → Q .normal a' w') → (Code.region id ops draw).wpIn (Fw ro) 0 P Q a w

theorem reg_of_sf (hm : P.follows .mixedOrders = true) (hok : drawOk ops = true) {p : Nat → Pl} {F : Nat → Tr SV} {H : Nat → HS} {R : Tr Rc} (S : ∀ m, m < ops.size → SF P W0 N ops m (p m) (F m) (F (m + 1)) (H m) (H (m + 1)) (R.get m))
    (hpairs : ∀ i j a b, (i, j) ∈ dynPairs ops → R.get i = some a → R.get j = some b → indB a b = true) : Goes (H 0) (H ops.size) ∧ RegOk P W0 N ops true (F 0) (H 0) (F ops.size) (H ops.size) := by
  have goes : ∀ m, m ≤ ops.size → Goes (H 0) (H m) := by
    intro m
    induction m with
    | zero => intro _; exact Goes.refl _
    | succ m ih => intro hm; exact (ih (by omega)).trans (S m hm).goes
  have mono : ∀ d m, m + d ≤ ops.size → (H m).nx ≤ (H (m + d)).nx ∧ (H m).ne ≤ (H (m + d)).ne := by
    intro d
    induction d with
    | zero => intro m _; exact ⟨Nat.le_refl _, Nat.le_refl _⟩
    | succ d ih =>
      intro m hm
      have h1 := ih m (by omega)
      have h2 := (S (m + d) (by omega)).goes
      exact ⟨Nat.le_trans h1.1 h2.nx, Nat.le_trans h1.2 h2.ne⟩
  have mono' : ∀ i j, i ≤ j → j ≤ ops.size → (H i).nx ≤ (H j).nx ∧ (H i).ne ≤ (H j).ne := fun i j h1 h2 => by
    have := mono (j - i) i (by omega)
    rwa [show i + (j - i) = j by omega] at this
  have lexF : ∀ i, i ≤ ops.size → ∀ t, (F i).get t = last (wF ops p t) (fun j => decide (j < i)) (List.range ops.size) ((F 0).get t) := by
    intro i
    induction i with
    | zero => intro _ t; exact (last_same _ _ fun j _ hu => by simp at hu).symm
    | succ i ih =>
      intro hi t
      rw [last_succ hi, ← ih (by omega) t, (S i hi).frame, get_putD]
      rfl
  have lexH : ∀ i, i ≤ ops.size → ∀ id, (H i).hp.get id = last (wH p id) (fun j => decide (j < i)) (List.range ops.size) ((H 0).hp.get id) := by
    intro i
    induction i with
    | zero => intro _ id; exact (last_same _ _ fun j _ hu => by simp at hu).symm
    | succ i ih =>
      intro hi id
      rw [last_succ hi, ← ih (by omega) id, (S i hi).eq]
      unfold ov wH
      split <;> rfl
  refine ⟨goes _ (Nat.le_refl _), fun ro id E a w r fe fo Q hQ => ?_⟩
  have no0 : ∀ i, i ≤ ops.size → ∀ id, (H i).hp.get id ≠ none → ¬ ((H i).nx ≤ id ∧ id < (H ops.size).nx) := fun i hi id hne hin => by
    cases ho : (H i).hp.get id with
    | none => exact hne ho
    | some o =>
      rcases (goes i hi).live id o ho with q | ⟨o0, q⟩
      · omega
      · obtain ⟨s, e, _⟩ := r.obj id o0 q
        have := (goes i hi).nx
        rw [fe.at_ id (by omega) hin.2] at e
        cases e
  have apt : ∀ i j, i < j → j < ops.size → ¬ Bef ops i j → Apt (p i) (p j) := by
    intro i j hij hj hn
    have si := S i (by omega)
    have sj := S j hj
    have oi : ops[i]? = some ops[i] := Array.getElem?_eq_getElem (by omega)
    have oj : ops[j]? = some ops[j] := Array.getElem?_eq_getElem hj
    have ri := si.rcok
    have rj := sj.rcok
    cases ha : R.get i with
    | none => rw [ha] at ri; exact apt_none_left ri
    | some a =>
      cases hb : R.get j with
      | none => rw [hb] at rj; exact apt_none_right rj
      | some b =>
        rw [ha] at ri
        rw [hb] at rj
        have c1 : cls (ops[i]'(by omega)).op ≠ 0 := fun e => by
          have := si.pure _ oi e
          rw [ha] at this
          cases this
        have c2 : cls ops[j].op ≠ 0 := fun e => by
          have := sj.pure _ oj e
          rw [hb] at this
          cases this
        cases hmeet : meet (cls (ops[i]'(by omega)).op) (cls ops[j].op) with
        | true =>
          have := hpairs i j a b (dynPairs_mem oi oj hij hmeet hn) ha hb
          refine apt_of (nxN := (H ops.size).nx) si.lives sj.lives ri rj this ?_ ?_ ?_ ?_ fun id hv => ?_
          · rw [si.nx, si.nx']; exact si.goes.nx
          · rw [si.nx', sj.nx]; exact (mono' (i + 1) j hij (by omega)).1
          · rw [sj.nx, sj.nx']; exact sj.goes.nx
          · rw [sj.nx']; exact (mono' (j + 1) _ (by omega) (Nat.le_refl _)).1
          · rw [si.nx]
            refine no0 i (by omega) id fun hz => hv ?_
            cases hx : (p i).view id with
            | none => rfl
            | some o =>
              have := si.sub id o hx
              rw [hz] at this
              cases this
        | false =>
          have e1 : cls (ops[i]'(by omega)).op = 1 ∧ cls ops[j].op = 1 := by
            revert hmeet c1 c2
            generalize cls (ops[i]'(by omega)).op = x
            generalize cls ops[j].op = y
            intro c1 c2 hmeet
            unfold meet at hmeet
            split at hmeet
            · exact absurd rfl c1
            · exact absurd rfl c2
            · exact ⟨rfl, rfl⟩
            · cases hmeet
          obtain ⟨w1, f1⟩ := si.read _ oi e1.1 a ha
          obtain ⟨w2, f2⟩ := sj.read _ oj e1.2 b hb
          exact ⟨fun id hm => absurd ((ri.2.2.1 f1).2.2 w1 id) hm, fun id hm => absurd ((rj.2.2.1 f2).2.2 w2 id) hm⟩
  have D : Draw P W0 N ops p F (H 0).hp.get (F 0) (H 0).bar (H 0).nx (H ops.size).nx (H 0).ne (H ops.size).ne :=
    { ok := fun i hi => (S i hi).pl
      lives := fun i hi => (S i hi).lives
      lexF := fun i hi t => lexF i (by omega) t
      lexH := fun i hi id o hv => by
        rw [← lexH i (by omega) id]
        exact (S i hi).sub id o hv
      ind := fun i j hi hj hne h1 h2 => by
        rcases Nat.lt_or_gt_of_ne hne with q | q
        · exact (apt i j q hj h1).a
        · exact (apt j i q hi h2).b
      apart := drawOk_apart hok
      inN := fun i hi => (S i hi).inN
      nx := fun i j hij hj => by
        rw [(S i (by omega)).nx', (S j hj).nx]
        exact (mono' (i + 1) j hij (by omega)).1
      ne := fun i j hij hj => by
        rw [(S i (by omega)).ne', (S j hj).ne]
        exact (mono' (i + 1) j hij (by omega)).2
      box := fun i hi => by
        have s := S i hi
        rw [s.nx, s.nx', s.ne, s.ne']
        have m1 := mono' 0 i (by omega) (by omega)
        have m2 := mono' (i + 1) ops.size (by omega) (Nat.le_refl _)
        refine ⟨m1.1, s.goes.nx, m2.1, m1.2, s.goes.ne, m2.2, ?_⟩
        rw [← (goes i (by omega)).bar]
        exact s.bar
      edge := drawOk_edge hok }
  refine draw_region hm D r fe fo fun E' a' w' r' st f' => hQ E' a' w' ?_ st (f'.of_get fun t => ?_)
  · have e : gU ops p (H 0).hp.get (fun _ => true) = (H ops.size).hp.get := by
      funext id
      rw [lexH ops.size (Nat.le_refl _) id]
      exact last_congr _ _ fun j hj _ => by simpa using List.mem_range.1 hj
    rw [← e]
    exact r'
  · rw [get_frL, lexF ops.size (Nat.le_refl _) t]
    exact last_congr _ _ fun j hj _ => by simpa using List.mem_range.1 hj
theorem drawRC_ok {call : CallK} (hc : CallSound P W0 call) (hm : P.follows .mixedOrders = true) (hok : drawOk ops = true) {K : Nat} (hin : drawIn K ops ops.toList = true) {fr frT : Tr SV} (ag : ∀ t, Nat.testBit K t = true → opd fr (.tmp t) = opd frT (.tmp t)) {h : HS} {k : Tr SV → HS → Bool} (hk : (drawRC P N ops).f call fr h k = true) :
    ∃ fr' frT' h', k fr' h' = true ∧ (∀ t, Nat.testBit K t = true → opd fr' (.tmp t) = opd frT' (.tmp t)) ∧ Goes h h' ∧ RegOk P W0 N ops true frT h frT' h' := by
  unfold drawRC at hk
  rw [Cl.then_eq] at hk
  have fin : ∀ (k' : Tr SV → HS → Tr Rc → Bool), (drawC P N ops ops.toList 0).f call fr h .e k' = true → (∀ fr' h' R, k' fr' h' R = true → k fr' h' = true ∧ ∀ i j a b, (i, j) ∈ dynPairs ops → R.get i = some a → R.get j = some b → indB a b = true) →
      ∃ fr' frT' h', k fr' h' = true ∧ (∀ t, Nat.testBit K t = true → opd fr' (.tmp t) = opd frT' (.tmp t)) ∧ Goes h h' ∧ RegOk P W0 N ops true frT h frT' h' := by
    intro k' hk hk'
    obtain ⟨p, F, H, R, k1, f0, h0, _, S⟩ := drawC_ok (W0 := W0) hc ops.toList 0 fr h .e k' (Nat.zero_le _) (by simp) (fun m _ => rfl) hk
    obtain ⟨k2, k3⟩ := hk' _ _ _ k1
    let FT : Nat → Tr SV := fun n => Nat.rec frT (fun m x => putD (dstOf ops m) (p m).sv x) n
    have agF : ∀ m, m ≤ ops.size → ∀ t, Nat.testBit K t = true → opd (F m) (.tmp t) = opd (FT m) (.tmp t) := by
      intro m
      induction m with
      | zero => intro _ t ht; rw [f0]; exact ag t ht
      | succ m ih =>
        intro hm t ht
        rw [(S m (Nat.zero_le _) (by omega)).frame]
        show opd (putD (dstOf ops m) (p m).sv (F m)) (.tmp t) = opd (putD (dstOf ops m) (p m).sv (FT m)) (.tmp t)
        cases hd : dstOf ops m with
        | none => exact ih (by omega) t ht
        | some d =>
          show opd ((F m).put d (some (p m).sv)) (.tmp t) = opd ((FT m).put d (some (p m).sv)) (.tmp t)
          rw [opd_put, opd_put]
          split
          · rfl
          · exact ih (by omega) t ht
    have ST : ∀ m, m < ops.size → SF P W0 N ops m (p m) (FT m) (FT (m + 1)) (H m) (H (m + 1)) (R.get m) := fun m hm => by
      have s := S m (Nat.zero_le _) hm
      refine { s with pl := fun ro fr' E a w hs => s.pl ro fr' E a w fun o ho => ?_, frame := rfl }
      obtain ⟨q1, q2⟩ := drawIn_ok hin (agF m (by omega)) o (by
        have := List.mem_of_getElem? (l := ops.toList) (i := m) (a := o) (by simpa using ho)
        exact this)
      obtain ⟨p1, p2⟩ := hs o ho
      exact ⟨fun x hx => (q1 x hx).trans (p1 x hx), fun g want t a b => (q2 g want t a b).trans (p2 g want t a b)⟩
    have := reg_of_sf hm hok ST k3
    rw [h0] at this
    exact ⟨_, _, _, k2, agF _ (Nat.le_refl _), this⟩
  cases hd : dynPairs ops with
  | nil =>
    rw [hd] at hk
    refine fin _ hk fun fr' h' R e => ⟨e, fun i j a b hmem => ?_⟩
    rw [hd] at hmem
    cases hmem
  | cons x r =>
    rw [hd] at hk
    refine fin _ hk fun fr' h' R e => ?_
    obtain ⟨e1, e2⟩ := bif_true e
    rw [← hd] at e1
    exact ⟨e2, pairsOk_ok e1⟩
end Go.Proofs.YtbkgehknhjkaoaaGreatDoor.Ev
