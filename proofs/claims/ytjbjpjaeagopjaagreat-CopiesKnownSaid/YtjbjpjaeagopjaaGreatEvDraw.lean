/- Any order of a region's operations, where those that may come up in any order do not meddle with one another. -/
import Derived.Test.YtjbjpjaeagopjaaGreatEvOps
import Derived.StillTail
set_option linter.unusedSimpArgs false
set_option linter.unusedVariables false
set_option linter.unusedSectionVars false
namespace Go.Proofs.YtjbjpjaeagopjaaGreat.Ev
open Go

section last
variable {β : Type} {w : Nat → Option β} {up : Nat → Bool}
def last (w : Nat → Option β) (up : Nat → Bool) (l : List Nat) (b : β) : β := l.foldl (fun b i => bif up i then (w i).getD b else b) b
theorem last_cons (i : Nat) (l : List Nat) (b : β) : last w up (i :: l) b = last w up l (bif up i then (w i).getD b else b) := rfl
theorem last_append (l m : List Nat) (b : β) : last w up (l ++ m) b = last w up m (last w up l b) := by simp [last, List.foldl_append]
theorem last_congr {u2 : Nat → Bool} (l : List Nat) : ∀ b, (∀ i ∈ l, w i ≠ none → up i = u2 i) → last w up l b = last w u2 l b := by
  induction l with
  | nil => intro b _; rfl
  | cons i l ih =>
    intro b h
    rw [last_cons, last_cons]
    have : (bif up i then (w i).getD b else b) = (bif u2 i then (w i).getD b else b) := by
      by_cases hw : w i = none
      · rw [hw]; cases up i <;> cases u2 i <;> rfl
      · rw [h i List.mem_cons_self hw]
    rw [this]
    exact ih _ fun j hj => h j (List.mem_cons_of_mem _ hj)
theorem last_same (l : List Nat) : ∀ b, (∀ i ∈ l, up i = true → w i = none) → last w up l b = b := by
  induction l with
  | nil => intro b _; rfl
  | cons i l ih =>
    intro b h
    rw [last_cons]
    have : (bif up i then (w i).getD b else b) = b := by
      cases hu : up i with
      | false => rfl
      | true => rw [h i List.mem_cons_self hu]; rfl
    rw [this]
    exact ih _ fun j hj => h j (List.mem_cons_of_mem _ hj)
theorem range_split {n i : Nat} (hi : i < n) : List.range n = List.range i ++ i :: List.range' (i + 1) (n - i - 1) := by
  obtain ⟨m, rfl⟩ : ∃ m, n = i + (m + 1) := ⟨n - i - 1, by omega⟩
  rw [List.range_eq_range', List.range_eq_range', ← List.range'_append_1, Nat.zero_add, List.range'_succ]
  congr 3
  omega
theorem last_put {n i : Nat} (hi : i < n) {u2 : Nat → Bool} (hu2 : ∀ j, u2 j = if j = i then true else up j) (hlate : ∀ j, i < j → j < n → up j = true → w i ≠ none → w j = none) (b : β) :
    last w u2 (List.range n) b = (w i).getD (last w up (List.range n) b) := by
  cases hw : w i with
  | none =>
    exact last_congr _ b fun j _ hj => by
      rw [hu2]
      by_cases e : j = i
      · subst e; exact absurd hw hj
      · rw [if_neg e]
  | some v =>
    rw [range_split hi, last_append, last_cons, hu2, if_pos rfl, cond_true, hw, last_same]
    · rfl
    · intro j hj hu
      rw [List.mem_range'_1] at hj
      rw [hu2, if_neg (by omega)] at hu
      exact hlate j (by omega) (by omega) hu (by rw [hw]; simp)
end last

structure Pl where
  view : Hp
  out : Hp
  sv : SV
  bar : Nat
  nx : Nat
  nx' : Nat
  ne : Nat
  ne' : Nat
open Classical in
noncomputable def ov (p : Pl) (g : Hp) : Hp := fun id => if p.out id = p.view id then g id else p.out id
open Classical in
noncomputable def wH (p : Nat → Pl) (id : Nat) (i : Nat) : Option (Option SO) := if (p i).out id = (p i).view id then none else some ((p i).out id)
def Pl.lives (p : Pl) : Prop := ∀ id o, p.out id = some o → (p.nx ≤ id ∧ id < p.nx') ∨ ∃ o0, p.view id = some o0

section frame
variable {W0 : World} {E E' : Env} {g : Hp} {w w' : World} {p : Pl}
theorem ov_cases {id : Nat} {o : SO} (hv : ∀ id o, p.view id = some o → g id = some o) (h : ov p g id = some o) : p.out id = some o ∨ (g id = some o ∧ p.view id = none ∧ p.out id = none) := by
  unfold ov at h
  split at h
  · rename_i e
    cases hq : p.view id with
    | none => exact .inr ⟨h, rfl, e.trans hq⟩
    | some o1 =>
      rw [hv id o1 hq] at h
      rw [e, hq]
      exact .inl h
  · exact .inl h
theorem Rel.frame (r : Rel W0 E g w) (hv : ∀ id o, p.view id = some o → g id = some o) (hl : p.lives) (r' : Rel W0 E' p.out w') (st : Step p.bar p.view p.nx p.nx' p.ne p.ne' E E' w w') : Rel W0 E' (ov p g) w' := by
  have other : ∀ id o, g id = some o → p.view id = none → ∃ s, E.at_ id = some s ∧ E'.at_ id = some s ∧ W0.heap.size ≤ s.blk ∧ s.blk < w.heap.size ∧ objOk E' s w' o := by
    intro id o hg hn
    obtain ⟨s, a, b, c⟩ := r.obj id o hg
    refine ⟨s, a, st.le.1 _ _ a, b, c.lt, (c.of_heap (st.touch s.blk c.lt fun id1 s1 o1 _ h1 e1 q => ?_)).le st.le⟩
    have := r.inj id1 id o1 o s1 s (hv _ _ h1) hg e1 a q
    rw [this, hn] at h1
    cases h1
  have mix : ∀ id id' o o' s s', p.out id = some o → g id' = some o' → p.view id' = none → E'.at_ id = some s → E'.at_ id' = some s' → s.blk = s'.blk → id = id' := by
    intro id id' o o' s s' ho hg hn e e' q
    obtain ⟨s1, a1, a2, _, a4, _⟩ := other id' o' hg hn
    obtain rfl := Option.some.inj (a2.symm.trans e')
    rcases hl id o ho with hnew | ⟨o0, h0⟩
    · rcases st.fresh id s hnew.1 hnew.2 e with h | ⟨id0, s0, o0, _, h1, h2, h3⟩
      · omega
      · have := r.inj id0 id' o0 o' s0 s1 (hv _ _ h1) hg h2 a1 (h3.trans q)
        rw [this, hn] at h1
        cases h1
    · obtain ⟨s0, b1, _, _⟩ := r.obj id o0 (hv _ _ h0)
      have := st.le.1 _ _ b1
      rw [e] at this
      obtain rfl := Option.some.inj this
      exact r.inj id id' o0 o' s s1 (hv _ _ h0) hg b1 a1 q
  refine ⟨r'.below, fun id o h => ?_, fun id id' o o' s s' h h' e e' q => ?_⟩
  · rcases ov_cases hv h with h | ⟨h, hn, _⟩
    · exact r'.obj id o h
    · obtain ⟨s, _, a, b, _, c⟩ := other id o h hn
      exact ⟨s, a, b, c⟩
  · rcases ov_cases hv h with h | ⟨h, hn, _⟩
    · rcases ov_cases hv h' with h' | ⟨h', hn', _⟩
      · exact r'.inj id id' o o' s s' h h' e e' q
      · exact mix id id' o o' s s' h h' hn' e e' q
    · rcases ov_cases hv h' with h' | ⟨h', hn', _⟩
      · exact (mix id' id o' o s' s h' h hn e' e q.symm).symm
      · obtain ⟨s1, a1, a2, _⟩ := other id o h hn
        obtain ⟨s2, b1, b2, _⟩ := other id' o' h' hn'
        obtain rfl := Option.some.inj (a2.symm.trans e)
        obtain rfl := Option.some.inj (b2.symm.trans e')
        exact r.inj id id' o o' s1 s2 h h' a1 b1 q
theorem Step.frame {b nx0 nxN ne0 neN : Nat} {h0 : Hp} {E0 : Env} {w0 : World} (A : Step b h0 nx0 nxN ne0 neN E0 E w0 w) (B : Step p.bar p.view p.nx p.nx' p.ne p.ne' E E' w w') (hb : b ≤ p.bar) (hv : ∀ id o, p.view id = some o → g id = some o)
    (hg : ∀ id o, g id = some o → (nx0 ≤ id ∧ id < nxN) ∨ ∃ o0, h0 id = some o0) (h1 : nx0 ≤ p.nx) (h2 : p.nx' ≤ nxN) (h3 : ne0 ≤ p.ne) (h4 : p.ne' ≤ neN) : Step b h0 nx0 nxN ne0 neN E0 E' w0 w' := by
  refine ⟨Env.le_trans A.le B.le, fun id hid => ?_, fun j hj => ?_, Nat.le_trans A.size B.size, fun k hk hno => ?_, fun id s q1 q2 e => ?_⟩
  · rw [B.dom id (by omega), A.dom id hid]
  · rw [B.dome j (by omega), A.dome j hj]
  · rw [B.touch k (Nat.lt_of_lt_of_le hk A.size) ?_, A.touch k hk hno]
    intro id s o hbar ho he
    by_cases hn : nx0 ≤ id ∧ id < nxN
    · rcases A.fresh id s hn.1 hn.2 he with q | ⟨id0, s0, o0, q0, q1, q2, q3⟩
      · omega
      · rw [← q3]; exact hno id0 s0 o0 q0 q1 q2
    · rcases hg id o (hv id o ho) with q | ⟨o0, q⟩
      · exact absurd q hn
      · rw [A.dom id hn] at he
        exact hno id s o0 (Nat.le_trans hb hbar) q he
  · by_cases hn : p.nx ≤ id ∧ id < p.nx'
    · rcases B.fresh id s hn.1 hn.2 e with q | ⟨id0, s0, o0, q0, q3, q4, q5⟩
      · exact .inl (Nat.le_trans A.size q)
      · by_cases hm : nx0 ≤ id0 ∧ id0 < nxN
        · rcases A.fresh id0 s0 hm.1 hm.2 q4 with r | ⟨i1, s1, o1, r0, r1, r2, r3⟩
          · exact .inl (by omega)
          · exact .inr ⟨i1, s1, o1, r0, r1, r2, r3.trans q5⟩
        · rcases hg id0 o0 (hv _ _ q3) with r | ⟨o1, r⟩
          · exact absurd r hm
          · rw [A.dom id0 hm] at q4
            exact .inr ⟨id0, s0, o1, Nat.le_trans hb q0, r, q4, q5⟩
    · rw [B.dom id hn] at e
      exact A.fresh id s q1 q2 e
end frame

inductive Bef (ops : Array Oper) : Nat → Nat → Prop
  | one {j : Nat} {o : Oper} {e : Edge} : ops[j]? = some o → e ∈ o.after → Region.binds .any e = true → Bef ops e.on j
  | step {i j : Nat} {o : Oper} {e : Edge} : Bef ops i e.on → ops[j]? = some o → e ∈ o.after → Region.binds .any e = true → Bef ops i j
def Closed (ops : Array Oper) (up : Nat → Bool) : Prop := ∀ j o, ops[j]? = some o → up j = true → ∀ e ∈ o.after, Region.binds .any e = true → up e.on = true
theorem Closed.bef {ops : Array Oper} {up : Nat → Bool} (c : Closed ops up) {i j : Nat} (b : Bef ops i j) (h : up j = true) : up i = true := by
  induction b with
  | one a d e => exact c _ _ a h _ d e
  | step _ a d e ih => exact ih (c _ _ a h _ d e)
theorem Bef.of_ready {ops : Array Oper} {up : Nat → Bool} (c : Closed ops up) {i j : Nat} {o : Oper} (ho : ops[j]? = some o) (h : ∀ e ∈ o.after, Region.binds .any e = true → up e.on = true) (b : Bef ops i j) : up i = true := by
  cases b with
  | one a d e =>
    rw [ho] at a
    obtain rfl := Option.some.inj a
    exact h _ d e
  | step b a d e =>
    rw [ho] at a
    obtain rfl := Option.some.inj a
    exact c.bef b (h _ d e)
end Go.Proofs.YtjbjpjaeagopjaaGreat.Ev
