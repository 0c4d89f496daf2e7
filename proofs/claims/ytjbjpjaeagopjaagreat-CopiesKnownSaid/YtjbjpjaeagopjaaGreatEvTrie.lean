/- A table of numbers to things, quick for the kernel. No program in sight. -/
set_option linter.unusedSimpArgs false
set_option linter.unusedVariables false
set_option linter.unusedSectionVars false
namespace Go.Proofs.YtjbjpjaeagopjaaGreat.Ev
universe u v

/-- A thing, and four tables: of the numbers 1, 5, 9 ..; 2, 6 ..; 3, 7 ..; 4, 8 .. -/
inductive Tr (α : Type u) where
  | e
  | n (x : Option α) (a b c d : Tr α)
/-- The way to a number. -/
inductive Pa where
  | z
  | a (p : Pa)
  | b (p : Pa)
  | c (p : Pa)
  | d (p : Pa)
theorem Tr.bif_beq {γ : Sort u} (i j : Nat) (a b : γ) : (bif Nat.beq i j then a else b) = if i = j then a else b := by
  by_cases h : i = j
  · subst h; simp
  · rw [if_neg h]
    have : Nat.beq i j = false := by
      rw [Bool.eq_false_iff]
      exact fun e => h (Nat.eq_of_beq_eq_true e)
    rw [this]; rfl
theorem Tr.rec_beq {γ : Type u} (i j : Nat) (a b : γ) : (Bool.rec b a (Nat.beq i j) : γ) = if i = j then a else b := by
  rw [← Tr.bif_beq]
  cases Nat.beq i j <;> rfl
noncomputable def paF (f : Nat) : Nat → Pa := Nat.rec (fun _ => .z) (fun _ ih i => Bool.rec (Bool.rec (Bool.rec (.d (ih (Nat.div (Nat.sub i 1) 4))) (.b (ih (Nat.div (Nat.sub i 1) 4))) (Nat.beq (Nat.mod (Nat.div (Nat.sub i 1) 2) 2) 0)) (Bool.rec (.c (ih (Nat.div (Nat.sub i 1) 4))) (.a (ih (Nat.div (Nat.sub i 1) 4))) (Nat.beq (Nat.mod (Nat.div (Nat.sub i 1) 2) 2) 0)) (Nat.beq (Nat.mod (Nat.sub i 1) 2) 0)) .z (Nat.beq i 0)) f
theorem paF_succ (f i : Nat) : paF (f + 1) i = if i = 0 then .z else if (i - 1) % 2 = 0 then (if (i - 1) / 2 % 2 = 0 then .a (paF f ((i - 1) / 4)) else .c (paF f ((i - 1) / 4))) else (if (i - 1) / 2 % 2 = 0 then .b (paF f ((i - 1) / 4)) else .d (paF f ((i - 1) / 4))) := by
  show (Bool.rec (Bool.rec (Bool.rec (.d (paF f ((i - 1) / 4))) (.b (paF f ((i - 1) / 4))) (Nat.beq ((i - 1) / 2 % 2) 0)) (Bool.rec (.c (paF f ((i - 1) / 4))) (.a (paF f ((i - 1) / 4))) (Nat.beq ((i - 1) / 2 % 2) 0)) (Nat.beq ((i - 1) % 2) 0)) .z (Nat.beq i 0) : Pa) = _
  simp only [Tr.rec_beq]
noncomputable def pa (i : Nat) : Pa := paF i i
theorem paF_fuel (f : Nat) : ∀ i g, i ≤ f → i ≤ g → paF f i = paF g i := by
  induction f with
  | zero =>
    intro i g h _
    have : i = 0 := by omega
    subst this
    cases g with
    | zero => rfl
    | succ g => rw [paF_succ, if_pos rfl]; rfl
  | succ f ih =>
    intro i g h hg
    by_cases h0 : i = 0
    · subst h0
      cases g with
      | zero => rw [paF_succ, if_pos rfl]; rfl
      | succ g => rw [paF_succ, paF_succ, if_pos rfl, if_pos rfl]
    · cases g with
      | zero => omega
      | succ g => rw [paF_succ, paF_succ, ih ((i - 1) / 4) g (by omega) (by omega)]
theorem paF_inj (f : Nat) : ∀ i j, i ≤ f → j ≤ f → paF f i = paF f j → i = j := by
  induction f with
  | zero => intro i j hi hj _; omega
  | succ f ih =>
    intro i j hi hj e
    rw [paF_succ, paF_succ] at e
    have key : paF f ((i - 1) / 4) = paF f ((j - 1) / 4) → (i - 1) / 4 = (j - 1) / 4 := ih _ _ (by omega) (by omega)
    by_cases a0 : i = 0 <;> by_cases b0 : j = 0
    · omega
    · rw [if_pos a0, if_neg b0] at e
      by_cases b1 : (j - 1) % 2 = 0 <;> by_cases b2 : (j - 1) / 2 % 2 = 0 <;> simp only [b1, b2, if_true, if_false] at e <;> cases e
    · rw [if_pos b0, if_neg a0] at e
      by_cases a1 : (i - 1) % 2 = 0 <;> by_cases a2 : (i - 1) / 2 % 2 = 0 <;> simp only [a1, a2, if_true, if_false] at e <;> cases e
    · rw [if_neg a0, if_neg b0] at e
      by_cases a1 : (i - 1) % 2 = 0 <;> by_cases a2 : (i - 1) / 2 % 2 = 0 <;> by_cases b1 : (j - 1) % 2 = 0 <;> by_cases b2 : (j - 1) / 2 % 2 = 0 <;> simp only [a1, a2, b1, b2, if_true, if_false] at e <;> first
      | (injection e with e; have := key e; omega)
      | cases e
theorem pa_inj {i j : Nat} (e : pa i = pa j) : i = j := by
  unfold pa at e
  rw [paF_fuel i i (max i j) (Nat.le_refl _) (Nat.le_max_left _ _), paF_fuel j j (max i j) (Nat.le_refl _) (Nat.le_max_right _ _)] at e
  exact paF_inj _ _ _ (Nat.le_max_left _ _) (Nat.le_max_right _ _) e
noncomputable def getp {α : Type u} (t : Tr α) : Pa → Option α :=
  Tr.rec (fun _ => none) (fun v _ _ _ _ ga gb gc gd p => Pa.rec v (fun q _ => ga q) (fun q _ => gb q) (fun q _ => gc q) (fun q _ => gd q) p) t
noncomputable def onep {α : Type u} (p : Pa) (o : Option α) : Tr α :=
  Pa.rec (.n o .e .e .e .e) (fun _ t => .n none t .e .e .e) (fun _ t => .n none .e t .e .e) (fun _ t => .n none .e .e t .e) (fun _ t => .n none .e .e .e t) p
noncomputable def putp {α : Type u} (t : Tr α) : Pa → Option α → Tr α :=
  Tr.rec (fun p o => onep p o) (fun v a b c d sa sb sc sd p o => Pa.rec (.n o a b c d) (fun q _ => .n v (sa q o) b c d) (fun q _ => .n v a (sb q o) c d) (fun q _ => .n v a b (sc q o) d) (fun q _ => .n v a b c (sd q o)) p) t
theorem getp_onep {α : Type u} (p : Pa) (o : Option α) : getp (onep p o) p = o ∧ ∀ q, q ≠ p → getp (onep p o) q = none := by
  induction p with
  | z => exact ⟨rfl, fun q h => by cases q <;> first | rfl | exact absurd rfl h⟩
  | a p ih => exact ⟨ih.1, fun q h => by cases q <;> first | rfl | exact ih.2 _ fun e => h (by rw [e])⟩
  | b p ih => exact ⟨ih.1, fun q h => by cases q <;> first | rfl | exact ih.2 _ fun e => h (by rw [e])⟩
  | c p ih => exact ⟨ih.1, fun q h => by cases q <;> first | rfl | exact ih.2 _ fun e => h (by rw [e])⟩
  | d p ih => exact ⟨ih.1, fun q h => by cases q <;> first | rfl | exact ih.2 _ fun e => h (by rw [e])⟩
theorem getp_putp {α : Type u} (t : Tr α) (o : Option α) : ∀ p, getp (putp t p o) p = o ∧ ∀ q, q ≠ p → getp (putp t p o) q = getp t q := by
  induction t with
  | e => exact fun p => getp_onep p o
  | n v a b c d ia ib ic id =>
    intro p
    cases p with
    | z => exact ⟨rfl, fun q h => by cases q <;> first | rfl | exact absurd rfl h⟩
    | a p => exact ⟨(ia p).1, fun q h => by cases q <;> first | rfl | exact (ia p).2 _ fun e => h (by rw [e])⟩
    | b p => exact ⟨(ib p).1, fun q h => by cases q <;> first | rfl | exact (ib p).2 _ fun e => h (by rw [e])⟩
    | c p => exact ⟨(ic p).1, fun q h => by cases q <;> first | rfl | exact (ic p).2 _ fun e => h (by rw [e])⟩
    | d p => exact ⟨(id p).1, fun q h => by cases q <;> first | rfl | exact (id p).2 _ fun e => h (by rw [e])⟩
namespace Tr
variable {α : Type u} {β : Type v}
noncomputable def get (t : Tr α) (i : Nat) : Option α := getp t (pa i)
theorem get_e (i : Nat) : (Tr.e : Tr α).get i = none := rfl
noncomputable def put (t : Tr α) (i : Nat) (o : Option α) : Tr α := putp t (pa i) o
theorem get_put (t : Tr α) (i : Nat) (o : Option α) (j : Nat) : (t.put i o).get j = if j = i then o else t.get j := by
  unfold get put
  split
  · rename_i e
    rw [e]
    exact (getp_putp t o (pa i)).1
  · rename_i e
    exact (getp_putp t o (pa i)).2 _ fun q => e (pa_inj q)
end Tr
noncomputable def getKp {α : Type} (t : Tr α) : Pa → (α → Bool) → Bool :=
  Tr.rec (fun _ _ => false) (fun v _ _ _ _ ga gb gc gd p => Pa.rec (motive := fun _ => Option α → (Pa → (α → Bool) → Bool) → (Pa → (α → Bool) → Bool) → (Pa → (α → Bool) → Bool) → (Pa → (α → Bool) → Bool) → (α → Bool) → Bool)
    (fun v _ _ _ _ => Option.rec (fun _ => false) (fun s k => k s) v) (fun q _ _ ga _ _ _ => ga q) (fun q _ _ _ gb _ _ => gb q) (fun q _ _ _ _ gc _ => gc q) (fun q _ _ _ _ _ gd => gd q) p v ga gb gc gd) t
noncomputable def getQ {α : Type} (t : Tr α) (i : Nat) (k : α → Bool) : Bool := getKp t (pa i) k
theorem getKp_eq {α : Type} (t : Tr α) : ∀ (p : Pa) (k : α → Bool), getKp t p k = match getp t p with | some s => k s | none => false := by
  induction t with
  | e => intro p k; rfl
  | n v a b c d ia ib ic id =>
    intro p k
    cases p with
    | z => cases v <;> rfl
    | a q => exact ia q k
    | b q => exact ib q k
    | c q => exact ic q k
    | d q => exact id q k
theorem getQ_eq {α : Type} (t : Tr α) (i : Nat) (k : α → Bool) : getQ t i k = match t.get i with | some s => k s | none => false := getKp_eq t (pa i) k
noncomputable def oneKp {α : Type u} {β : Type v} (p : Pa) : Option α → (Tr α → β) → β :=
  Pa.rec (fun o k => k (.n o .e .e .e .e)) (fun _ ih o k => ih o fun t => k (.n none t .e .e .e)) (fun _ ih o k => ih o fun t => k (.n none .e t .e .e)) (fun _ ih o k => ih o fun t => k (.n none .e .e t .e)) (fun _ ih o k => ih o fun t => k (.n none .e .e .e t)) p
noncomputable def putKp {α : Type u} {β : Type v} (t : Tr α) : Pa → Option α → (Tr α → β) → β :=
  Tr.rec (fun p => oneKp p) (fun v a b c d sa sb sc sd p => Pa.rec (motive := fun _ => Option α → Tr α → Tr α → Tr α → Tr α → (Pa → Option α → (Tr α → β) → β) → (Pa → Option α → (Tr α → β) → β) → (Pa → Option α → (Tr α → β) → β) → (Pa → Option α → (Tr α → β) → β) → Option α → (Tr α → β) → β)
    (fun _ a b c d _ _ _ _ o k => k (.n o a b c d)) (fun q _ v _ b c d sa _ _ _ o k => sa q o fun t => k (.n v t b c d)) (fun q _ v a _ c d _ sb _ _ o k => sb q o fun t => k (.n v a t c d)) (fun q _ v a b _ d _ _ sc _ o k => sc q o fun t => k (.n v a b t d)) (fun q _ v a b c _ _ _ _ sd o k => sd q o fun t => k (.n v a b c t)) p v a b c d sa sb sc sd) t
theorem oneKp_eq {α : Type u} {β : Type v} (p : Pa) (o : Option α) : ∀ (k : Tr α → β), oneKp p o k = k (onep p o) := by
  induction p with
  | z => intro k; rfl
  | a q ih => intro k; exact ih _
  | b q ih => intro k; exact ih _
  | c q ih => intro k; exact ih _
  | d q ih => intro k; exact ih _
theorem putKp_eq {α : Type u} {β : Type v} (t : Tr α) : ∀ (p : Pa) (o : Option α) (k : Tr α → β), putKp t p o k = k (putp t p o) := by
  induction t with
  | e => intro p o k; exact oneKp_eq p o k
  | n v a b c d ia ib ic id =>
    intro p o k
    cases p with
    | z => rfl
    | a q => exact ia q o _
    | b q => exact ib q o _
    | c q => exact ic q o _
    | d q => exact id q o _
/-- The same, the new table handed on. -/
noncomputable def Tr.putK {α : Type u} {β : Type v} (t : Tr α) (i : Nat) (o : Option α) (k : Tr α → β) : β := putKp t (pa i) o k
theorem Tr.putK_eq {α : Type u} {β : Type v} (t : Tr α) (i : Nat) (o : Option α) (k : Tr α → β) : t.putK i o k = k (t.put i o) := putKp_eq t (pa i) o k
end Go.Proofs.YtjbjpjaeagopjaaGreat.Ev
