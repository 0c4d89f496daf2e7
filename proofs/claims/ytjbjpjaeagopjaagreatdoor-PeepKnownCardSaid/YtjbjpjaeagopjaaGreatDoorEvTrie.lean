/- A table of numbers to things, quick for the kernel. No program in sight. -/
set_option linter.unusedSimpArgs false
set_option linter.unusedVariables false
set_option linter.unusedSectionVars false
namespace Go.Proofs.YtjbjpjaeagopjaaGreatDoor.Ev
universe u v

inductive Tr (α : Type u) where
  | e
  | n (v : Option α) (l r : Tr α)
namespace Tr
variable {α : Type u} {β : Type v}
noncomputable def get (t : Tr α) : Nat → Option α :=
  Tr.rec (fun _ => none) (fun v _ _ gl gr i => Bool.rec (Bool.rec (gr (Nat.sub (Nat.div i 2) 1)) (gl (Nat.div i 2)) (Nat.beq (Nat.mod i 2) 1)) v (Nat.beq i 0)) t
theorem get_e (i : Nat) : (Tr.e : Tr α).get i = none := rfl
theorem get_n (v : Option α) (l r : Tr α) (i : Nat) : (Tr.n v l r).get i = bif Nat.beq i 0 then v else bif Nat.beq (i % 2) 1 then l.get (i / 2) else r.get (i / 2 - 1) := by
  show (Bool.rec (Bool.rec (r.get (i / 2 - 1)) (l.get (i / 2)) (Nat.beq (i % 2) 1)) v (Nat.beq i 0) : Option α) = _
  cases Nat.beq i 0 <;> cases Nat.beq (i % 2) 1 <;> rfl
/-- One entry alone. -/
noncomputable def one : Nat → Nat → Option α → Tr α :=
  fun f => Nat.rec (fun _ o => .n o .e .e) (fun _ ih i o => bif Nat.beq i 0 then .n o .e .e else bif Nat.beq (i % 2) 1 then .n none (ih (i / 2) o) .e else .n none .e (ih (i / 2 - 1) o)) f
noncomputable def put (t : Tr α) : Nat → Option α → Tr α :=
  Tr.rec (fun i o => one i i o) (fun v l r sl sr i o => bif Nat.beq i 0 then .n o l r else bif Nat.beq (i % 2) 1 then .n v (sl (i / 2) o) r else .n v l (sr (i / 2 - 1) o)) t
noncomputable def oneK : Nat → Nat → Option α → (Tr α → β) → β :=
  fun f => Nat.rec (fun _ o k => k (.n o .e .e)) (fun _ ih i o k => Bool.rec (Bool.rec (ih (Nat.sub (Nat.div i 2) 1) o (fun r => k (.n none .e r))) (ih (Nat.div i 2) o (fun l => k (.n none l .e))) (Nat.beq (Nat.mod i 2) 1)) (k (.n o .e .e)) (Nat.beq i 0)) f
/-- The same, the new table handed on. -/
noncomputable def putK (t : Tr α) : Nat → Option α → (Tr α → β) → β :=
  Tr.rec (fun i o k => oneK i i o k) (fun v l r sl sr i o k => Bool.rec (Bool.rec (sr (Nat.sub (Nat.div i 2) 1) o (fun r' => k (.n v l r'))) (sl (Nat.div i 2) o (fun l' => k (.n v l' r))) (Nat.beq (Nat.mod i 2) 1)) (k (.n o l r)) (Nat.beq i 0)) t
theorem bif_beq {γ : Sort u} (i j : Nat) (a b : γ) : (bif Nat.beq i j then a else b) = if i = j then a else b := by
  by_cases h : i = j
  · subst h; simp
  · rw [if_neg h]
    have : Nat.beq i j = false := by
      rw [Bool.eq_false_iff]
      exact fun e => h (Nat.eq_of_beq_eq_true e)
    rw [this]; rfl
theorem get_one (f : Nat) : ∀ (i : Nat) (o : Option α) (j : Nat), i ≤ f → (one f i o).get j = if j = i then o else none := by
  induction f with
  | zero =>
    intro i o j h
    have : i = 0 := by omega
    subst this
    show (Tr.n o .e .e).get j = _
    rw [get_n, bif_beq, bif_beq]
    split
    · rfl
    · split <;> simp [get_e]
  | succ f ih =>
    intro i o j h
    show (bif Nat.beq i 0 then Tr.n o .e .e else bif Nat.beq (i % 2) 1 then Tr.n none (one f (i / 2) o) .e else Tr.n none .e (one f (i / 2 - 1) o)).get j = _
    rw [bif_beq, bif_beq]
    split
    · rename_i h0
      subst h0
      rw [get_n, bif_beq, bif_beq]
      split
      · rfl
      · split <;> simp [get_e]
    · split
      · rw [get_n, bif_beq, bif_beq, ih _ _ _ (by omega)]
        split
        · rw [if_neg (by omega)]
        · split
          · by_cases e : j = i
            · rw [if_pos e, if_pos (by omega)]
            · rw [if_neg e, if_neg (by omega)]
          · rw [if_neg (by omega), get_e]
      · rw [get_n, bif_beq, bif_beq, ih _ _ _ (by omega)]
        split
        · rw [if_neg (by omega)]
        · split
          · rw [if_neg (by omega), get_e]
          · by_cases e : j = i
            · rw [if_pos e, if_pos (by omega)]
            · rw [if_neg e, if_neg (by omega)]
theorem get_put (t : Tr α) : ∀ (i : Nat) (o : Option α) (j : Nat), (t.put i o).get j = if j = i then o else t.get j := by
  induction t with
  | e => intro i o j; exact get_one i i o j (Nat.le_refl _)
  | n v l r il ir =>
    intro i o j
    show (bif Nat.beq i 0 then Tr.n o l r else bif Nat.beq (i % 2) 1 then Tr.n v (l.put (i / 2) o) r else Tr.n v l (r.put (i / 2 - 1) o)).get j = _
    rw [bif_beq, bif_beq, get_n, bif_beq, bif_beq]
    split
    · rename_i h0
      subst h0
      rw [get_n, bif_beq, bif_beq]
      split <;> rfl
    · split
      · rw [get_n, bif_beq, bif_beq, il]
        split
        · rw [if_neg (by omega)]
        · split
          · by_cases e : j = i
            · rw [if_pos e, if_pos (by omega)]
            · rw [if_neg e, if_neg (by omega)]
          · rw [if_neg (by omega)]
      · rw [get_n, bif_beq, bif_beq, ir]
        split
        · rw [if_neg (by omega)]
        · split
          · rw [if_neg (by omega)]
          · by_cases e : j = i
            · rw [if_pos e, if_pos (by omega)]
            · rw [if_neg e, if_neg (by omega)]
theorem oneK_eq (f : Nat) : ∀ (i : Nat) (o : Option α) (k : Tr α → β), oneK f i o k = k (one f i o) := by
  induction f with
  | zero => intro i o k; rfl
  | succ f ih =>
    intro i o k
    show (Bool.rec (Bool.rec (oneK f (i / 2 - 1) o (fun r => k (.n none .e r))) (oneK f (i / 2) o (fun l => k (.n none l .e))) (Nat.beq (i % 2) 1)) (k (.n o .e .e)) (Nat.beq i 0) : β) = k (bif Nat.beq i 0 then Tr.n o .e .e else bif Nat.beq (i % 2) 1 then Tr.n none (one f (i / 2) o) .e else Tr.n none .e (one f (i / 2 - 1) o))
    rw [ih, ih]
    cases Nat.beq i 0 <;> cases Nat.beq (i % 2) 1 <;> rfl
theorem putK_eq (t : Tr α) : ∀ (i : Nat) (o : Option α) (k : Tr α → β), t.putK i o k = k (t.put i o) := by
  induction t with
  | e => intro i o k; exact oneK_eq i i o k
  | n v l r il ir =>
    intro i o k
    show (Bool.rec (Bool.rec (r.putK (i / 2 - 1) o (fun r' => k (.n v l r'))) (l.putK (i / 2) o (fun l' => k (.n v l' r))) (Nat.beq (i % 2) 1)) (k (.n o l r)) (Nat.beq i 0) : β) = k (bif Nat.beq i 0 then Tr.n o l r else bif Nat.beq (i % 2) 1 then Tr.n v (l.put (i / 2) o) r else Tr.n v l (r.put (i / 2 - 1) o))
    rw [il, ir]
    cases Nat.beq i 0 <;> cases Nat.beq (i % 2) 1 <;> rfl
end Tr
end Go.Proofs.YtjbjpjaeagopjaaGreatDoor.Ev
