/- What a region that draws shows before it is run: which operations wait for which, that the others stand apart, and which pairs are to be looked at when it is run. -/
import Derived.Test.YtjbjpjaeagopjaaGreatEvDraw3
set_option linter.unusedSimpArgs false
set_option linter.unusedVariables false
set_option linter.unusedSectionVars false
namespace Go.Proofs.YtjbjpjaeagopjaaGreat.Ev
open Go

section masks
variable {ops : Array Oper}
noncomputable def maskOf (t : Tr Nat) : List Edge → Nat
  | [] => 0
  | e :: r => bif Region.binds .any e then Nat.lor (Nat.lor (Nat.pow 2 e.on) ((t.get e.on).getD 0)) (maskOf t r) else maskOf t r
noncomputable def masksGo : List Oper → Nat → Tr Nat → Tr Nat
  | [], _, t => t
  | o :: r, j, t => masksGo r (j + 1) (t.put j (some (maskOf t o.after.toList)))
noncomputable def forceN {β : Type} (n : Nat) (k : Nat → β) : β := Nat.rec (k 0) (fun m _ => k (Nat.succ m)) n
theorem forceN_eq {β : Type} (n : Nat) (k : Nat → β) : forceN n k = k n := by cases n <;> rfl
noncomputable def masksK {β : Type} : List Oper → Nat → Tr Nat → (Tr Nat → β) → β
  | [], _, t, k => k t
  | o :: r, j, t, k => forceN (maskOf t o.after.toList) fun m => t.putK j (some m) fun t' => forceN (j + 1) fun j' => masksK r j' t' k
theorem masksK_eq {β : Type} (l : List Oper) : ∀ (j : Nat) (t : Tr Nat) (k : Tr Nat → β), masksK l j t k = k (masksGo l j t) := by
  induction l with
  | nil => intro j t k; rfl
  | cons o r ih => intro j t k; rw [masksK, forceN_eq, Tr.putK_eq, forceN_eq, ih]; rfl
noncomputable def bitB (t : Tr Nat) (i j : Nat) : Bool := Nat.testBit ((t.get j).getD 0) i
theorem maskOf_bit {t : Tr Nat} {j : Nat} {o : Oper} (ho : ops[j]? = some o) (ht : ∀ i k, bitB t i k = true → Bef ops i k) (l : List Edge) (hl : ∀ e ∈ l, e ∈ o.after) (i : Nat) (h : Nat.testBit (maskOf t l) i = true) : Bef ops i j := by
  induction l with
  | nil => simp [maskOf] at h
  | cons e r ih =>
    have ih' := ih fun e' he => hl e' (List.mem_cons_of_mem _ he)
    rw [maskOf] at h
    cases hb : Region.binds .any e with
    | false => rw [hb] at h; exact ih' h
    | true =>
      rw [hb, cond_true] at h
      change Nat.testBit ((2 ^ e.on ||| (t.get e.on).getD 0) ||| maskOf t r) i = true at h
      rw [Nat.testBit_or, Nat.testBit_or, Bool.or_eq_true, Bool.or_eq_true] at h
      rcases h with (h | h) | h
      · rw [Nat.testBit_two_pow] at h
        rw [← of_decide_eq_true h]
        exact .one ho (hl e List.mem_cons_self) hb
      · exact .step (ht i e.on h) ho (hl e List.mem_cons_self) hb
      · exact ih' h
theorem masksGo_bit (l : List Oper) : ∀ (j : Nat) (t : Tr Nat), (∀ m, l[m]? = ops[j + m]?) → (∀ i k, bitB t i k = true → Bef ops i k) → ∀ i k, bitB (masksGo l j t) i k = true → Bef ops i k := by
  induction l with
  | nil => intro j t _ ht; exact ht
  | cons o r ih =>
    intro j t hl ht
    have h0 : ops[j]? = some o := by simpa using (hl 0).symm
    refine ih (j + 1) _ (fun m => by have := hl (m + 1); simpa [Nat.add_assoc, Nat.add_comm 1 m] using this) fun i k h => ?_
    unfold bitB at h
    rw [Tr.get_put] at h
    by_cases e : k = j
    · rw [if_pos e] at h
      rw [e]
      exact maskOf_bit h0 ht _ (fun e he => by simpa using he) i h
    · rw [if_neg e] at h
      exact ht i k h
noncomputable def masks (ops : Array Oper) : Tr Nat := masksGo ops.toList 0 .e
theorem masks_bit (i k : Nat) (h : bitB (masks ops) i k = true) : Bef ops i k :=
  masksGo_bit ops.toList 0 .e (by simp) (fun i k h => by simp [bitB, Tr.get_e] at h) i k h
end masks

/-! ### apart -/
noncomputable def edgesB : List Edge → Nat → Bool
  | [], _ => true
  | e :: r, j => bif Region.binds .any e then (bif Nat.blt e.on j then edgesB r j else false) else edgesB r j
noncomputable def apartB (ops : Array Oper) (t : Tr Nat) (o : Oper) (j : Nat) : List Oper → Nat → Bool
  | [], _ => true
  | x :: r, i => bif bitB t i j then apartB ops t o j r (i + 1) else bif x.apart ops o && o.apart ops x then apartB ops t o j r (i + 1) else false
noncomputable def drawGo (ops : Array Oper) (t : Tr Nat) : List Oper → Nat → Bool
  | [], _ => true
  | o :: r, j => bif edgesB o.after.toList j && apartB ops t o j (ops.toList.take j) 0 then drawGo ops t r (j + 1) else false
noncomputable def drawOk (ops : Array Oper) : Bool := masksK ops.toList 0 .e fun t => drawGo ops t ops.toList 0
section
variable {ops : Array Oper}
theorem edgesB_ok {l : List Edge} {j : Nat} (h : edgesB l j = true) : ∀ e ∈ l, Region.binds .any e = true → e.on < j := by
  induction l with
  | nil => intro e he; cases he
  | cons x r ih =>
    rw [edgesB] at h
    intro e he hb
    cases hx : Region.binds .any x with
    | false =>
      rw [hx] at h
      rcases List.mem_cons.1 he with q | q
      · rw [q, hx] at hb; cases hb
      · exact ih h e q hb
    | true =>
      rw [hx, cond_true] at h
      obtain ⟨h1, h2⟩ := bif_true h
      rcases List.mem_cons.1 he with q | q
      · rw [q]; exact Nat.le_of_ble_eq_true h1
      · exact ih h2 e q hb
theorem apartB_ok {t : Tr Nat} {o : Oper} {j : Nat} {l : List Oper} : ∀ {i : Nat}, apartB ops t o j l i = true → ∀ m x, l[m]? = some x → bitB t (i + m) j = true ∨ (x.apart ops o = true ∧ o.apart ops x = true) := by
  induction l with
  | nil => intro i _ m x hx; simp at hx
  | cons y r ih =>
    intro i h m x hx
    rw [apartB] at h
    cases m with
    | zero =>
      simp only [List.getElem?_cons_zero, Option.some.injEq] at hx
      subst hx
      cases hb : bitB t i j with
      | true => exact .inl rfl
      | false =>
        rw [hb] at h
        obtain ⟨h1, _⟩ := bif_true h
        simp only [Bool.and_eq_true] at h1
        exact .inr h1
    | succ m =>
      have key : apartB ops t o j r (i + 1) = true := by
        cases hb : bitB t i j with
        | true => rw [hb] at h; exact h
        | false => rw [hb] at h; exact (bif_true h).2
      have := ih key m x (by simpa using hx)
      rwa [show i + (m + 1) = i + 1 + m by omega]
theorem drawGo_ok {t : Tr Nat} {l : List Oper} : ∀ {j : Nat}, drawGo ops t l j = true → ∀ m o, l[m]? = some o → edgesB o.after.toList (j + m) = true ∧ apartB ops t o (j + m) (ops.toList.take (j + m)) 0 = true := by
  induction l with
  | nil => intro j _ m o ho; simp at ho
  | cons x r ih =>
    intro j h m o ho
    rw [drawGo] at h
    obtain ⟨h1, h2⟩ := bif_true h
    simp only [Bool.and_eq_true] at h1
    cases m with
    | zero =>
      simp only [List.getElem?_cons_zero, Option.some.injEq] at ho
      subst ho
      exact h1
    | succ m =>
      have := ih h2 m o (by simpa using ho)
      rwa [show j + (m + 1) = j + 1 + m by omega]
theorem drawOk_edge (h : drawOk ops = true) : ∀ i o, ops[i]? = some o → ∀ e ∈ o.after, Region.binds .any e = true → e.on < i := by
  unfold drawOk at h
  rw [masksK_eq] at h
  intro i o ho e he hb
  have := (drawGo_ok h i o (by simpa using ho)).1
  rw [Nat.zero_add] at this
  exact edgesB_ok this e (by simpa using he) hb
theorem drawOk_apart (h : drawOk ops = true) : ∀ i j oi oj, ops[i]? = some oi → ops[j]? = some oj → i ≠ j → ¬ Bef ops i j → ¬ Bef ops j i → oi.apart ops oj = true := by
  unfold drawOk at h
  rw [masksK_eq] at h
  have key : ∀ i j oi oj, ops[i]? = some oi → ops[j]? = some oj → i < j → ¬ Bef ops i j → oi.apart ops oj = true ∧ oj.apart ops oi = true := by
    intro i j oi oj hi hj hij hn
    have := (drawGo_ok h j oj (by simpa using hj)).2
    rw [Nat.zero_add] at this
    rcases apartB_ok this i oi (by rw [List.getElem?_take, if_pos hij]; simpa using hi) with q | q
    · rw [Nat.zero_add] at q
      exact absurd (masks_bit i j q) hn
    · exact q
  intro i j oi oj hi hj hne h1 h2
  rcases Nat.lt_or_gt_of_ne hne with q | q
  · exact (key i j oi oj hi hj q h1).1
  · exact (key j i oj oi hj hi q h2).2
end

/-! ### what an operation touches -/
def cls : Op → Nat
  | .call c => (match c.callee with
    | .builtin b => (match b with | .append => 2 | .delete => 2 | .clear => 2 | .len => 1 | _ => 0)
    | _ => 3)
  | .slice _ _ _ _ _ => 2
  | .alloc _ => 2
  | .box _ _ => 2
  | .store _ _ _ => 2
  | .buildSlice _ _ _ => 2
  | .makeMap _ _ => 2
  | .makeSlice _ _ _ => 2
  | .mapUpdate _ _ _ _ => 2
  | .insert _ _ _ _ => 2
  | .mapEntry _ _ _ => 2
  | .entryStore _ _ _ _ => 2
  | .load _ _ => 1
  | .lookup _ _ _ _ => 1
  | _ => 0
def touches : Op → List Operand
  | .call c => (match c.callee with
    | .builtin _ => c.args.toList
    | _ => [])
  | .slice _ x _ _ _ => [x]
  | .store _ x _ => [x]
  | .mapUpdate _ x _ _ => [x]
  | .insert _ x _ _ => [x]
  | .mapEntry _ x _ => [x]
  | .entryStore _ x _ _ => [x]
  | .load _ x => [x]
  | .lookup _ x _ _ => [x]
  | _ => []
/-- May two operations of these kinds meddle with one another? -/
def meet : Nat → Nat → Bool
  | 0, _ => false
  | _, 0 => false
  | 1, 1 => false
  | _, _ => true
noncomputable def pairsAt (t : Tr Nat) (c j : Nat) : List Oper → Nat → List (Nat × Nat) → List (Nat × Nat)
  | [], _, r => r
  | x :: l, i, r => bif meet (cls x.op) c then (bif bitB t i j then pairsAt t c j l (i + 1) r else (i, j) :: pairsAt t c j l (i + 1) r) else pairsAt t c j l (i + 1) r
noncomputable def pairsGo (ops : Array Oper) (t : Tr Nat) : List Oper → Nat → List (Nat × Nat)
  | [], _ => []
  | o :: r, j => pairsAt t (cls o.op) j (ops.toList.take j) 0 (pairsGo ops t r (j + 1))
noncomputable def dynPairs (ops : Array Oper) : List (Nat × Nat) := masksK ops.toList 0 .e fun t => pairsGo ops t ops.toList 0
section
variable {ops : Array Oper}
theorem pairsAt_mem {t : Tr Nat} {c j : Nat} {l : List Oper} : ∀ {i : Nat} {r : List (Nat × Nat)}, (∀ x ∈ r, x ∈ pairsAt t c j l i r) ∧ ∀ m x, l[m]? = some x → meet (cls x.op) c = true → bitB t (i + m) j = false → (i + m, j) ∈ pairsAt t c j l i r := by
  induction l with
  | nil => intro i r; exact ⟨fun x hx => hx, fun m x hx => by simp at hx⟩
  | cons y l ih =>
    intro i r
    have ih' := ih (i := i + 1) (r := r)
    rw [pairsAt]
    refine ⟨fun x hx => ?_, fun m x hx hm hb => ?_⟩
    · have := ih'.1 x hx
      cases meet (cls y.op) c with
      | false => exact this
      | true => cases bitB t i j with
        | true => exact this
        | false => exact List.mem_cons_of_mem _ this
    · cases m with
      | zero =>
        simp only [List.getElem?_cons_zero, Option.some.injEq] at hx
        subst hx
        rw [Nat.add_zero] at hb ⊢
        rw [hm, hb]
        exact List.mem_cons_self
      | succ m =>
        have := ih'.2 m x (by simpa using hx) hm (by rwa [show i + 1 + m = i + (m + 1) by omega])
        rw [show i + 1 + m = i + (m + 1) by omega] at this
        cases meet (cls y.op) c with
        | false => exact this
        | true => cases bitB t i j with
          | true => exact this
          | false => exact List.mem_cons_of_mem _ this
theorem pairsGo_mem {t : Tr Nat} {l : List Oper} : ∀ {k : Nat}, ∀ m o, l[m]? = some o → ∀ i x, (ops.toList.take (k + m))[i]? = some x → meet (cls x.op) (cls o.op) = true → bitB t i (k + m) = false → (i, k + m) ∈ pairsGo ops t l k := by
  induction l with
  | nil => intro k m o ho; simp at ho
  | cons y l ih =>
    intro k m o ho i x hx hm hb
    rw [pairsGo]
    cases m with
    | zero =>
      simp only [List.getElem?_cons_zero, Option.some.injEq] at ho
      subst ho
      have := (pairsAt_mem (t := t) (c := cls y.op) (j := k) (l := ops.toList.take k) (i := 0) (r := pairsGo ops t l (k + 1))).2 i x hx hm (by rwa [Nat.zero_add])
      rwa [Nat.zero_add] at this
    | succ m =>
      rw [show k + (m + 1) = k + 1 + m by omega] at hx hb ⊢
      exact pairsAt_mem.1 _ (ih m o (by simpa using ho) i x hx hm hb)
theorem dynPairs_mem {i j : Nat} {oi oj : Oper} (hi : ops[i]? = some oi) (hj : ops[j]? = some oj) (hij : i < j) (hm : meet (cls oi.op) (cls oj.op) = true) (hn : ¬ Bef ops i j) : (i, j) ∈ dynPairs ops := by
  unfold dynPairs
  rw [masksK_eq]
  have := pairsGo_mem (ops := ops) (t := masks ops) (l := ops.toList) (k := 0) j oj (by simpa using hj) i oi (by rw [Nat.zero_add, List.getElem?_take, if_pos hij]; simpa using hi) hm (by
    rw [Nat.zero_add]
    cases hq : bitB (masks ops) i j with
    | false => rfl
    | true => exact absurd (masks_bit i j hq) hn)
  rwa [Nat.zero_add] at this
end
end Go.Proofs.YtjbjpjaeagopjaaGreat.Ev
