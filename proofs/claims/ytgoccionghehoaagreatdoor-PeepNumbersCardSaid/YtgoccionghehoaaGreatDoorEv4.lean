/- What a region that draws shows before it is run: which operations wait for which, that the others stand apart, and which pairs are to be looked at when it is run. One operation of a region that draws: what it sees, and what it may change. A region that draws, run once in the order of the text. A region that draws: what one run in the order of the text says of every order. A frame's end: marks are taken, deferred closures are called. A range over a function: the loop's record, and the statement itself. Control: rows of code, loops, calls. Deferred closures, which may recover; functions. A round of a range over a function: what a call of yield does. -/
import Derived.Test.YtgoccionghehoaaGreatDoorEv3
import Derived.Test.YtgoccionghehoaaGreatDoorEv2
import Derived.RangeFuncLeaves
import Derived.RangeFuncRecord
import Derived.RangeFuncIn
import Derived.LoopNIn
import Derived.Scope
import Derived.RecoverIn
set_option linter.unusedSimpArgs false
set_option linter.unusedVariables false
set_option linter.unusedSectionVars false
namespace Go.Proofs.YtgoccionghehoaaGreatDoor.Ev
open Go
variable [GTab]

section masks
variable {ops : Array Oper}
noncomputable def maskOf (t : Tr Nat) : List Edge → Nat
  | [] => 0
  | e :: r => bif Region.binds .any e then Nat.lor (Nat.lor (Nat.pow 2 e.on) ((t.get e.on).getD 0)) (maskOf t r) else maskOf t r
noncomputable def masksGo : List Oper → Nat → Tr Nat → Tr Nat
  | [], _, t => t
  | o :: r, j, t => masksGo r (j + 1) (t.put j (some (maskOf t o.after.toList)))
noncomputable def forceN {β : Type} (n : Nat) (k : Nat → β) : β := Nat.rec (k 0) (fun m _ => k (Nat.succ m)) n
theorem forceN_eq {β : Type} (n : Nat) (k : Nat → β) : forceN n k = k n := by cases n <;> rfl
noncomputable def masksK {β : Type} : List Oper → Nat → Tr Nat → (Tr Nat → β) → β
  | [], _, t, k => k t
  | o :: r, j, t, k => forceN (maskOf t o.after.toList) fun m => t.putK j (some m) fun t' => forceN (j + 1) fun j' => masksK r j' t' k
theorem masksK_eq {β : Type} (l : List Oper) : ∀ (j : Nat) (t : Tr Nat) (k : Tr Nat → β), masksK l j t k = k (masksGo l j t) := by
  induction l with
  | nil => intro j t k; rfl
  | cons o r ih => intro j t k; rw [masksK, forceN_eq, Tr.putK_eq, forceN_eq, ih]; rfl
noncomputable def bitB (t : Tr Nat) (i j : Nat) : Bool := Nat.testBit ((t.get j).getD 0) i
theorem maskOf_bit {t : Tr Nat} {j : Nat} {o : Oper} (ho : ops[j]? = some o) (ht : ∀ i k, bitB t i k = true → Bef ops i k) (l : List Edge) (hl : ∀ e ∈ l, e ∈ o.after) (i : Nat) (h : Nat.testBit (maskOf t l) i = true) : Bef ops i j := by
  induction l with
  | nil => simp [maskOf] at h
  | cons e r ih =>
    have ih' := ih fun e' he => hl e' (List.mem_cons_of_mem _ he)
    rw [maskOf] at h
    cases hb : Region.binds .any e with
    | false => rw [hb] at h; exact ih' h
    | true =>
      rw [hb, cond_true] at h
      change Nat.testBit ((2 ^ e.on ||| (t.get e.on).getD 0) ||| maskOf t r) i = true at h
      rw [Nat.testBit_or, Nat.testBit_or, Bool.or_eq_true, Bool.or_eq_true] at h
      rcases h with (h | h) | h
      · rw [Nat.testBit_two_pow] at h
        rw [← of_decide_eq_true h]
        exact .one ho (hl e List.mem_cons_self) hb
      · exact .step (ht i e.on h) ho (hl e List.mem_cons_self) hb
      · exact ih' h
theorem masksGo_bit (l : List Oper) : ∀ (j : Nat) (t : Tr Nat), (∀ m, l[m]? = ops[j + m]?) → (∀ i k, bitB t i k = true → Bef ops i k) → ∀ i k, bitB (masksGo l j t) i k = true → Bef ops i k := by
  induction l with
  | nil => intro j t _ ht; exact ht
  | cons o r ih =>
    intro j t hl ht
    have h0 : ops[j]? = some o := by simpa using (hl 0).symm
    refine ih (j + 1) _ (fun m => by have := hl (m + 1); simpa [Nat.add_assoc, Nat.add_comm 1 m] using this) fun i k h => ?_
    unfold bitB at h
    rw [Tr.get_put] at h
    by_cases e : k = j
    · rw [if_pos e] at h
      rw [e]
      exact maskOf_bit h0 ht _ (fun e he => by simpa using he) i h
    · rw [if_neg e] at h
      exact ht i k h
noncomputable def masks (ops : Array Oper) : Tr Nat := masksGo ops.toList 0 .e
theorem masks_bit (i k : Nat) (h : bitB (masks ops) i k = true) : Bef ops i k :=
  masksGo_bit ops.toList 0 .e (by simp) (fun i k h => by simp [bitB, Tr.get_e] at h) i k h
end masks

/-! ### apart -/
noncomputable def edgesB : List Edge → Nat → Bool
  | [], _ => true
  | e :: r, j => bif Region.binds .any e then (bif Nat.blt e.on j then edgesB r j else false) else edgesB r j
noncomputable def apartB (ops : Array Oper) (t : Tr Nat) (o : Oper) (j : Nat) : List Oper → Nat → Bool
  | [], _ => true
  | x :: r, i => bif bitB t i j then apartB ops t o j r (i + 1) else bif x.apart ops o && o.apart ops x then apartB ops t o j r (i + 1) else false
noncomputable def drawGo (ops : Array Oper) (t : Tr Nat) : List Oper → Nat → Bool
  | [], _ => true
  | o :: r, j => bif edgesB o.after.toList j && apartB ops t o j (ops.toList.take j) 0 then drawGo ops t r (j + 1) else false
noncomputable def drawOk (ops : Array Oper) : Bool := masksK ops.toList 0 .e fun t => drawGo ops t ops.toList 0
section
variable {ops : Array Oper}
theorem edgesB_ok {l : List Edge} {j : Nat} (h : edgesB l j = true) : ∀ e ∈ l, Region.binds .any e = true → e.on < j := by
  induction l with
  | nil => intro e he; cases he
  | cons x r ih =>
    rw [edgesB] at h
    intro e he hb
    cases hx : Region.binds .any x with
    | false =>
      rw [hx] at h
      rcases List.mem_cons.1 he with q | q
      · rw [q, hx] at hb; cases hb
      · exact ih h e q hb
    | true =>
      rw [hx, cond_true] at h
      obtain ⟨h1, h2⟩ := bif_true h
      rcases List.mem_cons.1 he with q | q
      · rw [q]; exact Nat.le_of_ble_eq_true h1
      · exact ih h2 e q hb
theorem apartB_ok {t : Tr Nat} {o : Oper} {j : Nat} {l : List Oper} : ∀ {i : Nat}, apartB ops t o j l i = true → ∀ m x, l[m]? = some x → bitB t (i + m) j = true ∨ (x.apart ops o = true ∧ o.apart ops x = true) := by
  induction l with
  | nil => intro i _ m x hx; simp at hx
  | cons y r ih =>
    intro i h m x hx
    rw [apartB] at h
    cases m with
    | zero =>
      simp only [List.getElem?_cons_zero, Option.some.injEq] at hx
      subst hx
      cases hb : bitB t i j with
      | true => exact .inl rfl
      | false =>
        rw [hb] at h
        obtain ⟨h1, _⟩ := bif_true h
        simp only [Bool.and_eq_true] at h1
        exact .inr h1
    | succ m =>
      have key : apartB ops t o j r (i + 1) = true := by
        cases hb : bitB t i j with
        | true => rw [hb] at h; exact h
        | false => rw [hb] at h; exact (bif_true h).2
      have := ih key m x (by simpa using hx)
      rwa [show i + (m + 1) = i + 1 + m by omega]
theorem drawGo_ok {t : Tr Nat} {l : List Oper} : ∀ {j : Nat}, drawGo ops t l j = true → ∀ m o, l[m]? = some o → edgesB o.after.toList (j + m) = true ∧ apartB ops t o (j + m) (ops.toList.take (j + m)) 0 = true := by
  induction l with
  | nil => intro j _ m o ho; simp at ho
  | cons x r ih =>
    intro j h m o ho
    rw [drawGo] at h
    obtain ⟨h1, h2⟩ := bif_true h
    simp only [Bool.and_eq_true] at h1
    cases m with
    | zero =>
      simp only [List.getElem?_cons_zero, Option.some.injEq] at ho
      subst ho
      exact h1
    | succ m =>
      have := ih h2 m o (by simpa using ho)
      rwa [show j + (m + 1) = j + 1 + m by omega]
theorem drawOk_edge (h : drawOk ops = true) : ∀ i o, ops[i]? = some o → ∀ e ∈ o.after, Region.binds .any e = true → e.on < i := by
  unfold drawOk at h
  rw [masksK_eq] at h
  intro i o ho e he hb
  have := (drawGo_ok h i o (by simpa using ho)).1
  rw [Nat.zero_add] at this
  exact edgesB_ok this e (by simpa using he) hb
theorem drawOk_apart (h : drawOk ops = true) : ∀ i j oi oj, ops[i]? = some oi → ops[j]? = some oj → i ≠ j → ¬ Bef ops i j → ¬ Bef ops j i → oi.apart ops oj = true := by
  unfold drawOk at h
  rw [masksK_eq] at h
  have key : ∀ i j oi oj, ops[i]? = some oi → ops[j]? = some oj → i < j → ¬ Bef ops i j → oi.apart ops oj = true ∧ oj.apart ops oi = true := by
    intro i j oi oj hi hj hij hn
    have := (drawGo_ok h j oj (by simpa using hj)).2
    rw [Nat.zero_add] at this
    rcases apartB_ok this i oi (by rw [List.getElem?_take, if_pos hij]; simpa using hi) with q | q
    · rw [Nat.zero_add] at q
      exact absurd (masks_bit i j q) hn
    · exact q
  intro i j oi oj hi hj hne h1 h2
  rcases Nat.lt_or_gt_of_ne hne with q | q
  · exact (key i j oi oj hi hj q h1).1
  · exact (key j i oj oi hj hi q h2).2
end

/-! ### what an operation touches -/
def cls : Op → Nat
  | .call c => (match c.callee with
    | .builtin b => (match b with | .append => 2 | .delete => 2 | .clear => 2 | .len => 1 | _ => 0)
    | _ => 3)
  | .slice _ _ _ _ _ => 2
  | .alloc _ => 2
  | .box _ _ => 2
  | .store _ _ _ => 2
  | .buildSlice _ _ _ => 2
  | .makeMap _ _ => 2
  | .makeSlice _ _ _ => 2
  | .mapUpdate _ _ _ _ => 2
  | .insert _ _ _ _ => 2
  | .mapEntry _ _ _ => 2
  | .entryStore _ _ _ _ => 2
  | .load _ _ => 1
  | .lookup _ _ _ _ => 1
  | _ => 0
def touches : Op → List Operand
  | .call c => (match c.callee with
    | .builtin _ => c.args.toList
    | _ => [])
  | .slice _ x _ _ _ => [x]
  | .store _ x _ => [x]
  | .mapUpdate _ x _ _ => [x]
  | .insert _ x _ _ => [x]
  | .mapEntry _ x _ => [x]
  | .entryStore _ x _ _ => [x]
  | .load _ x => [x]
  | .lookup _ x _ _ => [x]
  | _ => []
/-- May two operations of these kinds meddle with one another? -/
def meet : Nat → Nat → Bool
  | 0, _ => false
  | _, 0 => false
  | 1, 1 => false
  | _, _ => true
noncomputable def pairsAt (t : Tr Nat) (c j : Nat) : List Oper → Nat → List (Nat × Nat) → List (Nat × Nat)
  | [], _, r => r
  | x :: l, i, r => bif meet (cls x.op) c then (bif bitB t i j then pairsAt t c j l (i + 1) r else (i, j) :: pairsAt t c j l (i + 1) r) else pairsAt t c j l (i + 1) r
noncomputable def pairsGo (ops : Array Oper) (t : Tr Nat) : List Oper → Nat → List (Nat × Nat)
  | [], _ => []
  | o :: r, j => pairsAt t (cls o.op) j (ops.toList.take j) 0 (pairsGo ops t r (j + 1))
noncomputable def dynPairs (ops : Array Oper) : List (Nat × Nat) := masksK ops.toList 0 .e fun t => pairsGo ops t ops.toList 0
section
variable {ops : Array Oper}
theorem pairsAt_mem {t : Tr Nat} {c j : Nat} {l : List Oper} : ∀ {i : Nat} {r : List (Nat × Nat)}, (∀ x ∈ r, x ∈ pairsAt t c j l i r) ∧ ∀ m x, l[m]? = some x → meet (cls x.op) c = true → bitB t (i + m) j = false → (i + m, j) ∈ pairsAt t c j l i r := by
  induction l with
  | nil => intro i r; exact ⟨fun x hx => hx, fun m x hx => by simp at hx⟩
  | cons y l ih =>
    intro i r
    have ih' := ih (i := i + 1) (r := r)
    rw [pairsAt]
    refine ⟨fun x hx => ?_, fun m x hx hm hb => ?_⟩
    · have := ih'.1 x hx
      cases meet (cls y.op) c with
      | false => exact this
      | true => cases bitB t i j with
        | true => exact this
        | false => exact List.mem_cons_of_mem _ this
    · cases m with
      | zero =>
        simp only [List.getElem?_cons_zero, Option.some.injEq] at hx
        subst hx
        rw [Nat.add_zero] at hb ⊢
        rw [hm, hb]
        exact List.mem_cons_self
      | succ m =>
        have := ih'.2 m x (by simpa using hx) hm (by rwa [show i + 1 + m = i + (m + 1) by omega])
        rw [show i + 1 + m = i + (m + 1) by omega] at this
        cases meet (cls y.op) c with
        | false => exact this
        | true => cases bitB t i j with
          | true => exact this
          | false => exact List.mem_cons_of_mem _ this
theorem pairsGo_mem {t : Tr Nat} {l : List Oper} : ∀ {k : Nat}, ∀ m o, l[m]? = some o → ∀ i x, (ops.toList.take (k + m))[i]? = some x → meet (cls x.op) (cls o.op) = true → bitB t i (k + m) = false → (i, k + m) ∈ pairsGo ops t l k := by
  induction l with
  | nil => intro k m o ho; simp at ho
  | cons y l ih =>
    intro k m o ho i x hx hm hb
    rw [pairsGo]
    cases m with
    | zero =>
      simp only [List.getElem?_cons_zero, Option.some.injEq] at ho
      subst ho
      have := (pairsAt_mem (t := t) (c := cls y.op) (j := k) (l := ops.toList.take k) (i := 0) (r := pairsGo ops t l (k + 1))).2 i x hx hm (by rwa [Nat.zero_add])
      rwa [Nat.zero_add] at this
    | succ m =>
      rw [show k + (m + 1) = k + 1 + m by omega] at hx hb ⊢
      exact pairsAt_mem.1 _ (ih m o (by simpa using ho) i x hx hm hb)
theorem dynPairs_mem {i j : Nat} {oi oj : Oper} (hi : ops[i]? = some oi) (hj : ops[j]? = some oj) (hij : i < j) (hm : meet (cls oi.op) (cls oj.op) = true) (hn : ¬ Bef ops i j) : (i, j) ∈ dynPairs ops := by
  unfold dynPairs
  rw [masksK_eq]
  have := pairsGo_mem (ops := ops) (t := masks ops) (l := ops.toList) (k := 0) j oj (by simpa using hj) i oi (by rw [Nat.zero_add, List.getElem?_take, if_pos hij]; simpa using hi) hm (by
    rw [Nat.zero_add]
    cases hq : bitB (masks ops) i j with
    | false => rfl
    | true => exact absurd (masks_bit i j hq) hn)
  rwa [Nat.zero_add] at this
end
end Go.Proofs.YtgoccionghehoaaGreatDoor.Ev
namespace Go.Proofs.YtgoccionghehoaaGreatDoor.Ev
open Go

variable [GTab] {P : Program} {W0 : World} [GOk W0]
structure Rc where
  full : Bool
  ids : List Nat
  w : Bool
  bar : Nat
  nx : Nat
  nx' : Nat
  vw : Tr SO
  ou : Tr SO
def topId : SV → Option Nat
  | .ptr id _ => some id
  | .sl id _ _ _ => some id
  | .slr id _ _ _ => some id
  | .sla id _ => some id
  | .emp _ id _ _ => some id
  | .map id => some id
  | .yld id => some id
  | _ => none
noncomputable def viewK (fr : Tr SV) (h : HS) : List Operand → List Nat → Tr SO → (List Nat → Tr SO → Bool) → Bool
  | [], ids, v, k => k ids v
  | x :: r, ids, v, k => opdK fr x fun p => match topId p with
    | some id => bif Nat.blt id h.nx then (match h.hp.get id with
      | some o => v.putK id (some o) fun v' => viewK fr h r (id :: ids) v' k
      | none => false) else false
    | none => viewK fr h r ids v k
noncomputable def mergeK (v : Tr SO) : List Nat → Tr SO → (Tr SO → Bool) → Bool
  | [], hp, k => k hp
  | id :: r, hp, k => hp.putK id (v.get id) fun hp' => mergeK v r hp' k
noncomputable def rangeK (v : Tr SO) : Nat → Nat → Tr SO → (Tr SO → Bool) → Bool
  | 0, _, hp, k => k hp
  | m + 1, id, hp, k => match v.get id with
    | some o => hp.putK id (some o) fun hp' => rangeK v m (id + 1) hp' k
    | none => rangeK v m (id + 1) hp k
theorem viewK_ok {fr : Tr SV} {h : HS} {l : List Operand} : ∀ {ids : List Nat} {v : Tr SO} {k : List Nat → Tr SO → Bool}, viewK fr h l ids v k = true → (∀ id, v.get id = if id ∈ ids then h.hp.get id else none) → (∀ id ∈ ids, id < h.nx) →
    ∃ ids' v', k ids' v' = true ∧ (∀ id, v'.get id = if id ∈ ids' then h.hp.get id else none) ∧ (∀ id ∈ ids', id < h.nx) := by
  induction l with
  | nil => intro ids v k hk a b; exact ⟨ids, v, hk, a, b⟩
  | cons x r ih =>
    intro ids v k hk a b
    rw [viewK, opdK_eq] at hk
    split at hk
    · rename_i id _
      obtain ⟨h1, h2⟩ := bif_true hk
      split at h2
      case h_2 => cases h2
      rename_i o ho
      rw [Tr.putK_eq] at h2
      refine ih h2 (fun j => ?_) (fun j hj => ?_)
      · rw [Tr.get_put]
        by_cases e : j = id
        · subst e; rw [if_pos rfl, if_pos List.mem_cons_self, ho]
        · rw [if_neg e, a j]
          by_cases hm : j ∈ ids
          · rw [if_pos hm, if_pos (List.mem_cons_of_mem _ hm)]
          · rw [if_neg hm, if_neg (fun q => (List.mem_cons.1 q).elim e hm)]
      · rcases List.mem_cons.1 hj with e | e
        · rw [e]; exact Nat.le_of_ble_eq_true h1
        · exact b j e
    · exact ih hk a b
theorem mergeK_ok {v : Tr SO} {l : List Nat} : ∀ {hp : Tr SO} {k : Tr SO → Bool}, mergeK v l hp k = true → ∃ hp', k hp' = true ∧ ∀ id, hp'.get id = if id ∈ l then v.get id else hp.get id := by
  induction l with
  | nil => intro hp k hk; exact ⟨hp, hk, fun id => by simp⟩
  | cons x r ih =>
    intro hp k hk
    rw [mergeK, Tr.putK_eq] at hk
    obtain ⟨hp', h1, h2⟩ := ih hk
    refine ⟨hp', h1, fun id => ?_⟩
    rw [h2, Tr.get_put]
    by_cases e : id = x
    · subst e
      rw [if_pos rfl, if_pos List.mem_cons_self]
      split <;> rfl
    · rw [if_neg e]
      by_cases hm : id ∈ r
      · rw [if_pos hm, if_pos (List.mem_cons_of_mem _ hm)]
      · rw [if_neg hm, if_neg (fun q => (List.mem_cons.1 q).elim e hm)]
theorem rangeK_ok {v : Tr SO} {m : Nat} : ∀ {i : Nat} {hp : Tr SO} {k : Tr SO → Bool}, rangeK v m i hp k = true → ∃ hp', k hp' = true ∧ ∀ id, hp'.get id = if i ≤ id ∧ id < i + m ∧ v.get id ≠ none then v.get id else hp.get id := by
  induction m with
  | zero => intro i hp k hk; exact ⟨hp, hk, fun id => by rw [if_neg (by omega)]⟩
  | succ m ih =>
    intro i hp k hk
    rw [rangeK] at hk
    split at hk
    · rename_i o ho
      rw [Tr.putK_eq] at hk
      obtain ⟨hp', h1, h2⟩ := ih hk
      refine ⟨hp', h1, fun id => ?_⟩
      rw [h2, Tr.get_put]
      by_cases e : id = i
      · subst e
        rw [if_neg (by omega), if_pos rfl, if_pos ⟨by omega, by omega, by rw [ho]; simp⟩, ho]
      · by_cases q : i + 1 ≤ id ∧ id < i + 1 + m ∧ v.get id ≠ none
        · rw [if_pos q, if_pos ⟨by omega, by omega, q.2.2⟩]
        · rw [if_neg q, if_neg e, if_neg fun q2 => q ⟨by omega, by omega, q2.2.2⟩]
    · rename_i hn
      obtain ⟨hp', h1, h2⟩ := ih hk
      refine ⟨hp', h1, fun id => ?_⟩
      rw [h2]
      by_cases e : id = i
      · subst e
        rw [if_neg (by omega), if_neg (fun q => q.2.2 hn)]
      · by_cases q : i + 1 ≤ id ∧ id < i + 1 + m ∧ v.get id ≠ none
        · rw [if_pos q, if_pos ⟨by omega, by omega, q.2.2⟩]
        · rw [if_neg q, if_neg fun q2 => q ⟨by omega, by omega, q2.2.2⟩]

noncomputable def callV (P : Program) (call : CallK) (bar : Nat) (o : Oper) (fr : Tr SV) (h : HS) (k : SV → HS → Option Rc → Bool) : Bool :=
  bif Nat.ble h.bar bar then opK P call o fr ⟨h.hp, h.nx, h.ne, bar⟩ fun sv h1 => k sv ⟨h1.hp, h1.nx, h1.ne, h.bar⟩ (some ⟨true, [], true, bar, h.nx, h1.nx, h.hp, h1.hp⟩) else false
/-- An operation that may write, seen with its own part alone. -/
noncomputable def effV (P : Program) (o : Oper) (fr : Tr SV) (h : HS) (ids : List Nat) (v : Tr SO) (k : SV → HS → Option Rc → Bool) : Bool :=
  opK P (fun _ _ _ _ => false) o fr ⟨v, h.nx, h.ne, h.bar⟩ fun sv h1 =>
      mergeK h1.hp ids h.hp fun hp1 => rangeK h1.hp (h1.nx - h.nx) h.nx hp1 fun hp2 => k sv ⟨hp2, h1.nx, h1.ne, h.bar⟩ (some ⟨false, ids, true, h.bar, h.nx, h1.nx, .e, .e⟩)
noncomputable def opV (P : Program) (call : CallK) (raised : Bool) (nx0 : Nat) (o : Oper) (fr : Tr SV) (h : HS) (k : SV → HS → Option Rc → Bool) : Bool :=
  match cls o.op with
  | 0 => rdK P o fr .e fun sv => k sv h none
  | 1 => viewK fr h (touches o.op) [] .e fun ids v => rdK P o fr v fun sv => k sv h (some ⟨false, ids, false, h.bar, h.nx, h.nx, .e, .e⟩)
  | 2 => viewK fr h (touches o.op) [] .e fun ids v => bif isSl o.op then opK P (fun _ _ _ _ => false) o fr ⟨v, h.nx, h.ne, h.bar⟩ fun sv h1 => k sv ⟨h.hp, h.nx, h1.ne, h.bar⟩ (some ⟨false, ids, false, h.bar, h.nx, h.nx, .e, .e⟩) else effV P o fr h ids v k
  | _ => bif raised then callV P call nx0 o fr h k else callV P call h.bar o fr h k
def RcOk (r : Option Rc) (p : Pl) : Prop :=
  match r with
  | none => ∀ id, p.view id = none ∧ p.out id = none
  | some r => r.nx = p.nx ∧ r.nx' = p.nx' ∧ (r.full = false → (∀ id, p.view id ≠ none → id ∈ r.ids) ∧ (∀ id ∈ r.ids, id < p.nx) ∧ (r.w = false → ∀ id, p.out id = p.view id)) ∧ (r.full = true → (∀ id, p.out id ≠ p.view id → r.bar ≤ id) ∧ ∀ id, p.view id = r.vw.get id ∧ p.out id = r.ou.get id)
/-- What an operation does with its own part of the objects. -/
structure VOk (P : Program) (W0 : World) (o : Oper) (fr : Tr SV) (h h' : HS) (rc : Option Rc) (p : Pl) : Prop where
  run : ∀ ro fr' E N a w, Same fr fr' o.op.operands → Rel W0 E p.view w → Free E p.nx p.nx' p.ne p.ne' → FrOk E fr' N a → ∀ (K : Act → World → Prop) (Q : Exit → Act → World → Prop),
    (∀ E' v w', val E' p.sv = some v → Rel W0 E' p.out w' → Step p.bar p.view p.nx p.nx' p.ne p.ne' E E' w w' → K (a.put o.dst v) w') → o.wpIn (Fw ro) 0 P a w K Q
  lives : p.lives
  sub : ∀ id o, p.view id = some o → h.hp.get id = some o
  eq : ∀ id, h'.hp.get id = ov p h.hp.get id
  nx : p.nx = h.nx
  nx' : p.nx' = h'.nx
  ne : p.ne = h.ne
  ne' : p.ne' = h'.ne
  bar : h.bar ≤ p.bar
  rcok : RcOk rc p
  pure : cls o.op = 0 → rc = none
  read : cls o.op = 1 → ∀ r, rc = some r → r.w = false ∧ r.full = false
theorem ov_self {p : Pl} {g : Hp} {id : Nat} (h : p.out id = p.view id) : ov p g id = g id := by unfold ov; rw [if_pos h]
theorem ov_other {p : Pl} {g : Hp} {id : Nat} (h : p.out id ≠ p.view id) : ov p g id = p.out id := by unfold ov; rw [if_neg h]
theorem cls_rd {call : CallK} {o : Oper} {fr : Tr SV} {h : HS} {k : SV → HS → Bool} (hc : cls o.op = 0 ∨ cls o.op = 1) : opK P call o fr h k = rdK P o fr h.hp fun sv => k sv h := by
  unfold opK
  cases ho : o.op <;> (try rfl) <;> rw [ho] at hc <;> (try (rcases hc with hc | hc <;> cases hc))
  rename_i c
  rcases c with ⟨cal, args, ts⟩
  cases cal with
  | builtin b => cases b <;> first | rfl | (rcases hc with hc | hc <;> cases hc)
  | value f => rcases hc with hc | hc <;> cases hc
  | invoke r n => rcases hc with hc | hc <;> cases hc
def noCall : CallK := fun _ _ _ _ => false
noncomputable def opVC (P : Program) (o : Oper) : Cl (CallK → Tr SV → HS → (SV → HS → Option Rc → Bool) → Bool) :=
  (compOp P o).then fun g => match cls o.op with
  | 0 => ⟨fun _ fr h k => g noCall fr ⟨.e, h.nx, h.ne, h.bar⟩ fun sv _ => k sv h none⟩
  | 1 => ⟨fun _ fr h k => viewK fr h (touches o.op) [] .e fun ids v => g noCall fr ⟨v, h.nx, h.ne, h.bar⟩ fun sv _ => k sv h (some ⟨false, ids, false, h.bar, h.nx, h.nx, .e, .e⟩)⟩
  | 2 => (match isSl o.op with
    | true => ⟨fun _ fr h k => viewK fr h (touches o.op) [] .e fun ids v => g noCall fr ⟨v, h.nx, h.ne, h.bar⟩ fun sv h1 => normH ⟨h.hp, h.nx, h1.ne, h.bar⟩ fun h2 => k sv h2 (some ⟨false, ids, false, h.bar, h.nx, h.nx, .e, .e⟩)⟩
    | false => ⟨fun _ fr h k => viewK fr h (touches o.op) [] .e fun ids v => g noCall fr ⟨v, h.nx, h.ne, h.bar⟩ fun sv h1 =>
      mergeK h1.hp ids h.hp fun hp1 => rangeK h1.hp (h1.nx - h.nx) h.nx hp1 fun hp2 => normH ⟨hp2, h1.nx, h1.ne, h.bar⟩ fun h2 => k sv h2 (some ⟨false, ids, true, h.bar, h.nx, h1.nx, .e, .e⟩)⟩)
  | _ => ⟨fun call fr h k => g call fr ⟨h.hp, h.nx, h.ne, h.bar⟩ fun sv h1 => normH ⟨h1.hp, h1.nx, h1.ne, h.bar⟩ fun h2 => k sv h2 (some ⟨true, [], true, h.bar, h.nx, h1.nx, h.hp, h1.hp⟩)⟩
theorem viewK_mono {fr : Tr SV} {h : HS} {l : List Operand} : ∀ {ids : List Nat} {v : Tr SO} {k k' : List Nat → Tr SO → Bool}, (∀ i v, k i v = true → k' i v = true) → viewK fr h l ids v k = true → viewK fr h l ids v k' = true := by
  induction l with
  | nil => intro ids v k k' hm hk; exact hm _ _ hk
  | cons x r ih =>
    intro ids v k k' hm hk
    rw [viewK, opdK_eq] at hk ⊢
    split at hk
    · rename_i id e
      obtain ⟨h1, h2⟩ := bif_true hk
      rw [h1, cond_true]
      split at h2
      case h_2 => cases h2
      rename_i o ho
      simp only [Tr.putK_eq] at h2 ⊢
      exact ih hm h2
    · exact ih hm hk
theorem opVC_ok' {call : CallK} {o : Oper} {fr : Tr SV} {h : HS} {k : SV → HS → Option Rc → Bool} (hk : (opVC P o).f call fr h k = true) : opV P call false 0 o fr h k = true := by
  unfold opVC at hk
  rw [Cl.then_eq] at hk
  simp only [normH_eq] at hk
  unfold opV
  split at hk
  · rename_i hc
    have := compOp_ok hk
    rw [cls_rd (.inl hc)] at this
    exact this
  · rename_i hc
    refine viewK_mono (fun ids v hk => ?_) hk
    have := compOp_ok hk
    rw [cls_rd (.inr hc)] at this
    exact this
  · rename_i hc
    cases hs : isSl o.op with
    | true =>
      rw [hs] at hk
      simp only [cond_true]
      exact viewK_mono (fun ids v hk => compOp_ok hk) hk
    | false =>
      rw [hs] at hk
      simp only [cond_false]
      exact viewK_mono (fun ids v hk => compOp_ok hk) hk
  · rename_i n0 n1 n2
    simp only [cond_false, callV]
    rw [show Nat.ble h.bar h.bar = true from Nat.ble_eq_true_of_le (Nat.le_refl _), cond_true]
    exact compOp_ok hk
theorem opV_ok {call : CallK} (hc : CallSound P W0 call) {raised : Bool} {nx0 : Nat} {o : Oper} {fr : Tr SV} {h : HS} {k : SV → HS → Option Rc → Bool} (hk : opV P call raised nx0 o fr h k = true) :
    ∃ sv h' rc p, k sv h' rc = true ∧ p.sv = sv ∧ Goes h h' ∧ VOk P W0 o fr h h' rc p := by
  unfold opV at hk
  split at hk
  · rename_i hcls
    obtain ⟨sv, k1, k2⟩ := rd_op (W0 := W0) (h := ⟨.e, h.nx, h.ne, h.bar⟩) hk
    refine ⟨sv, h, none, ⟨Tr.e.get, Tr.e.get, sv, h.bar, h.nx, h.nx, h.ne, h.ne⟩, k1, rfl, Goes.refl h, ⟨k2, fun id o e => (by cases e), fun id o e => (by cases e), fun id => (ov_self rfl).symm, rfl, rfl, rfl, rfl, Nat.le_refl _, fun id => ⟨rfl, rfl⟩, fun _ => rfl, fun e => (by rw [hcls] at e; cases e)⟩⟩
  · rename_i hcls
    obtain ⟨ids, v, hk, v1, v2⟩ := viewK_ok hk (fun id => by simp [Tr.get_e]) (fun id hid => by cases hid)
    obtain ⟨sv, k1, k2⟩ := rd_op (W0 := W0) (h := ⟨v, h.nx, h.ne, h.bar⟩) hk
    refine ⟨sv, h, _, ⟨v.get, v.get, sv, h.bar, h.nx, h.nx, h.ne, h.ne⟩, k1, rfl, Goes.refl h, ⟨k2, fun id o e => .inr ⟨o, e⟩, fun id o e => ?_, fun id => (ov_self rfl).symm, rfl, rfl, rfl, rfl, Nat.le_refl _, ⟨rfl, rfl, fun _ => ⟨fun id hid => ?_, v2, fun _ _ => rfl⟩, fun e => (by cases e)⟩, fun e => (by rw [hcls] at e; cases e), fun _ r e => by (obtain rfl := Option.some.inj e; exact ⟨rfl, rfl⟩)⟩⟩
    · simp only at e
      rw [v1] at e
      split at e
      · exact e
      · cases e
    · simp only at hid
      rw [v1] at hid
      split at hid
      · assumption
      · exact absurd rfl hid
  · rename_i hcls
    obtain ⟨ids, v, hk, v1, v2⟩ := viewK_ok hk (fun id => by simp [Tr.get_e]) (fun id hid => by cases hid)
    rw [Bool.cond_eq_ite] at hk
    split at hk
    · rename_i his
      obtain ⟨sv, ne, k1, hne, k2⟩ := sl_op (W0 := W0) (h := ⟨v, h.nx, h.ne, h.bar⟩) his hk
      refine ⟨sv, ⟨h.hp, h.nx, ne, h.bar⟩, _, ⟨v.get, v.get, sv, h.bar, h.nx, h.nx, h.ne, ne⟩, k1, rfl, ⟨fun _ _ => rfl, rfl, Nat.le_refl _, hne, fun _ o e => .inr ⟨o, e⟩⟩, ⟨k2, fun id o e => .inr ⟨o, e⟩, fun id o e => ?_, fun id => (ov_self rfl).symm, rfl, rfl, rfl, rfl, Nat.le_refl _, ⟨rfl, rfl, fun _ => ⟨fun id hid => ?_, v2, fun _ _ => rfl⟩, fun e => (by cases e)⟩, fun e => (by rw [hcls] at e; cases e), fun e => by (rw [hcls] at e; cases e)⟩⟩
      · simp only at e
        rw [v1] at e
        split at e
        · exact e
        · cases e
      · simp only at hid
        rw [v1] at hid
        split at hid
        · assumption
        · exact absurd rfl hid
    unfold effV at hk
    obtain ⟨sv, h1, hk, g, k2⟩ := opK_ok (W0 := W0) (fun f l h k hk => by cases hk) hk
    obtain ⟨hp1, hk, m1⟩ := mergeK_ok hk
    obtain ⟨hp2, hk, m2⟩ := rangeK_ok hk
    have gnx : h.nx ≤ h1.nx := g.nx
    have gne : h.ne ≤ h1.ne := g.ne
    have gk : ∀ id, id < h.bar → h1.hp.get id = v.get id := g.kept
    have gl : ∀ id o, h1.hp.get id = some o → (h.nx ≤ id ∧ id < h1.nx) ∨ ∃ o0, v.get id = some o0 := g.live
    have gb : h1.bar = h.bar := g.bar
    have vin : ∀ id, v.get id ≠ none → id ∈ ids := fun id hid => by
      rw [v1] at hid
      split at hid
      · assumption
      · exact absurd rfl hid
    have hov : ∀ id, hp2.get id = ov ⟨v.get, h1.hp.get, sv, h.bar, h.nx, h1.nx, h.ne, h1.ne⟩ h.hp.get id := fun id => by
      rw [m2, m1]
      by_cases q : h1.hp.get id = v.get id
      · rw [ov_self (p := ⟨v.get, h1.hp.get, sv, h.bar, h.nx, h1.nx, h.ne, h1.ne⟩) q]
        by_cases hm : id ∈ ids
        · have := v2 id hm
          rw [if_neg (by omega), if_pos hm, q, v1, if_pos hm]
        · rw [if_neg hm]
          rw [v1, if_neg hm] at q
          rw [if_neg (fun z => z.2.2 q)]
      · rw [ov_other (p := ⟨v.get, h1.hp.get, sv, h.bar, h.nx, h1.nx, h.ne, h1.ne⟩) q]
        show _ = h1.hp.get id
        by_cases hm : id ∈ ids
        · have := v2 id hm
          rw [if_neg (by omega), if_pos hm]
        · rw [v1, if_neg hm] at q
          cases ho : h1.hp.get id with
          | none => exact absurd ho q
          | some o1 =>
            rcases gl id o1 ho with z | ⟨o0, z⟩
            · rw [if_pos ⟨z.1, by omega, by simp⟩]
            · rw [v1, if_neg hm] at z; cases z
    refine ⟨sv, _, _, ⟨v.get, h1.hp.get, sv, h.bar, h.nx, h1.nx, h.ne, h1.ne⟩, hk, rfl, ⟨fun id hid => ?_, rfl, gnx, gne, fun id o ho => ?_⟩, ⟨k2, gl, fun id o e => ?_, hov, rfl, rfl, rfl, rfl, Nat.le_refl _, ⟨rfl, rfl, fun _ => ⟨vin, v2, fun e => (by cases e)⟩, fun e => (by cases e)⟩, fun e => (by rw [hcls] at e; cases e), fun e => (by rw [hcls] at e; cases e)⟩⟩
    · show hp2.get id = h.hp.get id
      rw [hov, ov_self]
      exact gk id hid
    · change hp2.get id = some o at ho
      rw [hov] at ho
      by_cases q : h1.hp.get id = v.get id
      · rw [ov_self (p := ⟨v.get, h1.hp.get, sv, h.bar, h.nx, h1.nx, h.ne, h1.ne⟩) q] at ho
        exact .inr ⟨o, ho⟩
      · rw [ov_other (p := ⟨v.get, h1.hp.get, sv, h.bar, h.nx, h1.nx, h.ne, h1.ne⟩) q] at ho
        rcases gl id o ho with z | ⟨o0, z⟩
        · exact .inl z
        · have hm := vin id (by rw [z]; simp)
          rw [v1, if_pos hm] at z
          exact .inr ⟨o0, z⟩
    · simp only at e
      rw [v1] at e
      split at e
      · exact e
      · cases e
  · rename_i n0 n1 n2
    have full : ∀ (bar : Nat), h.bar ≤ bar → opK P call o fr ⟨h.hp, h.nx, h.ne, bar⟩ (fun sv h1 => k sv ⟨h1.hp, h1.nx, h1.ne, h.bar⟩ (some ⟨true, [], true, bar, h.nx, h1.nx, h.hp, h1.hp⟩)) = true → ∃ sv h' rc p, k sv h' rc = true ∧ p.sv = sv ∧ Goes h h' ∧ VOk P W0 o fr h h' rc p := by
      intro bar hb hk
      obtain ⟨sv, h1, hk, g, k2⟩ := opK_ok (W0 := W0) hc hk
      have gnx : h.nx ≤ h1.nx := g.nx
      have gne : h.ne ≤ h1.ne := g.ne
      have gk : ∀ id, id < bar → h1.hp.get id = h.hp.get id := g.kept
      have gl : ∀ id o, h1.hp.get id = some o → (h.nx ≤ id ∧ id < h1.nx) ∨ ∃ o0, h.hp.get id = some o0 := g.live
      refine ⟨sv, _, _, ⟨h.hp.get, h1.hp.get, sv, bar, h.nx, h1.nx, h.ne, h1.ne⟩, hk, rfl, ⟨fun id hid => gk id (Nat.lt_of_lt_of_le hid hb), rfl, gnx, gne, gl⟩, ⟨k2, gl, fun id o e => e, fun id => ?_, rfl, rfl, rfl, rfl, hb, ⟨rfl, rfl, fun e => (by cases e), fun _ => ⟨fun id hid => ?_, fun id => ⟨rfl, rfl⟩⟩⟩, fun e => absurd e n0, fun e => absurd e n1⟩⟩
      · show h1.hp.get id = ov _ h.hp.get id
        by_cases q : h1.hp.get id = h.hp.get id
        · rw [ov_self (p := ⟨h.hp.get, h1.hp.get, sv, bar, h.nx, h1.nx, h.ne, h1.ne⟩) q, q]
        · rw [ov_other (p := ⟨h.hp.get, h1.hp.get, sv, bar, h.nx, h1.nx, h.ne, h1.ne⟩) q]
      · rcases Nat.lt_or_ge id bar with q | q
        · exact absurd (gk id q) hid
        · exact q
    have full' : ∀ bar, callV P call bar o fr h k = true → ∃ sv h' rc p, k sv h' rc = true ∧ p.sv = sv ∧ Goes h h' ∧ VOk P W0 o fr h h' rc p := fun bar hk => by
      obtain ⟨h1, h2⟩ := bif_true hk
      exact full bar (Nat.le_of_ble_eq_true h1) h2
    rcases bif_or hk with hk | hk
    · exact full' _ hk
    · exact full' _ hk
theorem opVC_ok {call : CallK} (hc : CallSound P W0 call) {o : Oper} {fr : Tr SV} {h : HS} {k : SV → HS → Option Rc → Bool} (hk : (opVC P o).f call fr h k = true) :
    ∃ sv h' rc p, k sv h' rc = true ∧ p.sv = sv ∧ Goes h h' ∧ VOk P W0 o fr h h' rc p := opV_ok hc (opVC_ok' hk)
/-- Is it a call of a function that writes nothing that was there? -/
noncomputable def raised (o : Oper) (fr : Tr SV) : Bool :=
  match o.op with
  | .call c => (match c.callee with
    | .value f => (match fnOf (opd fr f) with
      | some (.func g, _, _) => GTab.raise g
      | _ => false)
    | _ => false)
  | _ => false
/-- Reads of rows that nobody writes, too. -/
noncomputable def opVF (P : Program) (o : Oper) : Cl (CallK → Tr SV → HS → (SV → HS → Option Rc → Bool) → Bool) :=
  (opVC P o).then fun g => ⟨fun call fr h k => bif isF P o fr then rdF P o fr (fun sv => forkB sv fun sv => k sv h none) else bif raised o fr then opV P call true h.nx o fr h (fun sv h' rc => forkB sv fun sv => k sv h' rc) else g call fr h fun sv h' rc => forkB sv fun sv => k sv h' rc⟩
theorem opVF_ok {call : CallK} (hc : CallSound P W0 call) {o : Oper} {fr : Tr SV} {h : HS} {k : SV → HS → Option Rc → Bool} (hk : (opVF P o).f call fr h k = true) :
    ∃ sv h' rc p, k sv h' rc = true ∧ p.sv = sv ∧ Goes h h' ∧ VOk P W0 o fr h h' rc p := by
  unfold opVF at hk
  rw [Cl.then_eq] at hk
  simp only [forkB_eq] at hk
  rcases bif_cases hk with ⟨_, hk⟩ | ⟨_, hk⟩
  · obtain ⟨sv, h', k1, _, k2, rfl⟩ := rdF_op (W0 := W0) (h := ⟨.e, h.nx, h.ne, h.bar⟩) (k := fun sv _ => k sv h none) hk
    exact ⟨sv, h, none, ⟨Tr.e.get, Tr.e.get, sv, h.bar, h.nx, h.nx, h.ne, h.ne⟩, k1, rfl, Goes.refl h, ⟨k2, fun id o e => (by cases e), fun id o e => (by cases e), fun id => (ov_self rfl).symm, rfl, rfl, rfl, rfl, Nat.le_refl _, fun id => ⟨rfl, rfl⟩, fun _ => rfl, fun _ r e => (by cases e)⟩⟩
  · rcases bif_cases hk with ⟨_, hk⟩ | ⟨_, hk⟩
    · exact opV_ok hc hk
    · exact opVC_ok hc hk
end Go.Proofs.YtgoccionghehoaaGreatDoor.Ev
namespace Go.Proofs.YtgoccionghehoaaGreatDoor.Ev
open Go

variable [GTab] {P : Program} {W0 : World} [GOk W0]
def isNil : List Nat → Bool
  | [] => true
  | _ => false
noncomputable def allLt : List Nat → Nat → Bool
  | [], _ => true
  | x :: r, b => bif Nat.blt x b then allLt r b else false
noncomputable def offB (x : Nat) : List Nat → Bool
  | [] => true
  | y :: r => bif Nat.beq x y then false else offB x r
noncomputable def allOff : List Nat → List Nat → Nat → Nat → Bool
  | [], _, _, _ => true
  | x :: r, l, a, b => bif offB x l && (Nat.blt x a || Nat.ble b x) then allOff r l a b else false
/-- None of these was changed. -/
noncomputable def allKept (b : Nat) (v o : Tr SO) : List Nat → Bool
  | [] => true
  | x :: r => bif Nat.blt x b then allKept b v o r else bif soEq (v.get x) (o.get x) then allKept b v o r else false
theorem allKept_ok {l : List Nat} {b : Nat} {v o : Tr SO} (h : allKept b v o l = true) : ∀ x ∈ l, x < b ∨ v.get x = o.get x := by
  induction l with
  | nil => intro x hx; cases hx
  | cons y r ih =>
    intro x hx
    rw [allKept] at h
    cases hb : Nat.blt y b with
    | true =>
      rw [hb] at h
      rcases List.mem_cons.1 hx with e | e
      · rw [e]; exact .inl (Nat.le_of_ble_eq_true hb)
      · exact ih h x e
    | false =>
      rw [hb] at h
      obtain ⟨h1, h2⟩ := bif_true h
      rcases List.mem_cons.1 hx with e | e
      · rw [e]; exact .inr (soEq_ok h1)
      · exact ih h2 x e
noncomputable def indB (a b : Rc) : Bool :=
  bif a.full then (bif b.full then false else (bif b.w then isNil b.ids else allKept a.bar a.vw a.ou b.ids))
  else bif b.full then (bif a.w then false else allKept b.bar b.vw b.ou a.ids)
  else bif a.w || b.w then allOff b.ids a.ids a.nx a.nx' else true
noncomputable def pairsOk (rs : Tr Rc) : List (Nat × Nat) → Bool
  | [] => true
  | x :: r => match rs.get x.1 with
    | none => pairsOk rs r
    | some a => match rs.get x.2 with
      | none => pairsOk rs r
      | some b => bif indB a b then pairsOk rs r else false
theorem allLt_ok {l : List Nat} {b : Nat} (h : allLt l b = true) : ∀ x ∈ l, x < b := by
  induction l with
  | nil => intro x hx; cases hx
  | cons y r ih =>
    obtain ⟨h1, h2⟩ := bif_true h
    intro x hx
    rcases List.mem_cons.1 hx with e | e
    · rw [e]; exact Nat.le_of_ble_eq_true h1
    · exact ih h2 x e
theorem offB_ok {x : Nat} {l : List Nat} (h : offB x l = true) : x ∉ l := by
  induction l with
  | nil => exact List.not_mem_nil
  | cons y r ih =>
    rw [offB, Tr.bif_beq] at h
    split at h
    · cases h
    · rename_i e
      intro hx
      rcases List.mem_cons.1 hx with q | q
      · exact e q
      · exact ih h q
theorem allOff_ok {l m : List Nat} {a b : Nat} (h : allOff l m a b = true) : ∀ x ∈ l, x ∉ m ∧ (x < a ∨ b ≤ x) := by
  induction l with
  | nil => intro x hx; cases hx
  | cons y r ih =>
    obtain ⟨h1, h2⟩ := bif_true h
    simp only [Bool.and_eq_true, Bool.or_eq_true] at h1
    intro x hx
    rcases List.mem_cons.1 hx with e | e
    · rw [e]
      exact ⟨offB_ok h1.1, h1.2.imp Nat.le_of_ble_eq_true Nat.le_of_ble_eq_true⟩
    · exact ih h2 x e
theorem pairsOk_ok {rs : Tr Rc} {l : List (Nat × Nat)} (h : pairsOk rs l = true) : ∀ i j a b, (i, j) ∈ l → rs.get i = some a → rs.get j = some b → indB a b = true := by
  induction l with
  | nil => intro i j a b hm; cases hm
  | cons x r ih =>
    intro i j a b hm ha hb
    rw [pairsOk] at h
    rcases List.mem_cons.1 hm with e | e
    · subst e
      simp only [ha, hb] at h
      exact (bif_true h).1
    · refine ih ?_ i j a b e ha hb
      split at h
      · exact h
      · split at h
        · exact h
        · exact (bif_true h).2

noncomputable def putRK (rs : Tr Rc) (j : Nat) (rc : Option Rc) (k : Tr Rc → Bool) : Bool :=
  match rc with
  | none => k rs
  | some c => rs.putK j (some c) k
noncomputable def drawC (P : Program) (N : Nat) (ops : Array Oper) (l : List Oper) : Nat → Cl (CallK → Tr SV → HS → Tr Rc → (Tr SV → HS → Tr Rc → Bool) → Bool) :=
  List.rec (fun _ => ⟨fun _ fr h rs k => k fr h rs⟩) (fun o _ ih j => (wantC ops o).then fun wc => (opVF P o).then fun g => (dstC N o.dst).then fun pd => natC (j + 1) fun j' =>
    ⟨fun call fr h rs k => wc fr (g call fr h fun sv h' rc => pd sv fr fun fr' => putRK rs j rc fun rs' => (ih j').f call fr' h' rs' k) (pd (.lit undef) fr fun fr' => (ih j').f call fr' h rs k)⟩) l
theorem drawC_step {P : Program} {N : Nat} {ops : Array Oper} {o : Oper} {l : List Oper} {j : Nat} {call : CallK} {fr : Tr SV} {h : HS} {rs : Tr Rc} {k : Tr SV → HS → Tr Rc → Bool} (hk : (drawC P N ops (o :: l) j).f call fr h rs k = true) :
    (wants ops o fr = some true ∧ (opVF P o).f call fr h (fun sv h' rc => putDK N o.dst sv fr fun fr' => putRK rs j rc fun rs' => (drawC P N ops l (j + 1)).f call fr' h' rs' k) = true) ∨ (wants ops o fr = some false ∧ putDK N o.dst (.lit undef) fr (fun fr' => (drawC P N ops l (j + 1)).f call fr' h rs k) = true) := by
  change ((wantC ops o).then fun wc => (opVF P o).then fun g => (dstC N o.dst).then fun pd => natC (j + 1) fun j' =>
    (⟨fun call fr h rs k => wc fr (g call fr h fun sv h' rc => pd sv fr fun fr' => putRK rs j rc fun rs' => (drawC P N ops l j').f call fr' h' rs' k) (pd (.lit undef) fr fun fr' => (drawC P N ops l j').f call fr' h rs k)⟩ : Cl (CallK → Tr SV → HS → Tr Rc → (Tr SV → HS → Tr Rc → Bool) → Bool))).f call fr h rs k = true at hk
  rw [Cl.then_eq, Cl.then_eq, Cl.then_eq, natC_eq] at hk
  simp only [dstC_eq] at hk
  obtain ⟨b, e, hb⟩ := wantC_ok hk
  cases b with
  | true => exact .inl ⟨e, hb⟩
  | false => exact .inr ⟨e, hb⟩
def anyB {α : Type} : List α → Bool
  | [] => false
  | _ => true
noncomputable def drawRC (P : Program) (N : Nat) (ops : Array Oper) : Cl (CallK → Tr SV → HS → (Tr SV → HS → Bool) → Bool) :=
  (drawC P N ops ops.toList 0).then fun g => match dynPairs ops with
    | [] => ⟨fun call fr h k => g call fr h .e fun fr' h' _ => k fr' h'⟩
    | x :: r => ⟨fun call fr h k => g call fr h .e fun fr' h' rs => bif pairsOk rs (x :: r) then k fr' h' else false⟩
structure SF (P : Program) (W0 : World) (N : Nat) (ops : Array Oper) (m : Nat) (p : Pl) (fr fr' : Tr SV) (h h' : HS) (rc : Option Rc) : Prop where
  pl : PlOk P W0 N ops m fr p
  lives : p.lives
  sub : ∀ id o, p.view id = some o → h.hp.get id = some o
  eq : ∀ id, h'.hp.get id = ov p h.hp.get id
  nx : p.nx = h.nx
  nx' : p.nx' = h'.nx
  ne : p.ne = h.ne
  ne' : p.ne' = h'.ne
  bar : h.bar ≤ p.bar
  rcok : RcOk rc p
  pure : ∀ o, ops[m]? = some o → cls o.op = 0 → rc = none
  read : ∀ o, ops[m]? = some o → cls o.op = 1 → ∀ r, rc = some r → r.w = false ∧ r.full = false
  frame : fr' = putD (dstOf ops m) p.sv fr
  inN : inN N (dstOf ops m)
  goes : Goes h h'
theorem dstOf_some {ops : Array Oper} {j : Nat} {o : Oper} (h : ops[j]? = some o) : dstOf ops j = o.dst := by unfold dstOf; rw [h]; rfl
theorem drawC_ok {call : CallK} (hc : CallSound P W0 call) {N : Nat} {ops : Array Oper} (l : List Oper) : ∀ (j : Nat) (fr : Tr SV) (h : HS) (rs : Tr Rc) (k : Tr SV → HS → Tr Rc → Bool), j ≤ ops.size → (∀ m, l[m]? = ops[j + m]?) → (∀ m, j ≤ m → rs.get m = none) →
    (drawC P N ops l j).f call fr h rs k = true → ∃ (p : Nat → Pl) (F : Nat → Tr SV) (H : Nat → HS) (R : Tr Rc), k (F ops.size) (H ops.size) R = true ∧ F j = fr ∧ H j = h ∧ (∀ m, m < j → R.get m = rs.get m) ∧ ∀ m, j ≤ m → m < ops.size → SF P W0 N ops m (p m) (F m) (F (m + 1)) (H m) (H (m + 1)) (R.get m) := by
  induction l with
  | nil =>
    intro j fr h rs k hj hl _ hk
    have h0 : ops[j]? = none := by simpa using (hl 0).symm
    have : ops.size ≤ j := by simpa using h0
    have : j = ops.size := Nat.le_antisymm hj this
    subst this
    exact ⟨fun _ => ⟨Tr.e.get, Tr.e.get, .lit undef, 0, 0, 0, 0, 0⟩, fun _ => fr, fun _ => h, rs, hk, rfl, rfl, fun _ _ => rfl, fun m a b => absurd b (by omega)⟩
  | cons o l ih =>
    intro j fr h rs k hj hl hrs hk
    have h0 : ops[j]? = some o := by simpa using (hl 0).symm
    have hjn : j < ops.size := (Array.getElem?_eq_some_iff.1 h0).1
    have hd := dstOf_some h0
    have hl' : ∀ m, l[m]? = ops[j + 1 + m]? := fun m => by have := hl (m + 1); simpa [Nat.add_assoc, Nat.add_comm 1 m] using this
    have go : ∀ (p0 : Pl) (fr1 : Tr SV) (h1 : HS) (rs1 : Tr Rc) (rc : Option Rc), (∀ m, rs1.get m = if m = j then rc else rs.get m) → SF P W0 N ops j p0 fr fr1 h h1 rc → (drawC P N ops l (j + 1)).f call fr1 h1 rs1 k = true →
        ∃ (p : Nat → Pl) (F : Nat → Tr SV) (H : Nat → HS) (R : Tr Rc), k (F ops.size) (H ops.size) R = true ∧ F j = fr ∧ H j = h ∧ (∀ m, m < j → R.get m = rs.get m) ∧ ∀ m, j ≤ m → m < ops.size → SF P W0 N ops m (p m) (F m) (F (m + 1)) (H m) (H (m + 1)) (R.get m) := by
      intro p0 fr1 h1 rs1 rc hr sf hk
      obtain ⟨p, F, H, R, k1, f1, h1', r1, s1⟩ := ih (j + 1) fr1 h1 rs1 k hjn hl' (fun m hm => by rw [hr, if_neg (by omega)]; exact hrs m (by omega)) hk
      refine ⟨fun m => if m = j then p0 else p m, fun m => if m = j then fr else F m, fun m => if m = j then h else H m, R, ?_, if_pos rfl, if_pos rfl, fun m hm => ?_, fun m a b => ?_⟩
      · simp only
        rw [if_neg (by omega), if_neg (by omega)]
        exact k1
      · rw [r1 m (by omega), hr, if_neg (by omega)]
      · by_cases e : m = j
        · subst e
          simp only [if_true]
          rw [if_neg (by omega), if_neg (by omega), f1, h1', r1 m (by omega), hr, if_pos rfl]
          exact sf
        · simp only
          rw [if_neg e, if_neg e, if_neg e, if_neg (by omega), if_neg (by omega)]
          exact s1 m (by omega) b
    rcases drawC_step hk with ⟨hw, hk⟩ | ⟨hw, hk⟩
    · obtain ⟨sv, h1, rc, p0, hk, psv, g, vo⟩ := opVF_ok (W0 := W0) hc hk
      obtain ⟨hk, hN⟩ := putDK_ok hk
      have hk2 : ∃ rs1 : Tr Rc, (∀ m, rs1.get m = if m = j then rc else rs.get m) ∧ (drawC P N ops l (j + 1)).f call (putD o.dst sv fr) h1 rs1 k = true := by
        unfold putRK at hk
        split at hk
        · exact ⟨rs, fun m => by
            by_cases e : m = j
            · rw [if_pos e, e]; exact hrs j (Nat.le_refl _)
            · rw [if_neg e], hk⟩
        · rename_i c
          simp only [Tr.putK_eq] at hk
          exact ⟨_, fun m => Tr.get_put _ _ _ _, hk⟩
      obtain ⟨rs1, hr, hk⟩ := hk2
      refine go p0 _ h1 rs1 rc hr ⟨fun ro fr' E a w hs r fe fo K Q hK => ?_, vo.lives, vo.sub, vo.eq, vo.nx, vo.nx', vo.ne, vo.ne', vo.bar, vo.rcok, fun o' ho' => ?_, fun o' ho' => ?_, by rw [hd, psv], by rw [hd]; exact hN, g⟩ hk
      · unfold wpOpIn
        rw [h0]
        simp only
        rw [wants_ok hw (hs o h0).2 fo, if_pos rfl]
        rw [hd] at hK
        exact (vo.run ro fr' E N a w (hs o h0).1 r fe fo K Q hK)
      · rw [h0] at ho'
        obtain rfl := Option.some.inj ho'
        exact vo.pure
      · rw [h0] at ho'
        obtain rfl := Option.some.inj ho'
        exact vo.read
    · obtain ⟨hk, hN⟩ := putDK_ok hk
      refine go ⟨Tr.e.get, Tr.e.get, .lit undef, h.bar, h.nx, h.nx, h.ne, h.ne⟩ _ h rs none (fun m => ?_) ⟨fun ro fr' E a w hs r fe fo K Q hK => ?_, fun id o e => (by cases e), fun id o e => (by cases e), fun id => (ov_self rfl).symm, rfl, rfl, rfl, rfl, Nat.le_refl _, fun id => ⟨rfl, rfl⟩, fun _ _ _ => rfl, fun _ _ _ r e => (by cases e), by rw [hd], by rw [hd]; exact hN, Goes.refl h⟩ hk
      · by_cases e : m = j
        · rw [if_pos e, e]; exact hrs j (Nat.le_refl _)
        · rw [if_neg e]
      · unfold wpOpIn
        rw [h0]
        simp only
        rw [wants_ok hw (hs o h0).2 fo, if_neg (by simp)]
        rw [hd] at hK
        exact ⟨fun _ _ => trivial, hK E undef w rfl r (Step.refl _ _ _ _ _ _)⟩
end Go.Proofs.YtgoccionghehoaaGreatDoor.Ev
namespace Go.Proofs.YtgoccionghehoaaGreatDoor.Ev
open Go

variable [GTab] {P : Program} {W0 : World} [GOk W0] {N : Nat} {ops : Array Oper}
/-- What the pair's looked-at facts give. -/
structure Apt (p q : Pl) : Prop where
  a : ∀ id, p.out id ≠ p.view id → q.view id = none ∧ q.out id = none
  b : ∀ id, q.out id ≠ q.view id → p.view id = none ∧ p.out id = none
theorem mod_of {p : Pl} (hl : p.lives) {id : Nat} (h : p.out id ≠ p.view id) : (p.nx ≤ id ∧ id < p.nx') ∨ p.view id ≠ none := by
  cases hv : p.view id with
  | some o => exact .inr (by simp)
  | none =>
    cases ho : p.out id with
    | none => exact absurd (ho.trans hv.symm) h
    | some o =>
      rcases hl id o ho with q | ⟨o0, q⟩
      · exact .inl q
      · rw [hv] at q; cases q
theorem out_of {p : Pl} (hl : p.lives) {id : Nat} (h : p.out id ≠ none) : (p.nx ≤ id ∧ id < p.nx') ∨ p.view id ≠ none := by
  cases ho : p.out id with
  | none => exact absurd ho h
  | some o =>
    rcases hl id o ho with q | ⟨o0, q⟩
    · exact .inl q
    · exact .inr (by rw [q]; simp)
theorem none_of {α : Type} {x : Option α} (h : ¬ x ≠ none) : x = none := Classical.byContradiction h
/-- The pair: p stands first in the text. -/
theorem apt_of {p q : Pl} {a b : Rc} {nxN : Nat} (hp : p.lives) (hq : q.lives) (ra : RcOk (some a) p) (rb : RcOk (some b) q) (h : indB a b = true) (h1 : p.nx ≤ p.nx') (h2 : p.nx' ≤ q.nx) (h3 : q.nx ≤ q.nx') (h4 : q.nx' ≤ nxN)
    (hno : ∀ id, p.view id ≠ none → ¬ (p.nx ≤ id ∧ id < nxN)) : Apt p q := by
  obtain ⟨a1, a2, al, af⟩ := ra
  obtain ⟨b1, b2, bl, bf⟩ := rb
  unfold indB at h
  cases hfa : a.full with
  | true =>
    rw [hfa, cond_true] at h
    cases hfb : b.full with
    | true => rw [hfb] at h; cases h
    | false =>
      rw [hfb, cond_false] at h
      obtain ⟨v1, v2, v3⟩ := bl hfb
      have af := af hfa
      -- what b sees is not changed by a
      have see : ∀ id, p.out id ≠ p.view id → q.view id = none := fun id hm => by
        refine none_of fun hv => ?_
        have hid := v1 id hv
        cases hw : b.w with
        | true =>
          rw [hw, cond_true] at h
          cases hi : b.ids with
          | nil => rw [hi] at hid; cases hid
          | cons x r => rw [hi] at h; cases h
        | false =>
          rw [hw, cond_false] at h
          rcases allKept_ok h id hid with q | q
          · have := af.1 id hm
            omega
          · exact hm (((af.2 id).2.trans q.symm).trans (af.2 id).1.symm)
      have old : ∀ id, q.nx ≤ id → id < q.nx' → p.view id = none ∧ p.out id = none := fun id x y => by
        have hv : p.view id = none := none_of fun hv => hno id hv ⟨by omega, by omega⟩
        refine ⟨hv, none_of fun ho => ?_⟩
        rcases out_of hp ho with z | z
        · omega
        · exact z hv
      refine ⟨fun id hm => ⟨see id hm, none_of fun ho => ?_⟩, fun id hm => ?_⟩
      · rcases out_of hq ho with z | z
        · obtain ⟨o1, o2⟩ := old id z.1 z.2
          exact hm (o2.trans o1.symm)
        · exact z (see id hm)
      · cases hw : b.w with
        | false => exact absurd (v3 hw id) hm
        | true =>
          rw [hw, cond_true] at h
          rcases mod_of hq hm with z | z
          · exact old id z.1 z.2
          · have hid := v1 id z
            cases hi : b.ids with
            | nil => rw [hi] at hid; cases hid
            | cons x r => rw [hi] at h; cases h
  | false =>
    rw [hfa, cond_false] at h
    obtain ⟨u1, u2, u3⟩ := al hfa
    cases hfb : b.full with
    | true =>
      rw [hfb, cond_true] at h
      have bf := bf hfb
      cases hw : a.w with
      | true => rw [hw] at h; cases h
      | false =>
        rw [hw, cond_false] at h
        have u3 := u3 hw
        refine ⟨fun id hm => absurd (u3 id) hm, fun id hm => ?_⟩
        have hb := bf.1 id hm
        have hv : p.view id = none := none_of fun hv => by
          rcases allKept_ok h id (u1 id hv) with q | q
          · omega
          · exact hm (((bf.2 id).2.trans q.symm).trans (bf.2 id).1.symm)
        exact ⟨hv, (u3 id).trans hv⟩
    | false =>
      rw [hfb, cond_false] at h
      obtain ⟨v1, v2, v3⟩ := bl hfb
      cases hw : (a.w || b.w) with
      | false =>
        rw [Bool.or_eq_false_iff] at hw
        exact ⟨fun id hm => absurd (u3 hw.1 id) hm, fun id hm => absurd (v3 hw.2 id) hm⟩
      | true =>
        rw [hw, cond_true] at h
        have off := allOff_ok h
        have pin : ∀ id, ((p.nx ≤ id ∧ id < p.nx') ∨ p.view id ≠ none) → id ∉ b.ids ∧ id < p.nx' := fun id z => by
          rcases z with z | z
          · refine ⟨fun hb => ?_, z.2⟩
            have := (off id hb).2
            rw [a1, a2] at this
            omega
          · have ha := u1 id z
            exact ⟨fun hb => (off id hb).1 ha, by have := u2 id ha; omega⟩
        have qin : ∀ id, ((q.nx ≤ id ∧ id < q.nx') ∨ q.view id ≠ none) → id ∈ b.ids ∨ q.nx ≤ id := fun id z => by
          rcases z with z | z
          · exact .inr z.1
          · exact .inl (v1 id z)
        have no : ∀ id, ((p.nx ≤ id ∧ id < p.nx') ∨ p.view id ≠ none) → ((q.nx ≤ id ∧ id < q.nx') ∨ q.view id ≠ none) → False := fun id z z' => by
          have z1 := pin id z
          rcases qin id z' with y | y
          · exact z1.1 y
          · omega
        refine ⟨fun id hm => ⟨none_of fun hv => no id (mod_of hp hm) (.inr hv), none_of fun ho => no id (mod_of hp hm) (out_of hq ho)⟩, fun id hm => ⟨none_of fun hv => no id (.inr hv) (mod_of hq hm), none_of fun ho => no id (out_of hp ho) (mod_of hq hm)⟩⟩
theorem apt_none_left {p q : Pl} (h : RcOk none p) : Apt p q := ⟨fun id hm => absurd ((h id).2.trans (h id).1.symm) hm, fun id _ => h id⟩
theorem apt_none_right {p q : Pl} (h : RcOk none q) : Apt p q := ⟨fun id _ => h id, fun id hm => absurd ((h id).2.trans (h id).1.symm) hm⟩

theorem last_succ {β : Type} {w : Nat → Option β} {n i : Nat} (hi : i < n) (b : β) : last w (fun j => decide (j < i + 1)) (List.range n) b = (w i).getD (last w (fun j => decide (j < i)) (List.range n) b) :=
  last_put hi (fun j => by
    by_cases e : j = i
    · subst e; simp
    · rw [if_neg e]
      by_cases q : j < i
      · simp [q, Nat.lt_succ_of_lt q]
      · simp [q]; omega) (fun j h1 _ h2 => by simp at h2; omega) b

/-- The region, from every frame and world that are so, comes to what is given. -/
def RegOk (P : Program) (W0 : World) (N : Nat) (ops : Array Oper) (draw : Bool) (fr : Tr SV) (h : HS) (fr' : Tr SV) (h' : HS) : Prop :=
  ∀ ro id E a w, Rel W0 E h.hp.get w → Free E h.nx h'.nx h.ne h'.ne → FrOk E fr N a → ∀ Q : Exit → Act → World → Prop,
    (∀ E' a' w', Rel W0 E' h'.hp.get w' → Step h.bar h.hp.get h.nx h'.nx h.ne h'.ne E E' w w' → FrOk E' fr' N a' → Q .normal a' w') → (Code.region id ops draw).wpIn (Fw ro) 0 P Q a w

theorem reg_of_sf (hm : P.follows .mixedOrders = true) (hok : drawOk ops = true) {p : Nat → Pl} {F : Nat → Tr SV} {H : Nat → HS} {R : Tr Rc} (S : ∀ m, m < ops.size → SF P W0 N ops m (p m) (F m) (F (m + 1)) (H m) (H (m + 1)) (R.get m))
    (hpairs : ∀ i j a b, (i, j) ∈ dynPairs ops → R.get i = some a → R.get j = some b → indB a b = true) : Goes (H 0) (H ops.size) ∧ RegOk P W0 N ops true (F 0) (H 0) (F ops.size) (H ops.size) := by
  have goes : ∀ m, m ≤ ops.size → Goes (H 0) (H m) := by
    intro m
    induction m with
    | zero => intro _; exact Goes.refl _
    | succ m ih => intro hm; exact (ih (by omega)).trans (S m hm).goes
  have mono : ∀ d m, m + d ≤ ops.size → (H m).nx ≤ (H (m + d)).nx ∧ (H m).ne ≤ (H (m + d)).ne := by
    intro d
    induction d with
    | zero => intro m _; exact ⟨Nat.le_refl _, Nat.le_refl _⟩
    | succ d ih =>
      intro m hm
      have h1 := ih m (by omega)
      have h2 := (S (m + d) (by omega)).goes
      exact ⟨Nat.le_trans h1.1 h2.nx, Nat.le_trans h1.2 h2.ne⟩
  have mono' : ∀ i j, i ≤ j → j ≤ ops.size → (H i).nx ≤ (H j).nx ∧ (H i).ne ≤ (H j).ne := fun i j h1 h2 => by
    have := mono (j - i) i (by omega)
    rwa [show i + (j - i) = j by omega] at this
  have lexF : ∀ i, i ≤ ops.size → ∀ t, (F i).get t = last (wF ops p t) (fun j => decide (j < i)) (List.range ops.size) ((F 0).get t) := by
    intro i
    induction i with
    | zero => intro _ t; exact (last_same _ _ fun j _ hu => by simp at hu).symm
    | succ i ih =>
      intro hi t
      rw [last_succ hi, ← ih (by omega) t, (S i hi).frame, get_putD]
      rfl
  have lexH : ∀ i, i ≤ ops.size → ∀ id, (H i).hp.get id = last (wH p id) (fun j => decide (j < i)) (List.range ops.size) ((H 0).hp.get id) := by
    intro i
    induction i with
    | zero => intro _ id; exact (last_same _ _ fun j _ hu => by simp at hu).symm
    | succ i ih =>
      intro hi id
      rw [last_succ hi, ← ih (by omega) id, (S i hi).eq]
      unfold ov wH
      split <;> rfl
  refine ⟨goes _ (Nat.le_refl _), fun ro id E a w r fe fo Q hQ => ?_⟩
  have no0 : ∀ i, i ≤ ops.size → ∀ id, (H i).hp.get id ≠ none → ¬ ((H i).nx ≤ id ∧ id < (H ops.size).nx) := fun i hi id hne hin => by
    cases ho : (H i).hp.get id with
    | none => exact hne ho
    | some o =>
      rcases (goes i hi).live id o ho with q | ⟨o0, q⟩
      · omega
      · obtain ⟨s, e, _⟩ := r.obj id o0 q
        have := (goes i hi).nx
        rw [fe.at_ id (by omega) hin.2] at e
        cases e
  have apt : ∀ i j, i < j → j < ops.size → ¬ Bef ops i j → Apt (p i) (p j) := by
    intro i j hij hj hn
    have si := S i (by omega)
    have sj := S j hj
    have oi : ops[i]? = some ops[i] := Array.getElem?_eq_getElem (by omega)
    have oj : ops[j]? = some ops[j] := Array.getElem?_eq_getElem hj
    have ri := si.rcok
    have rj := sj.rcok
    cases ha : R.get i with
    | none => rw [ha] at ri; exact apt_none_left ri
    | some a =>
      cases hb : R.get j with
      | none => rw [hb] at rj; exact apt_none_right rj
      | some b =>
        rw [ha] at ri
        rw [hb] at rj
        have c1 : cls (ops[i]'(by omega)).op ≠ 0 := fun e => by
          have := si.pure _ oi e
          rw [ha] at this
          cases this
        have c2 : cls ops[j].op ≠ 0 := fun e => by
          have := sj.pure _ oj e
          rw [hb] at this
          cases this
        cases hmeet : meet (cls (ops[i]'(by omega)).op) (cls ops[j].op) with
        | true =>
          have := hpairs i j a b (dynPairs_mem oi oj hij hmeet hn) ha hb
          refine apt_of (nxN := (H ops.size).nx) si.lives sj.lives ri rj this ?_ ?_ ?_ ?_ fun id hv => ?_
          · rw [si.nx, si.nx']; exact si.goes.nx
          · rw [si.nx', sj.nx]; exact (mono' (i + 1) j hij (by omega)).1
          · rw [sj.nx, sj.nx']; exact sj.goes.nx
          · rw [sj.nx']; exact (mono' (j + 1) _ (by omega) (Nat.le_refl _)).1
          · rw [si.nx]
            refine no0 i (by omega) id fun hz => hv ?_
            cases hx : (p i).view id with
            | none => rfl
            | some o =>
              have := si.sub id o hx
              rw [hz] at this
              cases this
        | false =>
          have e1 : cls (ops[i]'(by omega)).op = 1 ∧ cls ops[j].op = 1 := by
            revert hmeet c1 c2
            generalize cls (ops[i]'(by omega)).op = x
            generalize cls ops[j].op = y
            intro c1 c2 hmeet
            unfold meet at hmeet
            split at hmeet
            · exact absurd rfl c1
            · exact absurd rfl c2
            · exact ⟨rfl, rfl⟩
            · cases hmeet
          obtain ⟨w1, f1⟩ := si.read _ oi e1.1 a ha
          obtain ⟨w2, f2⟩ := sj.read _ oj e1.2 b hb
          exact ⟨fun id hm => absurd ((ri.2.2.1 f1).2.2 w1 id) hm, fun id hm => absurd ((rj.2.2.1 f2).2.2 w2 id) hm⟩
  have D : Draw P W0 N ops p F (H 0).hp.get (F 0) (H 0).bar (H 0).nx (H ops.size).nx (H 0).ne (H ops.size).ne :=
    { ok := fun i hi => (S i hi).pl
      lives := fun i hi => (S i hi).lives
      lexF := fun i hi t => lexF i (by omega) t
      lexH := fun i hi id o hv => by
        rw [← lexH i (by omega) id]
        exact (S i hi).sub id o hv
      ind := fun i j hi hj hne h1 h2 => by
        rcases Nat.lt_or_gt_of_ne hne with q | q
        · exact (apt i j q hj h1).a
        · exact (apt j i q hi h2).b
      apart := drawOk_apart hok
      inN := fun i hi => (S i hi).inN
      nx := fun i j hij hj => by
        rw [(S i (by omega)).nx', (S j hj).nx]
        exact (mono' (i + 1) j hij (by omega)).1
      ne := fun i j hij hj => by
        rw [(S i (by omega)).ne', (S j hj).ne]
        exact (mono' (i + 1) j hij (by omega)).2
      box := fun i hi => by
        have s := S i hi
        rw [s.nx, s.nx', s.ne, s.ne']
        have m1 := mono' 0 i (by omega) (by omega)
        have m2 := mono' (i + 1) ops.size (by omega) (Nat.le_refl _)
        refine ⟨m1.1, s.goes.nx, m2.1, m1.2, s.goes.ne, m2.2, ?_⟩
        rw [← (goes i (by omega)).bar]
        exact s.bar
      edge := drawOk_edge hok }
  refine draw_region hm D r fe fo fun E' a' w' r' st f' => hQ E' a' w' ?_ st (f'.of_get fun t => ?_)
  · have e : gU ops p (H 0).hp.get (fun _ => true) = (H ops.size).hp.get := by
      funext id
      rw [lexH ops.size (Nat.le_refl _) id]
      exact last_congr _ _ fun j hj _ => by simpa using List.mem_range.1 hj
    rw [← e]
    exact r'
  · rw [get_frL, lexF ops.size (Nat.le_refl _) t]
    exact last_congr _ _ fun j hj _ => by simpa using List.mem_range.1 hj
theorem drawRC_ok {call : CallK} (hc : CallSound P W0 call) (hm : P.follows .mixedOrders = true) (hok : drawOk ops = true) {K : Nat} (hin : drawIn K ops ops.toList = true) {fr frT : Tr SV} (ag : ∀ t, Nat.testBit K t = true → opd fr (.tmp t) = opd frT (.tmp t)) {h : HS} {k : Tr SV → HS → Bool} (hk : (drawRC P N ops).f call fr h k = true) :
    ∃ fr' frT' h', k fr' h' = true ∧ (∀ t, Nat.testBit K t = true → opd fr' (.tmp t) = opd frT' (.tmp t)) ∧ Goes h h' ∧ RegOk P W0 N ops true frT h frT' h' := by
  unfold drawRC at hk
  rw [Cl.then_eq] at hk
  have fin : ∀ (k' : Tr SV → HS → Tr Rc → Bool), (drawC P N ops ops.toList 0).f call fr h .e k' = true → (∀ fr' h' R, k' fr' h' R = true → k fr' h' = true ∧ ∀ i j a b, (i, j) ∈ dynPairs ops → R.get i = some a → R.get j = some b → indB a b = true) →
      ∃ fr' frT' h', k fr' h' = true ∧ (∀ t, Nat.testBit K t = true → opd fr' (.tmp t) = opd frT' (.tmp t)) ∧ Goes h h' ∧ RegOk P W0 N ops true frT h frT' h' := by
    intro k' hk hk'
    obtain ⟨p, F, H, R, k1, f0, h0, _, S⟩ := drawC_ok (W0 := W0) hc ops.toList 0 fr h .e k' (Nat.zero_le _) (by simp) (fun m _ => rfl) hk
    obtain ⟨k2, k3⟩ := hk' _ _ _ k1
    let FT : Nat → Tr SV := fun n => Nat.rec frT (fun m x => putD (dstOf ops m) (p m).sv x) n
    have agF : ∀ m, m ≤ ops.size → ∀ t, Nat.testBit K t = true → opd (F m) (.tmp t) = opd (FT m) (.tmp t) := by
      intro m
      induction m with
      | zero => intro _ t ht; rw [f0]; exact ag t ht
      | succ m ih =>
        intro hm t ht
        rw [(S m (Nat.zero_le _) (by omega)).frame]
        show opd (putD (dstOf ops m) (p m).sv (F m)) (.tmp t) = opd (putD (dstOf ops m) (p m).sv (FT m)) (.tmp t)
        cases hd : dstOf ops m with
        | none => exact ih (by omega) t ht
        | some d =>
          show opd ((F m).put d (some (p m).sv)) (.tmp t) = opd ((FT m).put d (some (p m).sv)) (.tmp t)
          rw [opd_put, opd_put]
          split
          · rfl
          · exact ih (by omega) t ht
    have ST : ∀ m, m < ops.size → SF P W0 N ops m (p m) (FT m) (FT (m + 1)) (H m) (H (m + 1)) (R.get m) := fun m hm => by
      have s := S m (Nat.zero_le _) hm
      refine { s with pl := fun ro fr' E a w hs => s.pl ro fr' E a w fun o ho => ?_, frame := rfl }
      obtain ⟨q1, q2⟩ := drawIn_ok hin (agF m (by omega)) o (by
        have := List.mem_of_getElem? (l := ops.toList) (i := m) (a := o) (by simpa using ho)
        exact this)
      obtain ⟨p1, p2⟩ := hs o ho
      exact ⟨fun x hx => (q1 x hx).trans (p1 x hx), fun g want t a b => (q2 g want t a b).trans (p2 g want t a b)⟩
    have := reg_of_sf hm hok ST k3
    rw [h0] at this
    exact ⟨_, _, _, k2, agF _ (Nat.le_refl _), this⟩
  cases hd : dynPairs ops with
  | nil =>
    rw [hd] at hk
    refine fin _ hk fun fr' h' R e => ⟨e, fun i j a b hmem => ?_⟩
    rw [hd] at hmem
    cases hmem
  | cons x r =>
    rw [hd] at hk
    refine fin _ hk fun fr' h' R e => ?_
    obtain ⟨e1, e2⟩ := bif_true e
    rw [← hd] at e1
    exact ⟨e2, pairsOk_ok e1⟩
/-- From the frame itself. -/
theorem drawRD_ok {call : CallK} (hc : CallSound P W0 call) (hm : P.follows .mixedOrders = true) (hok : drawOk ops = true) {fr : Tr SV} {h : HS} {k : Tr SV → HS → Bool} (hk : (drawRC P N ops).f call fr h k = true) :
    ∃ fr' h', k fr' h' = true ∧ Goes h h' ∧ RegOk P W0 N ops true fr h fr' h' := by
  unfold drawRC at hk
  rw [Cl.then_eq] at hk
  have fin : ∀ (k' : Tr SV → HS → Tr Rc → Bool), (drawC P N ops ops.toList 0).f call fr h .e k' = true → (∀ fr' h' R, k' fr' h' R = true → k fr' h' = true ∧ ∀ i j a b, (i, j) ∈ dynPairs ops → R.get i = some a → R.get j = some b → indB a b = true) →
      ∃ fr' h', k fr' h' = true ∧ Goes h h' ∧ RegOk P W0 N ops true fr h fr' h' := by
    intro k' hk hk'
    obtain ⟨p, F, H, R, k1, f0, h0, _, S⟩ := drawC_ok (W0 := W0) hc ops.toList 0 fr h .e k' (Nat.zero_le _) (by simp) (fun m _ => rfl) hk
    obtain ⟨k2, k3⟩ := hk' _ _ _ k1
    have := reg_of_sf hm hok (fun m hm => S m (Nat.zero_le _) hm) k3
    rw [h0, f0] at this
    exact ⟨_, _, k2, this⟩
  cases hd : dynPairs ops with
  | nil =>
    rw [hd] at hk
    refine fin _ hk fun fr' h' R e => ⟨e, fun i j a b hmem => ?_⟩
    rw [hd] at hmem
    cases hmem
  | cons x r =>
    rw [hd] at hk
    refine fin _ hk fun fr' h' R e => ?_
    obtain ⟨e1, e2⟩ := bif_true e
    rw [← hd] at e1
    exact ⟨e2, pairsOk_ok e1⟩
end Go.Proofs.YtgoccionghehoaaGreatDoor.Ev
namespace Go.Proofs.YtgoccionghehoaaGreatDoor.Ev
open Go Go.RowKit

variable [GTab] {P : Program} {W0 : World} [GOk W0]
noncomputable def asDf (so : SO) (d : Bool) : Bool := SO.rec (fun _ _ _ => false) (fun _ _ => false) (fun _ _ _ _ _ _ _ _ => false) d (fun _ => false) (fun _ => false) so
theorem asDf_ok {so : SO} {d : Bool} (h : asDf so d = true) : so = .df ∧ d = true := by
  cases so with
  | df => exact ⟨rfl, h⟩
  | row => cases h
  | mp => cases h
  | lp => cases h
  | ml => cases h
  | any => cases h
theorem Rel.taken {E : Env} {g : Tr SO} {w : World} (r : Rel W0 E g.get w) {D : Nat} {so : SO} (hD : g.get D = some so) {s : Spot} (hs : E.at_ D = some s) (ob : Obj) : Rel W0 E (g.put D none).get (w.putObj s.blk ob) := by
  obtain ⟨s', a, b, c⟩ := r.obj D _ hD
  obtain rfl := Option.some.inj (a.symm.trans hs)
  have hoth : ∀ j, j ≠ s'.blk → (w.putObj s'.blk ob).heap[j]? = w.heap[j]? := fun j hj => World.putObj_heap_other hj
  have hb := r.below.size
  refine ⟨⟨r.below.os, r.below.tape, r.below.output, by simpa using hb, fun j hj => (hoth j (by omega)).trans (r.below.block j hj)⟩, fun j o' e => ?_, fun j j' o1 o2 p1 p2 g1 g2 g3 g4 g5 => ?_, fun j A z hz => (r.fz j A z hz).of_heap fun a' ha => hoth _ fun eq => r.frz j a' z D _ s' (by rw [← ha]; exact hz) hD a eq.symm, fun j A z j' o t' hz g1 ht' => ?_⟩
  · rw [Tr.get_put] at e
    by_cases hj : j = D
    · rw [if_pos hj] at e; cases e
    · rw [if_neg hj] at e
      obtain ⟨sj, k1, k2, k3⟩ := r.obj j o' e
      exact ⟨sj, k1, k2, k3.of_heap (hoth _ fun eq => hj (r.inj j D o' _ sj s' e hD k1 a eq))⟩
  · rw [Tr.get_put] at g1 g2
    split at g1
    · cases g1
    · split at g2
      · cases g2
      · exact r.inj j j' o1 o2 p1 p2 g1 g2 g3 g4 g5
  · rw [Tr.get_put] at g1
    split at g1
    · cases g1
    · exact r.frz j A z j' o t' hz g1 ht'
/-- How a deferred closure is called: with the panic that waits, if one does; it tells whether it has recovered. -/
abbrev DCall := FuncId → List SV → Option SV → HS → (Bool → HS → Bool) → Bool
def ModeOk (E : Env) (pv : Option SV) (u : FrameMode) : Prop := match pv with
  | none => u = .returning
  | some s => ∃ v, val E s = some v ∧ u = .panicking [{ v, recovered := false }]
theorem ModeOk.le {E E' : Env} (h : E.le E') {pv : Option SV} {u : FrameMode} (k : ModeOk E pv u) : ModeOk E' pv u := by
  cases pv with
  | none => exact k
  | some s => obtain ⟨v, a, b⟩ := k; exact ⟨v, val_le h _ _ a, b⟩
theorem ModeOk.ne {E : Env} {pv : Option SV} {u : FrameMode} (k : ModeOk E pv u) : u ≠ .run := by
  cases pv with
  | none => have k : u = .returning := k; rw [k]; simp
  | some s => obtain ⟨v, a, b⟩ := k; rw [b]; simp
/-- The mode behind a deferred call that has recovered, or has not. -/
def afterM (u : FrameMode) (rc : Bool) : FrameMode := match rc, u with
  | true, .panicking (x :: older) => .panicking ({ x with recovered := true } :: older)
  | _, u => u
noncomputable def restP (pv : Option SV) (rc : Bool) : Option SV := Bool.rec pv none rc
theorem settle_after {E : Env} {pv : Option SV} {u : FrameMode} (k : ModeOk E pv u) (rc : Bool) : ModeOk E (restP pv rc) (settle (afterM u rc)) := by
  cases pv with
  | none =>
    have k : u = .returning := k
    subst k
    cases rc <;> rfl
  | some s =>
    obtain ⟨v, a, b⟩ := k
    subst b
    cases rc
    · exact ⟨v, a, rfl⟩
    · rfl
def DOk (P : Program) (W0 : World) (f : FuncId) (l : List SV) (pv : Option SV) (h h' : HS) (rc : Bool) : Prop :=
  ∀ E w vl u, Rel W0 E h.hp.get w → Free E h.nx h'.nx h.ne h'.ne → vals E l = some vl → ModeOk E pv u → ∀ R : Ending → FrameMode → World → Prop,
    (∀ E' v w', Rel W0 E' h'.hp.get w' → Step h.bar h.hp.get h.nx h'.nx h.ne h'.ne E E' w w' → R (.returned v) (afterM u rc) w') → CallsDIn Fence.wide 0 P f vl.toArray u w R
def DSound (P : Program) (W0 : World) (dc : DCall) : Prop := ∀ f l pv h k, dc f l pv h k = true → ∃ rc h', k rc h' = true ∧ Goes h h' ∧ DOk P W0 f l pv h h' rc
/-- What waits is taken, one by one. -/
noncomputable def leaveK (P : Program) (dc : DCall) (l : List DI) : Option SV → HS → (Option SV → HS → Bool) → Bool :=
  List.rec (fun pv h k => k pv h) (fun x _ ih pv h k => DI.rec (fun D => HS.rec (fun hp nx ne bar => getQ hp D fun so => asDf so (Bool.rec false (hp.putK D none fun hp' => ih pv ⟨hp', nx, ne, bar⟩ k) (Nat.ble bar D))) h)
    (fun f ids => Bool.rec false (dc f (ids.map fun id => SV.ptr id 0) pv h fun rc h' => ih (restP pv rc) h' k) (fineFn P f)) x) l
theorem leaveK_ok {dc : DCall} (hd : DSound P W0 dc) (l : List DI) : ∀ (pv : Option SV) (h : HS) (k : Option SV → HS → Bool), leaveK P dc l pv h k = true → ∃ pv' h', k pv' h' = true ∧ Goes h h' ∧ ∀ (E : Env) (w : World) (ds : List Deferred) (u : FrameMode) (fn : Func) (tmps : Array Value) (R : Ending → World → Prop), Rel W0 E h.hp.get w → Free E h.nx h'.nx h.ne h'.ne → Marks E l ds → ModeOk E pv u →
    (∀ E' w' u', Rel W0 E' h'.hp.get w' → Step h.bar h.hp.get h.nx h'.nx h.ne h'.ne E E' w w' → ModeOk E' pv' u' → LeavesInM Fence.wide 0 P fn tmps R [] u' w') → LeavesInM Fence.wide 0 P fn tmps R ds u w := by
  induction l with
  | nil =>
    intro pv h k hk
    refine ⟨pv, h, hk, Goes.refl h, fun E w ds u fn tmps R r fe hm hu hR => ?_⟩
    have hm : ds = [] := hm
    subst hm
    exact hR E w u r (Step.refl _ _ _ _ _ _) hu
  | cons x l ih =>
    intro pv h k hk
    cases x with
    | mark D =>
      obtain ⟨hp, nx, ne, bar⟩ := h
      have hk : (getQ hp D fun so => asDf so (Bool.rec false (hp.putK D none fun hp' => leaveK P dc l pv ⟨hp', nx, ne, bar⟩ k) (Nat.ble bar D))) = true := hk
      rw [getQ_eq] at hk
      split at hk
      case h_2 => cases hk
      rename_i so hso
      obtain ⟨rfl, hk⟩ := asDf_ok hk
      obtain ⟨hb, hk⟩ := rec_true hk
      have hb := Nat.le_of_ble_eq_true hb
      rw [Tr.putK_eq] at hk
      obtain ⟨pv', h', k1, g, ok⟩ := ih _ _ _ hk
      have g0 : Goes ⟨hp, nx, ne, bar⟩ ⟨hp.put D none, nx, ne, bar⟩ := by
        refine ⟨fun j hj => ?_, rfl, Nat.le_refl _, Nat.le_refl _, fun j x e => ?_⟩
        · have hj : j < bar := hj
          show (hp.put D none).get j = _
          rw [Tr.get_put, if_neg (by omega)]
        · have e : (hp.put D none).get j = some x := e
          rw [Tr.get_put] at e
          split at e
          · cases e
          · exact .inr ⟨x, e⟩
      refine ⟨pv', h', k1, g0.trans g, fun E w ds u fn tmps R r fe hm hu hR => ?_⟩
      obtain ⟨s, ds', hs, rfl, hm⟩ := hm
      obtain ⟨s', a, b, c⟩ := r.obj D _ hso
      obtain rfl := Option.some.inj (a.symm.trans hs)
      have c : w.heap[s'.blk]? = some (.deferred (some [])) := c
      refine ⟨hu.ne, .inl ⟨s'.blk, _, rfl, run_takeDeferred c, ok E _ ds' u fn tmps R (r.taken hso a _) fe hm hu fun E' w' u' r' st mu => hR E' w' u' r' ?_ mu⟩⟩
      have st0 : Step bar hp.get nx nx ne ne E E w (w.putObj s'.blk (.deferred none)) := Step.upd hso hb a (by simp) (fun j hj => World.putObj_heap_other hj)
      exact Step.trans g0 g st0 st
    | clo f ids =>
      have hk : (Bool.rec false (dc f (ids.map fun id => SV.ptr id 0) pv h fun rc h' => leaveK P dc l (restP pv rc) h' k) (fineFn P f) : Bool) = true := hk
      obtain ⟨hfine, hk⟩ := rec_true hk
      obtain ⟨rc, h1, hk, g1, ok1⟩ := hd _ _ _ _ _ hk
      obtain ⟨pv', h', k1, g, ok⟩ := ih _ _ _ hk
      refine ⟨pv', h', k1, g1.trans g, fun E w ds u fn tmps R r fe hm hu hR => ?_⟩
      obtain ⟨vl, ds', q1, rfl, hm⟩ := hm
      refine ⟨hu.ne, .inr ⟨(fun e => by cases e), .func f, vl.toArray, f, vl.toArray, rfl, ?_, fun _ _ => trivial, ?_⟩⟩
      · show (invoke (.fn (.func f) vl.toArray) #[]).run P w = _
        simp only [invoke, run_callFunc hfine]
        congr 2
        simp
      · refine ok1 E w vl u r (fe.left g.nx g.ne) q1 hu _ fun E1 v w1 r1 st1 => ?_
        exact ok E1 w1 ds' _ fn tmps R r1 (fe.right st1 g1.nx g1.ne) (hm.le st1.le) (settle_after (hu.le st1.le) rc) fun E' w' u' r' st mu => hR E' w' u' r' (Step.trans g1 g st1 st) mu
/-- The frame's end. -/
noncomputable def endK (P : Program) (dc : DCall) (p : Pa) (fr : Tr SV) (pv : Option SV) (h : HS) (k : Option SV → HS → Bool) : Bool := getP fr p fun v => asMks v (fun l => leaveK P dc l pv h k) (k pv h)
theorem endK_ok {dc : DCall} (hd : DSound P W0 dc) {N : Nat} {fr : Tr SV} {pv : Option SV} {h : HS} {k : Option SV → HS → Bool} (hk : endK P dc (pa N) fr pv h k = true) : ∃ pv' h', k pv' h' = true ∧ Goes h h' ∧ ∀ (E : Env) (w : World) (ds : List Deferred) (u : FrameMode) (fn : Func) (tmps : Array Value) (R : Ending → World → Prop), Rel W0 E h.hp.get w → Free E h.nx h'.nx h.ne h'.ne → DefOk E (opd fr (.tmp N)) ds → ModeOk E pv u →
    (∀ E' w' u', Rel W0 E' h'.hp.get w' → Step h.bar h.hp.get h.nx h'.nx h.ne h'.ne E E' w w' → ModeOk E' pv' u' → LeavesInM Fence.wide 0 P fn tmps R [] u' w') → LeavesInM Fence.wide 0 P fn tmps R ds u w := by
  unfold endK at hk
  rw [getP_eq, opdK_eq] at hk
  rcases asMks_ok hk with ⟨l, e, q⟩ | ⟨e, q⟩
  · obtain ⟨pv', h', k1, g, ok⟩ := leaveK_ok (W0 := W0) hd l pv h k q
    refine ⟨pv', h', k1, g, fun E w ds u fn tmps R r fe hd' hu hR => ok E w ds u fn tmps R r fe ?_ hu hR⟩
    rw [e] at hd'
    exact hd'
  · refine ⟨pv, h, q, Goes.refl h, fun E w ds u fn tmps R r fe hd' hu hR => ?_⟩
    have : ds = [] := by
      unfold DefOk at hd'
      split at hd'
      · rename_i l hl; exact absurd hl (e l)
      · exact hd'
    subst this
    exact hR E w u r (Step.refl _ _ _ _ _ _) hu
end Go.Proofs.YtgoccionghehoaaGreatDoor.Ev
namespace Go.Proofs.YtgoccionghehoaaGreatDoor.Ev
open Go Go.RowKit

variable [GTab] {P : Program} {W0 : World} [GOk W0]
inductive X where
  | normal
  | exit (id : Nat)
  | ret
  | panic (v : SV)
def X.to : X → Exit
  | .normal => .normal
  | .exit id => .exit id
  | .ret => .ret
  | .panic _ => .outgrown
/-- How code ends. -/
def XOk (E : Env) (x : X) (e : Exit) : Prop := match x with
  | .normal => e = .normal
  | .exit id => e = .exit id
  | .ret => e = .ret
  | .panic s => ∃ v, val E s = some v ∧ e = .panic [{ v, recovered := false }]
abbrev KX := X → Tr SV → HS → Bool
abbrev CodeF := CallP → Nat → Tr SV → HS → KX → Bool
/-- The frame says what the full frame says of the slots that are kept. -/
def Ag (K : Nat) (fr frT : Tr SV) : Prop := ∀ t, Nat.testBit K t = true → opd fr (.tmp t) = opd frT (.tmp t)
theorem opd_ag {K : Nat} {fr frT : Tr SV} (ag : Ag K fr frT) {c : Operand} (h : resolved K [] [] c = true) : opd fr c = opd frT c := by
  cases c with
  | tmp t => exact ag t (by simpa [resolved, idx, alias] using h)
  | const v => cases v <;> rfl
  | global g => rfl
  | func f => rfl
/-! ### the record -/
noncomputable def asLp (so : SO) (k : LoopState → Option Code → Tr SV → Nat → Array Tmp → Code → Code → Nat → Bool) : Bool :=
  SO.rec (fun _ _ _ => false) (fun _ _ => false) (fun st pend fr N ps as bd D => k st pend fr N ps as bd D) false (fun _ => false) (fun _ => false) so
theorem asLp_ok {so : SO} {k : LoopState → Option Code → Tr SV → Nat → Array Tmp → Code → Code → Nat → Bool} (h : asLp so k = true) : ∃ st pend fr N ps as bd D, so = .lp st pend fr N ps as bd D ∧ k st pend fr N ps as bd D = true := by
  cases so with
  | lp st pend fr N ps as bd D => exact ⟨_, _, _, _, _, _, _, _, rfl, h⟩
  | row => cases h
  | mp => cases h
  | df => cases h
  | ml => cases h
  | any => cases h
noncomputable def isReady (st : LoopState) : Bool := LoopState.rec (motive := fun _ => Bool) true false false false st
noncomputable def notBusy (st : LoopState) : Bool := LoopState.rec (motive := fun _ => Bool) true false true true st
theorem isReady_ok {st : LoopState} (h : isReady st = true) : st = .ready := by cases st <;> first | rfl | cases h
theorem notBusy_ok {st : LoopState} (h : notBusy st = true) : st ≠ .busy := by cases st <;> first | (intro e; cases e; done) | cases h
noncomputable def jumpK (p : Option Code) (k : X → Bool) : Bool :=
  Option.rec (k .normal) (fun c => Code.rec (motive := fun _ => Bool) false (fun _ _ _ => false) (fun _ _ _ _ => false) (fun _ _ _ _ _ => false) (fun _ _ _ => false) (fun _ _ => false) (fun _ _ _ _ _ _ => false) (fun id => k (.exit id)) (fun _ _ => false) (fun _ => false) (fun _ => false) (k .ret) (fun _ => false) c) p
theorem jumpK_ok {p : Option Code} {k : X → Bool} (h : jumpK p k = true) : (p = none ∧ k .normal = true) ∨ (∃ id, p = some (.exit id) ∧ k (.exit id) = true) ∨ (p = some .ret ∧ k .ret = true) := by
  cases p with
  | none => exact .inl ⟨rfl, h⟩
  | some c =>
    cases c with
    | exit id => exact .inr (.inl ⟨id, rfl, h⟩)
    | ret => exact .inr (.inr ⟨rfl, h⟩)
    | skip => cases h
    | region _ _ _ => cases h
    | seq _ _ => cases h
    | cond _ _ _ => cases h
    | block _ _ => cases h
    | loop _ => cases h
    | rangeFunc _ _ _ _ => cases h
    | scope _ => cases h
    | label _ => cases h
    | goto _ => cases h
    | refuse _ => cases h
theorem Rel.setLp {E : Env} {g : Tr SO} {w : World} (r : Rel W0 E g.get w) {id : Nat} {st st' : LoopState} {pend pend' : Option Code} {fr : Tr SV} {N : Nat} {ps : Array Tmp} {as bd : Code} {D : Nat} {s sD : Spot} {fn : FuncId} {tmps : Array Value}
    (h : g.get id = some (.lp st pend fr N ps as bd D)) (hs : E.at_ id = some s) (hw : w.heap[s.blk]? = some (.loop { state := st, pending := pend, fn, tmps, params := ps, assign := as, body := bd, defers := sD.blk }))
    (hD : E.at_ D = some sD) (ht : TmpsOk E fr N tmps) :
    Rel W0 E (g.put id (some (.lp st' pend' fr N ps as bd D))).get (w.putObj s.blk (.loop { state := st', pending := pend', fn, tmps, params := ps, assign := as, body := bd, defers := sD.blk })) :=
  r.upd (o' := .lp st' pend' fr N ps as bd D) h hs rfl rfl rfl (by simp) (fun j hj => World.putObj_heap_other hj) ⟨fn, tmps, sD, World.putObj_heap_same (Array.getElem?_eq_some_iff.1 hw).1, hD, ht⟩ (fun j => Tr.get_put _ _ _ _)
theorem Goes.take {h : HS} {id : Nat} (hb : h.bar ≤ id) : Goes h ⟨h.hp.put id none, h.nx, h.ne, h.bar⟩ := by
  refine ⟨fun j hj => ?_, rfl, Nat.le_refl _, Nat.le_refl _, fun j x e => ?_⟩
  · show (h.hp.put id none).get j = _
    rw [Tr.get_put, if_neg (by omega)]
  · have e : (h.hp.put id none).get j = some x := e
    rw [Tr.get_put] at e
    by_cases hj : j = id
    · rw [if_pos hj] at e; cases e
    · rw [if_neg hj] at e; exact .inr ⟨x, e⟩
/-! ### the statement -/
/-- All slots up to the place N. -/
noncomputable def fullM (N : Nat) : Nat := Nat.sub (Nat.shiftLeft 1 (Nat.succ N)) 1
theorem fullM_bit (N t : Nat) : Nat.testBit (fullM N) t = decide (t ≤ N) := by
  have : fullM N = 2 ^ (N + 1) - 1 := by
    unfold fullM
    show 1 <<< (N + 1) - 1 = _
    rw [Nat.one_shiftLeft]
  rw [this, Nat.testBit_two_pow_sub_one]
  exact decide_eq_decide.2 (by omega)
theorem full_of {K N : Nat} (h : Nat.beq (Nat.land K (fullM N)) (fullM N) = true) {t : Nat} (ht : t ≤ N) : Nat.testBit K t = true := by
  have e : K &&& fullM N = fullM N := Nat.eq_of_beq_eq_true h
  have := congrArg (fun x => Nat.testBit x t) e
  simp only [Nat.testBit_and, fullM_bit, decide_eq_true ht, Bool.and_true] at this
  exact this
noncomputable def clRange (P : Program) (N K : Nat) (g : Operand) (ps : Array Tmp) (assign body : Code) : Cl CodeF :=
  bif resolved K [] [] g && Nat.beq (Nat.land K (fullM N)) (fullM N) then (opdC g).then fun gg => paC N fun pN =>
    ⟨fun call F fr h k => gg fr fun fv => match fnOf fv with
      | some (.func f, first, cap) => bif fineFn P f && Nat.ble h.bar h.nx then newK h .df fun h1 => newK h1 (.lp .ready none fr N ps assign body h.nx) fun h2 =>
          listK (first ++ (.yld h1.nx :: cap)) fun l => nc call (.fn f) l h2 fun _ h3 => getQ h3.hp h1.nx fun so => asLp so fun st pend _ _ _ _ _ _ =>
            bif notBusy st then h3.hp.putK h1.nx none fun hp4 => getP fr pN fun mk => asMk mk fun l => putP fr pN (.mks (.mark h.nx :: l)) fun fr' => jumpK pend fun x => k x fr' ⟨hp4, h3.nx, h3.ne, h3.bar⟩ else false
        else false
      | _ => false⟩
  else ⟨fun _ _ _ _ _ => false⟩
theorem clRange_ok {call : CallP} (hc : CallSoundP P W0 call) {N K F : Nat} {g : Operand} {ps : Array Tmp} {assign body : Code} {fr frT : Tr SV} {h : HS} {k : KX} (ag : Ag K fr frT) (hk : (clRange P N K g ps assign body).f call F fr h k = true) :
    ∃ x fr' frT' h', k x fr' h' = true ∧ Ag K fr' frT' ∧ Goes h h' ∧ (∀ s, x ≠ .panic s) ∧ ∀ E a w, Rel W0 E h.hp.get w → Free E h.nx h'.nx h.ne h'.ne → FrOk E frT N a → ∀ Q : Exit → Act → World → Prop,
      (∀ E' a' w', Rel W0 E' h'.hp.get w' → Step h.bar h.hp.get h.nx h'.nx h.ne h'.ne E E' w w' → FrOk E' frT' N a' → Q x.to a' w') → (Code.rangeFunc g ps assign body).wpIn (Fw none) 0 P Q a w := by
  unfold clRange at hk
  cases hr : (resolved K [] [] g && Nat.beq (Nat.land K (fullM N)) (fullM N)) with
  | false => rw [hr] at hk; cases hk
  | true =>
  rw [hr, cond_true] at hk
  simp only [Bool.and_eq_true] at hr
  obtain ⟨hr, hN⟩ := hr
  simp only [Cl.then_eq, paC_eq, opdC_at] at hk
  split at hk
  case h_2 => cases hk
  rename_i f first cap hfv
  obtain ⟨h1, hk⟩ := bif_true hk
  simp only [Bool.and_eq_true] at h1
  obtain ⟨hfine, hb⟩ := h1
  have hb := Nat.le_of_ble_eq_true hb
  rw [newK_eq, newK_eq, listK_eq] at hk
  obtain ⟨sv, h3, hk, g3, ok3⟩ := nc_ok hc _ _ _ _ hk
  obtain ⟨h3hp, h3nx, h3ne, h3bar⟩ := h3
  simp only at hk
  rw [getQ_eq] at hk
  split at hk
  case h_2 => cases hk
  rename_i so hso
  obtain ⟨st, pend, fr2, N2, ps2, as2, bd2, D2, rfl, hk⟩ := asLp_ok hk
  obtain ⟨hst, hk⟩ := bif_true hk
  have hst := notBusy_ok hst
  rw [Tr.putK_eq, getP_eq, opdK_eq] at hk
  obtain ⟨l, hk, hmk⟩ := asMk_ok hk
  rw [putP_eq, Tr.putK_eq] at hk
  -- how the objects go on
  let h1 : HS := ⟨h.hp.put h.nx (some .df), h.nx + 1, h.ne, h.bar⟩
  let h2 : HS := ⟨h1.hp.put h1.nx (some (.lp .ready none fr N ps assign body h.nx)), h1.nx + 1, h1.ne, h1.bar⟩
  let h4 : HS := ⟨h3hp.put (h.nx + 1) none, h3nx, h3ne, h3bar⟩
  have e3b : h3bar = h.bar := g3.bar
  have G1 : Goes h h1 := Goes.new h hb _
  have G2 : Goes h1 h2 := Goes.new h1 (show h.bar ≤ h.nx + 1 by omega) _
  have G3 : Goes h2 ⟨h3hp, h3nx, h3ne, h3bar⟩ := g3
  have G4 : Goes ⟨h3hp, h3nx, h3ne, h3bar⟩ h4 := Goes.take (h := ⟨h3hp, h3nx, h3ne, h3bar⟩) (id := h.nx + 1) (show h3bar ≤ h.nx + 1 by omega)
  have ag' : Ag K (fr.put N (some (.mks (.mark h.nx :: l)))) (frT.put N (some (.mks (.mark h.nx :: l)))) := fun t ht => by
    have := ag t ht
    simp only [opd] at this ⊢
    rw [Tr.get_put, Tr.get_put]
    split
    · rfl
    · exact this
  have n3 : h.nx + 1 + 1 ≤ h3nx := G3.nx
  have m3 : h.ne ≤ h3ne := G3.ne
  have fin : ∀ x, (pend = none ∧ x = X.normal ∨ (∃ id, pend = some (.exit id) ∧ x = .exit id) ∨ pend = some .ret ∧ x = .ret) → ∀ E a w, Rel W0 E h.hp.get w → Free E h.nx h4.nx h.ne h4.ne → FrOk E frT N a → ∀ Q : Exit → Act → World → Prop,
      (∀ E' a' w', Rel W0 E' h4.hp.get w' → Step h.bar h.hp.get h.nx h4.nx h.ne h4.ne E E' w w' → FrOk E' (frT.put N (some (.mks (.mark h.nx :: l)))) N a' → Q x.to a' w') → (Code.rangeFunc g ps assign body).wpIn (Fw none) 0 P Q a w := by
    intro x hx E a w r fe fo Q hQ
    refine wpIn_rangeFunc fun fn _ => ?_
    have eg := opd_ok fo g
    rw [← opd_ag ag hr] at eg
    obtain ⟨u, v, hu, hv, eg⟩ := fnOf_ok hfv eg
    -- the two blocks
    have fe : Free E h.nx h3nx h.ne h3ne := fe
    obtain ⟨S1, R1⟩ := new_rel (cap := 0) r (fe.left (nx1 := h.nx + 1) (ne1 := h.ne) (by omega) m3) (so := .df) (ob := .deferred (some [])) (fun w' hw' => hw')
    have f1 : Free (E.more h.nx ⟨w.heap.size, 0, 0⟩) h1.nx h3nx h1.ne h3ne := fe.right S1 (Nat.le_succ _) (Nat.le_refl _)
    generalize hE1 : E.more h.nx ⟨w.heap.size, 0, 0⟩ = E1 at S1 R1 f1
    have eD : E1.at_ h.nx = some ⟨w.heap.size, 0, 0⟩ := by rw [← hE1]; exact E.more_at _ _
    have sz1 : ({ w with heap := w.heap.push (.deferred (some [])) } : World).heap.size = w.heap.size + 1 := by simp
    generalize hw1 : ({ w with heap := w.heap.push (.deferred (some [])) } : World) = w1 at S1 R1 sz1
    have hn1 := f1.at_ (h.nx + 1) (Nat.le_refl _) (by omega)
    obtain ⟨S2, R2⟩ := new_rel (h := h1) (cap := 0) R1 (f1.left (nx1 := h1.nx + 1) (ne1 := h1.ne) (by show h.nx + 1 + 1 ≤ _; omega) m3) (so := .lp .ready none fr N ps assign body h.nx)
      (ob := .loop { state := .ready, pending := none, fn, tmps := a.tmps, params := ps, assign, body, defers := w.heap.size })
      (fun w' hw' => ⟨fn, a.tmps, ⟨w.heap.size, 0, 0⟩, hw', (E1.le_more _ _ hn1).1 _ _ eD, ⟨fo.size, fun t ht => by
        have e := ag t (full_of hN (Nat.le_of_lt ht))
        simp only [opd] at e
        rw [e]
        exact val_le (Env.le_trans S1.le (E1.le_more _ _ hn1)) _ _ (fo.get t)⟩⟩)
    have f2 : Free (E1.more h1.nx ⟨w1.heap.size, 0, 0⟩) h2.nx h3nx h2.ne h3ne := f1.right S2 (by show h.nx + 1 ≤ h.nx + 1 + 1; omega) (Nat.le_refl _)
    generalize hE2 : E1.more h1.nx ⟨w1.heap.size, 0, 0⟩ = E2 at S2 R2 f2
    have eL : E2.at_ (h.nx + 1) = some ⟨w1.heap.size, 0, 0⟩ := by rw [← hE2]; exact E1.more_at _ _
    generalize hw2 : ({ w1 with heap := w1.heap.push (.loop { state := .ready, pending := none, fn, tmps := a.tmps, params := ps, assign, body, defers := w.heap.size }) } : World) = w2 at S2 R2
    have S12 : Step h.bar h.hp.get h.nx h2.nx h.ne h2.ne E E2 w w2 := Step.trans G1 G2 S1 S2
    have hargs : vals E2 (first ++ (.yld (h.nx + 1) :: cap)) = some (u ++ (.func (.yield (w.heap.size + 1)) #[] #[] :: v)) := by
      refine vals_append (vals_le S12.le _ _ hu) ?_
      simp only [vals, val, eL, Option.map_some, Option.bind_some, sz1, vals_le S12.le _ _ hv]
    refine ⟨w.heap.size + 1, [{ target := .collected w.heap.size, args := #[] }], w2, { target := .fn (.func f) v.toArray, args := u.toArray ++ #[.func (.yield (w.heap.size + 1)) #[] #[]] }, w2, f,
      (u ++ (.func (.yield (w.heap.size + 1)) #[] #[] :: v)).toArray, w2, ?_, ?_, fun _ _ => trivial, ?_, fun e => (by cases e), ?_⟩
    · rw [← hw2, ← hw1]
      exact run_enterLoop_outer _ _ _ _ _
    · simp only [resolve, rangeCall, eg, Deferred.ofValue, Sem.run_bind, Sem.run_pure, Result.andThen]
      simp [Act.eval]
    · simp only [invoke, run_callFunc hfine]
      congr 2
      rw [← Array.toList_inj]; simp
    · refine callsIn_fw.2 (ok3 E2 w2 _ R2 f2 hargs _ fun E3 sv' w3 _ R3 S3 => ?_)
      have S23 := Step.trans (G1.trans G2) G3 S12 S3
      have eL3 : E3.at_ (h.nx + 1) = some ⟨w1.heap.size, 0, 0⟩ := S3.le.1 _ _ eL
      obtain ⟨sL, q1, q2, fn2, tmps2, sD2, q3, q4, q5⟩ := R3.obj _ _ hso
      rw [eL3] at q1
      obtain rfl := Option.some.inj q1
      change w3.heap[w1.heap.size]? = _ at q3
      rw [sz1] at q3
      have hend := run_endLoop (P := P) q3 hst
      have R4 : Rel W0 E3 h4.hp.get (w3.putObj (w.heap.size + 1) (.loop { state := .exhausted, pending := pend, fn := fn2, tmps := tmps2, params := ps2, assign := as2, body := bd2, defers := sD2.blk })) := by
        have := R3.taken hso eL3 (.loop { state := .exhausted, pending := pend, fn := fn2, tmps := tmps2, params := ps2, assign := as2, body := bd2, defers := sD2.blk })
        rw [sz1] at this
        exact this
      have S4 : Step h3bar h3hp.get h3nx h3nx h3ne h3ne E3 E3 w3 (w3.putObj (w.heap.size + 1) (.loop { state := .exhausted, pending := pend, fn := fn2, tmps := tmps2, params := ps2, assign := as2, body := bd2, defers := sD2.blk })) :=
        Step.upd hso (by omega) eL3 (by simp) (fun j hj => World.putObj_heap_other (by rw [sz1] at hj; exact hj))
      have S5 := Step.trans ((G1.trans G2).trans G3) G4 S23 S4
      have eD3 : E3.at_ h.nx = some ⟨w.heap.size, 0, 0⟩ := S3.le.1 _ _ (S2.le.1 _ _ eD)
      have fo' : FrOk E3 (frT.put N (some (.mks (.mark h.nx :: l)))) N { a with defers := [{ target := .collected w.heap.size, args := #[] }] ++ a.defers } := by
        refine ⟨fo.size, ?_, fun t => ?_⟩
        · rw [Tr.get_put, if_pos rfl]
          refine ⟨_, _, eD3, rfl, hmk _ _ ?_⟩
          rw [ag N (full_of hN (Nat.le_refl _))]
          exact (fo.le S23.le).defers
        · rw [Tr.get_put]
          split
          · rename_i e
            have := fo.size
            simp [val, e, Array.getD, this]
          · exact (fo.le S23.le).get t
      have hq := hQ E3 _ _ R4 S5 fo'
      refine ⟨pend, _, hend, ?_⟩
      rcases hx with ⟨rfl, rfl⟩ | ⟨id, rfl, rfl⟩ | ⟨rfl, rfl⟩
      · exact hq
      · exact wpIn_exit hq
      · exact wpIn_ret hq
  have G : Goes h h4 := ((G1.trans G2).trans G3).trans G4
  rcases jumpK_ok hk with ⟨e, q⟩ | ⟨id, e, q⟩ | ⟨e, q⟩
  · exact ⟨_, _, _, h4, q, ag', G, (fun s e => by cases e), fin _ (.inl ⟨e, rfl⟩)⟩
  · exact ⟨_, _, _, h4, q, ag', G, (fun s e => by cases e), fin _ (.inr (.inl ⟨id, e, rfl⟩))⟩
  · exact ⟨_, _, _, h4, q, ag', G, (fun s e => by cases e), fin _ (.inr (.inr ⟨e, rfl⟩))⟩
end Go.Proofs.YtgoccionghehoaaGreatDoor.Ev
namespace Go.Proofs.YtgoccionghehoaaGreatDoor.Ev
open Go

variable [GTab] {P : Program} {W0 : World} [GOk W0]
noncomputable def loopGo (body : Tr SV → HS → KX → Bool) (k : KX) (n : Nat) : Tr SV → HS → Bool :=
  Nat.rec (fun _ _ => false) (fun _ again fr h => body fr h fun x fr' h' => X.rec (again fr' h') (fun id => k (.exit id) fr' h') (k .ret fr' h') (fun v => k (.panic v) fr' h') x) n
noncomputable def clSeq (ia ib : Cl CodeF) : Cl CodeF := ⟨fun call F fr h k => ia.f call F fr h fun x fr' h' => X.rec (ib.f call F fr' h' k) (fun id => k (.exit id) fr' h') (k .ret fr' h') (fun v => k (.panic v) fr' h') x⟩
noncomputable def clCond (K : Nat) (c : Operand) (ia ib : Cl CodeF) : Cl CodeF := bif resolved K [] [] c then (opdC c).then fun g => ⟨fun call F fr h k => g fr fun v => asBool v (ia.f call F fr h k) (ib.f call F fr h k)⟩ else ⟨fun _ _ _ _ _ => false⟩
noncomputable def clBlock (id : Nat) (ib : Cl CodeF) : Cl CodeF := ⟨fun call F fr h k => ib.f call F fr h fun x fr' h' => X.rec (k .normal fr' h') (fun j => Bool.rec (k (.exit j) fr' h') (k .normal fr' h') (Nat.beq j id)) (k .ret fr' h') (fun v => k (.panic v) fr' h') x⟩
noncomputable def clLoop (ib : Cl CodeF) : Cl CodeF := ⟨fun call F fr h k => loopGo (ib.f call F) k F fr h⟩
noncomputable def clRegion (P : Program) (N K : Nat) (fl : Bool) (ops : Array Oper) (draw : Bool) : Cl CodeF :=
  Bool.rec ((opsP P N K fl ops ops.toList [] []).then fun g => ⟨fun call _ fr h k => g call ⟨fr, []⟩ h (k .normal) fun v fr' h' => k (.panic v) fr' h'⟩) (bif drawIn K ops ops.toList then (drawRC P N ops).then fun g => ⟨fun call _ fr h k => g (nc call) fr h (k .normal)⟩ else ⟨fun _ _ _ _ _ => false⟩) draw
noncomputable def codeC (P : Program) (N K : Nat) (fl : Bool) (c : Code) : Cl CodeF :=
  Code.rec (motive := fun _ => Cl CodeF)
    ⟨fun _ _ fr h k => k .normal fr h⟩
    (fun _ ops draw => clRegion P N K fl ops draw)
    (fun _ _ ia ib => clSeq ia ib)
    (fun c _ _ ia ib => clCond K c ia ib)
    (fun id _ ib => clBlock id ib)
    (fun _ ib => clLoop ib)
    (fun g ps as bd _ _ => Bool.rec (clRange P N K g ps as bd) ⟨fun _ _ _ _ _ => false⟩ fl)
    (fun id => ⟨fun _ _ fr h k => k (.exit id) fr h⟩)
    (fun _ ib => ib)
    (fun _ => ⟨fun _ _ fr h k => k .normal fr h⟩)
    (fun _ => ⟨fun _ _ _ _ _ => false⟩)
    ⟨fun _ _ fr h k => k .ret fr h⟩
    (fun _ => ⟨fun _ _ _ _ _ => false⟩) c
noncomputable def codeOk (c : Code) : Bool :=
  Code.rec (motive := fun _ => Bool) true (fun _ ops draw => bif draw then drawOk ops else true) (fun _ _ ia ib => bif ia then ib else false) (fun _ _ _ ia ib => bif ia then ib else false) (fun _ _ ib => ib) (fun _ ib => ib)
    (fun _ _ _ _ _ _ => true) (fun _ => true) (fun _ ib => ib) (fun _ => true) (fun _ => true) true (fun _ => true) c
section
variable {F : Fence} {n : Nat} {b : Frame} {a : Act} {k : List Item} {cs : List Frame} {w : World} {Q : Exit → Act → World → Prop}
theorem stepR_scope {c : Code} : step P (lone (b.atR a (.code (.scope c) :: k)) cs w) = .next (lone (b.atR a (.code c :: .inScope c :: k)) cs w) :=
  step_lone_go (by simp [stepG, stepG.exec, Frame.atR])
theorem stepR_inScope {c : Code} : step P (lone (b.atR a (.inScope c :: k)) cs w) = .next (lone (b.atR a k) cs w) :=
  step_lone_go (by simp [stepG, stepG.exec, Frame.atR])
theorem wpIn_scope_straight {c : Code} (h : c.wpIn F n P (Exit.noGoto Q) a w) : (Code.scope c).wpIn F n P Q a w := by
  intro b k cs hro hb hr
  obtain ⟨e, a₁, w₁, hq, harr⟩ := h b (.inScope c :: k) cs hro hb hr
  have s0 : StepsIn (Machine.fenced P F) P (lone (b.atR a (.code (.scope c) :: k)) cs w) (lone (b.atR a (.code c :: .inScope c :: k)) cs w) := .one (fenced_calm hb hr rfl) stepR_scope
  cases e with
  | normal => exact ⟨.normal, a₁, w₁, hq, StepsIn.trans s0 (StepsIn.trans harr (.one (fenced_calm hb hr rfl) stepR_inScope))⟩
  | exit id =>
    have hx : exitTo id (.inScope c :: k) = exitTo id k := by simp [exitTo]
    exact ⟨.exit id, a₁, w₁, hq, fun k' hk => StepsIn.trans s0 (harr.1 k' (by rw [hx]; exact hk)), fun hr' hk => let ⟨k₁, h1, h2⟩ := harr.2 hr' (by rw [hx]; exact hk); ⟨k₁, h1, StepsIn.trans s0 h2⟩⟩
  | goto l => exact hq.elim
  | ret => exact ⟨_, a₁, w₁, hq, .of_steps s0 harr⟩
  | panic ch => exact ⟨_, a₁, w₁, hq, .of_steps s0 harr⟩
  | outgrown => exact ⟨_, a₁, w₁, hq, .of_steps s0 harr⟩
end
/-- From every frame and world that are so, the code comes to what is given. -/
def CodeOk (P : Program) (W0 : World) (N : Nat) (fl : Bool) (c : Code) (fr : Tr SV) (h : HS) (x : X) (fr' : Tr SV) (h' : HS) : Prop :=
  ∀ (ro : { r : Option Nat // fl = true ∨ r = none }) E a w, Rel W0 E h.hp.get w → Free E h.nx h'.nx h.ne h'.ne → FrOk E fr N a → ∀ Q : Exit → Act → World → Prop,
    (∀ E' a' w', Rel W0 E' h'.hp.get w' → Step h.bar h.hp.get h.nx h'.nx h.ne h'.ne E E' w w' → FrOk E' fr' N a' → ∀ e, XOk E' x e → Q e a' w') → c.wpIn (Fw ro.1) 0 P Q a w
theorem codeC_ok {call : CallP} (hc : CallSoundP P W0 call) (hm : P.follows .mixedOrders = true) {N K F : Nat} {fl : Bool} (c : Code) : ∀ (fr frT : Tr SV) (h : HS) (k : KX), Ag K fr frT → codeOk c = true → (codeC P N K fl c).f call F fr h k = true →
    ∃ x fr' frT' h', k x fr' h' = true ∧ Ag K fr' frT' ∧ Goes h h' ∧ CodeOk P W0 N fl c frT h x frT' h' := by
  induction c with
  | skip => intro fr frT h k ag _ hk; exact ⟨.normal, fr, frT, h, hk, ag, Goes.refl h, fun ro E a w r _ fo Q hQ => wpIn_skip (hQ E a w r (Step.refl _ _ _ _ _ _) fo _ rfl)⟩
  | label l => intro fr frT h k ag _ hk; exact ⟨.normal, fr, frT, h, hk, ag, Goes.refl h, fun ro E a w r _ fo Q hQ => wpIn_label (hQ E a w r (Step.refl _ _ _ _ _ _) fo _ rfl)⟩
  | exit id => intro fr frT h k ag _ hk; exact ⟨.exit id, fr, frT, h, hk, ag, Goes.refl h, fun ro E a w r _ fo Q hQ => wpIn_exit (hQ E a w r (Step.refl _ _ _ _ _ _) fo _ rfl)⟩
  | ret => intro fr frT h k ag _ hk; exact ⟨.ret, fr, frT, h, hk, ag, Goes.refl h, fun ro E a w r _ fo Q hQ => wpIn_ret (hQ E a w r (Step.refl _ _ _ _ _ _) fo _ rfl)⟩
  | rangeFunc g ps as bd _ _ =>
    intro fr frT h k ag _ hk
    cases fl with
    | true => cases hk
    | false =>
      obtain ⟨x, fr', frT', h', k1, ag', g', hnp, ok⟩ := clRange_ok (W0 := W0) hc (F := F) ag (show (clRange P N K g ps as bd).f call F fr h k = true from hk)
      refine ⟨x, fr', frT', h', k1, ag', g', fun ro E a w r fe fo Q hQ => ?_⟩
      obtain ⟨ro, hro⟩ := ro
      rcases hro with e | rfl
      · cases e
      · refine ok E a w r fe fo Q fun E' a' w' r' st fo' => hQ E' a' w' r' st fo' _ ?_
        cases x with
        | normal => rfl
        | exit id => rfl
        | ret => rfl
        | panic s => exact absurd rfl (hnp s)
  | scope b ib =>
    intro fr frT h k ag hok hk
    obtain ⟨x, fr', frT', h', k1, ag', g, ok⟩ := ib fr frT h k ag hok hk
    refine ⟨x, fr', frT', h', k1, ag', g, fun ro E a w r fe fo Q hQ => wpIn_scope_straight (ok ro E a w r fe fo _ fun E' a' w' r' st fo' e he => ?_)⟩
    have := hQ E' a' w' r' st fo' e he
    cases x with
    | normal => have he : e = .normal := he; subst he; exact this
    | exit id => have he : e = .exit id := he; subst he; exact this
    | ret => have he : e = .ret := he; subst he; exact this
    | panic s => obtain ⟨v, _, he⟩ := he; subst he; exact this
  | goto l => intro fr frT h k _ _ hk; cases hk
  | refuse w => intro fr frT h k _ _ hk; cases hk
  | region id ops draw =>
    intro fr frT h k ag hok hk
    cases draw with
    | true =>
      have hk2 : (bif drawIn K ops ops.toList then (drawRC P N ops).then fun g => (⟨fun call _ fr h k => g (nc call) fr h (k .normal)⟩ : Cl CodeF) else ⟨fun _ _ _ _ _ => false⟩).f call F fr h k = true := hk
      cases hin : drawIn K ops ops.toList with
      | false => rw [hin] at hk2; cases hk2
      | true =>
        rw [hin, cond_true, Cl.then_eq] at hk2
        obtain ⟨fr', frT', h', k1, ag', g, ok⟩ := drawRC_ok (W0 := W0) (nc_ok hc) hm (show drawOk ops = true from hok) hin ag hk2
        exact ⟨.normal, fr', frT', h', k1, ag', g, fun ro E a w r fe fo Q hQ => ok ro.1 id E a w r fe fo Q fun E' a' w' r' st fo' => hQ E' a' w' r' st fo' _ rfl⟩
    | false =>
      have hk2 : ((opsP P N K fl ops ops.toList [] []).then fun g => (⟨fun call _ fr h k => g call ⟨fr, []⟩ h (k .normal) fun v fr' h' => k (.panic v) fr' h'⟩ : Cl CodeF)).f call F fr h k = true := hk
      rw [Cl.then_eq] at hk2
      obtain ⟨y, fr', frT', h', k1, ag', g, ok⟩ := opsP_ok (W0 := W0) hc ops.toList [] [] ⟨fr, []⟩ frT h (k .normal) (fun v fr' h' => k (.panic v) fr' h') ⟨ag, fun t i e => (by cases e), fun t x e => (by cases e)⟩ hk2
      cases y with
      | none => exact ⟨.normal, fr', frT', h', k1, ag', g, fun ro E a w r fe fo Q hQ => wpIn_region_list (ok ro E a w r fe fo Q hQ)⟩
      | some v => exact ⟨.panic v, fr', frT', h', k1, ag', g, fun ro E a w r fe fo Q hQ => wpIn_region_list (ok ro E a w r fe fo Q hQ)⟩
  | seq x y ix iy =>
    intro fr frT h k ag hok hk
    obtain ⟨o1, o2⟩ := bif_true (show (bif codeOk x then codeOk y else false) = true from hok)
    change (codeC P N K fl x).f call F fr h (fun x fr' h' => X.rec ((codeC P N K fl y).f call F fr' h' k) (fun id => k (.exit id) fr' h') (k .ret fr' h') (fun v => k (.panic v) fr' h') x) = true at hk
    obtain ⟨x1, fr1, frT1, h1, k1, ag1, g1, c1⟩ := ix _ _ _ _ ag o1 hk
    cases x1 with
    | normal =>
      obtain ⟨x2, fr2, frT2, h2, k2, ag2, g2, c2⟩ := iy _ _ _ _ ag1 o2 k1
      refine ⟨x2, fr2, frT2, h2, k2, ag2, g1.trans g2, fun ro E a w r fe fo Q hQ => wpIn_seq (c1 ro E a w r (fe.left g2.nx g2.ne) fo _ fun E' a' w' r' st fo' e he => ?_)⟩
      have he : e = .normal := he
      subst he
      exact c2 ro E' a' w' r' (fe.right st g1.nx g1.ne) fo' Q fun E2 a2 w2 r2 st2 fo2 => hQ E2 a2 w2 r2 (Step.trans g1 g2 st st2) fo2
    | exit id => exact ⟨.exit id, fr1, frT1, h1, k1, ag1, g1, fun ro E a w r fe fo Q hQ => wpIn_seq (c1 ro E a w r fe fo _ fun E' a' w' r' st fo' e he => by have he : e = .exit id := he; subst he; exact hQ E' a' w' r' st fo' _ rfl)⟩
    | ret => exact ⟨.ret, fr1, frT1, h1, k1, ag1, g1, fun ro E a w r fe fo Q hQ => wpIn_seq (c1 ro E a w r fe fo _ fun E' a' w' r' st fo' e he => by have he : e = .ret := he; subst he; exact hQ E' a' w' r' st fo' _ rfl)⟩
    | panic s => exact ⟨.panic s, fr1, frT1, h1, k1, ag1, g1, fun ro E a w r fe fo Q hQ => wpIn_seq (c1 ro E a w r fe fo _ fun E' a' w' r' st fo' e he => by have q := hQ E' a' w' r' st fo' e he; obtain ⟨v, _, he⟩ := he; subst he; exact q)⟩
  | cond c x y ix iy =>
    intro fr frT h k ag hok hk
    obtain ⟨o1, o2⟩ := bif_true (show (bif codeOk x then codeOk y else false) = true from hok)
    have hk2 : (clCond K c (codeC P N K fl x) (codeC P N K fl y)).f call F fr h k = true := hk
    unfold clCond at hk2
    cases hr : resolved K [] [] c with
    | false => rw [hr] at hk2; cases hk2
    | true =>
    rw [hr, cond_true] at hk2
    simp only [Cl.then_eq, opdC_at] at hk2
    rw [opd_ag ag hr] at hk2
    obtain ⟨b, hb, hk⟩ := asBool_ok hk2
    cases b with
    | true =>
      obtain ⟨x1, fr1, frT1, h1, k1, ag1, g1, c1⟩ := ix _ _ _ _ ag o1 hk
      refine ⟨x1, fr1, frT1, h1, k1, ag1, g1, fun ro E a w r fe fo Q hQ => wpIn_cond_true ?_ (c1 ro E a w r fe fo Q hQ)⟩
      have := opd_ok fo c
      rw [hb] at this
      exact (Option.some.inj this).symm
    | false =>
      obtain ⟨x1, fr1, frT1, h1, k1, ag1, g1, c1⟩ := iy _ _ _ _ ag o2 hk
      refine ⟨x1, fr1, frT1, h1, k1, ag1, g1, fun ro E a w r fe fo Q hQ => wpIn_cond_false ?_ (c1 ro E a w r fe fo Q hQ)⟩
      have := opd_ok fo c
      rw [hb] at this
      exact (Option.some.inj this).symm
  | block id x ix =>
    intro fr frT h k ag hok hk
    change (codeC P N K fl x).f call F fr h (fun x fr' h' => X.rec (k .normal fr' h') (fun j => Bool.rec (k (.exit j) fr' h') (k .normal fr' h') (Nat.beq j id)) (k .ret fr' h') (fun v => k (.panic v) fr' h') x) = true at hk
    obtain ⟨x1, fr1, frT1, h1, k1, ag1, g1, c1⟩ := ix _ _ _ _ ag hok hk
    cases x1 with
    | normal => exact ⟨.normal, fr1, frT1, h1, k1, ag1, g1, fun ro E a w r fe fo Q hQ => wpIn_block (c1 ro E a w r fe fo _ fun E' a' w' r' st fo' e he => by have he : e = .normal := he; subst he; exact hQ E' a' w' r' st fo' _ rfl)⟩
    | ret => exact ⟨.ret, fr1, frT1, h1, k1, ag1, g1, fun ro E a w r fe fo Q hQ => wpIn_block (c1 ro E a w r fe fo _ fun E' a' w' r' st fo' e he => by have he : e = .ret := he; subst he; exact hQ E' a' w' r' st fo' _ rfl)⟩
    | panic s => exact ⟨.panic s, fr1, frT1, h1, k1, ag1, g1, fun ro E a w r fe fo Q hQ => wpIn_block (c1 ro E a w r fe fo _ fun E' a' w' r' st fo' e he => by have q := hQ E' a' w' r' st fo' e he; obtain ⟨v, _, he⟩ := he; subst he; exact q)⟩
    | exit j =>
      have k1 : (bif Nat.beq j id then k .normal fr1 h1 else k (.exit j) fr1 h1) = true := by
        revert k1
        cases hb : Nat.beq j id <;> intro k1
        · have : (Bool.rec (k (.exit j) fr1 h1) (k .normal fr1 h1) (Nat.beq j id) : Bool) = true := k1
          rw [hb] at this
          exact this
        · have : (Bool.rec (k (.exit j) fr1 h1) (k .normal fr1 h1) (Nat.beq j id) : Bool) = true := k1
          rw [hb] at this
          exact this
      rw [Tr.bif_beq] at k1
      split at k1
      · rename_i e
        refine ⟨.normal, fr1, frT1, h1, k1, ag1, g1, fun ro E a w r fe fo Q hQ => wpIn_block (c1 ro E a w r fe fo _ fun E' a' w' r' st fo' e2 he => ?_)⟩
        have he : e2 = .exit j := he
        subst he
        show (if j = id then Q .normal a' w' else Q (.exit j) a' w')
        rw [if_pos e]
        exact hQ E' a' w' r' st fo' _ rfl
      · rename_i e
        refine ⟨.exit j, fr1, frT1, h1, k1, ag1, g1, fun ro E a w r fe fo Q hQ => wpIn_block (c1 ro E a w r fe fo _ fun E' a' w' r' st fo' e2 he => ?_)⟩
        have he : e2 = .exit j := he
        subst he
        show (if j = id then Q .normal a' w' else Q (.exit j) a' w')
        rw [if_neg e]
        exact hQ E' a' w' r' st fo' _ rfl
  | loop x ix =>
    intro fr frT h k ag hok hk
    change loopGo ((codeC P N K fl x).f call F) k F fr h = true at hk
    have key : ∀ (n : Nat) (fr frT : Tr SV) (h : HS), Ag K fr frT → loopGo ((codeC P N K fl x).f call F) k n fr h = true → ∃ x1 fr' frT' h', k x1 fr' h' = true ∧ Ag K fr' frT' ∧ Goes h h' ∧ ∀ (ro : { r : Option Nat // fl = true ∨ r = none }) E a w, Rel W0 E h.hp.get w → Free E h.nx h'.nx h.ne h'.ne → FrOk E frT N a → ∀ Q : Exit → Act → World → Prop,
        (∀ E' a' w', Rel W0 E' h'.hp.get w' → Step h.bar h.hp.get h.nx h'.nx h.ne h'.ne E E' w w' → FrOk E' frT' N a' → ∀ e, XOk E' x1 e → Q e a' w') → Code.roundsIn (Fw ro.1) 0 P x Q n a w := by
      intro n
      induction n with
      | zero => intro fr frT h _ hk; cases hk
      | succ n ih =>
        intro fr frT h ag hk
        change (codeC P N K fl x).f call F fr h (fun x1 fr' h' => X.rec (loopGo ((codeC P N K fl x).f call F) k n fr' h') (fun id => k (.exit id) fr' h') (k .ret fr' h') (fun v => k (.panic v) fr' h') x1) = true at hk
        obtain ⟨x1, fr1, frT1, h1, k1, ag1, g1, c1⟩ := ix _ _ _ _ ag hok hk
        cases x1 with
        | normal =>
          obtain ⟨x2, fr2, frT2, h2, k2, ag2, g2, c2⟩ := ih _ _ _ ag1 k1
          refine ⟨x2, fr2, frT2, h2, k2, ag2, g1.trans g2, fun ro E a w r fe fo Q hQ => ?_⟩
          rw [roundsIn_succ]
          refine c1 ro E a w r (fe.left g2.nx g2.ne) fo _ fun E' a' w' r' st fo' e he => ?_
          have he : e = .normal := he
          subst he
          exact c2 ro E' a' w' r' (fe.right st g1.nx g1.ne) fo' Q fun E2 a2 w2 r2 st2 fo2 => hQ E2 a2 w2 r2 (Step.trans g1 g2 st st2) fo2
        | exit id =>
          refine ⟨.exit id, fr1, frT1, h1, k1, ag1, g1, fun ro E a w r fe fo Q hQ => ?_⟩
          rw [roundsIn_succ]
          refine c1 ro E a w r fe fo _ fun E' a' w' r' st fo' e he => ?_
          have he : e = .exit id := he
          subst he
          exact hQ E' a' w' r' st fo' _ rfl
        | ret =>
          refine ⟨.ret, fr1, frT1, h1, k1, ag1, g1, fun ro E a w r fe fo Q hQ => ?_⟩
          rw [roundsIn_succ]
          refine c1 ro E a w r fe fo _ fun E' a' w' r' st fo' e he => ?_
          have he : e = .ret := he
          subst he
          exact hQ E' a' w' r' st fo' _ rfl
        | panic s =>
          refine ⟨.panic s, fr1, frT1, h1, k1, ag1, g1, fun ro E a w r fe fo Q hQ => ?_⟩
          rw [roundsIn_succ]
          refine c1 ro E a w r fe fo _ fun E' a' w' r' st fo' e he => ?_
          have q := hQ E' a' w' r' st fo' e he
          obtain ⟨v, _, he⟩ := he
          subst he
          exact q
    obtain ⟨x1, fr1, frT1, h1, k1, ag1, g1, c1⟩ := key F fr frT h ag hk
    exact ⟨x1, fr1, frT1, h1, k1, ag1, g1, fun ro E a w r fe fo Q hQ => wpIn_loop_rounds F (c1 ro E a w r fe fo Q hQ)⟩

end Go.Proofs.YtgoccionghehoaaGreatDoor.Ev
namespace Go.Proofs.YtgoccionghehoaaGreatDoor.Ev
open Go

variable [GTab] {P : Program} {W0 : World} [GOk W0]
/-! ### code of a deferred closure -/
abbrev KD := X → Tr SV → HS → Bool → Bool
/-- Its code: with the panic that waits, and whether it has been recovered from. -/
abbrev CodeDF := CallP → Nat → Option SV → Tr SV → HS → Bool → KD → Bool
noncomputable def isRec (o : Oper) : Bool := match o.op with
  | .call c => (match c.callee with
    | .builtin b => (match b with
      | .recover => true
      | _ => false)
    | _ => false)
  | _ => false
noncomputable def anyRec (l : List Oper) : Bool := List.rec false (fun o _ ih => bif isRec o then true else ih) l
/-- What recover hands back. -/
noncomputable def recV (pv : Option SV) (rc : Bool) : SV := Bool.rec (Option.rec (.lit .nilIface) (fun s => s) pv) (.lit .nilIface) rc
/-- A row in which recover stands: reads alone beside it. -/
noncomputable def opsR (P : Program) (N K : Nat) (ops : Array Oper) (l : List Oper) : Option SV → Tr SV → HS → Bool → (Tr SV → HS → Bool → Bool) → Bool :=
  List.rec (fun _ fr h rc k => k fr h rc) (fun o _ ih pv fr h rc k => match o.guard with
    | none => bif isRec o then putDK N o.dst (recV pv rc) fr fun fr' => ih pv fr' h true k
      else (bif allRes K [] [] o.op.operands.toList then rdK P o fr h.hp fun sv => putDK N o.dst sv fr fun fr' => ih pv fr' h rc k else false)
    | some _ => false) l
noncomputable def liftD (g : Cl CodeF) : Cl CodeDF := g.then fun g => ⟨fun call F _ fr h rc k => g call F fr h fun x fr' h' => k x fr' h' rc⟩
noncomputable def codeD (P : Program) (N K : Nat) (c : Code) : Cl CodeDF :=
  Code.rec (motive := fun _ => Cl CodeDF)
    (liftD (codeC P N K false .skip))
    (fun id ops draw => bif draw then liftD (codeC P N K false (.region id ops draw)) else bif anyRec ops.toList then ⟨fun _ _ pv fr h rc k => opsR P N K ops ops.toList pv fr h rc fun fr' h' rc' => k .normal fr' h' rc'⟩ else liftD (codeC P N K false (.region id ops draw)))
    (fun _ _ ia ib => ⟨fun call F pv fr h rc k => ia.f call F pv fr h rc fun x fr' h' rc' => X.rec (ib.f call F pv fr' h' rc' k) (fun id => k (.exit id) fr' h' rc') (k .ret fr' h' rc') (fun v => k (.panic v) fr' h' rc') x⟩)
    (fun c _ _ ia ib => bif resolved K [] [] c then (opdC c).then fun g => ⟨fun call F pv fr h rc k => g fr fun v => asBool v (ia.f call F pv fr h rc k) (ib.f call F pv fr h rc k)⟩ else ⟨fun _ _ _ _ _ _ _ => false⟩)
    (fun id x _ => liftD (codeC P N K false (.block id x)))
    (fun x _ => liftD (codeC P N K false (.loop x)))
    (fun g ps as bd _ _ => liftD (codeC P N K false (.rangeFunc g ps as bd)))
    (fun id => liftD (codeC P N K false (.exit id)))
    (fun x _ => liftD (codeC P N K false (.scope x)))
    (fun l => liftD (codeC P N K false (.label l)))
    (fun l => liftD (codeC P N K false (.goto l)))
    (liftD (codeC P N K false .ret))
    (fun w => liftD (codeC P N K false (.refuse w))) c
def CodeDOk (P : Program) (W0 : World) (N : Nat) (c : Code) (pv : Option SV) (fr : Tr SV) (h : HS) (rc : Bool) (x : X) (fr' : Tr SV) (h' : HS) (rc' : Bool) : Prop :=
  ∀ E a w (c0 : Frame) (cs : List Frame) (u : FrameMode), Rel W0 E h.hp.get w → Free E h.nx h'.nx h.ne h'.ne → FrOk E fr N a → ModeOk E pv u → ∀ Q : Exit → Act → List Frame → World → Prop,
    (∀ E' a' w', Rel W0 E' h'.hp.get w' → Step h.bar h.hp.get h.nx h'.nx h.ne h'.ne E E' w w' → FrOk E' fr' N a' → ∀ e, XOk E' x e → Q e a' ({ c0 with mode := afterM u rc' } :: cs) w') → c.wpSIn (Fw none) 0 P Q a ({ c0 with mode := afterM u rc } :: cs) w
theorem recover_mode {E : Env} {pv : Option SV} {u : FrameMode} (hu : ModeOk E pv u) (rc : Bool) (c0 : Frame) (cs : List Frame) : ∃ v, val E (recV pv rc) = some v ∧
    ((∃ cs', recoverD ({ c0 with mode := afterM u rc } :: cs) = some (v, cs') ∧ cs' = { c0 with mode := afterM u true } :: cs) ∨ (recoverD ({ c0 with mode := afterM u rc } :: cs) = none ∧ v = .nilIface ∧ afterM u true = afterM u rc)) := by
  cases pv with
  | none =>
    have hu : u = .returning := hu
    subst hu
    exact ⟨.nilIface, by cases rc <;> rfl, .inr ⟨by cases rc <;> rfl, rfl, by cases rc <;> rfl⟩⟩
  | some s =>
    obtain ⟨v, a, b⟩ := hu
    subst b
    cases rc with
    | false => exact ⟨v, a, .inl ⟨_, rfl, rfl⟩⟩
    | true => exact ⟨.nilIface, rfl, .inr ⟨rfl, rfl, rfl⟩⟩
theorem rd_run {o : Oper} {fr : Tr SV} {g : Tr SO} {k : SV → Bool} (hk : rdK P o fr g k = true) : ∃ sv, k sv = true ∧ ∀ fr' E N a w, Same fr fr' o.op.operands → Rel W0 E g.get w → FrOk E fr' N a → ∃ v, val E sv = some v ∧ (execOp a.eval o).run P w = .ok (.value v) w := by
  obtain ⟨fr0, h0⟩ := only_ops fr o.op.operands.toList
  rw [← rdK_congr (same_only h0)] at hk
  have hs : ∀ cs b, o.op ≠ .select cs b := by
    intro cs b e
    unfold rdK at hk
    simp only [e, rdPure] at hk
    cases allFlat fr0 (Op.select cs b).operands.toList <;> simp at hk
  obtain ⟨sv, k1, k2⟩ := rdK_ok (W0 := W0) hk
  refine ⟨sv, k1, fun fr' E N a w sm r fo => ?_⟩
  obtain ⟨b, f1, f2⟩ := forget hs h0 sm fo
  obtain ⟨v, e1, e2⟩ := k2 E N b w r f1
  exact ⟨v, e1, by rw [f2, e2]⟩
theorem opsR_ok {N K : Nat} {ops : Array Oper} (l : List Oper) : ∀ (pre : List Oper) (pv : Option SV) (fr frT : Tr SV) (h : HS) (rc : Bool) (k : Tr SV → HS → Bool → Bool), ops.toList = pre ++ l → Ag K fr frT → opsR P N K ops l pv fr h rc k = true →
    ∃ fr' frT' rc', k fr' h rc' = true ∧ Ag K fr' frT' ∧ ∀ E a w (c0 : Frame) (cs : List Frame) (u : FrameMode), Rel W0 E h.hp.get w → FrOk E frT N a → ModeOk E pv u → ∀ Q : Exit → Act → List Frame → World → Prop,
      (∀ a', FrOk E frT' N a' → Q .normal a' ({ c0 with mode := afterM u rc' } :: cs) w) → wpOpsSIn (Fw none) 0 P ops Q (List.range' pre.length l.length) a ({ c0 with mode := afterM u rc } :: cs) w := by
  induction l with
  | nil => intro pre pv fr frT h rc k _ ag hk; exact ⟨fr, frT, rc, hk, ag, fun E a w c0 cs u r fo hu Q hQ => hQ a fo⟩
  | cons o l ih =>
    intro pre pv fr frT h rc k hpre ag hk
    have hk : (match o.guard with
      | none => bif isRec o then putDK N o.dst (recV pv rc) fr fun fr' => opsR P N K ops l pv fr' h true k
        else (bif allRes K [] [] o.op.operands.toList then rdK P o fr h.hp fun sv => putDK N o.dst sv fr fun fr' => opsR P N K ops l pv fr' h rc k else false)
      | some _ => false) = true := hk
    split at hk
    case h_2 => cases hk
    rename_i hg
    have hat : ops[pre.length]? = some o := by
      rw [← Array.getElem?_toList, hpre]
      simp
    have hpre2 : ops.toList = (pre ++ [o]) ++ l := by rw [hpre]; simp
    have hlen : List.range' pre.length (o :: l).length = pre.length :: List.range' (pre ++ [o]).length l.length := by
      rw [List.length_cons, List.range'_succ]
      simp
    have agp : ∀ sv, Ag K (putD o.dst sv fr) (putD o.dst sv frT) := fun sv t ht => by
      cases o.dst with
      | none => exact ag t ht
      | some d =>
        show opd (fr.put d (some sv)) (.tmp t) = opd (frT.put d (some sv)) (.tmp t)
        rw [opd_put, opd_put]
        split
        · rfl
        · exact ag t ht
    have hw : ∀ a : Act, Region.wanted o (yielded ops a.tmps) = true := fun a => by unfold Region.wanted; rw [hg]
    cases hrec : isRec o with
    | true =>
      rw [hrec, cond_true] at hk
      obtain ⟨hk, hN⟩ := putDK_ok hk
      obtain ⟨fr', frT', rc', k1, ag', ok⟩ := ih (pre ++ [o]) pv _ _ h true k hpre2 (agp _) hk
      refine ⟨fr', frT', rc', k1, ag', fun E a w c0 cs u r fo hu Q hQ => ?_⟩
      rw [hlen]
      simp only [wpOpsSIn, hat, hw, if_true]
      refine ⟨fun _ _ => trivial, ?_⟩
      obtain ⟨v, e1, e2⟩ := recover_mode hu rc c0 cs
      have e3 : (execOp a.eval o).run P w = .ok .recover w := by
        unfold isRec at hrec
        split at hrec
        case h_2 => cases hrec
        rename_i c ho
        split at hrec
        case h_2 => cases hrec
        rename_i b hb
        split at hrec
        case h_2 => cases hrec
        unfold execOp
        rw [ho]
        simp only [Sem.run_bind, resolve, hb, Sem.run_pure, Result.andThen, invoke]
        rfl
      rw [e3]
      have next := ok E (a.put o.dst v) w c0 cs u r (fo.putD hN e1) hu Q hQ
      rcases e2 with ⟨cs', q1, rfl⟩ | ⟨q1, rfl, q2⟩
      · simp only [q1]
        exact next
      · simp only [q1]
        rw [← q2]
        exact next
    | false =>
      rw [hrec, cond_false] at hk
      obtain ⟨hres, hk⟩ := bif_true hk
      obtain ⟨sv, hk, hrd⟩ := rd_run (W0 := W0) hk
      obtain ⟨hk, hN⟩ := putDK_ok hk
      obtain ⟨fr', frT', rc', k1, ag', ok⟩ := ih (pre ++ [o]) pv _ _ h rc k hpre2 (agp _) hk
      refine ⟨fr', frT', rc', k1, ag', fun E a w c0 cs u r fo hu Q hQ => ?_⟩
      rw [hlen]
      simp only [wpOpsSIn, hat, hw, if_true]
      refine ⟨fun _ _ => trivial, ?_⟩
      have sm : Same fr frT o.op.operands := fun x hx => by
        have := allRes_ok hres x (by simpa using hx)
        exact opd_ag ag this
      obtain ⟨v, e1, e2⟩ := hrd frT E N a w sm r fo
      rw [e2]
      exact ok E (a.put o.dst v) w c0 cs u r (fo.putD hN e1) hu Q hQ
theorem liftD_ok {call : CallP} (hc : CallSoundP P W0 call) (hm : P.follows .mixedOrders = true) {N K F : Nat} {c : Code} {pv : Option SV} {fr frT : Tr SV} {h : HS} {rc : Bool} {k : KD} (ag : Ag K fr frT) (hok : codeOk c = true) (hk : (liftD (codeC P N K false c)).f call F pv fr h rc k = true) :
    ∃ x fr' frT' h' rc', k x fr' h' rc' = true ∧ Ag K fr' frT' ∧ Goes h h' ∧ CodeDOk P W0 N c pv frT h rc x frT' h' rc' := by
  unfold liftD at hk
  rw [Cl.then_eq] at hk
  obtain ⟨x, fr', frT', h', k1, ag', g, ok⟩ := codeC_ok (W0 := W0) hc hm c _ _ _ _ ag hok hk
  exact ⟨x, fr', frT', h', rc, k1, ag', g, fun E a w c0 cs u r fe fo hu Q hQ => wpSIn_of_wpIn rfl (ok ⟨none, .inr rfl⟩ E a w r fe fo _ fun E' a' w' r' st fo' e he => hQ E' a' w' r' st fo' e he)⟩
theorem codeD_ok {call : CallP} (hc : CallSoundP P W0 call) (hm : P.follows .mixedOrders = true) {N K F : Nat} (c : Code) : ∀ (pv : Option SV) (fr frT : Tr SV) (h : HS) (rc : Bool) (k : KD), Ag K fr frT → codeOk c = true → (codeD P N K c).f call F pv fr h rc k = true →
    ∃ x fr' frT' h' rc', k x fr' h' rc' = true ∧ Ag K fr' frT' ∧ Goes h h' ∧ CodeDOk P W0 N c pv frT h rc x frT' h' rc' := by
  induction c with
  | skip => intro pv fr frT h rc k ag hok hk; exact liftD_ok hc hm ag hok hk
  | label l => intro pv fr frT h rc k ag hok hk; exact liftD_ok hc hm ag hok hk
  | exit id => intro pv fr frT h rc k ag hok hk; exact liftD_ok hc hm ag hok hk
  | ret => intro pv fr frT h rc k ag hok hk; exact liftD_ok hc hm ag hok hk
  | rangeFunc g ps as bd _ _ => intro pv fr frT h rc k ag hok hk; exact liftD_ok hc hm ag hok hk
  | scope b ib => intro pv fr frT h rc k ag hok hk; exact liftD_ok hc hm ag hok hk
  | goto l => intro pv fr frT h rc k ag hok hk; exact liftD_ok hc hm ag hok hk
  | refuse w => intro pv fr frT h rc k ag hok hk; exact liftD_ok hc hm ag hok hk
  | block id x ix => intro pv fr frT h rc k ag hok hk; exact liftD_ok hc hm ag hok hk
  | loop x ix => intro pv fr frT h rc k ag hok hk; exact liftD_ok hc hm ag hok hk
  | region id ops draw =>
    intro pv fr frT h rc k ag hok hk
    have hk : (bif draw then liftD (codeC P N K false (.region id ops draw)) else bif anyRec ops.toList then (⟨fun _ _ pv fr h rc k => opsR P N K ops ops.toList pv fr h rc fun fr' h' rc' => k .normal fr' h' rc'⟩ : Cl CodeDF) else liftD (codeC P N K false (.region id ops draw))).f call F pv fr h rc k = true := hk
    cases hd : draw with
    | true =>
      subst hd
      exact liftD_ok hc hm ag hok hk
    | false =>
      subst hd
      rw [cond_false] at hk
      cases hr : anyRec ops.toList with
      | false =>
        rw [hr, cond_false] at hk
        exact liftD_ok hc hm ag hok hk
      | true =>
        rw [hr, cond_true] at hk
        obtain ⟨fr', frT', rc', k1, ag', ok⟩ := opsR_ok (W0 := W0) ops.toList [] pv fr frT h rc _ rfl ag hk
        refine ⟨.normal, fr', frT', h, rc', k1, ag', Goes.refl h, fun E a w c0 cs u r fe fo hu Q hQ => wpSIn_region ?_⟩
        have q := ok E a w c0 cs u r fo hu Q fun a' fo' => hQ E a' w r (Step.refl _ _ _ _ _ _) fo' _ rfl
        rw [List.range_eq_range']
        simpa using q
  | seq x y ix iy =>
    intro pv fr frT h rc k ag hok hk
    obtain ⟨o1, o2⟩ := bif_true (show (bif codeOk x then codeOk y else false) = true from hok)
    change (codeD P N K x).f call F pv fr h rc (fun x fr' h' rc' => X.rec ((codeD P N K y).f call F pv fr' h' rc' k) (fun id => k (.exit id) fr' h' rc') (k .ret fr' h' rc') (fun v => k (.panic v) fr' h' rc') x) = true at hk
    obtain ⟨x1, fr1, frT1, h1, rc1, k1, ag1, g1, c1⟩ := ix _ _ _ _ _ _ ag o1 hk
    cases x1 with
    | normal =>
      obtain ⟨x2, fr2, frT2, h2, rc2, k2, ag2, g2, c2⟩ := iy _ _ _ _ _ _ ag1 o2 k1
      refine ⟨x2, fr2, frT2, h2, rc2, k2, ag2, g1.trans g2, fun E a w c0 cs u r fe fo hu Q hQ => wpSIn_seq (c1 E a w c0 cs u r (fe.left g2.nx g2.ne) fo hu _ fun E' a' w' r' st fo' e he => ?_)⟩
      have he : e = .normal := he
      subst he
      exact c2 E' a' w' c0 cs u r' (fe.right st g1.nx g1.ne) fo' (hu.le st.le) Q fun E2 a2 w2 r2 st2 fo2 => hQ E2 a2 w2 r2 (Step.trans g1 g2 st st2) fo2
    | exit id => exact ⟨.exit id, fr1, frT1, h1, rc1, k1, ag1, g1, fun E a w c0 cs u r fe fo hu Q hQ => wpSIn_seq (c1 E a w c0 cs u r fe fo hu _ fun E' a' w' r' st fo' e he => by have he : e = .exit id := he; subst he; exact hQ E' a' w' r' st fo' _ rfl)⟩
    | ret => exact ⟨.ret, fr1, frT1, h1, rc1, k1, ag1, g1, fun E a w c0 cs u r fe fo hu Q hQ => wpSIn_seq (c1 E a w c0 cs u r fe fo hu _ fun E' a' w' r' st fo' e he => by have he : e = .ret := he; subst he; exact hQ E' a' w' r' st fo' _ rfl)⟩
    | panic s => exact ⟨.panic s, fr1, frT1, h1, rc1, k1, ag1, g1, fun E a w c0 cs u r fe fo hu Q hQ => wpSIn_seq (c1 E a w c0 cs u r fe fo hu _ fun E' a' w' r' st fo' e he => by have q := hQ E' a' w' r' st fo' e he; obtain ⟨v, _, he⟩ := he; subst he; exact q)⟩
  | cond c x y ix iy =>
    intro pv fr frT h rc k ag hok hk
    obtain ⟨o1, o2⟩ := bif_true (show (bif codeOk x then codeOk y else false) = true from hok)
    have hk2 : (bif resolved K [] [] c then (opdC c).then fun g => (⟨fun call F pv fr h rc k => g fr fun v => asBool v ((codeD P N K x).f call F pv fr h rc k) ((codeD P N K y).f call F pv fr h rc k)⟩ : Cl CodeDF) else ⟨fun _ _ _ _ _ _ _ => false⟩).f call F pv fr h rc k = true := hk
    cases hr : resolved K [] [] c with
    | false => rw [hr] at hk2; cases hk2
    | true =>
    rw [hr, cond_true] at hk2
    simp only [Cl.then_eq, opdC_at] at hk2
    rw [opd_ag ag hr] at hk2
    obtain ⟨b, hb, hk⟩ := asBool_ok hk2
    cases b with
    | true =>
      obtain ⟨x1, fr1, frT1, h1, rc1, k1, ag1, g1, c1⟩ := ix _ _ _ _ _ _ ag o1 hk
      refine ⟨x1, fr1, frT1, h1, rc1, k1, ag1, g1, fun E a w c0 cs u r fe fo hu Q hQ => wpSIn_cond (t := true) ?_ (c1 E a w c0 cs u r fe fo hu Q hQ)⟩
      have := opd_ok fo c
      rw [hb] at this
      exact (Option.some.inj this).symm
    | false =>
      obtain ⟨x1, fr1, frT1, h1, rc1, k1, ag1, g1, c1⟩ := iy _ _ _ _ _ _ ag o2 hk
      refine ⟨x1, fr1, frT1, h1, rc1, k1, ag1, g1, fun E a w c0 cs u r fe fo hu Q hQ => wpSIn_cond (t := false) ?_ (c1 E a w c0 cs u r fe fo hu Q hQ)⟩
      have := opd_ok fo c
      rw [hb] at this
      exact (Option.some.inj this).symm
/-! ### results -/
noncomputable def resK (P : Program) (fr : Tr SV) (g : Tr SO) : List ResultVar → (List SV → Bool) → Bool
  | [], k => k []
  | v :: r, k => match v with
    | .tmp t => opdK fr (.tmp t) fun s => resK P fr g r fun l => k (s :: l)
    | .cell a t => rdLoad P t fr g (.tmp a) fun s => resK P fr g r fun l => k (s :: l)
noncomputable def resC (P : Program) (K : Nat) (rs : List ResultVar) : Cl (Tr SV → Tr SO → (List SV → Bool) → Bool) :=
  List.rec ⟨fun _ _ k => k []⟩ (fun v _ ih => match v with
    | .tmp t => bif Nat.testBit K t then (opdC (.tmp t)).then fun g => ⟨fun fr h k => g fr fun s => ih.f fr h fun l => k (s :: l)⟩ else ⟨fun _ _ _ => false⟩
    | .cell a t => bif Nat.testBit K a then ⟨fun fr h k => rdLoad P t fr h (.tmp a) fun s => ih.f fr h fun l => k (s :: l)⟩ else ⟨fun _ _ _ => false⟩) rs
theorem rdLoad_same {t : TypeId} {fr fr' : Tr SV} {g : Tr SO} {x : Operand} {k : SV → Bool} (e : opd fr x = opd fr' x) : rdLoad P t fr g x k = rdLoad P t fr' g x k := by
  unfold rdLoad
  rw [opdK_eq, opdK_eq, e]
theorem resC_ok (K : Nat) (rs : List ResultVar) : ∀ (fr frT : Tr SV) (h : Tr SO) (k : List SV → Bool), Ag K fr frT → (resC P K rs).f fr h k = true → resK P frT h rs k = true := by
  induction rs with
  | nil => intro fr frT h k _ hk; exact hk
  | cons v r ih =>
    intro fr frT h k ag hk
    cases v with
    | tmp t =>
      have hk2 : (bif Nat.testBit K t then (opdC (.tmp t)).then fun g => (⟨fun fr h k => g fr fun s => (resC P K r).f fr h fun l => k (s :: l)⟩ : Cl (Tr SV → Tr SO → (List SV → Bool) → Bool)) else ⟨fun _ _ _ => false⟩).f fr h k = true := hk
      cases ht : Nat.testBit K t with
      | false => rw [ht] at hk2; cases hk2
      | true =>
        rw [ht, cond_true, Cl.then_eq] at hk2
        simp only [opdC_at] at hk2
        simp only [resK, opdK_eq]
        rw [ag t ht] at hk2
        exact ih _ _ _ _ ag hk2
    | cell a t =>
      have hk2 : (bif Nat.testBit K a then (⟨fun fr h k => rdLoad P t fr h (.tmp a) fun s => (resC P K r).f fr h fun l => k (s :: l)⟩ : Cl (Tr SV → Tr SO → (List SV → Bool) → Bool)) else ⟨fun _ _ _ => false⟩).f fr h k = true := hk
      cases ht : Nat.testBit K a with
      | false => rw [ht] at hk2; cases hk2
      | true =>
        rw [ht, cond_true] at hk2
        simp only [resK]
        have hk2 : rdLoad P t fr h (.tmp a) (fun s => (resC P K r).f fr h fun l => k (s :: l)) = true := hk2
        rw [rdLoad_same (ag a ht)] at hk2
        refine rdLoad_mono ?_ hk2
        intro s hs
        exact ih _ _ _ _ ag hs
where
  rdLoad_mono {t : TypeId} {fr : Tr SV} {g : Tr SO} {x : Operand} {k k' : SV → Bool} (hm : ∀ s, k s = true → k' s = true) (hk : rdLoad P t fr g x k = true) : rdLoad P t fr g x k' = true := by
    unfold rdLoad at hk ⊢
    rw [opdK_eq] at hk ⊢
    split at hk
    · split at hk
      · split at hk
        · split at hk
          · obtain ⟨h1, h2⟩ := bif_true hk
            rw [h1, cond_true]
            exact cells_mono (fun l hl => hm _ hl) _ _ h2
          · cases hk
        · obtain ⟨h1, h2⟩ := bif_true hk
          rw [h1, cond_true]
          split at h2
          · exact hm _ h2
          · cases h2
        · cases hk
      · cases hk
    · split at hk
      · split at hk
        · obtain ⟨sv, q1, q2⟩ := normK_ok' hk
          rw [q2]
          exact hm _ q1
        · cases hk
      · split at hk
        · split at hk
          · exact hm _ hk
          · cases hk
        · cases hk
      · cases hk
    · cases hk
  cells_mono {tr : Tr SV} {k k' : List SV → Bool} (hm : ∀ l, k l = true → k' l = true) (m : Nat) : ∀ i, cellsK tr i m k = true → cellsK tr i m k' = true := by
    revert k k'
    induction m with
    | zero => intro k k' hm i h; exact hm _ h
    | succ m ih =>
      intro k k' hm i h
      rw [cellsK_succ] at h ⊢
      split at h
      · exact ih (fun l hl => hm _ hl) _ h
      · cases h
  normK_ok' {v : Value} {k : SV → Bool} (h : normK v k = true) : ∃ sv, k sv = true ∧ ∀ k' : SV → Bool, normK v k' = k' sv := by
    unfold normK at h
    split at h
    · rename_i b
      exact ⟨.bool b, h, fun _ => rfl⟩
    · rename_i kd n
      rw [intK_eq] at h
      exact ⟨_, h, fun k' => intK_eq n fun n' => k' (.int kd n')⟩
    · rename_i n1 n2
      refine ⟨.lit v, h, fun k' => ?_⟩
      unfold normK
      split
      · exact absurd rfl (n1 _)
      · exact absurd rfl (n2 _ _)
      · rfl
abbrev FnF := CallP → Nat → List SV → HS → (SV → HS → Bool) → (SV → HS → Bool) → Bool
noncomputable def argsK (l : List SV) : Nat → Tr SV → (Tr SV → Bool) → Bool := List.rec (fun _ t k => k t) (fun s _ ih i t k => t.putK i (some s) fun t' => natK (i + 1) fun i' => ih i' t' k) l
theorem argsK_eq (l : List SV) : ∀ (i : Nat) (t : Tr SV) (k : Tr SV → Bool), argsK l i t k = k (trOf l i t) := by
  induction l with
  | nil => intro i t k; rfl
  | cons s r ih =>
    intro i t k
    show (t.putK i (some s) fun t' => natK (i + 1) fun i' => argsK r i' t' k) = _
    rw [Tr.putK_eq, natK_eq, ih]
    rfl
noncomputable def oneK2 (r : List SV) (k : SV → Bool) : Bool := List.rec (k (.tup [])) (fun s t _ => List.rec (k s) (fun u v _ => k (.tup (s :: u :: v))) t) r
theorem oneK2_eq (r : List SV) (k : SV → Bool) : oneK2 r k = k (match r with | [s] => s | r => .tup r) := by
  cases r with
  | nil => rfl
  | cons s t => cases t <;> rfl
/-- No marks and no closures of its own. -/
noncomputable def noMk (p : Pa) (fr : Tr SV) (k : Bool) : Bool := getP fr p fun v => asMks v (fun _ => false) k
/-- A deferred closure's body, worked out once. -/
noncomputable def dfnC (P : Program) (M : Nat) (f : FuncId) : Cl (CallP → Nat → List SV → Option SV → HS → (Bool → HS → Bool) → Bool) :=
  bif Nat.blt f M then
    (match P.funcs[f]? with
    | some fn => (match fn.body, fn.results.toList with
      | some c, [] => natC (fn.params.size + fn.nfree) fun n => natC (n + (fn.ntmps - n)) fun N => natC (fullM N) fun K => (codeD P N K c).then fun g => paC N fun pN =>
        ⟨fun call F l pv h k => Bool.rec false (argsK l 0 .e fun fr => g call F pv fr h false fun x fr' h' rc => X.rec (noMk pN fr' (k rc h')) (fun _ => false) (noMk pN fr' (k rc h')) (fun _ => false) x) (Nat.beq l.length n)⟩
      | _, _ => ⟨fun _ _ _ _ _ _ => false⟩)
    | none => ⟨fun _ _ _ _ _ _ => false⟩)
  else ⟨fun _ _ _ _ _ _ => false⟩
/-- A function's body, worked out once. -/
noncomputable def fnC (P : Program) (M : Nat) (f : FuncId) : Cl FnF :=
  bif Nat.blt f M then
    (match P.funcs[f]? with
    | some fn => (match fn.body with
      | some c => natC (fn.params.size + fn.nfree) fun n => natC (n + (fn.ntmps - n)) fun N => natC (Nat.lor (Nat.lor (keepM c) (resM fn.results.toList)) (Nat.shiftLeft 1 N)) fun K => (codeC P N K false c).then fun g => (resC P K fn.results.toList).then fun rs => paC N fun pN =>
        ⟨fun call F l h k kp => Bool.rec false (argsK l 0 .e fun fr => g call F fr h fun x fr' h' => X.rec
          (endK P (fun f l pv h k => (dfnC P M f).f call F l pv h k) pN fr' none h' fun pv h2 => Option.rec (rs fr' h2.hp fun r => oneK2 r fun s => k s h2) (fun s => kp s h2) pv) (fun _ => false)
          (endK P (fun f l pv h k => (dfnC P M f).f call F l pv h k) pN fr' none h' fun pv h2 => Option.rec (rs fr' h2.hp fun r => oneK2 r fun s => k s h2) (fun s => kp s h2) pv)
          (fun v => endK P (fun f l pv h k => (dfnC P M f).f call F l pv h k) pN fr' (some v) h' fun pv h2 => Option.rec (rs fr' h2.hp fun r => oneK2 r fun s => k s h2) (fun s => kp s h2) pv) x) (Nat.beq l.length n)⟩
      | none => ⟨fun _ _ _ _ _ _ => false⟩)
    | none => ⟨fun _ _ _ _ _ _ => false⟩)
  else ⟨fun _ _ _ _ _ _ => false⟩
def FnsOk (P : Program) (M : Nat) : Prop := ∀ f fn c, f < M → P.funcs[f]? = some fn → fn.body = some c → codeOk c = true
end Go.Proofs.YtgoccionghehoaaGreatDoor.Ev
namespace Go.Proofs.YtgoccionghehoaaGreatDoor.Ev
open Go Go.RowKit

variable [GTab] {P : Program} {W0 : World} [GOk W0]
noncomputable def paramsK (N : Nat) (ps : List Nat) : List SV → Tr SV → (Tr SV → Bool) → Bool :=
  List.rec (fun l fr k => List.rec (k fr) (fun _ _ _ => false) l) (fun p _ ih l fr k => List.rec false (fun s r _ => Bool.rec false (fr.putK p (some s) fun fr' => ih r fr' k) (Nat.blt p N)) l) ps
noncomputable def paramsP : List Nat → List SV → Tr SV → Tr SV
  | p :: ps, s :: l, fr => paramsP ps l (fr.put p (some s))
  | _, _, fr => fr
theorem paramsK_ok {N : Nat} (ps : List Nat) : ∀ {l : List SV} {fr : Tr SV} {k : Tr SV → Bool}, paramsK N ps l fr k = true → l.length = ps.length ∧ (∀ p ∈ ps, p < N) ∧ k (paramsP ps l fr) = true := by
  induction ps with
  | nil =>
    intro l fr k hk
    cases l with
    | nil => exact ⟨rfl, fun p hp => (by cases hp), hk⟩
    | cons s r => cases hk
  | cons p ps ih =>
    intro l fr k hk
    cases l with
    | nil => cases hk
    | cons s r =>
      have hk : (Bool.rec false (fr.putK p (some s) fun fr' => paramsK N ps r fr' k) (Nat.blt p N) : Bool) = true := hk
      obtain ⟨h1, h2⟩ := rec_true hk
      rw [Tr.putK_eq] at h2
      obtain ⟨e1, e2, e3⟩ := ih h2
      refine ⟨by simp [e1], fun q hq => ?_, e3⟩
      rcases List.mem_cons.1 hq with e | e
      · rw [e]; exact Nat.le_of_ble_eq_true h1
      · exact e2 q e
theorem paramsP_ok {E : Env} {N : Nat} (ps : List Nat) : ∀ {l : List SV} {vl : List Value} {fr : Tr SV} {tmps : Array Value}, (∀ p ∈ ps, p < N) → l.length = ps.length → vals E l = some vl → TmpsOk E fr N tmps →
    TmpsOk E (paramsP ps l fr) N ((ps.zip vl).foldl (fun tmps x => tmps.setIfInBounds x.1 x.2) tmps) ∧ vl.length = ps.length := by
  induction ps with
  | nil =>
    intro l vl fr tmps _ hl hv ht
    cases l with
    | nil =>
      simp only [vals, Option.some.injEq] at hv
      subst hv
      exact ⟨ht, rfl⟩
    | cons s r => simp at hl
  | cons p ps ih =>
    intro l vl fr tmps hp hl hv ht
    cases l with
    | nil => simp at hl
    | cons s r =>
      simp only [vals, Option.bind_eq_some_iff, Option.map_eq_some_iff] at hv
      obtain ⟨x, hx, y, hy, rfl⟩ := hv
      have hpN := hp p List.mem_cons_self
      have h1 : TmpsOk E (fr.put p (some s)) N (tmps.setIfInBounds p x) := by
        refine ⟨by simp [ht.size], fun t htN => ?_⟩
        rw [Tr.get_put]
        by_cases e : t = p
        · subst e
          rw [if_pos rfl]
          have : t < tmps.size := by rw [ht.size]; exact hpN
          simp [Array.getD, this, hx]
        · rw [if_neg e, ht.get t htN]
          congr 1
          simp only [Array.getD_eq_getD_getElem?]
          rw [Array.getElem?_setIfInBounds_ne (Ne.symm e)]
      obtain ⟨k1, k2⟩ := ih (fun q hq => hp q (List.mem_cons_of_mem _ hq)) (by simpa using hl) hy h1
      exact ⟨by simpa [paramsP] using k1, by simp [k2]⟩
theorem getD_ge {a : Array Value} {t N : Nat} (h : a.size = N) (ht : N ≤ t) : a.getD t undef = undef := by
  rw [Array.getD_eq_getD_getElem?, Array.getElem?_eq_none (by omega)]
  rfl
/-- The table up to N. -/
theorem upTo (fr : Tr SV) (N : Nat) : ∃ f : Tr SV, ∀ t, (t < N → f.get t = fr.get t) ∧ (N ≤ t → f.get t = none) := by
  induction N with
  | zero => exact ⟨.e, fun t => ⟨fun h => absurd h (by omega), fun _ => rfl⟩⟩
  | succ N ih =>
    obtain ⟨f, hf⟩ := ih
    refine ⟨f.put N (fr.get N), fun t => ⟨fun h => ?_, fun h => ?_⟩⟩
    · rw [Tr.get_put]
      split
      · rename_i e; rw [e]
      · exact (hf t).1 (by omega)
    · rw [Tr.get_put, if_neg (by omega)]
      exact (hf t).2 (by omega)
noncomputable def setK (h : HS) (id : Nat) (ok : LoopState → Bool) (st' : LoopState) (pf : Option Code → Option Code) (k : HS → Bool) : Bool :=
  getQ h.hp id fun so => asLp so fun st pend fr N ps as bd D => bif ok st && Nat.ble h.bar id then h.hp.putK id (some (.lp st' (pf pend) fr N ps as bd D)) fun hp => k ⟨hp, h.nx, h.ne, h.bar⟩ else false
theorem setK_ok {h : HS} {id : Nat} {ok : LoopState → Bool} {st' : LoopState} {pf : Option Code → Option Code} {k : HS → Bool} (hk : setK h id ok st' pf k = true) :
    ∃ st h', ok st = true ∧ k h' = true ∧ Goes h h' ∧ (h'.nx = h.nx ∧ h'.ne = h.ne) ∧ ∀ E w s, Rel W0 E h.hp.get w → E.at_ id = some s → ∃ r : Loop, w.heap[s.blk]? = some (.loop r) ∧ r.state = st ∧
      Rel W0 E h'.hp.get (w.putObj s.blk (.loop { r with state := st', pending := pf r.pending })) ∧ Step h.bar h.hp.get h.nx h'.nx h.ne h'.ne E E w (w.putObj s.blk (.loop { r with state := st', pending := pf r.pending })) := by
  unfold setK at hk
  rw [getQ_eq] at hk
  split at hk
  case h_2 => cases hk
  rename_i so hso
  obtain ⟨st, pend, fr, N, ps, as, bd, D, rfl, hk⟩ := asLp_ok hk
  obtain ⟨h1, hk⟩ := bif_true hk
  simp only [Bool.and_eq_true] at h1
  have hb := Nat.le_of_ble_eq_true h1.2
  rw [Tr.putK_eq] at hk
  refine ⟨st, _, h1.1, hk, Goes.upd hso hb, ⟨rfl, rfl⟩, fun E w s r hs => ?_⟩
  obtain ⟨s', q1, q2, fn, tmps, sD, q3, q4, q5⟩ := r.obj _ _ hso
  rw [hs] at q1
  obtain rfl := Option.some.inj q1
  exact ⟨_, q3, rfl, r.setLp hso hs q3 q4 q5, Step.upd hso hb hs (by simp) (fun j hj => World.putObj_heap_other hj)⟩
noncomputable def ylK (P : Program) (call : CallP) (F id : Nat) (l : List SV) (h : HS) (k : SV → HS → Bool) : Bool :=
  getQ h.hp id fun so => asLp so fun st pend fr N ps as bd D =>
    bif isReady st && (codeOk as && codeOk bd) then paramsK N ps.toList l fr fun fr1 => fr1.putK N (some (.lit undef)) fun fr2 => natC (fullM N) fun KM =>
      (codeC P N KM true as).f call F fr2 h fun x fr3 h3 => X.rec
        (setK h3 id isReady .busy (fun p => p) fun h4 => (codeC P N KM true bd).f call F fr3 h4 fun x fr5 h5 => X.rec
          (setK h5 id (fun _ => true) .ready (fun _ => none) fun h6 => k (.bool true) h6)
          (fun j => setK h5 id (fun _ => true) .done (fun _ => some (.exit j)) fun h6 => k (.bool false) h6)
          (setK h5 id (fun _ => true) .done (fun _ => some .ret) fun h6 => k (.bool false) h6) (fun _ => false) x)
        (fun _ => false) false (fun _ => false) x
    else false
theorem ylK_ok {call : CallP} (hm : P.follows .mixedOrders = true) (hc : CallSoundP P W0 call) {F id : Nat} {l : List SV} {h : HS} {k : SV → HS → Bool} (hk : ylK P call F id l h k = true) :
    ∃ sv h', k sv h' = true ∧ Goes h h' ∧ YieldOk P W0 id l h h' sv := by
  unfold ylK at hk
  rw [getQ_eq] at hk
  split at hk
  case h_2 => cases hk
  rename_i so hso
  obtain ⟨st, pend, fr, N, ps, as, bd, D, rfl, hk⟩ := asLp_ok hk
  obtain ⟨h1, hk2⟩ := bif_true hk
  clear hk
  simp only [Bool.and_eq_true] at h1
  obtain ⟨hrd, hoa, hob⟩ := h1
  obtain rfl := isReady_ok hrd
  obtain ⟨hlen, hps, hk⟩ := paramsK_ok _ hk2
  clear hk2
  rw [Tr.putK_eq] at hk
  rw [natC_eq] at hk
  obtain ⟨frT, hfrT⟩ := upTo (paramsP ps.toList l fr) N
  have ag2 : Ag (fullM N) ((paramsP ps.toList l fr).put N (some (.lit undef))) frT := fun t ht => by
    rw [fullM_bit, decide_eq_true_eq] at ht
    simp only [opd]
    rw [Tr.get_put]
    rcases Nat.lt_or_ge t N with h1 | h1
    · rw [if_neg (by omega), (hfrT t).1 h1]
    · rw [if_pos (by omega), (hfrT t).2 h1]
      rfl
  obtain ⟨x, fr3, frT3, h3, k3, ag3, g3, ok3⟩ := codeC_ok (W0 := W0) hc hm (F := F) as _ _ _ _ ag2 hoa hk
  cases x with
  | exit j => cases k3
  | ret => cases k3
  | panic s => cases k3
  | normal =>
  obtain ⟨st4, h4, hst4, k4, g4, ⟨n4, m4⟩, ok4⟩ := setK_ok (W0 := W0) k3
  obtain rfl := isReady_ok hst4
  obtain ⟨x, fr5, frT5, h5, k5, ag5, g5, ok5⟩ := codeC_ok (W0 := W0) hc hm (F := F) bd _ _ _ _ ag3 hob k4
  have fin : ∀ (jump : Option Code) (st6 : LoopState), (st6 = if jump.isNone then .ready else .done) → (jump = none ∧ x = .normal ∨ (∃ j, jump = some (.exit j) ∧ x = .exit j) ∨ (jump = some .ret ∧ x = .ret)) →
      setK h5 id (fun _ => true) st6 (fun _ => jump) (fun h6 => k (.bool jump.isNone) h6) = true → ∃ sv h', k sv h' = true ∧ Goes h h' ∧ YieldOk P W0 id l h h' sv := by
    intro jump st6 est hj hk6
    obtain ⟨st6', h6, _, k6, g6, ⟨n6, m6⟩, ok6⟩ := setK_ok (W0 := W0) hk6
    refine ⟨.bool jump.isNone, h6, k6, ((g3.trans g4).trans g5).trans g6, fun E w vl s r fe hv hs R hR => ?_⟩
    obtain ⟨s', q1, q2, fn, tmps, sD, hw, q4, ht⟩ := r.obj _ _ hso
    rw [hs] at q1
    obtain rfl := Option.some.inj q1
    obtain ⟨ht1, hvl⟩ := paramsP_ok ps.toList hps hlen hv ht
    have hy := run_yield (P := P) (args := vl.toArray) hw (by simpa using hvl)
    have q3 := g3.nx
    have q5 := g5.nx
    have p3 := g3.ne
    have p5 := g5.ne
    have hz : (ps.zip vl.toArray).foldl (fun tmps (x : Tmp × Value) => tmps.setIfInBounds x.1 x.2) tmps = (ps.toList.zip vl).foldl (fun tmps x => tmps.setIfInBounds x.1 x.2) tmps := by
      rw [← Array.foldl_toList, Array.toList_zip]
    refine ⟨fn, _, as, bd, hy, roundIn_of_wpIn trivial ?_⟩
    have fo : FrOk E frT N { tmps := (ps.zip vl.toArray).foldl (fun tmps (x : Tmp × Value) => tmps.setIfInBounds x.1 x.2) tmps, defers := [] } := by
      rw [hz]
      refine ⟨ht1.size, by rw [(hfrT N).2 (Nat.le_refl _)]; rfl, fun t => ?_⟩
      rcases Nat.lt_or_ge t N with h1 | h1
      · rw [(hfrT t).1 h1]
        exact ht1.get t h1
      · rw [(hfrT t).2 h1]
        simp only [Option.getD_none, val, Option.some.injEq]
        exact (getD_ge ht1.size h1).symm
    refine ok3 ⟨some s.blk, .inl rfl⟩ E _ w r (fe.left (by omega) (by omega)) fo _ fun E3 a3 w3 r3 s3 fo3 e3 he3 => ?_
    have he3 : e3 = .normal := he3
    subst he3
    have hs3 := s3.le.1 _ _ hs
    obtain ⟨r4, hr4, hst, R4, S4⟩ := ok4 E3 w3 s r3 hs3
    refine ⟨_, run_beginRound hr4 hst, ?_⟩
    have S34 := Step.trans g3 g4 s3 S4
    have f4 : Free E3 h4.nx h6.nx h4.ne h6.ne := fe.right S34 (by omega) (by omega)
    refine ok5 ⟨some s.blk, .inl rfl⟩ E3 a3 _ R4 (f4.left (by omega) (by omega)) fo3 _ fun E5 a5 w5 r5 s5 fo5 e5 he5 => ?_
    have hs5 := s5.le.1 _ _ hs3
    obtain ⟨r6, hr6, _, R6, S6⟩ := ok6 E5 w5 s r5 hs5
    have S36 := Step.trans (g3.trans g4) g5 S34 s5
    have S37 := Step.trans ((g3.trans g4).trans g5) g6 S36 S6
    have hend := run_endRound (P := P) jump hr6
    rw [← est] at hend
    have hq := hR E5 _ _ (by simp [val] : val E5 (.bool jump.isNone) = some (.bool jump.isNone)) R6 S37
    rcases hj with ⟨rfl, rfl⟩ | ⟨j, rfl, rfl⟩ | ⟨rfl, rfl⟩
    · have he5 : e5 = .normal := he5
      subst he5
      exact ⟨_, _, hend, hq⟩
    · have he5 : e5 = .exit j := he5
      subst he5
      exact ⟨_, _, hend, hq⟩
    · have he5 : e5 = .ret := he5
      subst he5
      exact ⟨_, _, hend, hq⟩
  cases x with
  | normal => exact fin none .ready rfl (.inl ⟨rfl, rfl⟩) k5
  | exit j => exact fin (some (.exit j)) .done rfl (.inr (.inl ⟨j, rfl, rfl⟩)) k5
  | ret => exact fin (some .ret) .done rfl (.inr (.inr ⟨rfl, rfl⟩)) k5
  | panic s => cases k5
end Go.Proofs.YtgoccionghehoaaGreatDoor.Ev
