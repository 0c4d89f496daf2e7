/- A row of operations whose own values lie on a stack: only what is read elsewhere is written into the frame. -/
import Derived.Test.YtjbjpjaeagopjaaGreatDoorEvOps
set_option linter.unusedSimpArgs false
set_option linter.unusedVariables false
set_option linter.unusedSectionVars false
namespace Go.Proofs.YtjbjpjaeagopjaaGreatDoor.Ev
open Go
variable [GTab] {P : Program} {W0 : World} [GOk W0]

structure FS where
  fr : Tr SV
  st : List SV
noncomputable def idx (env : List Nat) (t : Nat) : Option Nat := List.rec none (fun a _ ih => bif Nat.beq a t then some 0 else ih.map Nat.succ) env
theorem idx_cons (a : Nat) (env : List Nat) (t : Nat) : idx (a :: env) t = bif Nat.beq a t then some 0 else (idx env t).map Nat.succ := rfl
noncomputable def atC (i : Nat) : Cl (List SV → (SV → Bool) → Bool) := Nat.rec ⟨fun st k => List.rec false (fun a _ _ => k a) st⟩ (fun _ ih => ih.then fun g => ⟨fun st k => List.rec false (fun _ r _ => g r k) st⟩) i
noncomputable def nthS (st : List SV) : Nat → (SV → Bool) → Bool := List.rec (fun _ _ => false) (fun a _ ih i k => Nat.rec (k a) (fun j _ => ih j k) i) st
theorem nthS_eq (st : List SV) : ∀ (i : Nat) (k : SV → Bool), nthS st i k = match st[i]? with | some v => k v | none => false := by
  induction st with
  | nil => intro i k; rfl
  | cons a r ih =>
    intro i k
    cases i with
    | zero => rfl
    | succ j =>
      show nthS r j k = _
      rw [ih]
      simp
theorem atC_eq (i : Nat) : ∀ (st : List SV) (k : SV → Bool), (atC i).f st k = nthS st i k := by
  induction i with
  | zero => intro st k; cases st <;> rfl
  | succ j ih =>
    intro st k
    show ((atC j).then fun g => (⟨fun st k => List.rec false (fun _ r _ => g r k) st⟩ : Cl (List SV → (SV → Bool) → Bool))).f st k = _
    rw [Cl.then_eq]
    cases st with
    | nil => rfl
    | cons a r => exact ih r k
/-- Is the operand at hand? -/
noncomputable def resolved (K : Nat) (env : List Nat) (x : Operand) : Bool :=
  match x with
  | .tmp t => (match idx env t with | some _ => true | none => Nat.testBit K t)
  | _ => true
noncomputable def allRes (K : Nat) (env : List Nat) (l : List Operand) : Bool := List.rec true (fun x _ ih => bif resolved K env x then ih else false) l
noncomputable def opS (env : List Nat) (x : Operand) : Cl (FS → (SV → Bool) → Bool) :=
  match x with
  | .tmp t => (match idx env t with
    | some i => (atC i).then fun g => ⟨fun s k => FS.rec (fun _ st => g st k) s⟩
    | none => paC t fun p => ⟨fun s k => FS.rec (fun fr _ => getP fr p k) s⟩)
  | x => (opdC x).then fun g => ⟨fun _ k => g .e k⟩
/-- Frame and stack say together what the full frame says. -/
structure StOk (K : Nat) (env : List Nat) (s : FS) (frT : Tr SV) : Prop where
  fr : ∀ t, Nat.testBit K t = true → opd s.fr (.tmp t) = opd frT (.tmp t)
  st : ∀ t i, idx env t = some i → s.st[i]? = some (opd frT (.tmp t))
theorem opS_at {K : Nat} {env : List Nat} {s : FS} {frT : Tr SV} (h : StOk K env s frT) {x : Operand} (hr : resolved K env x = true) (k : SV → Bool) : (opS env x).f s k = k (opd frT x) := by
  unfold opS
  split
  · rename_i t
    cases hi : idx env t with
    | some i =>
      simp only [Cl.then_eq]
      show (atC i).f s.st k = _
      rw [atC_eq, nthS_eq, h.st t i hi]
    | none =>
      simp only [paC_eq]
      show getP s.fr (pa t) k = _
      rw [getP_eq, opdK_eq]
      simp only [resolved, hi] at hr
      rw [h.fr t hr]
  · rename_i hn
    rw [Cl.then_eq]
    show (opdC x).f .e k = _
    rw [opdC_at]
    cases x with
    | tmp t => exact absurd rfl (hn t)
    | const v => cases v <;> rfl
    | global g => rfl
    | func f => rfl
theorem allRes_ok {K : Nat} {env : List Nat} {l : List Operand} (h : allRes K env l = true) : ∀ x ∈ l, resolved K env x = true := by
  induction l with
  | nil => intro x hx; cases hx
  | cons y r ih =>
    obtain ⟨h1, h2⟩ := bif_true (show (bif resolved K env y then allRes K env r else false) = true from h)
    intro x hx
    rcases List.mem_cons.1 hx with e | e
    · rw [e]; exact h1
    · exact ih h2 x e
/-- The operands laid into the frame, for what looks at a frame. -/
noncomputable def matC (env : List Nat) (l : List Operand) : Cl (FS → Tr SV → (Tr SV → Bool) → Bool) :=
  List.rec ⟨fun _ fr k => k fr⟩ (fun x _ ih => match x with
    | .tmp t => (match idx env t with
      | some i => natC i fun i => paC t fun p => ih.then fun r => ⟨fun s fr k => FS.rec (fun _ st => nthS st i fun v => putP fr p v fun fr' => r s fr' k) s⟩
      | none => ih)
    | _ => ih) l
theorem matC_ok {K : Nat} {env : List Nat} {s : FS} {frT : Tr SV} (h : StOk K env s frT) (l : List Operand) : ∀ (fr : Tr SV) (k : Tr SV → Bool), (∀ x ∈ l, resolved K env x = true) → (∀ t, Nat.testBit K t = true → opd fr (.tmp t) = opd frT (.tmp t)) → (matC env l).f s fr k = true →
    ∃ fr', k fr' = true ∧ (∀ t, opd fr (.tmp t) = opd frT (.tmp t) → opd fr' (.tmp t) = opd frT (.tmp t)) ∧ ∀ t, Operand.tmp t ∈ l → opd fr' (.tmp t) = opd frT (.tmp t) := by
  induction l with
  | nil => intro fr k _ _ hk; exact ⟨fr, hk, fun _ e => e, fun t ht => by cases ht⟩
  | cons x r ih =>
    intro fr k hr hK hk
    have hr' : ∀ y ∈ r, resolved K env y = true := fun y hy => hr y (List.mem_cons_of_mem _ hy)
    have skip : (matC env r).f s fr k = true → (∀ t, x = .tmp t → opd fr (.tmp t) = opd frT (.tmp t)) → ∃ fr', k fr' = true ∧ (∀ t, opd fr (.tmp t) = opd frT (.tmp t) → opd fr' (.tmp t) = opd frT (.tmp t)) ∧ ∀ t, Operand.tmp t ∈ x :: r → opd fr' (.tmp t) = opd frT (.tmp t) := fun hk hx => by
      obtain ⟨fr', k1, k2, k3⟩ := ih fr k hr' hK hk
      refine ⟨fr', k1, k2, fun t ht => ?_⟩
      rcases List.mem_cons.1 ht with e | e
      · exact k2 t (hx t e.symm)
      · exact k3 t e
    cases x with
    | tmp t =>
      have hk2 : (match idx env t with
        | some i => natC i fun i => paC t fun p => (matC env r).then fun r => (⟨fun s fr k => FS.rec (fun _ st => nthS st i fun v => putP fr p v fun fr' => r s fr' k) s⟩ : Cl (FS → Tr SV → (Tr SV → Bool) → Bool))
        | none => matC env r).f s fr k = true := hk
      cases hi : idx env t with
      | none =>
        rw [hi] at hk2
        refine skip hk2 fun t' e => ?_
        cases e
        have := hr _ List.mem_cons_self
        simp only [resolved, hi] at this
        exact hK t this
      | some i =>
        rw [hi] at hk2
        simp only [natC_eq, paC_eq, Cl.then_eq] at hk2
        have hk3 : nthS s.st i (fun v => putP fr (pa t) v fun fr' => (matC env r).f s fr' k) = true := hk2
        rw [nthS_eq, h.st t i hi] at hk3
        simp only [putP_eq, Tr.putK_eq] at hk3
        have hp : ∀ t', opd (fr.put t (some (opd frT (.tmp t)))) (.tmp t') = if t' = t then opd frT (.tmp t) else opd fr (.tmp t') := fun t' => by
          simp only [opd]
          rw [Tr.get_put]
          split <;> rfl
        obtain ⟨fr', k1, k2, k3⟩ := ih _ k hr' (fun t' ht' => by
          rw [hp]
          split
          · rename_i e; rw [e]
          · exact hK t' ht') hk3
        refine ⟨fr', k1, fun t' e => k2 t' ?_, fun t' ht' => ?_⟩
        · rw [hp]
          split
          · rename_i e; rw [e]
          · exact e
        · rcases List.mem_cons.1 ht' with e | e
          · cases e
            refine k2 t ?_
            rw [hp, if_pos rfl]
          · exact k3 t' e
    | const v => exact skip hk fun t e => by cases e
    | global g => exact skip hk fun t e => by cases e
    | func f => exact skip hk fun t e => by cases e
noncomputable def genS (P : Program) (env : List Nat) (o : Oper) : Cl (OpG FS) := (matC env o.op.operands.toList).then fun m => ⟨fun call s h k => FS.rec (fun fr st => m ⟨fr, st⟩ fr fun fr' => opK P call o fr' h k) s⟩
/-- One operation over frame and stack. -/
noncomputable def compS (P : Program) (K : Nat) (env : List Nat) (o : Oper) : Cl (OpG FS) :=
  bif allRes K env o.op.operands.toList then compG (opS env) (genS P env o) P o else ⟨fun _ _ _ _ => false⟩
theorem compS_ok {K : Nat} {env : List Nat} {o : Oper} {call : CallK} {s : FS} {frT : Tr SV} {h : HS} {k : SV → HS → Bool} (hs : StOk K env s frT) (hk : (compS P K env o).f call s h k = true) :
    ∃ fr', Same fr' frT o.op.operands ∧ opK P call o fr' h k = true := by
  unfold compS at hk
  cases hr : allRes K env o.op.operands.toList with
  | false => rw [hr] at hk; cases hk
  | true =>
    rw [hr, cond_true] at hk
    have res := allRes_ok hr
    rcases compG_ok (fr := frT) (fun x hx k => opS_at hs (res x hx) k) hk with hk | hk
    · exact ⟨frT, fun _ _ => rfl, hk⟩
    · unfold genS at hk
      rw [Cl.then_eq] at hk
      have hk2 : (matC env o.op.operands.toList).f s s.fr (fun fr' => opK P call o fr' h k) = true := hk
      obtain ⟨fr', k1, _, k3⟩ := matC_ok hs o.op.operands.toList s.fr _ res hs.fr hk2
      refine ⟨fr', fun x hx => ?_, k1⟩
      cases x with
      | tmp t => exact k3 t (by simpa using hx)
      | const v => cases v <;> rfl
      | global g => rfl
      | func f => rfl
/-- The guard over frame and stack. -/
noncomputable def wantS (K : Nat) (env : List Nat) (ops : Array Oper) (o : Oper) : Cl (FS → Bool → Bool → Bool) :=
  match o.guard with
  | none => ⟨fun _ x _ => x⟩
  | some (g, want) => (match (ops[g]?).bind (·.dst) with
    | none => ⟨fun _ _ y => y⟩
    | some t => bif resolved K env (.tmp t) then (opS env (.tmp t)).then fun gt => (match want with
      | true => ⟨fun s x y => gt s fun v => asBoolD v x y (asOther v y)⟩
      | false => ⟨fun s x y => gt s fun v => asBoolD v y x (asOther v y)⟩) else ⟨fun _ _ _ => false⟩)
where
  asOther (v : SV) (y : Bool) : Bool := match v with
    | .lit (.bool _) => false
    | .bool _ => false
    | _ => y
theorem wantS_ok {K : Nat} {env : List Nat} {ops : Array Oper} {o : Oper} {s : FS} {frT : Tr SV} (hs : StOk K env s frT) {x y : Bool} (h : (wantS K env ops o).f s x y = true) : ∃ b, wants ops o frT = some b ∧ (bif b then x else y) = true := by
  unfold wantS at h
  split at h
  · rename_i e
    exact ⟨true, by unfold wants; rw [e], h⟩
  · rename_i g want e
    split at h
    · rename_i e2
      exact ⟨false, by unfold wants; rw [e]; simp only; rw [e2], h⟩
    · rename_i t e2
      cases hr : resolved K env (.tmp t) with
      | false => rw [hr] at h; cases h
      | true =>
      rw [hr, cond_true, Cl.then_eq] at h
      have other : wantS.asOther (opd frT (.tmp t)) y = true → ∃ b, wants ops o frT = some b ∧ (bif b then x else y) = true := fun q => by
        refine ⟨false, ?_, ?_⟩
        · unfold wants
          rw [e]
          simp only
          rw [e2]
          simp only
          unfold wantS.asOther at q
          split at q
          · cases q
          · cases q
          · rename_i n1 n2
            split
            · rename_i b eb; exact absurd eb (n2 b)
            · rename_i b eb; exact absurd eb (n1 b)
            · rfl
        · unfold wantS.asOther at q
          split at q
          · cases q
          · cases q
          · exact q
      cases want with
      | true =>
        simp only [opS_at hs hr] at h
        rcases asBoolD_ok h with h | ⟨b, e3, h⟩
        · exact other h
        · refine ⟨b, ?_, h⟩
          unfold wants
          rw [e]
          simp only
          rw [e2]
          simp only [e3]
          cases b <;> rfl
      | false =>
        simp only [opS_at hs hr] at h
        rcases asBoolD_ok h with h | ⟨b, e3, h⟩
        · exact other h
        · refine ⟨!b, ?_, by cases b <;> exact h⟩
          unfold wants
          rw [e]
          simp only
          rw [e2]
          simp only [e3]
          cases b <;> rfl

/-! ### a row of operations -/
noncomputable def pushC (N K : Nat) (again : Bool) (dst : Option Tmp) : Cl (FS → SV → (FS → Bool) → Bool) :=
  match dst with
  | none => ⟨fun s _ k => k s⟩
  | some d => bif Nat.blt d N then (bif Nat.testBit K d then paC d fun p => (match again with
      | true => ⟨fun s v k => FS.rec (fun fr st => putP fr p v fun fr' => k ⟨fr', v :: st⟩) s⟩
      | false => ⟨fun s v k => FS.rec (fun fr st => putP fr p v fun fr' => k ⟨fr', st⟩) s⟩) else (match again with
      | true => ⟨fun s v k => FS.rec (fun fr st => k ⟨fr, v :: st⟩) s⟩
      | false => ⟨fun s _ k => k s⟩)) else ⟨fun _ _ _ => false⟩
noncomputable def envOf (again : Bool) (dst : Option Tmp) (env : List Nat) : List Nat := match dst with
  | none => env
  | some d => bif again then d :: env else env
/-- It is read again in the row, or an elder value of it lies on the stack. -/
noncomputable def againB (m : Nat) (env : List Nat) (dst : Option Tmp) : Bool := match dst with
  | none => false
  | some d => bif Nat.testBit m d then true else (idx env d).isSome
theorem opd_put {fr : Tr SV} {d t : Nat} {v : SV} : opd (fr.put d (some v)) (.tmp t) = if t = d then v else opd fr (.tmp t) := by
  simp only [opd]
  rw [Tr.get_put]
  split <;> rfl
theorem pushC_ok {N K : Nat} {again : Bool} {dst : Option Tmp} {env : List Nat} {s : FS} {frT : Tr SV} {v : SV} {k : FS → Bool} (hs : StOk K env s frT) (ha : ∀ d, dst = some d → again = false → idx env d = none) (h : (pushC N K again dst).f s v k = true) : inN N dst ∧ ∃ s', k s' = true ∧ StOk K (envOf again dst env) s' (putD dst v frT) := by
  unfold pushC at h
  cases dst with
  | none => exact ⟨fun d e => (by cases e), s, h, hs⟩
  | some d =>
    simp only at h
    cases hd : Nat.blt d N with
    | false => rw [hd] at h; cases h
    | true =>
      rw [hd, cond_true] at h
      have st : ∀ fr', (∀ t, Nat.testBit K t = true → opd fr' (.tmp t) = opd (frT.put d (some v)) (.tmp t)) → StOk K (d :: env) ⟨fr', v :: s.st⟩ (frT.put d (some v)) := fun fr' hf => ⟨hf, fun t i hi => by
        rw [idx_cons, Tr.bif_beq] at hi
        rw [opd_put]
        split at hi
        · rename_i e
          obtain rfl := Option.some.inj hi
          rw [if_pos e.symm]
          rfl
        · rename_i e
          rw [if_neg (fun q => e q.symm)]
          simp only [Option.map_eq_some_iff] at hi
          obtain ⟨j, hj, rfl⟩ := hi
          have := hs.st t j hj
          simpa using this⟩
      have st2 : ∀ fr', idx env d = none → (∀ t, Nat.testBit K t = true → opd fr' (.tmp t) = opd (frT.put d (some v)) (.tmp t)) → StOk K env ⟨fr', s.st⟩ (frT.put d (some v)) := fun fr' hn hf => ⟨hf, fun t i hi => by
        rw [opd_put]
        split
        · rename_i e; subst e; rw [hn] at hi; cases hi
        · exact hs.st t i hi⟩
      refine ⟨fun d' e => by obtain rfl := Option.some.inj e; exact Nat.le_of_ble_eq_true hd, ?_⟩
      have put : ∀ t, Nat.testBit K t = true → opd (s.fr.put d (some v)) (.tmp t) = opd (frT.put d (some v)) (.tmp t) := fun t ht => by
        rw [opd_put, opd_put]
        split
        · rfl
        · exact hs.fr t ht
      cases hK : Nat.testBit K d with
      | true =>
        rw [hK, cond_true, paC_eq] at h
        cases again with
        | true =>
          have h2 : putP s.fr (pa d) v (fun fr' => k ⟨fr', v :: s.st⟩) = true := h
          rw [putP_eq, Tr.putK_eq] at h2
          exact ⟨_, h2, st _ put⟩
        | false =>
          have h2 : putP s.fr (pa d) v (fun fr' => k ⟨fr', s.st⟩) = true := h
          rw [putP_eq, Tr.putK_eq] at h2
          exact ⟨_, h2, st2 _ (ha d rfl rfl) put⟩
      | false =>
        have no : ∀ t, Nat.testBit K t = true → opd s.fr (.tmp t) = opd (frT.put d (some v)) (.tmp t) := fun t ht => by
          rw [opd_put]
          split
          · rename_i e; subst e; rw [hK] at ht; cases ht
          · exact hs.fr t ht
        rw [hK, cond_false] at h
        cases again with
        | true => exact ⟨_, h, st _ no⟩
        | false => exact ⟨s, h, st2 _ (ha d rfl rfl) no⟩
theorem againB_no {m : Nat} {env : List Nat} {dst : Option Tmp} : ∀ d, dst = some d → againB m env dst = false → idx env d = none := by
  intro d e h
  subst e
  simp only [againB] at h
  cases hm : Nat.testBit m d with
  | true => rw [hm] at h; cases h
  | false =>
    rw [hm, cond_false] at h
    cases hi : idx env d with
    | none => rfl
    | some i => rw [hi] at h; cases h
noncomputable def rdMask (l : List Operand) : Nat := List.rec 0 (fun x _ ih => match x with
  | .tmp t => Nat.lor (Nat.shiftLeft 1 t) ih
  | _ => ih) l
/-- What a drawing region, or the rest of a row, looks at. -/
noncomputable def drMask (ops : Array Oper) (l : List Oper) : Nat := List.rec 0 (fun o _ ih => Nat.lor (rdMask o.op.operands.toList) (Nat.lor (match o.guard with
  | some (g, _) => (match (ops[g]?).bind (·.dst) with
    | some t => Nat.shiftLeft 1 t
    | none => 0)
  | none => 0) ih)) l
noncomputable def opsS (P : Program) (N K : Nat) (ops : Array Oper) (l : List Oper) : List Nat → Cl (CallK → FS → HS → (Tr SV → HS → Bool) → Bool) :=
  List.rec (fun _ => ⟨fun _ s h k => FS.rec (fun fr _ => k fr h) s⟩) (fun o l ih env => (compS P K env o).then fun g => (pushC N K (againB (drMask ops l) env o.dst) o.dst).then fun pd => (match o.guard with
    | none => ⟨fun call s h k => g call s h fun v h' => pd s v fun s' => (ih (envOf (againB (drMask ops l) env o.dst) o.dst env)).f call s' h' k⟩
    | some _ => (wantS K env ops o).then fun wc => ⟨fun call s h k => wc s (g call s h fun v h' => pd s v fun s' => (ih (envOf (againB (drMask ops l) env o.dst) o.dst env)).f call s' h' k) (pd s (.lit undef) fun s' => (ih (envOf (againB (drMask ops l) env o.dst) o.dst env)).f call s' h k)⟩)) l
theorem opsS_ok {call : CallK} (hc : CallSound P W0 call) {N K : Nat} {ops : Array Oper} (l : List Oper) : ∀ (env : List Nat) (s : FS) (frT : Tr SV) (h : HS) (k : Tr SV → HS → Bool), StOk K env s frT → (opsS P N K ops l env).f call s h k = true →
    ∃ fr' frT' h', k fr' h' = true ∧ (∀ t, Nat.testBit K t = true → opd fr' (.tmp t) = opd frT' (.tmp t)) ∧ Goes h h' ∧ OpsOk P W0 N ops l frT h frT' h' := by
  induction l with
  | nil =>
    intro env s frT h k hs hk
    exact ⟨s.fr, frT, h, hk, hs.fr, Goes.refl h, fun E a w r _ fo Q hQ => hQ E a w r (Step.refl _ _ _ _ _ _) fo⟩
  | cons o l ih =>
    intro env s frT h k hs hk
    have step : (wants ops o frT = some true ∧ (compS P K env o).f call s h (fun v h' => (pushC N K (againB (drMask ops l) env o.dst) o.dst).f s v fun s' => (opsS P N K ops l (envOf (againB (drMask ops l) env o.dst) o.dst env)).f call s' h' k) = true) ∨ (wants ops o frT = some false ∧ (pushC N K (againB (drMask ops l) env o.dst) o.dst).f s (.lit undef) (fun s' => (opsS P N K ops l (envOf (againB (drMask ops l) env o.dst) o.dst env)).f call s' h k) = true) := by
      change ((compS P K env o).then fun g => (pushC N K (againB (drMask ops l) env o.dst) o.dst).then fun pd => (match o.guard with
        | none => (⟨fun call s h k => g call s h fun v h' => pd s v fun s' => (opsS P N K ops l (envOf (againB (drMask ops l) env o.dst) o.dst env)).f call s' h' k⟩ : Cl (CallK → FS → HS → (Tr SV → HS → Bool) → Bool))
        | some _ => (wantS K env ops o).then fun wc => ⟨fun call s h k => wc s (g call s h fun v h' => pd s v fun s' => (opsS P N K ops l (envOf (againB (drMask ops l) env o.dst) o.dst env)).f call s' h' k) (pd s (.lit undef) fun s' => (opsS P N K ops l (envOf (againB (drMask ops l) env o.dst) o.dst env)).f call s' h k)⟩)).f call s h k = true at hk
      rw [Cl.then_eq, Cl.then_eq] at hk
      cases hg : o.guard with
      | none =>
        rw [hg] at hk
        exact .inl ⟨by unfold wants; rw [hg], hk⟩
      | some x =>
        rw [hg] at hk
        simp only [Cl.then_eq] at hk
        obtain ⟨b, e, hb⟩ := wantS_ok hs hk
        cases b with
        | true => exact .inl ⟨e, hb⟩
        | false => exact .inr ⟨e, hb⟩
    rcases step with ⟨hw, hk⟩ | ⟨hw, hk⟩
    · obtain ⟨fr1, sm, hk⟩ := compS_ok hs hk
      obtain ⟨sv, h1, hk, g1, o1⟩ := opK_ok hc hk
      obtain ⟨hN, s', hk, hs'⟩ := pushC_ok hs againB_no hk
      obtain ⟨fr', frT', h', k1, ag, g2, o2⟩ := ih _ _ _ _ _ hs' hk
      refine ⟨fr', frT', h', k1, ag, g1.trans g2, fun E a w r fe fo Q hQ => ?_⟩
      simp only [wpList]
      rw [wants_ok hw (fun _ _ _ _ _ => rfl) fo, if_pos rfl]
      refine .inl (o1 frT E N a w sm r (fe.left g2.nx g2.ne) fo _ Q fun E' v w' e1 r' st => ?_)
      refine o2 E' _ w' r' (fe.right st g1.nx g1.ne) ((fo.le st.le).putD hN e1) Q fun E2 a2 w2 r2 st2 fo2 => hQ E2 a2 w2 r2 (Step.trans g1 g2 st st2) fo2
    · obtain ⟨hN, s', hk, hs'⟩ := pushC_ok hs againB_no hk
      obtain ⟨fr', frT', h', k1, ag, g2, o2⟩ := ih _ _ _ _ _ hs' hk
      refine ⟨fr', frT', h', k1, ag, g2, fun E a w r fe fo Q hQ => ?_⟩
      simp only [wpList]
      rw [wants_ok hw (fun _ _ _ _ _ => rfl) fo, if_neg (by simp)]
      exact o2 E _ w r fe (fo.putD hN rfl) Q hQ

/-! ### which slots are read elsewhere -/
noncomputable def upMask (l : List Oper) : Nat → Nat := List.rec (fun _ => 0) (fun o _ ih d => natC (rdMask o.op.operands.toList) fun r => natC (Nat.xor (Nat.lor r d) d) fun u => (match o.dst with
  | some t => natC (Nat.lor d (Nat.shiftLeft 1 t)) fun d' => Nat.lor u (ih d')
  | none => Nat.lor u (ih d))) l
noncomputable def keepM (c : Code) : Nat :=
  Code.rec (motive := fun _ => Nat) 0 (fun _ ops draw => Bool.rec (upMask ops.toList 0) (drMask ops ops.toList) draw) (fun _ _ a b => Nat.lor a b) (fun c _ _ a b => Nat.lor (rdMask [c]) (Nat.lor a b)) (fun _ _ b => b) (fun _ b => b)
    (fun _ _ _ _ _ _ => 0) (fun _ => 0) (fun _ b => b) (fun _ => 0) (fun _ => 0) 0 (fun _ => 0) c
noncomputable def resM (rs : List ResultVar) : Nat := List.rec 0 (fun v _ ih => Nat.lor (match v with
  | .tmp t => Nat.shiftLeft 1 t
  | .cell a _ => Nat.shiftLeft 1 a) ih) rs
/-- Everything that a drawing region looks at lies in the frame. -/
noncomputable def drawIn (K : Nat) (ops : Array Oper) (l : List Oper) : Bool := List.rec true (fun o _ ih => bif allRes K [] o.op.operands.toList && (match o.guard with
  | some (g, _) => (match (ops[g]?).bind (·.dst) with
    | some t => Nat.testBit K t
    | none => true)
  | none => true) then ih else false) l
theorem drawIn_ok {K : Nat} {ops : Array Oper} {l : List Oper} (h : drawIn K ops l = true) {fr frT : Tr SV} (ag : ∀ t, Nat.testBit K t = true → opd fr (.tmp t) = opd frT (.tmp t)) : ∀ o ∈ l, Same fr frT o.op.operands ∧ SameG ops o fr frT := by
  induction l with
  | nil => intro o ho; cases ho
  | cons y r ih =>
    obtain ⟨h1, h2⟩ := bif_true (show (bif allRes K [] y.op.operands.toList && (match y.guard with
      | some (g, _) => (match (ops[g]?).bind (·.dst) with
        | some t => Nat.testBit K t
        | none => true)
      | none => true) then drawIn K ops r else false) = true from h)
    simp only [Bool.and_eq_true] at h1
    intro o ho
    rcases List.mem_cons.1 ho with e | e
    · subst e
      refine ⟨fun x hx => ?_, fun g want t hg ht => ?_⟩
      · have := allRes_ok h1.1 x (by simpa using hx)
        cases x with
        | tmp t => exact ag t (by simpa [resolved, idx] using this)
        | const v => cases v <;> rfl
        | global g => rfl
        | func f => rfl
      · have := h1.2
        rw [hg] at this
        simp only at this
        rw [ht] at this
        exact ag t this
    · exact ih h2 o e
end Go.Proofs.YtjbjpjaeagopjaaGreatDoor.Ev
