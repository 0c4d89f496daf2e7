/- A row of operations whose own values lie on a stack: only what is read elsewhere is written into the frame. -/
import Derived.Test.YtjbjpjaeagopjaaGreatEvOps
set_option linter.unusedSimpArgs false
set_option linter.unusedVariables false
set_option linter.unusedSectionVars false
namespace Go.Proofs.YtjbjpjaeagopjaaGreat.Ev
open Go
variable [GTab] {P : Program} {W0 : World} [GOk W0]

structure FS where
  fr : Tr SV
  st : List SV
noncomputable def idx (env : List Nat) (t : Nat) : Option Nat := List.rec none (fun a _ ih => bif Nat.beq a t then some 0 else ih.map Nat.succ) env
theorem idx_cons (a : Nat) (env : List Nat) (t : Nat) : idx (a :: env) t = bif Nat.beq a t then some 0 else (idx env t).map Nat.succ := rfl
noncomputable def atC (i : Nat) : Cl (List SV → (SV → Bool) → Bool) := Nat.rec ⟨fun st k => List.rec false (fun a _ _ => k a) st⟩ (fun _ ih => ih.then fun g => ⟨fun st k => List.rec false (fun _ r _ => g r k) st⟩) i
noncomputable def nthS (st : List SV) : Nat → (SV → Bool) → Bool := List.rec (fun _ _ => false) (fun a _ ih i k => Nat.rec (k a) (fun j _ => ih j k) i) st
theorem nthS_eq (st : List SV) : ∀ (i : Nat) (k : SV → Bool), nthS st i k = match st[i]? with | some v => k v | none => false := by
  induction st with
  | nil => intro i k; rfl
  | cons a r ih =>
    intro i k
    cases i with
    | zero => rfl
    | succ j =>
      show nthS r j k = _
      rw [ih]
      simp
theorem atC_eq (i : Nat) : ∀ (st : List SV) (k : SV → Bool), (atC i).f st k = nthS st i k := by
  induction i with
  | zero => intro st k; cases st <;> rfl
  | succ j ih =>
    intro st k
    show ((atC j).then fun g => (⟨fun st k => List.rec false (fun _ r _ => g r k) st⟩ : Cl (List SV → (SV → Bool) → Bool))).f st k = _
    rw [Cl.then_eq]
    cases st with
    | nil => rfl
    | cons a r => exact ih r k
abbrev Al := List (Nat × Operand)
/-- What the slot is another name of. -/
noncomputable def alias (al : Al) (t : Nat) : Option Operand := List.rec none (fun a _ ih => bif Nat.beq a.1 t then some a.2 else ih) al
theorem alias_cons (a : Nat × Operand) (al : Al) (t : Nat) : alias (a :: al) t = bif Nat.beq a.1 t then some a.2 else alias al t := rfl
noncomputable def isTmp (x : Operand) (d : Nat) : Bool := match x with
  | .tmp u => Nat.beq u d
  | _ => false
noncomputable def dropA (d : Nat) (al : Al) : Al := List.rec [] (fun a _ ih => bif Nat.beq a.1 d then ih else bif isTmp a.2 d then ih else a :: ih) al
/-- Is the operand at hand? -/
noncomputable def resolved (K : Nat) (env : List Nat) (al : Al) (x : Operand) : Bool :=
  match x with
  | .tmp t => (match alias al t with
    | some _ => true
    | none => (match idx env t with | some _ => true | none => Nat.testBit K t))
  | _ => true
noncomputable def allRes (K : Nat) (env : List Nat) (al : Al) (l : List Operand) : Bool := List.rec true (fun x _ ih => bif resolved K env al x then ih else false) l
noncomputable def opS (env : List Nat) (al : Al) (x : Operand) : Cl (FS → (SV → Bool) → Bool) :=
  match x with
  | .tmp t => (match alias al t with
    | some y => (opdC y).then fun g => ⟨fun s k => FS.rec (fun fr _ => g fr k) s⟩
    | none => (match idx env t with
      | some i => (atC i).then fun g => ⟨fun s k => FS.rec (fun _ st => g st k) s⟩
      | none => paC t fun p => ⟨fun s k => FS.rec (fun fr _ => getP fr p k) s⟩))
  | x => (opdC x).then fun g => ⟨fun _ k => g .e k⟩
/-- Frame, stack and second names say together what the full frame says. -/
structure StOk (K : Nat) (env : List Nat) (al : Al) (s : FS) (frT : Tr SV) : Prop where
  fr : ∀ t, Nat.testBit K t = true → opd s.fr (.tmp t) = opd frT (.tmp t)
  st : ∀ t i, idx env t = some i → s.st[i]? = some (opd frT (.tmp t))
  al : ∀ t x, (t, x) ∈ al → opd frT (.tmp t) = opd frT x ∧ ∀ u, x = .tmp u → Nat.testBit K u = true
theorem alias_mem {al : Al} {t : Nat} {x : Operand} (h : alias al t = some x) : (t, x) ∈ al := by
  induction al with
  | nil => cases h
  | cons a r ih =>
    rw [alias_cons, Tr.bif_beq] at h
    split at h
    · rename_i e
      obtain rfl := Option.some.inj h
      rw [← e]
      exact List.mem_cons_self
    · exact List.mem_cons_of_mem _ (ih h)
theorem opd_con {fr fr' : Tr SV} {x : Operand} (h : ∀ t, x ≠ .tmp t) : opd fr x = opd fr' x := by
  cases x with
  | tmp t => exact absurd rfl (h t)
  | const v => cases v <;> rfl
  | global g => rfl
  | func f => rfl
theorem opS_at {K : Nat} {env : List Nat} {al : Al} {s : FS} {frT : Tr SV} (h : StOk K env al s frT) {x : Operand} (hr : resolved K env al x = true) (k : SV → Bool) : (opS env al x).f s k = k (opd frT x) := by
  unfold opS
  split
  · rename_i t
    cases ha : alias al t with
    | some y =>
      simp only [Cl.then_eq]
      show (opdC y).f s.fr k = _
      obtain ⟨h1, h2⟩ := h.al t y (alias_mem ha)
      rw [opdC_at, h1]
      congr 1
      by_cases hy : ∃ u, y = .tmp u
      · obtain ⟨u, rfl⟩ := hy
        exact h.fr u (h2 u rfl)
      · exact opd_con fun t e => hy ⟨t, e⟩
    | none =>
    cases hi : idx env t with
    | some i =>
      simp only [Cl.then_eq]
      show (atC i).f s.st k = _
      rw [atC_eq, nthS_eq, h.st t i hi]
    | none =>
      simp only [paC_eq]
      show getP s.fr (pa t) k = _
      rw [getP_eq, opdK_eq]
      simp only [resolved, ha, hi] at hr
      rw [h.fr t hr]
  · rename_i hn
    rw [Cl.then_eq]
    show (opdC x).f .e k = _
    rw [opdC_at, opd_con (fr' := frT) fun t e => hn t e]
theorem allRes_ok {K : Nat} {env : List Nat} {al : Al} {l : List Operand} (h : allRes K env al l = true) : ∀ x ∈ l, resolved K env al x = true := by
  induction l with
  | nil => intro x hx; cases hx
  | cons y r ih =>
    obtain ⟨h1, h2⟩ := bif_true (show (bif resolved K env al y then allRes K env al r else false) = true from h)
    intro x hx
    rcases List.mem_cons.1 hx with e | e
    · rw [e]; exact h1
    · exact ih h2 x e
/-- The operands laid into the frame, for what looks at a frame. -/
noncomputable def matC (env : List Nat) (al : Al) (l : List Operand) : Cl (FS → Tr SV → (Tr SV → Bool) → Bool) :=
  List.rec ⟨fun _ fr k => k fr⟩ (fun x _ ih => match x with
    | .tmp t => (match alias al t, idx env t with
      | none, none => ih
      | _, _ => (opS env al (.tmp t)).then fun g => paC t fun p => ih.then fun r => ⟨fun s fr k => g s fun v => putP fr p v fun fr' => r s fr' k⟩)
    | _ => ih) l
theorem matC_ok {K : Nat} {env : List Nat} {al : Al} {s : FS} {frT : Tr SV} (h : StOk K env al s frT) (l : List Operand) : ∀ (fr : Tr SV) (k : Tr SV → Bool), (∀ x ∈ l, resolved K env al x = true) → (∀ t, Nat.testBit K t = true → opd fr (.tmp t) = opd frT (.tmp t)) → (matC env al l).f s fr k = true →
    ∃ fr', k fr' = true ∧ (∀ t, opd fr (.tmp t) = opd frT (.tmp t) → opd fr' (.tmp t) = opd frT (.tmp t)) ∧ ∀ t, Operand.tmp t ∈ l → opd fr' (.tmp t) = opd frT (.tmp t) := by
  induction l with
  | nil => intro fr k _ _ hk; exact ⟨fr, hk, fun _ e => e, fun t ht => by cases ht⟩
  | cons x r ih =>
    intro fr k hr hK hk
    have hr' : ∀ y ∈ r, resolved K env al y = true := fun y hy => hr y (List.mem_cons_of_mem _ hy)
    have skip : (matC env al r).f s fr k = true → (∀ t, x = .tmp t → opd fr (.tmp t) = opd frT (.tmp t)) → ∃ fr', k fr' = true ∧ (∀ t, opd fr (.tmp t) = opd frT (.tmp t) → opd fr' (.tmp t) = opd frT (.tmp t)) ∧ ∀ t, Operand.tmp t ∈ x :: r → opd fr' (.tmp t) = opd frT (.tmp t) := fun hk hx => by
      obtain ⟨fr', k1, k2, k3⟩ := ih fr k hr' hK hk
      refine ⟨fr', k1, k2, fun t ht => ?_⟩
      rcases List.mem_cons.1 ht with e | e
      · exact k2 t (hx t e.symm)
      · exact k3 t e
    cases x with
    | tmp t =>
      have res := hr _ List.mem_cons_self
      have main : ((opS env al (.tmp t)).then fun g => paC t fun p => (matC env al r).then fun r => (⟨fun s fr k => g s fun v => putP fr p v fun fr' => r s fr' k⟩ : Cl (FS → Tr SV → (Tr SV → Bool) → Bool))).f s fr k = true → ∃ fr', k fr' = true ∧ (∀ t, opd fr (.tmp t) = opd frT (.tmp t) → opd fr' (.tmp t) = opd frT (.tmp t)) ∧ ∀ t', Operand.tmp t' ∈ Operand.tmp t :: r → opd fr' (.tmp t') = opd frT (.tmp t') := fun hk2 => by
        simp only [paC_eq, Cl.then_eq, opS_at h res, putP_eq, Tr.putK_eq] at hk2
        have hp : ∀ t', opd (fr.put t (some (opd frT (.tmp t)))) (.tmp t') = if t' = t then opd frT (.tmp t) else opd fr (.tmp t') := fun t' => by
          simp only [opd]
          rw [Tr.get_put]
          split <;> rfl
        obtain ⟨fr', k1, k2, k3⟩ := ih _ k hr' (fun t' ht' => by
          rw [hp]
          split
          · rename_i e; rw [e]
          · exact hK t' ht') hk2
        refine ⟨fr', k1, fun t' e => k2 t' ?_, fun t' ht' => ?_⟩
        · rw [hp]
          split
          · rename_i e; rw [e]
          · exact e
        · rcases List.mem_cons.1 ht' with e | e
          · cases e
            refine k2 t ?_
            rw [hp, if_pos rfl]
          · exact k3 t' e
      have hk2 : (match alias al t, idx env t with
        | none, none => matC env al r
        | _, _ => (opS env al (.tmp t)).then fun g => paC t fun p => (matC env al r).then fun r => (⟨fun s fr k => g s fun v => putP fr p v fun fr' => r s fr' k⟩ : Cl (FS → Tr SV → (Tr SV → Bool) → Bool))).f s fr k = true := hk
      cases ha : alias al t with
      | some y => rw [ha] at hk2; exact main hk2
      | none =>
        cases hi : idx env t with
        | some i => rw [ha, hi] at hk2; exact main hk2
        | none =>
          rw [ha, hi] at hk2
          refine skip hk2 fun t' e => ?_
          cases e
          simp only [resolved, ha, hi] at res
          exact hK t res
    | const v => exact skip hk fun t e => by cases e
    | global g => exact skip hk fun t e => by cases e
    | func f => exact skip hk fun t e => by cases e
noncomputable def genS (P : Program) (env : List Nat) (al : Al) (o : Oper) : Cl (OpG FS) := (matC env al o.op.operands.toList).then fun m => ⟨fun call s h k => FS.rec (fun fr st => m ⟨fr, st⟩ fr fun fr' => opK P call o fr' h fun sv h' => normH h' fun h' => k sv h') s⟩
/-- One operation over frame and stack. -/
noncomputable def compS (P : Program) (K : Nat) (env : List Nat) (al : Al) (o : Oper) : Cl (OpG FS) :=
  bif allRes K env al o.op.operands.toList then compG (opS env al) (genS P env al o) P o else ⟨fun _ _ _ _ => false⟩
theorem compS_ok {K : Nat} {env : List Nat} {al : Al} {o : Oper} {call : CallK} {s : FS} {frT : Tr SV} {h : HS} {k : SV → HS → Bool} (hs : StOk K env al s frT) (hk : (compS P K env al o).f call s h k = true) :
    ∃ fr', Same fr' frT o.op.operands ∧ opK P call o fr' h k = true := by
  unfold compS at hk
  cases hr : allRes K env al o.op.operands.toList with
  | false => rw [hr] at hk; cases hk
  | true =>
    rw [hr, cond_true] at hk
    have res := allRes_ok hr
    rcases compG_ok (fr := frT) (fun x hx k => opS_at hs (res x hx) k) hk with hk | hk
    · exact ⟨frT, fun _ _ => rfl, hk⟩
    · unfold genS at hk
      rw [Cl.then_eq] at hk
      have hk2 : (matC env al o.op.operands.toList).f s s.fr (fun fr' => opK P call o fr' h fun sv h' => normH h' fun h' => k sv h') = true := hk
      simp only [normH_eq] at hk2
      obtain ⟨fr', k1, _, k3⟩ := matC_ok hs o.op.operands.toList s.fr _ res hs.fr hk2
      refine ⟨fr', fun x hx => ?_, k1⟩
      cases x with
      | tmp t => exact k3 t (by simpa using hx)
      | const v => cases v <;> rfl
      | global g => rfl
      | func f => rfl
/-- The guard over frame and stack. -/
noncomputable def wantS (K : Nat) (env : List Nat) (al : Al) (ops : Array Oper) (o : Oper) : Cl (FS → Bool → Bool → Bool) :=
  match o.guard with
  | none => ⟨fun _ x _ => x⟩
  | some (g, want) => (match (ops[g]?).bind (·.dst) with
    | none => ⟨fun _ _ y => y⟩
    | some t => bif resolved K env al (.tmp t) then (opS env al (.tmp t)).then fun gt => (match want with
      | true => ⟨fun s x y => gt s fun v => asBoolD v x y (asOther v y)⟩
      | false => ⟨fun s x y => gt s fun v => asBoolD v y x (asOther v y)⟩) else ⟨fun _ _ _ => false⟩)
where
  asOther (v : SV) (y : Bool) : Bool := match v with
    | .lit (.bool _) => false
    | .bool _ => false
    | _ => y
theorem wantS_ok {K : Nat} {env : List Nat} {al : Al} {ops : Array Oper} {o : Oper} {s : FS} {frT : Tr SV} (hs : StOk K env al s frT) {x y : Bool} (h : (wantS K env al ops o).f s x y = true) : ∃ b, wants ops o frT = some b ∧ (bif b then x else y) = true := by
  unfold wantS at h
  split at h
  · rename_i e
    exact ⟨true, by unfold wants; rw [e], h⟩
  · rename_i g want e
    split at h
    · rename_i e2
      exact ⟨false, by unfold wants; rw [e]; simp only; rw [e2], h⟩
    · rename_i t e2
      cases hr : resolved K env al (.tmp t) with
      | false => rw [hr] at h; cases h
      | true =>
      rw [hr, cond_true, Cl.then_eq] at h
      have other : wantS.asOther (opd frT (.tmp t)) y = true → ∃ b, wants ops o frT = some b ∧ (bif b then x else y) = true := fun q => by
        refine ⟨false, ?_, ?_⟩
        · unfold wants
          rw [e]
          simp only
          rw [e2]
          simp only
          unfold wantS.asOther at q
          split at q
          · cases q
          · cases q
          · rename_i n1 n2
            split
            · rename_i b eb; exact absurd eb (n2 b)
            · rename_i b eb; exact absurd eb (n1 b)
            · rfl
        · unfold wantS.asOther at q
          split at q
          · cases q
          · cases q
          · exact q
      cases want with
      | true =>
        simp only [opS_at hs hr] at h
        rcases asBoolD_ok h with h | ⟨b, e3, h⟩
        · exact other h
        · refine ⟨b, ?_, h⟩
          unfold wants
          rw [e]
          simp only
          rw [e2]
          simp only [e3]
          cases b <;> rfl
      | false =>
        simp only [opS_at hs hr] at h
        rcases asBoolD_ok h with h | ⟨b, e3, h⟩
        · exact other h
        · refine ⟨!b, ?_, by cases b <;> exact h⟩
          unfold wants
          rw [e]
          simp only
          rw [e2]
          simp only [e3]
          cases b <;> rfl

/-! ### a row of operations -/
noncomputable def pushC (N K : Nat) (again : Bool) (dst : Option Tmp) : Cl (FS → SV → (FS → Bool) → Bool) :=
  match dst with
  | none => ⟨fun s _ k => k s⟩
  | some d => bif Nat.blt d N then (bif Nat.testBit K d then paC d fun p => (match again with
      | true => ⟨fun s v k => FS.rec (fun fr st => putP fr p v fun fr' => k ⟨fr', v :: st⟩) s⟩
      | false => ⟨fun s v k => FS.rec (fun fr st => putP fr p v fun fr' => k ⟨fr', st⟩) s⟩) else (match again with
      | true => ⟨fun s v k => FS.rec (fun fr st => k ⟨fr, v :: st⟩) s⟩
      | false => ⟨fun s _ k => k s⟩)) else ⟨fun _ _ _ => false⟩
noncomputable def envOf (again : Bool) (dst : Option Tmp) (env : List Nat) : List Nat := match dst with
  | none => env
  | some d => bif again then d :: env else env
/-- It is read again in the row, or an elder value of it lies on the stack. -/
noncomputable def againB (m : Nat) (env : List Nat) (dst : Option Tmp) : Bool := match dst with
  | none => false
  | some d => bif Nat.testBit m d then true else (idx env d).isSome
/-- The second names that are left behind a write. -/
noncomputable def alOf (dst : Option Tmp) (al : Al) : Al := match dst with
  | none => al
  | some d => dropA d al
theorem mem_dropA {d : Nat} {al : Al} {t : Nat} {x : Operand} (h : (t, x) ∈ dropA d al) : t ≠ d ∧ x ≠ .tmp d ∧ (t, x) ∈ al := by
  induction al with
  | nil => cases h
  | cons a r ih =>
    have e : dropA d (a :: r) = bif Nat.beq a.1 d then dropA d r else bif isTmp a.2 d then dropA d r else a :: dropA d r := rfl
    rw [e] at h
    have up : (t ≠ d ∧ x ≠ .tmp d ∧ (t, x) ∈ r) → (t ≠ d ∧ x ≠ .tmp d ∧ (t, x) ∈ a :: r) := fun ⟨p, q, m⟩ => ⟨p, q, List.mem_cons_of_mem _ m⟩
    cases h1 : Nat.beq a.1 d with
    | true => rw [h1] at h; exact up (ih h)
    | false =>
      rw [h1, cond_false] at h
      cases h2 : isTmp a.2 d with
      | true => rw [h2] at h; exact up (ih h)
      | false =>
        rw [h2, cond_false] at h
        rcases List.mem_cons.1 h with q | q
        · subst q
          refine ⟨fun q => ?_, fun q => ?_, List.mem_cons_self⟩
          · have q : t = d := q
            rw [q] at h1
            simp at h1
          · have q : x = .tmp d := q
            rw [q] at h2
            simp [isTmp] at h2
        · exact up (ih q)
theorem opd_put {fr : Tr SV} {d t : Nat} {v : SV} : opd (fr.put d (some v)) (.tmp t) = if t = d then v else opd fr (.tmp t) := by
  simp only [opd]
  rw [Tr.get_put]
  split <;> rfl
theorem pushC_ok {N K : Nat} {again : Bool} {dst : Option Tmp} {env : List Nat} {al : Al} {s : FS} {frT : Tr SV} {v : SV} {k : FS → Bool} (hs : StOk K env al s frT) (ha : ∀ d, dst = some d → again = false → idx env d = none) (h : (pushC N K again dst).f s v k = true) : inN N dst ∧ ∃ s', k s' = true ∧ StOk K (envOf again dst env) (alOf dst al) s' (putD dst v frT) := by
  unfold pushC at h
  cases dst with
  | none => exact ⟨fun d e => (by cases e), s, h, hs⟩
  | some d =>
    simp only at h
    cases hd : Nat.blt d N with
    | false => rw [hd] at h; cases h
    | true =>
      rw [hd, cond_true] at h
      have alD : ∀ t x, (t, x) ∈ dropA d al → opd (frT.put d (some v)) (.tmp t) = opd (frT.put d (some v)) x ∧ ∀ u, x = .tmp u → Nat.testBit K u = true := fun t x hm => by
        obtain ⟨q1, q2, q3⟩ := mem_dropA hm
        obtain ⟨z1, z2⟩ := hs.al t x q3
        refine ⟨?_, z2⟩
        rw [opd_put, if_neg q1, z1]
        by_cases hx : ∃ u, x = .tmp u
        · obtain ⟨u, rfl⟩ := hx
          rw [opd_put, if_neg (fun e => q2 (by rw [e]))]
        · exact opd_con fun t e => hx ⟨t, e⟩
      have st : ∀ fr', (∀ t, Nat.testBit K t = true → opd fr' (.tmp t) = opd (frT.put d (some v)) (.tmp t)) → StOk K (d :: env) (dropA d al) ⟨fr', v :: s.st⟩ (frT.put d (some v)) := fun fr' hf => ⟨hf, fun t i hi => by
        rw [idx_cons, Tr.bif_beq] at hi
        rw [opd_put]
        split at hi
        · rename_i e
          obtain rfl := Option.some.inj hi
          rw [if_pos e.symm]
          rfl
        · rename_i e
          rw [if_neg (fun q => e q.symm)]
          simp only [Option.map_eq_some_iff] at hi
          obtain ⟨j, hj, rfl⟩ := hi
          have := hs.st t j hj
          simpa using this, alD⟩
      have st2 : ∀ fr', idx env d = none → (∀ t, Nat.testBit K t = true → opd fr' (.tmp t) = opd (frT.put d (some v)) (.tmp t)) → StOk K env (dropA d al) ⟨fr', s.st⟩ (frT.put d (some v)) := fun fr' hn hf => ⟨hf, fun t i hi => by
        rw [opd_put]
        split
        · rename_i e; subst e; rw [hn] at hi; cases hi
        · exact hs.st t i hi, alD⟩
      refine ⟨fun d' e => by obtain rfl := Option.some.inj e; exact Nat.le_of_ble_eq_true hd, ?_⟩
      have put : ∀ t, Nat.testBit K t = true → opd (s.fr.put d (some v)) (.tmp t) = opd (frT.put d (some v)) (.tmp t) := fun t ht => by
        rw [opd_put, opd_put]
        split
        · rfl
        · exact hs.fr t ht
      cases hK : Nat.testBit K d with
      | true =>
        rw [hK, cond_true, paC_eq] at h
        cases again with
        | true =>
          have h2 : putP s.fr (pa d) v (fun fr' => k ⟨fr', v :: s.st⟩) = true := h
          rw [putP_eq, Tr.putK_eq] at h2
          exact ⟨_, h2, st _ put⟩
        | false =>
          have h2 : putP s.fr (pa d) v (fun fr' => k ⟨fr', s.st⟩) = true := h
          rw [putP_eq, Tr.putK_eq] at h2
          exact ⟨_, h2, st2 _ (ha d rfl rfl) put⟩
      | false =>
        have no : ∀ t, Nat.testBit K t = true → opd s.fr (.tmp t) = opd (frT.put d (some v)) (.tmp t) := fun t ht => by
          rw [opd_put]
          split
          · rename_i e; subst e; rw [hK] at ht; cases ht
          · exact hs.fr t ht
        rw [hK, cond_false] at h
        cases again with
        | true => exact ⟨_, h, st _ no⟩
        | false => exact ⟨s, h, st2 _ (ha d rfl rfl) no⟩
theorem againB_no {m : Nat} {env : List Nat} {dst : Option Tmp} : ∀ d, dst = some d → againB m env dst = false → idx env d = none := by
  intro d e h
  subst e
  simp only [againB] at h
  cases hm : Nat.testBit m d with
  | true => rw [hm] at h; cases h
  | false =>
    rw [hm, cond_false] at h
    cases hi : idx env d with
    | none => rfl
    | some i => rw [hi] at h; cases h
noncomputable def rdMask (l : List Operand) : Nat := List.rec 0 (fun x _ ih => match x with
  | .tmp t => Nat.lor (Nat.shiftLeft 1 t) ih
  | _ => ih) l
/-- What a drawing region, or the rest of a row, looks at. -/
noncomputable def drMask (ops : Array Oper) (l : List Oper) : Nat := List.rec 0 (fun o _ ih => Nat.lor (rdMask o.op.operands.toList) (Nat.lor (match o.guard with
  | some (g, _) => (match (ops[g]?).bind (·.dst) with
    | some t => Nat.shiftLeft 1 t
    | none => 0)
  | none => 0) ih)) l
/-- The slots that a row writes. -/
noncomputable def wrMask (l : List Oper) : Nat := List.rec 0 (fun o _ ih => match o.dst with
  | some t => Nat.lor (Nat.shiftLeft 1 t) ih
  | none => ih) l
/-- A move that may stand as a second name. -/
noncomputable def nameOf (N K wr : Nat) (env : List Nat) (al : Al) (o : Oper) : Option (Nat × Operand) :=
  match o.guard, o.dst, o.op with
  | none, some d, .move x => bif Nat.blt d N then (bif Nat.testBit K d then none else (match idx env d with
    | some _ => none
    | none => (match x with
      | .tmp u => (match alias al u with
        | some y => bif isTmp y d then none else some (d, y)
        | none => (match idx env u with
          | some _ => none
          | none => bif Nat.testBit K u then (bif Nat.testBit wr u then none else bif Nat.beq u d then none else some (d, .tmp u)) else none))
      | x => some (d, x)))) else none
  | _, _, _ => none
noncomputable def opsS (P : Program) (N K : Nat) (ops : Array Oper) (l : List Oper) : List Nat → Al → Cl (CallK → FS → HS → (Tr SV → HS → Bool) → Bool) :=
  List.rec (fun _ _ => ⟨fun _ s h k => FS.rec (fun fr _ => k fr h) s⟩) (fun o l ih env al => match nameOf N K (wrMask l) env al o with
    | some (d, y) => ih env ((d, y) :: dropA d al)
    | none => (compS P K env al o).then fun g => (pushC N K (againB (drMask ops l) env o.dst) o.dst).then fun pd => (match o.guard with
      | none => ⟨fun call s h k => g call s h fun v h' => pd s v fun s' => (ih (envOf (againB (drMask ops l) env o.dst) o.dst env) (alOf o.dst al)).f call s' h' k⟩
      | some _ => (wantS K env al ops o).then fun wc => ⟨fun call s h k => wc s (g call s h fun v h' => pd s v fun s' => (ih (envOf (againB (drMask ops l) env o.dst) o.dst env) (alOf o.dst al)).f call s' h' k) (pd s (.lit undef) fun s' => (ih (envOf (againB (drMask ops l) env o.dst) o.dst env) (alOf o.dst al)).f call s' h k)⟩)) l
theorem opsS_cons {P : Program} {N K : Nat} {ops : Array Oper} {o : Oper} {l : List Oper} {env : List Nat} {al : Al} : opsS P N K ops (o :: l) env al = (match nameOf N K (wrMask l) env al o with
    | some (d, y) => opsS P N K ops l env ((d, y) :: dropA d al)
    | none => (compS P K env al o).then fun g => (pushC N K (againB (drMask ops l) env o.dst) o.dst).then fun pd => (match o.guard with
      | none => ⟨fun call s h k => g call s h fun v h' => pd s v fun s' => (opsS P N K ops l (envOf (againB (drMask ops l) env o.dst) o.dst env) (alOf o.dst al)).f call s' h' k⟩
      | some _ => (wantS K env al ops o).then fun wc => ⟨fun call s h k => wc s (g call s h fun v h' => pd s v fun s' => (opsS P N K ops l (envOf (againB (drMask ops l) env o.dst) o.dst env) (alOf o.dst al)).f call s' h' k) (pd s (.lit undef) fun s' => (opsS P N K ops l (envOf (againB (drMask ops l) env o.dst) o.dst env) (alOf o.dst al)).f call s' h k)⟩)) := rfl
theorem nameOf_ok {N K wr : Nat} {env : List Nat} {al : Al} {o : Oper} {d : Nat} {y : Operand} {s : FS} {frT : Tr SV} (hs : StOk K env al s frT) (h : nameOf N K wr env al o = some (d, y)) :
    o.guard = none ∧ o.dst = some d ∧ d < N ∧ ∃ x, o.op = .move x ∧ StOk K env ((d, y) :: dropA d al) s (frT.put d (some (opd frT x))) := by
  unfold nameOf at h
  split at h
  case h_2 => cases h
  rename_i d0 x hg hd ho
  cases hN : Nat.blt d0 N with
  | false => rw [hN] at h; cases h
  | true =>
  rw [hN, cond_true] at h
  cases hK : Nat.testBit K d0 with
  | true => rw [hK] at h; cases h
  | false =>
  rw [hK, cond_false] at h
  split at h
  case h_1 => cases h
  rename_i hi
  have fin : ∀ y, (opd frT x = opd frT y) → (∀ u, y = .tmp u → Nat.testBit K u = true) → y ≠ .tmp d0 → StOk K env ((d0, y) :: dropA d0 al) s (frT.put d0 (some (opd frT x))) := fun y hy hu hne => by
    have same : ∀ z : Operand, z ≠ .tmp d0 → opd (frT.put d0 (some (opd frT x))) z = opd frT z := fun z hz => by
      by_cases hx : ∃ u, z = .tmp u
      · obtain ⟨u, rfl⟩ := hx
        rw [opd_put, if_neg (fun e => hz (by rw [e]))]
      · exact opd_con fun t e => hx ⟨t, e⟩
    refine ⟨fun t ht => ?_, fun t i hti => ?_, fun t z hm => ?_⟩
    · rw [opd_put]
      split
      · rename_i e; subst e; rw [hK] at ht; cases ht
      · exact hs.fr t ht
    · rw [opd_put]
      split
      · rename_i e; subst e; rw [hi] at hti; cases hti
      · exact hs.st t i hti
    · rcases List.mem_cons.1 hm with q | q
      · simp only [Prod.mk.injEq] at q
        obtain ⟨rfl, rfl⟩ := q
        rw [opd_put, if_pos rfl, same z hne]
        exact ⟨hy, hu⟩
      · obtain ⟨q1, q2, q3⟩ := mem_dropA q
        obtain ⟨z1, z2⟩ := hs.al t z q3
        rw [opd_put, if_neg q1, same z q2]
        exact ⟨z1, z2⟩
  have hlt : d0 < N := Nat.le_of_ble_eq_true hN
  split at h
  · rename_i u
    split at h
    · rename_i y0 ha
      obtain ⟨z1, z2⟩ := hs.al u y0 (alias_mem ha)
      cases ht : isTmp y0 d0 with
      | true => rw [ht] at h; cases h
      | false =>
      rw [ht, cond_false] at h
      simp only [Option.some.injEq, Prod.mk.injEq] at h
      obtain ⟨rfl, rfl⟩ := h
      exact ⟨hg, hd, hlt, _, ho, fin y0 z1 z2 fun e => by rw [e] at ht; simp [isTmp] at ht⟩
    · split at h
      · cases h
      · cases hKu : Nat.testBit K u with
        | false => rw [hKu] at h; cases h
        | true =>
        rw [hKu, cond_true] at h
        cases hw : Nat.testBit wr u with
        | true => rw [hw] at h; cases h
        | false =>
        rw [hw, cond_false] at h
        cases hud : Nat.beq u d0 with
        | true => rw [hud] at h; cases h
        | false =>
        rw [hud, cond_false] at h
        simp only [Option.some.injEq, Prod.mk.injEq] at h
        obtain ⟨rfl, rfl⟩ := h
        exact ⟨hg, hd, hlt, _, ho, fin (.tmp u) rfl (fun u' e => by cases e; exact hKu) fun e => by cases e; simp at hud⟩
  · rename_i hnt
    simp only [Option.some.injEq, Prod.mk.injEq] at h
    obtain ⟨rfl, rfl⟩ := h
    exact ⟨hg, hd, hlt, _, ho, fin x rfl (fun u e => absurd e (hnt u)) fun e => absurd e (hnt _)⟩
theorem opsS_ok {call : CallK} (hc : CallSound P W0 call) {N K : Nat} {ops : Array Oper} (l : List Oper) : ∀ (env : List Nat) (al : Al) (s : FS) (frT : Tr SV) (h : HS) (k : Tr SV → HS → Bool), StOk K env al s frT → (opsS P N K ops l env al).f call s h k = true →
    ∃ fr' frT' h', k fr' h' = true ∧ (∀ t, Nat.testBit K t = true → opd fr' (.tmp t) = opd frT' (.tmp t)) ∧ Goes h h' ∧ OpsOk P W0 N ops l frT h frT' h' := by
  induction l with
  | nil =>
    intro env al s frT h k hs hk
    exact ⟨s.fr, frT, h, hk, hs.fr, Goes.refl h, fun ro E a w r _ fo Q hQ => hQ E a w r (Step.refl _ _ _ _ _ _) fo⟩
  | cons o l ih =>
    intro env al s frT h k hs hk
    rw [opsS_cons] at hk
    cases hn : nameOf N K (wrMask l) env al o with
    | some dy =>
      obtain ⟨d, y⟩ := dy
      rw [hn] at hk
      simp only at hk
      obtain ⟨hg, hd, hlt, x, ho, hs'⟩ := nameOf_ok hs hn
      obtain ⟨fr', frT', h', k1, ag, g2, o2⟩ := ih _ _ _ _ _ _ hs' hk
      classical
      have hop : opK P call o frT h (fun sv h1 => decide (sv = opd frT x ∧ h1 = h)) = true := by
        simp only [opK, rdK, ho, rdMove, opdK_eq]
        simp
      obtain ⟨sv, h1, hkk, g1, o1⟩ := opK_ok hc hop
      obtain ⟨rfl, rfl⟩ := of_decide_eq_true hkk
      refine ⟨fr', frT', h', k1, ag, g2, fun ro E a w r fe fo Q hQ => ?_⟩
      simp only [wpListIn]
      rw [show Region.wanted o (yielded ops a.tmps) = true by unfold Region.wanted; rw [hg], if_pos rfl]
      refine (o1 ro frT E N a w (fun _ _ => rfl) r (fe.left g2.nx g2.ne) fo _ Q fun E' v w' e1 r' st => ?_)
      have hN : inN N o.dst := fun d' e => by rw [hd] at e; obtain rfl := Option.some.inj e; exact hlt
      have fo2 := (fo.le st.le).putD hN e1
      rw [hd] at fo2
      rw [hd]
      exact o2 ro E' _ w' r' (fe.right st g1.nx g1.ne) fo2 Q fun E2 a2 w2 r2 st2 fo3 => hQ E2 a2 w2 r2 (Step.trans g1 g2 st st2) fo3
    | none =>
    rw [hn] at hk
    simp only at hk
    have step : (wants ops o frT = some true ∧ (compS P K env al o).f call s h (fun v h' => (pushC N K (againB (drMask ops l) env o.dst) o.dst).f s v fun s' => (opsS P N K ops l (envOf (againB (drMask ops l) env o.dst) o.dst env) (alOf o.dst al)).f call s' h' k) = true) ∨ (wants ops o frT = some false ∧ (pushC N K (againB (drMask ops l) env o.dst) o.dst).f s (.lit undef) (fun s' => (opsS P N K ops l (envOf (againB (drMask ops l) env o.dst) o.dst env) (alOf o.dst al)).f call s' h k) = true) := by
      rw [Cl.then_eq, Cl.then_eq] at hk
      cases hg : o.guard with
      | none =>
        rw [hg] at hk
        exact .inl ⟨by unfold wants; rw [hg], hk⟩
      | some x =>
        rw [hg] at hk
        simp only [Cl.then_eq] at hk
        obtain ⟨b, e, hb⟩ := wantS_ok hs hk
        cases b with
        | true => exact .inl ⟨e, hb⟩
        | false => exact .inr ⟨e, hb⟩
    rcases step with ⟨hw, hk⟩ | ⟨hw, hk⟩
    · obtain ⟨fr1, sm, hk⟩ := compS_ok hs hk
      obtain ⟨sv, h1, hk, g1, o1⟩ := opK_ok hc hk
      obtain ⟨hN, s', hk, hs'⟩ := pushC_ok hs againB_no hk
      obtain ⟨fr', frT', h', k1, ag, g2, o2⟩ := ih _ _ _ _ _ _ hs' hk
      refine ⟨fr', frT', h', k1, ag, g1.trans g2, fun ro E a w r fe fo Q hQ => ?_⟩
      simp only [wpListIn]
      rw [wants_ok hw (fun _ _ _ _ _ => rfl) fo, if_pos rfl]
      refine (o1 ro frT E N a w sm r (fe.left g2.nx g2.ne) fo _ Q fun E' v w' e1 r' st => ?_)
      refine o2 ro E' _ w' r' (fe.right st g1.nx g1.ne) ((fo.le st.le).putD hN e1) Q fun E2 a2 w2 r2 st2 fo2 => hQ E2 a2 w2 r2 (Step.trans g1 g2 st st2) fo2
    · obtain ⟨hN, s', hk, hs'⟩ := pushC_ok hs againB_no hk
      obtain ⟨fr', frT', h', k1, ag, g2, o2⟩ := ih _ _ _ _ _ _ hs' hk
      refine ⟨fr', frT', h', k1, ag, g2, fun ro E a w r fe fo Q hQ => ?_⟩
      simp only [wpListIn]
      rw [wants_ok hw (fun _ _ _ _ _ => rfl) fo, if_neg (by simp)]
      exact ⟨fun _ _ => trivial, o2 ro E _ w r fe (fo.putD hN rfl) Q hQ⟩

/-! ### which slots are read elsewhere -/
noncomputable def upMask (l : List Oper) : Nat → Nat := List.rec (fun _ => 0) (fun o _ ih d => natC (rdMask o.op.operands.toList) fun r => natC (Nat.xor (Nat.lor r d) d) fun u => (match o.dst with
  | some t => natC (Nat.lor d (Nat.shiftLeft 1 t)) fun d' => Nat.lor u (ih d')
  | none => Nat.lor u (ih d))) l
noncomputable def keepM (c : Code) : Nat :=
  Code.rec (motive := fun _ => Nat) 0 (fun _ ops draw => Bool.rec (upMask ops.toList 0) (drMask ops ops.toList) draw) (fun _ _ a b => Nat.lor a b) (fun c _ _ a b => Nat.lor (rdMask [c]) (Nat.lor a b)) (fun _ _ b => b) (fun _ b => b)
    (fun _ _ _ _ _ _ => Nat.sub (Nat.shiftLeft 1 512) 1) (fun _ => 0) (fun _ b => b) (fun _ => 0) (fun _ => 0) 0 (fun _ => 0) c
noncomputable def resM (rs : List ResultVar) : Nat := List.rec 0 (fun v _ ih => Nat.lor (match v with
  | .tmp t => Nat.shiftLeft 1 t
  | .cell a _ => Nat.shiftLeft 1 a) ih) rs
/-- Everything that a drawing region looks at lies in the frame. -/
noncomputable def drawIn (K : Nat) (ops : Array Oper) (l : List Oper) : Bool := List.rec true (fun o _ ih => bif allRes K [] [] o.op.operands.toList && (match o.guard with
  | some (g, _) => (match (ops[g]?).bind (·.dst) with
    | some t => Nat.testBit K t
    | none => true)
  | none => true) then ih else false) l
theorem drawIn_ok {K : Nat} {ops : Array Oper} {l : List Oper} (h : drawIn K ops l = true) {fr frT : Tr SV} (ag : ∀ t, Nat.testBit K t = true → opd fr (.tmp t) = opd frT (.tmp t)) : ∀ o ∈ l, Same fr frT o.op.operands ∧ SameG ops o fr frT := by
  induction l with
  | nil => intro o ho; cases ho
  | cons y r ih =>
    obtain ⟨h1, h2⟩ := bif_true (show (bif allRes K [] [] y.op.operands.toList && (match y.guard with
      | some (g, _) => (match (ops[g]?).bind (·.dst) with
        | some t => Nat.testBit K t
        | none => true)
      | none => true) then drawIn K ops r else false) = true from h)
    simp only [Bool.and_eq_true] at h1
    intro o ho
    rcases List.mem_cons.1 ho with e | e
    · subst e
      refine ⟨fun x hx => ?_, fun g want t hg ht => ?_⟩
      · have := allRes_ok h1.1 x (by simpa using hx)
        cases x with
        | tmp t => exact ag t (by simpa [resolved, idx, alias] using this)
        | const v => cases v <;> rfl
        | global g => rfl
        | func f => rfl
      · have := h1.2
        rw [hg] at this
        simp only at this
        rw [ht] at this
        exact ag t this
    · exact ih h2 o e
end Go.Proofs.YtjbjpjaeagopjaaGreat.Ev
