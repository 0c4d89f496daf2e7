/- One operation, calls among them. -/
import Derived.Test.YtjbjpjaeagopjaaGreatEvCongr
import Derived.CallsIn
import Derived.OwnWalkIn
set_option linter.unusedSimpArgs false
set_option linter.unusedVariables false
set_option linter.unusedSectionVars false
namespace Go.Proofs.YtjbjpjaeagopjaaGreat.Ev
open Go

variable [GTab] {P : Program} {W0 : World} [GOk W0]

/-- The call, from every world that holds h, leaves h' and hands back sv. -/
def CallOk (P : Program) (W0 : World) (f : FuncId) (l : List SV) (h h' : HS) (sv : SV) : Prop :=
  ∀ E w vl, Rel W0 E h.hp.get w → Free E h.nx h'.nx h.ne h'.ne → vals E l = some vl → ∀ R : Ending → World → Prop,
    (∀ E' v w', val E' sv = some v → Rel W0 E' h'.hp.get w' → Step h.bar h.hp.get h.nx h'.nx h.ne h'.ne E E' w w' → R (.returned v) w') → Calls P f vl.toArray w R
/-- Everything is let in; the frame is a round's or none. -/
abbrev Fw (ro : Option Nat) : Fence := { Fence.wide with round := ro }
theorem callsIn_fw {ro : Option Nat} {n : Nat} {f : FuncId} {args : Array Value} {w : World} {R : Ending → World → Prop} : CallsIn (Fw ro) n P f args w R ↔ Calls P f args w R :=
  (show CallsIn (Fw ro) n P f args w R ↔ CallsIn Fence.wide n P f args w R from Iff.rfl).trans callsIn_wide
/-- Where a call goes: to a function, or to a loop's rounds. -/
inductive Tgt where
  | fn (f : FuncId)
  | yl (id : Nat)
/-- A call of a loop's yield, likewise. -/
def YieldOk (P : Program) (W0 : World) (id : Nat) (l : List SV) (h h' : HS) (sv : SV) : Prop :=
  ∀ E w vl s, Rel W0 E h.hp.get w → Free E h.nx h'.nx h.ne h'.ne → vals E l = some vl → E.at_ id = some s → ∀ R : Ending → World → Prop,
    (∀ E' v w', val E' sv = some v → Rel W0 E' h'.hp.get w' → Step h.bar h.hp.get h.nx h'.nx h.ne h'.ne E E' w w' → R (.returned v) w') →
    ∃ fn tmps assign body, (Instr.yield s.blk vl.toArray).run P w = .ok (.round s.blk fn tmps assign body) w ∧ RoundIn Fence.wide 0 P s.blk fn tmps assign body w R
def TgtOk (P : Program) (W0 : World) (t : Tgt) (l : List SV) (h h' : HS) (sv : SV) : Prop :=
  match t with
  | .fn f => CallOk P W0 f l h h' sv
  | .yl id => YieldOk P W0 id l h h' sv
abbrev CallK := Tgt → List SV → HS → (SV → HS → Bool) → Bool
def CallSound (P : Program) (W0 : World) (call : CallK) : Prop := ∀ t l h k, call t l h k = true → ∃ sv h', k sv h' = true ∧ Goes h h' ∧ TgtOk P W0 t l h h' sv
/-- An operation that is no defer statement, carried out in a round as elsewhere. -/
theorem wpIn_of {ro : Option Nat} {o : Oper} {a : Act} {w : World} {K : Act → World → Prop} {Q : Exit → Act → World → Prop} (hd : ∀ c, o.op ≠ .defer c) (h : o.uponIn (Fw ro) 0 P a K Q ((execOp a.eval o).run P w)) : o.wpIn (Fw ro) 0 P a w K Q :=
  ⟨fun _ _ => trivial, by rw [Oper.semAt_plain _ _ _ hd]; exact h⟩
/-- The operation, from every frame that is fr at its operands and every world that holds h. -/
def OpOk (P : Program) (W0 : World) (o : Oper) (fr : Tr SV) (h h' : HS) (sv : SV) : Prop :=
  ∀ ro fr' E N a w, Same fr fr' o.op.operands → Rel W0 E h.hp.get w → Free E h.nx h'.nx h.ne h'.ne → FrOk E fr' N a → ∀ (K : Act → World → Prop) (Q : Exit → Act → World → Prop),
    (∀ E' v w', val E' sv = some v → Rel W0 E' h'.hp.get w' → Step h.bar h.hp.get h.nx h'.nx h.ne h'.ne E E' w w' → K (a.put o.dst v) w') → o.wpIn (Fw ro) 0 P a w K Q

theorem only_ops (fr : Tr SV) (l : List Operand) : ∃ fr0 : Tr SV, ∀ t, (Operand.tmp t ∈ l → fr0.get t = fr.get t) ∧ (Operand.tmp t ∉ l → fr0.get t = none) := by
  induction l with
  | nil => exact ⟨.e, fun t => ⟨fun h => absurd h List.not_mem_nil, fun _ => rfl⟩⟩
  | cons x r ih =>
    obtain ⟨f0, h⟩ := ih
    cases x with
    | tmp u =>
      refine ⟨f0.put u (fr.get u), fun t => ?_⟩
      rw [Tr.get_put]
      by_cases e : t = u
      · subst e
        exact ⟨fun _ => if_pos rfl, fun hn => absurd List.mem_cons_self hn⟩
      · rw [if_neg e]
        refine ⟨fun hm => (h t).1 ?_, fun hn => (h t).2 fun hm => hn (List.mem_cons_of_mem _ hm)⟩
        rcases List.mem_cons.1 hm with q | q
        · exact absurd (Operand.tmp.inj q) e
        · exact q
    | const v => exact ⟨f0, fun t => ⟨fun hm => (h t).1 ((List.mem_cons.1 hm).resolve_left (by intro q; cases q)), fun hn => (h t).2 fun hm => hn (List.mem_cons_of_mem _ hm)⟩⟩
    | global v => exact ⟨f0, fun t => ⟨fun hm => (h t).1 ((List.mem_cons.1 hm).resolve_left (by intro q; cases q)), fun hn => (h t).2 fun hm => hn (List.mem_cons_of_mem _ hm)⟩⟩
    | func v => exact ⟨f0, fun t => ⟨fun hm => (h t).1 ((List.mem_cons.1 hm).resolve_left (by intro q; cases q)), fun hn => (h t).2 fun hm => hn (List.mem_cons_of_mem _ hm)⟩⟩
theorem only_act (a : Act) (ds : List Deferred) (N : Nat) (hN : a.tmps.size = N) (l : List Operand) : ∃ b : Act, b.tmps.size = N ∧ b.defers = ds ∧ ∀ t, (Operand.tmp t ∈ l → b.tmps.getD t undef = a.tmps.getD t undef) ∧ (Operand.tmp t ∉ l → b.tmps.getD t undef = undef) := by
  classical
  refine ⟨⟨Array.ofFn (n := N) fun i => if Operand.tmp i.val ∈ l then a.tmps.getD i.val undef else undef, ds⟩, by simp, rfl, fun t => ?_⟩
  by_cases h : t < N
  · simp only [Array.getD, Array.size_ofFn, h, dite_true]
    constructor
    · intro hm
      simp [hm, hN, h]
    · intro hm
      simp [hm]
  · simp [Array.getD, h, hN]
/-- Frame and act, but for what the operation looks at, forgotten. -/
theorem forget {o : Oper} {fr fr' : Tr SV} {E : Env} {N : Nat} {a : Act} {fr0 : Tr SV} (hs : ∀ cs b, o.op ≠ .select cs b) (h0 : ∀ t, (Operand.tmp t ∈ o.op.operands.toList → fr0.get t = fr.get t) ∧ (Operand.tmp t ∉ o.op.operands.toList → fr0.get t = none))
    (sm : Same fr fr' o.op.operands) (fo : FrOk E fr' N a) : ∃ b : Act, FrOk E fr0 N b ∧ execOp a.eval o = execOp b.eval o := by
  have hd : ∃ ds, DefOk E ((fr0.get N).getD (.lit undef)) ds := by
    by_cases hm : Operand.tmp N ∈ o.op.operands.toList
    · refine ⟨a.defers, ?_⟩
      rw [(h0 N).1 hm]
      have e := sm (.tmp N) (by simpa using hm)
      simp only [opd] at e
      rw [e]
      exact fo.defers
    · refine ⟨[], ?_⟩
      rw [(h0 N).2 hm]
      rfl
  obtain ⟨ds, hd⟩ := hd
  obtain ⟨b, b1, b2, b3⟩ := only_act a ds N fo.size o.op.operands.toList
  refine ⟨b, ⟨b1, by rw [b2]; exact hd, fun t => ?_⟩, execOp_congr o hs fun x hx => ?_⟩
  · by_cases hm : Operand.tmp t ∈ o.op.operands.toList
    · rw [(h0 t).1 hm, (b3 t).1 hm]
      have e := sm (.tmp t) (by simpa using hm)
      simp only [opd] at e
      rw [e]
      exact fo.get t
    · rw [(h0 t).2 hm, (b3 t).2 hm]
      rfl
  · cases x with
    | tmp t =>
      have := (b3 t).1 (by simpa using hx)
      simpa [Act.eval, Array.getD_eq_getD_getElem?] using this.symm
    | const v => rfl
    | global g => rfl
    | func f => rfl
theorem same_only {o : Oper} {fr fr0 : Tr SV} (h0 : ∀ t, (Operand.tmp t ∈ o.op.operands.toList → fr0.get t = fr.get t) ∧ (Operand.tmp t ∉ o.op.operands.toList → fr0.get t = none)) : Same fr0 fr o.op.operands := fun x hx => by
  cases x with
  | tmp t => simp only [opd]; rw [(h0 t).1 (by simpa using hx)]
  | const v => cases v <;> rfl
  | global g => rfl
  | func f => rfl
theorem rd_op {o : Oper} {fr : Tr SV} {h : HS} {k : SV → Bool} (hk : rdK P o fr h.hp k = true) : ∃ sv, k sv = true ∧ OpOk P W0 o fr h h sv := by
  obtain ⟨fr0, h0⟩ := only_ops fr o.op.operands.toList
  rw [← rdK_congr (same_only h0)] at hk
  have hs : ∀ cs b, o.op ≠ .select cs b := by
    intro cs b e
    unfold rdK at hk
    simp only [e, rdPure] at hk
    cases allFlat fr0 (Op.select cs b).operands.toList <;> simp at hk
  have hd : ∀ c, o.op ≠ .defer c := by
    intro c e
    unfold rdK at hk
    simp only [e, rdPure] at hk
    obtain ⟨_, hk⟩ := bif_true hk
    have e2 : ∀ v, pureRun P (execOp (flatOpd fr0) o) ≠ some (.value v) := by
      intro v
      unfold execOp
      simp only [e, pureRun_bind]
      cases pureRun P (resolve (flatOpd fr0) c o.type) with
      | none => simp
      | some d => simp [pureRun_pure]
    split at hk
    · rename_i v hv
      exact e2 v hv
    · cases hk
  obtain ⟨sv, k1, k2⟩ := rdK_ok (W0 := W0) hk
  refine ⟨sv, k1, fun ro fr' E N a w sm r f fo K Q hK => ?_⟩
  obtain ⟨b, f1, f2⟩ := forget hs h0 sm fo
  obtain ⟨v, e1, e2⟩ := k2 E N b w r f1
  refine wpIn_of hd ?_
  rw [f2, e2, Oper.uponIn_value]
  exact hK E v w e1 r (Step.refl _ _ _ _ _ _)
theorem ef_op {o : Oper} {fr : Tr SV} {h : HS} {k : SV → HS → Bool} (hk : efK P o fr h k = true) : ∃ sv h', k sv h' = true ∧ Goes h h' ∧ OpOk P W0 o fr h h' sv := by
  obtain ⟨fr0, h0⟩ := only_ops fr o.op.operands.toList
  rw [← efK_congr (same_only h0)] at hk
  have hs : ∀ cs b, o.op ≠ .select cs b := by
    intro cs b e
    unfold efK at hk
    simp [e] at hk
  have hd : ∀ c, o.op ≠ .defer c := by
    intro c e
    unfold efK at hk
    simp [e] at hk
  obtain ⟨sv, h', k1, k2, k3⟩ := efK_ok (W0 := W0) hk
  refine ⟨sv, h', k1, k2, fun ro fr' E N a w sm r f fo K Q hK => ?_⟩
  obtain ⟨b, f1, f2⟩ := forget hs h0 sm fo
  obtain ⟨E', w', v, e1, e2, e3, e4⟩ := k3 E N b w r f f1
  refine wpIn_of hd ?_
  rcases e4 with e4 | ⟨e4, rfl⟩
  · rw [f2, e4, Oper.uponIn_value]
    exact hK E' v w' e3 e2 e1
  · rw [f2, e4, Oper.uponIn_skip]
    exact hK E' _ w' e3 e2 e1

/-- A function value's parts. -/
def fnOf : SV → Option (Fn × List SV × List SV)
  | .fn f a b => some (f, a, b)
  | .lit (.func f a b) => some (f, a.toList.map ofV, b.toList.map ofV)
  | _ => none
theorem fnOf_ok {E : Env} {s : SV} {f : Fn} {a b : List SV} (h : fnOf s = some (f, a, b)) {v : Value} (hv : val E s = some v) : ∃ x y, vals E a = some x ∧ vals E b = some y ∧ v = .func f x.toArray y.toArray := by
  unfold fnOf at h
  split at h
  · simp only [Option.some.injEq, Prod.mk.injEq] at h
    obtain ⟨rfl, rfl, rfl⟩ := h
    simp only [val, Option.bind_eq_some_iff, Option.map_eq_some_iff] at hv
    obtain ⟨x, hx, y, hy, e1⟩ := hv
    exact ⟨x, y, hx, hy, e1.symm⟩
  · rename_i f' a' b'
    simp only [Option.some.injEq, Prod.mk.injEq] at h
    obtain ⟨rfl, rfl, rfl⟩ := h
    simp only [val, Option.some.injEq] at hv
    exact ⟨a'.toList, b'.toList, vals_ofV E _, vals_ofV E _, by rw [← hv]⟩
  · cases h
/-- The function behind a method expression whose receiver is handed on as it is. -/
noncomputable def methodK (P : Program) (t : TypeId) (name : String) : Option FuncId :=
  match P.info? t with
  | some i => (match i.methods.find? (·.name == name) with
    | some m => (match m.path.toList, m.func with
      | [], some (g, b) => (match P.underlying t with
        | some (.pointer _) => bif b then some g else none
        | some (.interface _) => none
        | some _ => bif b then none else some g
        | none => none)
      | _, _ => none)
    | none => none)
  | none => none
noncomputable def callOp (P : Program) (call : CallK) (fr : Tr SV) (f : Operand) (args : Array Operand) (fine : FuncId → Bool) (h : HS) (k : SV → HS → Bool) : Bool :=
  opdK fr f fun fv => match fv with
  | .yld id => opdsK fr args.toList fun l => listK l fun l' => call (.yl id) l' h k
  | fv => match fnOf fv with
  | some (.func g, first, cap) => bif fine g then opdsK fr args.toList fun l => listK (first ++ (l ++ cap)) fun l' => call (.fn g) l' h k else false
  | some (.methodOf t name, first, _) => (match methodK P t name with
    | some g => bif fine g then opdsK fr args.toList fun l => listK (first ++ l) fun l' => (match l' with
      | s :: r => call (.fn g) (s :: r) h k
      | [] => false) else false
    | none => false)
  | _ => false
/-- A function with a body that is called under its number. -/
noncomputable def fineFn (P : Program) (g : FuncId) : Bool :=
  match P.funcs[g]? with
  | some fn => bif fn.name == "runtime.NumGoroutine" then false else fn.body.isSome
  | none => false
theorem run_callFunc {g : FuncId} (hg : fineFn P g = true) (args : Array Value) (w : World) : (callFunc g args).run P w = .ok (.enter g args) w := by
  unfold fineFn at hg
  split at hg
  case h_2 => cases hg
  rename_i fn hf
  cases hn : fn.name == "runtime.NumGoroutine" with
  | true => simp [hn] at hg
  | false =>
    simp only [hn, cond_false] at hg
    have hb : fn.body.isNone = false := by cases hx : fn.body <;> simp_all
    unfold callFunc
    simp only [Sem.run_bind, run_program, Result.andThen, hf, hn, hb, Bool.false_eq_true, if_false]
    rfl
theorem run_method {t : TypeId} {name : String} {g : FuncId} (h : methodK P t name = some g) (v : Value) (n : Nat) (w : World) : (method (n + 1) t v name).run P w = .ok (g, v) w := by
  unfold methodK at h
  split at h
  case h_2 => cases h
  rename_i i hi
  split at h
  case h_2 => cases h
  rename_i m hm
  split at h
  case h_2 => cases h
  rename_i g' b hp hf
  have hp' : m.path = #[] := by rw [← Array.toList_inj]; exact hp
  have ht : (typeInfo t).run P w = .ok i w := by simp [typeInfo, Sem.run_bind, Result.andThen, hi]
  unfold method
  split at h
  · rename_i el hu
    cases b with
    | false => cases h
    | true =>
      obtain rfl := Option.some.inj h
      simp [Sem.run_bind, Result.andThen, ht, hm, hp', follow, hf, receiverAt, run_underlying hu, Place.get]
  · cases h
  · rename_i d h1 h2 hu
    cases b with
    | true => cases h
    | false =>
      obtain rfl := Option.some.inj h
      simp only [Sem.run_bind, Result.andThen, ht, hm, hp', follow, hf, receiverAt, run_underlying hu, Place.get, Sem.run_pure]
  · cases h
theorem not_iface {t : TypeId} {name : String} {g : FuncId} (h : methodK P t name = some g) : ∃ d, P.underlying t = some d ∧ ∀ m, d ≠ .interface m := by
  unfold methodK at h
  split at h
  case h_2 => cases h
  split at h
  case h_2 => cases h
  split at h
  case h_2 => cases h
  split at h
  · rename_i el hu
    exact ⟨_, hu, fun m e => by cases e⟩
  · cases h
  · rename_i d h1 h2 hu
    exact ⟨d, hu, fun m e => h2 m e⟩
  · cases h
theorem callOp_ok {call : CallK} (hc : CallSound P W0 call) {o : Oper} {c : Call} {f : Operand} (ho : o.op = .call c) (hf : c.callee = .value f) {fr : Tr SV} {h : HS} {k : SV → HS → Bool} (hk : callOp P call fr f c.args (fineFn P) h k = true) :
    ∃ sv h', k sv h' = true ∧ Goes h h' ∧ OpOk P W0 o fr h h' sv := by
  have hmf : f ∈ o.op.operands := by simp [ho, Op.operands, Call.operands, hf]
  have hma : ∀ x ∈ c.args.toList, x ∈ o.op.operands := fun x hx => by
    simp only [ho, Op.operands, Call.operands, hf]
    simp at hx ⊢
    exact .inr hx
  unfold callOp at hk
  rw [opdK_eq] at hk
  split at hk
  · rename_i id hid
    rw [opdsK_eq, listK_eq] at hk
    obtain ⟨sv, h', k1, k2, k3⟩ := hc _ _ _ _ hk
    refine ⟨sv, h', k1, k2, fun ro fr' E N a w sm r fe fo K Q hK => ?_⟩
    have e1 := opd_ok fo f
    rw [← sm f hmf, hid] at e1
    simp only [val, Option.map_eq_some_iff] at e1
    obtain ⟨s, hs, e1⟩ := e1
    have e2 : vals E (c.args.toList.map (opd fr)) = some (c.args.toList.map a.eval) := by
      rw [List.map_congr_left fun x hx => sm x (hma x hx)]
      exact opds_ok fo _
    refine wpIn_of (by rw [ho]; intro c hc; cases hc) ?_
    obtain ⟨fn, tmps, assign, body, y1, y2⟩ := k3 E w _ s r fe e2 hs (fun
      | .returned v, w'' => K (a.put o.dst v) w''
      | .panicked chain, w'' => Q (.panic chain) a w''
      | .outgrown, _ => LetsOut Q) (fun E' v w' a1 a2 a3 => hK E' v w' a1 a2 a3)
    have e4 : (execOp a.eval o).run P w = .ok (.round s.blk fn tmps assign body) w := by
      unfold execOp
      rw [ho]
      have hargs : c.args.map a.eval = (c.args.toList.map a.eval).toArray := by rw [← Array.toList_inj]; simp
      simp only [Sem.run_bind, resolve, hf, ← e1, Deferred.ofValue, Sem.run_pure, Result.andThen, invoke]
      simp [hargs, y1]
    rw [e4, Oper.uponIn_round]
    exact ⟨(fun h => by cases h), y2⟩
  split at hk
  case h_3 => cases hk
  case h_1 =>
    rename_i g first cap hfv
    obtain ⟨hfine, hk⟩ := bif_true hk
    rw [opdsK_eq, listK_eq] at hk
    obtain ⟨sv, h', k1, k2, k3⟩ := hc _ _ _ _ hk
    refine ⟨sv, h', k1, k2, fun ro fr' E N a w sm r fe fo K Q hK => ?_⟩
    have e1 := opd_ok fo f
    rw [← sm f hmf] at e1
    obtain ⟨x, y, hx, hy, e1⟩ := fnOf_ok hfv e1
    have e2 : vals E (c.args.toList.map (opd fr)) = some (c.args.toList.map a.eval) := by
      rw [List.map_congr_left fun x hx => sm x (hma x hx)]
      exact opds_ok fo _
    have e3 := vals_append hx (vals_append e2 hy)
    refine wpIn_of (by rw [ho]; intro c hc; cases hc) ?_
    have e4 : (execOp a.eval o).run P w = .ok (.enter g (x ++ (c.args.toList.map a.eval ++ y)).toArray) w := by
      unfold execOp
      rw [ho]
      simp only [Sem.run_bind, resolve, hf, e1, Deferred.ofValue, Sem.run_pure, Result.andThen, invoke, run_callFunc hfine]
      congr 2
      rw [← Array.toList_inj]; simp
    rw [e4, Oper.uponIn_enter]
    exact ⟨(fun h => by cases h), callsIn_fw.2 (k3 E w _ r fe e3 _ fun E' v w' a1 a2 a3 => hK E' v w' a1 a2 a3)⟩
  case h_2 =>
    rename_i t name first cap hfv
    split at hk
    case h_2 => cases hk
    rename_i g hg
    obtain ⟨hfine, hk⟩ := bif_true hk
    rw [opdsK_eq, listK_eq] at hk
    split at hk
    case h_2 => cases hk
    rename_i s0 r0 hl
    obtain ⟨sv, h', k1, k2, k3⟩ := hc _ _ _ _ hk
    refine ⟨sv, h', k1, k2, fun ro fr' E N a w sm r fe fo K Q hK => ?_⟩
    have e1 := opd_ok fo f
    rw [← sm f hmf] at e1
    obtain ⟨x, y, hx, hy, e1⟩ := fnOf_ok hfv e1
    have e2 : vals E (c.args.toList.map (opd fr)) = some (c.args.toList.map a.eval) := by
      rw [List.map_congr_left fun x hx => sm x (hma x hx)]
      exact opds_ok fo _
    have e3 := vals_append hx e2
    rw [hl] at e3
    obtain ⟨d, hu, hd⟩ := not_iface hg
    cases hv : x ++ c.args.toList.map a.eval with
    | nil =>
      rw [hv] at e3
      simp only [vals, Option.bind_eq_some_iff, Option.map_eq_some_iff] at e3
      obtain ⟨_, _, _, _, e⟩ := e3
      cases e
    | cons v0 vr =>
      refine wpIn_of (by rw [ho]; intro c hc; cases hc) ?_
      have e4 : (execOp a.eval o).run P w = .ok (.enter g (v0 :: vr).toArray) w := by
        have hargs : x.toArray ++ c.args.map a.eval = (v0 :: vr).toArray := by
          rw [← Array.toList_inj]
          simpa using hv
        unfold execOp
        rw [ho]
        simp only [Sem.run_bind, resolve, hf, e1, Deferred.ofValue, Sem.run_pure, Result.andThen, invoke, hargs, run_underlying hu]
        have e5 : (match d with | .interface _ => v0 | _ => Value.iface t v0) = .iface t v0 := by
          split
          · exact absurd rfl (hd _)
          · rfl
        simp only [List.getElem?_toArray, List.getElem?_cons_zero, Sem.run_bind, run_underlying hu, Result.andThen, Sem.run_pure, e5, callMethod, run_program, Made.depth, run_method hg, run_callFunc hfine]
        congr 2
        rw [← Array.toList_inj]; simp
      rw [e4, Oper.uponIn_enter]
      rw [hv] at e3
      exact ⟨(fun h => by cases h), callsIn_fw.2 (k3 E w _ r fe e3 _ fun E' v w' a1 a2 a3 => hK E' v w' a1 a2 a3)⟩
end Go.Proofs.YtjbjpjaeagopjaaGreat.Ev
