/- Lengths, comparison with nil, slices of slices, looking up in a map. -/
import Derived.Test.YtjbjpjaeagopjaaGreatEvRead3
set_option linter.unusedSimpArgs false
set_option linter.unusedVariables false
set_option linter.unusedSectionVars false
namespace Go.Proofs.YtjbjpjaeagopjaaGreat.Ev
open Go
variable [GTab] {P : Program} {W0 : World} [GOk W0] {fr : Tr SV} {g : Tr SO} {k : SV → Bool} {o : Oper}

noncomputable def rdLen (P : Program) (t : TypeId) (fr : Tr SV) (g : Tr SO) (x : Operand) (k : SV → Bool) : Bool :=
  opdK fr x fun p => match p with
  | .sl _ _ len _ => (match P.underlying t with | some (.slice _) => k (.int .i64 (.ofNat len)) | _ => false)
  | .slr _ _ len _ => (match P.underlying t with | some (.slice _) => k (.int .i64 (.ofNat len)) | _ => false)
  | .emp _ _ _ _ => (match P.underlying t with | some (.slice _) => k (.int .i64 (.ofNat 0)) | _ => false)
  | .map id => (match P.underlying t with
    | some (.map _ _) => (match g.get id with | some (.mp es _) => natK es.length fun n => k (.int .i64 (.ofNat n)) | _ => false)
    | _ => false)
  | _ => false
theorem entries_length {E : Env} {es : List (SV × SV × Nat)} {ms : List MapEntry} (h : EntriesOk E es ms) : ms.length = es.length := by
  induction h with
  | nil => rfl
  | cons _ _ ih => simp [ih]
theorem rdLen_ok {t : TypeId} {x : Operand} (ho : o.op = .call { callee := .builtin .len, args := #[x], argTypes := #[t] }) (h : rdLen P t fr g x k = true) : ∃ sv, k sv = true ∧ ReadOk P W0 o fr g.get sv := by
  have run : ∀ (a : Act) (w : World) (v : Value), (Builtin.len_ #[t] o.type #[a.eval x]).run P w = .ok v w → (execOp a.eval o).run P w = .ok (.value v) w := by
    intro a w v h
    unfold execOp
    rw [ho]
    simp only [resolve, invoke, builtin, List.map_toArray, List.map_cons, List.map_nil, Sem.run_bind, Sem.run_pure, Result.andThen, h]
  unfold rdLen at h
  rw [opdK_eq] at h
  split at h
  · rename_i id off len cap hp
    split at h
    case h_2 => cases h
    rename_i el hu
    refine ⟨_, h, fun E N a w r f => ⟨.int .i64 len, rfl, run a w _ ?_⟩⟩
    have hx := opd_ok f x
    rw [hp] at hx
    simp only [val, Option.map_eq_some_iff] at hx
    obtain ⟨s, _, hx⟩ := hx
    simp [Builtin.len_, ← hx, Sem.run_bind, run_underlying hu, Result.andThen, goInt]
  · rename_i id off len cap hp
    split at h
    case h_2 => cases h
    rename_i el hu
    refine ⟨_, h, fun E N a w r f => ⟨.int .i64 len, rfl, run a w _ ?_⟩⟩
    have hx := opd_ok f x
    rw [hp] at hx
    simp only [val, Option.map_eq_some_iff] at hx
    obtain ⟨s, _, hx⟩ := hx
    simp [Builtin.len_, ← hx, Sem.run_bind, run_underlying hu, Result.andThen, goInt]
  · rename_i j id off skip hp
    split at h
    case h_2 => cases h
    rename_i el hu
    refine ⟨_, h, fun E N a w r f => ⟨.int .i64 (0 : Nat), rfl, run a w _ ?_⟩⟩
    have hx := opd_ok f x
    rw [hp] at hx
    simp only [val, Option.bind_eq_some_iff, Option.map_eq_some_iff] at hx
    obtain ⟨p, _, A, _, s, _, hx⟩ := hx
    simp [Builtin.len_, ← hx, Sem.run_bind, run_underlying hu, Result.andThen, goInt]
  · rename_i id hp
    split at h
    case h_2 => cases h
    rename_i kt el hu
    split at h
    case h_2 => cases h
    rename_i es clock hm
    rw [natK_eq] at h
    refine ⟨_, h, fun E N a w r f => ⟨.int .i64 es.length, rfl, run a w _ ?_⟩⟩
    have hx := opd_ok f x
    rw [hp] at hx
    obtain ⟨s, e1, _, ms, e2, e3⟩ := r.obj id _ hm
    simp only [val, e1, Option.map_some, Option.some.injEq] at hx
    have hl := entries_length e3
    simp [Builtin.len_, ← hx, Sem.run_bind, run_underlying hu, Result.andThen, goInt, getObj, Sem.run, e2, hl]
  · cases h

def fitsNil (d : TypeDesc) (s n : SV) : Bool :=
  match d, s, n with
  | .pointer _, .ptr _ _, .lit (.pointer none) => true
  | .slice _, .sl _ _ _ _, .lit (.slice none _ _) => true
  | .slice _, .slr _ _ _ _, .lit (.slice none _ _) => true
  | .map _ _, .map _, .lit (.map none) => true
  | .func _ _ _, .fn _ _ _, .lit .nilFunc => true
  | _, _, _ => false
/-- x == nil, x != nil, where x is none. -/
noncomputable def rdEqNil (P : Program) (op : BinOp) (t : TypeId) (fr : Tr SV) (x y : Operand) (k : SV → Bool) : Bool :=
  match P.underlying t with
  | some d => opdK fr x fun p => opdK fr y fun q =>
    bif fitsNil d p q || fitsNil d q p then (match op with | .eql => k (.bool false) | .neq => k (.bool true) | _ => false) else false
  | none => false
theorem equalIn_nil {P : Program} {E : Env} {t : TypeId} {d : TypeDesc} {s n : SV} {v u : Value} (hu : P.underlying t = some d) (h : fitsNil d s n = true) (h1 : val E s = some v) (h2 : val E n = some u) (m : Nat) (w : World) :
    (Op.equalIn (m + 1) t v u).run P w = .ok false w ∧ (Op.equalIn (m + 1) t u v).run P w = .ok false w := by
  unfold fitsNil at h
  split at h
  all_goals first
    | (cases h; done)
    | (simp only [val, Option.map_eq_some_iff, Option.some.injEq] at h1 h2
       obtain ⟨s1, _, rfl⟩ := h1
       subst h2
       constructor <;> simp [Op.equalIn, Sem.run_bind, run_underlying hu, Result.andThen])
    | (simp only [val, Option.map_eq_some_iff, Option.bind_eq_some_iff, Option.some.injEq] at h1 h2
       obtain ⟨s1, _, s2, _, rfl⟩ := h1
       subst h2
       constructor <;> simp [Op.equalIn, Sem.run_bind, run_underlying hu, Result.andThen])
theorem equal_nil {P : Program} {E : Env} {t : TypeId} {d : TypeDesc} {s n : SV} {v u : Value} (hu : P.underlying t = some d) (h : fitsNil d s n = true) (h1 : val E s = some v) (h2 : val E n = some u) (w : World) :
    (Op.equal t v u).run P w = .ok false w ∧ (Op.equal t u v).run P w = .ok false w := equalIn_nil hu h h1 h2 9999 w
theorem binOp_nil {P : Program} {E : Env} {t : TypeId} {d : TypeDesc} {s n : SV} {v u : Value} (hu : P.underlying t = some d) (h : fitsNil d s n = true) (h1 : val E s = some v) (h2 : val E n = some u) (x y : Operand) (w : World) :
    (do eqGuard .eql t x y v u; binOp .eql t v u).run P w = .ok (.bool false) w ∧ (do eqGuard .neq t x y v u; binOp .neq t v u).run P w = .ok (.bool true) w ∧
    (do eqGuard .eql t x y u v; binOp .eql t u v).run P w = .ok (.bool false) w ∧ (do eqGuard .neq t x y u v; binOp .neq t u v).run P w = .ok (.bool true) w := by
  obtain ⟨q1, q2⟩ := equal_nil hu h h1 h2 w
  unfold fitsNil at h
  split at h
  all_goals first
    | (cases h; done)
    | (simp only [val, Option.map_eq_some_iff, Option.some.injEq] at h1 h2
       obtain ⟨s1, _, rfl⟩ := h1
       subst h2
       refine ⟨?_, ?_, ?_, ?_⟩ <;> simp [eqGuard, binOp, Sem.run_bind, q1, q2, Result.andThen])
    | (simp only [val, Option.map_eq_some_iff, Option.bind_eq_some_iff, Option.some.injEq] at h1 h2
       obtain ⟨s1, _, s2, _, rfl⟩ := h1
       subst h2
       refine ⟨?_, ?_, ?_, ?_⟩ <;> simp [eqGuard, binOp, Sem.run_bind, q1, q2, Result.andThen])
theorem rdEqNil_ok {op : BinOp} {t yt : TypeId} {x y : Operand} (ho : o.op = .binOp op t x y yt) (h : rdEqNil P op t fr x y k = true) : ∃ sv, k sv = true ∧ ReadOk P W0 o fr g.get sv := by
  unfold rdEqNil at h
  split at h
  case h_2 => cases h
  rename_i d hu
  rw [opdK_eq, opdK_eq] at h
  obtain ⟨h1, h2⟩ := bif_true h
  have main : ∀ (b : Bool), (op = .eql ∧ b = false ∨ op = .neq ∧ b = true) → k (.bool b) = true → ∃ sv, k sv = true ∧ ReadOk P W0 o fr g.get sv := by
    intro b hb hk
    refine ⟨_, hk, fun E N a w r f => ⟨.bool b, rfl, ?_⟩⟩
    have hx := opd_ok f x
    have hy := opd_ok f y
    have key : (do eqGuard op t x y (a.eval x) (a.eval y); binOp op t (a.eval x) (a.eval y)).run P w = .ok (.bool b) w := by
      simp only [Bool.or_eq_true] at h1
      rcases h1 with h1 | h1
      · obtain ⟨q1, q2, q3, q4⟩ := binOp_nil hu h1 hx hy x y w
        rcases hb with ⟨rfl, rfl⟩ | ⟨rfl, rfl⟩
        · exact q1
        · exact q2
      · obtain ⟨q1, q2, q3, q4⟩ := binOp_nil hu h1 hy hx x y w
        rcases hb with ⟨rfl, rfl⟩ | ⟨rfl, rfl⟩
        · exact q3
        · exact q4
    unfold execOp
    rw [ho]
    rw [Sem.run_bind, key]
    rfl
  split at h2
  · exact main false (.inl ⟨rfl, rfl⟩) h2
  · exact main true (.inr ⟨rfl, rfl⟩) h2
  · cases h2
end Go.Proofs.YtjbjpjaeagopjaaGreat.Ev
