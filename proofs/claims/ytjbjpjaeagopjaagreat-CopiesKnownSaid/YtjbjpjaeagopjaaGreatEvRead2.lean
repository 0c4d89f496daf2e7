/- More operations that only read. -/
import Derived.Test.YtjbjpjaeagopjaaGreatEvRead
set_option linter.unusedSimpArgs false
set_option linter.unusedVariables false
set_option linter.unusedSectionVars false
namespace Go.Proofs.YtjbjpjaeagopjaaGreat.Ev
open Go
variable [GTab] {P : Program} {W0 : World} [GOk W0] {fr : Tr SV} {g : Tr SO} {k : SV → Bool} {o : Oper}

noncomputable def rdMove (fr : Tr SV) (x : Operand) (k : SV → Bool) : Bool := opdK fr x k
theorem rdMove_ok {x : Operand} (ho : o.op = .move x ∨ o.op = .assign x) (h : rdMove fr x k = true) : ∃ sv, k sv = true ∧ ReadOk P W0 o fr g.get sv := by
  unfold rdMove at h
  rw [opdK_eq] at h
  refine ⟨_, h, fun E N a w r f => ⟨_, opd_ok f x, ?_⟩⟩
  unfold execOp
  rcases ho with ho | ho <;> rw [ho] <;> rfl

noncomputable def rdPick (fr : Tr SV) (c x y : Operand) (k : SV → Bool) : Bool :=
  opdK fr c fun cv => match cv with
  | .bool true => opdK fr x k
  | .bool false => opdK fr y k
  | _ => false
theorem rdPick_ok {c x y : Operand} (ho : o.op = .pick c x y) (h : rdPick fr c x y k = true) : ∃ sv, k sv = true ∧ ReadOk P W0 o fr g.get sv := by
  unfold rdPick at h
  rw [opdK_eq] at h
  split at h
  case h_3 => cases h
  all_goals
    rename_i hc
    rw [opdK_eq] at h
    refine ⟨_, h, fun E N a w r f => ?_⟩
    have hc' := opd_ok f c
    rw [hc] at hc'
    simp only [val, Option.some.injEq] at hc'
    refine ⟨_, opd_ok f _, ?_⟩
    unfold execOp
    rw [ho]
    simp [← hc', asBool, Sem.run_bind, Result.andThen]

noncomputable def rdNil (fr : Tr SV) (x : Operand) (k : SV → Bool) : Bool :=
  opdK fr x fun p => match p with
  | .ptr id off => k (.ptr id off)
  | .fn (.func f) a b => k (.fn (.func f) a b)
  | .lit (.pointer (some q)) => k (.lit (.pointer (some q)))
  | _ => false
theorem rdNil_ok {x : Operand} (ho : o.op = .nilCheck x) (h : rdNil fr x k = true) : ∃ sv, k sv = true ∧ ReadOk P W0 o fr g.get sv := by
  unfold rdNil at h
  rw [opdK_eq] at h
  split at h
  · rename_i id off hp
    refine ⟨_, h, fun E N a w r f => ?_⟩
    have hx := opd_ok f x
    rw [hp] at hx
    refine ⟨_, hx, ?_⟩
    simp only [val, Option.map_eq_some_iff] at hx
    obtain ⟨s, _, hx⟩ := hx
    unfold execOp
    rw [ho]
    simp only [← hx]
    rfl
  · rename_i f' a' b' hp
    refine ⟨_, h, fun E N a w r f => ?_⟩
    have hx := opd_ok f x
    rw [hp] at hx
    refine ⟨_, hx, ?_⟩
    simp only [val, Option.map_eq_some_iff, Option.bind_eq_some_iff] at hx
    obtain ⟨x1, _, x2, _, hx⟩ := hx
    unfold execOp
    rw [ho]
    simp only [← hx]
    rfl
  · rename_i q hp
    refine ⟨_, h, fun E N a w r f => ?_⟩
    have hx := opd_ok f x
    rw [hp] at hx
    refine ⟨_, hx, ?_⟩
    simp only [val, Option.some.injEq] at hx
    unfold execOp
    rw [ho]
    simp only [← hx]
    rfl
  · cases h

noncomputable def rdFieldAddr (P : Program) (s : TypeId) (fr : Tr SV) (x : Operand) (fi : Nat) (k : SV → Bool) : Bool :=
  opdK fr x fun p => match p with
  | .ptr id off => match P.underlying s with
    | some (.struct fs) => match fs[fi]? with
      | some f => match P.info? f.type with
        | some i => bif Nat.beq i.size 0 then false else natK (off + f.offset) fun off' => k (.ptr id off')
        | none => false
      | none => false
    | _ => false
  | _ => false
theorem rdFieldAddr_ok {s : TypeId} {x : Operand} {fi : Nat} (ho : o.op = .fieldAddr s x fi) (h : rdFieldAddr P s fr x fi k = true) : ∃ sv, k sv = true ∧ ReadOk P W0 o fr g.get sv := by
  unfold rdFieldAddr at h
  rw [opdK_eq] at h
  split at h
  case h_2 => cases h
  rename_i id off hp
  split at h
  case h_2 => cases h
  rename_i fs hu
  split at h
  case h_2 => cases h
  rename_i f hf
  split at h
  case h_2 => cases h
  rename_i i hi
  rw [Tr.bif_beq] at h
  split at h
  · cases h
  rename_i hz
  rw [natK_eq] at h
  refine ⟨_, h, fun E N a w r fo => ?_⟩
  have hx := opd_ok fo x
  rw [hp] at hx
  simp only [val, Option.map_eq_some_iff] at hx
  obtain ⟨sp, e1, hx⟩ := hx
  refine ⟨.pointer (some ⟨sp.blk, sp.base + (off + f.offset), none⟩), by simp [val, e1], ?_⟩
  unfold execOp
  rw [ho]
  simp [Instr.fieldAt, ← hx, Instr.sureAddr, fieldPlace, Sem.run_bind, run_underlying hu, run_sizeOf hi, hf, Result.andThen, hz, Addr.add_lit, Nat.add_assoc]

noncomputable def rdIndexAddr (P : Program) (t : TypeId) (fr : Tr SV) (x ix : Operand) (k : SV → Bool) : Bool :=
  opdK fr ix fun iv => match iv with
  | .int _ (.ofNat i) => match P.underlying t with
    | some (.slice el) => match P.info? el with
      | some inf => opdK fr x fun p => match p with
        | .sl id off len _ => bif Nat.blt i len then natK (off + i * inf.size) fun off' => k (.ptr id off') else false
        | .slr id off len _ => bif Nat.blt i len then natK (off + i * inf.size) fun off' => k (.ptr id off') else false
        | _ => false
      | none => false
    | some (.array len el) => match P.info? el with
      | some inf => opdK fr x fun p => match p with
        | .ptr id off => bif Nat.blt i len then natK (off + i * inf.size) fun off' => k (.ptr id off') else false
        | _ => false
      | none => false
    | _ => false
  | _ => false
theorem blt_lt {a b : Nat} (h : Nat.blt a b = true) : a < b := Nat.le_of_ble_eq_true h
theorem rdIndexAddr_ok {t : TypeId} {x ix : Operand} (ho : o.op = .indexAddr t x ix) (h : rdIndexAddr P t fr x ix k = true) : ∃ sv, k sv = true ∧ ReadOk P W0 o fr g.get sv := by
  unfold rdIndexAddr at h
  rw [opdK_eq] at h
  split at h
  case h_2 => cases h
  rename_i kd i hix
  split at h
  · rename_i el hu
    split at h
    case h_2 => cases h
    rename_i inf hi
    rw [opdK_eq] at h
    split at h
    case h_3 => cases h
    all_goals
      rename_i hp
      obtain ⟨h1, h2⟩ := bif_true h
      have h1 := blt_lt h1
      rw [natK_eq] at h2
      refine ⟨_, h2, fun E N a w r fo => ?_⟩
      have hx := opd_ok fo x
      rw [hp] at hx
      simp only [val, Option.map_eq_some_iff] at hx
      obtain ⟨sp, e1, hx⟩ := hx
      have hy := opd_ok fo ix
      rw [hix] at hy
      simp only [val, Option.some.injEq] at hy
      refine ⟨_, by simp only [val, e1, Option.map_some]; rfl, ?_⟩
      unfold execOp
      rw [ho]
      simp [Instr.indexAt, ← hx, ← hy, asIntOf, Sem.run_bind, run_underlying hu, run_sizeOf hi, Result.andThen, Addr.add_lit, Nat.add_assoc, h1]
  · rename_i len el hu
    split at h
    case h_2 => cases h
    rename_i inf hi
    rw [opdK_eq] at h
    split at h
    case h_2 => cases h
    rename_i id off hp
    obtain ⟨h1, h2⟩ := bif_true h
    have h1 := blt_lt h1
    rw [natK_eq] at h2
    refine ⟨_, h2, fun E N a w r fo => ?_⟩
    have hx := opd_ok fo x
    rw [hp] at hx
    simp only [val, Option.map_eq_some_iff] at hx
    obtain ⟨sp, e1, hx⟩ := hx
    have hy := opd_ok fo ix
    rw [hix] at hy
    simp only [val, Option.some.injEq] at hy
    refine ⟨_, by simp only [val, e1, Option.map_some]; rfl, ?_⟩
    unfold execOp
    rw [ho]
    simp [Instr.indexAt, Instr.sureAddr, ← hx, ← hy, asIntOf, Sem.run_bind, run_underlying hu, run_sizeOf hi, Result.andThen, Addr.add_lit, Nat.add_assoc, h1]
  · cases h

noncomputable def rdExtract (fr : Tr SV) (x : Operand) (i : Nat) (k : SV → Bool) : Bool :=
  opdK fr x fun p => match p with
  | .tup l => match l[i]? with
    | some sv => k sv
    | none => false
  | _ => false
theorem vals_at {E : Env} : ∀ {l : List SV} {vl : List Value}, vals E l = some vl → ∀ (i : Nat), (l[i]?).bind (val E) = vl[i]?
  | [], vl, h, i => by simp only [vals, Option.some.injEq] at h; subst h; simp
  | s :: r, vl, h, i => by
    simp only [vals, Option.bind_eq_some_iff, Option.map_eq_some_iff] at h
    obtain ⟨x, hx, y, hy, rfl⟩ := h
    cases i with
    | zero => simp [hx]
    | succ i => simpa using vals_at hy i
theorem rdExtract_ok {x : Operand} {i : Nat} (ho : o.op = .extract x i) (h : rdExtract fr x i k = true) : ∃ sv, k sv = true ∧ ReadOk P W0 o fr g.get sv := by
  unfold rdExtract at h
  rw [opdK_eq] at h
  split at h
  case h_2 => cases h
  rename_i l hp
  split at h
  case h_2 => cases h
  rename_i sv hsv
  refine ⟨sv, h, fun E N a w r fo => ?_⟩
  have hx := opd_ok fo x
  rw [hp] at hx
  simp only [val, Option.map_eq_some_iff] at hx
  obtain ⟨vl, e1, hx⟩ := hx
  have e2 := vals_at e1 i
  rw [hsv] at e2
  simp only [Option.bind_some] at e2
  cases hv : val E sv with
  | none =>
    have hlen : ∀ {l : List SV} {vl : List Value}, vals E l = some vl → vl.length = l.length := by
      intro l
      induction l with
      | nil => intro vl h; simp only [vals, Option.some.injEq] at h; subst h; rfl
      | cons s r ih =>
        intro vl h
        simp only [vals, Option.bind_eq_some_iff, Option.map_eq_some_iff] at h
        obtain ⟨x, hx, y, hy, rfl⟩ := h
        simp [ih hy]
    rw [hv] at e2
    have h1 := (List.getElem?_eq_some_iff.1 hsv).1
    have h2 := List.getElem?_eq_none_iff.1 e2.symm
    have h3 := hlen e1
    omega
  | some v =>
    rw [hv] at e2
    refine ⟨v, rfl, ?_⟩
    unfold execOp
    rw [ho]
    simp [Instr.extract, ← hx, ← e2, Sem.run_bind, Result.andThen]

/-- All operands are values without addresses of objects: the model's own operation, which must neither look at the world nor turn it. -/
noncomputable def flatOpd (fr : Tr SV) (x : Operand) : Value := (flat (opd fr x)).getD undef
noncomputable def allFlat (fr : Tr SV) : List Operand → Bool
  | [] => true
  | x :: r => match flat (opd fr x) with
    | some _ => allFlat fr r
    | none => false
noncomputable def rdPure (P : Program) (o : Oper) (fr : Tr SV) (k : SV → Bool) : Bool :=
  bif allFlat fr o.op.operands.toList then
    (match o.op with
    | .select _ _ => false
    | _ => match pureRun P (execOp (flatOpd fr) o) with
      | some (.value v) => normK v k
      | _ => false)
  else false
theorem allFlat_ok {E : Env} {N : Nat} {a : Act} (f : FrOk E fr N a) : ∀ (l : List Operand), allFlat fr l = true → ∀ x ∈ l, a.eval x = flatOpd fr x
  | [], _, x, hx => by cases hx
  | y :: r, h, x, hx => by
    rw [allFlat] at h
    split at h
    case h_2 => cases h
    rename_i v hv
    rcases List.mem_cons.1 hx with rfl | hx
    · have := opd_ok f x
      rw [val_of_flat E _ _ hv] at this
      simp [flatOpd, hv, Option.some.inj this]
    · exact allFlat_ok f r h x hx
theorem rdPure_ok (h : rdPure P o fr k = true) : ∃ sv, k sv = true ∧ ReadOk P W0 o fr g.get sv := by
  unfold rdPure at h
  obtain ⟨h1, h2⟩ := bif_true h
  split at h2
  · cases h2
  rename_i hns
  split at h2
  case h_2 => cases h2
  rename_i v hv
  obtain ⟨sv, k1, k2⟩ := normK_ok h2
  refine ⟨sv, k1, fun E N a w r f => ⟨v, k2 E, ?_⟩⟩
  rw [execOp_congr o (fun cs b e => hns cs b e) (fun x hx => allFlat_ok f _ h1 x (by simpa using hx))]
  exact run_of_pureRun P _ _ w hv
end Go.Proofs.YtjbjpjaeagopjaaGreat.Ev
