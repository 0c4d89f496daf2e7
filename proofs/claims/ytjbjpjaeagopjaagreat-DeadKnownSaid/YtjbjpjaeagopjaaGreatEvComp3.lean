/- A closure says no more than the operation: the other kinds. -/
import Derived.Test.YtjbjpjaeagopjaaGreatEvComp2
set_option linter.unusedSimpArgs false
set_option linter.unusedVariables false
namespace Go.Proofs.YtjbjpjaeagopjaaGreat.Ev
open Go
variable {P : Program} {call : CallK} {o : Oper} {fr : Tr SV} {h : HS} {k : SV → HS → Bool}

theorem clMove_ok {x : Operand} (ho : o.op = .move x ∨ o.op = .assign x) (hk : (clMove x).f call fr h k = true) : opK P call o fr h k = true := by
  unfold clMove at hk
  rw [Cl.then_eq] at hk
  simp only [opdC_eq] at hk
  rcases ho with ho | ho <;> (simp only [opK, rdK, ho, rdMove]; exact hk)
theorem clPick_ok {c x y : Operand} (ho : o.op = .pick c x y) (hk : (clPick c x y).f call fr h k = true) : opK P call o fr h k = true := by
  unfold clPick at hk
  simp only [Cl.then_eq, opdC_at] at hk
  obtain ⟨b, e, hk⟩ := asBool_ok hk
  simp only [opK, rdK, ho, rdPick, opdK_eq, e]
  cases b
  · exact hk
  · exact hk
theorem clLoad_ok {t : TypeId} {x : Operand} (ho : o.op = .load t x) (hk : (clLoad P o t x).f call fr h k = true) : opK P call o fr h k = true := by
  unfold clLoad at hk
  split at hk
  · rename_i ha
    simp only [Cl.then_eq, opdC_at] at hk
    obtain ⟨id, off, e, hk⟩ := asPtr_ok hk
    rw [getQ_eq] at hk
    split at hk
    case h_2 => cases hk
    rename_i so hso
    obtain ⟨n, s, tr, e2, hk⟩ := asRowO_ok hk
    subst e2
    obtain ⟨h1, hk⟩ := rec_true hk
    rw [getQ_eq] at hk
    simp only [opK, rdK, ho, rdLoad, opdK_eq, e, hso, ha]
    rw [show Nat.ble (off + 1) n = true from h1, cond_true]
    cases hg : tr.get off with
    | none => rw [hg] at hk; cases hk
    | some sv => rw [hg] at hk; exact hk
  · rename_i ha
    split at hk
    · rename_i i hi
      rw [natC_eq] at hk
      simp only [Cl.then_eq, opdC_at] at hk
      obtain ⟨id, off, e, hk⟩ := asPtr_ok hk
      rw [getQ_eq] at hk
      split at hk
      case h_2 => cases hk
      rename_i so hso
      obtain ⟨n, s, tr, e2, hk⟩ := asRowO_ok hk
      subst e2
      obtain ⟨h1, hk⟩ := rec_true hk
      simp only [opK, rdK, ho, rdLoad, opdK_eq, e, hso, ha, hi]
      rw [h1, cond_true]
      exact hk
    · exact hk
  · exact hk
theorem clNil_ok {x : Operand} (ho : o.op = .nilCheck x) (hk : (clNil P o x).f call fr h k = true) : opK P call o fr h k = true := by
  unfold clNil at hk
  simp only [Cl.then_eq, opdC_at] at hk
  rcases asPtrD_ok hk with q | ⟨id, off, e, q⟩
  · exact q
  · simp only [opK, rdK, ho, rdNil, opdK_eq, e]
    exact q
theorem clFieldAddr_ok {s : TypeId} {x : Operand} {fi : Nat} (ho : o.op = .fieldAddr s x fi) (hk : (clFieldAddr P o s x fi).f call fr h k = true) : opK P call o fr h k = true := by
  unfold clFieldAddr at hk
  split at hk
  case h_2 => exact hk
  rename_i fs hfs
  split at hk
  case h_2 => exact hk
  rename_i f hf
  split at hk
  case h_2 => exact hk
  rename_i i hi
  cases hz : Nat.beq i.size 0 with
  | true => rw [hz] at hk; exact hk
  | false =>
    rw [hz, cond_false, natC_eq] at hk
    simp only [Cl.then_eq, opdC_at] at hk
    obtain ⟨id, off, e, hk⟩ := asPtr_ok hk
    simp only [opK, rdK, ho, rdFieldAddr, opdK_eq, e, hfs, hf, hi, hz, cond_false]
    exact hk
theorem asNatI_ok {n : Int} {k : Nat → Bool} (h : asNatI n k = true) : ∃ m : Nat, n = .ofNat m ∧ k m = true := by
  cases n with
  | ofNat m => exact ⟨m, rfl, h⟩
  | negSucc m => cases h
theorem clIndexAddr_ok {t : TypeId} {x ix : Operand} (ho : o.op = .indexAddr t x ix) (hk : (clIndexAddr P o t x ix).f call fr h k = true) : opK P call o fr h k = true := by
  unfold clIndexAddr at hk
  split at hk
  · rename_i el hu
    split at hk
    case h_2 => exact hk
    rename_i inf hi
    rw [natC_eq] at hk
    simp only [Cl.then_eq, opdC_at] at hk
    rcases asInt_ok hk with q | ⟨kd, n, e, q⟩
    · cases q
    obtain ⟨i, rfl, q⟩ := asNatI_ok q
    simp only [opK, rdK, ho, rdIndexAddr, opdK_eq, e, hu, hi]
    cases hp : opd fr x <;> rw [hp] at q <;> first
      | (cases q; done)
      | (obtain ⟨h1, q⟩ := rec_true q; simp only [h1, cond_true]; exact q)
  · rename_i len el hu
    split at hk
    case h_2 => exact hk
    rename_i inf hi
    rw [natC_eq] at hk
    simp only [Cl.then_eq, opdC_at] at hk
    rcases asInt_ok hk with q | ⟨kd, n, e, q⟩
    · cases q
    obtain ⟨i, rfl, q⟩ := asNatI_ok q
    obtain ⟨id, off, e2, q⟩ := asPtr_ok q
    obtain ⟨h1, q⟩ := rec_true q
    simp only [opK, rdK, ho, rdIndexAddr, opdK_eq, e, e2, hu, hi, h1, cond_true]
    exact q
  · exact hk
theorem pureRun_bind {α β : Type} (e : Sem α) (f : α → Sem β) : pureRun P (e >>= f) = (pureRun P e).bind fun a => pureRun P (f a) := by
  show pureRun P (Sem.bind e f) = _
  induction e with
  | pure a => rfl
  | program k ih => exact ih _
  | mark m k ih => exact ih
  | load m a k ih => rfl
  | store m a v k ih => rfl
  | new o k ih => rfl
  | shape r k ih => rfl
  | freeze a n k ih => rfl
  | frozen a k ih => rfl
  | getObj r k ih => rfl
  | setObj r o k ih => rfl
  | choose q k ih => rfl
  | sys c k ih => rfl
  | halt h => rfl
theorem pureRun_underlying {t : TypeId} {d : TypeDesc} (h : P.underlying t = some d) : pureRun P (underlying t) = some d := by
  have : pureRun P (underlying t) = pureRun P (match P.underlying t with | some d => pure d | none => stuck "no such type" : Sem TypeDesc) := rfl
  rw [this, h]
  rfl
theorem opK_pure {o : Oper} {v : Value} (hr : pureRun P (execOp (flatOpd fr) o) = some (.value v)) (hf : allFlat fr o.op.operands.toList = true) (hs : ∀ cs b, o.op ≠ .select cs b) (hk : k (ofV v) h = true) (he : opK P call o fr h k = rdPure P o fr fun sv => k sv h) : opK P call o fr h k = true := by
  rw [he]
  exact rdPure_of hs hf hr hk
theorem clNot_ok {t : TypeId} {x : Operand} (ho : o.op = .unOp .not t x) (hk : (clNot x).f call fr h k = true) : opK P call o fr h k = true := by
  unfold clNot at hk
  simp only [Cl.then_eq, opdC_at] at hk
  obtain ⟨b, e, hk⟩ := asBool_ok hk
  refine opK_pure (v := .bool !b) ?_ ?_ (fun cs b e => by rw [ho] at e; cases e) ?_ (by simp only [opK, rdK, ho])
  · have e1 : flatOpd fr x = .bool b := by simp [flatOpd, e, flat]
    unfold execOp
    rw [ho]
    simp only [e1, Op.unary]
    rfl
  · rw [ho]
    simp [Op.operands, allFlat, e, flat]
  · cases b
    · exact hk
    · exact hk
theorem nthK_ok {l : List UInt8} : ∀ {i : Nat} {k : UInt8 → Bool}, nthK l i k = true → ∃ b, l[i]? = some b ∧ k b = true := by
  induction l with
  | nil => intro i k h; cases h
  | cons a r ih =>
    intro i k h
    cases i with
    | zero => exact ⟨a, rfl, h⟩
    | succ j =>
      obtain ⟨b, h1, h2⟩ := ih (i := j) h
      exact ⟨b, by simpa using h1, h2⟩
theorem clIndex_ok {t : TypeId} {x ix : Operand} (ho : o.op = .index t x ix) (hk : (clIndex P o t x ix).f call fr h k = true) : opK P call o fr h k = true := by
  unfold clIndex at hk
  split at hk
  case h_2 => exact hk
  rename_i hu
  simp only [Cl.then_eq, opdC_at] at hk
  rcases asInt_ok hk with q1 | ⟨kd, n, e, q1⟩
  · cases q1
  clear hk
  obtain ⟨i, rfl, q1⟩ := asNatI_ok q1
  rcases asLit_ok q1 with q2 | ⟨v, e2, q2⟩
  · cases q2
  clear q1
  rcases asStr_ok q2 with q1 | ⟨s, rfl, q1⟩
  · cases q1
  clear q2
  obtain ⟨b, h1, q⟩ := nthK_ok q1
  rw [natK_eq] at q
  refine opK_pure (v := .int .u8 b.toNat) ?_ ?_ (fun cs b e => by rw [ho] at e; cases e) q (by simp only [opK, rdK, ho])
  · have e1 : flatOpd fr x = .string s := by simp [flatOpd, e2, flat]
    have e3 : flatOpd fr ix = .int kd i := by simp [flatOpd, e, flat]
    have e4 : s[i]? = some b := by
      have hi : i < s.data.toList.length := (List.getElem?_eq_some_iff.1 h1).1
      have hi' : i < s.size := by simpa using hi
      rw [getElem?_pos s i hi']
      have := (List.getElem?_eq_some_iff.1 h1).2
      rw [← this]
      rfl
    unfold execOp
    rw [ho]
    simp only [e1, e3, Instr.index, asIntOf, pureRun_bind, pureRun_pure, Option.bind_some, pureRun_underlying hu]
    simp [e4, pureRun_pure]
  · rw [ho]
    simp [Op.operands, allFlat, e, e2, flat]
theorem clLen_ok {t : TypeId} {x : Operand} (ho : o.op = .call { callee := .builtin .len, args := #[x], argTypes := #[t] }) (hk : (clLen P o t x).f call fr h k = true) : opK P call o fr h k = true := by
  unfold clLen at hk
  split at hk
  · rename_i el hu
    simp only [Cl.then_eq, opdC_at] at hk
    rcases asLen_ok hk with q | ⟨id, off, n, c, e, q⟩
    · exact q
    have e1 : opK P call o fr h k = rdK P o fr h.hp fun sv => k sv h := by simp only [opK, ho, effB, cond_false]
    rw [e1]
    have e2 : rdK P o fr h.hp (fun sv => k sv h) = bif allFlat fr [x] then rdPure P o fr (fun sv => k sv h) else rdLen P t fr h.hp x (fun sv => k sv h) := by simp only [rdK, ho]
    rw [e2]
    rcases e with e | e
    · rw [show allFlat fr [x] = false by simp [allFlat, e, flat], cond_false]
      simp only [rdLen, opdK_eq, e, hu]
      exact q
    · rw [show allFlat fr [x] = false by simp [allFlat, e, flat], cond_false]
      simp only [rdLen, opdK_eq, e, hu]
      exact q
  · rename_i hu
    simp only [Cl.then_eq, opdC_at] at hk
    rcases asLit_ok hk with q1 | ⟨v, e, q1⟩
    · exact q1
    clear hk
    rcases asStr_ok q1 with q2 | ⟨s, rfl, q2⟩
    · exact q2
    clear q1
    rw [natK_eq] at q2
    have e1 : opK P call o fr h k = rdK P o fr h.hp fun sv => k sv h := by simp only [opK, ho, effB, cond_false]
    rw [e1]
    have e2 : rdK P o fr h.hp (fun sv => k sv h) = bif allFlat fr [x] then rdPure P o fr (fun sv => k sv h) else rdLen P t fr h.hp x (fun sv => k sv h) := by simp only [rdK, ho]
    rw [e2, show allFlat fr [x] = true by simp [allFlat, e, flat], cond_true]
    refine rdPure_of (v := .int .i64 s.size) (fun cs b e => by rw [ho] at e; cases e) (by rw [ho]; simp [Op.operands, Call.operands, allFlat, e, flat]) ?_ (by simpa [ofV] using q2)
    unfold execOp
    rw [ho]
    have e3 : flatOpd fr x = .string s := by simp [flatOpd, e, flat]
    simp only [resolve, invoke, builtin, List.map_toArray, List.map_cons, List.map_nil, pureRun_bind, pureRun_pure, Option.bind_some, e3, Builtin.len_, List.getElem?_toArray, List.getElem?_cons_zero, pureRun_underlying hu]
    rfl
  · exact hk
theorem clCall_ok {f : Operand} {args : Array Operand} {ts : Array TypeId} (ho : o.op = .call { callee := .value f, args := args, argTypes := ts }) (hk : (clCall P o f args.toList).f call fr h k = true) : opK P call o fr h k = true := by
  unfold clCall at hk
  split at hk
  case h_2 => exact hk
  rename_i g
  cases hg : fineFn P g with
  | false => rw [hg] at hk; exact hk
  | true =>
    rw [hg, cond_true, Cl.then_eq] at hk
    simp only [argsC_eq, opdsK_eq] at hk
    simp only [opK, ho, callOp, opdK_eq, opd, fnOf, hg, cond_true, opdsK_eq, listK_eq, List.nil_append, List.append_nil]
    exact hk
theorem clAlloc_ok {el : TypeId} (ho : o.op = .alloc el) (hk : (clAlloc P o el).f call fr h k = true) : opK P call o fr h k = true := by
  unfold clAlloc at hk
  split at hk
  case h_2 => exact hk
  rename_i i hi
  split at hk
  case h_2 => exact hk
  rename_i z hz
  cases ha : allOne (cellsS (ofV z)) with
  | false => rw [ha] at hk; exact hk
  | true =>
    rw [ha, cond_true, natC_eq, trOfC_eq] at hk
    obtain ⟨h1, hk⟩ := rec_true hk
    simp only [opK, efK, ho, efAlloc, hi, hz, efRow, ha, h1, Bool.and_self, cond_true, natK_eq, trOfK_eq]
    exact hk
theorem clBox_ok {t : TypeId} {x : Operand} (ho : o.op = .box t x) (hk : (clBox x).f call fr h k = true) : opK P call o fr h k = true := by
  unfold clBox at hk
  simp only [Cl.then_eq, opdC_eq] at hk
  simp only [opK, efK, ho, efBox]
  exact hk
theorem clStore_ok {t : TypeId} {x y : Operand} (ho : o.op = .store t x y) (hk : (clStore P o t x y).f call fr h k = true) : opK P call o fr h k = true := by
  unfold clStore at hk
  split at hk
  case h_2 => exact hk
  rename_i i hi
  rw [natC_eq] at hk
  simp only [Cl.then_eq, opdC_at] at hk
  obtain ⟨id, off, e, q⟩ := asPtr_ok hk
  clear hk
  rw [getQ_eq] at q
  split at q
  case h_2 => cases q
  rename_i so hso
  obtain ⟨n, s, tr, rfl, q2⟩ := asRowO_ok q
  clear q
  rw [listK_eq] at q2
  obtain ⟨h1, hk⟩ := rec_true q2
  simp only [opK, efK, ho, efStore, opdK_eq, e, hso, hi, listK_eq, h1, cond_true]
  exact hk
theorem clExtract_ok {x : Operand} {i : Nat} (ho : o.op = .extract x i) (hk : (clExtract x i).f call fr h k = true) : opK P call o fr h k = true := by
  unfold clExtract at hk
  rw [natC_eq] at hk
  simp only [opK, rdK, ho]
  exact hk
theorem compOp_ok (hk : (compOp P o).f call fr h k = true) : opK P call o fr h k = true := by
  unfold compOp at hk
  split at hk
  · exact clMove_ok (.inl (by assumption)) hk
  · exact clMove_ok (.inr (by assumption)) hk
  · exact clPick_ok (by assumption) hk
  · exact clLoad_ok (by assumption) hk
  · exact clNil_ok (by assumption) hk
  · exact clFieldAddr_ok (by assumption) hk
  · exact clIndexAddr_ok (by assumption) hk
  · exact clBin_ok (by assumption) hk
  · exact clNot_ok (by assumption) hk
  · exact clIndex_ok (by assumption) hk
  · exact clExtract_ok (by assumption) hk
  · exact clAlloc_ok (by assumption) hk
  · exact clBox_ok (by assumption) hk
  · exact clStore_ok (by assumption) hk
  · exact clLen_ok (by assumption) hk
  · exact clCall_ok (by assumption) hk
  · exact hk
end Go.Proofs.YtjbjpjaeagopjaaGreat.Ev
