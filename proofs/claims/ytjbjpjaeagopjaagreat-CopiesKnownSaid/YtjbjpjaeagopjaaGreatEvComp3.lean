/- A closure says no more than the operation: the other kinds. -/
import Derived.Test.YtjbjpjaeagopjaaGreatEvComp2
set_option linter.unusedSimpArgs false
set_option linter.unusedVariables false
set_option linter.unusedSectionVars false
namespace Go.Proofs.YtjbjpjaeagopjaaGreat.Ev
open Go
variable [GTab] {P : Program} {call : CallK} {o : Oper} {fr : Tr SV} {h : HS} {k : SV → HS → Bool} {S : Type} {oc : OcF S} {gen : Cl (OpG S)} {s : S}

theorem clMove_ok {x : Operand} (ho : o.op = .move x ∨ o.op = .assign x) (hx : ∀ k, (oc x).f s k = k (opd fr x)) (hk : (clMove oc x).f call s h k = true) : opK P call o fr h k = true ∨ gen.f call s h k = true := by
  unfold clMove at hk
  rw [Cl.then_eq] at hk
  simp only [hx] at hk
  rcases ho with ho | ho <;> (refine .inl ?_; simp only [opK, rdK, ho, rdMove, opdK_eq]; exact hk)
theorem clPick_ok {c x y : Operand} (ho : o.op = .pick c x y) (hc : ∀ k, (oc c).f s k = k (opd fr c)) (hx : ∀ k, (oc x).f s k = k (opd fr x)) (hy : ∀ k, (oc y).f s k = k (opd fr y)) (hk : (clPick oc c x y).f call s h k = true) : opK P call o fr h k = true ∨ gen.f call s h k = true := by
  unfold clPick at hk
  simp only [Cl.then_eq, hc, hx, hy] at hk
  obtain ⟨b, e, hk⟩ := asBool_ok hk
  refine .inl ?_
  simp only [opK, rdK, ho, rdPick, opdK_eq, e]
  cases b
  · exact hk
  · exact hk
theorem clLoad_ok {t : TypeId} {x : Operand} (ho : o.op = .load t x) (hx : ∀ k, (oc x).f s k = k (opd fr x)) (hk : (clLoad oc gen P t x).f call s h k = true) : opK P call o fr h k = true ∨ gen.f call s h k = true := by
  unfold clLoad at hk
  split at hk
  · rename_i ha
    simp only [Cl.then_eq, hx] at hk
    rcases asPtrD_ok hk with q | ⟨id, off, e, q⟩
    · exact .inr q
    clear hk
    rw [getQ_eq] at q
    split at q
    case h_2 => cases q
    rename_i so hso
    obtain ⟨n, sz, tr, rfl, q2⟩ := asRowO_ok q
    clear q
    obtain ⟨h1, hk⟩ := rec_true q2
    rw [getQ_eq] at hk
    refine .inl ?_
    simp only [opK, rdK, ho, rdLoad, opdK_eq, e, hso, ha]
    rw [show Nat.ble (off + 1) n = true from h1, cond_true]
    cases hg : tr.get off with
    | none => rw [hg] at hk; cases hk
    | some sv => rw [hg] at hk; exact hk
  · rename_i ha
    split at hk
    · rename_i i hi
      rw [natC_eq] at hk
      simp only [Cl.then_eq, hx] at hk
      rcases asPtrD_ok hk with q | ⟨id, off, e, q⟩
      · exact .inr q
      clear hk
      rw [getQ_eq] at q
      split at q
      case h_2 => cases q
      rename_i so hso
      obtain ⟨n, sz, tr, rfl, q2⟩ := asRowO_ok q
      clear q
      obtain ⟨h1, hk⟩ := rec_true q2
      refine .inl ?_
      simp only [opK, rdK, ho, rdLoad, opdK_eq, e, hso, ha, hi]
      rw [h1, cond_true]
      exact hk
    · exact .inr hk
  · exact .inr hk
theorem clNil_ok {x : Operand} (ho : o.op = .nilCheck x) (hx : ∀ k, (oc x).f s k = k (opd fr x)) (hk : (clNil oc gen x).f call s h k = true) : opK P call o fr h k = true ∨ gen.f call s h k = true := by
  unfold clNil at hk
  simp only [Cl.then_eq, hx] at hk
  rcases asPtrD_ok hk with q | ⟨id, off, e, q⟩
  · exact .inr q
  · refine .inl ?_
    simp only [opK, rdK, ho, rdNil, opdK_eq, e]
    exact q
theorem clFieldAddr_ok {st : TypeId} {x : Operand} {fi : Nat} (ho : o.op = .fieldAddr st x fi) (hx : ∀ k, (oc x).f s k = k (opd fr x)) (hk : (clFieldAddr oc gen P st x fi).f call s h k = true) : opK P call o fr h k = true ∨ gen.f call s h k = true := by
  unfold clFieldAddr at hk
  split at hk
  case h_2 => exact .inr hk
  rename_i fs hfs
  split at hk
  case h_2 => exact .inr hk
  rename_i f hf
  split at hk
  case h_2 => exact .inr hk
  rename_i i hi
  cases hz : Nat.beq i.size 0 with
  | true => rw [hz] at hk; exact .inr hk
  | false =>
    rw [hz, cond_false, natC_eq] at hk
    simp only [Cl.then_eq, hx] at hk
    obtain ⟨id, off, e, hk⟩ := asPtr_ok hk
    refine .inl ?_
    simp only [opK, rdK, ho, rdFieldAddr, opdK_eq, e, hfs, hf, hi, hz, cond_false]
    exact hk
theorem asNatI_ok {n : Int} {k : Nat → Bool} (h : asNatI n k = true) : ∃ m : Nat, n = .ofNat m ∧ k m = true := by
  cases n with
  | ofNat m => exact ⟨m, rfl, h⟩
  | negSucc m => cases h
theorem clIndexAddr_ok {t : TypeId} {x ix : Operand} (ho : o.op = .indexAddr t x ix) (hx : ∀ k, (oc x).f s k = k (opd fr x)) (hix : ∀ k, (oc ix).f s k = k (opd fr ix)) (hk : (clIndexAddr oc gen P t x ix).f call s h k = true) : opK P call o fr h k = true ∨ gen.f call s h k = true := by
  have e0 : opK P call o fr h k = bif allFlat fr [x] then rdPure P o fr (fun sv => k sv h) else rdIndexAddr P t fr x ix (fun sv => k sv h) := by simp only [opK, rdK, ho]
  unfold clIndexAddr at hk
  split at hk
  · rename_i el hu
    split at hk
    case h_2 => exact .inr hk
    rename_i inf hi
    rw [natC_eq] at hk
    simp only [Cl.then_eq, hx, hix] at hk
    rcases asInt_ok hk with q | ⟨kd, n, e, q⟩
    · cases q
    clear hk
    obtain ⟨i, rfl, q⟩ := asNatI_ok q
    cases hp : opd fr x <;> rw [hp] at q <;> first
      | exact .inr q
      | (cases q; done)
      | (refine .inl ?_
         obtain ⟨h1, q⟩ := rec_true q
         rw [e0, show allFlat fr [x] = false by simp [allFlat, hp, flat], cond_false]
         simp only [rdIndexAddr, opdK_eq, e, hu, hi, hp, h1, cond_true]
         exact q)
  · rename_i len el hu
    split at hk
    case h_2 => exact .inr hk
    rename_i inf hi
    rw [natC_eq] at hk
    simp only [Cl.then_eq, hx, hix] at hk
    rcases asInt_ok hk with q | ⟨kd, n, e, q⟩
    · cases q
    clear hk
    obtain ⟨i, rfl, q⟩ := asNatI_ok q
    rcases asPtrD_ok q with q2 | ⟨id, off, e2, q2⟩
    · exact .inr q2
    obtain ⟨h1, q⟩ := rec_true q2
    refine .inl ?_
    rw [e0, show allFlat fr [x] = false by simp [allFlat, e2, flat], cond_false]
    simp only [rdIndexAddr, opdK_eq, e, e2, hu, hi, h1, cond_true]
    exact q
  · exact .inr hk
theorem opK_pure {o : Oper} {v : Value} (hr : pureRun P (execOp (flatOpd fr) o) = some (.value v)) (hf : allFlat fr o.op.operands.toList = true) (hs : ∀ cs b, o.op ≠ .select cs b) (hk : k (ofV v) h = true) (he : opK P call o fr h k = rdPure P o fr fun sv => k sv h) : opK P call o fr h k = true := by
  rw [he]
  exact rdPure_of hs hf hr hk
theorem clNot_ok {t : TypeId} {x : Operand} (ho : o.op = .unOp .not t x) (hx : ∀ k, (oc x).f s k = k (opd fr x)) (hk : (clNot oc x).f call s h k = true) : opK P call o fr h k = true ∨ gen.f call s h k = true := by
  unfold clNot at hk
  simp only [Cl.then_eq, hx] at hk
  obtain ⟨b, e, hk⟩ := asBool_ok hk
  refine .inl (opK_pure (v := .bool !b) ?_ ?_ (fun cs b e => by rw [ho] at e; cases e) ?_ (by simp only [opK, rdK, ho]))
  · have e1 : flatOpd fr x = .bool b := by simp [flatOpd, e, flat]
    unfold execOp
    rw [ho]
    simp only [e1, Op.unary]
    rfl
  · rw [ho]
    simp [Op.operands, allFlat, e, flat]
  · cases b
    · exact hk
    · exact hk
theorem nthK_ok {l : List UInt8} {i : Nat} {k : Nat → Bool} (h : nthK l i k = true) : ∃ b : UInt8, l[i]? = some b ∧ k b.toNat = true := by
  unfold nthK at h
  obtain ⟨h1, h2⟩ := rec_true h
  have hi : i < l.length := Nat.le_of_ble_eq_true h1
  refine ⟨l[i], List.getElem?_eq_getElem hi, ?_⟩
  rw [natK_eq, numB_at l i _ (List.getElem?_eq_getElem hi)] at h2
  exact h2
theorem clIndex_ok {t : TypeId} {x ix : Operand} (ho : o.op = .index t x ix) (hx : ∀ k, (oc x).f s k = k (opd fr x)) (hix : ∀ k, (oc ix).f s k = k (opd fr ix)) (hk : (clIndex oc gen P t x ix).f call s h k = true) : opK P call o fr h k = true ∨ gen.f call s h k = true := by
  unfold clIndex at hk
  split at hk
  case h_3 => exact .inr hk
  case h_2 =>
    rename_i len el hu
    split at hk
    case h_2 => exact .inr hk
    rename_i inf ha hi
    cases hz : Nat.beq inf.size 1 with
    | false => rw [hz] at hk; exact .inr hk
    | true =>
    rw [hz, cond_true] at hk
    simp only [Cl.then_eq, hx, hix] at hk
    rcases asInt_ok hk with q1 | ⟨kd, n, e, q1⟩
    · cases q1
    clear hk
    obtain ⟨i, rfl, q1⟩ := asNatI_ok q1
    rcases asAgg'_ok q1 with q2 | ⟨l, e2, q2⟩
    · exact .inr q2
    clear q1
    obtain ⟨h1, q3⟩ := rec_true q2
    rw [nthV_eq] at q3
    refine .inl ?_
    have e0 : opK P call o fr h k = bif rdIndexA P t fr x ix (fun sv => k sv h) then true else rdPure P o fr (fun sv => k sv h) := by simp only [opK, rdK, ho]
    have e3 : rdIndexA P t fr x ix (fun sv => k sv h) = true := by
      unfold rdIndexA
      simp only [hu, ha, hi, hz, cond_true, opdK_eq, e, e2, h1]
      cases hl : l[i]? with
      | none => rw [hl] at q3; cases q3
      | some s => rw [hl] at q3; exact q3
    rw [e0, e3]
    rfl
  rename_i hu
  simp only [Cl.then_eq, hx, hix] at hk
  rcases asInt_ok hk with q1 | ⟨kd, n, e, q1⟩
  · cases q1
  clear hk
  obtain ⟨i, rfl, q1⟩ := asNatI_ok q1
  rcases asLit_ok q1 with q2 | ⟨v, e2, q2⟩
  · cases q2
  clear q1
  rcases asStr_ok q2 with q1 | ⟨sa, rfl, q1⟩
  · cases q1
  clear q2
  obtain ⟨b, h1, q⟩ := nthK_ok q1
  refine .inl (opK_pure (v := .int .u8 b.toNat) ?_ ?_ (fun cs b e => by rw [ho] at e; cases e) q (by
    have e0 : rdIndexA P t fr x ix (fun sv => k sv h) = false := by unfold rdIndexA; rw [hu]
    simp only [opK, rdK, ho, e0, cond_false]))
  · have e1 : flatOpd fr x = .string sa := by simp [flatOpd, e2, flat]
    have e3 : flatOpd fr ix = .int kd i := by simp [flatOpd, e, flat]
    have e4 : sa[i]? = some b := by
      have hi : i < sa.data.toList.length := (List.getElem?_eq_some_iff.1 h1).1
      have hi' : i < sa.size := by simpa using hi
      rw [getElem?_pos sa i hi']
      have := (List.getElem?_eq_some_iff.1 h1).2
      rw [← this]
      rfl
    unfold execOp
    rw [ho]
    simp only [e1, e3, Instr.index, asIntOf, pureRun_bind, pureRun_pure, Option.bind_some, pureRun_underlying hu]
    simp [e4, pureRun_pure]
  · rw [ho]
    simp [Op.operands, allFlat, e, e2, flat]
theorem clLen_ok {t : TypeId} {x : Operand} (ho : o.op = .call { callee := .builtin .len, args := #[x], argTypes := #[t] }) (hx : ∀ k, (oc x).f s k = k (opd fr x)) (hk : (clLen oc gen P t x).f call s h k = true) : opK P call o fr h k = true ∨ gen.f call s h k = true := by
  unfold clLen at hk
  split at hk
  · rename_i el hu
    simp only [Cl.then_eq, hx] at hk
    rcases asLen_ok hk with q | ⟨id, off, n, c, e, q⟩
    · exact .inr q
    refine .inl ?_
    have e1 : opK P call o fr h k = rdK P o fr h.hp fun sv => k sv h := by simp only [opK, ho, effB, cond_false]
    rw [e1]
    have e2 : rdK P o fr h.hp (fun sv => k sv h) = bif allFlat fr [x] then rdPure P o fr (fun sv => k sv h) else rdLen P t fr h.hp x (fun sv => k sv h) := by simp only [rdK, ho]
    rw [e2]
    rcases e with e | e
    · rw [show allFlat fr [x] = false by simp [allFlat, e, flat], cond_false]
      simp only [rdLen, opdK_eq, e, hu]
      exact q
    · rw [show allFlat fr [x] = false by simp [allFlat, e, flat], cond_false]
      simp only [rdLen, opdK_eq, e, hu]
      exact q
  · rename_i hu
    simp only [Cl.then_eq, hx] at hk
    rcases asLit_ok hk with q1 | ⟨v, e, q1⟩
    · exact .inr q1
    clear hk
    rcases asStr_ok q1 with q2 | ⟨sa, rfl, q2⟩
    · exact .inr q2
    clear q1
    rw [natK_eq] at q2
    refine .inl ?_
    have e1 : opK P call o fr h k = rdK P o fr h.hp fun sv => k sv h := by simp only [opK, ho, effB, cond_false]
    rw [e1]
    have e2 : rdK P o fr h.hp (fun sv => k sv h) = bif allFlat fr [x] then rdPure P o fr (fun sv => k sv h) else rdLen P t fr h.hp x (fun sv => k sv h) := by simp only [rdK, ho]
    rw [e2, show allFlat fr [x] = true by simp [allFlat, e, flat], cond_true]
    refine rdPure_of (v := .int .i64 sa.size) (fun cs b e => by rw [ho] at e; cases e) (by rw [ho]; simp [Op.operands, Call.operands, allFlat, e, flat]) ?_ (by simpa [ofV] using q2)
    unfold execOp
    rw [ho]
    have e3 : flatOpd fr x = .string sa := by simp [flatOpd, e, flat]
    simp only [resolve, invoke, builtin, List.map_toArray, List.map_cons, List.map_nil, pureRun_bind, pureRun_pure, Option.bind_some, e3, Builtin.len_, List.getElem?_toArray, List.getElem?_cons_zero, pureRun_underlying hu]
    rfl
  · exact .inr hk
theorem argsC_at (l : List Operand) : ∀ (k : List SV → Bool), (∀ x ∈ l, ∀ k, (oc x).f s k = k (opd fr x)) → (argsC oc l).f s k = k (l.map (opd fr)) := by
  induction l with
  | nil => intro k _; rfl
  | cons x r ih =>
    intro k hx
    show ((oc x).then fun g => (argsC oc r).then fun q => (⟨fun fr k => g fr fun s => q fr fun l => k (s :: l)⟩ : Cl (S → (List SV → Bool) → Bool))).f s k = _
    rw [Cl.then_eq, Cl.then_eq]
    show (oc x).f s (fun v => (argsC oc r).f s fun l => k (v :: l)) = _
    rw [hx x List.mem_cons_self, ih _ fun y hy => hx y (List.mem_cons_of_mem _ hy)]
    rfl
theorem clCall_ok {f : Operand} {args : Array Operand} {ts : Array TypeId} (ho : o.op = .call { callee := .value f, args := args, argTypes := ts }) (hx : ∀ x ∈ args.toList, ∀ k, (oc x).f s k = k (opd fr x)) (hk : (clCall oc gen P f args.toList).f call s h k = true) : opK P call o fr h k = true ∨ gen.f call s h k = true := by
  unfold clCall at hk
  split at hk
  case h_2 => exact .inr hk
  rename_i g
  cases hg : fineFn P g with
  | false => rw [hg] at hk; exact .inr hk
  | true =>
    rw [hg, cond_true, Cl.then_eq] at hk
    simp only [argsC_at args.toList _ hx] at hk
    refine .inl ?_
    simp only [opK, ho, callOp, opdK_eq, opd, fnOf, hg, cond_true, opdsK_eq, listK_eq, List.nil_append, List.append_nil]
    exact hk
theorem clAlloc_ok {el : TypeId} (ho : o.op = .alloc el)  (hk : (clAlloc gen P el).f call s h k = true) : opK P call o fr h k = true ∨ gen.f call s h k = true := by
  unfold clAlloc at hk
  split at hk
  case h_2 => exact .inr hk
  rename_i i hi
  split at hk
  case h_2 => exact .inr hk
  rename_i z hz
  cases ha : allOne (cellsS (ofV z)) with
  | false => rw [ha] at hk; exact .inr hk
  | true =>
    rw [ha, cond_true, natC_eq, trOfC_eq] at hk
    obtain ⟨h1, hk⟩ := rec_true hk
    refine .inl ?_
    simp only [opK, efK, ho, efAlloc, hi, hz, efRow, ha, h1, Bool.and_self, cond_true, natK_eq, trOfK_eq]
    exact hk
theorem clBox_ok {t : TypeId} {x : Operand} (ho : o.op = .box t x) (hx : ∀ k, (oc x).f s k = k (opd fr x)) (hk : (clBox oc x).f call s h k = true) : opK P call o fr h k = true ∨ gen.f call s h k = true := by
  unfold clBox at hk
  simp only [Cl.then_eq, hx] at hk
  refine .inl ?_
  simp only [opK, efK, ho, efBox, opdK_eq]
  exact hk
theorem clStore_ok {t : TypeId} {x y : Operand} (ho : o.op = .store t x y) (hx : ∀ k, (oc x).f s k = k (opd fr x)) (hy : ∀ k, (oc y).f s k = k (opd fr y)) (hk : (clStore oc gen P t x y).f call s h k = true) : opK P call o fr h k = true ∨ gen.f call s h k = true := by
  unfold clStore at hk
  split at hk
  case h_2 => exact .inr hk
  rename_i i hi
  rw [natC_eq] at hk
  simp only [Cl.then_eq, hx, hy] at hk
  obtain ⟨id, off, e, q⟩ := asPtr_ok hk
  clear hk
  have q : getQ h.hp id (fun so => asRowO so fun n sz tr => listK (cellsS (opd fr y)) fun l =>
      Bool.rec false (trOfK l off tr fun tr' => h.hp.putK id (some (.row n sz tr')) fun hp' => k (.lit undef) ⟨hp', h.nx, h.ne, h.bar⟩) (Nat.beq l.length i.size && (Nat.ble (off + l.length) n && (Nat.ble h.bar id && allOne l)))) = true := q
  rw [getQ_eq] at q
  split at q
  case h_2 => cases q
  rename_i so hso
  obtain ⟨n, sz, tr, rfl, q2⟩ := asRowO_ok q
  clear q
  rw [listK_eq] at q2
  obtain ⟨h1, hk⟩ := rec_true q2
  refine .inl ?_
  simp only [opK, efK, ho, efStore, opdK_eq, e, hso, hi, listK_eq, h1, cond_true]
  exact hk
theorem clExtract_ok {x : Operand} {i : Nat} (ho : o.op = .extract x i) (hx : ∀ k, (oc x).f s k = k (opd fr x)) (hk : (clExtract oc x i).f call s h k = true) : opK P call o fr h k = true ∨ gen.f call s h k = true := by
  unfold clExtract at hk
  rw [natC_eq, Cl.then_eq] at hk
  simp only [hx] at hk
  refine .inl ?_
  simp only [opK, rdK, ho, rdExtract, opdK_eq]
  split at hk
  · rename_i l e
    simp only [e]
    exact hk
  · cases hk
theorem compG_ok (hx : ∀ x ∈ o.op.operands.toList, ∀ k, (oc x).f s k = k (opd fr x)) (hk : (compG oc gen P o).f call s h k = true) : opK P call o fr h k = true ∨ gen.f call s h k = true := by
  unfold compG at hk
  split at hk <;> rename_i ho
  · exact clMove_ok (.inl ho) (hx _ (by simp [ho, Op.operands])) hk
  · exact clMove_ok (.inr ho) (hx _ (by simp [ho, Op.operands])) hk
  · exact clPick_ok ho (hx _ (by simp [ho, Op.operands])) (hx _ (by simp [ho, Op.operands])) (hx _ (by simp [ho, Op.operands])) hk
  · exact clLoad_ok ho (hx _ (by simp [ho, Op.operands])) hk
  · exact clNil_ok ho (hx _ (by simp [ho, Op.operands])) hk
  · exact clFieldAddr_ok ho (hx _ (by simp [ho, Op.operands])) hk
  · exact clIndexAddr_ok ho (hx _ (by simp [ho, Op.operands])) (hx _ (by simp [ho, Op.operands])) hk
  · exact clBin_ok ho (hx _ (by simp [ho, Op.operands])) (hx _ (by simp [ho, Op.operands])) hk
  · exact clNot_ok ho (hx _ (by simp [ho, Op.operands])) hk
  · exact clIndex_ok ho (hx _ (by simp [ho, Op.operands])) (hx _ (by simp [ho, Op.operands])) hk
  · exact clExtract_ok ho (hx _ (by simp [ho, Op.operands])) hk
  · exact clAlloc_ok ho hk
  · exact clBox_ok ho (hx _ (by simp [ho, Op.operands])) hk
  · exact clStore_ok ho (hx _ (by simp [ho, Op.operands])) (hx _ (by simp [ho, Op.operands])) hk
  · exact clLen_ok ho (hx _ (by simp [ho, Op.operands, Call.operands])) hk
  · exact clCall_ok ho (fun x h => hx x (by simp [ho, Op.operands, Call.operands]; right; simpa using h)) hk
  · exact .inr hk
theorem compOp_ok (hk : (compOp P o).f call fr h k = true) : opK P call o fr h k = true := by
  rcases compG_ok (fun x _ k => opdC_at x fr k) hk with h | h
  · exact h
  · exact h
end Go.Proofs.YtjbjpjaeagopjaaGreat.Ev
