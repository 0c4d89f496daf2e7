/- Looking up in a map; all reading operations. -/
import Derived.Test.YtjbjpjaeagopjaaGreatEvRead5
set_option linter.unusedSimpArgs false
set_option linter.unusedVariables false
set_option linter.unusedSectionVars false
namespace Go.Proofs.YtjbjpjaeagopjaaGreat.Ev
open Go
variable [GTab] {P : Program} {W0 : World} [GOk W0] {fr : Tr SV} {g : Tr SO} {k : SV → Bool} {o : Oper}

noncomputable def findS (kd : TypeDesc) (kv : Value) : List (SV × SV × Nat) → Nat → Option (Option (Nat × SV))
  | [], _ => some none
  | e :: r, i => match flat e.1 with
    | some kv' => match Instr.sameNow kd kv kv' with
      | some true => some (some (i, e.2.1))
      | some false => findS kd kv r (i + 1)
      | none => none
    | none => none
theorem findS_ok {E : Env} {kd : TypeDesc} {kv : Value} {es : List (SV × SV × Nat)} {ms : List MapEntry} (h : EntriesOk E es ms) : ∀ (i : Nat),
    (∀ j sv, findS kd kv es i = some (some (j, sv)) → ∃ v, val E sv = some v ∧ Instr.findNow kd kv ms i = some (some (j, v)) ∧ i ≤ j ∧ ∃ key, ms[j - i]? = some key ∧ Instr.sameNow kd kv key.key = some true) ∧
    (findS kd kv es i = some none → Instr.findNow kd kv ms i = some none) := by
  induction h with
  | nil => intro i; exact ⟨fun j sv e => by simp [findS] at e, fun _ => rfl⟩
  | @cons e m es ms hem _ ih =>
    intro i
    obtain ⟨e1, e2, e3⟩ := hem
    constructor
    · intro j sv h
      rw [findS] at h
      split at h
      case h_2 => cases h
      rename_i kv' hk
      have : kv' = m.key := Option.some.inj ((val_of_flat E _ _ hk).symm.trans e1)
      subst this
      split at h
      · rename_i hs
        simp only [Option.some.injEq, Prod.mk.injEq] at h
        obtain ⟨rfl, rfl⟩ := h
        exact ⟨m.val, e2, by simp [Instr.findNow, hs], Nat.le_refl _, m, by simp, hs⟩
      · rename_i hs
        obtain ⟨v, k1, k2, k3, key, k4, k5⟩ := (ih (i + 1)).1 j sv h
        refine ⟨v, k1, by simp [Instr.findNow, hs, k2], by omega, key, ?_, k5⟩
        rw [show j - i = (j - (i + 1)) + 1 by omega]
        simpa using k4
      · cases h
    · intro h
      rw [findS] at h
      split at h
      case h_2 => cases h
      rename_i kv' hk
      have : kv' = m.key := Option.some.inj ((val_of_flat E _ _ hk).symm.trans e1)
      subst this
      split at h
      · simp at h
      · rename_i hs
        simp [Instr.findNow, hs, (ih (i + 1)).2 h]
      · cases h
/-- A key whose comparison neither asks nor panics. -/
def plainKey : TypeDesc → Bool
  | .int _ => true
  | .string => true
  | .bool => true
  | _ => false
theorem run_checkKey {P : Program} {t : TypeId} {d : TypeDesc} (hu : P.underlying t = some d) (hd : plainKey d = true) (e : Bool) (n : Nat) (v : Value) (w : World) : (Instr.checkKey e (n + 1) t v).run P w = .ok () w := by
  cases d <;> first
    | (simp [plainKey] at hd; done)
    | (cases v <;> simp [Instr.checkKey, Sem.run_bind, run_underlying hu, Result.andThen])
theorem run_checkKey' {P : Program} {t : TypeId} {d : TypeDesc} (hu : P.underlying t = some d) (hd : plainKey d = true) (e : Bool) (v : Value) (w : World) : (Instr.checkKey e 10000 t v).run P w = .ok () w := run_checkKey hu hd e 9999 v w
theorem run_findKey {P : Program} {t : TypeId} {d : TypeDesc} (hu : P.underlying t = some d) {kv : Value} {ms : List MapEntry} {r : Option (Nat × Value)} (h : Instr.findNow d kv ms 0 = some r) (w : World) : (Instr.findKey t kv ms).run P w = .ok r w := by
  simp [Instr.findKey, Sem.run_bind, run_underlying hu, Result.andThen, h]

/-! ### keys that are structs -/
theorem pureRun_pure {α : Type} (a : α) : pureRun P (pure a : Sem α) = some a := rfl
theorem pureRun_bind {α β : Type} (e : Sem α) (f : α → Sem β) : pureRun P (e >>= f) = (pureRun P e).bind fun a => pureRun P (f a) := by
  show pureRun P (Sem.bind e f) = _
  induction e with
  | pure a => rfl
  | program k ih => exact ih _
  | mark m k ih => exact ih
  | load m a k ih => rfl
  | store m a v k ih => rfl
  | new o k ih => rfl
  | shape r k ih => rfl
  | freeze a n k ih => rfl
  | frozen a k ih => rfl
  | getObj r k ih => rfl
  | setObj r o k ih => rfl
  | choose q k ih => rfl
  | sys c k ih => rfl
  | halt h => rfl
theorem pureRun_underlying {t : TypeId} {d : TypeDesc} (h : P.underlying t = some d) : pureRun P (underlying t) = some d := by
  have : pureRun P (underlying t) = pureRun P (match P.underlying t with | some d => pure d | none => stuck "no such type" : Sem TypeDesc) := rfl
  rw [this, h]
  rfl
noncomputable def keysOf : List (SV × SV × Nat) → Option (List MapEntry)
  | [] => some []
  | e :: r => match flat e.1 with
    | some k => (keysOf r).map fun l => { key := k, val := undef, born := 0 } :: l
    | none => none
/-- The same keys. -/
inductive SameKeys : List MapEntry → List MapEntry → Prop
  | nil : SameKeys [] []
  | cons {a b r s} : a.key = b.key → SameKeys r s → SameKeys (a :: r) (b :: s)
theorem keysOf_ok {E : Env} {es : List (SV × SV × Nat)} {ms : List MapEntry} (h : EntriesOk E es ms) : ∀ l, keysOf es = some l → SameKeys l ms := by
  induction h with
  | nil => intro l e; simp only [keysOf, Option.some.injEq] at e; subst e; exact .nil
  | @cons e m es ms he _ ih =>
    intro l q
    rw [keysOf] at q
    split at q
    case h_2 => cases q
    rename_i k hk
    obtain ⟨l', q1, rfl⟩ := Option.map_eq_some_iff.1 q
    exact .cons (Option.some.inj ((val_of_flat E _ _ hk).symm.trans he.1)) (ih l' q1)
def Found (i : Nat) (ms : List MapEntry) (r r' : Option (Nat × Value)) : Prop := (r = none ∧ r' = none) ∨ ∃ j v m, r = some (j, v) ∧ i ≤ j ∧ ms[j - i]? = some m ∧ r' = some (j, m.val)
theorem Found.later {i : Nat} {m : MapEntry} {ms : List MapEntry} {r r' : Option (Nat × Value)} (h : Found (i + 1) ms r r') : Found i (m :: ms) r r' := by
  rcases h with h | ⟨j, v, m', a, b, c, d⟩
  · exact .inl h
  · refine .inr ⟨j, v, m', a, by omega, ?_, d⟩
    rw [show j - i = (j - (i + 1)) + 1 by omega]
    simpa using c
theorem findNow_keys {kd : TypeDesc} {kv : Value} {l ms : List MapEntry} (h : SameKeys l ms) : ∀ i r, Instr.findNow kd kv l i = some r → ∃ r', Instr.findNow kd kv ms i = some r' ∧ Found i ms r r' := by
  induction h with
  | nil => intro i r e; simp only [Instr.findNow, Option.some.injEq] at e; subst e; exact ⟨none, rfl, .inl ⟨rfl, rfl⟩⟩
  | @cons a b r s hk _ ih =>
    intro i q e
    rw [Instr.findNow, hk] at e
    rw [Instr.findNow]
    split at e
    · obtain rfl := Option.some.inj e
      exact ⟨_, rfl, .inr ⟨i, a.val, b, rfl, Nat.le_refl _, by simp, rfl⟩⟩
    · obtain ⟨r', h1, h2⟩ := ih (i + 1) q e
      exact ⟨r', h1, h2.later⟩
    · cases e
theorem findNow_none {kd : TypeDesc} {kv : Value} {l ms : List MapEntry} (h : SameKeys l ms) : ∀ i, Instr.findNow kd kv l i = none → Instr.findNow kd kv ms i = none := by
  induction h with
  | nil => intro i e; cases e
  | @cons a b r s hk _ ih =>
    intro i e
    rw [Instr.findNow, hk] at e
    rw [Instr.findNow]
    split at e
    · cases e
    · exact ih _ e
    · rfl
theorem findAsking_keys {kt : TypeId} {kv : Value} {l ms : List MapEntry} (h : SameKeys l ms) : ∀ i r, pureRun P (Instr.findAsking kt kv l i) = some r → ∃ r', pureRun P (Instr.findAsking kt kv ms i) = some r' ∧ Found i ms r r' := by
  induction h with
  | nil => intro i r e; simp only [Instr.findAsking, pureRun_pure, Option.some.injEq] at e; subst e; exact ⟨none, rfl, .inl ⟨rfl, rfl⟩⟩
  | @cons a b r s hk _ ih =>
    intro i q e
    simp only [Instr.findAsking, hk, pureRun_bind, Option.bind_eq_some_iff] at e
    obtain ⟨t, h1, h2⟩ := e
    simp only [Instr.findAsking, pureRun_bind, h1, Option.bind_some]
    cases t with
    | true =>
      simp only [if_true, pureRun_pure, Option.some.injEq] at h2
      subst h2
      exact ⟨_, rfl, .inr ⟨i, a.val, b, rfl, Nat.le_refl _, by simp, rfl⟩⟩
    | false =>
      simp only [Bool.false_eq_true, if_false] at h2 ⊢
      obtain ⟨r', h3, h4⟩ := ih (i + 1) q h2
      exact ⟨r', h3, h4.later⟩
noncomputable def findG (P : Program) (kt : TypeId) (kv : Value) (es : List (SV × SV × Nat)) : Option (Option (Nat × SV)) :=
  match keysOf es with
  | some l => match pureRun P (Instr.findKey kt kv l) with
    | some none => some none
    | some (some (j, _)) => match es[j]? with
      | some e => some (some (j, e.2.1))
      | none => none
    | none => none
  | none => none
theorem entries_at {E : Env} {es : List (SV × SV × Nat)} {ms : List MapEntry} (h : EntriesOk E es ms) : ∀ (j : Nat) e m, es[j]? = some e → ms[j]? = some m → entryOk E e m := by
  induction h with
  | nil => intro j e m h; simp at h
  | cons a _ ih =>
    intro j e m h1 h2
    cases j with
    | zero => simp only [List.getElem?_cons_zero, Option.some.injEq] at h1 h2; subst h1 h2; exact a
    | succ j => exact ih j e m (by simpa using h1) (by simpa using h2)
theorem findG_ok {kt : TypeId} {kd : TypeDesc} {kv : Value} (hkd : P.underlying kt = some kd) {E : Env} {es : List (SV × SV × Nat)} {ms : List MapEntry} (h : EntriesOk E es ms) :
    (∀ j sv, findG P kt kv es = some (some (j, sv)) → ∃ v m e, val E sv = some v ∧ pureRun P (Instr.findKey kt kv ms) = some (some (j, v)) ∧ ms[j]? = some m ∧ es[j]? = some e ∧ entryOk E e m) ∧
    (findG P kt kv es = some none → pureRun P (Instr.findKey kt kv ms) = some none) := by
  have key : ∀ l r, keysOf es = some l → pureRun P (Instr.findKey kt kv l) = some r → ∃ r', pureRun P (Instr.findKey kt kv ms) = some r' ∧ Found 0 ms r r' := by
    intro l r hl hr
    have sk := keysOf_ok h l hl
    simp only [Instr.findKey, pureRun_bind, pureRun_underlying hkd, Option.bind_some] at hr ⊢
    cases hn : Instr.findNow kd kv l 0 with
    | some q =>
      rw [hn] at hr
      simp only [pureRun_pure, Option.some.injEq] at hr
      subst hr
      obtain ⟨r', h1, h2⟩ := findNow_keys sk 0 q hn
      rw [h1]
      exact ⟨r', rfl, h2⟩
    | none =>
      rw [hn] at hr
      rw [findNow_none sk 0 hn]
      exact findAsking_keys sk 0 r hr
  constructor
  · intro j sv e
    unfold findG at e
    split at e
    case h_2 => cases e
    rename_i l hl
    split at e
    · cases e
    · rename_i j' v' hr
      split at e
      case h_2 => cases e
      rename_i en hen
      simp only [Option.some.injEq, Prod.mk.injEq] at e
      obtain ⟨rfl, rfl⟩ := e
      obtain ⟨r', h1, h2⟩ := key l _ hl hr
      rcases h2 with ⟨h2, _⟩ | ⟨j2, v2, m, a, _, c, d⟩
      · cases h2
      · simp only [Option.some.injEq, Prod.mk.injEq] at a
        obtain ⟨rfl, rfl⟩ := a
        subst d
        rw [Nat.sub_zero] at c
        have eo := entries_at h _ en m hen c
        exact ⟨m.val, m, en, eo.2.1, h1, c, hen, eo⟩
    · cases e
  · intro e
    unfold findG at e
    split at e
    case h_2 => cases e
    rename_i l hl
    split at e
    · rename_i hr
      obtain ⟨r', h1, h2⟩ := key l _ hl hr
      rcases h2 with ⟨_, rfl⟩ | ⟨_, _, _, a, _⟩
      · exact h1
      · cases a
    · split at e <;> cases e
    · cases e
noncomputable def findM (P : Program) (kt : TypeId) (kd : TypeDesc) (kv : Value) (es : List (SV × SV × Nat)) : Option (Option (Nat × SV)) := bif plainKey kd then findS kd kv es 0 else findG P kt kv es
noncomputable def chkM (P : Program) (kt : TypeId) (kd : TypeDesc) (kv : Value) (e : Bool) : Bool := bif plainKey kd then true else match pureRun P (Instr.checkKey e 10000 kt kv) with
  | some _ => true
  | none => false
theorem run_chkM {kt : TypeId} {kd : TypeDesc} {kv : Value} (hkd : P.underlying kt = some kd) {e : Bool} (h : chkM P kt kd kv e = true) (w : World) : (Instr.checkKey e 10000 kt kv).run P w = .ok () w := by
  unfold chkM at h
  cases hp : plainKey kd with
  | true => exact run_checkKey' hkd hp e kv w
  | false =>
    rw [hp, cond_false] at h
    split at h
    · rename_i u hu
      exact run_of_pureRun P _ _ w hu
    · cases h
theorem findM_ok {kt : TypeId} {kd : TypeDesc} {kv : Value} (hkd : P.underlying kt = some kd) {E : Env} {es : List (SV × SV × Nat)} {ms : List MapEntry} (h : EntriesOk E es ms) :
    (∀ j sv, findM P kt kd kv es = some (some (j, sv)) → ∃ v m, val E sv = some v ∧ (∀ w, (Instr.findKey kt kv ms).run P w = .ok (some (j, v)) w) ∧ ms[j]? = some m ∧ (plainKey kd = true → Instr.sameNow kd kv m.key = some true) ∧ (plainKey kd = false → ∃ e, es[j]? = some e ∧ entryOk E e m)) ∧
    (findM P kt kd kv es = some none → ∀ w, (Instr.findKey kt kv ms).run P w = .ok none w) := by
  unfold findM
  cases hp : plainKey kd with
  | true =>
    simp only [cond_true]
    refine ⟨fun j sv e => ?_, fun e w => run_findKey hkd ((findS_ok h 0).2 e) w⟩
    obtain ⟨v, k1, k2, _, m, k3, k4⟩ := (findS_ok h 0).1 j sv e
    rw [Nat.sub_zero] at k3
    exact ⟨v, m, k1, fun w => run_findKey hkd k2 w, k3, ⟨fun _ => k4, fun q => (by cases q)⟩⟩
  | false =>
    simp only [cond_false]
    refine ⟨fun j sv e => ?_, fun e w => run_of_pureRun P _ _ w ((findG_ok hkd h).2 e)⟩
    obtain ⟨v, m, en, k1, k2, k3, k4, k5⟩ := (findG_ok hkd h).1 j sv e
    exact ⟨v, m, k1, fun w => run_of_pureRun P _ _ w k2, k3, ⟨fun q => (by cases q), fun _ => ⟨en, k4, k5⟩⟩⟩

/-- What is found is what lies there. -/
def findValIs (P : Program) (kt : TypeId) (kd : TypeDesc) (kv : Value) (es : List (SV × SV × Nat)) (i : Nat) (sv : SV) (e : SV × SV × Nat) : Prop := sv = e.2.1
theorem findS_at {kd : TypeDesc} {kv : Value} : ∀ (es : List (SV × SV × Nat)) (n i : Nat) (sv : SV), findS kd kv es n = some (some (i, sv)) → n ≤ i ∧ ∃ e, es[i - n]? = some e ∧ sv = e.2.1
  | [], n, i, sv, h => by cases h
  | e :: r, n, i, sv, h => by
    rw [findS] at h
    split at h
    case h_2 => cases h
    split at h
    · simp only [Option.some.injEq, Prod.mk.injEq] at h
      obtain ⟨rfl, rfl⟩ := h
      exact ⟨Nat.le_refl _, e, by simp, rfl⟩
    · obtain ⟨h1, e', h2, h3⟩ := findS_at r (n + 1) i sv h
      refine ⟨by omega, e', ?_, h3⟩
      rw [show i - n = (i - (n + 1)) + 1 by omega]
      simpa using h2
    · cases h
theorem findVal_of {kt : TypeId} {kd : TypeDesc} {kv : Value} {es : List (SV × SV × Nat)} {i : Nat} {sv : SV} {e : SV × SV × Nat} (h : findM P kt kd kv es = some (some (i, sv))) (he : es[i]? = some e) : findValIs P kt kd kv es i sv e := by
  unfold findM at h
  cases hp : plainKey kd with
  | true =>
    rw [hp, cond_true] at h
    obtain ⟨_, e', h2, h3⟩ := findS_at es 0 i sv h
    rw [Nat.sub_zero, he] at h2
    obtain rfl := Option.some.inj h2
    exact h3
  | false =>
    rw [hp, cond_false] at h
    unfold findG at h
    split at h
    case h_2 => cases h
    split at h
    · cases h
    · split at h
      case h_2 => cases h
      rename_i e' he'
      simp only [Option.some.injEq, Prod.mk.injEq] at h
      obtain ⟨rfl, rfl⟩ := h
      rw [he] at he'
      obtain rfl := Option.some.inj he'
      rfl
    · cases h
noncomputable def rdLookup (P : Program) (t : TypeId) (fr : Tr SV) (g : Tr SO) (x ix : Operand) (ok : Bool) (k : SV → Bool) : Bool :=
  match P.underlying t with
  | some (.map kt el) => match P.underlying kt with
    | some kd => opdK fr x fun p => match p with
      | .map id => match g.get id with
        | some (.mp es _) => opdK fr ix fun q => match flat q with
          | some kv => bif chkM P kt kd kv es.isEmpty then match findM P kt kd kv es with
            | some (some (_, sv)) => bif ok then k (.tup [sv, .bool true]) else k sv
            | some none => match P.info? el with
              | some inf => match inf.zero with
                | some z => bif ok then k (.tup [ofV z, .bool false]) else k (ofV z)
                | none => false
              | none => false
            | none => false else false
          | none => false
        | _ => false
      | _ => false
    | none => false
  | _ => false
theorem rdLookup_ok {t : TypeId} {x ix : Operand} {ok : Bool} (ho : o.op = .lookup t x ix ok) (h : rdLookup P t fr g x ix ok k = true) : ∃ sv, k sv = true ∧ ReadOk P W0 o fr g.get sv := by
  have run : ∀ (a : Act) (w : World) (v : Value), (Instr.lookup t (a.eval x) (a.eval ix) ok).run P w = .ok v w → (execOp a.eval o).run P w = .ok (.value v) w := by
    intro a w v h
    unfold execOp
    rw [ho]
    simp only [Sem.run_bind, h, Result.andThen, Sem.run_pure]
  unfold rdLookup at h
  split at h
  case h_2 => cases h
  rename_i kt el hu
  split at h
  case h_2 => cases h
  rename_i kd hkd
  rw [opdK_eq] at h
  split at h
  case h_2 => cases h
  rename_i id hp
  split at h
  case h_2 => cases h
  rename_i es clock hm
  rw [opdK_eq] at h
  split at h
  case h_2 => cases h
  rename_i kv hkv
  obtain ⟨hchk, h⟩ := bif_true h
  have emp : ∀ {E : Env} {ms : List MapEntry}, EntriesOk E es ms → ms.isEmpty = es.isEmpty := fun h => by cases h <;> rfl
  have base : ∀ (E : Env) (N : Nat) (a : Act) (w : World), Rel W0 E g.get w → FrOk E fr N a → ∃ (r : Nat) (ms : List MapEntry), a.eval x = .map (some r) ∧ a.eval ix = kv ∧ w.heap[r]? = some (.map ms.toArray clock) ∧ EntriesOk E es ms := by
    intro E N a w r f
    obtain ⟨s, e1, _, ms, e2, e3⟩ := r.obj id _ hm
    have hx := opd_ok f x
    rw [hp] at hx
    simp only [val, e1, Option.map_some, Option.some.injEq] at hx
    have hy := opd_ok f ix
    rw [val_of_flat E _ _ hkv] at hy
    exact ⟨s.blk, ms, hx.symm, (Option.some.inj hy).symm, e2, e3⟩
  split at h
  · rename_i j sv hfind
    have hk : ∃ res, k res = true ∧ res = (if ok then .tup [sv, .bool true] else sv) := by
      cases ok
      · exact ⟨sv, h, rfl⟩
      · exact ⟨_, h, rfl⟩
    obtain ⟨res, hk, rfl⟩ := hk
    refine ⟨_, hk, fun E N a w r f => ?_⟩
    obtain ⟨b, ms, e1, e2, e3, e4⟩ := base E N a w r f
    obtain ⟨v, _, k1, k2, _⟩ := (findM_ok hkd e4).1 j sv hfind
    have hc := run_chkM hkd hchk w
    rw [← emp e4] at hc
    refine ⟨if ok then .tuple #[v, .bool true] else v, ?_, run a w _ ?_⟩
    · cases ok
      · exact k1
      · simp [val, vals, k1]
    · rw [e1, e2]
      simp [Instr.lookup, Sem.run_bind, run_underlying hu, Result.andThen, getObj, Sem.run, e3, hc, k2]
  · rename_i hfind
    split at h
    case h_2 => cases h
    rename_i inf hinf
    split at h
    case h_2 => cases h
    rename_i z hz
    have hk : ∃ res, k res = true ∧ res = (if ok then .tup [ofV z, .bool false] else ofV z) := by
      cases ok
      · exact ⟨_, h, rfl⟩
      · exact ⟨_, h, rfl⟩
    obtain ⟨res, hk, rfl⟩ := hk
    refine ⟨_, hk, fun E N a w r f => ?_⟩
    obtain ⟨b, ms, e1, e2, e3, e4⟩ := base E N a w r f
    have k2 := (findM_ok hkd e4).2 hfind
    have hc := run_chkM hkd hchk w
    rw [← emp e4] at hc
    refine ⟨if ok then .tuple #[z, .bool false] else z, ?_, run a w _ ?_⟩
    · cases ok
      · exact val_ofV E z
      · simp [val, vals, val_ofV]
    · rw [e1, e2]
      simp [Instr.lookup, Sem.run_bind, run_underlying hu, Result.andThen, getObj, Sem.run, e3, hc, k2, zeroValue, typeInfo, hinf, hz]
  · cases h

/-- All operations that only read. -/
noncomputable def rdK (P : Program) (o : Oper) (fr : Tr SV) (g : Tr SO) (k : SV → Bool) : Bool :=
  match o.op with
  | .move x => rdMove fr x k
  | .assign x => rdMove fr x k
  | .pick c a b => rdPick fr c a b k
  | .load t x => rdLoad P t fr g x k
  | .nilCheck x => rdNil fr x k
  | .fieldAddr s x f => rdFieldAddr P s fr x f k
  | .field t x f => bif allFlat fr [x] then rdPure P o fr k else rdField P t fr x f k
  | .index t x i => bif rdIndexA P t fr x i k then true else rdPure P o fr k
  | .indexAddr t x i => bif allFlat fr [x] then rdPure P o fr k else rdIndexAddr P t fr x i k
  | .extract x i => rdExtract fr x i k
  | .build t ps => rdBuild P t fr ps k
  | .makeFunc f a b => rdMakeFunc fr f a b k
  | .slice t x lo hi mx => bif allFlat fr [x] then rdPure P o fr k else rdSlice P t fr g x lo hi mx k
  | .lookup t x i ok => bif allFlat fr [x] then rdPure P o fr k else rdLookup P t fr g x i ok k
  | .binOp op t x y _ => bif allFlat fr [x, y] then rdPure P o fr k else rdEqNil P op t fr x y k
  | .call c => (match c with
    | { callee := .builtin .len, args := ⟨[x]⟩, argTypes := ⟨[t]⟩ } => bif allFlat fr [x] then rdPure P o fr k else rdLen P t fr g x k
    | _ => rdPure P o fr k)
  | _ => rdPure P o fr k
theorem bif_or {b x y : Bool} (h : (bif b then x else y) = true) : x = true ∨ y = true := by cases b <;> simp_all
theorem bif_or2 {b y : Bool} (h : (bif b then true else y) = true) : b = true ∨ y = true := by cases b <;> simp_all
theorem rdK_ok (h : rdK P o fr g k = true) : ∃ sv, k sv = true ∧ ReadOk P W0 o fr g.get sv := by
  unfold rdK at h
  split at h
  · exact rdMove_ok (.inl (by assumption)) h
  · exact rdMove_ok (.inr (by assumption)) h
  · exact rdPick_ok (by assumption) h
  · exact rdLoad_ok (by assumption) h
  · exact rdNil_ok (by assumption) h
  · exact rdFieldAddr_ok (by assumption) h
  · rcases bif_or h with h | h
    · exact rdPure_ok h
    · exact rdField_ok (by assumption) h
  · rcases bif_or2 h with h | h
    · exact rdIndexA_ok (by assumption) h
    · exact rdPure_ok h
  · rcases bif_or h with h | h
    · exact rdPure_ok h
    · exact rdIndexAddr_ok (by assumption) h
  · exact rdExtract_ok (by assumption) h
  · exact rdBuild_ok (by assumption) h
  · exact rdMakeFunc_ok (by assumption) h
  · rcases bif_or h with h | h
    · exact rdPure_ok h
    · exact rdSlice_ok (by assumption) h
  · rcases bif_or h with h | h
    · exact rdPure_ok h
    · exact rdLookup_ok (by assumption) h
  · rcases bif_or h with h | h
    · exact rdPure_ok h
    · exact rdEqNil_ok (by assumption) h
  · split at h
    · rcases bif_or h with h | h
      · exact rdPure_ok h
      · exact rdLen_ok (by assumption) h
    · exact rdPure_ok h
  · exact rdPure_ok h
end Go.Proofs.YtjbjpjaeagopjaaGreat.Ev
