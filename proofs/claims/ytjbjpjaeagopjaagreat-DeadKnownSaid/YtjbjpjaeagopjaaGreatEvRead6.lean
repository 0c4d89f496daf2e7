/- Looking up in a map; all reading operations. -/
import Derived.Test.YtjbjpjaeagopjaaGreatEvRead5
set_option linter.unusedSimpArgs false
set_option linter.unusedVariables false
namespace Go.Proofs.YtjbjpjaeagopjaaGreat.Ev
open Go
variable {P : Program} {W0 : World} {fr : Tr SV} {g : Tr SO} {k : SV → Bool} {o : Oper}

noncomputable def findS (kd : TypeDesc) (kv : Value) : List (SV × SV × Nat) → Nat → Option (Option (Nat × SV))
  | [], _ => some none
  | e :: r, i => match flat e.1 with
    | some kv' => match Instr.sameNow kd kv kv' with
      | some true => some (some (i, e.2.1))
      | some false => findS kd kv r (i + 1)
      | none => none
    | none => none
theorem findS_ok {E : Env} {kd : TypeDesc} {kv : Value} {es : List (SV × SV × Nat)} {ms : List MapEntry} (h : EntriesOk E es ms) : ∀ (i : Nat),
    (∀ j sv, findS kd kv es i = some (some (j, sv)) → ∃ v, val E sv = some v ∧ Instr.findNow kd kv ms i = some (some (j, v)) ∧ i ≤ j ∧ ∃ key, ms[j - i]? = some key ∧ Instr.sameNow kd kv key.key = some true) ∧
    (findS kd kv es i = some none → Instr.findNow kd kv ms i = some none) := by
  induction h with
  | nil => intro i; exact ⟨fun j sv e => by simp [findS] at e, fun _ => rfl⟩
  | @cons e m es ms hem _ ih =>
    intro i
    obtain ⟨e1, e2, e3⟩ := hem
    constructor
    · intro j sv h
      rw [findS] at h
      split at h
      case h_2 => cases h
      rename_i kv' hk
      have : kv' = m.key := Option.some.inj ((val_of_flat E _ _ hk).symm.trans e1)
      subst this
      split at h
      · rename_i hs
        simp only [Option.some.injEq, Prod.mk.injEq] at h
        obtain ⟨rfl, rfl⟩ := h
        exact ⟨m.val, e2, by simp [Instr.findNow, hs], Nat.le_refl _, m, by simp, hs⟩
      · rename_i hs
        obtain ⟨v, k1, k2, k3, key, k4, k5⟩ := (ih (i + 1)).1 j sv h
        refine ⟨v, k1, by simp [Instr.findNow, hs, k2], by omega, key, ?_, k5⟩
        rw [show j - i = (j - (i + 1)) + 1 by omega]
        simpa using k4
      · cases h
    · intro h
      rw [findS] at h
      split at h
      case h_2 => cases h
      rename_i kv' hk
      have : kv' = m.key := Option.some.inj ((val_of_flat E _ _ hk).symm.trans e1)
      subst this
      split at h
      · simp at h
      · rename_i hs
        simp [Instr.findNow, hs, (ih (i + 1)).2 h]
      · cases h
/-- A key whose comparison neither asks nor panics. -/
def plainKey : TypeDesc → Bool
  | .int _ => true
  | .string => true
  | .bool => true
  | _ => false
theorem run_checkKey {P : Program} {t : TypeId} {d : TypeDesc} (hu : P.underlying t = some d) (hd : plainKey d = true) (e : Bool) (n : Nat) (v : Value) (w : World) : (Instr.checkKey e (n + 1) t v).run P w = .ok () w := by
  cases d <;> first
    | (simp [plainKey] at hd; done)
    | (cases v <;> simp [Instr.checkKey, Sem.run_bind, run_underlying hu, Result.andThen])
theorem run_checkKey' {P : Program} {t : TypeId} {d : TypeDesc} (hu : P.underlying t = some d) (hd : plainKey d = true) (e : Bool) (v : Value) (w : World) : (Instr.checkKey e 10000 t v).run P w = .ok () w := run_checkKey hu hd e 9999 v w
theorem run_findKey {P : Program} {t : TypeId} {d : TypeDesc} (hu : P.underlying t = some d) {kv : Value} {ms : List MapEntry} {r : Option (Nat × Value)} (h : Instr.findNow d kv ms 0 = some r) (w : World) : (Instr.findKey t kv ms).run P w = .ok r w := by
  simp [Instr.findKey, Sem.run_bind, run_underlying hu, Result.andThen, h]

noncomputable def rdLookup (P : Program) (t : TypeId) (fr : Tr SV) (g : Tr SO) (x ix : Operand) (ok : Bool) (k : SV → Bool) : Bool :=
  match P.underlying t with
  | some (.map kt el) => match P.underlying kt with
    | some kd => bif plainKey kd then opdK fr x fun p => match p with
      | .map id => match g.get id with
        | some (.mp es _) => opdK fr ix fun q => match flat q with
          | some kv => match findS kd kv es 0 with
            | some (some (_, sv)) => bif ok then k (.tup [sv, .bool true]) else k sv
            | some none => match P.info? el with
              | some inf => match inf.zero with
                | some z => bif ok then k (.tup [ofV z, .bool false]) else k (ofV z)
                | none => false
              | none => false
            | none => false
          | none => false
        | _ => false
      | _ => false else false
    | none => false
  | _ => false
theorem rdLookup_ok {t : TypeId} {x ix : Operand} {ok : Bool} (ho : o.op = .lookup t x ix ok) (h : rdLookup P t fr g x ix ok k = true) : ∃ sv, k sv = true ∧ ReadOk P W0 o fr g.get sv := by
  have run : ∀ (a : Act) (w : World) (v : Value), (Instr.lookup t (a.eval x) (a.eval ix) ok).run P w = .ok v w → (execOp a.eval o).run P w = .ok (.value v) w := by
    intro a w v h
    unfold execOp
    rw [ho]
    simp only [Sem.run_bind, h, Result.andThen, Sem.run_pure]
  unfold rdLookup at h
  split at h
  case h_2 => cases h
  rename_i kt el hu
  split at h
  case h_2 => cases h
  rename_i kd hkd
  obtain ⟨hpl, h⟩ := bif_true h
  rw [opdK_eq] at h
  split at h
  case h_2 => cases h
  rename_i id hp
  split at h
  case h_2 => cases h
  rename_i es clock hm
  rw [opdK_eq] at h
  split at h
  case h_2 => cases h
  rename_i kv hkv
  have base : ∀ (E : Env) (N : Nat) (a : Act) (w : World), Rel W0 E g.get w → FrOk E fr N a → ∃ (r : Nat) (ms : List MapEntry), a.eval x = .map (some r) ∧ a.eval ix = kv ∧ w.heap[r]? = some (.map ms.toArray clock) ∧ EntriesOk E es ms := by
    intro E N a w r f
    obtain ⟨s, e1, _, ms, e2, e3⟩ := r.obj id _ hm
    have hx := opd_ok f x
    rw [hp] at hx
    simp only [val, e1, Option.map_some, Option.some.injEq] at hx
    have hy := opd_ok f ix
    rw [val_of_flat E _ _ hkv] at hy
    exact ⟨s.blk, ms, hx.symm, (Option.some.inj hy).symm, e2, e3⟩
  split at h
  · rename_i j sv hfind
    have hk : ∃ res, k res = true ∧ res = (if ok then .tup [sv, .bool true] else sv) := by
      cases ok
      · exact ⟨sv, h, rfl⟩
      · exact ⟨_, h, rfl⟩
    obtain ⟨res, hk, rfl⟩ := hk
    refine ⟨_, hk, fun E N a w r f => ?_⟩
    obtain ⟨b, ms, e1, e2, e3, e4⟩ := base E N a w r f
    obtain ⟨v, k1, k2, _⟩ := (findS_ok e4 0).1 j sv hfind
    refine ⟨if ok then .tuple #[v, .bool true] else v, ?_, run a w _ ?_⟩
    · cases ok
      · exact k1
      · simp [val, vals, k1]
    · rw [e1, e2]
      have := run_findKey (P := P) hkd k2 w
      simp [Instr.lookup, Sem.run_bind, run_underlying hu, Result.andThen, getObj, Sem.run, e3, run_checkKey' hkd hpl, this]
  · rename_i hfind
    split at h
    case h_2 => cases h
    rename_i inf hinf
    split at h
    case h_2 => cases h
    rename_i z hz
    have hk : ∃ res, k res = true ∧ res = (if ok then .tup [ofV z, .bool false] else ofV z) := by
      cases ok
      · exact ⟨_, h, rfl⟩
      · exact ⟨_, h, rfl⟩
    obtain ⟨res, hk, rfl⟩ := hk
    refine ⟨_, hk, fun E N a w r f => ?_⟩
    obtain ⟨b, ms, e1, e2, e3, e4⟩ := base E N a w r f
    have k2 := (findS_ok (kd := kd) (kv := kv) e4 0).2 hfind
    refine ⟨if ok then .tuple #[z, .bool false] else z, ?_, run a w _ ?_⟩
    · cases ok
      · exact val_ofV E z
      · simp [val, vals, val_ofV]
    · rw [e1, e2]
      have := run_findKey (P := P) hkd k2 w
      simp [Instr.lookup, Sem.run_bind, run_underlying hu, Result.andThen, getObj, Sem.run, e3, run_checkKey' hkd hpl, this, zeroValue, typeInfo, hinf, hz]
  · cases h

/-- All operations that only read. -/
noncomputable def rdK (P : Program) (o : Oper) (fr : Tr SV) (g : Tr SO) (k : SV → Bool) : Bool :=
  match o.op with
  | .move x => rdMove fr x k
  | .assign x => rdMove fr x k
  | .pick c a b => rdPick fr c a b k
  | .load t x => rdLoad P t fr g x k
  | .nilCheck x => rdNil fr x k
  | .fieldAddr s x f => rdFieldAddr P s fr x f k
  | .field t x f => bif allFlat fr [x] then rdPure P o fr k else rdField P t fr x f k
  | .indexAddr t x i => rdIndexAddr P t fr x i k
  | .extract x i => rdExtract fr x i k
  | .build t ps => rdBuild P t fr ps k
  | .makeFunc f a b => rdMakeFunc fr f a b k
  | .slice t x lo hi mx => bif allFlat fr [x] then rdPure P o fr k else rdSlice P t fr g x lo hi mx k
  | .lookup t x i ok => bif allFlat fr [x] then rdPure P o fr k else rdLookup P t fr g x i ok k
  | .binOp op t x y _ => bif allFlat fr [x, y] then rdPure P o fr k else rdEqNil P op t fr x y k
  | .call c => (match c with
    | { callee := .builtin .len, args := ⟨[x]⟩, argTypes := ⟨[t]⟩ } => bif allFlat fr [x] then rdPure P o fr k else rdLen P t fr g x k
    | _ => rdPure P o fr k)
  | _ => rdPure P o fr k
theorem bif_or {b x y : Bool} (h : (bif b then x else y) = true) : x = true ∨ y = true := by cases b <;> simp_all
theorem rdK_ok (h : rdK P o fr g k = true) : ∃ sv, k sv = true ∧ ReadOk P W0 o fr g.get sv := by
  unfold rdK at h
  split at h
  · exact rdMove_ok (.inl (by assumption)) h
  · exact rdMove_ok (.inr (by assumption)) h
  · exact rdPick_ok (by assumption) h
  · exact rdLoad_ok (by assumption) h
  · exact rdNil_ok (by assumption) h
  · exact rdFieldAddr_ok (by assumption) h
  · rcases bif_or h with h | h
    · exact rdPure_ok h
    · exact rdField_ok (by assumption) h
  · exact rdIndexAddr_ok (by assumption) h
  · exact rdExtract_ok (by assumption) h
  · exact rdBuild_ok (by assumption) h
  · exact rdMakeFunc_ok (by assumption) h
  · rcases bif_or h with h | h
    · exact rdPure_ok h
    · exact rdSlice_ok (by assumption) h
  · rcases bif_or h with h | h
    · exact rdPure_ok h
    · exact rdLookup_ok (by assumption) h
  · rcases bif_or h with h | h
    · exact rdPure_ok h
    · exact rdEqNil_ok (by assumption) h
  · split at h
    · rcases bif_or h with h | h
      · exact rdPure_ok h
      · exact rdLen_ok (by assumption) h
    · exact rdPure_ok h
  · exact rdPure_ok h
end Go.Proofs.YtjbjpjaeagopjaaGreat.Ev
