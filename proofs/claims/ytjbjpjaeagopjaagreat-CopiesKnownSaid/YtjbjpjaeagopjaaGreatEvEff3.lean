/- Deleting from a map, clearing a slice, the empty rest of a slice; all operations with effects. -/
import Derived.Test.YtjbjpjaeagopjaaGreatEvApp2
set_option linter.unusedSimpArgs false
set_option linter.unusedVariables false
set_option linter.unusedSectionVars false
namespace Go.Proofs.YtjbjpjaeagopjaaGreat.Ev
open Go
variable [GTab] {P : Program} {W0 : World} [GOk W0] {fr : Tr SV} {o : Oper}

noncomputable def efDelete (P : Program) (t : TypeId) (x ix : Operand) (fr : Tr SV) (h : HS) (k : SV → HS → Bool) : Bool :=
  match P.underlying t with
  | some (.map kt _) => (match P.underlying kt with
    | some kd => bif plainKey kd then opdK fr x fun p => (match p with
      | .map id => (match h.hp.get id with
        | some (.mp es clock) => opdK fr ix fun q => (match flat q with
          | some kv => bif Nat.ble h.bar id then (match findS kd kv es 0 with
            | some (some (i, _)) => entriesK (es.eraseIdx i) fun es' => h.hp.putK id (some (.mp es' clock)) fun hp => k (.tup []) ⟨hp, h.nx, h.ne, h.bar⟩
            | some none => h.hp.putK id (some (.mp es clock)) fun hp => k (.tup []) ⟨hp, h.nx, h.ne, h.bar⟩
            | none => false) else false
          | none => false)
        | _ => false)
      | _ => false) else false
    | none => false)
  | _ => false
theorem efDelete_ok {t kt' : TypeId} {x ix : Operand} {h : HS} {k : SV → HS → Bool} (ho : o.op = .call { callee := .builtin .delete, args := #[x, ix], argTypes := #[t, kt'] }) (hk : efDelete P t x ix fr h k = true) : ∃ sv h', k sv h' = true ∧ Goes h h' ∧ EffOk P W0 o fr h h' sv := by
  have run : ∀ (a : Act) (w w' : World) (v : Value), (Builtin.delete_ #[t, kt'] o.type #[a.eval x, a.eval ix]).run P w = .ok v w' → (execOp a.eval o).run P w = .ok (.value v) w' := by
    intro a w w' v h
    unfold execOp
    rw [ho]
    simp only [resolve, invoke, builtin, List.map_toArray, List.map_cons, List.map_nil, Sem.run_bind, Sem.run_pure, Result.andThen, h]
  unfold efDelete at hk
  split at hk
  case h_2 => cases hk
  rename_i kt el hu
  split at hk
  case h_2 => cases hk
  rename_i kd hkd
  obtain ⟨hpl, hk⟩ := bif_true hk
  rw [opdK_eq] at hk
  split at hk
  case h_2 => cases hk
  rename_i id hp
  split at hk
  case h_2 => cases hk
  rename_i es clock hm
  rw [opdK_eq] at hk
  split at hk
  case h_2 => cases hk
  rename_i kv hkv
  obtain ⟨hb, hk⟩ := bif_true hk
  have hb := Nat.le_of_ble_eq_true hb
  have base : ∀ (E : Env) (N : Nat) (a : Act) (w : World), Rel W0 E h.hp.get w → FrOk E fr N a → ∃ (s : Spot) (ms : List MapEntry), E.at_ id = some s ∧ a.eval x = .map (some s.blk) ∧ a.eval ix = kv ∧ w.heap[s.blk]? = some (.map ms.toArray clock) ∧ EntriesOk E es ms ∧ s.blk < w.heap.size := by
    intro E N a w r f
    obtain ⟨s, e1, _, c⟩ := r.obj id _ hm
    have hlt := c.lt
    obtain ⟨ms, e2, e3⟩ := c
    have hx := opd_ok f x
    rw [hp] at hx
    simp only [val, e1, Option.map_some, Option.some.injEq] at hx
    have hy := opd_ok f ix
    rw [val_of_flat E _ _ hkv] at hy
    exact ⟨s, ms, e1, hx.symm, (Option.some.inj hy).symm, e2, e3, hlt⟩
  split at hk
  · rename_i i sv0 hfind
    rw [entriesK_eq, Tr.putK_eq] at hk
    refine ⟨_, _, hk, Goes.upd hm hb, fun E N a w r f fo => ?_⟩
    obtain ⟨s, ms, e0, e1, e2, e3, e4, e5⟩ := base E N a w r fo
    obtain ⟨v0, k1, k2, _⟩ := (findS_ok e4 0).1 i sv0 hfind
    refine ⟨E, _, .tuple #[], Step.upd hm hb e0 (by simp) (fun j hj => by simp [Array.getElem?_setIfInBounds, Ne.symm hj]), r.setMap (clock' := clock) hm e0 (entries_erase e4 i) (fun j => Tr.get_put _ _ _ _), rfl, .inl (run a w _ _ ?_)⟩
    rw [e1, e2]
    have hf := run_findKey (P := P) hkd k2 w
    simp [Builtin.delete_, Sem.run_bind, run_underlying hu, Result.andThen, getObj, setObj, Sem.run, e3, run_checkKey' hkd hpl, hf]
  · rename_i hfind
    rw [Tr.putK_eq] at hk
    refine ⟨_, _, hk, Goes.upd hm hb, fun E N a w r f fo => ?_⟩
    obtain ⟨s, ms, e0, e1, e2, e3, e4, e5⟩ := base E N a w r fo
    have k2 := (findS_ok (kd := kd) (kv := kv) e4 0).2 hfind
    refine ⟨E, _, .tuple #[], Step.upd hm hb e0 (by simp) (fun j hj => by simp [Array.getElem?_setIfInBounds, Ne.symm hj]), r.setMap (clock' := clock) hm e0 e4 (fun j => Tr.get_put _ _ _ _), rfl, .inl (run a w _ _ ?_)⟩
    rw [e1, e2]
    have hf := run_findKey (P := P) hkd k2 w
    simp [Builtin.delete_, Sem.run_bind, run_underlying hu, Result.andThen, getObj, setObj, Sem.run, e3, run_checkKey' hkd hpl, hf]
  · cases hk

/-! ### clear, of a slice -/
noncomputable def clearAtK (P : Program) (e : TypeId) (id off n : Nat) (h : HS) (k : SV → HS → Bool) : Bool :=
  match h.hp.get id with
  | some (.row m sz tr) => (match P.info? e with
    | some ie => (match ie.zero with
      | some z => listK ((Builtin.zeroCells z.cells n).toList.map ofV) fun l => bif Nat.ble (off + l.length) m && (Nat.ble h.bar id && allOne l) then
          trOfK l off tr fun tr' => h.hp.putK id (some (.row m sz tr')) fun hp => k (.tup []) ⟨hp, h.nx, h.ne, h.bar⟩ else false
      | none => false)
    | none => false)
  | _ => false
noncomputable def efClear (P : Program) (t : TypeId) (x : Operand) (fr : Tr SV) (h : HS) (k : SV → HS → Bool) : Bool :=
  match P.underlying t with
  | some (.slice e) => opdK fr x fun p => (match p with
    | .lit (.slice none a b) => k (.tup []) h
    | .emp _ _ _ _ => k (.tup []) h
    | .sl id off n _ => (match n with | 0 => k (.tup []) h | n + 1 => clearAtK P e id off (n + 1) h k)
    | .slr id off n _ => (match n with | 0 => k (.tup []) h | n + 1 => clearAtK P e id off (n + 1) h k)
    | _ => false)
  | _ => false
theorem clearAt_ok {t e : TypeId} {x : Operand} {h : HS} {k : SV → HS → Bool} {id off n : Nat} (hu : P.underlying t = some (.slice e)) (ho : o.op = .call { callee := .builtin .clear, args := #[x], argTypes := #[t] }) (hk : clearAtK P e id off (n + 1) h k = true)
    (hval : ∀ E N a, FrOk E fr N a → ∀ s, E.at_ id = some s → ∃ c, a.eval x = .slice (some ⟨s.blk, s.base + off, none⟩) (n + 1) c) : ∃ sv h', k sv h' = true ∧ Goes h h' ∧ EffOk P W0 o fr h h' sv := by
  unfold clearAtK at hk
  split at hk
  case h_2 => cases hk
  rename_i m sz tr hrow
  split at hk
  case h_2 => cases hk
  rename_i ie hie
  split at hk
  case h_2 => cases hk
  rename_i z hz
  rw [listK_eq] at hk
  obtain ⟨q, hk⟩ := bif_true hk
  obtain ⟨q1, q2, q3⟩ := and3 q
  have q1 := Nat.le_of_ble_eq_true q1
  have q2 := Nat.le_of_ble_eq_true q2
  rw [trOfK_eq, Tr.putK_eq] at hk
  refine ⟨_, _, hk, Goes.upd hrow q2, fun E N a w r f fo => ?_⟩
  obtain ⟨s, w', e1, e2, e3, e4, e5, e6, e7, e8⟩ := r.stores (P := P) hrow (vals_ofV E (Builtin.zeroCells z.cells (n + 1)).toList) q3 q1
  obtain ⟨c, hc⟩ := hval E N a fo s e1
  refine ⟨E, w', .tuple #[], Step.upd hrow q2 e1 e3 e4, r.upd hrow e1 e5 e6 e7 e3 e4 e8 (fun j => Tr.get_put _ _ _ _), rfl, .inl ?_⟩
  unfold execOp
  rw [ho]
  simp only [resolve, invoke, builtin, List.map_toArray, List.map_cons, List.map_nil, Sem.run_bind, Sem.run_pure, Result.andThen, hc]
  simp [Builtin.clear_, Sem.run_bind, run_underlying hu, Result.andThen, zeroValue, typeInfo, hie, hz, e2]
theorem efClear_ok {t : TypeId} {x : Operand} {h : HS} {k : SV → HS → Bool} (ho : o.op = .call { callee := .builtin .clear, args := #[x], argTypes := #[t] }) (hk : efClear P t x fr h k = true) : ∃ sv h', k sv h' = true ∧ Goes h h' ∧ EffOk P W0 o fr h h' sv := by
  unfold efClear at hk
  split at hk
  case h_2 => cases hk
  rename_i e hu
  rw [opdK_eq] at hk
  have nothing : ∀ (E : Env) (N : Nat) (a : Act) (w : World), (∃ b c, a.eval x = .slice none b c) ∨ (∃ b c, a.eval x = .slice b 0 c) → (execOp a.eval o).run P w = .ok (.value (.tuple #[])) w := by
    intro E N a w hx
    unfold execOp
    rw [ho]
    simp only [resolve, invoke, builtin, List.map_toArray, List.map_cons, List.map_nil, Sem.run_bind, Sem.run_pure, Result.andThen]
    rcases hx with ⟨b, c, hx⟩ | ⟨b, c, hx⟩
    · rw [hx]; simp [Builtin.clear_, Sem.run_bind, run_underlying hu, Result.andThen]
    · rw [hx]; cases b <;> simp [Builtin.clear_, Sem.run_bind, run_underlying hu, Result.andThen]
  split at hk
  · rename_i b c hp
    refine ⟨_, _, hk, Goes.refl h, fun E N a w r f fo => ⟨E, w, _, Step.refl _ _ _ _ _ _, r, rfl, .inl (nothing E N a w (.inl ⟨b, c, ?_⟩))⟩⟩
    have hx := opd_ok fo x
    rw [hp] at hx
    simp only [val, Option.some.injEq] at hx
    exact hx.symm
  · rename_i j id off skip hp
    refine ⟨_, _, hk, Goes.refl h, fun E N a w r f fo => ⟨E, w, _, Step.refl _ _ _ _ _ _, r, rfl, .inl (nothing E N a w (.inr ?_))⟩⟩
    have hx := opd_ok fo x
    rw [hp] at hx
    simp only [val, Option.bind_eq_some_iff, Option.map_eq_some_iff] at hx
    obtain ⟨p, _, A, _, s, _, hx⟩ := hx
    exact ⟨_, _, hx.symm⟩
  · rename_i id off n cap hp
    split at hk
    · refine ⟨_, _, hk, Goes.refl h, fun E N a w r f fo => ⟨E, w, _, Step.refl _ _ _ _ _ _, r, rfl, .inl (nothing E N a w (.inr ?_))⟩⟩
      have hx := opd_ok fo x
      rw [hp] at hx
      simp only [val, Option.map_eq_some_iff] at hx
      obtain ⟨p, _, hx⟩ := hx
      exact ⟨_, _, hx.symm⟩
    · refine clearAt_ok hu ho hk fun E N a fo s hs => ?_
      have hx := opd_ok fo x
      rw [hp] at hx
      simp only [val, hs, Option.map_some, Option.some.injEq] at hx
      exact ⟨_, hx.symm⟩
  · rename_i id off n skip hp
    split at hk
    · refine ⟨_, _, hk, Goes.refl h, fun E N a w r f fo => ⟨E, w, _, Step.refl _ _ _ _ _ _, r, rfl, .inl (nothing E N a w (.inr ?_))⟩⟩
      have hx := opd_ok fo x
      rw [hp] at hx
      simp only [val, Option.map_eq_some_iff] at hx
      obtain ⟨p, _, hx⟩ := hx
      exact ⟨_, _, hx.symm⟩
    · refine clearAt_ok hu ho hk fun E N a fo s hs => ?_
      have hx := opd_ok fo x
      rw [hp] at hx
      simp only [val, hs, Option.map_some, Option.some.injEq] at hx
      exact ⟨_, hx.symm⟩
  · cases hk

/-! ### the empty rest of a slice that may have room -/
noncomputable def efRest (P : Program) (t : TypeId) (x : Operand) (lo hi mx : Option Operand) (fr : Tr SV) (h : HS) (k : SV → HS → Bool) : Bool :=
  match P.underlying t, hi, mx with
  | some (.slice el), none, none => (match P.info? el with
    | some inf => opdK fr x fun p => (match p with
      | .slr id off len skip => (match h.hp.get id with
        | some (.row n sz _) => bif Nat.beq sz inf.size && (Nat.blt 0 sz && (Nat.beq off (skip * sz) && Nat.ble (off + len * sz) n)) then
            boundK fr lo 0 fun l => bif Nat.beq l len then natK (h.ne + 1) fun ne => natK (off + l * inf.size) fun off' => natK (skip + l) fun skip' => k (.emp h.ne id off' skip') ⟨h.hp, h.nx, ne, h.bar⟩ else false else false
        | _ => false)
      | _ => false)
    | none => false)
  | _, _, _ => false
def Env.moreE (E : Env) (j : Nat) (p : Option Addr × Nat) : Env := { E with emp := fun i => if i = j then some p else E.emp i }
theorem Env.le_moreE (E : Env) (j : Nat) (p : Option Addr × Nat) (h : E.emp j = none) : E.le (E.moreE j p) :=
  ⟨fun _ _ e => e, fun i x e => by
    simp only [Env.moreE]
    rw [if_neg (fun h2 => by rw [h2, h] at e; cases e)]
    exact e⟩
theorem Rel.le {E E' : Env} {g : Hp} {w : World} (r : Rel W0 E g w) (h : E.le E') (hat : ∀ id, E'.at_ id = E.at_ id) : Rel W0 E' g w :=
  ⟨r.below, fun id o e => by
    obtain ⟨s, a, b, c⟩ := r.obj id o e
    exact ⟨s, by rw [hat]; exact a, b, c.le h⟩, fun id id' o o' s s' a b c d e => r.inj id id' o o' s s' a b (by rw [← hat]; exact c) (by rw [← hat]; exact d) e⟩
theorem efRest_ok {t : TypeId} {x : Operand} {lo hi mx : Option Operand} {h : HS} {k : SV → HS → Bool} (ho : o.op = .slice t x lo hi mx) (hk : efRest P t x lo hi mx fr h k = true) : ∃ sv ne, k sv ⟨h.hp, h.nx, ne, h.bar⟩ = true ∧ Goes h ⟨h.hp, h.nx, ne, h.bar⟩ ∧ EffOk P W0 o fr h ⟨h.hp, h.nx, ne, h.bar⟩ sv := by
  unfold efRest at hk
  split at hk
  case h_2 => cases hk
  rename_i el hu
  split at hk
  case h_2 => cases hk
  rename_i inf hinf
  rw [opdK_eq] at hk
  split at hk
  case h_2 => cases hk
  rename_i id off len skip hp
  split at hk
  case h_2 => cases hk
  rename_i n sz tr hrow
  obtain ⟨q, hk⟩ := bif_true hk
  obtain ⟨z1, z2, z3, z4⟩ := and4 q
  have z1 := Nat.eq_of_beq_eq_true z1
  have z2 := blt_lt z2
  have z3 := Nat.eq_of_beq_eq_true z3
  have z4 := Nat.le_of_ble_eq_true z4
  obtain ⟨l, hk, bl⟩ := boundK_ok hk
  obtain ⟨q, hk1⟩ := bif_true hk
  have hl := Nat.eq_of_beq_eq_true q
  clear hk q
  subst hl
  rw [natK_eq, natK_eq, natK_eq] at hk1
  refine ⟨_, _, hk1, ⟨fun _ _ => rfl, rfl, Nat.le_refl _, Nat.le_succ _, fun id o e => .inr ⟨o, e⟩⟩, fun E N a w r f fo => ?_⟩
  have hx := opd_ok fo x
  rw [hp] at hx
  obtain ⟨s, e1, _, c, ty, _, _, q5, _⟩ := r.obj id _ hrow
  simp only [val, e1, Option.map_some, Option.some.injEq] at hx
  have hcap : skip + l ≤ s.cap := by
    rcases q5.2 with q | q
    · omega
    · have : (skip + l) * sz ≤ s.cap * sz := by rw [Nat.add_mul]; omega
      exact Nat.le_of_mul_le_mul_right this z2
  have key := run_slice_slice (P := P) hu hinf (A := some ⟨s.blk, s.base + off, none⟩) (bl E N a fo) (hi' := none) (h := l) (.inl ⟨rfl, rfl⟩) (m := s.cap - skip) (mx := none) (.inl ⟨rfl, rfl⟩) (Nat.le_refl _) (by omega) (Nat.le_refl _) (fun _ => rfl) w
  have hn := f.emp h.ne (Nat.le_refl _) (Nat.lt_succ_self _)
  have hle := E.le_moreE h.ne (some ⟨s.blk, s.base + off, none⟩, 0) hn
  have hv : (if s.cap - skip = l then some (⟨s.blk, s.base + off, none⟩ : Addr) else (some (⟨s.blk, s.base + off, none⟩ : Addr)).map (·.add (l * inf.size))) = some (if s.cap = skip + l then ⟨s.blk, s.base + off, none⟩ else ⟨s.blk, s.base + (off + l * inf.size), none⟩) := by
    by_cases hc : s.cap = skip + l
    · rw [if_pos hc, if_pos (by omega)]
    · rw [if_neg hc, if_neg (by omega), Option.map_some, Addr.add_lit, Nat.add_assoc]
  refine ⟨_, w, (.slice (some (if s.cap = skip + l then ⟨s.blk, s.base + off, none⟩ else ⟨s.blk, s.base + (off + l * inf.size), none⟩)) 0 (s.cap - (skip + l))), ⟨hle, fun _ _ => rfl, fun j hj => ?_, Nat.le_refl _, fun _ _ _ => rfl, fun _ _ p q => absurd q (by show ¬ _ < h.nx; omega)⟩, r.le hle (fun _ => rfl), ?_, .inl ?_⟩
  · simp only [Env.moreE]
    rw [if_neg (by rintro rfl; exact hj ⟨Nat.le_refl _, Nat.lt_succ_self _⟩)]
  · simp [val, Env.moreE, e1]
  · unfold execOp
    rw [ho]
    simp only [Sem.run_bind, ← hx, Option.map_none, Sem.run_pure]
    rw [key, Nat.sub_self, hv, Nat.sub_sub]
    rfl

/-- All operations with effects, but for calls of Go functions. -/
noncomputable def efK (P : Program) (o : Oper) (fr : Tr SV) (h : HS) (k : SV → HS → Bool) : Bool :=
  match o.op with
  | .alloc el => efAlloc P el h k
  | .box _ x => efBox fr x h k
  | .store t x y => efStore P t x y fr h k
  | .buildSlice t n ps => efBuildSlice P t n ps fr h k
  | .makeMap t r => efMakeMap P t r h k
  | .makeSlice t x y => efMakeSlice P t x y fr h k
  | .mapUpdate t x i y => efMapUpdate P t x i y fr h k
  | .insert t x i y => efMapUpdate P t x i y fr h k
  | .mapEntry t x i => efMapEntry P t x i fr h k
  | .entryStore _ x s y => efEntryStore x s y fr h k
  | .slice t x lo hi mx => efRest P t x lo hi mx fr h k
  | .call { callee := .builtin .append, args := ⟨[s, x]⟩, argTypes := ⟨[t, t']⟩ } => bif Nat.beq t t' then efAppend P t s x fr h k else false
  | .call { callee := .builtin .delete, args := ⟨[s, x]⟩, argTypes := ⟨[t, _]⟩ } => efDelete P t s x fr h k
  | .call { callee := .builtin .clear, args := ⟨[x]⟩, argTypes := ⟨[t]⟩ } => efClear P t x fr h k
  | _ => false
theorem efK_ok {h : HS} {k : SV → HS → Bool} (hk : efK P o fr h k = true) : ∃ sv h', k sv h' = true ∧ Goes h h' ∧ EffOk P W0 o fr h h' sv := by
  unfold efK at hk
  split at hk
  · exact efAlloc_ok (by assumption) hk
  · exact efBox_ok (by assumption) hk
  · exact efStore_ok (by assumption) hk
  · exact efBuildSlice_ok (by assumption) hk
  · exact efMakeMap_ok (by assumption) hk
  · exact efMakeSlice_ok (by assumption) hk
  · exact efMapUpdate_ok (.inl (by assumption)) hk
  · exact efMapUpdate_ok (.inr (by assumption)) hk
  · exact efMapEntry_ok (by assumption) hk
  · exact efEntryStore_ok (by assumption) hk
  · obtain ⟨sv, ne, z⟩ := efRest_ok (W0 := W0) (by assumption) hk
    exact ⟨sv, _, z⟩
  · rename_i s x t t' he
    obtain ⟨q, hk1⟩ := bif_true hk
    have q1 := Nat.eq_of_beq_eq_true q
    clear hk q
    subst q1
    exact efAppend_ok he hk1
  · exact efDelete_ok (by assumption) hk
  · exact efClear_ok (by assumption) hk
  · cases hk
end Go.Proofs.YtjbjpjaeagopjaaGreat.Ev
