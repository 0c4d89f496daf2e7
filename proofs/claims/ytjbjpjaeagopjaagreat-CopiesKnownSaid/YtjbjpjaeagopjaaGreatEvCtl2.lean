/- Calls. -/
import Derived.Test.YtjbjpjaeagopjaaGreatEvSum
import Derived.Test.YtjbjpjaeagopjaaGreatEvRound
set_option linter.unusedSimpArgs false
set_option linter.unusedVariables false
set_option linter.unusedSectionVars false
namespace Go.Proofs.YtjbjpjaeagopjaaGreat.Ev
open Go Go.RowKit

variable [GTab] {P : Program} {W0 : World} [GOk W0]
theorem load_var {t : TypeId} {fr : Tr SV} {g : Tr SO} {a : Nat} {k : SV → Bool} (hk : rdLoad P t fr g (.tmp a) k = true) : ∃ sv, k sv = true ∧ ∀ E N act w, Rel W0 E g.get w → FrOk E fr N act → ∃ v, val E sv = some v ∧ (asAddr (act.tmps.getD a undef) >>= loadVar t).run P w = .ok v w := by
  let o : Oper := { dst := none, op := .load t (.tmp a), type := 0, pos := "", after := #[], guard := none }
  obtain ⟨sv, k1, k2⟩ := rdLoad_ok (W0 := W0) (o := o) rfl hk
  refine ⟨sv, k1, fun E N act w r f => ?_⟩
  obtain ⟨v, e1, e2⟩ := k2 E N act w r f
  refine ⟨v, e1, ?_⟩
  have e3 : (do pure (Next.value (← Instr.loadAt t (act.tmps.getD a undef))) : Sem Next).run P w = .ok (.value v) w := e2
  simp only [Sem.run_bind] at e3 ⊢
  unfold Instr.loadAt at e3
  simp only [Sem.run_bind] at e3
  -- the address is one
  have hp := opd_ok f (.tmp a)
  have hA : ∃ A, act.tmps.getD a undef = .pointer (some A) := by
    unfold rdLoad at hk
    rw [opdK_eq] at hk
    split at hk
    · rename_i id off hpt
      rw [hpt] at hp
      simp only [val, Option.map_eq_some_iff] at hp
      obtain ⟨s, hs, hp⟩ := hp
      exact ⟨_, hp.symm⟩
    · rename_i b o hpt
      rw [hpt] at hp
      simp only [val, Option.some.injEq] at hp
      exact ⟨_, hp.symm⟩
    · cases hk
  obtain ⟨A, hp'⟩ := hA
  rw [hp'] at e3 ⊢
  simp only [Instr.sureAddr, asAddr, Sem.run_pure, Result.andThen] at e3 ⊢
  cases hl : (loadVar t A).run P w with
  | ok x w' =>
    rw [hl] at e3
    simp only [Sem.run_pure, Result.ok.injEq, Next.value.injEq] at e3
    rw [e3.1, e3.2]
  | halt x w' => rw [hl] at e3; cases e3
def resV (tmps : Array Value) : ResultVar → Sem Value
  | .tmp t => pure (tmps.getD t undef)
  | .cell a t => do loadVar t (← asAddr (tmps.getD a undef))
theorem resK_ok {fr : Tr SV} {g : Tr SO} (rs : List ResultVar) : ∀ {k : List SV → Bool}, resK P fr g rs k = true → ∃ l, k l = true ∧ ∀ E N a w, Rel W0 E g.get w → FrOk E fr N a → ∃ vl, vals E l = some vl ∧ (rs.mapM (resV a.tmps)).run P w = .ok vl w := by
  induction rs with
  | nil => intro k hk; exact ⟨[], hk, fun E N a w _ _ => ⟨[], rfl, rfl⟩⟩
  | cons v r ih =>
    intro k hk
    cases v with
    | tmp t =>
      simp only [resK, opdK_eq] at hk
      obtain ⟨l, k1, k2⟩ := ih hk
      refine ⟨_, k1, fun E N a w rel f => ?_⟩
      obtain ⟨vl, e1, e2⟩ := k2 E N a w rel f
      have hp := opd_ok f (.tmp t)
      refine ⟨a.eval (.tmp t) :: vl, by simp [vals, hp, e1], ?_⟩
      simp [List.mapM_cons, resV, Sem.run_bind, Result.andThen, e2, Act.eval]
    | cell x t =>
      simp only [resK] at hk
      obtain ⟨sv, hk, h1⟩ := load_var (W0 := W0) hk
      obtain ⟨l, k1, k2⟩ := ih hk
      refine ⟨_, k1, fun E N a w rel f => ?_⟩
      obtain ⟨vl, e1, e2⟩ := k2 E N a w rel f
      obtain ⟨v, e3, e4⟩ := h1 E N a w rel f
      refine ⟨v :: vl, by simp [vals, e3, e1], ?_⟩
      rw [List.mapM_cons]
      have e5 : (resV a.tmps (.cell x t)).run P w = .ok v w := e4
      simp [Sem.run_bind, Result.andThen, e5, e2]
def oneOf : List Value → Value
  | [v] => v
  | vl => .tuple vl.toArray
theorem results_run {fn : Func} {tmps : Array Value} {w : World} {vl : List Value} (h : (fn.results.toList.mapM (resV tmps)).run P w = .ok vl w) : (results fn tmps).run P w = .ok (oneOf vl) w := by
  have e : results fn tmps = (fn.results.mapM (resV tmps) >>= fun vs => pure (if h : vs.size = 1 then vs[0] else .tuple vs)) := rfl
  rw [e, Array.mapM_eq_mapM_toList]
  simp only [Sem.run_bind, map_eq_pure_bind, h, Result.andThen, Sem.run_pure]
  cases vl with
  | nil => rfl
  | cons v r => cases r with
    | nil => rfl
    | cons u r => simp [oneOf]
theorem get_args (l : List SV) (E : Env) (vl : List Value) (hv : vals E l = some vl) (m : Nat) : FrOk E (trOf l 0 .e) (l.length + (m - l.length)) { tmps := vl.toArray ++ Array.replicate (m - vl.toArray.size) undef, defers := [] } := by
  have len : ∀ (l : List SV) (vl : List Value), vals E l = some vl → vl.length = l.length := by
    intro l
    induction l with
    | nil => intro vl h; simp only [vals, Option.some.injEq] at h; subst h; rfl
    | cons s r ih =>
      intro vl h
      simp only [vals, Option.bind_eq_some_iff, Option.map_eq_some_iff] at h
      obtain ⟨x, _, y, hy, rfl⟩ := h
      simp [ih y hy]
  have at_ : ∀ (l : List SV) (vl : List Value), vals E l = some vl → ∀ (i : Nat) (s : SV), l[i]? = some s → ∃ v, vl[i]? = some v ∧ val E s = some v := by
    intro l
    induction l with
    | nil => intro vl _ i s hs; simp at hs
    | cons s r ih =>
      intro vl h i s' hs
      simp only [vals, Option.bind_eq_some_iff, Option.map_eq_some_iff] at h
      obtain ⟨x, hx, y, hy, rfl⟩ := h
      cases i with
      | zero =>
        simp only [List.getElem?_cons_zero, Option.some.injEq] at hs
        subst hs
        exact ⟨x, rfl, hx⟩
      | succ i =>
        simp only [List.getElem?_cons_succ] at hs ⊢
        exact ih y hy i s' hs
  have hl := len l vl hv
  refine ⟨by simp [hl], by rw [get_trOf, if_neg (by omega), Tr.get_e]; rfl, fun t => ?_⟩
  rw [get_trOf]
  by_cases h : t < l.length
  · rw [if_pos ⟨Nat.zero_le _, by omega⟩, Nat.sub_zero]
    have hs : l[t]? = some l[t] := List.getElem?_eq_getElem h
    obtain ⟨v, e1, e2⟩ := at_ l vl hv t _ hs
    rw [hs]
    simp only [Option.getD_some, e2, Option.some.injEq]
    have ht : t < vl.length := by omega
    have ev : vl[t] = v := by rw [List.getElem?_eq_getElem ht] at e1; exact Option.some.inj e1
    rw [Array.getD_eq_getD_getElem?, Array.getElem?_append_left (by simpa using ht)]
    simp [ht, ev]
  · rw [if_neg (by omega), Tr.get_e]
    simp only [Option.getD_none, val, Option.some.injEq]
    rw [Array.getD_eq_getD_getElem?, Array.getElem?_append_right (by simp; omega)]
    simp only [Array.getElem?_replicate]
    split <;> rfl
theorem fnC_ok {M F : Nat} (hm : P.follows .mixedOrders = true) (hf : FnsOk P M) {call : CallK} (hc : CallSound P W0 call) (f : FuncId) (l : List SV) (h : HS) (k : SV → HS → Bool) (hk : (fnC P M f).f call F l h k = true) : ∃ sv h', k sv h' = true ∧ Goes h h' ∧ CallOk P W0 f l h h' sv := by
  have hk : (fnC P M f).f call F l h k = true := hk
  unfold fnC at hk
  cases hlt0 : Nat.blt f M with
  | false => rw [hlt0] at hk; cases hk
  | true =>
  rw [hlt0, cond_true] at hk
  have hlt := Nat.le_of_ble_eq_true hlt0
  split at hk
  case h_2 => cases hk
  rename_i fn hfn
  split at hk
  case h_2 => cases hk
  rename_i c hb
  rw [natC_eq, natC_eq, natC_eq, Cl.then_eq, Cl.then_eq, paC_eq] at hk
  obtain ⟨hn, hk⟩ := rec_true hk
  rw [← Nat.eq_of_beq_eq_true hn, argsK_eq] at hk
  obtain ⟨x, fr0, fr', h0, k1, ag, g0, ok⟩ := codeC_ok (W0 := W0) hc hm c _ _ _ _ (fun _ _ => rfl) (hf f fn c hlt hfn hb) hk
  have hx : (x = .normal ∨ x = .ret) ∧ endK (pa (l.length + (fn.ntmps - l.length))) fr0 h0 (fun h2 => (resC P (Nat.lor (Nat.lor (keepM c) (resM fn.results.toList)) (Nat.shiftLeft 1 (l.length + (fn.ntmps - l.length)))) fn.results.toList).f fr0 h2.hp (fun r => oneK2 r fun s => k s h2)) = true := by
    cases x with
    | exit j => cases k1
    | normal => exact ⟨.inl rfl, k1⟩
    | ret => exact ⟨.inr rfl, k1⟩
  obtain ⟨hx, k1⟩ := hx
  obtain ⟨h', k1, g1, ⟨n1, n2⟩, dok⟩ := endK_ok (W0 := W0) (P := P) k1
  have g := g0.trans g1
  have q := resC_ok _ _ _ _ _ _ ag k1
  have k1' : resK P fr' h'.hp fn.results.toList (fun r => (match r with | [s] => k s h' | r => k (.tup r) h')) = true := by
    have e : (fun r => oneK2 r fun s => k s h') = fun r => (match r with | [s] => k s h' | r => k (.tup r) h') := by
      funext r
      rw [oneK2_eq]
      cases r with
      | nil => rfl
      | cons s t => cases t <;> rfl
    rw [e] at q
    exact q
  have hbit : opd fr0 (.tmp (l.length + (fn.ntmps - l.length))) = opd fr' (.tmp (l.length + (fn.ntmps - l.length))) := ag _ (by
    simp [Nat.testBit_or, Nat.testBit_shiftLeft])
  obtain ⟨r, k2, k3⟩ := resK_ok (W0 := W0) _ k1'
  have fin : ∀ sv, (∀ E vl, vals E r = some vl → val E sv = some (oneOf vl)) → CallOk P W0 f l h h' sv := by
    intro sv hsv E w vl rel fe hv R hR
    refine (callsIn_wide (n := 0)).1 (callsIn_of_wp_marks hfn hb trivial (ok ⟨none, .inr rfl⟩ E _ w rel (fe.left g1.nx g1.ne) (get_args l E vl hv fn.ntmps) _ fun E' a' w' r' st fo' => ?_))
    have main : LeavesInM Fence.wide 0 P fn a'.tmps R a'.defers .returning w' := by
      refine dok E' w' a'.defers fn a'.tmps R r' (by rw [hbit]; exact fo'.defers) fun w2 r2 st2 => ?_
      obtain ⟨ul, e1, e2⟩ := k3 E' _ a' w2 r2 fo'
      have e3 := results_run e2
      have e4 := hsv E' ul e1
      exact ⟨_, e3, hR E' _ w2 e4 r2 (Step.trans g0 g1 st st2)⟩
    rcases hx with rfl | rfl
    · exact main
    · exact main
  match r, k2, fin with
  | [s], k2, fin =>
    refine ⟨s, h', k2, g, fin s fun E vl e => ?_⟩
    simp only [vals, Option.bind_eq_some_iff, Option.map_eq_some_iff] at e
    obtain ⟨x, hx, y, hy, rfl⟩ := e
    simp only [Option.some.injEq] at hy
    subst hy
    exact hx
  | [], k2, fin =>
    refine ⟨.tup [], h', k2, g, fin _ fun E vl e => ?_⟩
    simp only [vals, Option.some.injEq] at e
    subst e
    rfl
  | s :: u :: q, k2, fin =>
    refine ⟨.tup (s :: u :: q), h', k2, g, fin _ fun E vl e => ?_⟩
    have e' := e
    simp only [vals, Option.bind_eq_some_iff, Option.map_eq_some_iff] at e
    obtain ⟨x, hx, y, ⟨z, hz, t, ht, rfl⟩, rfl⟩ := e
    simp only [val, e', Option.map_some, oneOf]
theorem evTgt_ok {M F : Nat} {T : Tab} (hT : TabOk P T) (hm : P.follows .mixedOrders = true) (hf : FnsOk P M) (d : Nat) : CallSound P W0 (evTgt P M F T d) := by
  induction d with
  | zero => intro t l h k hk; cases hk
  | succ d ih =>
    intro t l h k hk
    cases t with
    | fn f =>
      rcases tabK_ok (show tabK T f l (fun e => entK e h k) ((fnC P M f).f (evTgt P M F T d) F l h k) = true from hk) with q | ⟨x, hx, rfl, rfl, q⟩
      · exact fnC_ok hm hf ih f l h k q
      · exact entK_ok (hT x hx) q
    | yl id => exact ylK_ok hm ih hk
theorem evCall_ok {M F : Nat} {T : Tab} (hT : TabOk P T) (hm : P.follows .mixedOrders = true) (hf : FnsOk P M) (d : Nat) (f : FuncId) (l : List SV) (h : HS) (k : SV → HS → Bool) (hk : evCall P M F T d f l h k = true) : ∃ sv h', k sv h' = true ∧ Goes h h' ∧ CallOk P W0 f l h h' sv :=
  evTgt_ok hT hm hf d (.fn f) l h k hk
/-- The entry of a call that was run. -/
theorem ent_of_ev {M F d : Nat} {T : Tab} (hT : TabOk P T) (hm : P.follows .mixedOrders = true) (hf : FnsOk P M) {e : Ent} {vl : List Value} (hl : flats e.l = some vl)
    (h : evCall P M F T d e.f e.l ⟨.e, 0, 0, 0⟩ (fun sv h => entB e sv h) = true) : EntOk P e :=
  ent_of_call hl fun w hw => by
    obtain ⟨sv, h', k1, _, ok⟩ := evCall_ok (W0 := w) hT hm hf d _ _ _ _ h
    exact ⟨sv, h', k1, ok⟩
/-- Every function's drawing regions are in order. -/
noncomputable def fnsB (fs : List Func) : Bool := List.rec true (fun fn _ ih => bif (match fn.body with | some c => codeOk c | none => true) then ih else false) fs
theorem fnsB_ok {fs : List Func} (h : fnsB fs = true) : ∀ fn ∈ fs, ∀ c, fn.body = some c → codeOk c = true := by
  induction fs with
  | nil => intro fn hf; cases hf
  | cons x r ih =>
    obtain ⟨h1, h2⟩ := bif_true (show (bif (match x.body with | some c => codeOk c | none => true) then fnsB r else false) = true from h)
    intro fn hf c hc
    rcases List.mem_cons.1 hf with e | e
    · subst e; rw [hc] at h1; exact h1
    · exact ih h2 fn e c hc
theorem fnsOk_of (M : Nat) (h : fnsB P.funcs.toList = true) : FnsOk P M := fun f fn c _ hf hc => fnsB_ok h fn (by
  have := List.mem_of_getElem? (l := P.funcs.toList) (i := f) (a := fn) (by simpa using hf)
  exact this) c hc
/-- A closed call, from the start. -/
theorem calls_of_ev {M F d : Nat} {T : Tab} (hT : TabOk P T) (hm : P.follows .mixedOrders = true) (hf : FnsOk P M) {f : FuncId} {l : List SV} {vl : List Value} (hl : flats l = some vl) {q : SV → Bool} {v : Value} (hq : ∀ sv, q sv = true → flat sv = some v)
    (h : evCall P M F T d f l ⟨.e, 0, 0, 0⟩ (fun sv _ => q sv) = true) (w : World) (hG : GOk w) : Calls P f vl.toArray w fun e w' => e = .returned v ∧ Below w.heap.size w w' := by
  obtain ⟨sv, h', k1, g, ok⟩ := evCall_ok (W0 := w) hT hm hf d f l _ _ h
  let E : Env := ⟨fun _ => none, fun _ => none⟩
  refine ok E w vl ⟨⟨rfl, rfl, rfl, Nat.le_refl _, fun _ _ => rfl⟩, fun id o e => (by cases e), fun id id' o o' s s' e => (by cases e)⟩ ⟨fun _ _ _ => rfl, fun _ _ _ => rfl⟩ (vals_of_flats E l vl hl) _ fun E' v' w' e1 r' _ => ?_
  have := val_of_flat E' sv v (hq sv k1)
  rw [e1] at this
  obtain rfl := Option.some.inj this
  exact ⟨rfl, r'.below⟩
/-- The entry of a call that hands back true. -/
theorem ent_true {M F d : Nat} {T : Tab} (hT : TabOk P T) (hm : P.follows .mixedOrders = true) (hf : FnsOk P M) {f : FuncId} {l : List SV} {vl : List Value} (hl : flats l = some vl) {q : SV → Bool} (hq : ∀ sv, q sv = true → flat sv = some (.bool true))
    (h : evCall P M F T d f l ⟨.e, 0, 0, 0⟩ (fun sv _ => q sv) = true) : EntOk P ⟨f, l, .bool true, 0, 0, []⟩ := by
  refine ⟨vl, hl, fun w hw R hR => (calls_of_ev hT hm hf hl hq h w hw).mono ?_⟩
  rintro e w' ⟨rfl, hb⟩
  exact hR ⟨fun _ => none, fun _ => none⟩ _ w' rfl ⟨hb, fun _ _ e => (by cases e), fun _ _ _ _ _ _ e => (by cases e)⟩ (fun _ _ => rfl) (fun _ _ => rfl) fun _ _ e => (by cases e)
end Go.Proofs.YtjbjpjaeagopjaaGreat.Ev
