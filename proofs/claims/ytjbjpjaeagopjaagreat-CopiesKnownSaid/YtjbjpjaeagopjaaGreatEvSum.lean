/- Calls whose end is known: what they hand back, and the rows that they lay, numbered from nought. -/
import Derived.Test.YtjbjpjaeagopjaaGreatEvRound
set_option linter.unusedSimpArgs false
set_option linter.unusedVariables false
set_option linter.unusedSectionVars false
namespace Go.Proofs.YtjbjpjaeagopjaaGreat.Ev
open Go Go.RowKit
variable [GTab] {P : Program} {W0 : World} [GOk W0]

mutual
/-- The same, its objects numbered from a on, its empty slices from b on. -/
def shV (a b : Nat) : SV → SV
  | .bool x => .bool x
  | .int k n => .int k n
  | .lit v => .lit v
  | .ptr id off => .ptr (a + id) off
  | .sl id off len cap => .sl (a + id) off len cap
  | .slr id off len skip => .slr (a + id) off len skip
  | .emp j id off skip => .emp (b + j) (a + id) off skip
  | .map id => .map (a + id)
  | .yld id => .yld (a + id)
  | .mks l => .mks l
  | .fn f x y => .fn f (shL a b x) (shL a b y)
  | .iface t v => .iface t (shV a b v)
  | .agg l => .agg (shL a b l)
  | .tup l => .tup (shL a b l)
def shL (a b : Nat) : List SV → List SV
  | [] => []
  | s :: r => shV a b s :: shL a b r
end
section
variable {E1 E' : Env} {a b : Nat} (hE : ∀ id s, E1.at_ id = some s → E'.at_ (a + id) = some s) (hJ : ∀ j p, E1.emp j = some p → E'.emp (b + j) = some p)
include hE hJ
mutual
theorem val_sh : ∀ (s : SV) (v : Value), val E1 s = some v → val E' (shV a b s) = some v
  | .bool _, v, e => by simpa [val, shV] using e
  | .int _ _, v, e => by simpa [val, shV] using e
  | .lit _, v, e => by simpa [val, shV] using e
  | .ptr id off, v, e => by
    simp only [val, shV, Option.map_eq_some_iff] at e ⊢
    obtain ⟨s, q1, q2⟩ := e
    exact ⟨s, hE _ _ q1, q2⟩
  | .sl id off len cap, v, e => by
    simp only [val, shV, Option.map_eq_some_iff] at e ⊢
    obtain ⟨s, q1, q2⟩ := e
    exact ⟨s, hE _ _ q1, q2⟩
  | .slr id off len skip, v, e => by
    simp only [val, shV, Option.map_eq_some_iff] at e ⊢
    obtain ⟨s, q1, q2⟩ := e
    exact ⟨s, hE _ _ q1, q2⟩
  | .emp j id off skip, v, e => by
    simp only [val, shV, Option.bind_eq_some_iff, Option.map_eq_some_iff] at e ⊢
    obtain ⟨p, q1, A, q2, s, q3, q4⟩ := e
    exact ⟨p, hJ _ _ q1, A, q2, s, hE _ _ q3, q4⟩
  | .map id, v, e => by
    simp only [val, shV, Option.map_eq_some_iff] at e ⊢
    obtain ⟨s, q1, q2⟩ := e
    exact ⟨s, hE _ _ q1, q2⟩
  | .yld id, v, e => by
    simp only [val, shV, Option.map_eq_some_iff] at e ⊢
    obtain ⟨s, q1, q2⟩ := e
    exact ⟨s, hE _ _ q1, q2⟩
  | .mks l, v, e => by simpa [val, shV] using e
  | .fn f x y, v, e => by
    simp only [val, shV, Option.bind_eq_some_iff, Option.map_eq_some_iff] at e ⊢
    obtain ⟨p, hp, q, hq, r⟩ := e
    exact ⟨p, vals_sh x p hp, q, vals_sh y q hq, r⟩
  | .iface t s, v, e => by
    simp only [val, shV, Option.map_eq_some_iff] at e ⊢
    obtain ⟨p, hp, r⟩ := e
    exact ⟨p, val_sh s p hp, r⟩
  | .agg l, v, e => by
    simp only [val, shV, Option.map_eq_some_iff] at e ⊢
    obtain ⟨p, hp, r⟩ := e
    exact ⟨p, vals_sh l p hp, r⟩
  | .tup l, v, e => by
    simp only [val, shV, Option.map_eq_some_iff] at e ⊢
    obtain ⟨p, hp, r⟩ := e
    exact ⟨p, vals_sh l p hp, r⟩
theorem vals_sh : ∀ (l : List SV) (v : List Value), vals E1 l = some v → vals E' (shL a b l) = some v
  | [], v, e => by simpa [vals, shL] using e
  | s :: r, v, e => by
    simp only [vals, shL, Option.bind_eq_some_iff, Option.map_eq_some_iff] at e ⊢
    obtain ⟨x, hx, y, hy, q⟩ := e
    exact ⟨x, val_sh s x hx, y, vals_sh r y hy, q⟩
end
end
theorem length_shL (a b : Nat) : ∀ (l : List SV), (shL a b l).length = l.length
  | [] => rfl
  | s :: r => by simp [shL, length_shL a b r]
theorem get_shL (a b : Nat) : ∀ (l : List SV) (i : Nat), (shL a b l)[i]? = (l[i]?).map (shV a b)
  | [], i => by simp [shL]
  | s :: r, 0 => by simp [shL]
  | s :: r, i + 1 => by simp [shL, get_shL a b r i]

structure Row where
  id : Nat
  sz : Nat
  cs : List SV
noncomputable def Row.so (x : Row) : SO := .row x.cs.length x.sz (trOf x.cs 0 .e)
noncomputable def Row.sh (a b : Nat) (x : Row) : SO := .row x.cs.length x.sz (trOf (shL a b x.cs) 0 .e)
noncomputable def lastL : List Row → Nat → Option Row
  | [], _ => none
  | x :: r, j => match lastL r j with
    | some y => some y
    | none => if x.id = j then some x else none
theorem lastL_mem {L : List Row} {j : Nat} {x : Row} (h : lastL L j = some x) : x ∈ L ∧ x.id = j := by
  induction L with
  | nil => cases h
  | cons y r ih =>
    rw [lastL] at h
    split at h
    · rename_i z hz
      obtain rfl := Option.some.inj h
      obtain ⟨q1, q2⟩ := ih hz
      exact ⟨List.mem_cons_of_mem _ q1, q2⟩
    · split at h
      · obtain rfl := Option.some.inj h
        exact ⟨List.mem_cons_self, by assumption⟩
      · cases h
noncomputable def mergeP (a b : Nat) : List Row → Tr SO → Tr SO
  | [], hp => hp
  | x :: r, hp => mergeP a b r (hp.put (a + x.id) (some (x.sh a b)))
noncomputable def mergeKL (a b : Nat) (L : List Row) : Tr SO → (Tr SO → Bool) → Bool :=
  List.rec (fun hp k => k hp) (fun x _ ih hp k => natK x.cs.length fun n => argsT (shL a b x.cs) 0 .e fun t => natK (a + x.id) fun id => hp.putK id (some (.row n x.sz t)) fun hp' => ih hp' k) L
where
  argsT (l : List SV) : Nat → Tr SV → (Tr SV → Bool) → Bool := List.rec (fun _ t k => k t) (fun s _ ih i t k => t.putK i (some s) fun t' => natK (i + 1) fun i' => ih i' t' k) l
theorem argsT_eq (l : List SV) : ∀ (i : Nat) (t : Tr SV) (k : Tr SV → Bool), mergeKL.argsT l i t k = k (trOf l i t) := by
  induction l with
  | nil => intro i t k; rfl
  | cons s r ih =>
    intro i t k
    show (t.putK i (some s) fun t' => natK (i + 1) fun i' => mergeKL.argsT r i' t' k) = _
    rw [Tr.putK_eq, natK_eq, ih]
    rfl
theorem mergeKL_eq (a b : Nat) (L : List Row) : ∀ (hp : Tr SO) (k : Tr SO → Bool), mergeKL a b L hp k = k (mergeP a b L hp) := by
  induction L with
  | nil => intro hp k; rfl
  | cons x r ih =>
    intro hp k
    show (natK x.cs.length fun n => mergeKL.argsT (shL a b x.cs) 0 .e fun t => natK (a + x.id) fun id => hp.putK id (some (.row n x.sz t)) fun hp' => mergeKL a b r hp' k) = _
    rw [natK_eq, argsT_eq, natK_eq, Tr.putK_eq, ih]
    rfl
theorem get_mergeP (a b : Nat) (L : List Row) : ∀ (hp : Tr SO) (id : Nat), (mergeP a b L hp).get id = if a ≤ id then (match lastL L (id - a) with | some x => some (x.sh a b) | none => hp.get id) else hp.get id := by
  induction L with
  | nil => intro hp id; simp [mergeP, lastL]
  | cons x r ih =>
    intro hp id
    rw [mergeP, ih, Tr.get_put]
    by_cases ha : a ≤ id
    · rw [if_pos ha, if_pos ha, lastL]
      cases hl : lastL r (id - a) with
      | some y => rfl
      | none =>
        simp only
        by_cases e : x.id = id - a
        · rw [if_pos (by omega), if_pos e]
        · rw [if_neg (by omega), if_neg e]
    · rw [if_neg ha, if_neg ha, if_neg (by omega)]

/-- A call whose end is known. -/
structure Ent where
  f : FuncId
  l : List SV
  v : SV
  n : Nat
  m : Nat
  L : List Row
noncomputable def gOf (L : List Row) : Hp := fun j => (lastL L j).map Row.so
def EntOk (P : Program) (e : Ent) : Prop := ∃ vl, flats e.l = some vl ∧ ∀ w, GOk w → ∀ R : Ending → World → Prop,
  (∀ E1 v w', val E1 e.v = some v → Rel w E1 (gOf e.L) w' → (∀ id, e.n ≤ id → E1.at_ id = none) → (∀ j, e.m ≤ j → E1.emp j = none) → (∀ id s, E1.at_ id = some s → w.heap.size ≤ s.blk) → R (.returned v) w') → Calls P e.f vl.toArray w R
theorem objOk_sh {E1 E' : Env} {a b : Nat} (hE : ∀ id s, E1.at_ id = some s → E'.at_ (a + id) = some s) (hJ : ∀ j p, E1.emp j = some p → E'.emp (b + j) = some p) {x : Row} {s : Spot} {w : World} (h : objOk E1 s w x.so) : objOk E' s w (x.sh a b) := by
  obtain ⟨c, ty, h1, h2, h3, h4⟩ := h
  refine ⟨c, ty, h1, h2, h3, fun i hi => ?_⟩
  obtain ⟨sv, v, k1, k2, k3, k4⟩ := h4 i hi
  refine ⟨shV a b sv, v, ?_, val_sh hE hJ sv v k2, k3, k4⟩
  rw [get_trOf] at k1 ⊢
  rw [length_shL]
  by_cases q : 0 ≤ i ∧ i < 0 + x.cs.length
  · rw [if_pos q] at k1 ⊢
    rw [get_shL, k1]
    rfl
  · exact absurd ⟨Nat.zero_le _, by omega⟩ q
theorem ent_callOk {e : Ent} (he : EntOk P e) (h : HS) (hb : h.bar ≤ h.nx) (hL : ∀ x ∈ e.L, x.id < e.n) :
    Goes h ⟨mergeP h.nx h.ne e.L h.hp, h.nx + e.n, h.ne + e.m, h.bar⟩ ∧ CallOk P W0 e.f e.l h ⟨mergeP h.nx h.ne e.L h.hp, h.nx + e.n, h.ne + e.m, h.bar⟩ (shV h.nx h.ne e.v) := by
  have hlive : ∀ id o, (mergeP h.nx h.ne e.L h.hp).get id = some o → (∃ x, lastL e.L (id - h.nx) = some x ∧ h.nx ≤ id ∧ id < h.nx + e.n ∧ o = x.sh h.nx h.ne) ∨ h.hp.get id = some o := fun id o ho => by
    rw [get_mergeP] at ho
    split at ho
    · rename_i q
      split at ho
      · rename_i x hx
        have := hL x (lastL_mem hx).1
        have := (lastL_mem hx).2
        exact .inl ⟨x, hx, q, by omega, (Option.some.inj ho).symm⟩
      · exact .inr ho
    · exact .inr ho
  refine ⟨⟨fun id hid => ?_, rfl, Nat.le_add_right _ _, Nat.le_add_right _ _, fun id o ho => ?_⟩, ?_⟩
  · show (mergeP h.nx h.ne e.L h.hp).get id = _
    rw [get_mergeP, if_neg (by omega)]
  · rcases hlive id o ho with ⟨x, _, q1, q2, _⟩ | q
    · exact .inl ⟨q1, q2⟩
    · exact .inr ⟨o, q⟩
  intro E w ul r fe hu R hR
  obtain ⟨vl, e1, e2⟩ := he
  rw [vals_of_flats E _ _ e1] at hu
  obtain rfl := Option.some.inj hu
  refine e2 w (GOk.below ‹_› r.below) R fun E1 v w' k1 r' kn km kf => ?_
  let E' : Env := ⟨fun id => if h.nx ≤ id ∧ id < h.nx + e.n then E1.at_ (id - h.nx) else E.at_ id, fun j => if h.ne ≤ j ∧ j < h.ne + e.m then E1.emp (j - h.ne) else E.emp j⟩
  have at_new : ∀ id s, E1.at_ id = some s → E'.at_ (h.nx + id) = some s := fun id s q => by
    have : id < e.n := by
      rcases Nat.lt_or_ge id e.n with z | z
      · exact z
      · rw [kn id z] at q; cases q
    show (if _ then _ else _) = _
    rw [if_pos ⟨by omega, by omega⟩, show h.nx + id - h.nx = id by omega]
    exact q
  have emp_new : ∀ j p, E1.emp j = some p → E'.emp (h.ne + j) = some p := fun j p q => by
    have : j < e.m := by
      rcases Nat.lt_or_ge j e.m with z | z
      · exact z
      · rw [km j z] at q; cases q
    show (if _ then _ else _) = _
    rw [if_pos ⟨by omega, by omega⟩, show h.ne + j - h.ne = j by omega]
    exact q
  have at_old : ∀ id s, E.at_ id = some s → E'.at_ id = some s := fun id s q => by
    show (if _ then _ else _) = _
    split
    · rename_i z
      rw [fe.at_ id z.1 z.2] at q
      cases q
    · exact q
  have le : E.le E' := ⟨at_old, fun j p q => by
    show (if _ then _ else _) = _
    split
    · rename_i z
      rw [fe.emp j z.1 z.2] at q
      cases q
    · exact q⟩
  refine hR E' v w' (val_sh at_new emp_new _ _ k1) ⟨r.below.trans (r'.below.mono r.below.size), fun id o ho => ?_, fun id id' o o' s s' ho ho' hs hs' hbk => ?_⟩ ⟨le, fun id hid => if_neg hid, fun j hj => if_neg hj, r'.below.size, fun k hk _ => r'.below.block k hk, fun id s q1 q2 q3 => ?_⟩
  · rcases hlive id o ho with ⟨x, hx, q1, q2, rfl⟩ | q
    · obtain ⟨s, z1, z2, z3⟩ := r'.obj (id - h.nx) x.so (by unfold gOf; rw [hx]; rfl)
      refine ⟨s, ?_, Nat.le_trans r.below.size z2, objOk_sh at_new emp_new z3⟩
      have := at_new _ _ z1
      rwa [show h.nx + (id - h.nx) = id by omega] at this
    · obtain ⟨s, z1, z2, z3⟩ := r.obj id o q
      exact ⟨s, at_old _ _ z1, z2, (z3.of_heap (r'.below.block _ z3.lt)).le le⟩
  · have newS : ∀ id s (x : Row), lastL e.L (id - h.nx) = some x → h.nx ≤ id → id < h.nx + e.n → E'.at_ id = some s → E1.at_ (id - h.nx) = some s := fun id s x hx q1 q2 q3 => by
      have q3 : (if h.nx ≤ id ∧ id < h.nx + e.n then E1.at_ (id - h.nx) else E.at_ id) = some s := q3
      rwa [if_pos ⟨q1, q2⟩] at q3
    have oldS : ∀ id o s, h.hp.get id = some o → E'.at_ id = some s → E.at_ id = some s ∧ s.blk < w.heap.size := fun id o s q q3 => by
      obtain ⟨t, z1, _, z3⟩ := r.obj id o q
      have := at_old _ _ z1
      rw [this] at q3
      obtain rfl := Option.some.inj q3
      exact ⟨z1, z3.lt⟩
    rcases hlive id o ho with ⟨x, hx, q1, q2, rfl⟩ | q
    · have a1 := newS id s x hx q1 q2 hs
      rcases hlive id' o' ho' with ⟨y, hy, p1, p2, rfl⟩ | p
      · have a2 := newS id' s' y hy p1 p2 hs'
        have := r'.inj (id - h.nx) (id' - h.nx) x.so y.so s s' (by unfold gOf; rw [hx]; rfl) (by unfold gOf; rw [hy]; rfl) a1 a2 hbk
        omega
      · obtain ⟨_, p3⟩ := oldS id' _ s' p hs'
        have := kf _ _ a1
        omega
    · obtain ⟨b1, b2⟩ := oldS id _ s q hs
      rcases hlive id' o' ho' with ⟨y, hy, p1, p2, rfl⟩ | p
      · have a2 := newS id' s' y hy p1 p2 hs'
        have := kf _ _ a2
        omega
      · obtain ⟨c1, c2⟩ := oldS id' _ s' p hs'
        exact r.inj id id' o o' s s' q p b1 c1 hbk
  · have q3 : (if h.nx ≤ id ∧ id < h.nx + e.n then E1.at_ (id - h.nx) else E.at_ id) = some s := q3
    rw [if_pos ⟨q1, q2⟩] at q3
    exact .inl (kf _ _ q3)

/-! ### the table at work -/
abbrev Tab := List Ent
noncomputable def idsB (n : Nat) (L : List Row) : Bool := List.rec true (fun x _ ih => bif Nat.blt x.id n then ih else false) L
theorem idsB_ok {n : Nat} {L : List Row} (h : idsB n L = true) : ∀ x ∈ L, x.id < n := by
  induction L with
  | nil => intro x hx; cases hx
  | cons y r ih =>
    obtain ⟨h1, h2⟩ := bif_true (show (bif Nat.blt y.id n then idsB n r else false) = true from h)
    intro x hx
    rcases List.mem_cons.1 hx with e | e
    · rw [e]; exact Nat.le_of_ble_eq_true h1
    · exact ih h2 x e
noncomputable def entK (e : Ent) (h : HS) (k : SV → HS → Bool) : Bool :=
  HS.rec (fun hp nx ne bar => Bool.rec false (mergeKL nx ne e.L hp fun hp' => natK (nx + e.n) fun nx' => natK (ne + e.m) fun ne' => k (shV nx ne e.v) ⟨hp', nx', ne', bar⟩) (Nat.ble bar nx && idsB e.n e.L)) h
theorem entK_ok {e : Ent} (he : EntOk P e) {h : HS} {k : SV → HS → Bool} (hk : entK e h k = true) : ∃ sv h', k sv h' = true ∧ Goes h h' ∧ CallOk P W0 e.f e.l h h' sv := by
  obtain ⟨hp, nx, ne, bar⟩ := h
  have hk : (Bool.rec false (mergeKL nx ne e.L hp fun hp' => natK (nx + e.n) fun nx' => natK (ne + e.m) fun ne' => k (shV nx ne e.v) ⟨hp', nx', ne', bar⟩) (Nat.ble bar nx && idsB e.n e.L) : Bool) = true := hk
  obtain ⟨h1, h2⟩ := rec_true hk
  simp only [Bool.and_eq_true] at h1
  rw [mergeKL_eq, natK_eq, natK_eq] at h2
  obtain ⟨g, c⟩ := ent_callOk (W0 := W0) he ⟨hp, nx, ne, bar⟩ (Nat.le_of_ble_eq_true h1.1) (idsB_ok h1.2)
  exact ⟨_, _, h2, g, c⟩
noncomputable def tabK (T : Tab) (f : FuncId) (l : List SV) (k : Ent → Bool) : Bool → Bool :=
  List.rec (fun d => d) (fun x _ ih d => Bool.rec (ih d) (Bool.rec (ih d) (k x) (slEq l x.l)) (Nat.beq f x.f)) T
noncomputable def evTgt (P : Program) (M F : Nat) (T : Tab) (d : Nat) : CallK := Nat.rec (fun _ _ _ _ => false) (fun _ ih t l h k => Tgt.rec (fun f => tabK T f l (fun e => entK e h k) ((fnC P M f).f ih F l h k)) (fun id => ylK P ih F id l h k) t) d
noncomputable def evCall (P : Program) (M F : Nat) (T : Tab) (d : Nat) (f : FuncId) : List SV → HS → (SV → HS → Bool) → Bool := evTgt P M F T d (.fn f)
def TabOk (P : Program) (T : Tab) : Prop := ∀ x ∈ T, EntOk P x
theorem tabK_ok {T : Tab} {f : FuncId} {l : List SV} {k : Ent → Bool} {d : Bool} (h : tabK T f l k d = true) : d = true ∨ ∃ x ∈ T, x.f = f ∧ x.l = l ∧ k x = true := by
  induction T with
  | nil => exact .inl h
  | cons x r ih =>
    have h : (Bool.rec (tabK r f l k d) (Bool.rec (tabK r f l k d) (k x) (slEq l x.l)) (Nat.beq f x.f) : Bool) = true := h
    have next : tabK r f l k d = true → d = true ∨ ∃ y ∈ x :: r, y.f = f ∧ y.l = l ∧ k y = true := fun h => by
      rcases ih h with q | ⟨y, a, b⟩
      · exact .inl q
      · exact .inr ⟨y, List.mem_cons_of_mem _ a, b⟩
    cases e1 : Nat.beq f x.f with
    | false => rw [e1] at h; exact next h
    | true =>
      rw [e1] at h
      cases e2 : slEq l x.l with
      | false => rw [e2] at h; exact next h
      | true =>
        rw [e2] at h
        exact .inr ⟨x, List.mem_cons_self, (Nat.eq_of_beq_eq_true e1).symm, (slEq_ok _ _ e2).symm, h⟩

/-! ### what the kernel looks at -/
noncomputable def cellsB (t : Tr SV) (cs : List SV) : Nat → Bool := List.rec (fun _ => true) (fun c _ ih i => getQ t i fun v => bif svEq v c then natK (i + 1) ih else false) cs
theorem cellsB_ok {t : Tr SV} {cs : List SV} : ∀ {i : Nat}, cellsB t cs i = true → ∀ j, j < cs.length → t.get (i + j) = cs[j]? := by
  induction cs with
  | nil => intro i _ j hj; cases hj
  | cons c r ih =>
    intro i h j hj
    have h : (getQ t i fun v => bif svEq v c then natK (i + 1) (cellsB t r) else false) = true := h
    rw [getQ_eq] at h
    split at h
    case h_2 => cases h
    rename_i v hv
    obtain ⟨h1, h2⟩ := bif_true h
    rw [natK_eq] at h2
    cases j with
    | zero => simp [hv, svEq_ok _ _ h1]
    | succ j =>
      have := ih h2 j (by simpa using hj)
      rw [show i + (j + 1) = i + 1 + j by omega, this]
      simp
noncomputable def rowsB (hp : Tr SO) (L : List Row) : Bool := List.rec true (fun x _ ih => getQ hp x.id fun so => asRowO so fun n sz t => bif Nat.beq n x.cs.length && (Nat.beq sz x.sz && cellsB t x.cs 0) then ih else false) L
theorem rowsB_ok {hp : Tr SO} {L : List Row} (h : rowsB hp L = true) : ∀ x ∈ L, ∃ t, hp.get x.id = some (.row x.cs.length x.sz t) ∧ ∀ i, i < x.cs.length → t.get i = (trOf x.cs 0 .e).get i := by
  induction L with
  | nil => intro x hx; cases hx
  | cons y r ih =>
    have h : (getQ hp y.id fun so => asRowO so fun n sz t => bif Nat.beq n y.cs.length && (Nat.beq sz y.sz && cellsB t y.cs 0) then rowsB hp r else false) = true := h
    rw [getQ_eq] at h
    split at h
    case h_2 => cases h
    rename_i so hso
    obtain ⟨n, sz, t, rfl, h2⟩ := asRowO_ok h
    obtain ⟨h3, h4⟩ := bif_true h2
    simp only [Bool.and_eq_true] at h3
    obtain ⟨z1, z2, z3⟩ := h3
    intro x hx
    rcases List.mem_cons.1 hx with e | e
    · subst e
      refine ⟨t, by rw [hso, Nat.eq_of_beq_eq_true z1, Nat.eq_of_beq_eq_true z2], fun i hi => ?_⟩
      have := cellsB_ok z3 i hi
      rw [Nat.zero_add] at this
      rw [this, get_trOf, if_pos ⟨Nat.zero_le _, by omega⟩]
      simp
    · exact ih h4 x e
noncomputable def entB (e : Ent) (sv : SV) (h : HS) : Bool := bif svEq sv e.v then (bif Nat.beq h.nx e.n && Nat.beq h.ne e.m then rowsB h.hp e.L else false) else false
theorem objOk_same {E : Env} {s : Spot} {w : World} {n sz : Nat} {t t' : Tr SV} (ht : ∀ i, i < n → t.get i = t'.get i) (h : objOk E s w (.row n sz t)) : objOk E s w (.row n sz t') := by
  obtain ⟨c, ty, h1, h2, h3, h4⟩ := h
  exact ⟨c, ty, h1, h2, h3, fun i hi => by
    obtain ⟨sv, v, k1, k2⟩ := h4 i hi
    exact ⟨sv, v, by rw [← ht i hi]; exact k1, k2⟩⟩
/-- From a call that was run with nothing laid: its entry. -/
theorem ent_of_call {e : Ent} {vl : List Value} (hl : flats e.l = some vl) (h : ∀ w, GOk w → ∃ sv h', entB e sv h' = true ∧ CallOk P w e.f e.l ⟨.e, 0, 0, 0⟩ h' sv) : EntOk P e := by
  refine ⟨vl, hl, fun w hw R hR => ?_⟩
  obtain ⟨sv, h', hb, c⟩ := h w hw
  obtain ⟨b1, b2⟩ := bif_true hb
  obtain ⟨b2, b3⟩ := bif_true b2
  simp only [Bool.and_eq_true] at b2
  have hv := svEq_ok _ _ b1
  have hn := Nat.eq_of_beq_eq_true b2.1
  have hm := Nat.eq_of_beq_eq_true b2.2
  subst hv
  let E : Env := ⟨fun _ => none, fun _ => none⟩
  refine c E w vl ⟨⟨rfl, rfl, rfl, Nat.le_refl _, fun _ _ => rfl⟩, fun id o e => (by cases e), fun id id' o o' s s' e => (by cases e)⟩ ⟨fun _ _ _ => rfl, fun _ _ _ => rfl⟩ (vals_of_flats E e.l vl hl) R fun E1 v w' k1 r' st => ?_
  refine hR E1 v w' k1 ⟨r'.below, fun j o ho => ?_, fun j j' o o' s s' ho ho' hs hs' hbk => ?_⟩ (fun id hid => st.dom id (fun q => by have := q.2; have : id < h'.nx := q.2; omega)) (fun j hj => st.dome j (fun q => by have : j < h'.ne := q.2; omega)) fun id s q => ?_
  · unfold gOf at ho
    obtain ⟨x, hx, rfl⟩ := Option.map_eq_some_iff.1 ho
    obtain ⟨q1, q2⟩ := lastL_mem hx
    obtain ⟨t, z1, z2⟩ := rowsB_ok b3 x q1
    rw [q2] at z1
    obtain ⟨s, y1, y2, y3⟩ := r'.obj j _ z1
    exact ⟨s, y1, y2, objOk_same z2 y3⟩
  · unfold gOf at ho ho'
    obtain ⟨x, hx, rfl⟩ := Option.map_eq_some_iff.1 ho
    obtain ⟨y, hy, rfl⟩ := Option.map_eq_some_iff.1 ho'
    obtain ⟨q1, q2⟩ := lastL_mem hx
    obtain ⟨p1, p2⟩ := lastL_mem hy
    obtain ⟨t, z1, _⟩ := rowsB_ok b3 x q1
    obtain ⟨u, z2, _⟩ := rowsB_ok b3 y p1
    rw [q2] at z1
    rw [p2] at z2
    exact r'.inj j j' _ _ s s' z1 z2 hs hs' hbk
  · by_cases hid : id < h'.nx
    · rcases st.fresh id s (Nat.zero_le _) hid q with z | ⟨_, _, _, _, z, _⟩
      · exact z
      · cases z
    · have := st.dom id (fun q => hid q.2)
      rw [this] at q
      cases q
end Go.Proofs.YtjbjpjaeagopjaaGreat.Ev
