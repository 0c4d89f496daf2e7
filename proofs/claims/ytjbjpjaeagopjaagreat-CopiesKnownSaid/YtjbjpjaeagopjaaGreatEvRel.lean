/- Objects, and what it says that a world holds them; how worlds and objects go on. -/
import Derived.Test.YtjbjpjaeagopjaaGreatEvVal
import Derived.Below
import Derived.Deep.Quiet
import Derived.Sort.Grow
set_option linter.unusedSimpArgs false
set_option linter.unusedVariables false
set_option linter.unusedSectionVars false
namespace Go.Proofs.YtjbjpjaeagopjaaGreat.Ev
open Go Go.RowKit

inductive SO where
  | row (n sz : Nat) (t : Tr SV)
  | mp (es : List (SV × SV × Nat)) (clock : Nat)
  | lp (st : LoopState) (pend : Option Code) (fr : Tr SV) (N : Nat) (ps : Array Tmp) (assign body : Code) (D : Nat)
  | df
structure HS where
  hp : Tr SO
  nx : Nat
  ne : Nat
  bar : Nat
abbrev Hp := Nat → Option SO

def entryOk (E : Env) (e : SV × SV × Nat) (m : MapEntry) : Prop := val E e.1 = some m.key ∧ val E e.2.1 = some m.val ∧ m.born = e.2.2
inductive EntriesOk (E : Env) : List (SV × SV × Nat) → List MapEntry → Prop
  | nil : EntriesOk E [] []
  | cons {e m es ms} : entryOk E e m → EntriesOk E es ms → EntriesOk E (e :: es) (m :: ms)
def cellOk (E : Env) (t : Tr SV) (i : Nat) (x : Option Value) : Prop := ∃ sv v, t.get i = some sv ∧ val E sv = some v ∧ v.oneCell' = true ∧ x = some v
/-- The frame's table says what the slots hold. -/
structure TmpsOk (E : Env) (fr : Tr SV) (N : Nat) (tmps : Array Value) : Prop where
  size : tmps.size = N
  get : ∀ t, t < N → val E ((fr.get t).getD (.lit undef)) = some (tmps.getD t undef)
theorem TmpsOk.le {E E' : Env} {fr : Tr SV} {N : Nat} {tmps : Array Value} (k : TmpsOk E fr N tmps) (h : E.le E') : TmpsOk E' fr N tmps := ⟨k.size, fun t ht => val_le h _ _ (k.get t ht)⟩
def objOk (E : Env) (s : Spot) (w : World) : SO → Prop
  | .row n sz t => ∃ c ty, w.heap[s.blk]? = some (.cells c ty (0, 0)) ∧ s.base + n ≤ c.size ∧ (s.base + s.cap * sz ≤ c.size ∧ (sz = 0 ∨ n ≤ s.cap * sz)) ∧ ∀ i, i < n → cellOk E t i c[s.base + i]?
  | .mp es clock => ∃ ms : List MapEntry, w.heap[s.blk]? = some (.map ms.toArray clock) ∧ EntriesOk E es ms
  | .lp st pend fr N ps assign body D => ∃ (fn : FuncId) (tmps : Array Value) (sD : Spot), w.heap[s.blk]? = some (.loop { state := st, pending := pend, fn, tmps, params := ps, assign, body, defers := sD.blk }) ∧ E.at_ D = some sD ∧ TmpsOk E fr N tmps
  | .df => w.heap[s.blk]? = some (.deferred (some []))
theorem EntriesOk.le {E E' : Env} (h : E.le E') {es : List (SV × SV × Nat)} {ms : List MapEntry} (k : EntriesOk E es ms) : EntriesOk E' es ms := by
  induction k with
  | nil => exact .nil
  | cons a _ ih => exact .cons ⟨val_le h _ _ a.1, val_le h _ _ a.2.1, a.2.2⟩ ih
theorem cellOk.le {E E' : Env} (h : E.le E') {t : Tr SV} {i : Nat} {x : Option Value} (k : cellOk E t i x) : cellOk E' t i x := by
  obtain ⟨sv, v, a, b, c, d⟩ := k
  exact ⟨sv, v, a, val_le h _ _ b, c, d⟩
theorem objOk.le {E E' : Env} (h : E.le E') {s : Spot} {w : World} {o : SO} (k : objOk E s w o) : objOk E' s w o := by
  cases o with
  | row n sz t =>
    obtain ⟨c, ty, a, b, d, e⟩ := k
    exact ⟨c, ty, a, b, d, fun i hi => (e i hi).le h⟩
  | mp es clock =>
    obtain ⟨ms, a, b⟩ := k
    exact ⟨ms, a, b.le h⟩
  | lp st pend fr N ps assign body D =>
    obtain ⟨fn, tmps, sD, a, b, c⟩ := k
    exact ⟨fn, tmps, sD, a, h.1 _ _ b, c.le h⟩
  | df => exact k
theorem objOk.of_heap {E : Env} {s : Spot} {w w' : World} {o : SO} (h : w'.heap[s.blk]? = w.heap[s.blk]?) (k : objOk E s w o) : objOk E s w' o := by
  cases o with
  | row n sz t =>
    obtain ⟨c, ty, a, r⟩ := k
    exact ⟨c, ty, h.trans a, r⟩
  | mp es clock =>
    obtain ⟨ms, a, r⟩ := k
    exact ⟨ms, h.trans a, r⟩
  | lp st pend fr N ps assign body D =>
    obtain ⟨fn, tmps, sD, a, r⟩ := k
    exact ⟨fn, tmps, sD, h.trans a, r⟩
  | df => exact h.trans k
theorem objOk.lt {E : Env} {s : Spot} {w : World} {o : SO} (k : objOk E s w o) : s.blk < w.heap.size := by
  cases o with
  | row n sz t =>
    obtain ⟨c, ty, a, _⟩ := k
    exact (Array.getElem?_eq_some_iff.1 a).1
  | mp es clock =>
    obtain ⟨ms, a, _⟩ := k
    exact (Array.getElem?_eq_some_iff.1 a).1
  | lp st pend fr N ps assign body D =>
    obtain ⟨fn, tmps, sD, a, _⟩ := k
    exact (Array.getElem?_eq_some_iff.1 a).1
  | df => exact (Array.getElem?_eq_some_iff.1 k).1

structure Rel (W0 : World) (E : Env) (g : Hp) (w : World) : Prop where
  below : Below W0.heap.size W0 w
  obj : ∀ id o, g id = some o → ∃ s, E.at_ id = some s ∧ W0.heap.size ≤ s.blk ∧ objOk E s w o
  inj : ∀ id id' o o' s s', g id = some o → g id' = some o' → E.at_ id = some s → E.at_ id' = some s' → s.blk = s'.blk → id = id'
/-- Nothing is known yet under these numbers. -/
structure Free (E : Env) (nx nx' ne ne' : Nat) : Prop where
  at_ : ∀ id, nx ≤ id → id < nx' → E.at_ id = none
  emp : ∀ j, ne ≤ j → j < ne' → E.emp j = none
/-- The objects go on: those below the bar stay, none comes back. -/
structure Goes (h h' : HS) : Prop where
  kept : ∀ id, id < h.bar → h'.hp.get id = h.hp.get id
  bar : h'.bar = h.bar
  nx : h.nx ≤ h'.nx
  ne : h.ne ≤ h'.ne
  live : ∀ id o, h'.hp.get id = some o → (h.nx ≤ id ∧ id < h'.nx) ∨ ∃ o0, h.hp.get id = some o0
theorem Goes.refl (h : HS) : Goes h h := ⟨fun _ _ => rfl, rfl, Nat.le_refl _, Nat.le_refl _, fun _ o e => .inr ⟨o, e⟩⟩
theorem Goes.trans {a b c : HS} (h : Goes a b) (k : Goes b c) : Goes a c :=
  ⟨fun id hid => (k.kept id (by rw [h.bar]; exact hid)).trans (h.kept id hid), k.bar.trans h.bar, Nat.le_trans h.nx k.nx, Nat.le_trans h.ne k.ne, fun id o e => by
    rcases k.live id o e with q | ⟨o1, q⟩
    · exact .inl ⟨Nat.le_trans h.nx q.1, q.2⟩
    · rcases h.live id o1 q with r | r
      · exact .inl ⟨r.1, Nat.lt_of_lt_of_le r.2 k.nx⟩
      · exact .inr r⟩
/-- The world goes on: what E knows stays known, new numbers alone are added, blocks that are no object's from the bar on stay as they are. -/
structure Step (bar : Nat) (g : Hp) (nx nx' ne ne' : Nat) (E E' : Env) (w w' : World) : Prop where
  le : E.le E'
  dom : ∀ id, ¬ (nx ≤ id ∧ id < nx') → E'.at_ id = E.at_ id
  dome : ∀ j, ¬ (ne ≤ j ∧ j < ne') → E'.emp j = E.emp j
  size : w.heap.size ≤ w'.heap.size
  touch : ∀ k, k < w.heap.size → (∀ id s o, bar ≤ id → g id = some o → E.at_ id = some s → s.blk ≠ k) → w'.heap[k]? = w.heap[k]?
  fresh : ∀ id s, nx ≤ id → id < nx' → E'.at_ id = some s → w.heap.size ≤ s.blk ∨ ∃ id0 s0 o, bar ≤ id0 ∧ g id0 = some o ∧ E.at_ id0 = some s0 ∧ s0.blk = s.blk
theorem Step.refl (bar : Nat) (g : Hp) (nx ne : Nat) (E : Env) (w : World) : Step bar g nx nx ne ne E E w w :=
  ⟨E.le_refl, fun _ _ => rfl, fun _ _ => rfl, Nat.le_refl _, fun _ _ _ => rfl, fun _ _ a b => absurd b (by omega)⟩
/-- Nothing but the count of draws has turned. -/
theorem Step.same (bar : Nat) (g : Hp) (nx ne : Nat) (E : Env) {w w' : World} (h : w'.heap = w.heap) : Step bar g nx nx ne ne E E w w' :=
  ⟨E.le_refl, fun _ _ => rfl, fun _ _ => rfl, by rw [h]; exact Nat.le_refl _, fun _ _ _ => by rw [h], fun _ _ a b => absurd b (by omega)⟩
theorem Step.trans {h h1 h2 : HS} {E E1 E2 : Env} {w w1 w2 : World} (G : Goes h h1) (G2 : Goes h1 h2) (a : Step h.bar h.hp.get h.nx h1.nx h.ne h1.ne E E1 w w1) (b : Step h1.bar h1.hp.get h1.nx h2.nx h1.ne h2.ne E1 E2 w1 w2) :
    Step h.bar h.hp.get h.nx h2.nx h.ne h2.ne E E2 w w2 := by
  have n1 := G.nx
  have n2 := G2.nx
  have m1 := G.ne
  have m2 := G2.ne
  refine ⟨Env.le_trans a.le b.le, fun id hid => ?_, fun j hj => ?_, Nat.le_trans a.size b.size, fun k hk hno => ?_, fun id s h1' h2' e => ?_⟩
  · rw [b.dom id (by omega), a.dom id (by omega)]
  · rw [b.dome j (by omega), a.dome j (by omega)]
  · rw [b.touch k (Nat.lt_of_lt_of_le hk a.size) ?_, a.touch k hk hno]
    intro id s o hb ho he
    rw [G.bar] at hb
    by_cases hn : h.nx ≤ id ∧ id < h1.nx
    · rcases a.fresh id s hn.1 hn.2 he with q | ⟨id0, s0, o0, q0, q1, q2, q3⟩
      · omega
      · rw [← q3]; exact hno id0 s0 o0 q0 q1 q2
    · rcases G.live id o ho with q | ⟨o0, q⟩
      · exact absurd q hn
      · rw [a.dom id hn] at he
        exact hno id s o0 hb q he
  · by_cases hn : id < h1.nx
    · have e1 : E1.at_ id = some s := by rw [b.dom id (by omega)] at e; exact e
      exact a.fresh id s h1' hn e1
    · rcases b.fresh id s (by omega) h2' e with q | ⟨id0, s0, o0, q0, q1, q2, q3⟩
      · exact .inl (Nat.le_trans a.size q)
      · rw [G.bar] at q0
        by_cases hm : h.nx ≤ id0 ∧ id0 < h1.nx
        · rcases a.fresh id0 s0 hm.1 hm.2 q2 with r | ⟨i1, s1, o1, r0, r1, r2, r3⟩
          · exact .inl (by omega)
          · exact .inr ⟨i1, s1, o1, r0, r1, r2, r3.trans q3⟩
        · rcases G.live id0 o0 q1 with r | ⟨o1, r⟩
          · exact absurd r hm
          · rw [a.dom id0 hm] at q2
            exact .inr ⟨id0, s0, o1, q0, r, q2, q3⟩
theorem Free.left {E : Env} {nx nx1 nx2 ne ne1 ne2 : Nat} (h : Free E nx nx2 ne ne2) (a : nx1 ≤ nx2) (b : ne1 ≤ ne2) : Free E nx nx1 ne ne1 :=
  ⟨fun id p q => h.at_ id p (by omega), fun j p q => h.emp j p (by omega)⟩
theorem Free.right {bar : Nat} {g : Hp} {E E1 : Env} {w w1 : World} {nx nx1 nx2 ne ne1 ne2 : Nat} (h : Free E nx nx2 ne ne2) (st : Step bar g nx nx1 ne ne1 E E1 w w1) (a : nx ≤ nx1) (b : ne ≤ ne1) : Free E1 nx1 nx2 ne1 ne2 :=
  ⟨fun id p q => by rw [st.dom id (by omega)]; exact h.at_ id (by omega) q, fun j p q => by rw [st.dome j (by omega)]; exact h.emp j (by omega) q⟩

variable {W0 : World} {E : Env} {g : Hp} {w : World}
/-- A world that differs in its count of draws alone. -/
theorem Rel.same (r : Rel W0 E g w) {w' : World} (hh : w'.heap = w.heap) (ho : w'.os = w.os) (ht : w'.tape = w.tape) (hout : w'.output = w.output) : Rel W0 E g w' :=
  ⟨⟨ho.trans r.below.os, ht.trans r.below.tape, hout.trans r.below.output, by rw [hh]; exact r.below.size, fun k hk => by rw [hh]; exact r.below.block k hk⟩,
    fun id o hid => by
      obtain ⟨s, a, b, c⟩ := r.obj id o hid
      exact ⟨s, a, b, c.of_heap (by rw [hh])⟩, r.inj⟩
theorem Rel.drewN (r : Rel W0 E g w) (n : Nat) : Rel W0 E g (w.drewN n) := r.same rfl rfl rfl rfl
theorem Rel.drew (r : Rel W0 E g w) : Rel W0 E g w.drew := r.same rfl rfl rfl rfl
/-- One object turns. -/
theorem Rel.upd (r : Rel W0 E g w) {id : Nat} {o o' : SO} {s : Spot} {w' : World} {g' : Hp} (hid : g id = some o) (hs : E.at_ id = some s) (ho : w'.os = w.os) (ht : w'.tape = w.tape) (hout : w'.output = w.output)
    (hsz : w'.heap.size = w.heap.size) (hoth : ∀ k, k ≠ s.blk → w'.heap[k]? = w.heap[k]?) (hob : objOk E s w' o') (hg : ∀ j, g' j = if j = id then some o' else g j) : Rel W0 E g' w' := by
  obtain ⟨s1, e1, b1, k1⟩ := r.obj id o hid
  have : s1 = s := Option.some.inj (e1.symm.trans hs)
  subst this
  have live : ∀ j x, g' j = some x → ∃ y, g j = some y := fun j x hx => by
    rw [hg] at hx
    by_cases e : j = id
    · exact ⟨o, by rw [e]; exact hid⟩
    · rw [if_neg e] at hx; exact ⟨x, hx⟩
  refine ⟨⟨ho.trans r.below.os, ht.trans r.below.tape, hout.trans r.below.output, by rw [hsz]; exact r.below.size, fun k hk => (hoth k (by omega)).trans (r.below.block k hk)⟩, fun j x hx => ?_, fun j j' x x' t t' hx hx' ht ht' hb => ?_⟩
  · rw [hg] at hx
    by_cases e : j = id
    · rw [if_pos e] at hx
      obtain rfl := Option.some.inj hx
      rw [e]
      exact ⟨s1, hs, b1, hob⟩
    · rw [if_neg e] at hx
      obtain ⟨t, a, b, c⟩ := r.obj j x hx
      refine ⟨t, a, b, c.of_heap (hoth _ fun eb => e (r.inj j id x o t s1 hx hid a hs eb))⟩
  · obtain ⟨y, hy⟩ := live j x hx
    obtain ⟨y', hy'⟩ := live j' x' hx'
    exact r.inj j j' y y' t t' hy hy' ht ht' hb
/-- E with one more object. -/
def Env.more (E : Env) (id : Nat) (s : Spot) : Env := { E with at_ := fun i => if i = id then some s else E.at_ i }
theorem Env.le_more (E : Env) (id : Nat) (s : Spot) (h : E.at_ id = none) : E.le (E.more id s) :=
  ⟨fun i x e => by
    simp only [Env.more]
    rw [if_neg (fun h2 => by rw [h2, h] at e; cases e)]
    exact e, fun _ _ e => e⟩
theorem Env.more_at (E : Env) (id : Nat) (s : Spot) : (E.more id s).at_ id = some s := by simp [Env.more]
theorem Env.more_ne (E : Env) (id : Nat) (s : Spot) (j : Nat) (h : j ≠ id) : (E.more id s).at_ j = E.at_ j := by simp [Env.more, h]
/-- One object is made in a new block. -/
theorem Rel.new (r : Rel W0 E g w) {id : Nat} {o : SO} {ob : Obj} {cap : Nat} {g' : Hp} (hn : E.at_ id = none) (hob : objOk (E.more id ⟨w.heap.size, 0, cap⟩) ⟨w.heap.size, 0, cap⟩ { w with heap := w.heap.push ob } o)
    (hg : ∀ j, g' j = if j = id then some o else g j) :
    Rel W0 (E.more id ⟨w.heap.size, 0, cap⟩) g' { w with heap := w.heap.push ob } := by
  have hle := E.le_more id ⟨w.heap.size, 0, cap⟩ hn
  have old : ∀ k, k < w.heap.size → (w.heap.push ob)[k]? = w.heap[k]? := fun k hk => by rw [Array.getElem?_push_lt hk, Array.getElem?_eq_getElem hk]
  refine ⟨⟨r.below.os, r.below.tape, r.below.output, by simp only [Array.size_push]; have := r.below.size; omega, fun k hk => (old k (by have := r.below.size; omega)).trans (r.below.block k hk)⟩, fun j x hx => ?_, fun j j' x x' t t' hx hx' ht ht' hb => ?_⟩
  · rw [hg] at hx
    by_cases e : j = id
    · rw [if_pos e] at hx
      obtain rfl := Option.some.inj hx
      rw [e]
      exact ⟨_, E.more_at _ _, r.below.size, hob⟩
    · rw [if_neg e] at hx
      obtain ⟨t, a, b, c⟩ := r.obj j x hx
      exact ⟨t, by rw [E.more_ne _ _ j e]; exact a, b, (c.of_heap (w' := { w with heap := w.heap.push ob }) (old _ c.lt)).le hle⟩
  · rw [hg] at hx hx'
    by_cases e : j = id
    · by_cases e' : j' = id
      · rw [e, e']
      · rw [if_neg e'] at hx'
        obtain ⟨t1, a, b, c⟩ := r.obj j' x' hx'
        rw [E.more_ne _ _ j' e', a] at ht'
        obtain rfl := Option.some.inj ht'
        rw [e, E.more_at] at ht
        obtain rfl := Option.some.inj ht
        have := c.lt
        simp only at hb
        omega
    · rw [if_neg e] at hx
      obtain ⟨t1, a, b, c⟩ := r.obj j x hx
      rw [E.more_ne _ _ j e, a] at ht
      obtain rfl := Option.some.inj ht
      by_cases e' : j' = id
      · rw [e', E.more_at] at ht'
        obtain rfl := Option.some.inj ht'
        have := c.lt
        simp only at hb
        omega
      · rw [if_neg e'] at hx'
        rw [E.more_ne _ _ j' e'] at ht'
        exact r.inj j j' x x' t1 t' hx hx' a ht' hb
theorem Step.new (bar : Nat) (g : Hp) (E : Env) (w : World) (nx ne cap : Nat) (ob : Obj) (hn : E.at_ nx = none) : Step bar g nx (nx + 1) ne ne E (E.more nx ⟨w.heap.size, 0, cap⟩) w { w with heap := w.heap.push ob } :=
  ⟨E.le_more _ _ hn, fun id hid => E.more_ne _ _ id (by omega), fun _ _ => rfl, by simp, fun k hk _ => by rw [Array.getElem?_push_lt hk, Array.getElem?_eq_getElem hk], fun id s a b e => by
    have : id = nx := by omega
    subst this
    rw [E.more_at] at e
    obtain rfl := Option.some.inj e
    exact .inl (Nat.le_refl _)⟩

/-- The marks among the deferred calls: of which blocks. -/
def Marks (E : Env) : List Nat → List Deferred → Prop
  | [], ds => ds = []
  | D :: r, ds => ∃ s ds', E.at_ D = some s ∧ ds = { target := .collected s.blk, args := #[] } :: ds' ∧ Marks E r ds'
theorem Marks.le {E E' : Env} (h : E.le E') : ∀ {l : List Nat} {ds : List Deferred}, Marks E l ds → Marks E' l ds
  | [], _, k => k
  | _ :: _, _, ⟨s, ds', a, b, c⟩ => ⟨s, ds', h.1 _ _ a, b, Marks.le h c⟩
def DefOk (E : Env) (x : SV) (ds : List Deferred) : Prop :=
  match x with
  | .mks l => Marks E l ds
  | _ => ds = []
theorem DefOk.le {E E' : Env} (h : E.le E') {x : SV} {ds : List Deferred} (k : DefOk E x ds) : DefOk E' x ds := by
  unfold DefOk at k ⊢
  split at k
  · exact k.le h
  · exact k
/-- A frame. -/
structure FrOk (E : Env) (fr : Tr SV) (N : Nat) (a : Act) : Prop where
  size : a.tmps.size = N
  defers : DefOk E ((fr.get N).getD (.lit undef)) a.defers
  get : ∀ t, val E ((fr.get t).getD (.lit undef)) = some (a.tmps.getD t undef)
theorem FrOk.le {E E' : Env} {fr : Tr SV} {N : Nat} {a : Act} (k : FrOk E fr N a) (h : E.le E') : FrOk E' fr N a := ⟨k.size, k.defers.le h, fun t => val_le h _ _ (k.get t)⟩
theorem FrOk.put {E : Env} {fr : Tr SV} {N : Nat} {a : Act} (k : FrOk E fr N a) {d : Nat} {sv : SV} {v : Value} (hd : d < N) (hv : val E sv = some v) : FrOk E (fr.put d (some sv)) N (a.put (some d) v) := by
  refine ⟨by simp [Act.put, k.size], by rw [Tr.get_put, if_neg (by omega)]; exact k.defers, fun t => ?_⟩
  rw [Tr.get_put]
  simp only [Act.put]
  by_cases e : t = d
  · subst e
    rw [if_pos rfl]
    have : t < a.tmps.size := by rw [k.size]; exact hd
    simp [Array.getD, this, hv]
  · rw [if_neg e, k.get t]
    congr 1
    simp only [Array.getD_eq_getD_getElem?]
    rw [Array.getElem?_setIfInBounds_ne (Ne.symm e)]
end Go.Proofs.YtjbjpjaeagopjaaGreat.Ev
