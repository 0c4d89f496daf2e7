/- Sets of whole numbers whose order is the tape's: they lie beside the objects, and so do the iterators over them. Operations upon such sets and their iterators. One operation, where sets lie beside the objects: what may come of it. Code, where sets lie beside the objects: whatever the tape says, what is asked at the end holds. Rows of code, loops and functions, where sets lie beside the objects. Functions, where sets lie beside the objects, and the entries of their calls. -/
import Derived.Test.YtbkgehknhjkaoaaGreatDoorEvM5
import Derived.Maps.Range
import Derived.Maps.OwnSet
set_option linter.unusedSimpArgs false
set_option linter.unusedVariables false
set_option linter.unusedSectionVars false
namespace Go.Proofs.YtbkgehknhjkaoaaGreatDoor.Ev
open Go Go.RowKit Go.ChangeMaps

variable [GTab]
/-! ### sets as ascending lists -/
def toD (ks : List Int) : List (Lit × DataW Unit) := ks.map fun z => (.int .i64 z, .lit (.bool true))
noncomputable def insI (z : Int) (ks : List Int) : List Int := List.rec [z] (fun y r ih => Bool.rec (y :: ih) (z :: y :: r) (ltI z y)) ks
noncomputable def delI (z : Int) (ks : List Int) : List Int := List.rec [] (fun y _ ih => Bool.rec (y :: ih) ih (eqI y z)) ks
theorem toD_ins (z : Int) : ∀ ks : List Int, DataW.insert (.int .i64 z, .lit (.bool true)) (toD ks) = toD (insI z ks)
  | [] => rfl
  | y :: r => by
    have e : insI z (y :: r) = Bool.rec (y :: insI z r) (z :: y :: r) (ltI z y) := rfl
    rw [e, ltI_eq]
    show (if decide (z < y) = true then _ else _) = _
    by_cases h : z < y
    · simp [h, toD]
    · simp only [h, decide_false, Bool.false_eq_true, if_false]
      have := toD_ins z r
      unfold toD at this ⊢
      simp [this]
theorem toD_del (z : Int) : ∀ ks : List Int, delKey (.int .i64 z) (toD ks) = toD (delI z ks)
  | [] => rfl
  | y :: r => by
    have e : delI z (y :: r) = Bool.rec (y :: delI z r) (delI z r) (eqI y z) := rfl
    rw [e, eqI_eq]
    have := toD_del z r
    unfold delKey toD at this ⊢
    by_cases h : y = z
    · simp [h, notKey, Lit.sameKey, this]
    · simp [h, notKey, Lit.sameKey, this]
theorem mem_delI {z y : Int} : ∀ {ks : List Int}, y ∈ delI z ks ↔ y ∈ ks ∧ y ≠ z
  | [] => by simp [delI]
  | x :: r => by
    have e : delI z (x :: r) = Bool.rec (x :: delI z r) (delI z r) (eqI x z) := rfl
    rw [e, eqI_eq]
    by_cases h : x = z
    · simp only [h, decide_true]
      rw [mem_delI]
      constructor
      · rintro ⟨a, b⟩; exact ⟨List.mem_cons_of_mem _ a, b⟩
      · rintro ⟨a, b⟩
        rcases List.mem_cons.1 a with c | c
        · exact absurd c b
        · exact ⟨c, b⟩
    · simp only [h, decide_false, List.mem_cons, mem_delI]
      constructor
      · rintro (a | ⟨a, b⟩)
        · exact ⟨.inl a, by rw [a]; exact h⟩
        · exact ⟨.inr a, b⟩
      · rintro ⟨a | a, b⟩
        · exact .inl a
        · exact .inr ⟨a, b⟩
theorem put_toD (z : Int) (ks : List Int) : (DataW.map (toD ks)).put (.int .i64 z) (.lit (.bool true)) = .map (toD (insI z (delI z ks))) := by
  rw [DataW.put_eq]
  unfold putKey
  have := toD_del z ks
  unfold delKey at this
  rw [this, toD_ins]
theorem del_toD (z : Int) (ks : List Int) : (DataW.map (toD ks)).del (.int .i64 z) = .map (toD (delI z ks)) := by
  rw [DataW.del_eq, toD_del]
theorem length_toD (ks : List Int) : (toD ks).length = ks.length := by simp [toD]

/-! ### what lies beside the objects -/
/-- Sets, and iterators: over which set, what is still to come, what came last. -/
structure Sg where
  ms : List (Nat × List Int)
  it : List (Nat × Nat × List Int × Option Int)
structure Ty where
  mt : TypeId
  kt : TypeId
  et : TypeId
/-- What a set's block must be. -/
def pSet (P : Program) (T : Ty) (ks : List Int) (ob : Obj) : Prop := ∃ es clock, ob = .map es clock ∧ WideElems.Fit (H := Unit) P T.kt (plainElem P T.et) es clock ∧ es.size ≤ ks.length ∧ DataW.map (toD ks) = .map ((es.toList.map (WideElems.rg P T.kt (plainElem P T.et))).foldr DataW.insert [])
structure TyOk (P : Program) (T : Ty) : Prop where
  mt : P.underlying T.mt = some (.map T.kt T.et)
  kt : P.underlying T.kt = some (.int .i64)
  et : P.underlying T.et = some .bool
  set : ∀ ks ob, GTab.set ks ob ↔ pSet P T ks ob
/-- Where the walk began. -/
structure St0 where
  W0 : World
  E0 : Env
  h0 : HS
  w0 : World
abbrev SetAt (P : Program) (T : Ty) (w : World) (b : Nat) (ks : List Int) : Prop := w.ownsMap (H := Unit) P T.kt (plainElem P T.et) b ks.length (.map (toD ks))
theorem set_of_ml {P : Program} {T : Ty} (hT : TyOk P T) {E : Env} {s : Spot} {w : World} {ks : List Int} (h : objOk E s w (.ml ks)) : SetAt P T w s.blk ks := by
  obtain ⟨ms, clock, hb, _, hp⟩ := h
  obtain ⟨es, clock', e, F, hs, hD⟩ := (hT.set _ _).1 hp
  rw [e] at hb
  exact ⟨es, clock', hb, F, hs, hD⟩
theorem ml_of_set {P : Program} {T : Ty} (hT : TyOk P T) {E : Env} {s : Spot} {w : World} {ks : List Int} (h : SetAt P T w s.blk ks) : objOk E s w (.ml ks) := by
  obtain ⟨es, clock, hb, F, hs, hD⟩ := h
  refine ⟨es.toList, clock, by simpa using hb, ?_, (hT.set _ _).2 ⟨es, clock, by simp, F, hs, hD⟩⟩
  have e := congrArg List.length (DataW.map.inj hD)
  rw [length_sorted, length_toD] at e
  simpa using e.symm
theorem own_tight {P : Program} {k : TypeId} {R : Value → Option (DataW Unit × List MemPlace)} {w : World} {b n : Nat} {ks : List Int} (h : w.ownsMap P k R b n (.map (toD ks))) : w.ownsMap P k R b ks.length (.map (toD ks)) := by
  obtain ⟨es, clock, hb, F, hs, hD⟩ := h
  refine ⟨es, clock, hb, F, ?_, hD⟩
  have e := DataW.map.inj hD
  have := congrArg List.length e
  rw [length_sorted, length_toD] at this
  simp only [List.length_map, Array.length_toList] at this
  omega
theorem own_heap {P : Program} {k : TypeId} {R : Value → Option (DataW Unit × List MemPlace)} {w w' : World} {b n : Nat} {D : DataW Unit} (h : w.ownsMap P k R b n D) (e : w'.heap[b]? = w.heap[b]?) : w'.ownsMap P k R b n D := by
  obtain ⟨es, clock, hb, r⟩ := h
  exact ⟨es, clock, e.trans hb, r⟩
theorem ranges_heap {P : Program} {k : TypeId} {R : Value → Option (DataW Unit × List MemPlace)} {w w' : World} {b r n : Nat} {D : DataW Unit} {left : Lit → Bool} {cnt : Nat} (h : w.ranges P k R b r n D left cnt) (e : w'.heap[b]? = w.heap[b]?) (e2 : w'.heap[r]? = w.heap[r]?) : w'.ranges P k R b r n D left cnt := by
  obtain ⟨es, clock, since, seen, c0, hb, F, hs, hD, hr, q⟩ := h
  exact ⟨es, clock, since, seen, c0, e.trans hb, F, hs, hD, e2.trans hr, q⟩
/-- What the step has just handed out. -/
def CurAt (P : Program) (w : World) (b r : Nat) (v : Value) : Prop := ∃ es clock since seen c0, w.heap[b]? = some (.map es clock) ∧ w.heap[r]? = some (.mapIter (some b) since seen c0) ∧ (Instr.entry (.pointer (some ⟨r, 0, none⟩))).run P w = .ok v w
theorem CurAt.heap {P : Program} {w w' : World} {b r : Nat} {v : Value} (h : CurAt P w b r v) (e : w'.heap[b]? = w.heap[b]?) (e2 : w'.heap[r]? = w.heap[r]?) : CurAt P w' b r v := by
  obtain ⟨es, clock, since, seen, c0, h1, h2, h3⟩ := h
  refine ⟨es, clock, since, seen, c0, e.trans h1, e2.trans h2, ?_⟩
  have e1' := e.trans h1
  have e2' := e2.trans h2
  unfold Instr.entry at h3 ⊢
  simp only [getObj, Sem.run_bind, Sem.run, h1, h2, e1', e2', Result.andThen] at h3 ⊢
  cases hback : seen.back? with
  | none => rw [hback] at h3; simp [stuck, Sem.run] at h3
  | some st =>
    rw [hback] at h3
    cases hc : (clock != c0) with
    | true =>
      exfalso
      simp only [hc, if_true, Sem.run_bind, Sem.run, h1, Result.andThen] at h3
      simp [unsupported, Sem.run] at h3
    | false =>
    simp only [hc, Bool.false_eq_true, if_false, Sem.run_bind, Sem.run, e1', h1, Result.andThen, Sem.run_pure] at h3 ⊢
    cases hq : es.find? (fun x => x.born == st) with
    | none => rw [hq] at h3; simp [unsupported, Sem.run] at h3
    | some x =>
      rw [hq] at h3
      simp only [Sem.run_pure, Result.ok.injEq] at h3 ⊢
      exact ⟨h3.1, trivial⟩
/-- It lies beside the objects. -/
structure OutM (S : St0) (E : Env) (h : HS) (w : World) (id : Nat) (s : Spot) : Prop where
  at_ : E.at_ id = some s
  lt : id < h.nx
  old : S.h0.nx ≤ id → S.w0.heap.size ≤ s.blk
  size : s.blk < w.heap.size
  off : ∀ j o sj, h.hp.get j = some o → E.at_ j = some sj → sj.blk ≠ s.blk
def outIds (σ : Sg) : List Nat := σ.ms.map Prod.fst ++ σ.it.map Prod.fst
structure RelM (P : Program) (T : Ty) (S : St0) (E : Env) (σ : Sg) (h : HS) (w : World) : Prop where
  rel : Rel S.W0 E h.hp.get w
  step : Step S.h0.bar S.h0.hp.get S.h0.nx h.nx S.h0.ne h.ne S.E0 E S.w0 w
  goes : Goes S.h0 h
  free : ∀ id, h.nx ≤ id → E.at_ id = none
  freee : ∀ j, h.ne ≤ j → E.emp j = none
  bar : S.h0.bar ≤ S.h0.nx
  base : S.W0.heap.size ≤ S.w0.heap.size
  ms : ∀ x ∈ σ.ms, ∃ s, OutM S E h w x.1 s ∧ SetAt P T w s.blk x.2
  it : ∀ y ∈ σ.it, ∃ s sm ks n left cnt, OutM S E h w y.1 s ∧ E.at_ y.2.1 = some sm ∧ (y.2.1, ks) ∈ σ.ms ∧ w.ranges (H := Unit) P T.kt (plainElem P T.et) sm.blk s.blk n (.map (toD ks)) left cnt ∧ (∀ kl, left kl = true ↔ ∃ z ∈ y.2.2.1, kl = .int .i64 z) ∧
    (∀ z, y.2.2.2 = some z → CurAt P w sm.blk s.blk (.tuple #[.int .i64 z, .bool true])) ∧ s.base = 0 ∧ S.h0.nx ≤ y.1
  apart : ∀ a b s s', a ∈ outIds σ → b ∈ outIds σ → E.at_ a = some s → E.at_ b = some s' → s.blk = s'.blk → a = b
  nodup : (σ.ms.map Prod.fst).Nodup
section
variable {P : Program} {T : Ty} {S : St0} {E : Env} {σ : Sg} {h : HS} {w : World}
theorem RelM.out (r : RelM P T S E σ h w) {a : Nat} (ha : a ∈ outIds σ) : ∃ s, OutM S E h w a s := by
  rcases List.mem_append.1 ha with q | q
  · obtain ⟨x, hx, rfl⟩ := List.mem_map.1 q
    obtain ⟨s, o, _⟩ := r.ms x hx
    exact ⟨s, o⟩
  · obtain ⟨y, hy, rfl⟩ := List.mem_map.1 q
    obtain ⟨s, _, _, _, _, _, o, _⟩ := r.it y hy
    exact ⟨s, o⟩
theorem mem_ms {x : Nat × List Int} (hx : x ∈ σ.ms) : x.1 ∈ outIds σ := List.mem_append_left _ (List.mem_map.2 ⟨x, hx, rfl⟩)
theorem mem_it {y : Nat × Nat × List Int × Option Int} (hy : y ∈ σ.it) : y.1 ∈ outIds σ := List.mem_append_right _ (List.mem_map.2 ⟨y, hy, rfl⟩)
/-- An operation upon the objects. -/
theorem RelM.next (r : RelM P T S E σ h w) {E' : Env} {h' : HS} {w' : World} (rel : Rel S.W0 E' h'.hp.get w') (st : Step h.bar h.hp.get h.nx h'.nx h.ne h'.ne E E' w w') (g : Goes h h') : RelM P T S E' σ h' w' := by
  have keep : ∀ a s, OutM S E h w a s → w'.heap[s.blk]? = w.heap[s.blk]? := fun a s o => st.touch _ o.size fun id t ob _ q1 q2 => o.off id ob t q1 q2
  have out : ∀ a s, OutM S E h w a s → OutM S E' h' w' a s := fun a s o => ⟨st.le.1 _ _ o.at_, Nat.lt_of_lt_of_le o.lt g.nx, o.old, Nat.lt_of_lt_of_le o.size st.size, fun j ob sj q1 q2 => by
    rcases g.live j ob q1 with ⟨z1, z2⟩ | ⟨o0, z⟩
    · rcases st.fresh j sj z1 z2 q2 with y | ⟨i0, s0, o0, _, y2, y3, y4⟩
      · have := o.size; omega
      · rw [← y4]; exact o.off i0 o0 s0 y2 y3
    · obtain ⟨t, y1, _, _⟩ := r.rel.obj j o0 z
      have := st.le.1 _ _ y1
      rw [q2] at this
      obtain rfl := Option.some.inj this
      exact o.off j o0 sj z y1⟩
  refine ⟨rel, Step.trans r.goes g r.step st, r.goes.trans g, fun id hid => ?_, fun j hj => ?_, r.bar, r.base, fun x hx => ?_, fun y hy => ?_, fun a b s s' ha hb q1 q2 q3 => ?_, r.nodup⟩
  · have := g.nx
    rw [st.dom id (by omega)]
    exact r.free id (by omega)
  · have := g.ne
    rw [st.dome j (by omega)]
    exact r.freee j (by omega)
  · obtain ⟨s, o, q⟩ := r.ms x hx
    exact ⟨s, out _ _ o, own_heap q (keep _ _ o)⟩
  · obtain ⟨s, sm, ks, n, left, cnt, o, q1, q2, q3, q4, q5⟩ := r.it y hy
    obtain ⟨s2, o2, _⟩ := r.ms _ q2
    have e2 := o2.at_
    simp only at e2
    rw [q1] at e2
    obtain rfl := Option.some.inj e2
    exact ⟨s, sm, ks, n, left, cnt, out _ _ o, st.le.1 _ _ q1, q2, ranges_heap q3 (keep _ _ o2) (keep _ _ o), q4, fun z hz => (q5.1 z hz).heap (keep _ _ o2) (keep _ _ o), q5.2⟩
  · obtain ⟨t, o⟩ := r.out ha
    obtain ⟨u, o2⟩ := r.out hb
    have e1 := st.le.1 _ _ o.at_
    have e2 := st.le.1 _ _ o2.at_
    rw [q1] at e1
    rw [q2] at e2
    obtain rfl := Option.some.inj e1
    obtain rfl := Option.some.inj e2
    exact r.apart a b _ _ ha hb o.at_ o2.at_ q3
/-- One block beside the objects turns. -/
theorem RelM.turn (r : RelM P T S E σ h w) {w' : World} {b : Nat} (hb : S.w0.heap.size ≤ b) (hoff : ∀ j o sj, h.hp.get j = some o → E.at_ j = some sj → sj.blk ≠ b) (hos : w'.os = w.os) (ht : w'.tape = w.tape) (hout : w'.output = w.output) (hsz : w'.heap.size = w.heap.size)
    (hoth : ∀ k, k ≠ b → w'.heap[k]? = w.heap[k]?) {σ' : Sg}
    (hms : ∀ x ∈ σ'.ms, ∃ s, OutM S E h w x.1 s ∧ SetAt P T w' s.blk x.2)
    (hit : ∀ y ∈ σ'.it, ∃ s sm ks n left cnt, OutM S E h w y.1 s ∧ E.at_ y.2.1 = some sm ∧ (y.2.1, ks) ∈ σ'.ms ∧ w'.ranges (H := Unit) P T.kt (plainElem P T.et) sm.blk s.blk n (.map (toD ks)) left cnt ∧ (∀ kl, left kl = true ↔ ∃ z ∈ y.2.2.1, kl = .int .i64 z) ∧
      (∀ z, y.2.2.2 = some z → CurAt P w' sm.blk s.blk (.tuple #[.int .i64 z, .bool true])) ∧ s.base = 0 ∧ S.h0.nx ≤ y.1)
    (hids : ∀ a ∈ outIds σ', a ∈ outIds σ) (hnd : (σ'.ms.map Prod.fst).Nodup) : RelM P T S E σ' h w' := by
  have out : ∀ a s, OutM S E h w a s → OutM S E h w' a s := fun a s o => ⟨o.at_, o.lt, o.old, by rw [hsz]; exact o.size, o.off⟩
  have hW := r.rel.below.size
  have hW2 := r.step.size
  refine ⟨?_, ?_, r.goes, r.free, r.freee, r.bar, r.base, fun x hx => ?_, fun y hy => ?_, fun a b s s' ha hb q1 q2 q3 => r.apart a b s s' (hids a ha) (hids b hb) q1 q2 q3, hnd⟩
  · have hW0 := r.base
    refine ⟨⟨hos.trans r.rel.below.os, ht.trans r.rel.below.tape, hout.trans r.rel.below.output, by rw [hsz]; exact hW, fun k hk => ?_⟩, fun j o e => ?_, r.rel.inj⟩
    · exact (hoth k (by omega)).trans (r.rel.below.block k hk)
    · obtain ⟨sj, q1, q2, q3⟩ := r.rel.obj j o e
      exact ⟨sj, q1, q2, q3.of_heap (hoth _ (hoff j o sj e q1))⟩
  · refine ⟨r.step.le, r.step.dom, r.step.dome, by rw [hsz]; exact r.step.size, fun k hk hno => ?_, r.step.fresh⟩
    rw [hoth k (by omega)]
    exact r.step.touch k hk hno
  · obtain ⟨s, o, q⟩ := hms x hx
    exact ⟨s, out _ _ o, q⟩
  · obtain ⟨s, sm, ks, n, left, cnt, o, q⟩ := hit y hy
    exact ⟨s, sm, ks, n, left, cnt, out _ _ o, q⟩
end
end Go.Proofs.YtbkgehknhjkaoaaGreatDoor.Ev
namespace Go.Proofs.YtbkgehknhjkaoaaGreatDoor.Ev
open Go Go.RowKit Go.ChangeMaps

variable [GTab] {P : Program} {T : Ty} {S : St0} {E : Env} {σ : Sg} {h : HS} {w : World}
theorem Rel.newOut {W0 : World} {g : Hp} (r : Rel W0 E g w) {id : Nat} (hn : E.at_ id = none) (s : Spot) (ob : Obj) : Rel W0 (E.more id s) g { w with heap := w.heap.push ob } := by
  have hle := E.le_more id s hn
  have old : ∀ k, k < w.heap.size → (w.heap.push ob)[k]? = w.heap[k]? := fun k hk => by rw [Array.getElem?_push_lt hk, Array.getElem?_eq_getElem hk]
  have ne : ∀ j o, g j = some o → j ≠ id := fun j o e q => by
    obtain ⟨t, a, _⟩ := r.obj j o e
    rw [q, hn] at a
    cases a
  refine ⟨⟨r.below.os, r.below.tape, r.below.output, by simp only [Array.size_push]; have := r.below.size; omega, fun k hk => (old k (by have := r.below.size; omega)).trans (r.below.block k hk)⟩, fun j o e => ?_, fun j j' o o' s1 s2 e1 e2 a1 a2 hb => ?_⟩
  · obtain ⟨t, a, b, c⟩ := r.obj j o e
    exact ⟨t, hle.1 _ _ a, b, (c.of_heap (w' := { w with heap := w.heap.push ob }) (old _ c.lt)).le hle⟩
  · rw [E.more_ne _ _ j (ne j o e1)] at a1
    rw [E.more_ne _ _ j' (ne j' o' e2)] at a2
    exact r.inj j j' o o' s1 s2 e1 e2 a1 a2 hb
/-- A new block beside the objects. -/
theorem RelM.fresh (r : RelM P T S E σ h w) (ob : Obj) : RelM P T S (E.more h.nx ⟨w.heap.size, 0, 0⟩) σ ⟨h.hp, h.nx + 1, h.ne, h.bar⟩ (w.alloc ob) ∧ OutM S (E.more h.nx ⟨w.heap.size, 0, 0⟩) ⟨h.hp, h.nx + 1, h.ne, h.bar⟩ (w.alloc ob) h.nx ⟨w.heap.size, 0, 0⟩ ∧
    (∀ b t, b ∈ outIds σ → (E.more h.nx ⟨w.heap.size, 0, 0⟩).at_ b = some t → t.blk ≠ w.heap.size) ∧ h.nx ∉ outIds σ := by
  have hn := r.free h.nx (Nat.le_refl _)
  have st := Step.new h.bar h.hp.get E w h.nx h.ne 0 ob hn
  have r' := r.next (h' := ⟨h.hp, h.nx + 1, h.ne, h.bar⟩) (r.rel.newOut hn ⟨w.heap.size, 0, 0⟩ ob) st ⟨fun _ _ => rfl, rfl, Nat.le_succ _, Nat.le_refl _, fun id o e => .inr ⟨o, e⟩⟩
  have hno : ∀ b, b ∈ outIds σ → b ≠ h.nx := fun b hb q => by
    obtain ⟨s, o⟩ := r.out hb
    have := o.lt
    omega
  refine ⟨r', ⟨E.more_at _ _, Nat.lt_succ_self _, fun _ => r.step.size, by show w.heap.size < (w.heap.push ob).size; simp, fun j o sj e1 e2 => ?_⟩, fun b t hb e => ?_, fun hb => hno _ hb rfl⟩
  · obtain ⟨t, a, _, c⟩ := r.rel.obj j o e1
    have : j ≠ h.nx := fun q => by rw [q, hn] at a; cases a
    rw [E.more_ne _ _ j this, a] at e2
    obtain rfl := Option.some.inj e2
    have := c.lt
    show t.blk ≠ w.heap.size
    omega
  · obtain ⟨s, o⟩ := r.out hb
    rw [E.more_ne _ _ b (hno b hb), o.at_] at e
    obtain rfl := Option.some.inj e
    have := o.size
    omega
theorem RelM.addSet (r : RelM P T S E σ h w) {a : Nat} {s : Spot} (o : OutM S E h w a s) {ks : List Int} (hset : SetAt P T w s.blk ks) (hnew : ∀ b t, b ∈ outIds σ → E.at_ b = some t → t.blk ≠ s.blk) (ha : a ∉ outIds σ) : RelM P T S E ⟨(a, ks) :: σ.ms, σ.it⟩ h w := by
  have hids : ∀ b, b ∈ outIds ⟨(a, ks) :: σ.ms, σ.it⟩ → b = a ∨ b ∈ outIds σ := fun b hb => by
    simp only [outIds, List.map_cons, List.cons_append, List.mem_cons] at hb
    exact hb
  refine ⟨r.rel, r.step, r.goes, r.free, r.freee, r.bar, r.base, fun x hx => ?_, fun y hy => ?_, fun b c t u hb hc q1 q2 q3 => ?_, ?_⟩
  · rcases List.mem_cons.1 hx with e | e
    · rw [e]; exact ⟨s, o, hset⟩
    · exact r.ms x e
  · obtain ⟨s, sm, ks, n, left, cnt, o, q1, q2, q3⟩ := r.it y hy
    exact ⟨s, sm, ks, n, left, cnt, o, q1, List.mem_cons_of_mem _ q2, q3⟩
  · rcases hids b hb with e | e
    · rcases hids c hc with e' | e'
      · rw [e, e']
      · rw [e, o.at_] at q1
        obtain rfl := Option.some.inj q1
        exact absurd q3.symm (hnew c u e' q2)
    · rcases hids c hc with e' | e'
      · rw [e', o.at_] at q2
        obtain rfl := Option.some.inj q2
        exact absurd q3 (hnew b t e q1)
      · exact r.apart b c t u e e' q1 q2 q3
  · refine List.nodup_cons.2 ⟨fun q => ha (List.mem_append_left _ q), r.nodup⟩

noncomputable def findMs (l : List (Nat × List Int)) (id : Nat) (k : List Int → Bool) : Bool := List.rec false (fun x _ ih => Bool.rec ih (k x.2) (Nat.beq x.1 id)) l
theorem findMs_ok {l : List (Nat × List Int)} {id : Nat} {k : List Int → Bool} (h : findMs l id k = true) : ∃ ks, (id, ks) ∈ l ∧ k ks = true := by
  induction l with
  | nil => cases h
  | cons x l ih =>
    have h : (Bool.rec (findMs l id k) (k x.2) (Nat.beq x.1 id) : Bool) = true := h
    cases e : Nat.beq x.1 id with
    | false =>
      rw [e] at h
      obtain ⟨ks, a, b⟩ := ih h
      exact ⟨ks, List.mem_cons_of_mem _ a, b⟩
    | true =>
      rw [e] at h
      exact ⟨x.2, by rw [← Nat.eq_of_beq_eq_true e]; exact List.mem_cons_self, h⟩
noncomputable def setMs (l : List (Nat × List Int)) (id : Nat) (ks : List Int) : List (Nat × List Int) := List.rec [] (fun x r ih => Bool.rec (x :: ih) ((id, ks) :: r) (Nat.beq x.1 id)) l
theorem setMs_fst (l : List (Nat × List Int)) (id : Nat) (ks : List Int) : (setMs l id ks).map Prod.fst = l.map Prod.fst := by
  induction l with
  | nil => rfl
  | cons x l ih =>
    show ((Bool.rec (x :: setMs l id ks) ((id, ks) :: l) (Nat.beq x.1 id) : List (Nat × List Int))).map Prod.fst = _
    cases e : Nat.beq x.1 id with
    | false => simp [ih]
    | true => simp [Nat.eq_of_beq_eq_true e]
theorem setMs_mem {l : List (Nat × List Int)} (hl : (l.map Prod.fst).Nodup) {id : Nat} {ks ks0 : List Int} (h0 : (id, ks0) ∈ l) {x : Nat × List Int} (hx : x ∈ setMs l id ks) : (x ∈ l ∧ x.1 ≠ id) ∨ x = (id, ks) := by
  induction l with
  | nil => cases h0
  | cons y l ih =>
    have hx : x ∈ (Bool.rec (y :: setMs l id ks) ((id, ks) :: l) (Nat.beq y.1 id) : List (Nat × List Int)) := hx
    have hl : (y.1 :: l.map Prod.fst).Nodup := hl
    obtain ⟨n1, n2⟩ := List.nodup_cons.1 hl
    cases e : Nat.beq y.1 id with
    | false =>
      rw [e] at hx
      have hne : y.1 ≠ id := fun q => by rw [q, Nat.beq_refl] at e; cases e
      rcases List.mem_cons.1 hx with q | q
      · rw [q]; exact .inl ⟨List.mem_cons_self, hne⟩
      · have h0 : (id, ks0) ∈ l := by
          rcases List.mem_cons.1 h0 with z | z
          · exact absurd (by rw [← z]) hne
          · exact z
        rcases ih n2 h0 q with ⟨a, b⟩ | a
        · exact .inl ⟨List.mem_cons_of_mem _ a, b⟩
        · exact .inr a
    | true =>
      rw [e] at hx
      have e := Nat.eq_of_beq_eq_true e
      rcases List.mem_cons.1 hx with q | q
      · exact .inr q
      · refine .inl ⟨List.mem_cons_of_mem _ q, fun z => n1 ?_⟩
        rw [e, ← z]
        exact List.mem_map.2 ⟨x, q, rfl⟩
theorem setMs_self {l : List (Nat × List Int)} {id : Nat} {ks ks0 : List Int} (h0 : (id, ks0) ∈ l) : (id, ks) ∈ setMs l id ks := by
  induction l with
  | nil => cases h0
  | cons y l ih =>
    show (id, ks) ∈ (Bool.rec (y :: setMs l id ks) ((id, ks) :: l) (Nat.beq y.1 id) : List (Nat × List Int))
    cases e : Nat.beq y.1 id with
    | true => exact List.mem_cons_self
    | false =>
      refine List.mem_cons_of_mem _ (ih ?_)
      rcases List.mem_cons.1 h0 with z | z
      · rw [← z, Nat.beq_refl] at e; cases e
      · exact z
theorem setMs_other {l : List (Nat × List Int)} {id m : Nat} {ks ks1 : List Int} (h1 : (m, ks1) ∈ l) (hne : m ≠ id) : (m, ks1) ∈ setMs l id ks := by
  induction l with
  | nil => cases h1
  | cons y l ih =>
    show (m, ks1) ∈ (Bool.rec (y :: setMs l id ks) ((id, ks) :: l) (Nat.beq y.1 id) : List (Nat × List Int))
    cases e : Nat.beq y.1 id with
    | true =>
      rcases List.mem_cons.1 h1 with z | z
      · exact absurd (by rw [← Nat.eq_of_beq_eq_true e, ← z]) hne
      · exact List.mem_cons_of_mem _ z
    | false =>
      rcases List.mem_cons.1 h1 with z | z
      · rw [z]; exact List.mem_cons_self
      · exact List.mem_cons_of_mem _ (ih z)
/-- One set turns. -/
theorem RelM.setTurn (r : RelM P T S E σ h w) {id : Nat} (hnb : S.h0.nx ≤ id) {ks ks' : List Int} (hid : (id, ks) ∈ σ.ms) (hit : ∀ y ∈ σ.it, y.2.1 ≠ id) {s : Spot} (hs : E.at_ id = some s) {w' : World} (ht : w.mapTurned w' s.blk) (hset : SetAt P T w' s.blk ks') : RelM P T S E ⟨setMs σ.ms id ks', σ.it⟩ h w' := by
  obtain ⟨s', o, _⟩ := r.ms _ hid
  have e := o.at_
  simp only at e
  rw [hs] at e
  obtain rfl := Option.some.inj e
  obtain ⟨es, clock, es', clock', hb, rfl⟩ := ht
  have hids : outIds ⟨setMs σ.ms id ks', σ.it⟩ = outIds σ := by simp [outIds, setMs_fst]
  have hoth : ∀ k, k ≠ s.blk → (setBlock w s.blk (.map es' clock')).heap[k]? = w.heap[k]? := fun k hk => by simp [setBlock, Array.getElem?_setIfInBounds, Ne.symm hk]
  refine r.turn (w' := setBlock w s.blk (.map es' clock')) (o.old hnb) (fun j ob sj q1 q2 => o.off j ob sj q1 q2) rfl rfl rfl (by simp [setBlock]) hoth (fun x hx => ?_) (fun y hy => ?_) (fun a ha => by rw [hids] at ha; exact ha) (by show ((setMs σ.ms id ks').map Prod.fst).Nodup; rw [setMs_fst]; exact r.nodup)
  · rcases setMs_mem r.nodup hid hx with ⟨q1, q2⟩ | q
    · obtain ⟨t, o2, st⟩ := r.ms x q1
      refine ⟨t, o2, own_heap st (hoth _ fun eq => q2 ?_)⟩
      exact r.apart _ _ _ _ (mem_ms q1) (mem_ms hid) o2.at_ hs eq
    · subst q
      exact ⟨s, o, hset⟩
  · obtain ⟨t, sm, ks1, n, left, cnt, o1, q1, q2, q3, q4, q5⟩ := r.it y hy
    have n1 : t.blk ≠ s.blk := fun eq => by
      have e1 := r.apart _ _ _ _ (mem_it hy) (mem_ms hid) o1.at_ hs eq
      have hh := ranges_heap q3 rfl rfl
      obtain ⟨_, _, _, _, _, _, _, _, _, hr, _⟩ := hh
      rw [eq, hb] at hr
      cases hr
    have n2 : sm.blk ≠ s.blk := fun eq => hit y hy (r.apart _ _ _ _ (mem_ms q2) (mem_ms hid) q1 hs eq)
    exact ⟨t, sm, ks1, n, left, cnt, o1, q1, setMs_other q2 (hit y hy), ranges_heap q3 (hoth _ n2) (hoth _ n1), q4, fun z hz => (q5.1 z hz).heap (hoth _ n2) (hoth _ n1), q5.2⟩
theorem keyed (hT : TyOk P T) : Maps.Keyed P T.kt := Maps.int_keyed hT.kt
theorem atKey_toD (z : Int) (zd : DataW Unit) : ∀ ks : List Int, (DataW.map (toD ks)).atKey (.int .i64 z) zd = if z ∈ ks then .lit (.bool true) else zd
  | [] => by simp [DataW.atKey, toD]
  | y :: r => by
    have ih := atKey_toD z zd r
    unfold DataW.atKey toD at ih ⊢
    by_cases hy : y = z
    · simp [hy, Lit.sameKey]
    · have : z ≠ y := fun q => hy q.symm
      simp only [List.map_cons, List.find?_cons, Lit.sameKey, true_and, decide_eq_true_eq, hy, decide_false]
      simp only [List.mem_cons, this, false_or]
      exact ih
/-- The step. -/
theorem RelM.step1 (hT : TyOk P T) (r : RelM P T S E σ h w) {i m : Nat} {rem : List Int} {cur : Option Int} (hσ : σ.it = [(i, m, rem, cur)]) {s : Spot} (hs : E.at_ i = some s) (ty : TypeId) :
    (rem = [] ∧ (Instr.next (.pointer (some ⟨s.blk, 0, none⟩)) false ty).run P w = .ok (.tuple #[.bool false]) w) ∨
    ∃ z ∈ rem, ∃ w', (Instr.next (.pointer (some ⟨s.blk, 0, none⟩)) false ty).run P w = .ok (.tuple #[.bool true, .int .i64 z, .bool true]) w' ∧ RelM P T S E ⟨σ.ms, [(i, m, delI z rem, some z)]⟩ h w' := by
  have hy : (i, m, rem, cur) ∈ σ.it := by rw [hσ]; exact List.mem_cons_self
  obtain ⟨t, sm, ks, n, left, cnt, o, q1, q2, q3, q4, q5⟩ := r.it _ hy
  have e := o.at_
  simp only at e
  rw [hs] at e
  obtain rfl := Option.some.inj e
  rcases q3.next (keyed hT) ty with ⟨_, hl, hrun⟩ | ⟨key, v, kl, y, w', cnt', hk, hl, hv, hat, hrun, hr', _, hg, hsz, hent⟩
  · refine .inl ⟨?_, hrun⟩
    cases rem with
    | nil => rfl
    | cons z rem =>
      have := (q4 (.int .i64 z)).2 ⟨z, List.mem_cons_self, rfl⟩
      rw [hl] at this
      cases this
  · obtain ⟨z, hz, rfl⟩ := (q4 kl).1 hl
    have hkey : key = .int .i64 z := by
      cases key <;> simp [keyOf, hT.kt, mapKey] at hk
      rename_i kd a
      obtain ⟨⟨e0, _⟩, e2⟩ := hk
      rw [e0, e2]
    have hy1 : y.1 = .lit (.bool true) := by
      have h1 := hat (.lit (.bool true))
      have h2 := hat (.lit (.bool false))
      rw [atKey_toD] at h1 h2
      split at h1
      · exact h1.symm
      · rename_i hn
        rw [if_neg hn] at h2
        rw [← h1] at h2
        cases h2
    have hv1 : v = .bool true := by
      unfold plainElem at hv
      rw [hT.et] at hv
      cases v <;> simp at hv
      rename_i x
      rw [← hv] at hy1
      simp only [DataW.lit.injEq, Lit.bool.injEq] at hy1
      rw [hy1]
    subst hkey
    subst hv1
    refine .inr ⟨z, hz, w', hrun, ?_⟩
    have hoth : ∀ k, k ≠ s.blk → w'.heap[k]? = w.heap[k]? := fun k hk => by
      by_cases hlt : k < w.heap.size
      · exact hg.block k hlt (fun e => hk (Option.some.inj e))
      · rw [Array.getElem?_eq_none (by omega), Array.getElem?_eq_none (by omega)]
    refine r.turn (o.old q5.2.2) (fun j ob sj z1 z2 => o.off j ob sj z1 z2) hg.os hg.tape hg.output hsz hoth (fun x hx => ?_) (fun y hy => ?_) (fun a ha => ?_) r.nodup
    · obtain ⟨u, o2, st⟩ := r.ms x hx
      refine ⟨u, o2, own_heap st (hoth _ fun eq => ?_)⟩
      obtain ⟨_, _, hm, _⟩ := st
      obtain ⟨_, _, _, _, _, _, _, _, _, hr, _⟩ := q3
      rw [eq, hr] at hm
      cases hm
    · obtain rfl := List.mem_singleton.1 hy
      refine ⟨s, sm, ks, n, _, cnt', o, q1, q2, hr', fun kl => ?_, fun z' hz' => ?_, q5.2⟩
      · simp only [Bool.and_eq_true, q4]
        constructor
        · rintro ⟨⟨x, hx, rfl⟩, hne⟩
          refine ⟨x, mem_delI.2 ⟨hx, fun e => ?_⟩, rfl⟩
          rw [e] at hne
          simp [Lit.sameKey] at hne
        · rintro ⟨x, hx, rfl⟩
          obtain ⟨a, b⟩ := mem_delI.1 hx
          refine ⟨⟨x, a, rfl⟩, ?_⟩
          simp [Lit.sameKey, b]
      · have hz' : some z = some z' := hz'
        obtain rfl := Option.some.inj hz'
        obtain ⟨es, clock, since, seen, c0, z1, _, _, _, z2, _⟩ := hr'
        exact ⟨es, clock, since, seen, c0, z1, z2, hent⟩
    · simp only [outIds] at ha ⊢
      rw [hσ]
      exact ha
end Go.Proofs.YtbkgehknhjkaoaaGreatDoor.Ev
namespace Go.Proofs.YtbkgehknhjkaoaaGreatDoor.Ev
open Go Go.RowKit Go.ChangeMaps

variable [GTab] {P : Program} {T : Ty} {S : St0} [GOk S.W0] {N : Nat}
/-- The frame says of the slots of Kd what they hold. -/
def FrA (E : Env) (Kd : Nat) (fr : Tr SV) (N : Nat) (a : Act) : Prop := ∃ frT, Ag Kd fr frT ∧ FrOk E frT N a
theorem FrA.opd {E : Env} {Kd : Nat} {fr : Tr SV} {a : Act} (f : FrA E Kd fr N a) {x : Operand} (hr : resolved Kd [] [] x = true) : val E (opd fr x) = some (a.eval x) := by
  obtain ⟨frT, ag, fo⟩ := f
  rw [opd_ag ag hr]
  exact opd_ok fo x
theorem FrA.le {E E' : Env} {Kd : Nat} {fr : Tr SV} {a : Act} (f : FrA E Kd fr N a) (h : E.le E') : FrA E' Kd fr N a := by
  obtain ⟨frT, ag, fo⟩ := f
  exact ⟨frT, ag, fo.le h⟩
noncomputable def orBit (Kd : Nat) (d : Option Tmp) : Nat := match d with | some t => Nat.lor Kd (Nat.shiftLeft 1 t) | none => Kd
theorem FrA.putD {E : Env} {Kd : Nat} {fr : Tr SV} {a : Act} (f : FrA E Kd fr N a) {dst : Option Tmp} {sv : SV} {v : Value} (hd : inN N dst) (hv : val E sv = some v) : FrA E (orBit Kd dst) (putD dst sv fr) N (a.put dst v) := by
  obtain ⟨frT, ag, fo⟩ := f
  refine ⟨Ev.putD dst sv frT, fun t ht => ?_, fo.putD hd hv⟩
  cases dst with
  | none => exact ag t ht
  | some u =>
    simp only [Ev.opd, Ev.putD]
    rw [Tr.get_put, Tr.get_put]
    by_cases e : t = u
    · rw [if_pos e, if_pos e]
    · rw [if_neg e, if_neg e]
      refine ag t ?_
      have ht : Nat.testBit (Kd ||| (1 <<< u)) t = true := ht
      rw [Nat.testBit_or, Bool.or_eq_true] at ht
      rcases ht with q | q
      · exact q
      · rw [Nat.testBit_shiftLeft] at q
        simp only [Bool.and_eq_true, decide_eq_true_eq] at q
        obtain ⟨q1, q2⟩ := q
        rcases Nat.lt_or_ge 0 (t - u) with z | z
        · rw [show t - u = (t - u - 1) + 1 by omega, Nat.testBit_succ] at q2
          simp at q2
        · omega
abbrev KS := SV → HS → Sg → Bool
def OpW (P : Program) (T : Ty) (S : St0) (N : Nat) (o : Oper) (Kd : Nat) (fr : Tr SV) (h : HS) (σ : Sg) (k : KS) : Prop :=
  ∀ ro E a w, RelM P T S E σ h w → FrA E Kd fr N a → ∀ (K : Act → World → Prop) (Q : Exit → Act → World → Prop),
    (∀ sv h' σ' E' v w', k sv h' σ' = true → val E' sv = some v → E.le E' → RelM P T S E' σ' h' w' → K (a.put o.dst v) w') → o.wpIn (Fw ro) 0 P a w K Q
theorem all_res {Kd : Nat} {o : Oper} (h : allRes Kd [] [] o.op.operands.toList = true) {x : Operand} (hx : x ∈ o.op.operands) : resolved Kd [] [] x = true := allRes_ok h x (by simpa using hx)
theorem xGen {call : CallK} (hc : CallSound P S.W0 call) {o : Oper} {Kd : Nat} {fr : Tr SV} {h : HS} {σ : Sg} {k : KS} (hres : allRes Kd [] [] o.op.operands.toList = true) (hk : opK P call o fr h (fun sv h' => k sv h' σ) = true) : OpW P T S N o Kd fr h σ k := by
  obtain ⟨sv, h', k1, g, ok⟩ := opK_ok hc hk
  intro ro E a w r f K Q hK
  obtain ⟨frT, ag, fo⟩ := f
  exact ok ro frT E N a w (fun x hx => opd_ag ag (all_res hres hx)) r.rel ⟨fun id q _ => r.free id q, fun j q _ => r.freee j q⟩ fo K Q fun E' v w' e1 r' st => hK sv h' σ E' v w' k1 e1 st.le (r.next r' st g)
section
variable {o : Oper} {Kd : Nat} {fr : Tr SV} {h : HS} {σ : Sg} {k : KS}
theorem xMake (hT : TyOk P T) (ho : o.op = .makeMap T.mt none) (hk : k (.map h.nx) ⟨h.hp, h.nx + 1, h.ne, h.bar⟩ ⟨(h.nx, []) :: σ.ms, σ.it⟩ = true) : OpW P T S N o Kd fr h σ k := by
  intro ro E a w r f K Q hK
  refine wpIn_of (by rw [ho]; intro c hc; cases hc) ?_
  have e : (execOp a.eval o).run P w = .ok (.value (.map (some w.heap.size))) (w.alloc (.map #[] 0)) := by
    unfold execOp
    rw [ho]
    rfl
  rw [e, Oper.uponIn_value]
  obtain ⟨r1, o1, o2, o3⟩ := r.fresh (.map #[] 0)
  have hset : SetAt P T (w.alloc (.map #[] 0)) w.heap.size [] := World.ownsMap_made w P T.kt _
  exact hK _ _ _ _ _ _ hk (by simp [val, E.more_at]) (E.le_more _ _ (r.free _ (Nat.le_refl _))) (r1.addSet o1 hset o2 o3)
noncomputable def notIt (l : List (Nat × Nat × List Int × Option Int)) (id : Nat) : Bool := List.rec true (fun y _ ih => Bool.rec ih false (Nat.beq y.2.1 id)) l
theorem notIt_ok {l : List (Nat × Nat × List Int × Option Int)} {id : Nat} (h : notIt l id = true) : ∀ y ∈ l, y.2.1 ≠ id := by
  induction l with
  | nil => intro y hy; cases hy
  | cons x l ih =>
    have h : (Bool.rec (notIt l id) false (Nat.beq x.2.1 id) : Bool) = true := h
    cases e : Nat.beq x.2.1 id with
    | true => rw [e] at h; cases h
    | false =>
      rw [e] at h
      intro y hy
      rcases List.mem_cons.1 hy with q | q
      · rw [q]; intro z; rw [z, Nat.beq_refl] at e; cases e
      · exact ih h y q
theorem len_max {n : Nat} (h : Nat.blt n 1000 = true) : n < maxLen := Nat.lt_trans (Nat.le_of_ble_eq_true h) (by unfold maxLen; omega)
noncomputable def xUpdK (nb : Nat) (m x v : Operand) (fr : Tr SV) (h : HS) (σ : Sg) (k : KS) : Bool := match opd fr m, opd fr x, opd fr v with
  | .map id, .int .i64 z, .bool true => findMs σ.ms id fun ks => bif (notIt σ.it id && Nat.ble nb id) && ((Lit.int .i64 z).wf && Nat.blt ks.length 1000) then k (.lit undef) h ⟨setMs σ.ms id (insI z (delI z ks)), σ.it⟩ else false
  | _, _, _ => false
theorem xUpd (hT : TyOk P T) {nb : Nat} (hnb : S.h0.nx = nb) {m x v : Operand} (ho : o.op = .mapUpdate T.mt m x v) (hres : allRes Kd [] [] o.op.operands.toList = true) (hk : xUpdK nb m x v fr h σ k = true) : OpW P T S N o Kd fr h σ k := by
  have hm := all_res hres (x := m) (by simp [ho, Op.operands])
  have hx := all_res hres (x := x) (by simp [ho, Op.operands])
  have hv := all_res hres (x := v) (by simp [ho, Op.operands])
  unfold xUpdK at hk
  split at hk
  case h_2 => cases hk
  rename_i id z em ex ev
  obtain ⟨ks, q1, hk⟩ := findMs_ok hk
  obtain ⟨q2, hk⟩ := bif_true hk
  simp only [Bool.and_eq_true] at q2
  obtain ⟨⟨q2, qb⟩, q3, q4⟩ := q2
  have qb := Nat.le_of_ble_eq_true qb
  intro ro E a w r f K Q hK
  obtain ⟨s, o1, st⟩ := r.ms _ q1
  have e1 := f.opd hm
  have e2 := f.opd hx
  have e3 := f.opd hv
  rw [em] at e1
  rw [ex] at e2
  rw [ev] at e3
  have o1a := o1.at_
  simp only at o1a
  simp only [val, o1a, Option.map_some, Option.some.injEq] at e1 e2 e3
  obtain ⟨w', hrun, hown, ht⟩ := World.ownsMap.store st (keyed hT) hT.mt (len_max q4) (Maps.keyOf_int_mk hT.kt q3) (plainElem_bool (H := Unit) hT.et true)
  rw [put_toD] at hown
  refine wpIn_of (by rw [ho]; intro c hc; cases hc) ?_
  have e : (execOp a.eval o).run P w = .ok .skip w' := by
    unfold execOp
    rw [ho]
    simp only [← e1, ← e2, ← e3, Sem.run_bind, hrun, Result.andThen, Sem.run_pure]
  rw [e, Oper.uponIn_skip]
  exact hK _ _ _ _ _ _ hk rfl E.le_refl (r.setTurn (by rw [hnb]; exact qb) q1 (notIt_ok q2) o1a ht (own_tight hown))
noncomputable def xDelK (nb : Nat) (m x : Operand) (fr : Tr SV) (h : HS) (σ : Sg) (k : KS) : Bool := match opd fr m, opd fr x with
  | .map id, .int .i64 z => findMs σ.ms id fun ks => bif (notIt σ.it id && Nat.ble nb id) && (Lit.int .i64 z).wf then k (.tup []) h ⟨setMs σ.ms id (delI z ks), σ.it⟩ else false
  | _, _ => false
theorem xDel (hT : TyOk P T) {nb : Nat} (hnb : S.h0.nx = nb) {m x : Operand} (ho : o.op = .call { callee := .builtin .delete, args := #[m, x], argTypes := #[T.mt, T.kt] }) (hres : allRes Kd [] [] o.op.operands.toList = true) (hk : xDelK nb m x fr h σ k = true) : OpW P T S N o Kd fr h σ k := by
  have hm := all_res hres (x := m) (by simp [ho, Op.operands, Call.operands])
  have hx := all_res hres (x := x) (by simp [ho, Op.operands, Call.operands])
  unfold xDelK at hk
  split at hk
  case h_2 => cases hk
  rename_i id z em ex
  obtain ⟨ks, q1, hk⟩ := findMs_ok hk
  obtain ⟨q2, hk⟩ := bif_true hk
  simp only [Bool.and_eq_true] at q2
  obtain ⟨⟨q2, qb⟩, q3⟩ := q2
  have qb := Nat.le_of_ble_eq_true qb
  intro ro E a w r f K Q hK
  obtain ⟨s, o1, st⟩ := r.ms _ q1
  have e1 := f.opd hm
  have e2 := f.opd hx
  rw [em] at e1
  rw [ex] at e2
  have o1a := o1.at_
  simp only at o1a
  simp only [val, o1a, Option.map_some, Option.some.injEq] at e1 e2
  obtain ⟨w', hrun, hown, ht⟩ := World.ownsMap.drop st (keyed hT) hT.mt (Maps.keyOf_int_mk hT.kt q3) o.type
  rw [del_toD] at hown
  refine wpIn_of (by rw [ho]; intro c hc; cases hc) ?_
  have e : (execOp a.eval o).run P w = .ok (.value (.tuple #[])) w' := by
    unfold execOp
    rw [ho]
    simp only [resolve, invoke, builtin, List.map_toArray, List.map_cons, List.map_nil, Sem.run_bind, Sem.run_pure, Result.andThen, ← e1, ← e2, hrun]
  rw [e, Oper.uponIn_value]
  exact hK _ _ _ _ _ _ hk rfl E.le_refl (r.setTurn (by rw [hnb]; exact qb) q1 (notIt_ok q2) o1a ht (own_tight hown))
noncomputable def xLenK (m : Operand) (fr : Tr SV) (h : HS) (σ : Sg) (k : KS) : Bool := match opd fr m with
  | .map id => findMs σ.ms id fun ks => natK ks.length fun n => k (.int .i64 (.ofNat n)) h σ
  | _ => false
theorem xLen (hT : TyOk P T) {m : Operand} (ho : o.op = .call { callee := .builtin .len, args := #[m], argTypes := #[T.mt] }) (hres : allRes Kd [] [] o.op.operands.toList = true) (hk : xLenK m fr h σ k = true) : OpW P T S N o Kd fr h σ k := by
  have hm := all_res hres (x := m) (by simp [ho, Op.operands, Call.operands])
  unfold xLenK at hk
  split at hk
  case h_2 => cases hk
  rename_i id em
  obtain ⟨ks, q1, hk⟩ := findMs_ok hk
  rw [natK_eq] at hk
  intro ro E a w r f K Q hK
  obtain ⟨s, o1, st⟩ := r.ms _ q1
  have e1 := f.opd hm
  rw [em] at e1
  have o1a := o1.at_
  simp only at o1a
  simp only [val, o1a, Option.map_some, Option.some.injEq] at e1
  have hrun := World.ownsMap.len st hT.mt o.type
  refine wpIn_of (by rw [ho]; intro c hc; cases hc) ?_
  have e : (execOp a.eval o).run P w = .ok (.value (.int .i64 (.ofNat ks.length))) w := by
    unfold execOp
    rw [ho]
    simp only [resolve, invoke, builtin, List.map_toArray, List.map_cons, List.map_nil, Sem.run_bind, Sem.run_pure, Result.andThen, ← e1, hrun, Maps.size, length_toD]
    rfl
  rw [e, Oper.uponIn_value]
  exact hK _ _ _ _ _ _ hk rfl E.le_refl r
noncomputable def xRangeK (m : Operand) (fr : Tr SV) (h : HS) (σ : Sg) (k : KS) : Bool := match opd fr m, σ.it with
  | .map id, [] => findMs σ.ms id fun ks => k (.ptr h.nx 0) ⟨h.hp, h.nx + 1, h.ne, h.bar⟩ ⟨σ.ms, [(h.nx, id, ks, none)]⟩
  | _, _ => false
theorem xRange (hT : TyOk P T) {m : Operand} (ho : o.op = .range T.mt m) (hres : allRes Kd [] [] o.op.operands.toList = true) (hk : xRangeK m fr h σ k = true) : OpW P T S N o Kd fr h σ k := by
  have hm := all_res hres (x := m) (by simp [ho, Op.operands])
  unfold xRangeK at hk
  split at hk
  case h_2 => cases hk
  rename_i id em hσ
  obtain ⟨ks, q1, hk⟩ := findMs_ok hk
  intro ro E a w r f K Q hK
  obtain ⟨s, o1, st⟩ := r.ms _ q1
  have e1 := f.opd hm
  rw [em] at e1
  have o1a := o1.at_
  simp only at o1a
  simp only [val, o1a, Option.map_some, Option.some.injEq] at e1
  have st0 := st
  obtain ⟨es, clock, hb, F, hsz, hD⟩ := st0
  have hrun := run_range_map (P := P) w T.mt T.kt T.et s.blk es clock hT.mt hb
  obtain ⟨w2, hrun2, hr2, _, _⟩ := World.ownsMap.range st (keyed hT) hT.mt
  rw [hrun] at hrun2
  simp only [Result.ok.injEq, true_and] at hrun2
  subst hrun2
  refine wpIn_of (by rw [ho]; intro c hc; cases hc) ?_
  have e : (execOp a.eval o).run P w = .ok (.value (.pointer (some ⟨w.heap.size, 0, none⟩))) (w.alloc (.mapIter (some s.blk) clock #[] clock)) := by
    unfold execOp
    rw [ho]
    simp only [← e1, Sem.run_bind, hrun, Result.andThen, Sem.run_pure]
  rw [e, Oper.uponIn_value]
  obtain ⟨r1, p1, p2, p3⟩ := r.fresh (.mapIter (some s.blk) clock #[] clock)
  have hle := E.le_more h.nx ⟨w.heap.size, 0, 0⟩ (r.free _ (Nat.le_refl _))
  refine hK _ _ _ _ _ _ hk (by simp [val, E.more_at]) hle ?_
  refine ⟨r1.rel, r1.step, r1.goes, r1.free, r1.freee, r1.bar, r1.base, r1.ms, fun y hy => ?_, fun b c t u hb hc z1 z2 z3 => ?_, r1.nodup⟩
  · obtain rfl := List.mem_singleton.1 hy
    refine ⟨_, s, ks, _, _, _, p1, hle.1 _ _ o1a, q1, hr2, fun kl => ?_, fun z hz => (by cases hz), rfl, r.goes.nx⟩
    show Maps.has _ kl = true ↔ _
    rw [Maps.has_eq, List.any_eq_true]
    constructor
    · rintro ⟨p, hp, hs⟩
      obtain ⟨z, hz, rfl⟩ := List.mem_map.1 hp
      exact ⟨z, hz, (WideAt.sameKey_eq hs).symm⟩
    · rintro ⟨z, hz, rfl⟩
      exact ⟨_, List.mem_map.2 ⟨z, hz, rfl⟩, by simp [Lit.sameKey]⟩
  · have hids : ∀ x, x ∈ outIds ⟨σ.ms, [(h.nx, id, ks, none)]⟩ → x = h.nx ∨ x ∈ outIds σ := fun x hx => by
      simp only [outIds, List.map_cons, List.map_nil, List.mem_append, List.mem_singleton] at hx ⊢
      rcases hx with q | q
      · exact .inr (.inl q)
      · exact .inl q
    rcases hids b hb with e | e
    · rcases hids c hc with e' | e'
      · rw [e, e']
      · rw [e, E.more_at] at z1
        obtain rfl := Option.some.inj z1
        exact absurd z3.symm (p2 c u e' z2)
    · rcases hids c hc with e' | e'
      · rw [e', E.more_at] at z2
        obtain rfl := Option.some.inj z2
        exact absurd z3 (p2 b t e z1)
      · exact r1.apart b c t u e e' z1 z2 z3
noncomputable def allZ (l : List Int) (f : Int → Bool) : Bool := List.rec true (fun z _ ih => Bool.rec false ih (f z)) l
theorem allZ_ok {l : List Int} {f : Int → Bool} (h : allZ l f = true) : ∀ z ∈ l, f z = true := by
  induction l with
  | nil => intro z hz; cases hz
  | cons y l ih =>
    have h : (Bool.rec false (allZ l f) (f y) : Bool) = true := h
    obtain ⟨h1, h2⟩ := rec_true h
    intro z hz
    rcases List.mem_cons.1 hz with q | q
    · rw [q]; exact h1
    · exact ih h2 z q
noncomputable def xNextK (det : Bool) (x : Operand) (fr : Tr SV) (h : HS) (σ : Sg) (k : KS) : Bool := match opd fr x, σ.it with
  | .ptr i 0, [(j, m, rem, _)] => bif Nat.beq i j then (match rem with
    | [] => k (.tup [.bool false]) h ⟨σ.ms, []⟩
    | z :: r => bif det then k (.tup [.bool true, .int .i64 z, .bool true]) h ⟨σ.ms, [(j, m, r, some z)]⟩ else
        allZ (z :: r) fun z => k (.tup [.bool true, .int .i64 z, .bool true]) h ⟨σ.ms, [(j, m, delI z rem, some z)]⟩) else false
  | _, _ => false
theorem xNext (hT : TyOk P T) {x : Operand} (ho : o.op = .next x false) (hres : allRes Kd [] [] o.op.operands.toList = true) (hk : xNextK false x fr h σ k = true) : OpW P T S N o Kd fr h σ k := by
  have hx := all_res hres (x := x) (by simp [ho, Op.operands])
  unfold xNextK at hk
  split at hk
  case h_2 => cases hk
  rename_i i j m rem cur ex hσ
  obtain ⟨hij, hk2⟩ := bif_true hk
  clear hk
  obtain rfl := Nat.eq_of_beq_eq_true hij
  intro ro E a w r f K Q hK
  have hy : (i, m, rem, cur) ∈ σ.it := by rw [hσ]; exact List.mem_cons_self
  obtain ⟨s, sm, ks, n, left, cnt, o1, _, _, _, _, _, hbase, _⟩ := r.it _ hy
  have o1a := o1.at_
  simp only at o1a
  have e1 := f.opd hx
  rw [ex] at e1
  simp only [val, o1a, Option.map_some, Option.some.injEq, hbase, Nat.zero_add] at e1
  refine wpIn_of (by rw [ho]; intro c hc; cases hc) ?_
  rcases r.step1 hT hσ o1a o.type with ⟨rfl, hrun⟩ | ⟨z, hz, w', hrun, r'⟩
  · have e : (execOp a.eval o).run P w = .ok (.value (.tuple #[.bool false])) w := by
      unfold execOp
      rw [ho]
      simp only [← e1, Sem.run_bind, hrun, Result.andThen, Sem.run_pure]
    rw [e, Oper.uponIn_value]
    refine hK (.tup [.bool false]) h ⟨σ.ms, []⟩ _ _ _ hk2 rfl E.le_refl ?_
    exact ⟨r.rel, r.step, r.goes, r.free, r.freee, r.bar, r.base, r.ms, fun y hy => (by cases hy), fun b c t u hb hc => r.apart b c t u (by simp only [outIds, List.map_nil, List.append_nil] at hb; exact List.mem_append_left _ hb) (by simp only [outIds, List.map_nil, List.append_nil] at hc; exact List.mem_append_left _ hc), r.nodup⟩
  · have e : (execOp a.eval o).run P w = .ok (.value (.tuple #[.bool true, .int .i64 z, .bool true])) w' := by
      unfold execOp
      rw [ho]
      simp only [← e1, Sem.run_bind, hrun, Result.andThen, Sem.run_pure]
    rw [e, Oper.uponIn_value]
    cases rem with
    | nil => cases hz
    | cons y l =>
      have hk3 : allZ (y :: l) (fun z => k (.tup [.bool true, .int .i64 z, .bool true]) h ⟨σ.ms, [(i, m, delI z (y :: l), some z)]⟩) = true := hk2
      exact hK (.tup [.bool true, .int .i64 z, .bool true]) h _ _ _ _ (allZ_ok hk3 z hz) (by simp [val, vals]) E.le_refl r'
noncomputable def xEntryK (x : Operand) (fr : Tr SV) (h : HS) (σ : Sg) (k : KS) : Bool := match opd fr x, σ.it with
  | .ptr i 0, [(j, _, _, some z)] => bif Nat.beq i j then k (.tup [.int .i64 z, .bool true]) h σ else false
  | _, _ => false
theorem xEntry {x : Operand} (ho : o.op = .entry x) (hres : allRes Kd [] [] o.op.operands.toList = true) (hk : xEntryK x fr h σ k = true) : OpW P T S N o Kd fr h σ k := by
  have hx := all_res hres (x := x) (by simp [ho, Op.operands])
  unfold xEntryK at hk
  split at hk
  case h_2 => cases hk
  rename_i i j m rem z ex hσ
  obtain ⟨hij, hk2⟩ := bif_true hk
  clear hk
  obtain rfl := Nat.eq_of_beq_eq_true hij
  intro ro E a w r f K Q hK
  have hy : (i, m, rem, some z) ∈ σ.it := by rw [hσ]; exact List.mem_cons_self
  obtain ⟨s, sm, ks, n, left, cnt, o1, _, _, _, _, hcur, hbase, _⟩ := r.it _ hy
  have o1a := o1.at_
  simp only at o1a
  have e1 := f.opd hx
  rw [ex] at e1
  simp only [val, o1a, Option.map_some, Option.some.injEq, hbase, Nat.zero_add] at e1
  obtain ⟨_, _, _, _, _, _, _, hrun⟩ := hcur z rfl
  refine wpIn_of (by rw [ho]; intro c hc; cases hc) ?_
  have e : (execOp a.eval o).run P w = .ok (.value (.tuple #[.int .i64 z, .bool true])) w := by
    unfold execOp
    rw [ho]
    simp only [← e1, Sem.run_bind, hrun, Result.andThen, Sem.run_pure]
  rw [e, Oper.uponIn_value]
  exact hK (.tup [.int .i64 z, .bool true]) h σ _ _ _ hk2 (by simp [val, vals]) E.le_refl r
end
end Go.Proofs.YtbkgehknhjkaoaaGreatDoor.Ev
namespace Go.Proofs.YtbkgehknhjkaoaaGreatDoor.Ev
open Go Go.RowKit Go.ChangeMaps

variable [GTab] {P : Program} {T : Ty} {S : St0} [GOk S.W0] {N : Nat}
/-! ### two states held against each other -/
noncomputable def hpEq (a : Tr SO) : Tr SO → Bool :=
  Tr.rec (fun b => match b with | .e => true | _ => false) (fun v _ _ _ _ sa sb sc sd t => match t with
    | .e => false
    | .n w a b c d => bif soEq v w then (bif sa a then (bif sb b then (bif sc c then sd d else false) else false) else false) else false) a
theorem hpEq_ok (a : Tr SO) : ∀ b, hpEq a b = true → a = b := by
  induction a with
  | e => intro b h; cases b with
    | e => rfl
    | n => cases h
  | n v a b c d ia ib ic id =>
    intro t h
    cases t with
    | e => cases h
    | n w a' b' c' d' =>
      obtain ⟨h1, h2⟩ := bif_true (show (bif soEq v w then (bif hpEq a a' then (bif hpEq b b' then (bif hpEq c c' then hpEq d d' else false) else false) else false) else false) = true from h)
      obtain ⟨h2, h3⟩ := bif_true h2
      obtain ⟨h3, h4⟩ := bif_true h3
      obtain ⟨h4, h5⟩ := bif_true h4
      rw [ia _ h2, ib _ h3, ic _ h4, id _ h5, soEq_ok h1]
noncomputable def eqH (a b : HS) : Bool := HS.rec (fun hp nx ne bar => HS.rec (fun hp' nx' ne' bar' => bif Nat.beq nx nx' && (Nat.beq ne ne' && Nat.beq bar bar') then hpEq hp hp' else false) b) a
theorem eqH_ok {a b : HS} (h : eqH a b = true) : a = b := by
  obtain ⟨hp, nx, ne, bar⟩ := a
  obtain ⟨hp', nx', ne', bar'⟩ := b
  obtain ⟨h1, h2⟩ := bif_true (show (bif Nat.beq nx nx' && (Nat.beq ne ne' && Nat.beq bar bar') then hpEq hp hp' else false) = true from h)
  simp only [Bool.and_eq_true] at h1
  rw [Nat.eq_of_beq_eq_true h1.1, Nat.eq_of_beq_eq_true h1.2.1, Nat.eq_of_beq_eq_true h1.2.2, hpEq_ok _ _ h2]
noncomputable def eqMs (a : List (Nat × List Int)) : List (Nat × List Int) → Bool := List.rec (fun b => List.rec true (fun _ _ _ => false) b) (fun x _ ih b => List.rec false (fun y r _ => bif Nat.beq x.1 y.1 && eqZ x.2 y.2 then ih r else false) b) a
theorem eqMs_ok : ∀ {a b : List (Nat × List Int)}, eqMs a b = true → a = b
  | [], [], _ => rfl
  | [], _ :: _, h => by cases h
  | _ :: _, [], h => by cases h
  | (i, x) :: r, (j, y) :: s, h => by
    obtain ⟨h1, h2⟩ := bif_true (show (bif Nat.beq i j && eqZ x y then eqMs r s else false) = true from h)
    simp only [Bool.and_eq_true] at h1
    rw [Nat.eq_of_beq_eq_true h1.1, eqZ_ok h1.2, eqMs_ok h2]
noncomputable def nilB {α : Type} (l : List α) : Bool := List.rec true (fun _ _ _ => false) l
theorem nilB_ok {α : Type} {l : List α} (h : nilB l = true) : l = [] := by cases l with | nil => rfl | cons => cases h
noncomputable def eqS (a b : Sg) : Bool := bif nilB a.it && nilB b.it then eqMs a.ms b.ms else false
theorem eqS_ok {a b : Sg} (h : eqS a b = true) : a = b := by
  obtain ⟨h1, h2⟩ := bif_true h
  simp only [Bool.and_eq_true] at h1
  obtain ⟨ms, it⟩ := a
  obtain ⟨ms', it'⟩ := b
  have e1 := nilB_ok h1.1
  have e2 := nilB_ok h1.2
  simp only at e1 e2
  have h2 : eqMs ms ms' = true := h2
  rw [e1, e2, eqMs_ok h2]
noncomputable def eqX (a b : X) : Bool := X.rec (X.rec true (fun _ => false) false b) (fun i => X.rec false (fun j => Nat.beq i j) false b) (X.rec false (fun _ => false) true b) a
theorem eqX_ok {a b : X} (h : eqX a b = true) : a = b := by
  cases a with
  | normal => cases b <;> first | rfl | cases h
  | exit i =>
    cases b with
    | exit j => rw [Nat.eq_of_beq_eq_true (show Nat.beq i j = true from h)]
    | normal => cases h
    | ret => cases h
  | ret => cases b <;> first | rfl | cases h
noncomputable def eqFr (Kd Kd' : Nat) (a b : Tr SV) (n : Nat) : Bool := Nat.rec true (fun t ih => Bool.rec false ih (Bool.rec true (Nat.testBit Kd' t && ovEq (a.get t) (b.get t)) (Nat.testBit Kd t))) n
theorem eqFr_ok {Kd Kd' : Nat} {a b : Tr SV} {n : Nat} (h : eqFr Kd Kd' a b n = true) : ∀ t, t < n → Nat.testBit Kd t = true → Nat.testBit Kd' t = true ∧ opd a (.tmp t) = opd b (.tmp t) := by
  induction n with
  | zero => intro t ht; omega
  | succ n ih =>
    obtain ⟨h1, h2⟩ := rec_true (show (Bool.rec false (eqFr Kd Kd' a b n) (Bool.rec true (Nat.testBit Kd' n && ovEq (a.get n) (b.get n)) (Nat.testBit Kd n)) : Bool) = true from h)
    intro t ht hb
    by_cases e : t = n
    · subst e
      rw [hb] at h1
      have h1 : (Nat.testBit Kd' t && ovEq (a.get t) (b.get t)) = true := h1
      simp only [Bool.and_eq_true] at h1
      exact ⟨h1.1, by simp only [opd]; rw [ovEq_ok h1.2]⟩
    · exact ih h2 t (by omega) hb

/-! ### the evaluator -/
abbrev FnS := Bool → List SV → HS → Sg → KS → Bool
noncomputable def callX (fnS : FnS) (det : Bool) (l : List SV) (h : HS) (σ : Sg) (k : KS) : Bool :=
  fnS true l h σ fun sv1 h1 σ1 => Bool.rec false (k sv1 h1 σ1) (fnS false l h σ fun sv h' σ' => bif svEq sv sv1 then (bif eqS σ' σ1 then eqH h' h1 else false) else false)
noncomputable def opX (P : Program) (T : Ty) (nb : Nat) (call : CallK) (fs : FuncId) (fnS : FnS) (det : Bool) (Kd : Nat) (o : Oper) (fr : Tr SV) (h : HS) (σ : Sg) (k : KS) : Bool :=
  bif allRes Kd [] [] o.op.operands.toList then
    (match o.op with
    | .makeMap t none => bif Nat.beq t T.mt then k (.map h.nx) ⟨h.hp, h.nx + 1, h.ne, h.bar⟩ ⟨(h.nx, []) :: σ.ms, σ.it⟩ else opK P call o fr h fun sv h' => k sv h' σ
    | .mapUpdate t m x v => bif Nat.beq t T.mt then xUpdK nb m x v fr h σ k else opK P call o fr h fun sv h' => k sv h' σ
    | .range t m => bif Nat.beq t T.mt then xRangeK m fr h σ k else opK P call o fr h fun sv h' => k sv h' σ
    | .next x false => xNextK det x fr h σ k
    | .entry x => xEntryK x fr h σ k
    | .call { callee := .builtin .delete, args := ⟨[m, x]⟩, argTypes := ⟨[t, t']⟩ } => bif Nat.beq t T.mt && Nat.beq t' T.kt then xDelK nb m x fr h σ k else opK P call o fr h fun sv h' => k sv h' σ
    | .call { callee := .builtin .len, args := ⟨[m]⟩, argTypes := ⟨[t]⟩ } => bif Nat.beq t T.mt then xLenK m fr h σ k else opK P call o fr h fun sv h' => k sv h' σ
    | .call { callee := .value (.func g), args := ⟨[m]⟩, argTypes := _ } => bif Nat.beq g fs && fineFn P g then callX fnS det [opd fr m] h σ k else opK P call o fr h fun sv h' => k sv h' σ
    | _ => opK P call o fr h fun sv h' => k sv h' σ)
  else false
structure FnSOk (P : Program) (T : Ty) (S : St0) (fs : FuncId) (fnS : FnS) : Prop where
  reach : ∀ l h σ k, fnS true l h σ k = true → ∃ sv h' σ', k sv h' σ' = true
  ok : ∀ l h σ k, fnS false l h σ k = true → ∀ E w vl, RelM P T S E σ h w → vals E l = some vl → ∀ R : Ending → World → Prop,
    (∀ sv h' σ' E' v w', k sv h' σ' = true → val E' sv = some v → E.le E' → RelM P T S E' σ' h' w' → R (.returned v) w') → Calls P fs vl.toArray w R
theorem callX_ok {fs : FuncId} {fnS : FnS} (hS : FnSOk P T S fs fnS) {o : Oper} {Kd : Nat} {fr : Tr SV} {h : HS} {σ : Sg} {k : KS} {det : Bool} {m : Operand} {ts : Array TypeId} (ho : o.op = .call { callee := .value (.func fs), args := #[m], argTypes := ts }) (hfine : fineFn P fs = true) (hres : allRes Kd [] [] o.op.operands.toList = true)
    (hk : callX fnS det [opd fr m] h σ k = true) : OpW P T S N o Kd fr h σ k := by
  obtain ⟨sv1, h1, σ1, hk⟩ := hS.reach _ _ _ _ hk
  obtain ⟨hk1, hk2⟩ := rec_true hk
  have hm := all_res hres (x := m) (by simp [ho, Op.operands, Call.operands])
  intro ro E a w r f K Q hK
  have e1 := f.opd hm
  refine wpIn_of (by rw [ho]; intro c hc; cases hc) ?_
  have e4 : (execOp a.eval o).run P w = .ok (.enter fs [a.eval m].toArray) w := by
    unfold execOp
    rw [ho]
    have hf : a.eval (.func fs) = .func (.func fs) #[] #[] := rfl
    simp only [Sem.run_bind, resolve, hf, Deferred.ofValue, Sem.run_pure, Result.andThen, invoke, run_callFunc hfine]
    congr 2
    simp
  rw [e4, Oper.uponIn_enter]
  refine ⟨(fun h => by cases h), callsIn_fw.2 (hS.ok _ _ _ _ hk1 E w [a.eval m] r (by simp [vals, e1]) _ fun sv h' σ' E' v w' q1 q2 q3 q4 => ?_)⟩
  obtain ⟨z1, z2⟩ := bif_true q1
  obtain ⟨z2, z3⟩ := bif_true z2
  obtain rfl := svEq_ok _ _ z1
  obtain rfl := eqS_ok z2
  obtain rfl := eqH_ok z3
  exact hK sv _ _ E' v w' hk2 q2 q3 q4
theorem opX_ok {call : CallK} (hc : CallSound P S.W0 call) (hT : TyOk P T) {nb : Nat} (hnb : S.h0.nx = nb) {fs : FuncId} {fnS : FnS} (hS : FnSOk P T S fs fnS) {o : Oper} {Kd : Nat} {fr : Tr SV} {h : HS} {σ : Sg} {k : KS} (hk : opX P T nb call fs fnS false Kd o fr h σ k = true) : OpW P T S N o Kd fr h σ k := by
  unfold opX at hk
  obtain ⟨hres, hk⟩ := bif_true hk
  have two : ∀ {b : Bool} {x y : Bool}, (bif b then x else y) = true → (b = true ∧ x = true) ∨ y = true := fun {b x y} h => by cases b <;> simp_all
  split at hk
  · rename_i t ho
    rcases two hk with ⟨q, hk2⟩ | hk2
    · obtain rfl := Nat.eq_of_beq_eq_true q
      exact xMake hT ho hk2
    · exact xGen hc hres hk2
  · rename_i t m x v ho
    rcases two hk with ⟨q, hk2⟩ | hk2
    · obtain rfl := Nat.eq_of_beq_eq_true q
      exact xUpd hT hnb ho hres hk2
    · exact xGen hc hres hk2
  · rename_i t m ho
    rcases two hk with ⟨q, hk2⟩ | hk2
    · obtain rfl := Nat.eq_of_beq_eq_true q
      exact xRange hT ho hres hk2
    · exact xGen hc hres hk2
  · rename_i x ho
    exact xNext hT ho hres hk
  · rename_i x ho
    exact xEntry ho hres hk
  · rename_i m x t t' ho
    rcases two hk with ⟨q, hk2⟩ | hk2
    · simp only [Bool.and_eq_true] at q
      obtain rfl := Nat.eq_of_beq_eq_true q.1
      obtain rfl := Nat.eq_of_beq_eq_true q.2
      exact xDel hT hnb ho hres hk2
    · exact xGen hc hres hk2
  · rename_i m t ho
    rcases two hk with ⟨q, hk2⟩ | hk2
    · obtain rfl := Nat.eq_of_beq_eq_true q
      exact xLen hT ho hres hk2
    · exact xGen hc hres hk2
  · rename_i g m ts ho
    rcases two hk with ⟨q, hk2⟩ | hk2
    · simp only [Bool.and_eq_true] at q
      obtain rfl := Nat.eq_of_beq_eq_true q.1
      exact callX_ok hS ho q.2 hres hk2
    · exact xGen hc hres hk2
  · exact xGen hc hres hk
/-- Some state is come to. -/
theorem opX_reach {call : CallK} (hc : CallSound P S.W0 call) {nb : Nat} {fs : FuncId} {fnS : FnS} (hS : FnSOk P T S fs fnS) {o : Oper} {Kd : Nat} {fr : Tr SV} {h : HS} {σ : Sg} {k : KS} {det : Bool} (hk : opX P T nb call fs fnS det Kd o fr h σ k = true) : ∃ sv h' σ', k sv h' σ' = true := by
  unfold opX at hk
  obtain ⟨hres, hk⟩ := bif_true hk
  have two : ∀ {b : Bool} {x y : Bool}, (bif b then x else y) = true → (b = true ∧ x = true) ∨ y = true := fun {b x y} h => by cases b <;> simp_all
  have gen : opK P call o fr h (fun sv h' => k sv h' σ) = true → ∃ sv h' σ', k sv h' σ' = true := fun e => by
    obtain ⟨sv, h', k1, _⟩ := opK_ok hc e
    exact ⟨sv, h', σ, k1⟩
  split at hk
  · rcases two hk with ⟨q, hk⟩ | hk
    · exact ⟨_, _, _, hk⟩
    · exact gen hk
  · rcases two hk with ⟨q, hk⟩ | hk
    · unfold xUpdK at hk
      split at hk
      · obtain ⟨ks, _, hk⟩ := findMs_ok hk
        exact ⟨_, _, _, (bif_true hk).2⟩
      · cases hk
    · exact gen hk
  · rcases two hk with ⟨q, hk⟩ | hk
    · unfold xRangeK at hk
      split at hk
      · obtain ⟨ks, _, hk⟩ := findMs_ok hk
        exact ⟨_, _, _, hk⟩
      · cases hk
    · exact gen hk
  · unfold xNextK at hk
    split at hk
    · obtain ⟨_, hk⟩ := bif_true hk
      split at hk
      · exact ⟨_, _, _, hk⟩
      · cases det with
        | true => exact ⟨_, _, _, hk⟩
        | false =>
          simp only [cond_false] at hk
          exact ⟨_, _, _, allZ_ok hk _ List.mem_cons_self⟩
    · cases hk
  · unfold xEntryK at hk
    split at hk
    · exact ⟨_, _, _, (bif_true hk).2⟩
    · cases hk
  · rcases two hk with ⟨q, hk⟩ | hk
    · unfold xDelK at hk
      split at hk
      · obtain ⟨ks, _, hk⟩ := findMs_ok hk
        exact ⟨_, _, _, (bif_true hk).2⟩
      · cases hk
    · exact gen hk
  · rcases two hk with ⟨q, hk⟩ | hk
    · unfold xLenK at hk
      split at hk
      · obtain ⟨ks, _, hk⟩ := findMs_ok hk
        rw [natK_eq] at hk
        exact ⟨_, _, _, hk⟩
      · cases hk
    · exact gen hk
  · rcases two hk with ⟨q, hk⟩ | hk
    · obtain ⟨sv1, h1, σ1, hk⟩ := hS.reach _ _ _ _ hk
      exact ⟨_, _, _, (rec_true hk).2⟩
    · exact gen hk
  · exact gen hk
end Go.Proofs.YtbkgehknhjkaoaaGreatDoor.Ev
namespace Go.Proofs.YtbkgehknhjkaoaaGreatDoor.Ev
open Go Go.RowKit Go.ChangeMaps

variable [GTab] {P : Program} {T : Ty} {S : St0} [GOk S.W0] {N : Nat}
abbrev KM := X → Nat → Tr SV → HS → Sg → Bool
abbrev CM := Bool → Nat → Tr SV → HS → Sg → KM → Bool
/-- The guard's slot is known. -/
noncomputable def guardB (ops : Array Oper) (o : Oper) (Kd : Nat) : Bool := match o.guard with
  | none => true
  | some (g, _) => (match (ops[g]?).bind (·.dst) with
    | none => true
    | some t => Nat.testBit Kd t)
theorem guardB_ok {ops : Array Oper} {o : Oper} {Kd : Nat} (h : guardB ops o Kd = true) {fr frT : Tr SV} (ag : Ag Kd fr frT) : SameG ops o fr frT := by
  intro g want t hg ht
  unfold guardB at h
  rw [hg] at h
  simp only at h
  rw [ht] at h
  exact ag t h
noncomputable def opsM (P : Program) (T : Ty) (nb : Nat) (call : CallK) (fs : FuncId) (fnS : FnS) (N : Nat) (ops : Array Oper) (l : List Oper) : Bool → Nat → Tr SV → HS → Sg → (Nat → Tr SV → HS → Sg → Bool) → Bool :=
  List.rec (fun _ Kd fr h σ k => k Kd fr h σ) (fun o _ ih det Kd fr h σ k => bif guardB ops o Kd then (match wants ops o fr with
    | some true => opX P T nb call fs fnS det Kd o fr h σ fun sv h' σ' => putDK N o.dst sv fr fun fr' => natK (orBit Kd o.dst) fun Kd' => ih det Kd' fr' h' σ' k
    | some false => putDK N o.dst (.lit undef) fr fun fr' => natK (orBit Kd o.dst) fun Kd' => ih det Kd' fr' h σ k
    | none => false) else false) l
noncomputable def loopM (body : CM) (k : KM) (n : Nat) : Bool → Nat → Tr SV → HS → Sg → Bool :=
  Nat.rec (fun _ _ _ _ _ => false) (fun _ again det Kd fr h σ => body det Kd fr h σ fun x Kd' fr' h' σ' => X.rec (again det Kd' fr' h' σ') (fun j => k (.exit j) Kd' fr' h' σ') (k .ret Kd' fr' h' σ') x) n
/-- A loop that steps through a set. -/
noncomputable def isStep (c : Code) : Bool := match c with
  | .seq (.region _ ops _) _ => (match ops.toList with
    | o :: _ => (match o.op with
      | .next _ false => true
      | _ => false)
    | [] => false)
  | _ => false
/-- The loop's ends are held against the first one's: on with that, and with the slots K0 of the frame before the loop. -/
noncomputable def joinM (ib : CM) (N F K0 : Nat) (Kd : Nat) (fr : Tr SV) (h : HS) (σ : Sg) (k : KM) : Bool :=
  natK (Nat.land (Nat.land Kd K0) (fullM N)) fun Kd2 =>
    loopM ib (fun x1 _ _ h1 σ1 => Bool.rec false (k x1 Kd2 fr h1 σ1) (loopM ib (fun x Kd' fr' h' σ' => bif eqX x x1 && eqS σ' σ1 then (bif eqFr Kd2 Kd' fr' fr (Nat.succ N) then eqH h' h1 else false) else false) F false Kd fr h σ)) F true Kd fr h σ
/-- Sets are asked for in a region that draws: their lengths, or that they be sorted. -/
noncomputable def lenIn (T : Ty) (fs : FuncId) (l : List Oper) : Bool := List.rec false (fun o _ ih => (match o.op with
  | .call { callee := .builtin .len, args := ⟨[_]⟩, argTypes := ⟨[t]⟩ } => bif Nat.beq t T.mt then true else ih
  | .call { callee := .value (.func g), args := _, argTypes := _ } => bif Nat.beq g fs then true else ih
  | _ => ih)) l
/-- The sets laid among the objects. -/
noncomputable def mlAdd (l : List (Nat × List Int)) : Tr SO → (Tr SO → Bool) → Bool := List.rec (fun hp k => k hp) (fun x _ ih hp k => hp.putK x.1 (some (.ml x.2)) fun hp' => ih hp' k) l
noncomputable def mlP : List (Nat × List Int) → Tr SO → Tr SO
  | [], hp => hp
  | x :: l, hp => mlP l (hp.put x.1 (some (.ml x.2)))
theorem mlAdd_eq (l : List (Nat × List Int)) : ∀ (hp : Tr SO) (k : Tr SO → Bool), mlAdd l hp k = k (mlP l hp) := by
  induction l with
  | nil => intro hp k; rfl
  | cons x l ih =>
    intro hp k
    show (hp.putK x.1 (some (.ml x.2)) fun hp' => mlAdd l hp' k) = _
    rw [Tr.putK_eq, ih]
    rfl
theorem mlP_get (l : List (Nat × List Int)) : ∀ (hp : Tr SO) (j : Nat) (o : SO), (mlP l hp).get j = some o → (∃ x ∈ l, x.1 = j ∧ o = .ml x.2) ∨ hp.get j = some o := by
  induction l with
  | nil => intro hp j o h; exact .inr h
  | cons x l ih =>
    intro hp j o h
    rcases ih _ j o h with ⟨y, a, b, c⟩ | q
    · exact .inl ⟨y, List.mem_cons_of_mem _ a, b, c⟩
    · rw [Tr.get_put] at q
      split at q
      · rename_i e
        exact .inl ⟨x, List.mem_cons_self, e.symm, (Option.some.inj q).symm⟩
      · exact .inr q
theorem mlP_off (l : List (Nat × List Int)) : ∀ (hp : Tr SO) (j : Nat), j ∉ l.map Prod.fst → (mlP l hp).get j = hp.get j := by
  induction l with
  | nil => intro hp j _; rfl
  | cons x l ih =>
    intro hp j hj
    simp only [List.map_cons, List.mem_cons, not_or] at hj
    rw [mlP, ih _ j hj.2, Tr.get_put, if_neg hj.1]
/-- They are taken away again, unturned. -/
noncomputable def mlDrop (l : List (Nat × List Int)) : Tr SO → (Tr SO → Bool) → Bool := List.rec (fun hp k => k hp) (fun x _ ih hp k => getQ hp x.1 fun so => SO.rec (fun _ _ _ => false) (fun _ _ => false) (fun _ _ _ _ _ _ _ _ => false) false (fun ks' => Bool.rec false (hp.putK x.1 none fun hp' => ih hp' k) (eqZ ks' x.2)) so) l
theorem mlDrop_ok (l : List (Nat × List Int)) : ∀ {hp : Tr SO} {k : Tr SO → Bool}, mlDrop l hp k = true → (∀ x ∈ l, hp.get x.1 = some (.ml x.2)) ∧ ∃ hp', k hp' = true ∧ ∀ j, hp'.get j = if j ∈ l.map Prod.fst then none else hp.get j := by
  induction l with
  | nil => intro hp k hk; exact ⟨fun x hx => (by cases hx), hp, hk, fun j => by simp⟩
  | cons x l ih =>
    intro hp k hk
    have hk : (getQ hp x.1 fun so => SO.rec (fun _ _ _ => false) (fun _ _ => false) (fun _ _ _ _ _ _ _ _ => false) false (fun ks' => Bool.rec false (hp.putK x.1 none fun hp' => mlDrop l hp' k) (eqZ ks' x.2)) so) = true := hk
    rw [getQ_eq] at hk
    split at hk
    case h_2 => cases hk
    rename_i so hso
    cases so with
    | row => cases hk
    | mp => cases hk
    | lp => cases hk
    | df => cases hk
    | ml ks' =>
      obtain ⟨h1, h2⟩ := rec_true (show (Bool.rec false (hp.putK x.1 none fun hp' => mlDrop l hp' k) (eqZ ks' x.2) : Bool) = true from hk)
      obtain rfl := eqZ_ok h1
      rw [Tr.putK_eq] at h2
      obtain ⟨q1, hp', q2, q3⟩ := ih h2
      refine ⟨fun y hy => ?_, hp', q2, fun j => ?_⟩
      · rcases List.mem_cons.1 hy with e | e
        · rw [e]; exact hso
        · have := q1 y e
          rw [Tr.get_put] at this
          split at this
          · cases this
          · exact this
      · rw [q3, Tr.get_put]
        simp only [List.map_cons, List.mem_cons]
        by_cases z : j ∈ l.map Prod.fst
        · rw [if_pos z, if_pos (.inr z)]
        · rw [if_neg z]
          by_cases z2 : j = x.1
          · rw [if_pos z2, if_pos (.inl z2)]
          · rw [if_neg z2, if_neg (by rintro (q | q); exact z2 q; exact z q)]
noncomputable def allNb (nb : Nat) (l : List (Nat × List Int)) : Bool := List.rec true (fun x _ ih => Bool.rec false ih (Nat.ble nb x.1)) l
theorem allNb_ok {nb : Nat} {l : List (Nat × List Int)} (h : allNb nb l = true) : ∀ x ∈ l, nb ≤ x.1 := by
  induction l with
  | nil => intro x hx; cases hx
  | cons y l ih =>
    obtain ⟨h1, h2⟩ := rec_true (show (Bool.rec false (allNb nb l) (Nat.ble nb y.1) : Bool) = true from h)
    intro x hx
    rcases List.mem_cons.1 hx with e | e
    · rw [e]; exact Nat.le_of_ble_eq_true h1
    · exact ih h2 x e
omit [GOk S.W0] in
theorem RelM.mlRel (hT : TyOk P T) {E : Env} {σ : Sg} {h : HS} {w : World} (r : RelM P T S E σ h w) (hge : ∀ x ∈ σ.ms, S.h0.nx ≤ x.1) : Rel S.W0 E (mlP σ.ms h.hp).get w := by
  have set : ∀ x ∈ σ.ms, ∃ s, OutM S E h w x.1 s ∧ objOk E s w (.ml x.2) := fun x hx => by
    obtain ⟨s, o, st⟩ := r.ms x hx
    exact ⟨s, o, ml_of_set hT st⟩
  refine ⟨r.rel.below, fun j o e => ?_, fun j j' o o' s s' e e' a a' hb => ?_⟩
  · rcases mlP_get _ _ _ _ e with ⟨x, hx, rfl, rfl⟩ | q
    · obtain ⟨s, om, ok⟩ := set x hx
      exact ⟨s, om.at_, Nat.le_trans r.base (om.old (hge x hx)), ok⟩
    · exact r.rel.obj j o q
  · rcases mlP_get _ _ _ _ e with ⟨x, hx, rfl, rfl⟩ | q
    · obtain ⟨t, om, _⟩ := set x hx
      rcases mlP_get _ _ _ _ e' with ⟨y, hy, rfl, rfl⟩ | q'
      · exact r.apart _ _ _ _ (mem_ms hx) (mem_ms hy) a a' hb
      · have := om.at_
        rw [a] at this
        obtain rfl := Option.some.inj this
        exact absurd hb.symm (om.off j' o' s' q' a')
    · rcases mlP_get _ _ _ _ e' with ⟨y, hy, rfl, rfl⟩ | q'
      · obtain ⟨t, om, _⟩ := set y hy
        have := om.at_
        rw [a'] at this
        obtain rfl := Option.some.inj this
        exact absurd hb (om.off j o s q a)
      · exact r.rel.inj j j' o o' s s' q q' a a' hb
noncomputable def drawM (P : Program) (T : Ty) (nb : Nat) (call : CallK) (fs : FuncId) (N : Nat) (ops : Array Oper) (Kd : Nat) (fr : Tr SV) (h : HS) (σ : Sg) (k : Tr SV → HS → Bool) : Bool :=
  bif drawIn Kd ops ops.toList && drawOk ops then
    (bif lenIn T fs ops.toList && (nilB σ.it && allNb nb σ.ms) then mlAdd σ.ms h.hp fun hp => (drawRC P N ops).f call fr ⟨hp, h.nx, h.ne, h.bar⟩ fun fr' h' => mlDrop σ.ms h'.hp fun hp' => k fr' ⟨hp', h'.nx, h'.ne, h'.bar⟩
    else (drawRC P N ops).f call fr h k)
  else false
noncomputable def codeM (P : Program) (T : Ty) (nb : Nat) (call : CallK) (fs : FuncId) (fnS : FnS) (N F K0 : Nat) (mg : Bool) (c : Code) : CM :=
  Code.rec (motive := fun _ => CM)
    (fun _ Kd fr h σ k => k .normal Kd fr h σ)
    (fun _ ops draw det Kd fr h σ k => Bool.rec (opsM P T nb call fs fnS N ops ops.toList det Kd fr h σ (k .normal))
      (drawM P T nb call fs N ops Kd fr h σ fun fr' h' => k .normal Kd fr' h' σ) draw)
    (fun _ _ ia ib det Kd fr h σ k => ia det Kd fr h σ fun x Kd' fr' h' σ' => X.rec (ib det Kd' fr' h' σ' k) (fun j => k (.exit j) Kd' fr' h' σ') (k .ret Kd' fr' h' σ') x)
    (fun c _ _ ia ib det Kd fr h σ k => bif resolved Kd [] [] c then asBool (opd fr c) (ia det Kd fr h σ k) (ib det Kd fr h σ k) else false)
    (fun id _ ib det Kd fr h σ k => ib det Kd fr h σ fun x Kd' fr' h' σ' => X.rec (k .normal Kd' fr' h' σ') (fun j => Bool.rec (k (.exit j) Kd' fr' h' σ') (k .normal Kd' fr' h' σ') (Nat.beq j id)) (k .ret Kd' fr' h' σ') x)
    (fun b ib det Kd fr h σ k => bif mg && isStep b then joinM ib N F K0 Kd fr h σ k else loopM ib k F det Kd fr h σ)
    (fun _ _ _ _ _ _ _ _ _ _ _ _ => false)
    (fun id _ Kd fr h σ k => k (.exit id) Kd fr h σ)
    (fun _ ib => ib)
    (fun _ _ Kd fr h σ k => k .normal Kd fr h σ)
    (fun _ _ _ _ _ _ _ => false)
    (fun _ Kd fr h σ k => k .ret Kd fr h σ)
    (fun _ _ _ _ _ _ _ => false) c
section
variable {nb : Nat} {call : CallK} (hc : CallSound P S.W0 call) {fs : FuncId} {fnS : FnS} (hS : FnSOk P T S fs fnS)
include hc hS
omit hS in
theorem drawM_reach (hm : P.follows .mixedOrders = true) {ops : Array Oper} {Kd : Nat} {fr : Tr SV} {h : HS} {σ : Sg} {k : Tr SV → HS → Bool} (hk : drawM P T nb call fs N ops Kd fr h σ k = true) : ∃ fr' h', k fr' h' = true := by
  unfold drawM at hk
  obtain ⟨h1, hk⟩ := bif_true hk
  simp only [Bool.and_eq_true] at h1
  cases hl : (lenIn T fs ops.toList && (nilB σ.it && allNb nb σ.ms)) with
  | false =>
    rw [hl, cond_false] at hk
    obtain ⟨fr', _, h', hk, _⟩ := drawRC_ok (W0 := S.W0) hc hm h1.2 h1.1 (frT := fr) (fun _ _ => rfl) hk
    exact ⟨_, _, hk⟩
  | true =>
    rw [hl, cond_true, mlAdd_eq] at hk
    obtain ⟨fr', _, h', hk, _⟩ := drawRC_ok (W0 := S.W0) hc hm h1.2 h1.1 (frT := fr) (fun _ _ => rfl) hk
    obtain ⟨_, hp', hk, _⟩ := mlDrop_ok _ hk
    exact ⟨_, _, hk⟩
theorem opsM_reach {ops : Array Oper} (l : List Oper) : ∀ {det : Bool} {Kd : Nat} {fr : Tr SV} {h : HS} {σ : Sg} {k : Nat → Tr SV → HS → Sg → Bool}, opsM P T nb call fs fnS N ops l det Kd fr h σ k = true → ∃ Kd' fr' h' σ', k Kd' fr' h' σ' = true := by
  induction l with
  | nil => intro det Kd fr h σ k hk; exact ⟨_, _, _, _, hk⟩
  | cons o l ih =>
    intro det Kd fr h σ k hk
    obtain ⟨_, hk⟩ := bif_true (show (bif guardB ops o Kd then (match wants ops o fr with
      | some true => opX P T nb call fs fnS det Kd o fr h σ fun sv h' σ' => putDK N o.dst sv fr fun fr' => natK (orBit Kd o.dst) fun Kd' => opsM P T nb call fs fnS N ops l det Kd' fr' h' σ' k
      | some false => putDK N o.dst (.lit undef) fr fun fr' => natK (orBit Kd o.dst) fun Kd' => opsM P T nb call fs fnS N ops l det Kd' fr' h σ k
      | none => false) else false) = true from hk)
    split at hk
    · obtain ⟨sv, h', σ', hk⟩ := opX_reach hc hS hk
      obtain ⟨hk, _⟩ := putDK_ok hk
      rw [natK_eq] at hk
      exact ih hk
    · obtain ⟨hk, _⟩ := putDK_ok hk
      rw [natK_eq] at hk
      exact ih hk
    · cases hk
theorem loopM_reach {ib : CM} (hib : ∀ {det : Bool} {Kd : Nat} {fr : Tr SV} {h : HS} {σ : Sg} {k : KM}, ib det Kd fr h σ k = true → ∃ x Kd' fr' h' σ', k x Kd' fr' h' σ' = true) {k : KM} (n : Nat) : ∀ {det : Bool} {Kd : Nat} {fr : Tr SV} {h : HS} {σ : Sg}, loopM ib k n det Kd fr h σ = true → ∃ x Kd' fr' h' σ', k x Kd' fr' h' σ' = true := by
  induction n with
  | zero => intro det Kd fr h σ hk; cases hk
  | succ n ih =>
    intro det Kd fr h σ hk
    obtain ⟨x, Kd', fr', h', σ', hk⟩ := hib (show ib det Kd fr h σ (fun x Kd' fr' h' σ' => X.rec (loopM ib k n det Kd' fr' h' σ') (fun j => k (.exit j) Kd' fr' h' σ') (k .ret Kd' fr' h' σ') x) = true from hk)
    cases x with
    | normal => exact ih hk
    | exit j => exact ⟨_, _, _, _, _, hk⟩
    | ret => exact ⟨_, _, _, _, _, hk⟩
theorem codeM_reach (hm : P.follows .mixedOrders = true) {F K0 : Nat} {mg : Bool} (c : Code) : ∀ {det : Bool} {Kd : Nat} {fr : Tr SV} {h : HS} {σ : Sg} {k : KM}, codeM P T nb call fs fnS N F K0 mg c det Kd fr h σ k = true → ∃ x Kd' fr' h' σ', k x Kd' fr' h' σ' = true := by
  induction c with
  | skip => intro det Kd fr h σ k hk; exact ⟨_, _, _, _, _, hk⟩
  | label l => intro det Kd fr h σ k hk; exact ⟨_, _, _, _, _, hk⟩
  | exit id => intro det Kd fr h σ k hk; exact ⟨_, _, _, _, _, hk⟩
  | ret => intro det Kd fr h σ k hk; exact ⟨_, _, _, _, _, hk⟩
  | rangeFunc f ps a b _ _ => intro det Kd fr h σ k hk; cases hk
  | goto l => intro det Kd fr h σ k hk; cases hk
  | refuse w => intro det Kd fr h σ k hk; cases hk
  | scope b ib => intro det Kd fr h σ k hk; exact ib hk
  | region id ops draw =>
    intro det Kd fr h σ k hk
    cases draw with
    | false =>
      obtain ⟨_, _, _, _, hk⟩ := opsM_reach hc hS ops.toList (show opsM P T nb call fs fnS N ops ops.toList det Kd fr h σ (k .normal) = true from hk)
      exact ⟨_, _, _, _, _, hk⟩
    | true =>
      obtain ⟨fr', h', hk⟩ := drawM_reach hc hm (show drawM P T nb call fs N ops Kd fr h σ (fun fr' h' => k .normal Kd fr' h' σ) = true from hk)
      exact ⟨_, _, _, _, _, hk⟩
  | seq x y ix iy =>
    intro det Kd fr h σ k hk
    obtain ⟨z, Kd', fr', h', σ', hk⟩ := ix (show codeM P T nb call fs fnS N F K0 mg x det Kd fr h σ (fun z Kd' fr' h' σ' => X.rec (codeM P T nb call fs fnS N F K0 mg y det Kd' fr' h' σ' k) (fun j => k (.exit j) Kd' fr' h' σ') (k .ret Kd' fr' h' σ') z) = true from hk)
    cases z with
    | normal => exact iy hk
    | exit j => exact ⟨_, _, _, _, _, hk⟩
    | ret => exact ⟨_, _, _, _, _, hk⟩
  | cond c x y ix iy =>
    intro det Kd fr h σ k hk
    obtain ⟨_, h2⟩ := bif_true (show (bif resolved Kd [] [] c then asBool (opd fr c) (codeM P T nb call fs fnS N F K0 mg x det Kd fr h σ k) (codeM P T nb call fs fnS N F K0 mg y det Kd fr h σ k) else false) = true from hk)
    obtain ⟨b, _, hk⟩ := asBool_ok h2
    cases b with
    | true => exact ix hk
    | false => exact iy hk
  | block id x ix =>
    intro det Kd fr h σ k hk
    obtain ⟨z, Kd', fr', h', σ', hk⟩ := ix (show codeM P T nb call fs fnS N F K0 mg x det Kd fr h σ (fun z Kd' fr' h' σ' => X.rec (k .normal Kd' fr' h' σ') (fun j => Bool.rec (k (.exit j) Kd' fr' h' σ') (k .normal Kd' fr' h' σ') (Nat.beq j id)) (k .ret Kd' fr' h' σ') z) = true from hk)
    cases z with
    | normal => exact ⟨_, _, _, _, _, hk⟩
    | exit j =>
      have hk : (Bool.rec (k (.exit j) Kd' fr' h' σ') (k .normal Kd' fr' h' σ') (Nat.beq j id) : Bool) = true := hk
      cases e : Nat.beq j id with
      | true => rw [e] at hk; exact ⟨_, _, _, _, _, hk⟩
      | false => rw [e] at hk; exact ⟨_, _, _, _, _, hk⟩
    | ret => exact ⟨_, _, _, _, _, hk⟩
  | loop b ib =>
    intro det Kd fr h σ k hk
    have hk : (bif mg && isStep b then joinM (codeM P T nb call fs fnS N F K0 mg b) N F K0 Kd fr h σ k else loopM (codeM P T nb call fs fnS N F K0 mg b) k F det Kd fr h σ) = true := hk
    cases e : (mg && isStep b) with
    | true =>
      rw [e, cond_true] at hk
      unfold joinM at hk
      rw [natK_eq] at hk
      obtain ⟨x, _, _, h', σ', hk⟩ := loopM_reach hc hS ib F hk
      exact ⟨_, _, _, _, _, (rec_true hk).2⟩
    | false =>
      rw [e, cond_false] at hk
      exact loopM_reach hc hS ib F hk
omit hS in
theorem FrA.draw (hm : P.follows .mixedOrders = true) (hT : TyOk P T) (hnb : S.h0.nx = nb) {ops : Array Oper} {id : Nat} {ro : Option Nat} {E : Env} {σ : Sg} {h : HS} {w : World} {Kd : Nat} {fr : Tr SV} {a : Act} {k : Tr SV → HS → Bool} (hk : drawM P T nb call fs N ops Kd fr h σ k = true)
    (r : RelM P T S E σ h w) (f : FrA E Kd fr N a) {Q : Exit → Act → World → Prop} (hQ : ∀ fr' h' E' a' w', k fr' h' = true → E.le E' → RelM P T S E' σ h' w' → FrA E' Kd fr' N a' → Q .normal a' w') : (Code.region id ops true).wpIn (Fw ro) 0 P Q a w := by
  unfold drawM at hk
  obtain ⟨h1, hk⟩ := bif_true hk
  simp only [Bool.and_eq_true] at h1
  obtain ⟨hin, hok⟩ := h1
  obtain ⟨frT, ag, fo⟩ := f
  cases hl : (lenIn T fs ops.toList && (nilB σ.it && allNb nb σ.ms)) with
  | false =>
    rw [hl, cond_false] at hk
    obtain ⟨fr', frT', h', k1, ag', g, ok⟩ := drawRC_ok (W0 := S.W0) hc hm hok hin ag hk
    exact ok ro id E a w r.rel ⟨fun id q _ => r.free id q, fun j q _ => r.freee j q⟩ fo Q fun E' a' w' r' st fo' => hQ fr' h' E' a' w' k1 st.le (r.next r' st g) ⟨frT', ag', fo'⟩
  | true =>
    rw [hl, cond_true, mlAdd_eq] at hk
    simp only [Bool.and_eq_true] at hl
    have hit := nilB_ok hl.2.1
    have hge : ∀ x ∈ σ.ms, S.h0.nx ≤ x.1 := fun x hx => by rw [hnb]; exact allNb_ok hl.2.2 x hx
    obtain ⟨fr', frT', h', k1, ag', g, ok⟩ := drawRC_ok (W0 := S.W0) hc hm hok hin ag hk
    obtain ⟨hml, hp2, k2, hget⟩ := mlDrop_ok _ k1
    have hids : ∀ j, j ∈ σ.ms.map Prod.fst → S.h0.nx ≤ j := fun j hj => by
      obtain ⟨x, hx, rfl⟩ := List.mem_map.1 hj
      exact hge x hx
    have hbar := r.bar
    have G1 : Goes S.h0 ⟨mlP σ.ms h.hp, h.nx, h.ne, h.bar⟩ := by
      refine ⟨fun j hj => ?_, r.goes.bar, r.goes.nx, r.goes.ne, fun j o e => ?_⟩
      · show (mlP σ.ms h.hp).get j = _
        rw [mlP_off _ _ _ fun q => by have := hids j q; omega]
        exact r.goes.kept j hj
      · rcases mlP_get _ _ _ _ e with ⟨x, hx, rfl, rfl⟩ | q
        · obtain ⟨s, om, _⟩ := r.ms x hx
          exact .inl ⟨hge x hx, om.lt⟩
        · exact r.goes.live j o q
    refine ok ro id E a w (r.mlRel hT hge) ⟨fun id q _ => r.free id q, fun j q _ => r.freee j q⟩ fo Q fun E' a' w' r' st fo' => hQ fr' ⟨hp2, h'.nx, h'.ne, h'.bar⟩ E' a' w' k2 st.le ?_ ⟨frT', ag', fo'⟩
    have G2 := G1.trans g
    have sub : ∀ j o, hp2.get j = some o → h'.hp.get j = some o ∧ j ∉ σ.ms.map Prod.fst := fun j o e => by
      rw [hget] at e
      split at e
      · cases e
      · rename_i q; exact ⟨e, q⟩
    have gnx : h.nx ≤ h'.nx := g.nx
    have gne : h.ne ≤ h'.ne := g.ne
    refine ⟨r'.less fun j o e => (sub j o e).1, by have q := Step.trans G1 g r.step st; exact q, ⟨fun j hj => ?_, G2.bar, G2.nx, G2.ne, fun j o e => G2.live j o (sub j o e).1⟩, fun j hj => ?_, fun j hj => ?_, r.bar, r.base, fun x hx => ?_, fun y hy => ?_, fun b c s s' hb hcc q1 q2 q3 => ?_, r.nodup⟩
    · show hp2.get j = _
      rw [hget, if_neg fun q => by have := hids j q; omega]
      exact G2.kept j hj
    · have hj : h'.nx ≤ j := hj
      rw [st.dom j (fun q => by have : j < h'.nx := q.2; omega)]
      exact r.free j (by omega)
    · have hj : h'.ne ≤ j := hj
      rw [st.dome j (fun q => by have : j < h'.ne := q.2; omega)]
      exact r.freee j (by omega)
    · obtain ⟨s, om, _⟩ := r.ms x hx
      have e1 := st.le.1 _ _ om.at_
      obtain ⟨s', e2, _, ok2⟩ := r'.obj _ _ (hml x hx)
      rw [e1] at e2
      obtain rfl := Option.some.inj e2
      refine ⟨s, ⟨e1, Nat.lt_of_lt_of_le om.lt gnx, om.old, Nat.lt_of_lt_of_le om.size st.size, fun j o sj z1 z2 z3 => ?_⟩, set_of_ml hT ok2⟩
      obtain ⟨y1, y2⟩ := sub j o z1
      have := r'.inj _ _ _ _ sj s y1 (hml x hx) z2 e1 z3
      rw [this] at y2
      exact y2 (List.mem_map.2 ⟨x, hx, rfl⟩)
    · rw [hit] at hy; cases hy
    · obtain ⟨t, o⟩ := r.out hb
      obtain ⟨u, o2⟩ := r.out hcc
      have e1 := st.le.1 _ _ o.at_
      have e2 := st.le.1 _ _ o2.at_
      rw [q1] at e1
      rw [q2] at e2
      obtain rfl := Option.some.inj e1
      obtain rfl := Option.some.inj e2
      exact r.apart b c _ _ hb hcc o.at_ o2.at_ q3
theorem opsM_ok (hT : TyOk P T) (hnb : S.h0.nx = nb) {ops : Array Oper} (l : List Oper) : ∀ {Kd : Nat} {fr : Tr SV} {h : HS} {σ : Sg} {k : Nat → Tr SV → HS → Sg → Bool}, opsM P T nb call fs fnS N ops l false Kd fr h σ k = true → ∀ ro E a w, RelM P T S E σ h w → FrA E Kd fr N a → ∀ Q : Exit → Act → World → Prop,
    (∀ Kd' fr' h' σ' E' a' w', k Kd' fr' h' σ' = true → E.le E' → RelM P T S E' σ' h' w' → FrA E' Kd' fr' N a' → Q .normal a' w') → wpListIn (Fw ro) 0 P ops Q l a w := by
  induction l with
  | nil => intro Kd fr h σ k hk ro E a w r f Q hQ; exact hQ _ _ _ _ E a w hk E.le_refl r f
  | cons o l ih =>
    intro Kd fr h σ k hk ro E a w r f Q hQ
    obtain ⟨hgd, hk⟩ := bif_true (show (bif guardB ops o Kd then (match wants ops o fr with
      | some true => opX P T nb call fs fnS false Kd o fr h σ fun sv h' σ' => putDK N o.dst sv fr fun fr' => natK (orBit Kd o.dst) fun Kd' => opsM P T nb call fs fnS N ops l false Kd' fr' h' σ' k
      | some false => putDK N o.dst (.lit undef) fr fun fr' => natK (orBit Kd o.dst) fun Kd' => opsM P T nb call fs fnS N ops l false Kd' fr' h σ k
      | none => false) else false) = true from hk)
    have want : ∀ b, wants ops o fr = some b → Region.wanted o (yielded ops a.tmps) = b := fun b hb => by
      obtain ⟨frT, ag, fo⟩ := f
      exact wants_ok hb (guardB_ok hgd ag) fo
    simp only [wpListIn]
    split at hk
    case h_3 => cases hk
    case h_2 =>
      rename_i hw
      rw [want _ hw, if_neg (by simp)]
      obtain ⟨hk, hN⟩ := putDK_ok hk
      rw [natK_eq] at hk
      exact ⟨fun _ _ => trivial, ih hk ro E _ w r (f.putD hN rfl) Q hQ⟩
    rename_i hw
    rw [want _ hw, if_pos rfl]
    refine opX_ok (N := N) hc hT hnb hS hk ro E a w r f _ Q fun sv h' σ' E' v w' q1 q2 q3 q4 => ?_
    obtain ⟨q1, hN⟩ := putDK_ok q1
    rw [natK_eq] at q1
    exact ih q1 ro E' _ w' q4 ((f.le q3).putD hN q2) Q fun Kd2 fr2 h2 σ2 E2 a2 w2 z1 z2 z3 z4 => hQ _ _ _ _ E2 a2 w2 z1 (Env.le_trans q3 z2) z3 z4
/-- What the code asks, it gets, whatever the tape says. -/
def CodeW (P : Program) (T : Ty) (S : St0) (N : Nat) (c : Code) (Kd : Nat) (fr : Tr SV) (h : HS) (σ : Sg) (k : KM) : Prop :=
  ∀ ro E a w, RelM P T S E σ h w → FrA E Kd fr N a → ∀ Q : Exit → Act → World → Prop,
    (∀ x Kd' fr' h' σ' E' a' w', k x Kd' fr' h' σ' = true → E.le E' → RelM P T S E' σ' h' w' → FrA E' Kd' fr' N a' → Q x.to a' w') → c.wpIn (Fw ro) 0 P Q a w
omit hc hS in
theorem loopM_ok {b : Code} {ib : CM} (hib : ∀ {Kd : Nat} {fr : Tr SV} {h : HS} {σ : Sg} {k : KM}, ib false Kd fr h σ k = true → CodeW P T S N b Kd fr h σ k) {k : KM} (n : Nat) : ∀ {Kd : Nat} {fr : Tr SV} {h : HS} {σ : Sg}, loopM ib k n false Kd fr h σ = true →
    ∀ ro E a w, RelM P T S E σ h w → FrA E Kd fr N a → ∀ Q : Exit → Act → World → Prop,
      (∀ x Kd' fr' h' σ' E' a' w', k x Kd' fr' h' σ' = true → E.le E' → RelM P T S E' σ' h' w' → FrA E' Kd' fr' N a' → Q x.to a' w') → Code.roundsIn (Fw ro) 0 P b Q n a w := by
  induction n with
  | zero => intro Kd fr h σ hk; cases hk
  | succ n ih =>
    intro Kd fr h σ hk ro E a w r f Q hQ
    rw [roundsIn_succ]
    refine hib (show ib false Kd fr h σ (fun x Kd' fr' h' σ' => X.rec (loopM ib k n false Kd' fr' h' σ') (fun j => k (.exit j) Kd' fr' h' σ') (k .ret Kd' fr' h' σ') x) = true from hk) ro E a w r f _ fun x Kd' fr' h' σ' E' a' w' q1 q2 q3 q4 => ?_
    cases x with
    | normal => exact ih q1 ro E' a' w' q3 q4 Q fun x2 Kd2 fr2 h2 σ2 E2 a2 w2 z1 z2 z3 z4 => hQ x2 _ _ _ _ E2 a2 w2 z1 (Env.le_trans q2 z2) z3 z4
    | exit j => exact hQ (.exit j) _ _ _ _ E' a' w' q1 q2 q3 q4
    | ret => exact hQ .ret _ _ _ _ E' a' w' q1 q2 q3 q4
theorem codeM_ok (hm : P.follows .mixedOrders = true) (hT : TyOk P T) (hnb : S.h0.nx = nb) {F K0 : Nat} {mg : Bool} (c : Code) : ∀ {Kd : Nat} {fr : Tr SV} {h : HS} {σ : Sg} {k : KM}, codeM P T nb call fs fnS N F K0 mg c false Kd fr h σ k = true → CodeW P T S N c Kd fr h σ k := by
  induction c with
  | skip => intro Kd fr h σ k hk ro E a w r f Q hQ; exact wpIn_skip (hQ .normal _ _ _ _ E a w hk E.le_refl r f)
  | label l => intro Kd fr h σ k hk ro E a w r f Q hQ; exact wpIn_label (hQ .normal _ _ _ _ E a w hk E.le_refl r f)
  | exit id => intro Kd fr h σ k hk ro E a w r f Q hQ; exact wpIn_exit (hQ (.exit id) _ _ _ _ E a w hk E.le_refl r f)
  | ret => intro Kd fr h σ k hk ro E a w r f Q hQ; exact wpIn_ret (hQ .ret _ _ _ _ E a w hk E.le_refl r f)
  | rangeFunc f ps a b _ _ => intro Kd fr h σ k hk; cases hk
  | goto l => intro Kd fr h σ k hk; cases hk
  | refuse w => intro Kd fr h σ k hk; cases hk
  | scope b ib =>
    intro Kd fr h σ k hk ro E a w r f Q hQ
    refine wpIn_scope_straight (ib hk ro E a w r f _ fun x Kd' fr' h' σ' E' a' w' q1 q2 q3 q4 => ?_)
    have := hQ x Kd' fr' h' σ' E' a' w' q1 q2 q3 q4
    cases x with
    | normal => exact this
    | exit id => exact this
    | ret => exact this
  | region id ops draw =>
    intro Kd fr h σ k hk ro E a w r f Q hQ
    cases draw with
    | false => exact wpIn_region_list (opsM_ok hc hS hT hnb ops.toList (show opsM P T nb call fs fnS N ops ops.toList false Kd fr h σ (k .normal) = true from hk) ro E a w r f Q fun Kd' fr' h' σ' E' a' w' q1 q2 q3 q4 => hQ .normal _ _ _ _ E' a' w' q1 q2 q3 q4)
    | true =>
      exact FrA.draw hc hm hT hnb (show drawM P T nb call fs N ops Kd fr h σ (fun fr' h' => k .normal Kd fr' h' σ) = true from hk) r f fun fr' h' E' a' w' q1 q2 q3 q4 => hQ .normal _ _ _ _ E' a' w' q1 q2 q3 q4
  | seq x y ix iy =>
    intro Kd fr h σ k hk ro E a w r f Q hQ
    refine wpIn_seq (ix (show codeM P T nb call fs fnS N F K0 mg x false Kd fr h σ (fun z Kd' fr' h' σ' => X.rec (codeM P T nb call fs fnS N F K0 mg y false Kd' fr' h' σ' k) (fun j => k (.exit j) Kd' fr' h' σ') (k .ret Kd' fr' h' σ') z) = true from hk) ro E a w r f _ fun z Kd' fr' h' σ' E' a' w' q1 q2 q3 q4 => ?_)
    cases z with
    | normal => exact iy q1 ro E' a' w' q3 q4 Q fun x2 Kd2 fr2 h2 σ2 E2 a2 w2 z1 z2 z3 z4 => hQ x2 _ _ _ _ E2 a2 w2 z1 (Env.le_trans q2 z2) z3 z4
    | exit j => exact hQ (.exit j) _ _ _ _ E' a' w' q1 q2 q3 q4
    | ret => exact hQ .ret _ _ _ _ E' a' w' q1 q2 q3 q4
  | cond c x y ix iy =>
    intro Kd fr h σ k hk ro E a w r f Q hQ
    obtain ⟨h1, h2⟩ := bif_true (show (bif resolved Kd [] [] c then asBool (opd fr c) (codeM P T nb call fs fnS N F K0 mg x false Kd fr h σ k) (codeM P T nb call fs fnS N F K0 mg y false Kd fr h σ k) else false) = true from hk)
    obtain ⟨b, hb, hk⟩ := asBool_ok h2
    have e := f.opd h1
    rw [hb] at e
    cases b with
    | true => exact wpIn_cond_true (Option.some.inj e).symm (ix hk ro E a w r f Q hQ)
    | false => exact wpIn_cond_false (Option.some.inj e).symm (iy hk ro E a w r f Q hQ)
  | block id x ix =>
    intro Kd fr h σ k hk ro E a w r f Q hQ
    refine wpIn_block (ix (show codeM P T nb call fs fnS N F K0 mg x false Kd fr h σ (fun z Kd' fr' h' σ' => X.rec (k .normal Kd' fr' h' σ') (fun j => Bool.rec (k (.exit j) Kd' fr' h' σ') (k .normal Kd' fr' h' σ') (Nat.beq j id)) (k .ret Kd' fr' h' σ') z) = true from hk) ro E a w r f _ fun z Kd' fr' h' σ' E' a' w' q1 q2 q3 q4 => ?_)
    cases z with
    | normal => exact hQ .normal _ _ _ _ E' a' w' q1 q2 q3 q4
    | exit j =>
      have q1 : (Bool.rec (k (.exit j) Kd' fr' h' σ') (k .normal Kd' fr' h' σ') (Nat.beq j id) : Bool) = true := q1
      show (if j = id then Q .normal a' w' else Q (.exit j) a' w')
      cases e : Nat.beq j id with
      | true =>
        rw [e] at q1
        rw [if_pos (Nat.eq_of_beq_eq_true e)]
        exact hQ .normal _ _ _ _ E' a' w' q1 q2 q3 q4
      | false =>
        rw [e] at q1
        rw [if_neg (fun z => by rw [z, Nat.beq_refl] at e; cases e)]
        exact hQ (.exit j) _ _ _ _ E' a' w' q1 q2 q3 q4
    | ret => exact hQ .ret _ _ _ _ E' a' w' q1 q2 q3 q4
  | loop b ib =>
    intro Kd fr h σ k hk ro E a w r f Q hQ
    have hk : (bif mg && isStep b then joinM (codeM P T nb call fs fnS N F K0 mg b) N F K0 Kd fr h σ k else loopM (codeM P T nb call fs fnS N F K0 mg b) k F false Kd fr h σ) = true := hk
    cases e : (mg && isStep b) with
    | false =>
      rw [e, cond_false] at hk
      exact wpIn_loop_rounds F (loopM_ok ib F hk ro E a w r f Q hQ)
    | true =>
      rw [e, cond_true] at hk
      unfold joinM at hk
      rw [natK_eq] at hk
      obtain ⟨x1, _, _, h1, σ1, hk⟩ := loopM_reach hc hS (fun {_ _ _ _ _ _} q => codeM_reach hc hS hm b q) F hk
      obtain ⟨hk1, hk2⟩ := rec_true hk
      refine wpIn_loop_rounds F (loopM_ok ib F hk1 ro E a w r f Q fun x Kd' fr' h' σ' E' a' w' q1 q2 q3 q4 => ?_)
      obtain ⟨z1, z2⟩ := bif_true q1
      simp only [Bool.and_eq_true] at z1
      obtain ⟨z4, z3⟩ := bif_true z2
      clear z2 q1
      obtain rfl := eqX_ok z1.1
      obtain rfl := eqS_ok z1.2
      obtain rfl := eqH_ok z3
      refine hQ x _ _ _ _ E' a' w' hk2 q2 q3 ?_
      obtain ⟨frT, ag, fo⟩ := q4
      refine ⟨frT, fun t ht => ?_, fo⟩
      have hb : Nat.testBit (fullM N) t = true := by
        have ht : Nat.testBit ((Kd &&& K0) &&& fullM N) t = true := ht
        rw [Nat.testBit_and, Bool.and_eq_true] at ht
        exact ht.2
      rw [fullM_bit, decide_eq_true_eq] at hb
      obtain ⟨y1, y2⟩ := eqFr_ok z4 t (by omega) ht
      rw [← y2]
      exact ag t y1
end
end Go.Proofs.YtbkgehknhjkaoaaGreatDoor.Ev
namespace Go.Proofs.YtbkgehknhjkaoaaGreatDoor.Ev
open Go Go.RowKit Go.ChangeMaps

variable [GTab] {P : Program} {T : Ty} {S : St0} [GOk S.W0] {N : Nat}
noncomputable def endM (P : Program) (N : Nat) (rs : List ResultVar) (Kd : Nat) (fr : Tr SV) (h : HS) (σ : Sg) (k : KS) : Bool :=
  bif Nat.testBit Kd N then (match opd fr (.tmp N) with
    | .mks _ => false
    | _ => (resC P Kd rs).f fr h.hp fun r => oneK2 r fun s => k s h σ) else false
noncomputable def fnM (P : Program) (T : Ty) (nb : Nat) (call : CallK) (fs : FuncId) (fnS : FnS) (F K0 : Nat) (mg : Bool) (f : FuncId) : FnS := fun det l h σ k =>
  match P.funcs[f]? with
  | some fn => (match fn.body with
    | some c => natK (l.length + (fn.ntmps - l.length)) fun N => natK (fullM N) fun Kd => trOfK l 0 .e fun fr => codeM P T nb call fs fnS N F K0 mg c det Kd fr h σ fun x Kd' fr' h' σ' =>
        X.rec (endM P N fn.results.toList Kd' fr' h' σ' k) (fun _ => false) (endM P N fn.results.toList Kd' fr' h' σ' k) x
    | none => false)
  | none => false
theorem endM_ok {rs : List ResultVar} {Kd : Nat} {fr : Tr SV} {h : HS} {σ : Sg} {k : KS} (hk : endM P N rs Kd fr h σ k = true) : Nat.testBit Kd N = true ∧ (∀ l, opd fr (.tmp N) ≠ .mks l) ∧ (resC P Kd rs).f fr h.hp (fun r => oneK2 r fun s => k s h σ) = true := by
  unfold endM at hk
  obtain ⟨h1, hk⟩ := bif_true hk
  split at hk
  · cases hk
  · rename_i hn
    exact ⟨h1, fun l e => hn l e, hk⟩
theorem xnr {x : X} {b : Bool} (h : (X.rec b (fun _ => false) b x : Bool) = true) : (x = .normal ∨ x = .ret) ∧ b = true := by
  cases x with
  | normal => exact ⟨.inl rfl, h⟩
  | exit j => cases h
  | ret => exact ⟨.inr rfl, h⟩
theorem fnM_ok (hm : P.follows .mixedOrders = true) (hT : TyOk P T) {nb : Nat} (hnb : S.h0.nx = nb) {call : CallK} (hc : CallSound P S.W0 call) {fs : FuncId} {fnS : FnS} (hS : FnSOk P T S fs fnS) {F K0 : Nat} {mg : Bool} {f : FuncId} : FnSOk P T S f (fnM P T nb call fs fnS F K0 mg f) := by
  refine ⟨fun l h σ k hk => ?_, fun l h σ k hk E w vl r hv R hR => ?_⟩
  · unfold fnM at hk
    split at hk
    case h_2 => cases hk
    split at hk
    case h_2 => cases hk
    rw [natK_eq, natK_eq, trOfK_eq] at hk
    obtain ⟨x, Kd', fr', h', σ', hk⟩ := codeM_reach hc hS hm _ hk
    obtain ⟨_, hk⟩ := xnr hk
    obtain ⟨_, _, hk⟩ := endM_ok hk
    have hk := resC_ok _ _ _ _ _ _ (fun _ _ => rfl) hk
    obtain ⟨l, hk, _⟩ := resK_ok (W0 := S.W0) _ hk
    rw [oneK2_eq] at hk
    exact ⟨_, _, _, hk⟩
  · unfold fnM at hk
    split at hk
    case h_2 => cases hk
    rename_i fn hfn
    split at hk
    case h_2 => cases hk
    rename_i c hb
    rw [natK_eq, natK_eq, trOfK_eq] at hk
    refine (callsIn_wide (n := 0)).1 (callsIn_of_wp_marks hfn hb trivial (codeM_ok hc hS hm hT hnb c hk none E _ w r ⟨_, fun _ _ => rfl, get_args l E vl hv fn.ntmps⟩ _ fun x Kd' fr' h' σ' E' a' w' q1 q2 q3 q4 => ?_))
    obtain ⟨hx, q1⟩ := xnr q1
    obtain ⟨z1, z2, q1⟩ := endM_ok q1
    obtain ⟨frT, ag, fo⟩ := q4
    have hd : a'.defers = [] := by
      have := fo.defers
      have e := ag _ z1
      unfold DefOk at this
      split at this
      · rename_i l hl
        exact absurd (e.trans hl) (z2 l)
      · exact this
    have q := resC_ok _ _ _ _ _ _ ag q1
    obtain ⟨r1, k2, k3⟩ := resK_ok (W0 := S.W0) _ q
    obtain ⟨ul, e1, e2⟩ := k3 E' _ a' w' q3.rel fo
    have e3 := results_run e2
    rw [oneK2_eq] at k2
    have main : R (.returned (oneOf ul)) w' := by
      match r1, k2, e1 with
      | [], k2, e1 =>
        simp only [vals, Option.some.injEq] at e1
        subst e1
        exact hR _ _ _ E' _ w' k2 rfl q2 q3
      | [s], k2, e1 =>
        simp only [vals, Option.bind_eq_some_iff, Option.map_eq_some_iff] at e1
        obtain ⟨x, hx, y, hy, rfl⟩ := e1
        simp only [Option.some.injEq] at hy
        subst hy
        exact hR _ _ _ E' _ w' k2 hx q2 q3
      | s :: u :: q, k2, e1 =>
        have e' := e1
        simp only [vals, Option.bind_eq_some_iff, Option.map_eq_some_iff] at e1
        obtain ⟨x, hx, y, ⟨z, hz, t, ht, rfl⟩, rfl⟩ := e1
        exact hR _ _ _ E' _ w' k2 (by simp only [val, e', Option.map_some, oneOf]) q2 q3
    have fin : LeavesInM Fence.wide 0 P fn a'.tmps R a'.defers .returning w' := by
      rw [hd]
      exact ⟨_, e3, main⟩
    rcases hx with rfl | rfl
    · exact fin
    · exact fin
noncomputable def noS : FnS := fun _ _ _ _ _ => false
theorem noS_ok {fs : FuncId} : FnSOk P T S fs noS := ⟨fun _ _ _ _ h => (by cases h), fun _ _ _ _ h => (by cases h)⟩
/-- The run of an entry of a function that steps through sets; fs: the function that sorts one. -/
noncomputable def evEntS (P : Program) (M F : Nat) (T1 : Tab) (T2 : Tab2) (d : Nat) (T : Ty) (fs : FuncId) (K0 : Nat) (e : FEnt) : Bool :=
  inK e.I .e fun hp => fnM P T e.n0 (evTgtF P M F T1 T2 d) fs noS F K0 true e.f false e.l ⟨hp, e.n0, e.e0, e.n0⟩ ⟨[], []⟩ fun sv h _ => fentB e sv h
/-- The run of an entry of the function that sorts a set. -/
noncomputable def evEntQ (P : Program) (M F : Nat) (T1 : Tab) (T2 : Tab2) (d : Nat) (T : Ty) (ks : List Int) (e : FEnt) : Bool :=
  fnM P T 1 (evTgtF P M F T1 T2 d) e.f noS F 0 false e.f false e.l ⟨.e, 1, 0, 1⟩ ⟨[(0, ks)], []⟩ fun sv h _ => fentB e sv h
theorem rows_rel {W0 : World} {E1 : Env} {h' : HS} {w' : World} {L : List Row} (r' : Rel W0 E1 h'.hp.get w') (b3 : rowsB h'.hp L = true) : Rel W0 E1 (gOf L) w' := by
  refine ⟨r'.below, fun j o ho => ?_, fun j j' o o' s s' ho ho' hs hs' hbk => ?_⟩
  · unfold gOf at ho
    obtain ⟨x, hx, rfl⟩ := Option.map_eq_some_iff.1 ho
    obtain ⟨q1, q2⟩ := lastL_mem hx
    obtain ⟨t, z1, z2⟩ := rowsB_ok b3 x q1
    rw [q2] at z1
    obtain ⟨s, y1, y2, y3⟩ := r'.obj j _ z1
    exact ⟨s, y1, y2, objOk_same z2 y3⟩
  · unfold gOf at ho ho'
    obtain ⟨x, hx, rfl⟩ := Option.map_eq_some_iff.1 ho
    obtain ⟨y, hy, rfl⟩ := Option.map_eq_some_iff.1 ho'
    obtain ⟨q1, q2⟩ := lastL_mem hx
    obtain ⟨p1, p2⟩ := lastL_mem hy
    obtain ⟨t, z1, _⟩ := rowsB_ok b3 x q1
    obtain ⟨u, z2, _⟩ := rowsB_ok b3 y p1
    rw [q2] at z1
    rw [p2] at z2
    exact r'.inj j j' _ _ s s' z1 z2 hs hs' hbk
theorem fent_of_evS {M F d : Nat} {T1 : Tab} {T2 : Tab2} {fs : FuncId} {K0 : Nat} (hT1 : TabOk P T1) (hT2 : Tab2Ok P T2) (hm : P.follows .mixedOrders = true) (hf : FnsOk P M) (hT : TyOk P T) {e : FEnt} (hQ : e.Q = none) (h : evEntS P M F T1 T2 d T fs K0 e = true) : FEntOk P e := by
  intro W0 hG E w vl r hn he hv R hR
  rw [gIn_none hQ] at r
  rw [gIn_none hQ] at hR
  unfold evEntS at h
  rw [inK_eq] at h
  let S : St0 := ⟨W0, E, ⟨inP e.I .e, e.n0, e.e0, e.n0⟩, w⟩
  have : GOk S.W0 := hG
  have hc : CallSound P S.W0 (evTgtF P M F T1 T2 d) := evTgtF_ok (W0 := W0) hT1 hT2 hm hf d
  have hin : (inP e.I .e).get = gOf e.I := by
    funext id
    rw [get_inP]
    unfold gOf
    cases lastL e.I id <;> rfl
  have r0 : RelM P T S E ⟨[], []⟩ ⟨inP e.I .e, e.n0, e.e0, e.n0⟩ w := ⟨by show Rel W0 E (inP e.I .e).get w; rw [hin]; exact r, Step.refl _ _ _ _ _ _, Goes.refl _, hn, he, Nat.le_refl _, r.below.size, fun x hx => (by cases hx), fun x hx => (by cases hx), fun a b s s' ha => (by cases ha), List.nodup_nil⟩
  refine (fnM_ok (S := S) hm hT rfl hc noS_ok (F := F) (K0 := K0) (mg := true) (f := e.f)).ok _ _ _ _ h E w vl r0 hv R fun sv h' σ' E1 v w' hb k1 _ r' => ?_
  obtain ⟨b1, b2⟩ := bif_true hb
  obtain ⟨b2, b3⟩ := bif_true b2
  simp only [Bool.and_eq_true] at b2
  have hv1 := svEq_ok _ _ b1
  have hn1 : h'.nx = e.n0 + e.n := Nat.eq_of_beq_eq_true b2.1
  have hm1 : h'.ne = e.e0 + e.m := Nat.eq_of_beq_eq_true b2.2
  subst hv1
  have st : Step e.n0 (inP e.I .e).get e.n0 h'.nx e.e0 h'.ne E E1 w w' := r'.step
  rw [hin, hn1, hm1] at st
  exact hR E1 v w' k1 (rows_rel r'.rel b3) st
theorem fent_of_evQ {M F d : Nat} {T1 : Tab} {T2 : Tab2} {ks : List Int} (hT1 : TabOk P T1) (hT2 : Tab2Ok P T2) (hm : P.follows .mixedOrders = true) (hf : FnsOk P M) (hT : TyOk P T) {e : FEnt} (hQ : e.Q = some ks) (hI : e.I = []) (hn0 : e.n0 = 1) (he0 : e.e0 = 0) (h : evEntQ P M F T1 T2 d T ks e = true) : FEntOk P e := by
  intro W0 hG E w vl r hn he hv R hR
  have hg : gIn e = fun id => match id with | 0 => some (.ml ks) | _ => none := by
    funext id
    unfold gIn
    rw [hQ, hI]
    cases id <;> rfl
  rw [hn0] at hn
  rw [he0] at he
  unfold evEntQ at h
  let S : St0 := ⟨W0, E, ⟨.e, 1, 0, 1⟩, w⟩
  have : GOk S.W0 := hG
  have hc : CallSound P S.W0 (evTgtF P M F T1 T2 d) := evTgtF_ok (W0 := W0) hT1 hT2 hm hf d
  obtain ⟨s, a1, _, a3⟩ := r.obj 0 (.ml ks) (by simp only [hg])
  have hlt := a3.lt
  have r0 : RelM P T S E ⟨[(0, ks)], []⟩ ⟨.e, 1, 0, 1⟩ w := by
    refine ⟨⟨r.below, fun id o q => (by cases q), fun id id' o o' s s' q => (by cases q)⟩, Step.refl _ _ _ _ _ _, Goes.refl _, hn, he, Nat.le_refl _, r.below.size, fun x hx => ?_, fun x hx => (by cases hx), fun a b s s' ha hb _ _ _ => ?_, by simp⟩
    · obtain rfl := List.mem_singleton.1 hx
      exact ⟨s, ⟨a1, Nat.lt_succ_self 0, fun q => absurd q (by show ¬ (1 ≤ 0); omega), hlt, fun j o sj q => (by cases q)⟩, set_of_ml hT a3⟩
    · simp only [outIds, List.map_cons, List.map_nil, List.append_nil, List.mem_singleton] at ha hb
      rw [ha, hb]
  refine (fnM_ok (S := S) hm hT rfl hc noS_ok (F := F) (K0 := 0) (mg := false) (f := e.f)).ok _ _ _ _ h E w vl r0 hv R fun sv h' σ' E1 v w' hb k1 _ r' => ?_
  obtain ⟨b1, b2⟩ := bif_true hb
  obtain ⟨b2, b3⟩ := bif_true b2
  simp only [Bool.and_eq_true] at b2
  have hv1 := svEq_ok _ _ b1
  have hn1 : h'.nx = e.n0 + e.n := Nat.eq_of_beq_eq_true b2.1
  have hm1 : h'.ne = e.e0 + e.m := Nat.eq_of_beq_eq_true b2.2
  subst hv1
  have st : Step 1 (Tr.e : Tr SO).get 1 h'.nx 0 h'.ne E E1 w w' := r'.step
  rw [hn1, hm1] at st
  rw [hn0, he0] at st hR
  refine hR E1 v w' k1 (rows_rel r'.rel b3) ⟨st.le, st.dom, st.dome, st.size, fun k hk hno => st.touch k hk fun id s o _ q => (by cases q), fun id s q1 q2 q3 => ?_⟩
  rcases st.fresh id s q1 q2 q3 with z | ⟨_, _, _, _, z, _⟩
  · exact .inl z
  · cases z
end Go.Proofs.YtbkgehknhjkaoaaGreatDoor.Ev
