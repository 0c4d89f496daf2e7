/- append, whole. -/
import Derived.Test.YtjbjpjaeagopjaaGreatEvApp
set_option linter.unusedSimpArgs false
set_option linter.unusedVariables false
set_option linter.unusedSectionVars false
namespace Go.Proofs.YtjbjpjaeagopjaaGreat.Ev
open Go
variable [GTab] {P : Program} {W0 : World} [GOk W0] {fr : Tr SV} {o : Oper}

/-- A new row that may have grown: sliced from its first place on. -/
noncomputable def grownK (h : HS) (gone : Option Nat) (l : List SV) (sz need : Nat) (k : SV → HS → Bool) : Bool :=
  natK l.length fun n => trOfK l 0 .e fun t =>
    (match gone with
    | none => h.hp.putK h.nx (some (.row n sz t)) fun hp => natK (h.nx + 1) fun nx => k (.slr h.nx 0 need 0) ⟨hp, nx, h.ne, h.bar⟩
    | some id => h.hp.putK id none fun hp0 => hp0.putK h.nx (some (.row n sz t)) fun hp => natK (h.nx + 1) fun nx => k (.slr h.nx 0 need 0) ⟨hp, nx, h.ne, h.bar⟩)
noncomputable def efAppend (P : Program) (t : TypeId) (s x : Operand) (fr : Tr SV) (h : HS) (k : SV → HS → Bool) : Bool :=
  match P.underlying t with
  | some (.slice e) => (match P.info? e with
    | some ie => (match ie.zero with
      | some z => bif Nat.beq z.cells.size ie.size && (Nat.blt 0 ie.size && Nat.ble h.bar h.nx) then
        opdK fr x fun xv => srcK h.hp ie.size xv fun l1 n => opdK fr s fun sv =>
        bif Nat.beq n 0 then (match sv with
          | .lit (.slice A len cap) => bif Nat.ble len cap then k (.lit (.slice A len cap)) h else false
          | .sl id off len cap => bif Nat.ble len cap then k (.sl id off len cap) h else false
          | .slr id off len skip => (match h.hp.get id with
            | some (.row m sz _) => bif Nat.beq sz ie.size && (Nat.beq off (skip * sz) && Nat.ble (off + len * sz) m) then k (.slr id off len skip) h else false
            | _ => false)
          | _ => false)
        else (match sv with
          | .lit (.slice none 0 0) => bif Nat.ble (n * ie.bytes) 140737488355328 && Nat.ble n 9223372036854775807 then grownK h none l1 ie.size n k else false
          | .sl id off len cap => (match h.hp.get id with
            | some (.row m sz tr) =>
              bif Nat.ble (len + n) cap then
                (bif Nat.ble (off + (len + n) * ie.size) m && (Nat.ble h.bar id && allOne l1) then
                  natK (off + len * ie.size) fun i0 => trOfK l1 i0 tr fun tr' => h.hp.putK id (some (.row m sz tr')) fun hp => natK (len + n) fun n' => k (.sl id off n' cap) ⟨hp, h.nx, h.ne, h.bar⟩ else false)
              else bif Nat.ble (off + len * ie.size) m && (Nat.ble ((len + n) * ie.bytes) 140737488355328 && Nat.ble (len + n) 9223372036854775807) then
                cellsK tr off (len * ie.size) fun l0 => listK (l0 ++ l1) fun l => natK (len + n) fun n' => grownK h none l ie.size n' k
              else false
            | _ => false)
          | .emp j id off skip => (match h.hp.get id with
            | some (.row m sz tr) => bif Nat.beq sz ie.size && (Nat.beq off (skip * sz) && Nat.ble h.bar id) then
                (bif Nat.beq (off + 0 * sz) m && (Nat.ble ((0 + n) * ie.bytes) 140737488355328 && Nat.ble (0 + n) 9223372036854775807) then
                  cellsK tr off (0 * sz) fun l0 => listK (l0 ++ l1) fun l => natK (0 + n) fun n' => grownK h (some id) l ie.size n' k
                else false)
              else false
            | _ => false)
          | .slr id off len skip => (match h.hp.get id with
            | some (.row m sz tr) => bif Nat.beq sz ie.size && (Nat.beq off (skip * sz) && (Nat.ble h.bar id && allOne l1)) then
                (bif Nat.ble (off + (len + n) * sz) m then
                  natK (off + len * sz) fun i0 => trOfK l1 i0 tr fun tr' => h.hp.putK id (some (.row m sz tr')) fun hp => natK (len + n) fun n' => k (.slr id off n' skip) ⟨hp, h.nx, h.ne, h.bar⟩
                else bif Nat.beq (off + len * sz) m && (Nat.ble ((len + n) * ie.bytes) 140737488355328 && Nat.ble (len + n) 9223372036854775807) then
                  cellsK tr off (len * sz) fun l0 => listK (l0 ++ l1) fun l => natK (len + n) fun n' => grownK h (some id) l ie.size n' k
                else false)
              else false
            | _ => false)
          | _ => false)
        else false
      | none => false)
    | none => false)
  | _ => false

theorem vals_append {E : Env} : ∀ {a b : List SV} {va vb : List Value}, vals E a = some va → vals E b = some vb → vals E (a ++ b) = some (va ++ vb)
  | [], b, va, vb, ha, hb => by simp only [vals, Option.some.injEq] at ha; subst ha; exact hb
  | s :: r, b, va, vb, ha, hb => by
    simp only [vals, Option.bind_eq_some_iff, Option.map_eq_some_iff] at ha
    obtain ⟨x, hx, y, hy, rfl⟩ := ha
    simp [vals, hx, vals_append hy hb]
theorem size_grown {z : Value} {sz : Nat} (hz : z.cells.size = sz) (l : List Value) (need cap : Nat) (hl : l.length = need * sz) (hc : need ≤ cap) : (l.toArray ++ Builtin.zeroCells z.cells (cap - need)).size = cap * sz := by
  simp only [Array.size_append, List.size_toArray, size_zeroCells, hz, hl]
  rw [← Nat.add_mul]
  congr 1
  omega
theorem Goes.gone {h : HS} {id : Nat} {o0 so : SO} (hid : h.hp.get id = some o0) (hb : h.bar ≤ id) (hb2 : h.bar ≤ h.nx) : Goes h ⟨(h.hp.put id none).put h.nx (some so), h.nx + 1, h.ne, h.bar⟩ := by
  refine ⟨fun j hj => ?_, rfl, Nat.le_succ _, Nat.le_refl _, fun j x e => ?_⟩
  · show ((h.hp.put id none).put h.nx (some so)).get j = _
    rw [Tr.get_put, if_neg (by omega), Tr.get_put, if_neg (by omega)]
  · have e : ((h.hp.put id none).put h.nx (some so)).get j = some x := e
    rw [Tr.get_put] at e
    by_cases hj : j = h.nx
    · exact .inl ⟨by omega, by show j < h.nx + 1; omega⟩
    · rw [if_neg hj, Tr.get_put] at e
      by_cases hj2 : j = id
      · rw [if_pos hj2] at e; cases e
      · rw [if_neg hj2] at e; exact .inr ⟨x, e⟩
/-- Less is held. -/
theorem Rel.less {E : Env} {g g' : Hp} {w : World} (r : Rel W0 E g w) (h : ∀ j o, g' j = some o → g j = some o) : Rel W0 E g' w :=
  ⟨r.below, fun id o e => r.obj id o (h id o e), fun id id' o o' s s' a b c d e => r.inj id id' o o' s s' (h _ _ a) (h _ _ b) c d e⟩
theorem Step.drew_new (bar : Nat) (g : Hp) (E : Env) (w : World) (nx ne cap : Nat) (ob : Obj) (hn : E.at_ nx = none) : Step bar g nx (nx + 1) ne ne E (E.more nx ⟨w.heap.size, 0, cap⟩) w (w.drew.alloc ob) := by
  have h := Step.new bar g E w nx ne cap ob hn
  exact ⟨h.le, h.dom, h.dome, h.size, h.touch, h.fresh⟩

/-- A row that has grown into a new block. -/
theorem grown_new {E : Env} {w : World} {h : HS} (r : Rel W0 E h.hp.get w) (f : Free E h.nx (h.nx + 1) h.ne h.ne) {l : List SV} {vl : List Value} (hv : vals E l = some vl) (ho : ∀ v ∈ vl, v.oneCell' = true) {z : Value} {sz need cap : Nat} (hz : z.cells.size = sz) (hl : vl.length = need * sz) (hc : need ≤ cap) (e : TypeId)
    {g' : Hp} (hg : ∀ j o, j ≠ h.nx → g' j = some o → h.hp.get j = some o) (hgn : g' h.nx = some (.row l.length sz (trOf l 0 .e))) :
    Step h.bar h.hp.get h.nx (h.nx + 1) h.ne h.ne E (E.more h.nx ⟨w.heap.size, 0, cap⟩) w (w.drew.alloc (.cells (vl.toArray ++ Builtin.zeroCells z.cells (cap - need)) e)) ∧
      Rel W0 (E.more h.nx ⟨w.heap.size, 0, cap⟩) g' (w.drew.alloc (.cells (vl.toArray ++ Builtin.zeroCells z.cells (cap - need)) e)) := by
  have hn := f.at_ h.nx (Nat.le_refl _) (Nat.lt_succ_self _)
  refine ⟨Step.drew_new _ _ _ _ _ _ _ _ hn, ?_⟩
  have hsz := size_grown hz vl need cap hl hc
  have hob : objOk (E.more h.nx ⟨w.drew.heap.size, 0, cap⟩) ⟨w.drew.heap.size, 0, cap⟩ { w.drew with heap := w.drew.heap.push (.cells (vl.toArray ++ Builtin.zeroCells z.cells (cap - need)) e) } (.row l.length sz (trOf l 0 .e)) := by
    refine objOk_grown (vals_le (E.le_more _ _ hn) _ _ hv) ho (arr := vl.toArray ++ Builtin.zeroCells z.cells (cap - need)) (ty := e) (by show (w.heap.push _)[w.heap.size]? = _; exact Array.getElem?_push_size) (fun i hi => ?_) ?_ ?_ ?_
    · rw [Nat.zero_add, Array.getElem?_append_left (by simpa using hi)]
      simp
    · rw [hsz, hl, Nat.zero_add]; exact Nat.mul_le_mul_right _ hc
    · rw [hsz, Nat.zero_add]; exact Nat.le_refl _
    · rw [hl]; exact Nat.mul_le_mul_right _ hc
  have base : Rel W0 E (fun j => if j = h.nx then none else g' j) w.drew := r.drew.less (fun j o' e' => by
    by_cases hj : j = h.nx
    · rw [if_pos hj] at e'; cases e'
    · rw [if_neg hj] at e'; exact hg j o' hj e')
  exact base.new hn hob (fun j => by
    by_cases hj : j = h.nx
    · rw [if_pos hj, hj, hgn]
    · rw [if_neg hj, if_neg hj])
theorem execOp_append {t : TypeId} {s x : Operand} (ho : o.op = .call { callee := .builtin .append, args := #[s, x], argTypes := #[t, t] }) (a : Act) (w w' : World) (v : Value) (h : (Builtin.append_ #[t, t] o.type #[a.eval s, a.eval x]).run P w = .ok v w') : (execOp a.eval o).run P w = .ok (.value v) w' := by
  unfold execOp
  rw [ho]
  simp only [resolve, invoke, builtin, List.map_toArray, List.map_cons, List.map_nil, Sem.run_bind, Sem.run_pure, Result.andThen, h]
theorem efAppend_ok {t : TypeId} {s x : Operand} {h : HS} {k : SV → HS → Bool} (ho : o.op = .call { callee := .builtin .append, args := #[s, x], argTypes := #[t, t] }) (hk : efAppend P t s x fr h k = true) : ∃ sv h', k sv h' = true ∧ Goes h h' ∧ EffOk P W0 o fr h h' sv := by
  unfold efAppend at hk
  split at hk
  case h_2 => cases hk
  rename_i e hu
  split at hk
  case h_2 => cases hk
  rename_i ie hie
  split at hk
  case h_2 => cases hk
  rename_i z hz
  obtain ⟨h1, hk⟩ := bif_true hk
  obtain ⟨h1, h2, h3⟩ := and3 h1
  have hzs := Nat.eq_of_beq_eq_true h1
  have hsp := blt_lt h2
  have hbn := Nat.le_of_ble_eq_true h3
  clear h1 h2 h3
  rw [opdK_eq] at hk
  obtain ⟨l1, n, hk, hl1, hsrc⟩ := srcK_ok (W0 := W0) hk
  rw [opdK_eq] at hk
  rw [Tr.bif_beq] at hk
  have same : ∀ (sv : SV), opd fr s = sv → (∀ E w v, Rel W0 E h.hp.get w → val E sv = some v → ∃ A len cap, v = .slice A len cap ∧ len ≤ cap) → n = 0 → EffOk P W0 o fr h h sv := by
    intro sv hs hval hn E N a w r f fo
    have hx := opd_ok fo s
    rw [hs] at hx
    obtain ⟨A, len, cap, hA, hle⟩ := hval E w _ r hx
    obtain ⟨B, c, vl, hB, _⟩ := hsrc E w _ r (opd_ok fo x)
    refine ⟨E, w, _, Step.refl _ _ _ _ _ _, r, hx, .inl (execOp_append ho a w w _ ?_)⟩
    rw [hA, hB, hn]
    exact run_append_empty w t _ e ie hu hie A len cap B c hle
  have room : 0 < n → ∀ (id off len skip m : Nat) (tr : Tr SV), h.hp.get id = some (.row m ie.size tr) → off = skip * ie.size → h.bar ≤ id →
      (∀ E N a w, Rel W0 E h.hp.get w → Free E h.nx (h.nx + 1) h.ne h.ne → FrOk E fr N a → ∀ sp, E.at_ id = some sp → ∃ A, a.eval s = .slice (some A) len (sp.cap - skip) ∧ (A = ⟨sp.blk, sp.base + off, none⟩ ∨ len = 0 ∧ sp.cap = skip)) →
      (bif Nat.beq (off + len * ie.size) m && (Nat.ble ((len + n) * ie.bytes) 140737488355328 && Nat.ble (len + n) 9223372036854775807) then
        cellsK tr off (len * ie.size) fun l0 => listK (l0 ++ l1) fun l => natK (len + n) fun n' => grownK h (some id) l ie.size n' k
      else false) = true → ∃ sv h', k sv h' = true ∧ Goes h h' ∧ EffOk P W0 o fr h h' sv := by
    intro hn id off len skip m tr hrow q2 q3 hval hk
    obtain ⟨q, hk⟩ := bif_true hk
    obtain ⟨p1, p2, p3⟩ := and3 q
    have p1 := Nat.eq_of_beq_eq_true p1
    have p2 := Nat.le_of_ble_eq_true p2
    have p3 := Nat.le_of_ble_eq_true p3
    obtain ⟨l0, hk, hl0, hg0⟩ := cellsK_ok _ _ _ _ hk
    rw [listK_eq, natK_eq] at hk
    unfold grownK at hk
    rw [natK_eq, trOfK_eq] at hk
    simp only at hk
    rw [Tr.putK_eq, Tr.putK_eq, natK_eq] at hk
    refine ⟨_, _, hk, Goes.gone hrow q3 hbn, fun E N a w r f fo => ?_⟩
    obtain ⟨A, c, vl, hA, v1, v2, v3, v4⟩ := hsrc E w _ r (opd_ok fo x)
    obtain ⟨ad, rfl, v5⟩ := v4 hn
    obtain ⟨sp, vl0, e1, u1, u2, u3, u4⟩ := r.cellsAt hrow (Nat.le_of_eq p1) hl0 hg0
    obtain ⟨AA, hx, hA2⟩ := hval E N a w r f fo sp e1
    have hgn : (((h.hp.put id none).put h.nx (some (.row (l0 ++ l1).length ie.size (trOf (l0 ++ l1) 0 .e)))).get) h.nx = some (.row (l0 ++ l1).length ie.size (trOf (l0 ++ l1) 0 .e)) := by rw [Tr.get_put, if_pos rfl]
    have hgo : ∀ j o', j ≠ h.nx → (((h.hp.put id none).put h.nx (some (.row (l0 ++ l1).length ie.size (trOf (l0 ++ l1) 0 .e)))).get) j = some o' → h.hp.get j = some o' ∧ j ≠ id := by
      intro j o' hj e'
      rw [Tr.get_put, if_neg hj, Tr.get_put] at e'
      by_cases hj2 : j = id
      · rw [if_pos hj2] at e'; cases e'
      · rw [if_neg hj2] at e'; exact ⟨e', hj2⟩
    have hone : ∀ u ∈ vl0 ++ vl, u.oneCell' = true := by intro u hu; rcases List.mem_append.1 hu with g | g; exact u3 u g; exact v3 u g
    by_cases hroom : len + n ≤ sp.cap - skip
    · -- there is room: in place
      obtain ⟨s', a', b', c0, ty, h1', h2', h3', h4'⟩ := r.obj id _ hrow
      obtain rfl := Option.some.inj (a'.symm.trans e1)
      obtain rfl : AA = ⟨s'.blk, s'.base + off, none⟩ := by
        rcases hA2 with q | ⟨q, q'⟩
        · exact q
        · omega
      have hfit : off + (len + n) * ie.size ≤ s'.cap * ie.size := by
        have : (skip + (len + n)) * ie.size ≤ s'.cap * ie.size := Nat.mul_le_mul_right _ (by omega)
        rw [Nat.add_mul] at this
        omega
      have hst := run_storeCells_at P s'.blk (s'.base + (off + len * ie.size)) ty vl 0 c0 w h1' (by have := h3'.1; rw [Nat.add_mul] at hfit; omega) v3
      simp only [Nat.add_zero] at hst
      have run := run_append_in (P := P) w _ t o.type e ie hu hie ⟨s'.blk, s'.base + off, none⟩ len (s'.cap - skip) ad n c vl v2 v5 hroom (by rw [Addr.add_lit, Nat.add_assoc]; exact hst)
      have hnx := f.at_ h.nx (Nat.le_refl _) (Nat.lt_succ_self _)
      have hle := E.le_more h.nx ⟨s'.blk, s'.base + off, s'.cap - skip⟩ hnx
      have hobj : objOk (E.more h.nx ⟨s'.blk, s'.base + off, s'.cap - skip⟩) ⟨s'.blk, s'.base + off, s'.cap - skip⟩ (w.setRow s'.blk (c0.toList.take (s'.base + (off + len * ie.size)) ++ vl ++ c0.toList.drop (s'.base + (off + len * ie.size) + vl.length)).toArray) (.row (l0 ++ l1).length ie.size (trOf (l0 ++ l1) 0 .e)) := by
        have hszc : (c0.toList.take (s'.base + (off + len * ie.size)) ++ vl ++ c0.toList.drop (s'.base + (off + len * ie.size) + vl.length)).toArray.size = c0.size := by
          have := h3'.1
          rw [Nat.add_mul] at hfit
          simp
          omega
        refine objOk_grown (s := ⟨s'.blk, s'.base + off, s'.cap - skip⟩) (vals_le hle _ _ (vals_append u1 v1)) hone (setRow_heap _ _ _ _ _ _ h1') (fun i hi => ?_) ?_ ?_ ?_
        · have hl := loadList c0.toList (s'.base + (off + len * ie.size)) 0 vl (by have := h3'.1; rw [Nat.add_mul] at hfit; simp; omega) (s'.base + off + i)
          rw [List.getElem?_toArray, hl]
          rw [List.length_append, u2, v2] at hi
          by_cases hi0 : i < len * ie.size
          · rw [if_neg (by omega), List.getElem?_append_left (by omega)]
            have := u4 i (vl0[i]'(by omega)) (List.getElem?_eq_getElem (by omega))
            have hcl : c0.toList.length = c0.size := Array.length_toList
            rw [List.getElem?_eq_getElem (show i < vl0.length by omega)]
            simp only [World.cell?, h1'] at this
            simpa [Nat.add_assoc] using this
          · rw [if_pos (by omega), List.getElem?_append_right (by omega), u2]
            congr 1
            omega
        · rw [hszc, List.length_append, u2, v2]
          have := h3'.1
          rw [Nat.add_mul] at hfit
          simp only
          omega
        · rw [hszc]
          have := h3'.1
          simp only
          have e3 : (s'.cap - skip) * ie.size + off = s'.cap * ie.size := by
            rw [q2, ← Nat.add_mul]
            congr 1
            omega
          omega
        · rw [List.length_append, u2, v2, ← Nat.add_mul]
          exact Nat.mul_le_mul_right _ hroom
      have hoth : ∀ j, j ≠ s'.blk → (w.setRow s'.blk (c0.toList.take (s'.base + (off + len * ie.size)) ++ vl ++ c0.toList.drop (s'.base + (off + len * ie.size) + vl.length)).toArray).heap[j]? = w.heap[j]? := fun j hj => setRow_other _ _ _ _ hj
      have hW0 := r.below.size
      refine ⟨_, _, _, ⟨hle, fun j hj => E.more_ne _ _ j (by have hj : ¬ (h.nx ≤ j ∧ j < h.nx + 1) := hj; omega), fun _ _ => rfl, by simp, fun j hj hno => hoth j (fun eq => hno id s' _ q3 hrow e1 eq.symm), fun j sp2 g1 g2 g3 => ?_⟩, ⟨⟨r.below.os, r.below.tape, r.below.output, by simpa using hW0, fun j hj => (hoth j (by omega)).trans (r.below.block j hj)⟩, fun j o' g1 => ?_, fun j j' o1 o2 p1' p2' g1 g2 g3 g4 g5 => ?_⟩, ?_, .inl (execOp_append ho a w _ _ (by rw [hx, hA]; exact run))⟩
      · have g2 : j < h.nx + 1 := g2
        have : j = h.nx := by omega
        subst this
        rw [E.more_at] at g3
        obtain rfl := Option.some.inj g3
        exact .inr ⟨id, s', _, q3, hrow, e1, rfl⟩
      · by_cases hj : j = h.nx
        · subst hj
          have g1 : (((h.hp.put id none).put h.nx (some (.row (l0 ++ l1).length ie.size (trOf (l0 ++ l1) 0 .e)))).get) h.nx = some o' := g1
          rw [hgn] at g1
          obtain rfl := Option.some.inj g1
          exact ⟨_, E.more_at _ _, b', hobj⟩
        · obtain ⟨g2, g3⟩ := hgo j o' hj g1
          obtain ⟨sj, k1, k2, k3⟩ := r.obj j o' g2
          refine ⟨sj, by rw [E.more_ne _ _ j hj]; exact k1, k2, (k3.of_heap (hoth _ fun eq => g3 (r.inj j id o' _ sj s' g2 hrow k1 e1 eq))).le hle⟩
      · by_cases hj : j = h.nx
        · by_cases hj' : j' = h.nx
          · rw [hj, hj']
          · obtain ⟨r2, r3⟩ := hgo j' o2 hj' g2
            subst hj
            rw [E.more_at] at g3
            obtain rfl := Option.some.inj g3
            rw [E.more_ne _ _ j' hj'] at g4
            exact absurd (r.inj j' id o2 _ p2' s' r2 hrow g4 e1 g5.symm) r3
        · obtain ⟨r2, r3⟩ := hgo j o1 hj g1
          rw [E.more_ne _ _ j hj] at g3
          by_cases hj' : j' = h.nx
          · subst hj'
            rw [E.more_at] at g4
            obtain rfl := Option.some.inj g4
            exact absurd (r.inj j id o1 _ p1' s' r2 hrow g3 e1 g5) r3
          · obtain ⟨r4, r5⟩ := hgo j' o2 hj' g2
            rw [E.more_ne _ _ j' hj'] at g4
            exact r.inj j j' o1 o2 p1' p2' r2 r4 g3 g4 g5
      · simp [val, E.more_at]
    · have hlt : sp.cap - skip < len + n := by omega
      have run := run_append_grow (P := P) w t o.type e ie z hu hie hz AA len (sp.cap - skip) vl0 u2 (fun j u hj => by
        rcases hA2 with q | ⟨q, q'⟩
        · rw [q, Addr.add_lit, Nat.add_assoc]; exact u4 j u hj
        · rw [q, Nat.zero_mul] at u2
          rw [List.length_eq_zero_iff.1 u2] at hj
          cases hj) ad n c vl v2 v5 hlt (by omega) (growslice_fits hlt p2)
      obtain ⟨s1, s2⟩ := grown_new r f (vals_append u1 v1) hone hzs (need := len + n) (by rw [List.length_append, u2, v2, Nat.add_mul]) (grownCap_ge w (len + n) (sp.cap - skip) e) e (g' := ((h.hp.put id none).put h.nx (some (.row (l0 ++ l1).length ie.size (trOf (l0 ++ l1) 0 .e)))).get) (fun j o' hj e' => (hgo j o' hj e').1) hgn
      refine ⟨_, _, _, s1, s2, ?_, .inl (execOp_append ho a w _ _ (by rw [hx, hA]; simpa using run))⟩
      simp [val, E.more_at]
  split at hk
  · rename_i hn0
    split at hk
    · rename_i A len cap hs
      obtain ⟨q, hk⟩ := bif_true hk
      refine ⟨_, _, hk, Goes.refl h, same _ hs (fun E w v r e => ?_) hn0⟩
      simp only [val, Option.some.injEq] at e
      exact ⟨A, len, cap, e.symm, Nat.le_of_ble_eq_true q⟩
    · rename_i id off len cap hs
      obtain ⟨q, hk⟩ := bif_true hk
      refine ⟨_, _, hk, Goes.refl h, same _ hs (fun E w v r e => ?_) hn0⟩
      simp only [val, Option.map_eq_some_iff] at e
      obtain ⟨sp, _, rfl⟩ := e
      exact ⟨_, len, cap, rfl, Nat.le_of_ble_eq_true q⟩
    · rename_i id off len skip hs
      split at hk
      case h_2 => cases hk
      rename_i m sz tr hrow
      obtain ⟨q, hk⟩ := bif_true hk
      obtain ⟨q1, q2, q3⟩ := and3 q
      have q1 := Nat.eq_of_beq_eq_true q1
      have q2 := Nat.eq_of_beq_eq_true q2
      have q3 := Nat.le_of_ble_eq_true q3
      refine ⟨_, _, hk, Goes.refl h, same _ hs (fun E w v r e => ?_) hn0⟩
      simp only [val, Option.map_eq_some_iff] at e
      obtain ⟨sp, e1, rfl⟩ := e
      refine ⟨_, len, _, rfl, ?_⟩
      obtain ⟨s', e', _, c, ty, _, _, q5, _⟩ := r.obj id _ hrow
      obtain rfl := Option.some.inj (e'.symm.trans e1)
      rcases q5.2 with q | q
      · omega
      · have : (skip + len) * sz ≤ s'.cap * sz := by rw [Nat.add_mul]; omega
        have := Nat.le_of_mul_le_mul_right this (by omega)
        omega
    · cases hk
  · rename_i hn0
    have hn : 0 < n := by omega
    split at hk
    · -- nil
      rename_i hs
      obtain ⟨q, hk⟩ := bif_true hk
      simp only [Bool.and_eq_true] at q
      have q1 := Nat.le_of_ble_eq_true q.1
      have q2 := Nat.le_of_ble_eq_true q.2
      unfold grownK at hk
      rw [natK_eq, trOfK_eq] at hk
      simp only at hk
      rw [Tr.putK_eq, natK_eq] at hk
      refine ⟨_, _, hk, Goes.new h hbn _, fun E N a w r f fo => ?_⟩
      obtain ⟨A, c, vl, hA, v1, v2, v3, v4⟩ := hsrc E w _ r (opd_ok fo x)
      obtain ⟨ad, rfl, v5⟩ := v4 hn
      have hx := opd_ok fo s
      rw [hs] at hx
      simp only [val, Option.some.injEq] at hx
      have run := run_append_nil (P := P) w t o.type e ie z hu hie hz ad n c vl v2 v5 hn (by omega) (by omega)
      obtain ⟨s1, s2⟩ := grown_new r f v1 v3 hzs v2 (grownCap_ge w n 0 e) e (g' := (h.hp.put h.nx (some (.row l1.length ie.size (trOf l1 0 .e)))).get) (fun j o' hj e' => by rw [Tr.get_put, if_neg hj] at e'; exact e') (by rw [Tr.get_put, if_pos rfl])
      refine ⟨_, _, _, s1, s2, ?_, .inl (execOp_append ho a w _ _ (by rw [← hx, hA]; exact run))⟩
      simp [val, E.more_at]
    · -- fixed
      rename_i id off len cap hs
      split at hk
      case h_2 => cases hk
      rename_i m sz tr hrow
      by_cases hroom : Nat.ble (len + n) cap = true
      · rw [hroom] at hk
        have hk : (bif Nat.ble (off + (len + n) * ie.size) m && (Nat.ble h.bar id && allOne l1) then
                  natK (off + len * ie.size) fun i0 => trOfK l1 i0 tr fun tr' => h.hp.putK id (some (.row m sz tr')) fun hp => natK (len + n) fun n' => k (.sl id off n' cap) ⟨hp, h.nx, h.ne, h.bar⟩ else false) = true := hk
        obtain ⟨q, hk⟩ := bif_true hk
        obtain ⟨q1, q2, q3⟩ := and3 q
        have q1 := Nat.le_of_ble_eq_true q1
        have q2 := Nat.le_of_ble_eq_true q2
        rw [natK_eq, trOfK_eq, Tr.putK_eq, natK_eq] at hk
        refine ⟨_, _, hk, Goes.upd hrow q2, fun E N a w r f fo => ?_⟩
        obtain ⟨A, c, vl, hA, v1, v2, v3, v4⟩ := hsrc E w _ r (opd_ok fo x)
        obtain ⟨ad, rfl, v5⟩ := v4 hn
        have hx := opd_ok fo s
        rw [hs] at hx
        obtain ⟨sp, w', e1, e2, e3, e4, e5, e6, e7, e8⟩ := r.stores (P := P) hrow v1 q3 (off := off + len * ie.size) (by rw [hl1]; rw [Nat.add_mul] at q1; omega)
        simp only [val, e1, Option.map_some, Option.some.injEq] at hx
        have run := run_append_in (P := P) w w' t o.type e ie hu hie ⟨sp.blk, sp.base + off, none⟩ len cap ad n c vl v2 v5 (Nat.le_of_ble_eq_true hroom) (by rw [Addr.add_lit, Nat.add_assoc]; exact e2)
        refine ⟨E, w', _, Step.upd hrow q2 e1 e3 e4, r.upd hrow e1 e5 e6 e7 e3 e4 e8 (fun j => Tr.get_put _ _ _ _), ?_, .inl (execOp_append ho a w _ _ (by rw [← hx, hA]; exact run))⟩
        simp [val, e1]
      · have hroom' : Nat.ble (len + n) cap = false := by rw [Bool.eq_false_iff]; exact hroom
        rw [hroom'] at hk
        have hk : (bif Nat.ble (off + len * ie.size) m && (Nat.ble ((len + n) * ie.bytes) 140737488355328 && Nat.ble (len + n) 9223372036854775807) then
                cellsK tr off (len * ie.size) fun l0 => listK (l0 ++ l1) fun l => natK (len + n) fun n' => grownK h none l ie.size n' k
              else false) = true := hk
        obtain ⟨q, hk⟩ := bif_true hk
        obtain ⟨q1, q2, q3⟩ := and3 q
        have q1 := Nat.le_of_ble_eq_true q1
        have q2 := Nat.le_of_ble_eq_true q2
        have q3 := Nat.le_of_ble_eq_true q3
        have hlt : cap < len + n := by
          rcases Nat.lt_or_ge cap (len + n) with g | g
          · exact g
          · exact absurd (Nat.ble_eq_true_of_le g) hroom
        obtain ⟨l0, hk, hl0, hg0⟩ := cellsK_ok _ _ _ _ hk
        rw [listK_eq, natK_eq] at hk
        unfold grownK at hk
        rw [natK_eq, trOfK_eq] at hk
        simp only at hk
        rw [Tr.putK_eq, natK_eq] at hk
        refine ⟨_, _, hk, Goes.new h hbn _, fun E N a w r f fo => ?_⟩
        obtain ⟨A, c, vl, hA, v1, v2, v3, v4⟩ := hsrc E w _ r (opd_ok fo x)
        obtain ⟨ad, rfl, v5⟩ := v4 hn
        obtain ⟨sp, vl0, e1, u1, u2, u3, u4⟩ := r.cellsAt hrow q1 hl0 hg0
        have hx := opd_ok fo s
        rw [hs] at hx
        simp only [val, e1, Option.map_some, Option.some.injEq] at hx
        have run := run_append_grow (P := P) w t o.type e ie z hu hie hz ⟨sp.blk, sp.base + off, none⟩ len cap vl0 u2 (fun j u hj => by rw [Addr.add_lit, Nat.add_assoc]; exact u4 j u hj) ad n c vl v2 v5 hlt (by omega) (growslice_fits hlt q2)
        obtain ⟨s1, s2⟩ := grown_new r f (vals_append u1 v1) (by intro u hu; rcases List.mem_append.1 hu with g | g; exact u3 u g; exact v3 u g) hzs (need := len + n) (by rw [List.length_append, u2, v2, Nat.add_mul]) (grownCap_ge w (len + n) cap e) e (g' := (h.hp.put h.nx (some (.row (l0 ++ l1).length ie.size (trOf (l0 ++ l1) 0 .e)))).get) (fun j o' hj e' => by rw [Tr.get_put, if_neg hj] at e'; exact e') (by rw [Tr.get_put, if_pos rfl])
        refine ⟨_, _, _, s1, s2, ?_, .inl (execOp_append ho a w _ _ (by rw [← hx, hA]; simpa using run))⟩
        simp [val, E.more_at]
    · -- an empty rest
      rename_i j id off skip hs
      split at hk
      case h_2 => cases hk
      rename_i m sz tr hrow
      obtain ⟨q, hk⟩ := bif_true hk
      obtain ⟨q1, q2, q3⟩ := and3 q
      have q1 := Nat.eq_of_beq_eq_true q1
      have q2 := Nat.eq_of_beq_eq_true q2
      have q3 := Nat.le_of_ble_eq_true q3
      subst q1
      refine room hn id off 0 skip m tr hrow q2 q3 (fun E N a w r f fo sp e1 => ?_) hk
      have hx := opd_ok fo s
      rw [hs] at hx
      simp only [val, e1, Option.map_some, Option.bind_eq_some_iff] at hx
      obtain ⟨p, _, A, _, hx⟩ := hx
      refine ⟨_, (Option.some.inj hx).symm, ?_⟩
      by_cases hc : sp.cap = skip
      · exact .inr ⟨rfl, hc⟩
      · rw [if_neg hc]; exact .inl rfl
    · -- may have room
      rename_i id off len skip hs
      split at hk
      case h_2 => cases hk
      rename_i m sz tr hrow
      obtain ⟨q, hk⟩ := bif_true hk
      obtain ⟨q1, q2, q3, q4⟩ := and4 q
      have q1 := Nat.eq_of_beq_eq_true q1
      have q2 := Nat.eq_of_beq_eq_true q2
      have q3 := Nat.le_of_ble_eq_true q3
      subst q1
      have capOk : ∀ (E : Env) (w : World) (s : Spot), Rel W0 E h.hp.get w → E.at_ id = some s → m ≤ s.cap * ie.size := by
        intro E w s r e
        obtain ⟨s', e', _, c, ty, _, _, q5, _⟩ := r.obj id _ hrow
        obtain rfl := Option.some.inj (e'.symm.trans e)
        rcases q5.2 with q | q
        · omega
        · exact q
      by_cases hin : Nat.ble (off + (len + n) * ie.size) m = true
      · rw [hin] at hk
        have hk : (natK (off + len * ie.size) fun i0 => trOfK l1 i0 tr fun tr' => h.hp.putK id (some (.row m ie.size tr')) fun hp => natK (len + n) fun n' => k (.slr id off n' skip) ⟨hp, h.nx, h.ne, h.bar⟩) = true := hk
        have hin := Nat.le_of_ble_eq_true hin
        rw [natK_eq, trOfK_eq, Tr.putK_eq, natK_eq] at hk
        refine ⟨_, _, hk, Goes.upd hrow q3, fun E N a w r f fo => ?_⟩
        obtain ⟨A, c, vl, hA, v1, v2, v3, v4⟩ := hsrc E w _ r (opd_ok fo x)
        obtain ⟨ad, rfl, v5⟩ := v4 hn
        have hx := opd_ok fo s
        rw [hs] at hx
        obtain ⟨sp, w', e1, e2, e3, e4, e5, e6, e7, e8⟩ := r.stores (P := P) hrow v1 q4 (off := off + len * ie.size) (by rw [hl1]; rw [Nat.add_mul] at hin; omega)
        simp only [val, e1, Option.map_some, Option.some.injEq] at hx
        have hcap := capOk E w sp r e1
        have hroom : len + n ≤ sp.cap - skip := by
          have : (skip + (len + n)) * ie.size ≤ sp.cap * ie.size := by rw [Nat.add_mul]; omega
          have := Nat.le_of_mul_le_mul_right this hsp
          omega
        have run := run_append_in (P := P) w w' t o.type e ie hu hie ⟨sp.blk, sp.base + off, none⟩ len (sp.cap - skip) ad n c vl v2 v5 hroom (by rw [Addr.add_lit, Nat.add_assoc]; exact e2)
        refine ⟨E, w', _, Step.upd hrow q3 e1 e3 e4, r.upd hrow e1 e5 e6 e7 e3 e4 e8 (fun j => Tr.get_put _ _ _ _), ?_, .inl (execOp_append ho a w _ _ (by rw [← hx, hA]; exact run))⟩
        simp [val, e1]
      · have hin' : Nat.ble (off + (len + n) * ie.size) m = false := by rw [Bool.eq_false_iff]; exact hin
        rw [hin'] at hk
        have hk : (bif Nat.beq (off + len * ie.size) m && (Nat.ble ((len + n) * ie.bytes) 140737488355328 && Nat.ble (len + n) 9223372036854775807) then
                  cellsK tr off (len * ie.size) fun l0 => listK (l0 ++ l1) fun l => natK (len + n) fun n' => grownK h (some id) l ie.size n' k
                else false) = true := hk
        exact room hn id off len skip m tr hrow q2 q3 (fun E N a w r f fo sp e1 => ⟨⟨sp.blk, sp.base + off, none⟩, by
          have hx := opd_ok fo s
          rw [hs] at hx
          simp only [val, e1, Option.map_some, Option.some.injEq] at hx
          exact hx.symm, .inl rfl⟩) hk
    · cases hk
end Go.Proofs.YtjbjpjaeagopjaaGreat.Ev
