/- Operations that make objects: new variables, boxes, slices, maps. -/
import Derived.Test.YtjbjpjaeagopjaaGreatEvRead6
import Derived.Laws.CopyRow
import Derived.Great.BuildSlice
import Derived.Laws.MakeOwn
set_option linter.unusedSimpArgs false
set_option linter.unusedVariables false
set_option linter.unusedSectionVars false
namespace Go.Proofs.YtjbjpjaeagopjaaGreat.Ev
open Go
variable [GTab] {P : Program} {W0 : World} [GOk W0] {fr : Tr SV} {o : Oper}

/-- It yields sv; the objects and the world go on. -/
def EffOk (P : Program) (W0 : World) (o : Oper) (fr : Tr SV) (h h' : HS) (sv : SV) : Prop :=
  ∀ E N a w, Rel W0 E h.hp.get w → Free E h.nx h'.nx h.ne h'.ne → FrOk E fr N a → ∃ E' w' v, Step h.bar h.hp.get h.nx h'.nx h.ne h'.ne E E' w w' ∧ Rel W0 E' h'.hp.get w' ∧ val E' sv = some v ∧
    ((execOp a.eval o).run P w = .ok (.value v) w' ∨ ((execOp a.eval o).run P w = .ok .skip w' ∧ v = undef))

noncomputable def oneS (s : SV) : Bool :=
  SV.rec (motive_1 := fun _ => Bool) (motive_2 := fun _ => Unit) (fun _ => true) (fun _ _ => true) (fun v => v.oneCell') (fun _ _ => true) (fun _ _ _ _ => true) (fun _ _ _ _ => true) (fun _ _ _ _ => true) (fun _ => true) (fun _ _ _ _ _ => true) (fun _ _ _ => true) (fun _ _ => false) (fun _ _ => false) (fun _ => true) (fun _ => false) () (fun _ _ _ _ => ()) s
theorem oneS_ok {E : Env} {s : SV} {v : Value} (h : oneS s = true) (hv : val E s = some v) : v.oneCell' = true := by
  cases s with
  | agg l => cases h
  | tup l => cases h
  | lit x => simp only [val, Option.some.injEq] at hv; subst hv; exact h
  | ptr id off => simp only [val, Option.map_eq_some_iff] at hv; obtain ⟨_, _, rfl⟩ := hv; rfl
  | sl id off len cap => simp only [val, Option.map_eq_some_iff] at hv; obtain ⟨_, _, rfl⟩ := hv; rfl
  | slr id off len cap => simp only [val, Option.map_eq_some_iff] at hv; obtain ⟨_, _, rfl⟩ := hv; rfl
  | emp j id off skip => simp only [val, Option.bind_eq_some_iff, Option.map_eq_some_iff] at hv; obtain ⟨_, _, _, _, _, _, rfl⟩ := hv; rfl
  | map id => simp only [val, Option.map_eq_some_iff] at hv; obtain ⟨_, _, rfl⟩ := hv; rfl
  | yld id => simp only [val, Option.map_eq_some_iff] at hv; obtain ⟨_, _, rfl⟩ := hv; rfl
  | mks l => cases h
  | iface t x => simp only [val, Option.map_eq_some_iff] at hv; obtain ⟨_, _, rfl⟩ := hv; rfl
  | fn f a b => simp only [val, Option.map_eq_some_iff, Option.bind_eq_some_iff] at hv; obtain ⟨_, _, _, _, rfl⟩ := hv; rfl
  | bool b => simp only [val, Option.some.injEq] at hv; subst hv; rfl
  | int k n => simp only [val, Option.some.injEq] at hv; subst hv; rfl
noncomputable def allOne (l : List SV) : Bool := List.rec true (fun s _ ih => Bool.rec false ih (oneS s)) l
theorem allOne_cons {s : SV} {r : List SV} (h : allOne (s :: r) = true) : oneS s = true ∧ allOne r = true := by
  have h : (Bool.rec false (allOne r) (oneS s) : Bool) = true := h
  cases e : oneS s with
  | false => rw [e] at h; cases h
  | true => rw [e] at h; exact ⟨rfl, h⟩
theorem allOne_ok : ∀ {l : List SV}, allOne l = true → ∀ s ∈ l, oneS s = true
  | [], _, s, hs => by cases hs
  | x :: r, h, s, hs => by
    obtain ⟨h1, h2⟩ := allOne_cons h
    rcases List.mem_cons.1 hs with rfl | hs
    · exact h1
    · exact allOne_ok h2 s hs
theorem allOne_vals {E : Env} {l : List SV} {vl : List Value} (h : allOne l = true) (hv : vals E l = some vl) : ∀ v ∈ vl, v.oneCell' = true := by
  intro v hm
  obtain ⟨i, hi, rfl⟩ := List.getElem_of_mem hm
  have hl : i < l.length := by rw [← vals_length hv]; exact hi
  obtain ⟨v', e1, e2⟩ := vals_one hv (List.getElem?_eq_getElem hl)
  rw [List.getElem?_eq_getElem hi] at e2
  obtain rfl := Option.some.inj e2
  exact oneS_ok (allOne_ok h _ (List.getElem_mem hl)) e1

noncomputable def trOf : List SV → Nat → Tr SV → Tr SV
  | [], _, t => t
  | s :: r, i, t => trOf r (i + 1) (t.put i (some s))
noncomputable def trOfK (l : List SV) (i0 : Nat) (t0 : Tr SV) (k0 : Tr SV → Bool) : Bool :=
  List.rec (motive := fun _ => Nat → Tr SV → (Tr SV → Bool) → Bool) (fun _ t k => k t) (fun s _ ih i t k => t.putK i (some s) fun t' => ih (Nat.succ i) t' k) l i0 t0 k0
theorem trOfK_eq : ∀ (l : List SV) (i : Nat) (t : Tr SV) (k : Tr SV → Bool), trOfK l i t k = k (trOf l i t)
  | [], _, _, _ => rfl
  | s :: r, i, t, k => by
    show (t.putK i (some s) fun t' => trOfK r (i + 1) t' k) = _
    rw [Tr.putK_eq, trOfK_eq r]
    rfl
theorem get_trOf : ∀ (l : List SV) (i : Nat) (t : Tr SV) (j : Nat), (trOf l i t).get j = if i ≤ j ∧ j < i + l.length then l[j - i]? else t.get j
  | [], i, t, j => by rw [trOf, if_neg (fun h => by have := h.2; simp only [List.length_nil] at this; omega)]
  | s :: r, i, t, j => by
    rw [trOf, get_trOf r, Tr.get_put]
    by_cases h : j = i
    · subst h
      rw [if_neg (by omega), if_pos rfl, if_pos (by simp)]
      simp
    · rw [if_neg h]
      by_cases h2 : i + 1 ≤ j ∧ j < i + 1 + r.length
      · rw [if_pos h2, if_pos (by simp; omega), show j - i = (j - (i + 1)) + 1 by omega]
        simp
      · rw [if_neg h2, if_neg (by simp; omega)]
theorem objOk_row {E : Env} {l : List SV} {vl : List Value} (hv : vals E l = some vl) (ho : allOne l = true) {s : Spot} {w : World} {ty : TypeId} (hh : w.heap[s.blk]? = some (.cells vl.toArray ty (0, 0))) (hb : s.base = 0) {sz : Nat} (hc : (sz = 0) ∨ s.cap * sz = l.length) :
    objOk E s w (.row l.length sz (trOf l 0 .e)) := by
  have hlen := vals_length hv
  refine ⟨vl.toArray, ty, hh, by simp [hb, hlen], ⟨by rcases hc with hc | hc <;> simp [hb, hc, hlen], by rcases hc with hc | hc <;> omega⟩, fun i hi => ?_⟩
  obtain ⟨v, e1, e2⟩ := vals_one hv (List.getElem?_eq_getElem hi)
  refine ⟨l[i], v, ?_, e1, oneS_ok (allOne_ok ho _ (List.getElem_mem hi)) e1, ?_⟩
  · rw [get_trOf, if_pos ⟨Nat.zero_le _, by omega⟩]
    simp
  · simp [hb, e2]

/-- The numbers worked out. -/
noncomputable def normH (h : HS) (k : HS → Bool) : Bool := HS.rec (fun hp nx ne bar => natK nx fun nx' => natK ne fun ne' => natK bar fun bar' => k ⟨hp, nx', ne', bar'⟩) h
theorem normH_eq (h : HS) (k : HS → Bool) : normH h k = k h := by
  obtain ⟨hp, nx, ne, bar⟩ := h
  show (natK nx fun nx' => natK ne fun ne' => natK bar fun bar' => k ⟨hp, nx', ne', bar'⟩) = _
  rw [natK_eq, natK_eq, natK_eq]
/-- A new object at the next number. -/
noncomputable def newK (h : HS) (so : SO) (k : HS → Bool) : Bool := HS.rec (fun hp nx ne bar => hp.putK nx (some so) fun hp' => natK (Nat.succ nx) fun nx' => k ⟨hp', nx', ne, bar⟩) h
theorem newK_eq (h : HS) (so : SO) (k : HS → Bool) : newK h so k = k ⟨h.hp.put h.nx (some so), h.nx + 1, h.ne, h.bar⟩ := by
  obtain ⟨hp, nx, ne, bar⟩ := h
  show (hp.putK nx (some so) fun hp' => natK (Nat.succ nx) fun nx' => k ⟨hp', nx', ne, bar⟩) = _
  rw [Tr.putK_eq, natK_eq]
theorem Goes.new (h : HS) (hb : h.bar ≤ h.nx) (so : SO) : Goes h ⟨h.hp.put h.nx (some so), h.nx + 1, h.ne, h.bar⟩ := by
  refine ⟨fun id hid => ?_, rfl, Nat.le_succ _, Nat.le_refl _, fun id o0 e => ?_⟩
  · show (h.hp.put h.nx (some so)).get id = _
    rw [Tr.get_put, if_neg (by omega)]
  · have e : (h.hp.put h.nx (some so)).get id = some o0 := e
    rw [Tr.get_put] at e
    by_cases hn : id = h.nx
    · exact .inl ⟨by omega, by show id < h.nx + 1; omega⟩
    · rw [if_neg hn] at e; exact .inr ⟨o0, e⟩
theorem new_rel {E : Env} {w : World} {h : HS} (r : Rel W0 E h.hp.get w) (f : Free E h.nx (h.nx + 1) h.ne h.ne) {so : SO} {ob : Obj} {cap : Nat} (hob : ∀ w' : World, w'.heap[w.heap.size]? = some ob → objOk (E.more h.nx ⟨w.heap.size, 0, cap⟩) ⟨w.heap.size, 0, cap⟩ w' so) :
    Step h.bar h.hp.get h.nx (h.nx + 1) h.ne h.ne E (E.more h.nx ⟨w.heap.size, 0, cap⟩) w { w with heap := w.heap.push ob } ∧ Rel W0 (E.more h.nx ⟨w.heap.size, 0, cap⟩) (h.hp.put h.nx (some so)).get { w with heap := w.heap.push ob } := by
  have hn := f.at_ h.nx (Nat.le_refl _) (Nat.lt_succ_self _)
  exact ⟨Step.new _ _ _ _ _ _ _ _ hn, r.new hn (hob _ (by simp)) (fun j => Tr.get_put _ _ _ _)⟩

/-! ### a new variable, a box -/
noncomputable def efRow (h : HS) (l : List SV) (k : SV → HS → Bool) : Bool :=
  bif Nat.ble h.bar h.nx && allOne l then natK l.length fun n => trOfK l 0 .e fun t => newK h (.row n 0 t) fun h' => k (.ptr h.nx 0) h' else false
theorem efRow_ok {h : HS} {l : List SV} {k : SV → HS → Bool} (hk : efRow h l k = true) (hrun : ∀ E N a w, FrOk E fr N a → ∃ vl ty, vals E l = some vl ∧ (execOp a.eval o).run P w = .ok (.value (.pointer (some ⟨w.heap.size, 0, none⟩))) { w with heap := w.heap.push (.cells vl.toArray ty) }) :
    ∃ sv h', k sv h' = true ∧ Goes h h' ∧ EffOk P W0 o fr h h' sv := by
  unfold efRow at hk
  obtain ⟨h1, hk⟩ := bif_true hk
  simp only [Bool.and_eq_true] at h1
  rw [natK_eq, trOfK_eq, newK_eq] at hk
  refine ⟨_, _, hk, Goes.new h (Nat.le_of_ble_eq_true h1.1) _, fun E N a w r f fo => ?_⟩
  obtain ⟨vl, ty, e1, e2⟩ := hrun E N a w fo
  have hn := f.at_ h.nx (Nat.le_refl _) (Nat.lt_succ_self _)
  obtain ⟨s1, s2⟩ := new_rel r f (so := .row l.length 0 (trOf l 0 .e)) (ob := .cells vl.toArray ty) (cap := 0) (fun w' hw' => objOk_row (vals_le' (E.le_more _ _ hn) e1) h1.2 hw' rfl (.inl rfl))
  exact ⟨_, _, _, s1, s2, by simp [val, E.more_at], .inl e2⟩
where
  vals_le' {E E' : Env} (h : E.le E') {l : List SV} {v : List Value} (e : vals E l = some v) : vals E' l = some v := vals_le h l v e
noncomputable def efAlloc (P : Program) (el : TypeId) (h : HS) (k : SV → HS → Bool) : Bool :=
  match P.info? el with
  | some i => (match i.zero with
    | some z => efRow h (cellsS (ofV z)) k
    | none => false)
  | none => false
theorem efAlloc_ok {el : TypeId} {h : HS} {k : SV → HS → Bool} (ho : o.op = .alloc el) (hk : efAlloc P el h k = true) : ∃ sv h', k sv h' = true ∧ Goes h h' ∧ EffOk P W0 o fr h h' sv := by
  unfold efAlloc at hk
  split at hk
  case h_2 => cases hk
  rename_i i hi
  split at hk
  case h_2 => cases hk
  rename_i z hz
  refine efRow_ok hk fun E N a w fo => ⟨z.cells.toList, el, cellsS_ok (val_ofV E z), ?_⟩
  unfold execOp
  rw [ho]
  simp [Instr.alloc, zeroValue, typeInfo, hi, hz, newVar, newRow, Sem.run_bind, Result.andThen, newObj, Sem.run]
noncomputable def efBox (fr : Tr SV) (x : Operand) (h : HS) (k : SV → HS → Bool) : Bool := opdK fr x fun s => efRow h (cellsS s) k
theorem efBox_ok {el : TypeId} {x : Operand} {h : HS} {k : SV → HS → Bool} (ho : o.op = .box el x) (hk : efBox fr x h k = true) : ∃ sv h', k sv h' = true ∧ Goes h h' ∧ EffOk P W0 o fr h h' sv := by
  unfold efBox at hk
  rw [opdK_eq] at hk
  refine efRow_ok hk fun E N a w fo => ⟨(a.eval x).cells.toList, el, cellsS_ok (opd_ok fo x), ?_⟩
  unfold execOp
  rw [ho]
  simp [Instr.box, newVar, newRow, Sem.run_bind, Result.andThen, newObj, Sem.run]

/-! ### a new map -/
noncomputable def efMakeMap (P : Program) (t : TypeId) (res : Option Operand) (h : HS) (k : SV → HS → Bool) : Bool :=
  match res with
  | none => bif Nat.ble h.bar h.nx then newK h (.mp [] 0) fun h' => k (.map h.nx) h' else false
  | some _ => false
theorem efMakeMap_ok {t : TypeId} {res : Option Operand} {h : HS} {k : SV → HS → Bool} (ho : o.op = .makeMap t res) (hk : efMakeMap P t res h k = true) : ∃ sv h', k sv h' = true ∧ Goes h h' ∧ EffOk P W0 o fr h h' sv := by
  unfold efMakeMap at hk
  split at hk
  case h_2 => cases hk
  obtain ⟨h1, hk⟩ := bif_true hk
  rw [newK_eq] at hk
  refine ⟨_, _, hk, Goes.new h (Nat.le_of_ble_eq_true h1) _, fun E N a w r f fo => ?_⟩
  obtain ⟨s1, s2⟩ := new_rel r f (so := .mp [] 0) (ob := .map #[] 0) (cap := 0) (fun w' hw' => ⟨[], by simpa using hw', .nil⟩)
  refine ⟨_, _, .map (some w.heap.size), s1, s2, by simp [val, E.more_at], .inl ?_⟩
  unfold execOp
  rw [ho]
  simp [Instr.makeMap, Sem.run_bind, Result.andThen, newObj, Sem.run]

/-! ### a slice literal, made slices -/
noncomputable def efBuildSlice (P : Program) (t : TypeId) (len : Nat) (parts : Array (Nat × Operand)) (fr : Tr SV) (h : HS) (k : SV → HS → Bool) : Bool :=
  match P.underlying t with
  | some (.slice e) => (match P.info? e with
    | some ie => bif Nat.beq len 0 then (match parts.toList with
      | [] => bif Nat.ble h.bar h.nx then newK h (.row 0 0 .e) fun h' => k (.sl h.nx 0 0 0) h' else false
      | _ => false) else (match ie.zero with
      | some z => bif Nat.ble (len * ie.size) 16777216 && (Nat.blt 0 (len * ie.size) && Nat.ble h.bar h.nx) then
        (match fillS (fun i => some (i * ie.size, ie.size)) ((List.range (len * ie.size)).map fun i => ofV (z.cells[i % z.cells.size]!)) (partsS fr parts.toList) with
        | some l => listK l fun l => bif allOne l then natK l.length fun n => trOfK l 0 .e fun t => newK h (.row n 0 t) fun h' => k (.sl h.nx 0 len len) h' else false
        | none => false) else false
      | none => false)
    | none => false)
  | _ => false
theorem run_buildSlice0 (w : World) (t e : TypeId) (ie : TypeInfo) (hu : P.underlying t = some (.slice e)) (hie : P.info? e = some ie) : (Instr.buildSlice t 0 #[]).run P w = .ok (.slice (some ⟨w.heap.size, 0, none⟩) 0 0) (w.alloc (.cells #[] e)) := by
  have e0 : Array.range 0 = #[] := by rw [← Array.toList_inj]; simp
  simp [Instr.buildSlice, run_underlying hu, sizeOf, typeInfo, hie, Instr.fill, newRow, e0]
theorem efBuildSlice_ok {t : TypeId} {len : Nat} {parts : Array (Nat × Operand)} {h : HS} {k : SV → HS → Bool} (ho : o.op = .buildSlice t len parts) (hk : efBuildSlice P t len parts fr h k = true) : ∃ sv h', k sv h' = true ∧ Goes h h' ∧ EffOk P W0 o fr h h' sv := by
  unfold efBuildSlice at hk
  split at hk
  case h_2 => cases hk
  rename_i e hu
  split at hk
  case h_2 => cases hk
  rename_i ie hie
  rw [Tr.bif_beq] at hk
  split at hk
  · rename_i hl0
    subst hl0
    split at hk
    case h_2 => cases hk
    rename_i hpl
    obtain ⟨h1, hk⟩ := bif_true hk
    rw [newK_eq] at hk
    refine ⟨_, _, hk, Goes.new h (Nat.le_of_ble_eq_true h1) _, fun E N a w r f fo => ?_⟩
    have hn := f.at_ h.nx (Nat.le_refl _) (Nat.lt_succ_self _)
    obtain ⟨s1, s2⟩ := new_rel r f (so := .row 0 0 .e) (ob := .cells #[] e) (cap := 0) (fun w' hw' => ⟨#[], e, by simpa using hw', by simp, ⟨by simp, .inl rfl⟩, fun i hi => absurd hi (Nat.not_lt_zero _)⟩)
    refine ⟨_, _, .slice (some ⟨w.heap.size, 0, none⟩) 0 0, s1, s2, by simp [val, E.more_at], .inl ?_⟩
    have hp0 : parts = #[] := by rw [← Array.toList_inj]; exact hpl
    subst hp0
    unfold execOp
    rw [ho]
    simp only [Sem.run_bind, Array.map_empty]
    rw [run_buildSlice0 w t e ie hu hie]
    rfl
  split at hk
  case h_2 => cases hk
  rename_i z hz
  obtain ⟨h1, hk⟩ := bif_true hk
  obtain ⟨h1, h2, h3⟩ := and3 h1
  have h1 := Nat.le_of_ble_eq_true h1
  have h2 := blt_lt h2
  split at hk
  case h_2 => cases hk
  rename_i l hl
  rw [listK_eq] at hk
  obtain ⟨h4, hk⟩ := bif_true hk
  rw [natK_eq, trOfK_eq, newK_eq] at hk
  refine ⟨_, _, hk, Goes.new h (Nat.le_of_ble_eq_true h3) _, fun E N a w r f fo => ?_⟩
  obtain ⟨p1, p2⟩ := partsS_ok fo parts.toList
  have hz0 : vals E ((List.range (len * ie.size)).map fun i => ofV (z.cells[i % z.cells.size]!)) = some ((List.range (len * ie.size)).map fun i => z.cells[i % z.cells.size]!) := by
    have := vals_ofV E ((List.range (len * ie.size)).map fun i => z.cells[i % z.cells.size]!)
    rw [List.map_map] at this
    exact this
  obtain ⟨vo, k1, k2⟩ := fillS_ok (E := E) _ _ _ _ _ l hz0 p1 p2 hl
  have hn := f.at_ h.nx (Nat.le_refl _) (Nat.lt_succ_self _)
  obtain ⟨s1, s2⟩ := new_rel r f (so := .row l.length 0 (trOf l 0 .e)) (ob := .cells vo.toArray e) (cap := 0) (fun w' hw' => objOk_row (vals_le (E.le_more _ _ hn) _ _ k1) h4 hw' rfl (.inl rfl))
  refine ⟨_, _, .slice (some ⟨w.heap.size, 0, none⟩) len len, s1, s2, by simp [val, E.more_at], .inl ?_⟩
  unfold execOp
  rw [ho]
  have e1 : (parts.map fun (x : Nat × Operand) => (x.1, a.eval x.2)).toList = parts.toList.map fun x => (x.1, a.eval x.2) := by simp
  have hr := run_buildSlice (P := P) w t e len (parts.map fun (x : Nat × Operand) => (x.1, a.eval x.2)) vo.toArray ie z hu hie hz (by omega) (by omega) (by
    rw [e1]
    have e2 : (Array.range (len * ie.size)).map (fun i => z.cells[i % z.cells.size]!) = ((List.range (len * ie.size)).map fun i => z.cells[i % z.cells.size]!).toArray := by
      apply Array.ext'
      simp
    rw [e2]
    exact k2)
  simp only [Sem.run_bind]
  rw [show (Instr.buildSlice t len (parts.map fun x => match x with | (i, x) => (i, a.eval x))).run P w = _ from hr]
  rfl
end Go.Proofs.YtjbjpjaeagopjaaGreat.Ev
