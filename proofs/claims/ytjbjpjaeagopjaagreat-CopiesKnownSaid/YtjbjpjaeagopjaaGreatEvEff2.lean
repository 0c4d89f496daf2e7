/- Stores, made slices, writing to maps. -/
import Derived.Test.YtjbjpjaeagopjaaGreatEvEff
set_option linter.unusedSimpArgs false
set_option linter.unusedVariables false
set_option linter.unusedSectionVars false
namespace Go.Proofs.YtjbjpjaeagopjaaGreat.Ev
open Go
variable [GTab] {P : Program} {W0 : World} [GOk W0] {fr : Tr SV} {o : Oper}

theorem loadList (l : List Value) (o m : Nat) (vs : List Value) (h : o + vs.length ≤ l.length) (i : Nat) : (l.take o ++ vs ++ l.drop (o + vs.length))[i]? = if o ≤ i ∧ i < o + vs.length then vs[i - o]? else l[i]? := by
  by_cases h1 : i < o
  · rw [if_neg (by omega), List.append_assoc, List.getElem?_append_left (by rw [List.length_take]; omega), List.getElem?_take, if_pos h1]
  · by_cases h2 : i < o + vs.length
    · rw [if_pos ⟨by omega, h2⟩, List.append_assoc, List.getElem?_append_right (by rw [List.length_take]; omega), List.getElem?_append_left (by rw [List.length_take]; omega), List.length_take]
      congr 1
      omega
    · rw [if_neg (by omega), List.getElem?_append_right (by rw [List.length_append, List.length_take]; omega), List.getElem?_drop, List.length_append, List.length_take]
      congr 1
      omega
/-- Cells put into a row that is held: the world behind it. -/
theorem Rel.stores {E : Env} {g : Hp} {w : World} (r : Rel W0 E g w) {id n sz off : Nat} {t : Tr SV} (hid : g id = some (.row n sz t)) {l : List SV} {vl : List Value} (hv : vals E l = some vl) (h1 : allOne l = true) (hn : off + l.length ≤ n) :
    ∃ s w', E.at_ id = some s ∧ (storeCells ⟨s.blk, s.base + off, none⟩ vl).run P w = .ok () w' ∧ w'.heap.size = w.heap.size ∧ (∀ k, k ≠ s.blk → w'.heap[k]? = w.heap[k]?) ∧ w'.os = w.os ∧ w'.tape = w.tape ∧ w'.output = w.output ∧ objOk E s w' (.row n sz (trOf l off t)) := by
  obtain ⟨s, a, _, c, ty, q1, q2, q3, q4⟩ := r.obj id _ hid
  have hlen := vals_length hv
  have run := run_storeCells_at P s.blk (s.base + off) ty vl 0 c w q1 (by omega) (allOne_vals h1 hv)
  simp only [Nat.add_zero] at run
  refine ⟨s, _, a, run, size_setRow _ _ _, fun k hk => setRow_other _ _ _ _ hk, rfl, rfl, rfl, _, ty, setRow_heap _ _ _ _ _ _ q1, ?_, ?_, ?_⟩
  · simp; omega
  · refine ⟨?_, q3.2⟩
    have := q3.1
    simp
    omega
  · intro i hi
    have hl := loadList c.toList (s.base + off) 0 vl (by simp; omega) (s.base + i)
    by_cases h2 : off ≤ i ∧ i < off + l.length
    · have hj : i - off < l.length := by omega
      obtain ⟨v, e1, e2⟩ := vals_one hv (List.getElem?_eq_getElem hj)
      refine ⟨l[i - off], v, ?_, e1, oneS_ok (allOne_ok h1 _ (List.getElem_mem hj)) e1, ?_⟩
      · rw [get_trOf, if_pos h2]; exact List.getElem?_eq_getElem hj
      · rw [if_pos (by omega)] at hl
        rw [List.getElem?_toArray, hl, ← e2]
        congr 1
        omega
    · obtain ⟨sv, v, e1, e2, e3, e4⟩ := q4 i hi
      refine ⟨sv, v, ?_, e2, e3, ?_⟩
      · rw [get_trOf, if_neg h2]; exact e1
      · rw [if_neg (by omega)] at hl
        rw [List.getElem?_toArray, hl]
        simpa using e4
theorem Goes.upd {h : HS} {id : Nat} {o0 so : SO} (hid : h.hp.get id = some o0) (hb : h.bar ≤ id) : Goes h ⟨h.hp.put id (some so), h.nx, h.ne, h.bar⟩ := by
  refine ⟨fun j hj => ?_, rfl, Nat.le_refl _, Nat.le_refl _, fun j x e => ?_⟩
  · show (h.hp.put id (some so)).get j = _
    rw [Tr.get_put, if_neg (by omega)]
  · have e : (h.hp.put id (some so)).get j = some x := e
    rw [Tr.get_put] at e
    by_cases hj : j = id
    · exact .inr ⟨o0, by rw [hj]; exact hid⟩
    · rw [if_neg hj] at e; exact .inr ⟨x, e⟩
theorem Step.upd {bar : Nat} {g : Hp} {nx ne : Nat} {E : Env} {w w' : World} {id : Nat} {o0 : SO} {s : Spot} (hid : g id = some o0) (hb : bar ≤ id) (hs : E.at_ id = some s) (hsz : w'.heap.size = w.heap.size) (hoth : ∀ k, k ≠ s.blk → w'.heap[k]? = w.heap[k]?) :
    Step bar g nx nx ne ne E E w w' :=
  ⟨E.le_refl, fun _ _ => rfl, fun _ _ => rfl, by omega, fun k _ hno => hoth k fun e => hno id s o0 hb hid hs e.symm, fun _ _ a b => absurd b (by omega)⟩

noncomputable def efStore (P : Program) (t : TypeId) (x y : Operand) (fr : Tr SV) (h : HS) (k : SV → HS → Bool) : Bool :=
  opdK fr x fun p => match p with
  | .ptr id off => (match h.hp.get id with
    | some (.row n sz tr) => opdK fr y fun q => listK (cellsS q) fun l => (match P.info? t with
      | some i => bif Nat.beq l.length i.size && (Nat.ble (off + l.length) n && (Nat.ble h.bar id && allOne l)) then
          trOfK l off tr fun tr' => h.hp.putK id (some (.row n sz tr')) fun hp => k (.lit undef) ⟨hp, h.nx, h.ne, h.bar⟩ else false
      | none => false)
    | _ => false)
  | _ => false
theorem and4 {a b c d : Bool} (h : (a && (b && (c && d))) = true) : a = true ∧ b = true ∧ c = true ∧ d = true := by simpa [Bool.and_eq_true] using h
theorem efStore_ok {t : TypeId} {x y : Operand} {h : HS} {k : SV → HS → Bool} (ho : o.op = .store t x y) (hk : efStore P t x y fr h k = true) : ∃ sv h', k sv h' = true ∧ Goes h h' ∧ EffOk P W0 o fr h h' sv := by
  unfold efStore at hk
  rw [opdK_eq] at hk
  split at hk
  case h_2 => cases hk
  rename_i id off hp
  split at hk
  case h_2 => cases hk
  rename_i n sz tr hrow
  rw [opdK_eq, listK_eq] at hk
  split at hk
  case h_2 => cases hk
  rename_i i hi
  obtain ⟨h1, hk⟩ := bif_true hk
  obtain ⟨h1, h2, h3, h4⟩ := and4 h1
  have h1 := Nat.eq_of_beq_eq_true h1
  have h2 := Nat.le_of_ble_eq_true h2
  have h3 := Nat.le_of_ble_eq_true h3
  rw [trOfK_eq, Tr.putK_eq] at hk
  refine ⟨_, _, hk, Goes.upd hrow h3, fun E N a w r f fo => ?_⟩
  have hx := opd_ok fo x
  rw [hp] at hx
  have hy := cellsS_ok (opd_ok fo y)
  obtain ⟨s, w', e1, e2, e3, e4, e5, e6, e7, e8⟩ := r.stores (P := P) hrow hy h4 h2
  simp only [val, e1, Option.map_some, Option.some.injEq] at hx
  have hlen := vals_length hy
  refine ⟨E, w', undef, Step.upd hrow h3 e1 e3 e4, r.upd hrow e1 e5 e6 e7 e3 e4 e8 (fun j => Tr.get_put _ _ _ _), rfl, .inr ⟨?_, rfl⟩⟩
  unfold execOp
  rw [ho]
  have hsz : (a.eval y).cells.size = i.size := by rw [← h1, ← hlen]; simp
  simp [Instr.storeAt, ← hx, Instr.sureAddr, storeVar, Sem.run_bind, Result.andThen, run_sizeOf hi, hsz, e2]

noncomputable def efMakeSlice (P : Program) (t : TypeId) (x y : Operand) (fr : Tr SV) (h : HS) (k : SV → HS → Bool) : Bool :=
  match P.underlying t with
  | some (.slice e) => (match P.info? e with
    | some ie => (match ie.zero with
      | some z => opdK fr x fun p => opdK fr y fun q => (match p, q with
        | .int _ (.ofNat l), .int _ (.ofNat c) =>
          bif Nat.ble l c && (Nat.ble (ie.bytes * c) 281474976710656 && (Nat.ble c 9223372036854775807 && Nat.ble h.bar h.nx)) then
            listK ((List.range (c * ie.size)).map fun i => ofV (z.cells[i % z.cells.size]!)) fun l0 => bif allOne l0 then
              natK l0.length fun n => trOfK l0 0 .e fun t => newK h (.row n 0 t) fun h' => k (.sl h.nx 0 l c) h' else false
          else false
        | _, _ => false)
      | none => false)
    | none => false)
  | _ => false
theorem efMakeSlice_ok {t : TypeId} {x y : Operand} {h : HS} {k : SV → HS → Bool} (ho : o.op = .makeSlice t x y) (hk : efMakeSlice P t x y fr h k = true) : ∃ sv h', k sv h' = true ∧ Goes h h' ∧ EffOk P W0 o fr h h' sv := by
  unfold efMakeSlice at hk
  split at hk
  case h_2 => cases hk
  rename_i e hu
  split at hk
  case h_2 => cases hk
  rename_i ie hie
  split at hk
  case h_2 => cases hk
  rename_i z hz
  rw [opdK_eq, opdK_eq] at hk
  split at hk
  case h_2 => cases hk
  rename_i kl l kc c hp hq
  obtain ⟨h1, hk⟩ := bif_true hk
  obtain ⟨h1, h2, h3, h4⟩ := and4 h1
  have h1 := Nat.le_of_ble_eq_true h1
  have h2 := Nat.le_of_ble_eq_true h2
  have h3 := Nat.le_of_ble_eq_true h3
  rw [listK_eq] at hk
  obtain ⟨h5, hk⟩ := bif_true hk
  rw [natK_eq, trOfK_eq, newK_eq] at hk
  refine ⟨_, _, hk, Goes.new h (Nat.le_of_ble_eq_true h4) _, fun E N a w r f fo => ?_⟩
  have hz0 : vals E ((List.range (c * ie.size)).map fun i => ofV (z.cells[i % z.cells.size]!)) = some ((List.range (c * ie.size)).map fun i => z.cells[i % z.cells.size]!) := by
    have := vals_ofV E ((List.range (c * ie.size)).map fun i => z.cells[i % z.cells.size]!)
    rw [List.map_map] at this
    exact this
  have hn := f.at_ h.nx (Nat.le_refl _) (Nat.lt_succ_self _)
  obtain ⟨s1, s2⟩ := new_rel r f (so := .row ((List.range (c * ie.size)).map fun i => ofV (z.cells[i % z.cells.size]!)).length 0 (trOf ((List.range (c * ie.size)).map fun i => ofV (z.cells[i % z.cells.size]!)) 0 .e)) (ob := .cells ((List.range (c * ie.size)).map fun i => z.cells[i % z.cells.size]!).toArray e) (cap := 0)
    (fun w' hw' => objOk_row (vals_le (E.le_more _ _ hn) _ _ hz0) h5 hw' rfl (.inl rfl))
  refine ⟨_, _, .slice (some ⟨w.heap.size, 0, none⟩) l c, s1, s2, by simp [val, E.more_at], .inl ?_⟩
  have hx := opd_ok fo x
  have hy := opd_ok fo y
  rw [hp] at hx
  rw [hq] at hy
  simp only [val, Option.some.injEq] at hx hy
  unfold execOp
  rw [ho]
  have hb : (ie.bytes : Int) * (c : Int) ≤ 281474976710656 := by
    have h : ((ie.bytes * c : Nat) : Int) ≤ 281474976710656 := by omega
    rwa [Int.natCast_mul] at h
  have hr := run_make (P := P) w t e ie z hu hie hz kl kc (l : Int) (c : Int) (by omega) (by omega) hb (by omega)
  have e2 : madeCells z.cells (c * ie.size) = ((List.range (c * ie.size)).map fun i => z.cells[i % z.cells.size]!).toArray := by
    apply Array.ext'
    simp [madeCells]
  simp only [Int.toNat_natCast, e2] at hr
  simp only [← hx, ← hy, Sem.run_bind]
  rw [show (Instr.makeSlice t (.int kl (Int.ofNat l)) (.int kc (Int.ofNat c))).run P w = _ from hr]
  rfl

/-! ### maps -/
noncomputable def setEntry : List (SV × SV × Nat) → Nat → SV → SV → List (SV × SV × Nat)
  | [], _, _, _ => []
  | e :: r, 0, key, v => (key, v, e.2.2) :: r
  | e :: r, i + 1, key, v => e :: setEntry r i key v
theorem setEntry_ok {E : Env} {key v : SV} {vk vv : Value} (hk : val E key = some vk) (hv : val E v = some vv) {es : List (SV × SV × Nat)} {ms : List MapEntry} (h : EntriesOk E es ms) : ∀ i, EntriesOk E (setEntry es i key v) (ms.modify i fun e => { e with key := vk, val := vv }) := by
  induction h with
  | nil => intro i; cases i <;> exact .nil
  | @cons e m es ms hem hrest ih =>
    intro i
    cases i with
    | zero => exact .cons ⟨hk, hv, hem.2.2⟩ hrest
    | succ i => exact .cons hem (ih i)
theorem entries_snoc {E : Env} {e : SV × SV × Nat} {m : MapEntry} (he : entryOk E e m) {es : List (SV × SV × Nat)} {ms : List MapEntry} (h : EntriesOk E es ms) : EntriesOk E (es ++ [e]) (ms ++ [m]) := by
  induction h with
  | nil => exact .cons he .nil
  | cons a _ ih => exact .cons a ih
theorem entries_erase {E : Env} {es : List (SV × SV × Nat)} {ms : List MapEntry} (h : EntriesOk E es ms) : ∀ i, EntriesOk E (es.eraseIdx i) (ms.eraseIdx i) := by
  induction h with
  | nil => intro i; exact .nil
  | cons a k ih =>
    intro i
    cases i with
    | zero => exact k
    | succ i => exact .cons a (ih i)
def entriesK : List (SV × SV × Nat) → (List (SV × SV × Nat) → Bool) → Bool
  | [], k => k []
  | s :: r, k => entriesK r fun l => k (s :: l)
theorem entriesK_eq (l : List (SV × SV × Nat)) : ∀ k, entriesK l k = k l := by
  induction l with
  | nil => intro k; rfl
  | cons s r ih => intro k; rw [entriesK, ih]
/-- The key that lay there may be replaced by the new one. -/
noncomputable def stayM (kd : TypeDesc) (kv : Value) (e : Option (SV × SV × Nat)) : Bool := bif plainKey kd then true else match e with
  | some e => (match flat e.1 with
    | some k0 => Instr.sameBits 10000 k0 kv
    | none => false)
  | none => false
noncomputable def efMapUpdate (P : Program) (t : TypeId) (x ix y : Operand) (fr : Tr SV) (h : HS) (k : SV → HS → Bool) : Bool :=
  match P.underlying t with
  | some (.map kt _) => (match P.underlying kt with
    | some kd => opdK fr x fun p => (match p with
      | .map id => (match h.hp.get id with
        | some (.mp es clock) => opdK fr ix fun q => opdK fr y fun v => (match flat q with
          | some kv => bif chkM P kt kd kv false then (match findM P kt kd kv es with
            | some (some (i, _)) => bif Nat.ble h.bar id && stayM kd kv es[i]? then
                entriesK (setEntry es i q v) fun es' => h.hp.putK id (some (.mp es' clock)) fun hp => k (.lit undef) ⟨hp, h.nx, h.ne, h.bar⟩ else false
            | some none => bif Nat.ble h.bar id then
                entriesK (es ++ [(q, v, clock)]) fun es' => natK (clock + 1) fun c' => h.hp.putK id (some (.mp es' c')) fun hp => k (.lit undef) ⟨hp, h.nx, h.ne, h.bar⟩ else false
            | none => false) else false
          | none => false)
        | _ => false)
      | _ => false)
    | none => false)
  | _ => false
theorem sameBits_of_sameNow {d : TypeDesc} {a b : Value} (hd : plainKey d = true) (h : Instr.sameNow d a b = some true) : Instr.sameBits 10000 b a = true := by
  unfold Instr.sameNow at h
  split at h
  · rename_i kd k1 a1 k2 b1
    split at h
    · rename_i hk
      subst hk
      simp only [Option.some.injEq, beq_iff_eq] at h
      subst h
      simp [Instr.sameBits]
    · cases h
  · simp only [Option.some.injEq] at h
    rename_i a1 b1
    have h : (a1.data == b1.data) = true := h
    show (b1.data == a1.data) = true
    rw [beq_iff_eq] at h ⊢
    exact h.symm
  · simp only [Option.some.injEq, beq_iff_eq] at h
    subst h
    simp [Instr.sameBits]
  · cases h
theorem Rel.setMap {E : Env} {g : Hp} {w : World} (r : Rel W0 E g w) {id : Nat} {es es' : List (SV × SV × Nat)} {clock clock' : Nat} (hid : g id = some (.mp es clock)) {s : Spot} (hs : E.at_ id = some s) {ms' : List MapEntry} (hes : EntriesOk E es' ms') {g' : Hp} (hg : ∀ j, g' j = if j = id then some (.mp es' clock') else g j) :
    Rel W0 E g' { w with heap := w.heap.setIfInBounds s.blk (.map ms'.toArray clock') } := by
  obtain ⟨s', a, b, c⟩ := r.obj id _ hid
  obtain rfl := Option.some.inj (a.symm.trans hs)
  have hlt := c.lt
  exact r.upd (o' := .mp es' clock') hid hs rfl rfl rfl (by simp) (fun k hk => by simp [Array.getElem?_setIfInBounds, Ne.symm hk]) ⟨ms', by simp [Array.getElem?_setIfInBounds, hlt], hes⟩ hg
theorem efMapUpdate_ok {t : TypeId} {x ix y : Operand} {h : HS} {k : SV → HS → Bool} (ho : o.op = .mapUpdate t x ix y ∨ o.op = .insert t x ix y) (hk : efMapUpdate P t x ix y fr h k = true) : ∃ sv h', k sv h' = true ∧ Goes h h' ∧ EffOk P W0 o fr h h' sv := by
  have run : ∀ (a : Act) (w w' : World), (Instr.mapUpdate t (a.eval x) (a.eval ix) (a.eval y)).run P w = .ok () w' → (execOp a.eval o).run P w = .ok .skip w' := by
    intro a w w' h
    unfold execOp
    rcases ho with ho | ho <;> rw [ho] <;> simp only [Sem.run_bind, h, Result.andThen, Sem.run_pure]
  unfold efMapUpdate at hk
  split at hk
  case h_2 => cases hk
  rename_i kt el hu
  split at hk
  case h_2 => cases hk
  rename_i kd hkd
  rw [opdK_eq] at hk
  split at hk
  case h_2 => cases hk
  rename_i id hp
  split at hk
  case h_2 => cases hk
  rename_i es clock hm
  rw [opdK_eq, opdK_eq] at hk
  split at hk
  case h_2 => cases hk
  rename_i kv hkv
  obtain ⟨hchk, hk⟩ := bif_true hk
  have base : ∀ (E : Env) (N : Nat) (a : Act) (w : World), Rel W0 E h.hp.get w → FrOk E fr N a → ∃ (s : Spot) (ms : List MapEntry), E.at_ id = some s ∧ a.eval x = .map (some s.blk) ∧ a.eval ix = kv ∧ w.heap[s.blk]? = some (.map ms.toArray clock) ∧ EntriesOk E es ms ∧ s.blk < w.heap.size := by
    intro E N a w r f
    obtain ⟨s, e1, _, c⟩ := r.obj id _ hm
    have hlt := c.lt
    obtain ⟨ms, e2, e3⟩ := c
    have hx := opd_ok f x
    rw [hp] at hx
    simp only [val, e1, Option.map_some, Option.some.injEq] at hx
    have hy := opd_ok f ix
    rw [val_of_flat E _ _ hkv] at hy
    exact ⟨s, ms, e1, hx.symm, (Option.some.inj hy).symm, e2, e3, hlt⟩
  split at hk
  · rename_i i sv0 hfind
    obtain ⟨hb0, hk⟩ := bif_true hk
    simp only [Bool.and_eq_true] at hb0
    have hb := Nat.le_of_ble_eq_true hb0.1
    rw [entriesK_eq, Tr.putK_eq] at hk
    refine ⟨_, _, hk, Goes.upd hm hb, fun E N a w r f fo => ?_⟩
    obtain ⟨s, ms, e0, e1, e2, e3, e4, e5⟩ := base E N a w r fo
    obtain ⟨v0, key, k1, k2, k3, k4, k5⟩ := (findM_ok hkd e4).1 i sv0 hfind
    have hc := run_chkM hkd hchk w
    have hsb : Instr.sameBits 10000 key.key kv = true := by
      have hst := hb0.2
      unfold stayM at hst
      cases hp : plainKey kd with
      | true => exact sameBits_of_sameNow hp (k4 hp)
      | false =>
        obtain ⟨e, z1, z2⟩ := k5 hp
        rw [hp, cond_false, z1] at hst
        simp only at hst
        split at hst
        · rename_i k0 hk0
          rw [← Option.some.inj ((val_of_flat E _ _ hk0).symm.trans z2.1)]
          exact hst
        · cases hst
    have hy := opd_ok fo y
    have hes := setEntry_ok (val_of_flat E _ _ hkv) hy e4 i
    refine ⟨E, _, undef, Step.upd hm hb e0 (by simp) (fun j hj => by simp [Array.getElem?_setIfInBounds, Ne.symm hj]), r.setMap (clock' := clock) hm e0 hes (fun j => Tr.get_put _ _ _ _), rfl, .inr ⟨run a w _ ?_, rfl⟩⟩
    rw [e1, e2]
    simp [Instr.mapUpdate, Sem.run_bind, run_underlying hu, Result.andThen, getObj, setObj, Sem.run, e3, hc, k2, k3, Instr.keyThatStays, hsb]
  · rename_i hfind
    obtain ⟨hb, hk⟩ := bif_true hk
    have hb := Nat.le_of_ble_eq_true hb
    rw [entriesK_eq, natK_eq, Tr.putK_eq] at hk
    refine ⟨_, _, hk, Goes.upd hm hb, fun E N a w r f fo => ?_⟩
    obtain ⟨s, ms, e0, e1, e2, e3, e4, e5⟩ := base E N a w r fo
    have k2 := (findM_ok hkd e4).2 hfind
    have hc := run_chkM hkd hchk w
    have hy := opd_ok fo y
    have hes := entries_snoc (e := (opd fr ix, opd fr y, clock)) (m := { key := kv, val := a.eval y, born := clock }) ⟨val_of_flat E _ _ hkv, hy, rfl⟩ e4
    refine ⟨E, _, undef, Step.upd hm hb e0 (by simp) (fun j hj => by simp [Array.getElem?_setIfInBounds, Ne.symm hj]), r.setMap (clock' := clock + 1) hm e0 hes (fun j => Tr.get_put _ _ _ _), rfl, .inr ⟨run a w _ ?_, rfl⟩⟩
    rw [e1, e2]
    simp [Instr.mapUpdate, Sem.run_bind, run_underlying hu, Result.andThen, getObj, setObj, Sem.run, e3, hc, k2]
  · cases hk

/-! ### an entry made or found ahead of its store -/
noncomputable def efMapEntry (P : Program) (t : TypeId) (x ix : Operand) (fr : Tr SV) (h : HS) (k : SV → HS → Bool) : Bool :=
  match P.underlying t with
  | some (.map kt el) => (match P.underlying kt with
    | some kd => opdK fr x fun p => (match p with
      | .map id => (match h.hp.get id with
        | some (.mp es clock) => opdK fr ix fun q => (match flat q with
          | some kv => bif chkM P kt kd kv false then (match findM P kt kd kv es with
            | some (some (i, sv)) => bif Nat.ble h.bar id && stayM kd kv es[i]? then
                (match es[i]? with
                | some e => entriesK (setEntry es i q sv) fun es' => natK e.2.2 fun bn => h.hp.putK id (some (.mp es' clock)) fun hp => k (.tup [sv, .int .i64 (.ofNat bn)]) ⟨hp, h.nx, h.ne, h.bar⟩
                | none => false) else false
            | some none => (match P.info? el with
              | some inf => (match inf.zero with
                | some z => bif Nat.ble h.bar id then
                    entriesK (es ++ [(q, ofV z, clock)]) fun es' => natK clock fun bn => natK (clock + 1) fun c' => h.hp.putK id (some (.mp es' c')) fun hp => k (.tup [ofV z, .int .i64 (.ofNat bn)]) ⟨hp, h.nx, h.ne, h.bar⟩ else false
                | none => false)
              | none => false)
            | none => false) else false
          | none => false)
        | _ => false)
      | _ => false)
    | none => false)
  | _ => false
theorem modify_key {ms : List MapEntry} {m : MapEntry} {kv : Value} : ∀ (i : Nat), ms[i]? = some m → (ms.modify i fun e => { e with key := kv, val := m.val }) = ms.modify i fun e => { e with key := kv } := by
  induction ms with
  | nil => intro i _; cases i <;> rfl
  | cons a r ih =>
    intro i h
    cases i with
    | zero =>
      simp only [List.getElem?_cons_zero, Option.some.injEq] at h
      subst h
      rfl
    | succ i =>
      simp only [List.modify_succ_cons]
      rw [ih i (by simpa using h)]
theorem efMapEntry_ok {t : TypeId} {x ix : Operand} {h : HS} {k : SV → HS → Bool} (ho : o.op = .mapEntry t x ix) (hk : efMapEntry P t x ix fr h k = true) : ∃ sv h', k sv h' = true ∧ Goes h h' ∧ EffOk P W0 o fr h h' sv := by
  have run : ∀ (a : Act) (w w' : World) (v : Value), (Instr.mapEntry t (a.eval x) (a.eval ix)).run P w = .ok v w' → (execOp a.eval o).run P w = .ok (.value v) w' := by
    intro a w w' v h
    unfold execOp
    rw [ho]
    simp only [Sem.run_bind, h, Result.andThen, Sem.run_pure]
  unfold efMapEntry at hk
  split at hk
  case h_2 => cases hk
  rename_i kt el hu
  split at hk
  case h_2 => cases hk
  rename_i kd hkd
  rw [opdK_eq] at hk
  split at hk
  case h_2 => cases hk
  rename_i id hp
  split at hk
  case h_2 => cases hk
  rename_i es clock hm
  rw [opdK_eq] at hk
  split at hk
  case h_2 => cases hk
  rename_i kv hkv
  obtain ⟨hchk, hk⟩ := bif_true hk
  have base : ∀ (E : Env) (N : Nat) (a : Act) (w : World), Rel W0 E h.hp.get w → FrOk E fr N a → ∃ (s : Spot) (ms : List MapEntry), E.at_ id = some s ∧ a.eval x = .map (some s.blk) ∧ a.eval ix = kv ∧ w.heap[s.blk]? = some (.map ms.toArray clock) ∧ EntriesOk E es ms ∧ s.blk < w.heap.size := by
    intro E N a w r f
    obtain ⟨s, e1, _, c⟩ := r.obj id _ hm
    have hlt := c.lt
    obtain ⟨ms, e2, e3⟩ := c
    have hx := opd_ok f x
    rw [hp] at hx
    simp only [val, e1, Option.map_some, Option.some.injEq] at hx
    have hy := opd_ok f ix
    rw [val_of_flat E _ _ hkv] at hy
    exact ⟨s, ms, e1, hx.symm, (Option.some.inj hy).symm, e2, e3, hlt⟩
  split at hk
  · rename_i i sv0 hfind
    obtain ⟨hb0, hk⟩ := bif_true hk
    simp only [Bool.and_eq_true] at hb0
    have hb := Nat.le_of_ble_eq_true hb0.1
    split at hk
    case h_2 => cases hk
    rename_i en hen
    rw [entriesK_eq, natK_eq, Tr.putK_eq] at hk
    refine ⟨_, _, hk, Goes.upd hm hb, fun E N a w r f fo => ?_⟩
    obtain ⟨s, ms, e0, e1, e2, e3, e4, e5⟩ := base E N a w r fo
    obtain ⟨v0, key, k1, k2, k3, k4, k5⟩ := (findM_ok hkd e4).1 i sv0 hfind
    have hc := run_chkM hkd hchk w
    have hsb : Instr.sameBits 10000 key.key kv = true := by
      have hst := hb0.2
      unfold stayM at hst
      cases hp : plainKey kd with
      | true => exact sameBits_of_sameNow hp (k4 hp)
      | false =>
        obtain ⟨e, z1, z2⟩ := k5 hp
        rw [hp, cond_false, z1] at hst
        simp only at hst
        split at hst
        · rename_i k0 hk0
          rw [← Option.some.inj ((val_of_flat E _ _ hk0).symm.trans z2.1)]
          exact hst
        · cases hst
    have eo := entries_at e4 i en key hen k3
    have hv0 : findValIs P kt kd kv es i sv0 en := findVal_of hfind hen
    have hv : val E sv0 = some key.val := by rw [hv0]; exact eo.2.1
    have hes := setEntry_ok (val_of_flat E _ _ hkv) hv e4 i
    rw [modify_key i k3] at hes
    have v0e : v0 = key.val := Option.some.inj (k1.symm.trans hv)
    refine ⟨E, _, .tuple #[v0, .int .i64 (en.2.2 : Nat)], Step.upd hm hb e0 (by simp) (fun j hj => by simp [Array.getElem?_setIfInBounds, Ne.symm hj]), r.setMap (clock' := clock) hm e0 hes (fun j => Tr.get_put _ _ _ _), by simp [val, vals, k1], .inl (run a w _ _ ?_)⟩
    rw [e1, e2]
    simp [Instr.mapEntry, Sem.run_bind, run_underlying hu, Result.andThen, getObj, setObj, Sem.run, e3, hc, k2, k3, Instr.keyThatStays, hsb, goInt, eo.2.2]
  · rename_i hfind
    split at hk
    case h_2 => cases hk
    rename_i inf hinf
    split at hk
    case h_2 => cases hk
    rename_i z hz
    obtain ⟨hb, hk⟩ := bif_true hk
    have hb := Nat.le_of_ble_eq_true hb
    rw [entriesK_eq, natK_eq, natK_eq, Tr.putK_eq] at hk
    refine ⟨_, _, hk, Goes.upd hm hb, fun E N a w r f fo => ?_⟩
    obtain ⟨s, ms, e0, e1, e2, e3, e4, e5⟩ := base E N a w r fo
    have k2 := (findM_ok hkd e4).2 hfind
    have hc := run_chkM hkd hchk w
    have hes := entries_snoc (e := (opd fr ix, ofV z, clock)) (m := { key := kv, val := z, born := clock }) ⟨val_of_flat E _ _ hkv, val_ofV E z, rfl⟩ e4
    refine ⟨E, _, .tuple #[z, .int .i64 (clock : Nat)], Step.upd hm hb e0 (by simp) (fun j hj => by simp [Array.getElem?_setIfInBounds, Ne.symm hj]), r.setMap (clock' := clock + 1) hm e0 hes (fun j => Tr.get_put _ _ _ _), by simp [val, vals, val_ofV], .inl (run a w _ _ ?_)⟩
    rw [e1, e2]
    simp [Instr.mapEntry, Sem.run_bind, run_underlying hu, Result.andThen, getObj, setObj, Sem.run, e3, hc, k2, zeroValue, typeInfo, hinf, hz, goInt]
  · cases hk
noncomputable def bornAt : List (SV × SV × Nat) → Nat → Option Nat
  | [], _ => none
  | e :: r, n => bif Nat.beq e.2.2 n then some 0 else (bornAt r n).map Nat.succ
theorem bornAt_ok {E : Env} {es : List (SV × SV × Nat)} {ms : List MapEntry} (h : EntriesOk E es ms) {n : Nat} : ∀ i, bornAt es n = some i → (ms.findIdx? fun e => (e.born : Int) == (n : Int)) = some i := by
  induction h with
  | nil => intro i e; cases e
  | @cons e m es ms he _ ih =>
    intro i q
    rw [bornAt, Tr.bif_beq] at q
    rw [List.findIdx?_cons]
    split at q
    · rename_i hb
      obtain rfl := Option.some.inj q
      have : ((m.born : Int) == (n : Int)) = true := by rw [he.2.2, hb]; simp
      rw [this]
      rfl
    · rename_i hb
      obtain ⟨j, hj, rfl⟩ := Option.map_eq_some_iff.1 q
      have : ((m.born : Int) == (n : Int)) = false := by
        rw [he.2.2, beq_eq_false_iff_ne]
        intro e
        exact hb (by omega)
      rw [this, ih j hj]
      rfl
noncomputable def setVal : List (SV × SV × Nat) → Nat → SV → List (SV × SV × Nat)
  | [], _, _ => []
  | e :: r, 0, v => (e.1, v, e.2.2) :: r
  | e :: r, i + 1, v => e :: setVal r i v
theorem setVal_ok {E : Env} {v : SV} {vv : Value} (hv : val E v = some vv) {es : List (SV × SV × Nat)} {ms : List MapEntry} (h : EntriesOk E es ms) : ∀ i, EntriesOk E (setVal es i v) (ms.modify i fun e => { e with val := vv }) := by
  induction h with
  | nil => intro i; cases i <;> exact .nil
  | @cons e m es ms hem hrest ih =>
    intro i
    cases i with
    | zero => exact .cons ⟨hem.1, hv, hem.2.2⟩ hrest
    | succ i => exact .cons hem (ih i)
noncomputable def efEntryStore (x st y : Operand) (fr : Tr SV) (h : HS) (k : SV → HS → Bool) : Bool :=
  opdK fr x fun p => (match p with
  | .map id => (match h.hp.get id with
    | some (.mp es clock) => opdK fr st fun q => opdK fr y fun v => (match q with
      | .int _ (.ofNat n) => (match bornAt es n with
        | some i => bif Nat.ble h.bar id then entriesK (setVal es i v) fun es' => h.hp.putK id (some (.mp es' clock)) fun hp => k (.lit undef) ⟨hp, h.nx, h.ne, h.bar⟩ else false
        | none => false)
      | _ => false)
    | _ => false)
  | _ => false)
theorem efEntryStore_ok {t : TypeId} {x st y : Operand} {h : HS} {k : SV → HS → Bool} (ho : o.op = .entryStore t x st y) (hk : efEntryStore x st y fr h k = true) : ∃ sv h', k sv h' = true ∧ Goes h h' ∧ EffOk P W0 o fr h h' sv := by
  unfold efEntryStore at hk
  rw [opdK_eq] at hk
  split at hk
  case h_2 => cases hk
  rename_i id hp
  split at hk
  case h_2 => cases hk
  rename_i es clock hm
  rw [opdK_eq, opdK_eq] at hk
  split at hk
  case h_2 => cases hk
  rename_i kd n hq
  split at hk
  case h_2 => cases hk
  rename_i i hi
  obtain ⟨hb, hk⟩ := bif_true hk
  have hb := Nat.le_of_ble_eq_true hb
  rw [entriesK_eq, Tr.putK_eq] at hk
  refine ⟨_, _, hk, Goes.upd hm hb, fun E N a w r f fo => ?_⟩
  obtain ⟨s, e1, _, c⟩ := r.obj id _ hm
  obtain ⟨ms, e2, e3⟩ := c
  have hx := opd_ok fo x
  rw [hp] at hx
  simp only [val, e1, Option.map_some, Option.some.injEq] at hx
  have hs := opd_ok fo st
  rw [hq] at hs
  simp only [val, Option.some.injEq] at hs
  have hes := setVal_ok (opd_ok fo y) e3 i
  have hf := bornAt_ok e3 i hi
  refine ⟨E, _, undef, Step.upd hm hb e1 (by simp) (fun j hj => by simp [Array.getElem?_setIfInBounds, Ne.symm hj]), r.setMap (clock' := clock) hm e1 hes (fun j => Tr.get_put _ _ _ _), rfl, .inr ⟨?_, rfl⟩⟩
  unfold execOp
  rw [ho]
  simp [Instr.entryStore, ← hx, ← hs, Sem.run_bind, Result.andThen, getObj, setObj, Sem.run, e2, asInt, asIntOf, hf]
end Go.Proofs.YtjbjpjaeagopjaaGreat.Ev
