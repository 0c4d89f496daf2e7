/- Operands, and operations that only read. -/
import Derived.Test.YtjbjpjaeagopjaaGreatEvRel
import Derived.Laws.Entries
import Derived.Laws.Cells
set_option linter.unusedSimpArgs false
set_option linter.unusedVariables false
set_option linter.unusedSectionVars false
namespace Go.Proofs.YtjbjpjaeagopjaaGreat.Ev
open Go

noncomputable def natK (n : Nat) : (Nat → Bool) → Bool := Nat.rec (fun k => k 0) (fun m _ k => k (Nat.succ m)) n
theorem natK_eq (n : Nat) (k : Nat → Bool) : natK n k = k n := by cases n <;> rfl
noncomputable def intK (n : Int) : (Int → Bool) → Bool := Int.rec (fun a k => natK a fun b => k (.ofNat b)) (fun a k => natK a fun b => k (.negSucc b)) n
theorem intK_eq (n : Int) (k : Int → Bool) : intK n k = k n := by
  cases n with
  | ofNat a => exact natK_eq a (fun b => k (.ofNat b))
  | negSucc a => exact natK_eq a (fun b => k (.negSucc b))

/-- A value without addresses of objects, as one of ours. -/
noncomputable def normK (v : Value) (k : SV → Bool) : Bool :=
  match v with
  | .bool b => bif b then k (.bool true) else k (.bool false)
  | .int kd n => intK n fun n' => k (.int kd n')
  | v => k (.lit v)
theorem normK_ok {v : Value} {k : SV → Bool} (h : normK v k = true) : ∃ sv, k sv = true ∧ ∀ E, val E sv = some v := by
  unfold normK at h
  split at h
  · rename_i b
    cases b
    · exact ⟨.bool false, h, fun _ => rfl⟩
    · exact ⟨.bool true, h, fun _ => rfl⟩
  · rw [intK_eq] at h
    exact ⟨_, h, fun _ => rfl⟩
  · exact ⟨.lit v, h, fun _ => rfl⟩

noncomputable def opd (fr : Tr SV) : Operand → SV
  | .tmp t => (fr.get t).getD (.lit undef)
  | .const (.bool b) => .bool b
  | .const (.int k n) => .int k n
  | .const v => .lit v
  | .global g => .lit (.pointer (some ⟨g, 0, none⟩))
  | .func f => .fn (.func f) [] []
theorem opd_ok {E : Env} {fr : Tr SV} {N : Nat} {a : Act} (h : FrOk E fr N a) (x : Operand) : val E (opd fr x) = some (a.eval x) := by
  cases x with
  | tmp t => exact h.get t
  | const v => cases v <;> rfl
  | global g => rfl
  | func f => rfl
/-- The operand's value, handed on. -/
noncomputable def opdK (fr : Tr SV) (x : Operand) (k : SV → Bool) : Bool :=
  match x with
  | .tmp t => (match fr.get t with | some sv => k sv | none => k (.lit undef))
  | x => k (opd fr x)
theorem opdK_eq (fr : Tr SV) (x : Operand) (k : SV → Bool) : opdK fr x k = k (opd fr x) := by
  cases x with
  | tmp t =>
    show (match fr.get t with | some sv => k sv | none => k (.lit undef)) = k ((fr.get t).getD (.lit undef))
    cases fr.get t <;> rfl
  | const v => rfl
  | global g => rfl
  | func f => rfl
noncomputable def opdsK (fr : Tr SV) : List Operand → (List SV → Bool) → Bool
  | [], k => k []
  | x :: r, k => opdK fr x fun s => opdsK fr r fun l => k (s :: l)
theorem opdsK_eq (fr : Tr SV) (l : List Operand) : ∀ k, opdsK fr l k = k (l.map (opd fr)) := by
  induction l with
  | nil => intro k; rfl
  | cons x r ih => intro k; rw [opdsK, opdK_eq, ih]; rfl
theorem opds_ok {E : Env} {fr : Tr SV} {N : Nat} {a : Act} (h : FrOk E fr N a) (l : List Operand) : vals E (l.map (opd fr)) = some (l.map a.eval) := by
  induction l with
  | nil => rfl
  | cons x r ih => simp [vals, opd_ok h x, ih]

/-- It reads: it yields sv in the world that it got. -/
def ReadOk (P : Program) (W0 : World) (o : Oper) (fr : Tr SV) (g : Hp) (sv : SV) : Prop :=
  ∀ E N a w, Rel W0 E g w → FrOk E fr N a → ∃ v, val E sv = some v ∧ (execOp a.eval o).run P w = .ok (.value v) w

section
variable {P : Program} {W0 : World} {E : Env} {g : Hp} {w : World}
theorem Rel.cell (r : Rel W0 E g w) {id n sz : Nat} {t : Tr SV} (h : g id = some (.row n sz t)) {i : Nat} (hi : i < n) : ∃ s sv v, E.at_ id = some s ∧ t.get i = some sv ∧ val E sv = some v ∧ v.oneCell' = true ∧ w.cell? ⟨s.blk, s.base + i, none⟩ = some v := by
  obtain ⟨s, a, _, c, ty, h1, h2, h3, h4⟩ := r.obj id _ h
  obtain ⟨sv, v, k1, k2, k3, k4⟩ := h4 i hi
  exact ⟨s, sv, v, a, k1, k2, k3, by simp [World.cell?, h1, k4]⟩

/-- m cells from i on. -/
noncomputable def cellsK (t : Tr SV) (i0 m : Nat) (k0 : List SV → Bool) : Bool :=
  Nat.rec (motive := fun _ => Nat → (List SV → Bool) → Bool) (fun _ k => k []) (fun _ ih i k => getQ t i fun sv => ih (Nat.succ i) fun l => k (sv :: l)) m i0 k0
theorem cellsK_zero (t : Tr SV) (i : Nat) (k : List SV → Bool) : cellsK t i 0 k = k [] := rfl
theorem cellsK_succ (t : Tr SV) (i m : Nat) (k : List SV → Bool) : cellsK t i (m + 1) k = match t.get i with
    | some sv => cellsK t (i + 1) m fun l => k (sv :: l)
    | none => false := by
  show (getQ t i fun sv => cellsK t (i + 1) m fun l => k (sv :: l)) = _
  rw [getQ_eq]
  cases t.get i <;> rfl
theorem cellsK_ok (t : Tr SV) (m : Nat) : ∀ (i : Nat) (k : List SV → Bool), cellsK t i m k = true → ∃ l, k l = true ∧ l.length = m ∧ ∀ j, j < m → t.get (i + j) = l[j]? := by
  induction m with
  | zero => intro i k h; exact ⟨[], h, rfl, fun j hj => absurd hj (by omega)⟩
  | succ m ih =>
    intro i k h
    rw [cellsK_succ] at h
    cases hg : t.get i with
    | none => rw [hg] at h; cases h
    | some sv =>
      rw [hg] at h
      obtain ⟨l, h1, h2, h3⟩ := ih _ _ h
      refine ⟨sv :: l, h1, by simp [h2], fun j hj => ?_⟩
      cases j with
      | zero => simpa using hg
      | succ j =>
        have := h3 j (by omega)
        rw [show i + (j + 1) = i + 1 + j by omega, this]
        simp
theorem vals_get {E : Env} : ∀ (l : List SV) (F : Nat → Value), (∀ j sv, l[j]? = some sv → val E sv = some (F j)) → vals E l = some ((List.range l.length).map F)
  | [], F, _ => rfl
  | s :: r, F, h => by
    have h0 := h 0 s (by simp)
    have hr := vals_get r (fun j => F (j + 1)) (fun j sv e => h (j + 1) sv (by simpa using e))
    simp only [vals, h0, hr, Option.bind_some, Option.map_some, List.length_cons, List.range_succ_eq_map, List.map_cons, List.map_map]
    rfl
/-- A row's cells, read. -/
theorem Rel.cells (r : Rel W0 E g w) {id n sz : Nat} {t : Tr SV} (h : g id = some (.row n sz t)) {i m : Nat} (hi : i + m ≤ n) {l : List SV} (hl : l.length = m) (hg : ∀ j, j < m → t.get (i + j) = l[j]?) :
    ∃ s vl, E.at_ id = some s ∧ vals E l = some vl ∧ vl.length = m ∧ (loadCells ⟨s.blk, s.base + i, none⟩ m).run P w = .ok vl.toArray w := by
  obtain ⟨s, a, _, c, ty, h1, h2, h3, h4⟩ := r.obj id _ h
  have F : ∀ j, ∃ v, j < m → ∃ sv, l[j]? = some sv ∧ val E sv = some v ∧ w.cell? ⟨s.blk, s.base + (i + j), none⟩ = some v := by
    intro j
    by_cases hj : j < m
    · obtain ⟨sv, v, k1, k2, k3, k4⟩ := h4 (i + j) (by omega)
      exact ⟨v, fun _ => ⟨sv, by rw [← hg j hj]; exact k1, k2, by simp [World.cell?, h1, k4]⟩⟩
    · exact ⟨undef, fun h => absurd h hj⟩
  have hF := fun j => Classical.choose_spec (F j)
  generalize hf : (fun j => Classical.choose (F j)) = f at hF
  have hF' : ∀ j, j < m → ∃ sv, l[j]? = some sv ∧ val E sv = some (f j) ∧ w.cell? ⟨s.blk, s.base + (i + j), none⟩ = some (f j) := fun j hj => by
    have := hF j hj
    rw [← hf]
    exact this
  refine ⟨s, (List.range m).map f, a, ?_, by simp, ?_⟩
  · rw [← hl]
    refine vals_get l f fun j sv e => ?_
    have hj : j < m := by rw [← hl]; exact (List.getElem?_eq_some_iff.1 e).1
    obtain ⟨sv', e1, e2, _⟩ := hF' j hj
    rw [e] at e1
    obtain rfl := Option.some.inj e1
    exact e2
  · have := run_loadCells_list (P := P) w ⟨s.blk, s.base + i, none⟩ ((List.range m).map f) (fun j v e => by
      have hj : j < m := by have := (List.getElem?_eq_some_iff.1 e).1; simpa using this
      simp [hj] at e
      obtain ⟨sv', _, _, e3⟩ := hF' j hj
      rw [Addr.add_lit, ← e, Nat.add_assoc]
      exact e3)
    simpa using this
end

/-! ### a load -/
/-- What the program's own variables hold: block and place. -/
class GTab where
  look : Nat → Nat → Option Value
class GOk [GTab] (w : World) : Prop where
  cell : ∀ b o v, GTab.look b o = some v → b < w.heap.size ∧ w.cell? ⟨b, o, none⟩ = some v
theorem GOk.below [GTab] {W0 w : World} (h : GOk W0) (b : RowKit.Below W0.heap.size W0 w) : GOk w :=
  ⟨fun i o v e => by
    obtain ⟨h1, h2⟩ := h.cell i o v e
    refine ⟨Nat.lt_of_lt_of_le h1 b.size, ?_⟩
    simp only [World.cell?] at h2 ⊢
    rw [b.block i h1]
    exact h2⟩
def ofVs : Value → SV
  | .bool b => .bool b
  | .int k n => .int k n
  | v => .lit v
theorem val_ofVs (E : Env) (v : Value) : val E (ofVs v) = some v := by cases v <;> rfl
def gcells [GTab] (b : Nat) : Nat → Nat → Option (List SV)
  | _, 0 => some []
  | o, m + 1 => match GTab.look b o with
    | some v => (gcells b (o + 1) m).map fun l => ofVs v :: l
    | none => none
theorem gcells_ok [GTab] {W : World} (hG : GOk W) {b : Nat} (m : Nat) : ∀ (o : Nat) (l : List SV), gcells b o m = some l → ∀ E, ∃ vl, vals E l = some vl ∧ vl.length = m ∧ ∀ j v, vl[j]? = some v → W.cell? ⟨b, o + j, none⟩ = some v := by
  induction m with
  | zero => intro o l h E; simp only [gcells, Option.some.injEq] at h; subst h; exact ⟨[], rfl, rfl, fun j v e => by simp at e⟩
  | succ m ih =>
    intro o l h E
    rw [gcells] at h
    split at h
    case h_2 => cases h
    rename_i v hv
    obtain ⟨l', h1, rfl⟩ := Option.map_eq_some_iff.1 h
    obtain ⟨vl, k1, k2, k3⟩ := ih _ _ h1 E
    refine ⟨v :: vl, by simp [vals, val_ofVs, k1], by simp [k2], fun j u e => ?_⟩
    cases j with
    | zero =>
      simp only [List.getElem?_cons_zero, Option.some.injEq] at e
      subst e
      exact (hG.cell b o v hv).2
    | succ j =>
      have := k3 j u (by simpa using e)
      rw [show o + (j + 1) = o + 1 + j by omega]
      exact this
noncomputable def rdLoad [GTab] (P : Program) (t : TypeId) (fr : Tr SV) (g : Tr SO) (x : Operand) (k : SV → Bool) : Bool :=
  opdK fr x fun p => match p with
  | .ptr id off => match g.get id with
    | some (.row n _ tr) => match isAggB P t with
      | some true => match P.info? t with
        | some i => bif Nat.ble (off + i.size) n then cellsK tr off i.size fun l => k (.agg l) else false
        | none => false
      | some false => bif Nat.ble (off + 1) n then (match tr.get off with | some sv => k sv | none => false) else false
      | none => false
    | _ => false
  | .lit (.pointer (some ⟨b, o, none⟩)) => (match isAggB P t with
    | some false => (match GTab.look b o with
      | some v => normK v k
      | none => false)
    | some true => (match P.info? t with
      | some i => (match gcells b o i.size with
        | some l => k (.agg l)
        | none => false)
      | none => false)
    | none => false)
  | _ => false
where
  isAggB (P : Program) (t : TypeId) : Option Bool :=
    match P.underlying t with
    | some (.struct _) => some true
    | some (.array _ _) => some true
    | some _ => some false
    | none => none
theorem run_isAgg {P : Program} {t : TypeId} {b : Bool} (h : rdLoad.isAggB P t = some b) (w : World) : (isAgg t).run P w = .ok b w := by
  unfold rdLoad.isAggB at h
  unfold isAgg
  split at h
  · rename_i e; simp only [Option.some.injEq] at h; subst h; simp [Sem.run_bind, run_underlying e, Result.andThen]
  · rename_i e; simp only [Option.some.injEq] at h; subst h; simp [Sem.run_bind, run_underlying e, Result.andThen]
  · rename_i d h1 h2 e
    simp only [Option.some.injEq] at h
    subst h
    cases d <;> first | (exact absurd rfl (h1 _)) | (exact absurd rfl (h2 _ _)) | simp [Sem.run_bind, run_underlying e, Result.andThen]
  · cases h
theorem run_sizeOf {P : Program} {t : TypeId} {i : TypeInfo} (h : P.info? t = some i) (w : World) : (sizeOf t).run P w = .ok i.size w := by
  simp [sizeOf, typeInfo, Sem.run_bind, h, Result.andThen]
theorem bif_true {b : Bool} {x : Bool} (h : (bif b then x else false) = true) : b = true ∧ x = true := by cases b <;> simp_all
theorem rdLoad_ok [GTab] {P : Program} {W0 : World} [hG : GOk W0] {t : TypeId} {fr : Tr SV} {g : Tr SO} {x : Operand} {k : SV → Bool} {o : Oper} (ho : o.op = .load t x) (h : rdLoad P t fr g x k = true) : ∃ sv, k sv = true ∧ ReadOk P W0 o fr g.get sv := by
  unfold rdLoad at h
  rw [opdK_eq] at h
  split at h
  case h_3 => cases h
  case h_2 =>
    rename_i b o' hp
    split at h
    case h_3 => cases h
    case h_2 =>
      rename_i hagg
      split at h
      case h_2 => cases h
      rename_i i hi
      split at h
      case h_2 => cases h
      rename_i l hl
      refine ⟨_, h, fun E N a w r f => ?_⟩
      obtain ⟨vl, k1, k2, k3⟩ := gcells_ok (hG.below r.below) _ _ _ hl E
      refine ⟨.agg vl.toArray, by simp [val, k1], ?_⟩
      have hx := opd_ok f x
      rw [hp] at hx
      simp only [val, Option.some.injEq] at hx
      have hc := run_loadCells_list (P := P) w ⟨b, o', none⟩ vl (fun j v e => by rw [Addr.add_lit]; exact k3 j v e)
      rw [k2] at hc
      unfold execOp
      rw [ho]
      simp [Instr.loadAt, ← hx, Instr.sureAddr, loadVar, Sem.run_bind, run_isAgg hagg, run_sizeOf hi, Result.andThen, hc]
    rename_i hagg
    split at h
    case h_2 => cases h
    rename_i v hv
    obtain ⟨sv, h1, h2⟩ := normK_ok h
    refine ⟨sv, h1, fun E N a w r f => ⟨v, h2 E, ?_⟩⟩
    have hx := opd_ok f x
    rw [hp] at hx
    simp only [val, Option.some.injEq] at hx
    have hc := ((hG.below r.below).cell b o' v hv).2
    unfold execOp
    rw [ho]
    simp [Instr.loadAt, ← hx, Instr.sureAddr, loadVar, Sem.run_bind, run_isAgg hagg, Result.andThen, hc]
  rename_i id off hp
  split at h
  case h_2 => cases h
  rename_i n sz tr hrow
  split at h
  · rename_i hagg
    split at h
    case h_2 => cases h
    rename_i i hinfo
    obtain ⟨h1, h2⟩ := bif_true h
    obtain ⟨l, h3, h4, h5⟩ := cellsK_ok _ _ _ _ h2
    refine ⟨.agg l, h3, fun E N a w r f => ?_⟩
    obtain ⟨s, vl, e1, e2, e3, e4⟩ := r.cells (P := P) hrow (Nat.le_of_ble_eq_true h1) h4 h5
    have hx := opd_ok f x
    rw [hp] at hx
    simp only [val, e1, Option.map_some, Option.some.injEq] at hx
    refine ⟨.agg vl.toArray, by simp [val, e2], ?_⟩
    unfold execOp
    rw [ho]
    simp [Instr.loadAt, ← hx, Instr.sureAddr, loadVar, Sem.run_bind, run_isAgg hagg, run_sizeOf hinfo, Result.andThen, e4]
  · rename_i hagg
    obtain ⟨h1, h2⟩ := bif_true h
    split at h2
    case h_2 => cases h2
    rename_i sv hsv
    refine ⟨sv, h2, fun E N a w r f => ?_⟩
    obtain ⟨s, sv', v, e1, e2, e3, e4, e5⟩ := r.cell hrow (i := off) (Nat.le_of_ble_eq_true h1)
    rw [hsv] at e2
    obtain rfl := Option.some.inj e2
    have hx := opd_ok f x
    rw [hp] at hx
    simp only [val, e1, Option.map_some, Option.some.injEq] at hx
    refine ⟨v, e3, ?_⟩
    unfold execOp
    rw [ho]
    simp [Instr.loadAt, ← hx, Instr.sureAddr, loadVar, Sem.run_bind, run_isAgg hagg, Result.andThen, e5]
  · cases h
end Go.Proofs.YtjbjpjaeagopjaaGreat.Ev
