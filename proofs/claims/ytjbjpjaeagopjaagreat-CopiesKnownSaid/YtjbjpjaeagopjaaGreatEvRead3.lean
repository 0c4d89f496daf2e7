/- Building structs and arrays; fields; lengths; function values; comparison with nil. -/
import Derived.Test.YtjbjpjaeagopjaaGreatEvRead2
import Derived.Laws.Tables
set_option linter.unusedSimpArgs false
set_option linter.unusedVariables false
set_option linter.unusedSectionVars false
namespace Go.Proofs.YtjbjpjaeagopjaaGreat.Ev
open Go
variable [GTab] {P : Program} {W0 : World} [GOk W0] {fr : Tr SV} {g : Tr SO} {k : SV → Bool} {o : Oper}

def ofV : Value → SV
  | .bool b => .bool b
  | .int k n => .int k n
  | v => .lit v
theorem val_ofV (E : Env) (v : Value) : val E (ofV v) = some v := by cases v <;> rfl
theorem vals_ofV (E : Env) (l : List Value) : vals E (l.map ofV) = some l := by
  induction l with
  | nil => rfl
  | cons v r ih => simp [vals, val_ofV, ih]
def cellsS : SV → List SV
  | .agg l => l
  | .lit (.agg cs) => cs.toList.map ofV
  | s => [s]
theorem cellsS_ok {E : Env} {s : SV} {v : Value} (h : val E s = some v) : vals E (cellsS s) = some v.cells.toList := by
  cases s with
  | agg l =>
    simp only [val, Option.map_eq_some_iff] at h
    obtain ⟨vl, h1, rfl⟩ := h
    simpa [cellsS, Value.cells] using h1
  | lit x =>
    simp only [val, Option.some.injEq] at h
    subst h
    cases x with
    | agg cs => simp [cellsS, Value.cells, vals_ofV]
    | _ => simp [cellsS, vals, val, Value.cells]
  | ptr id off => simp only [val, Option.map_eq_some_iff] at h; obtain ⟨sp, h1, rfl⟩ := h; simp [cellsS, vals, val, h1, Value.cells]
  | sl id off len cap => simp only [val, Option.map_eq_some_iff] at h; obtain ⟨sp, h1, rfl⟩ := h; simp [cellsS, vals, val, h1, Value.cells]
  | slr id off len cap => simp only [val, Option.map_eq_some_iff] at h; obtain ⟨sp, h1, rfl⟩ := h; simp [cellsS, vals, val, h1, Value.cells]
  | emp j id off skip => simp only [val, Option.bind_eq_some_iff, Option.map_eq_some_iff] at h; obtain ⟨sp, h1, A, h2, s, h3, rfl⟩ := h; simp [cellsS, vals, val, h1, h2, h3, Value.cells]
  | map id => simp only [val, Option.map_eq_some_iff] at h; obtain ⟨sp, h1, rfl⟩ := h; simp [cellsS, vals, val, h1, Value.cells]
  | yld id => simp only [val, Option.map_eq_some_iff] at h; obtain ⟨sp, h1, rfl⟩ := h; simp [cellsS, vals, val, h1, Value.cells]
  | mks l => simp only [val, Option.some.injEq] at h; subst h; simp [cellsS, vals, val, Value.cells, undef]
  | bool b => simp only [val, Option.some.injEq] at h; subst h; simp [cellsS, vals, val, Value.cells]
  | int kd n => simp only [val, Option.some.injEq] at h; subst h; simp [cellsS, vals, val, Value.cells]
  | iface t x => 
    have h' := h
    simp only [val, Option.map_eq_some_iff] at h
    obtain ⟨y, h1, rfl⟩ := h
    simp [cellsS, vals, h', Value.cells]
  | tup l =>
    have h' := h
    simp only [val, Option.map_eq_some_iff] at h
    obtain ⟨y, h1, rfl⟩ := h
    simp [cellsS, vals, h', Value.cells]
  | fn f a b =>
    have h' := h
    simp only [val, Option.map_eq_some_iff, Option.bind_eq_some_iff] at h
    obtain ⟨y, h1, z, h2, rfl⟩ := h
    simp [cellsS, vals, h', Value.cells]
theorem vals_length {E : Env} : ∀ {l : List SV} {vl : List Value}, vals E l = some vl → vl.length = l.length
  | [], vl, h => by simp only [vals, Option.some.injEq] at h; subst h; rfl
  | s :: r, vl, h => by
    simp only [vals, Option.bind_eq_some_iff, Option.map_eq_some_iff] at h
    obtain ⟨x, hx, y, hy, rfl⟩ := h
    simp [vals_length hy]
theorem vals_set {E : Env} {s : SV} {v : Value} (hs : val E s = some v) : ∀ {l : List SV} {vl : List Value} (i : Nat), vals E l = some vl → vals E (l.set i s) = some (vl.set i v)
  | [], vl, i, h => by simp only [vals, Option.some.injEq] at h; subst h; rfl
  | c :: r, vl, i, h => by
    simp only [vals, Option.bind_eq_some_iff, Option.map_eq_some_iff] at h
    obtain ⟨x, hx, y, hy, rfl⟩ := h
    cases i with
    | zero => simp [vals, hs, hy]
    | succ i => simp [vals, hx, vals_set hs i hy]
/-- The places from off on, set one by one. -/
def setsL {α : Type} (cs : List α) (off : Nat) : List α → List α
  | [] => cs
  | s :: r => setsL (cs.set off s) (off + 1) r
theorem vals_setsL {E : Env} : ∀ (seg : List SV) (vseg : List Value) (cs : List SV) (vcs : List Value) (off : Nat), vals E seg = some vseg → vals E cs = some vcs → vals E (setsL cs off seg) = some (setsL vcs off vseg)
  | [], vseg, cs, vcs, off, h, hc => by simp only [vals, Option.some.injEq] at h; subst h; exact hc
  | s :: r, vseg, cs, vcs, off, h, hc => by
    simp only [vals, Option.bind_eq_some_iff, Option.map_eq_some_iff] at h
    obtain ⟨x, hx, y, hy, rfl⟩ := h
    exact vals_setsL r y _ _ (off + 1) hy (vals_set hx off hc)
theorem setsL_foldl : ∀ (seg : List Value) (j : Nat) (cs : Array Value) (off : Nat), ((seg.zipIdx j).foldl (fun cs (x : Value × Nat) => cs.setIfInBounds (off + x.2) x.1) cs).toList = setsL cs.toList (off + j) seg
  | [], j, cs, off => rfl
  | s :: r, j, cs, off => by
    rw [List.zipIdx_cons, List.foldl_cons, setsL_foldl r (j + 1) _ off, setsL, Array.toList_setIfInBounds, Nat.add_assoc]
theorem fill_foldl (v : Value) (cs : Array Value) (off : Nat) : v.cells.zipIdx.foldl (fun cs (x : Value × Nat) => cs.setIfInBounds (off + x.2) x.1) cs = (setsL cs.toList off v.cells.toList).toArray := by
  have h := setsL_foldl v.cells.toList 0 cs off
  rw [Nat.add_zero] at h
  rw [← h]
  rw [← Array.foldl_toList, Array.toList_zipIdx]
def fillS (place : Nat → Option (Nat × Nat)) (cells : List SV) : List (Nat × SV) → Option (List SV)
  | [] => some cells
  | (i, s) :: rest => match place i with
    | none => none
    | some (off, size) => bif Nat.beq (cellsS s).length size && Nat.ble (off + (cellsS s).length) cells.length then fillS place (setsL cells off (cellsS s)) rest else none
theorem setsL_length {α : Type} : ∀ (seg cs : List α) (off : Nat), (setsL cs off seg).length = cs.length
  | [], _, _ => rfl
  | s :: r, cs, off => by rw [setsL, setsL_length r]; simp
theorem bif_some {α : Type} {b : Bool} {x : Option α} {y : α} (h : (bif b then x else none) = some y) : b = true ∧ x = some y := by cases b <;> simp_all
theorem fillS_ok {E : Env} (place : Nat → Option (Nat × Nat)) : ∀ (parts : List (Nat × SV)) (vparts : List (Nat × Value)) (cells : List SV) (vcells : List Value) (out : List SV), vals E cells = some vcells →
    vparts.map (·.1) = parts.map (·.1) → vals E (parts.map (·.2)) = some (vparts.map (·.2)) → fillS place cells parts = some out → ∃ vo, vals E out = some vo ∧ Instr.fill place vcells.toArray vparts = some vo.toArray
  | [], vparts, cells, vcells, out, hc, hi, hv, h => by
    have : vparts = [] := by simpa using hi
    subst this
    simp only [fillS, Option.some.injEq] at h
    subst h
    exact ⟨vcells, hc, rfl⟩
  | (i, s) :: rest, vparts, cells, vcells, out, hc, hi, hv, h => by
    cases vparts with
    | nil => simp at hi
    | cons x vrest =>
      obtain ⟨i', v⟩ := x
      simp only [List.map_cons, List.cons.injEq] at hi
      obtain ⟨rfl, hi⟩ := hi
      simp only [List.map_cons, vals, Option.bind_eq_some_iff, Option.map_eq_some_iff, List.cons.injEq] at hv
      obtain ⟨v', hv1, y, hv2, rfl, rfl⟩ := hv
      rw [fillS] at h
      split at h
      · cases h
      rename_i off size hp
      obtain ⟨hb, h⟩ := bif_some h
      simp only [Bool.and_eq_true] at hb
      have e1 := Nat.eq_of_beq_eq_true hb.1
      have e2 := Nat.le_of_ble_eq_true hb.2
      have hcs := cellsS_ok hv1
      have hl := vals_length hcs
      have hlc := vals_length hc
      obtain ⟨vo, k1, k2⟩ := fillS_ok place rest vrest _ _ out (vals_setsL _ _ _ _ off hcs hc) hi hv2 h
      refine ⟨vo, k1, ?_⟩
      rw [Instr.fill, hp]
      simp only
      have hsz : v'.cells.size = size := by rw [← e1, ← hl]; simp
      rw [if_neg (by simp [hsz]; rw [hlc, ← e1]; exact e2), fill_foldl]
      exact k2
/-- The list, its cells laid open. -/
noncomputable def listK (l : List SV) (k0 : List SV → Bool) : Bool := List.rec (motive := fun _ => (List SV → Bool) → Bool) (fun k => k []) (fun s _ ih k => ih fun l => k (s :: l)) l k0
theorem listK_eq (l : List SV) : ∀ k, listK l k = k l := by
  induction l with
  | nil => intro k; rfl
  | cons s r ih =>
    intro k
    show listK r (fun l => k (s :: l)) = _
    rw [ih]
noncomputable def partsS (fr : Tr SV) (l : List (Nat × Operand)) : List (Nat × SV) := l.map fun x => (x.1, opd fr x.2)
def placesOf (P : Program) (fs : List Field) : Option (List (Nat × Nat)) := fs.mapM (fun f => (P.info? f.type).map fun i => (f.offset, i.size))
noncomputable def builtS (P : Program) (t : TypeId) (parts : List (Nat × SV)) : Option (List SV) :=
  match P.info? t, P.underlying t with
  | some it, some (.array _ e) => match it.zero, P.info? e with
    | some z, some ie => fillS (fun i => some (i * ie.size, ie.size)) (cellsS (ofV z)) parts
    | _, _ => none
  | some it, some (.struct fields) => match it.zero, placesOf P fields.toList with
    | some z, some places => fillS (fun i => places[i]?) (cellsS (ofV z)) parts
    | _, _ => none
  | _, _ => none
theorem builtS_ok {E : Env} {t : TypeId} {parts : List (Nat × SV)} {vparts : List (Nat × Value)} {out : List SV} (hi : vparts.map (·.1) = parts.map (·.1)) (hv : vals E (parts.map (·.2)) = some (vparts.map (·.2))) (h : builtS P t parts = some out) :
    ∃ vo, vals E out = some vo ∧ P.built t vparts = some vo.toArray := by
  unfold builtS at h
  unfold Program.built
  split at h
  · rename_i it n e h1 h2
    split at h
    · rename_i z ie h3 h4
      obtain ⟨vo, k1, k2⟩ := fillS_ok (E := E) _ parts vparts _ _ out (cellsS_ok (val_ofV E z)) hi hv h
      refine ⟨vo, k1, ?_⟩
      simp only [h1, h2, h3, h4]
      simpa using k2
    · cases h
  · rename_i it fields h1 h2
    split at h
    · rename_i z places h3 h4
      obtain ⟨vo, k1, k2⟩ := fillS_ok (E := E) _ parts vparts _ _ out (cellsS_ok (val_ofV E z)) hi hv h
      refine ⟨vo, k1, ?_⟩
      unfold placesOf at h4
      simp only [h1, h2, h3, h4]
      simpa using k2
    · cases h
  · cases h
noncomputable def rdBuild (P : Program) (t : TypeId) (fr : Tr SV) (parts : Array (Nat × Operand)) (k : SV → Bool) : Bool :=
  match builtS P t (partsS fr parts.toList) with
  | some l => listK l fun l' => k (.agg l')
  | none => false
theorem partsS_ok {E : Env} {N : Nat} {a : Act} (f : FrOk E fr N a) (l : List (Nat × Operand)) : (l.map fun x => (x.1, a.eval x.2)).map (·.1) = (partsS fr l).map (·.1) ∧ vals E ((partsS fr l).map (·.2)) = some ((l.map fun x => (x.1, a.eval x.2)).map (·.2)) := by
  constructor
  · simp [partsS]
  · have := opds_ok f (l.map (·.2))
    simpa [partsS, Function.comp_def] using this
theorem rdBuild_ok {t : TypeId} {parts : Array (Nat × Operand)} (ho : o.op = .build t parts) (h : rdBuild P t fr parts k = true) : ∃ sv, k sv = true ∧ ReadOk P W0 o fr g.get sv := by
  unfold rdBuild at h
  split at h
  case h_2 => cases h
  rename_i l hl
  rw [listK_eq] at h
  refine ⟨.agg l, h, fun E N a w r f => ?_⟩
  obtain ⟨p1, p2⟩ := partsS_ok f parts.toList
  obtain ⟨vo, k1, k2⟩ := builtS_ok p1 p2 hl
  refine ⟨.agg vo.toArray, by simp [val, k1], ?_⟩
  unfold execOp
  rw [ho]
  have e : (parts.map fun (x : Nat × Operand) => (x.1, a.eval x.2)).toList = parts.toList.map fun x => (x.1, a.eval x.2) := by simp
  have := run_build (P := P) w t (parts.map fun (x : Nat × Operand) => (x.1, a.eval x.2)) vo.toArray (by rw [e]; exact k2)
  simp only [Sem.run_bind]
  rw [show (Instr.build t (parts.map fun x => match x with | (i, x) => (i, a.eval x))).run P w = .ok (.agg vo.toArray) w from this]
  rfl

noncomputable def rdField (P : Program) (t : TypeId) (fr : Tr SV) (x : Operand) (fi : Nat) (k : SV → Bool) : Bool :=
  opdK fr x fun p => match p with
  | .agg l => match P.underlying t with
    | some (.struct fs) => match fs[fi]? with
      | some f => match rdLoad.isAggB P f.type with
        | some false => (match l[f.offset]? with | some s => k s | none => false)
        | some true => (match P.info? f.type with | some i => listK ((l.drop f.offset).take i.size) fun l' => k (.agg l') | none => false)
        | none => false
      | none => false
    | _ => false
  | _ => false
theorem vals_drop {E : Env} : ∀ {l : List SV} {vl : List Value} (n : Nat), vals E l = some vl → vals E (l.drop n) = some (vl.drop n)
  | [], vl, n, h => by simp only [vals, Option.some.injEq] at h; subst h; simp [vals]
  | s :: r, vl, n, h => by
    have h' := h
    simp only [vals, Option.bind_eq_some_iff, Option.map_eq_some_iff] at h
    obtain ⟨x, hx, y, hy, rfl⟩ := h
    cases n with
    | zero => exact h'
    | succ n => exact vals_drop n hy
theorem vals_take {E : Env} : ∀ {l : List SV} {vl : List Value} (n : Nat), vals E l = some vl → vals E (l.take n) = some (vl.take n)
  | [], vl, n, h => by simp only [vals, Option.some.injEq] at h; subst h; simp [vals]
  | s :: r, vl, n, h => by
    simp only [vals, Option.bind_eq_some_iff, Option.map_eq_some_iff] at h
    obtain ⟨x, hx, y, hy, rfl⟩ := h
    cases n with
    | zero => rfl
    | succ n => simp [vals, hx, vals_take n hy]
theorem vals_one {E : Env} {l : List SV} {vl : List Value} (h : vals E l = some vl) {i : Nat} {s : SV} (hi : l[i]? = some s) : ∃ v, val E s = some v ∧ vl[i]? = some v := by
  have e := vals_at h i
  rw [hi] at e
  simp only [Option.bind_some] at e
  have hlt : i < vl.length := by rw [vals_length h]; exact (List.getElem?_eq_some_iff.1 hi).1
  rw [List.getElem?_eq_getElem hlt] at e
  exact ⟨_, e, List.getElem?_eq_getElem hlt⟩
theorem rdField_ok {t : TypeId} {x : Operand} {fi : Nat} (ho : o.op = .field t x fi) (h : rdField P t fr x fi k = true) : ∃ sv, k sv = true ∧ ReadOk P W0 o fr g.get sv := by
  unfold rdField at h
  rw [opdK_eq] at h
  split at h
  case h_2 => cases h
  rename_i l hp
  split at h
  case h_2 => cases h
  rename_i fs hu
  split at h
  case h_2 => cases h
  rename_i f hf
  split at h
  · rename_i hagg
    split at h
    case h_2 => cases h
    rename_i s hs
    refine ⟨s, h, fun E N a w r fo => ?_⟩
    have hx := opd_ok fo x
    rw [hp] at hx
    simp only [val, Option.map_eq_some_iff] at hx
    obtain ⟨vl, e1, hx⟩ := hx
    obtain ⟨v, e2, e3⟩ := vals_one e1 hs
    refine ⟨v, e2, ?_⟩
    unfold execOp
    rw [ho]
    simp [Instr.field, ← hx, asAgg, part, Sem.run_bind, run_underlying hu, hf, run_isAgg hagg, Result.andThen, e3]
  · rename_i hagg
    split at h
    case h_2 => cases h
    rename_i i hi
    rw [listK_eq] at h
    refine ⟨_, h, fun E N a w r fo => ?_⟩
    have hx := opd_ok fo x
    rw [hp] at hx
    simp only [val, Option.map_eq_some_iff] at hx
    obtain ⟨vl, e1, hx⟩ := hx
    refine ⟨.agg ((vl.drop f.offset).take i.size).toArray, by simp [val, vals_take _ (vals_drop _ e1)], ?_⟩
    unfold execOp
    rw [ho]
    simp [Instr.field, ← hx, asAgg, part, Sem.run_bind, run_underlying hu, hf, run_isAgg hagg, run_sizeOf hi, Result.andThen, List.extract_eq_take_drop]
  · cases h

/-- A place of an array's value, one cell each. -/
noncomputable def rdIndexA (P : Program) (t : TypeId) (fr : Tr SV) (x ix : Operand) (k : SV → Bool) : Bool :=
  match P.underlying t with
  | some (.array len el) => (match rdLoad.isAggB P el with
    | some false => (match P.info? el with
      | some inf => bif Nat.beq inf.size 1 then opdK fr ix fun iv => (match iv with
        | .int _ (.ofNat i) => opdK fr x fun p => (match p with
          | .agg l => bif Nat.blt i len then (match l[i]? with | some s => k s | none => false) else false
          | _ => false)
        | _ => false) else false
      | none => false)
    | _ => false)
  | _ => false
theorem rdIndexA_ok {t : TypeId} {x ix : Operand} (ho : o.op = .index t x ix) (h : rdIndexA P t fr x ix k = true) : ∃ sv, k sv = true ∧ ReadOk P W0 o fr g.get sv := by
  unfold rdIndexA at h
  split at h
  case h_2 => cases h
  rename_i len el hu
  split at h
  case h_2 => cases h
  rename_i hagg
  split at h
  case h_2 => cases h
  rename_i inf hi
  obtain ⟨hsz, h⟩ := bif_true h
  have hsz := Nat.eq_of_beq_eq_true hsz
  rw [opdK_eq] at h
  split at h
  case h_2 => cases h
  rename_i kd i hix
  rw [opdK_eq] at h
  split at h
  case h_2 => cases h
  rename_i l hp
  obtain ⟨hlt, h⟩ := bif_true h
  have hlt : i < len := Nat.le_of_ble_eq_true hlt
  split at h
  case h_2 => cases h
  rename_i s hs
  refine ⟨s, h, fun E N a w r fo => ?_⟩
  have hx := opd_ok fo x
  rw [hp] at hx
  simp only [val, Option.map_eq_some_iff] at hx
  obtain ⟨vl, e1, hx⟩ := hx
  have hy := opd_ok fo ix
  rw [hix] at hy
  simp only [val, Option.some.injEq] at hy
  obtain ⟨v, e2, e3⟩ := vals_one e1 hs
  refine ⟨v, e2, ?_⟩
  unfold execOp
  rw [ho]
  simp [Instr.index, ← hx, ← hy, asIntOf, part, Sem.run_bind, run_underlying hu, run_isAgg hagg, run_sizeOf hi, hsz, hlt, Result.andThen, e3]
noncomputable def rdMakeFunc (fr : Tr SV) (f : Fn) (first cap : Array Operand) (k : SV → Bool) : Bool :=
  opdsK fr first.toList fun a => opdsK fr cap.toList fun b => k (.fn f a b)
theorem rdMakeFunc_ok {f : Fn} {first cap : Array Operand} (ho : o.op = .makeFunc f first cap) (h : rdMakeFunc fr f first cap k = true) : ∃ sv, k sv = true ∧ ReadOk P W0 o fr g.get sv := by
  unfold rdMakeFunc at h
  rw [opdsK_eq, opdsK_eq] at h
  refine ⟨_, h, fun E N a w r fo => ⟨.func f (first.map a.eval) (cap.map a.eval), ?_, ?_⟩⟩
  · simp only [val, opds_ok fo, Option.bind_some, Option.map_some, Option.some.injEq, Value.func.injEq, true_and]
    constructor <;> (apply Array.ext'; simp)
  · unfold execOp
    rw [ho]
    simp [Instr.makeFunc, Sem.run_bind, Result.andThen]
end Go.Proofs.YtjbjpjaeagopjaaGreat.Ev
