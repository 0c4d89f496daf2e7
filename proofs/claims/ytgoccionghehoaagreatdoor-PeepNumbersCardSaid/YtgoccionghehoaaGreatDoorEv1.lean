/- A table of numbers to things, quick for the kernel. No program in sight. What rows hold that nobody writes: the data of modules. Values whose addresses are numbers of objects, and what they stand for. Objects, and what it says that a world holds them; how worlds and objects go on. Operands, and operations that only read. More operations that only read. Building structs and arrays; fields; lengths; function values; comparison with nil. Lengths, comparison with nil, slices of slices, looking up in a map. Slices of slices and of arrays; looking up in a map. Looking up in a map; all reading operations. -/
import Derived.Calls
import Derived.Orders
import Derived.Below
import Derived.Deep.Quiet
import Derived.Sort.Grow
import Derived.Laws.Entries
import Derived.Laws.Cells
import Derived.Laws.Tables
set_option linter.unusedSimpArgs false
set_option linter.unusedVariables false
set_option linter.unusedSectionVars false
namespace Go.Proofs.YtgoccionghehoaaGreatDoor.Ev
universe u v

/-- A thing, and four tables: of the numbers 1, 5, 9 ..; 2, 6 ..; 3, 7 ..; 4, 8 .. -/
inductive Tr (α : Type u) where
  | e
  | n (x : Option α) (a b c d : Tr α)
/-- The way to a number. -/
inductive Pa where
  | z
  | a (p : Pa)
  | b (p : Pa)
  | c (p : Pa)
  | d (p : Pa)
theorem Tr.bif_beq {γ : Sort u} (i j : Nat) (a b : γ) : (bif Nat.beq i j then a else b) = if i = j then a else b := by
  by_cases h : i = j
  · subst h; simp
  · rw [if_neg h]
    have : Nat.beq i j = false := by
      rw [Bool.eq_false_iff]
      exact fun e => h (Nat.eq_of_beq_eq_true e)
    rw [this]; rfl
theorem Tr.rec_beq {γ : Type u} (i j : Nat) (a b : γ) : (Bool.rec b a (Nat.beq i j) : γ) = if i = j then a else b := by
  rw [← Tr.bif_beq]
  cases Nat.beq i j <;> rfl
noncomputable def paF (f : Nat) : Nat → Pa := Nat.rec (fun _ => .z) (fun _ ih i => Bool.rec (Bool.rec (Bool.rec (.d (ih (Nat.div (Nat.sub i 1) 4))) (.b (ih (Nat.div (Nat.sub i 1) 4))) (Nat.beq (Nat.mod (Nat.div (Nat.sub i 1) 2) 2) 0)) (Bool.rec (.c (ih (Nat.div (Nat.sub i 1) 4))) (.a (ih (Nat.div (Nat.sub i 1) 4))) (Nat.beq (Nat.mod (Nat.div (Nat.sub i 1) 2) 2) 0)) (Nat.beq (Nat.mod (Nat.sub i 1) 2) 0)) .z (Nat.beq i 0)) f
theorem paF_succ (f i : Nat) : paF (f + 1) i = if i = 0 then .z else if (i - 1) % 2 = 0 then (if (i - 1) / 2 % 2 = 0 then .a (paF f ((i - 1) / 4)) else .c (paF f ((i - 1) / 4))) else (if (i - 1) / 2 % 2 = 0 then .b (paF f ((i - 1) / 4)) else .d (paF f ((i - 1) / 4))) := by
  show (Bool.rec (Bool.rec (Bool.rec (.d (paF f ((i - 1) / 4))) (.b (paF f ((i - 1) / 4))) (Nat.beq ((i - 1) / 2 % 2) 0)) (Bool.rec (.c (paF f ((i - 1) / 4))) (.a (paF f ((i - 1) / 4))) (Nat.beq ((i - 1) / 2 % 2) 0)) (Nat.beq ((i - 1) % 2) 0)) .z (Nat.beq i 0) : Pa) = _
  simp only [Tr.rec_beq]
noncomputable def pa (i : Nat) : Pa := paF i i
theorem paF_fuel (f : Nat) : ∀ i g, i ≤ f → i ≤ g → paF f i = paF g i := by
  induction f with
  | zero =>
    intro i g h _
    have : i = 0 := by omega
    subst this
    cases g with
    | zero => rfl
    | succ g => rw [paF_succ, if_pos rfl]; rfl
  | succ f ih =>
    intro i g h hg
    by_cases h0 : i = 0
    · subst h0
      cases g with
      | zero => rw [paF_succ, if_pos rfl]; rfl
      | succ g => rw [paF_succ, paF_succ, if_pos rfl, if_pos rfl]
    · cases g with
      | zero => omega
      | succ g => rw [paF_succ, paF_succ, ih ((i - 1) / 4) g (by omega) (by omega)]
theorem paF_inj (f : Nat) : ∀ i j, i ≤ f → j ≤ f → paF f i = paF f j → i = j := by
  induction f with
  | zero => intro i j hi hj _; omega
  | succ f ih =>
    intro i j hi hj e
    rw [paF_succ, paF_succ] at e
    have key : paF f ((i - 1) / 4) = paF f ((j - 1) / 4) → (i - 1) / 4 = (j - 1) / 4 := ih _ _ (by omega) (by omega)
    by_cases a0 : i = 0 <;> by_cases b0 : j = 0
    · omega
    · rw [if_pos a0, if_neg b0] at e
      by_cases b1 : (j - 1) % 2 = 0 <;> by_cases b2 : (j - 1) / 2 % 2 = 0 <;> simp only [b1, b2, if_true, if_false] at e <;> cases e
    · rw [if_pos b0, if_neg a0] at e
      by_cases a1 : (i - 1) % 2 = 0 <;> by_cases a2 : (i - 1) / 2 % 2 = 0 <;> simp only [a1, a2, if_true, if_false] at e <;> cases e
    · rw [if_neg a0, if_neg b0] at e
      by_cases a1 : (i - 1) % 2 = 0 <;> by_cases a2 : (i - 1) / 2 % 2 = 0 <;> by_cases b1 : (j - 1) % 2 = 0 <;> by_cases b2 : (j - 1) / 2 % 2 = 0 <;> simp only [a1, a2, b1, b2, if_true, if_false] at e <;> first
      | (injection e with e; have := key e; omega)
      | cases e
theorem pa_inj {i j : Nat} (e : pa i = pa j) : i = j := by
  unfold pa at e
  rw [paF_fuel i i (max i j) (Nat.le_refl _) (Nat.le_max_left _ _), paF_fuel j j (max i j) (Nat.le_refl _) (Nat.le_max_right _ _)] at e
  exact paF_inj _ _ _ (Nat.le_max_left _ _) (Nat.le_max_right _ _) e
noncomputable def getp {α : Type u} (t : Tr α) : Pa → Option α :=
  Tr.rec (fun _ => none) (fun v _ _ _ _ ga gb gc gd p => Pa.rec v (fun q _ => ga q) (fun q _ => gb q) (fun q _ => gc q) (fun q _ => gd q) p) t
noncomputable def onep {α : Type u} (p : Pa) (o : Option α) : Tr α :=
  Pa.rec (.n o .e .e .e .e) (fun _ t => .n none t .e .e .e) (fun _ t => .n none .e t .e .e) (fun _ t => .n none .e .e t .e) (fun _ t => .n none .e .e .e t) p
noncomputable def putp {α : Type u} (t : Tr α) : Pa → Option α → Tr α :=
  Tr.rec (fun p o => onep p o) (fun v a b c d sa sb sc sd p o => Pa.rec (.n o a b c d) (fun q _ => .n v (sa q o) b c d) (fun q _ => .n v a (sb q o) c d) (fun q _ => .n v a b (sc q o) d) (fun q _ => .n v a b c (sd q o)) p) t
theorem getp_onep {α : Type u} (p : Pa) (o : Option α) : getp (onep p o) p = o ∧ ∀ q, q ≠ p → getp (onep p o) q = none := by
  induction p with
  | z => exact ⟨rfl, fun q h => by cases q <;> first | rfl | exact absurd rfl h⟩
  | a p ih => exact ⟨ih.1, fun q h => by cases q <;> first | rfl | exact ih.2 _ fun e => h (by rw [e])⟩
  | b p ih => exact ⟨ih.1, fun q h => by cases q <;> first | rfl | exact ih.2 _ fun e => h (by rw [e])⟩
  | c p ih => exact ⟨ih.1, fun q h => by cases q <;> first | rfl | exact ih.2 _ fun e => h (by rw [e])⟩
  | d p ih => exact ⟨ih.1, fun q h => by cases q <;> first | rfl | exact ih.2 _ fun e => h (by rw [e])⟩
theorem getp_putp {α : Type u} (t : Tr α) (o : Option α) : ∀ p, getp (putp t p o) p = o ∧ ∀ q, q ≠ p → getp (putp t p o) q = getp t q := by
  induction t with
  | e => exact fun p => getp_onep p o
  | n v a b c d ia ib ic id =>
    intro p
    cases p with
    | z => exact ⟨rfl, fun q h => by cases q <;> first | rfl | exact absurd rfl h⟩
    | a p => exact ⟨(ia p).1, fun q h => by cases q <;> first | rfl | exact (ia p).2 _ fun e => h (by rw [e])⟩
    | b p => exact ⟨(ib p).1, fun q h => by cases q <;> first | rfl | exact (ib p).2 _ fun e => h (by rw [e])⟩
    | c p => exact ⟨(ic p).1, fun q h => by cases q <;> first | rfl | exact (ic p).2 _ fun e => h (by rw [e])⟩
    | d p => exact ⟨(id p).1, fun q h => by cases q <;> first | rfl | exact (id p).2 _ fun e => h (by rw [e])⟩
namespace Tr
variable {α : Type u} {β : Type v}
noncomputable def get (t : Tr α) (i : Nat) : Option α := getp t (pa i)
theorem get_e (i : Nat) : (Tr.e : Tr α).get i = none := rfl
noncomputable def put (t : Tr α) (i : Nat) (o : Option α) : Tr α := putp t (pa i) o
theorem get_put (t : Tr α) (i : Nat) (o : Option α) (j : Nat) : (t.put i o).get j = if j = i then o else t.get j := by
  unfold get put
  split
  · rename_i e
    rw [e]
    exact (getp_putp t o (pa i)).1
  · rename_i e
    exact (getp_putp t o (pa i)).2 _ fun q => e (pa_inj q)
end Tr
noncomputable def getKp {α : Type} (t : Tr α) : Pa → (α → Bool) → Bool :=
  Tr.rec (fun _ _ => false) (fun v _ _ _ _ ga gb gc gd p => Pa.rec (motive := fun _ => Option α → (Pa → (α → Bool) → Bool) → (Pa → (α → Bool) → Bool) → (Pa → (α → Bool) → Bool) → (Pa → (α → Bool) → Bool) → (α → Bool) → Bool)
    (fun v _ _ _ _ => Option.rec (fun _ => false) (fun s k => k s) v) (fun q _ _ ga _ _ _ => ga q) (fun q _ _ _ gb _ _ => gb q) (fun q _ _ _ _ gc _ => gc q) (fun q _ _ _ _ _ gd => gd q) p v ga gb gc gd) t
noncomputable def getQ {α : Type} (t : Tr α) (i : Nat) (k : α → Bool) : Bool := getKp t (pa i) k
theorem getKp_eq {α : Type} (t : Tr α) : ∀ (p : Pa) (k : α → Bool), getKp t p k = match getp t p with | some s => k s | none => false := by
  induction t with
  | e => intro p k; rfl
  | n v a b c d ia ib ic id =>
    intro p k
    cases p with
    | z => cases v <;> rfl
    | a q => exact ia q k
    | b q => exact ib q k
    | c q => exact ic q k
    | d q => exact id q k
theorem getQ_eq {α : Type} (t : Tr α) (i : Nat) (k : α → Bool) : getQ t i k = match t.get i with | some s => k s | none => false := getKp_eq t (pa i) k
noncomputable def oneKp {α : Type u} {β : Type v} (p : Pa) : Option α → (Tr α → β) → β :=
  Pa.rec (fun o k => k (.n o .e .e .e .e)) (fun _ ih o k => ih o fun t => k (.n none t .e .e .e)) (fun _ ih o k => ih o fun t => k (.n none .e t .e .e)) (fun _ ih o k => ih o fun t => k (.n none .e .e t .e)) (fun _ ih o k => ih o fun t => k (.n none .e .e .e t)) p
noncomputable def putKp {α : Type u} {β : Type v} (t : Tr α) : Pa → Option α → (Tr α → β) → β :=
  Tr.rec (fun p => oneKp p) (fun v a b c d sa sb sc sd p => Pa.rec (motive := fun _ => Option α → Tr α → Tr α → Tr α → Tr α → (Pa → Option α → (Tr α → β) → β) → (Pa → Option α → (Tr α → β) → β) → (Pa → Option α → (Tr α → β) → β) → (Pa → Option α → (Tr α → β) → β) → Option α → (Tr α → β) → β)
    (fun _ a b c d _ _ _ _ o k => k (.n o a b c d)) (fun q _ v _ b c d sa _ _ _ o k => sa q o fun t => k (.n v t b c d)) (fun q _ v a _ c d _ sb _ _ o k => sb q o fun t => k (.n v a t c d)) (fun q _ v a b _ d _ _ sc _ o k => sc q o fun t => k (.n v a b t d)) (fun q _ v a b c _ _ _ _ sd o k => sd q o fun t => k (.n v a b c t)) p v a b c d sa sb sc sd) t
theorem oneKp_eq {α : Type u} {β : Type v} (p : Pa) (o : Option α) : ∀ (k : Tr α → β), oneKp p o k = k (onep p o) := by
  induction p with
  | z => intro k; rfl
  | a q ih => intro k; exact ih _
  | b q ih => intro k; exact ih _
  | c q ih => intro k; exact ih _
  | d q ih => intro k; exact ih _
theorem putKp_eq {α : Type u} {β : Type v} (t : Tr α) : ∀ (p : Pa) (o : Option α) (k : Tr α → β), putKp t p o k = k (putp t p o) := by
  induction t with
  | e => intro p o k; exact oneKp_eq p o k
  | n v a b c d ia ib ic id =>
    intro p o k
    cases p with
    | z => rfl
    | a q => exact ia q o _
    | b q => exact ib q o _
    | c q => exact ic q o _
    | d q => exact id q o _
/-- The same, the new table handed on. -/
noncomputable def Tr.putK {α : Type u} {β : Type v} (t : Tr α) (i : Nat) (o : Option α) (k : Tr α → β) : β := putKp t (pa i) o k
theorem Tr.putK_eq {α : Type u} {β : Type v} (t : Tr α) (i : Nat) (o : Option α) (k : Tr α → β) : t.putK i o k = k (t.put i o) := putKp_eq t (pa i) o k
end Go.Proofs.YtgoccionghehoaaGreatDoor.Ev
namespace Go.Proofs.YtgoccionghehoaaGreatDoor.Ev
open Go

/-- A slice: which frozen row, and what it holds. -/
structure Sl (α : Type) where
  id : Nat
  l : List α
instance {α : Type} : Inhabited (Sl α) := ⟨⟨0, []⟩⟩
structure OpdT where
  reg : Int
  imm : Int
deriving Inhabited, DecidableEq
structure InstrT where
  op : Int
  kind : Int
  to : Int
  a : OpdT
  b : OpdT
  array : Int
  cell : Int
  func : Int
  args : Sl OpdT
  arrays : Sl Int
  frm : Sl Int
deriving Inhabited
structure TermT where
  op : Int
  a : OpdT
  to : Int
  els : Int
deriving Inhabited, DecidableEq
structure BlockT where
  code : Sl InstrT
  fin : TermT
deriving Inhabited
structure ArrT where
  kind : Int
  len : Int
  small : Bool
  global : Int
deriving Inhabited, DecidableEq
structure FuncT where
  name : ByteArray
  params : Int
  regs : Int
  result : Bool
  arrays : Sl ArrT
  blocks : Sl BlockT
structure CellT where
  name : ByteArray
  init : Int
structure GArrT where
  name : ByteArray
  len : Int
  small : Bool
instance : Inhabited FuncT := ⟨⟨ByteArray.empty, 0, 0, false, default, default⟩⟩
instance : Inhabited CellT := ⟨⟨ByteArray.empty, 0⟩⟩
instance : Inhabited GArrT := ⟨⟨ByteArray.empty, 0, false⟩⟩
structure ModT where
  cells : Sl CellT
  arrays : Sl GArrT
  funcs : Sl FuncT
  main : Int
instance : Inhabited ModT := ⟨⟨default, default, default, 0⟩⟩
/-- An application. -/
structure AppT where
  pass : Int
  rule : Int
  func : Int
  block : Int
  index : Int
deriving Inhabited, DecidableEq
inductive Kt where
  | ints (l : List Int)
  | bools (l : List Bool)
  | opds (l : List OpdT)
  | instrs (l : List InstrT)
  | blocks (l : List BlockT)
  | arrs (l : List ArrT)
  | funcs (l : List FuncT)
  | cells (l : List CellT)
  | garrs (l : List GArrT)
  | apps (l : List AppT)
  | intss (l : List (Sl Int))
  | boolss (l : List (Sl Bool))
  | places (l : List (Int × Int))
end Go.Proofs.YtgoccionghehoaaGreatDoor.Ev
namespace Go.Proofs.YtgoccionghehoaaGreatDoor.Ev
open Go

/-- What waits among a frame's deferred calls: a loop's mark, or a closure over boxes. -/
inductive DI where
  | mark (D : Nat)
  | clo (f : FuncId) (ids : List Nat)
inductive SV where
  | bool (b : Bool)
  | int (k : IntKind) (n : Int)
  | lit (v : Value)
  | ptr (id off : Nat)
  | sl (id off len cap : Nat)
  | slr (id off len skip : Nat)
  | emp (j id off skip : Nat)
  | map (id : Nat)
  | fn (f : Fn) (first cap : List SV)
  | iface (t : TypeId) (v : SV)
  | agg (l : List SV)
  | tup (l : List SV)
  | yld (id : Nat)
  | mks (l : List DI)
  | esl (j : Nat) (c : Kt) (off len : Nat)
  | epl (j : Nat) (c : Kt) (i r : Nat)
  | rng (lo hi n : Int)
  | sla (id len : Nat)

/-- Where an object lies: its block, its first place there, the capacity from there on. -/
structure Spot where
  blk : Nat
  base : Nat
  cap : Nat
/-- A row that nobody writes: its room, what it holds. -/
structure Fz where
  cap : Nat
  ct : Kt
structure Env where
  at_ : Nat → Option Spot
  emp : Nat → Option (Option Addr × Option Fz)
def Sl.sv {α : Type} (f : List α → Kt) (s : Sl α) : SV := .esl s.id (f s.l) 0 s.l.length
def Kt.n : Kt → Nat
  | .ints l => l.length
  | .bools l => l.length
  | .opds l => l.length
  | .instrs l => l.length
  | .blocks l => l.length
  | .arrs l => l.length
  | .funcs l => l.length
  | .cells l => l.length
  | .garrs l => l.length
  | .apps l => l.length
  | .intss l => l.length
  | .boolss l => l.length
  | .places l => l.length
def Kt.sz : Kt → Nat
  | .ints _ => 1
  | .bools _ => 1
  | .opds _ => 2
  | .instrs _ => 13
  | .blocks _ => 6
  | .arrs _ => 4
  | .funcs _ => 6
  | .cells _ => 2
  | .garrs _ => 3
  | .apps _ => 5
  | .intss _ => 1
  | .boolss _ => 1
  | .places _ => 2
/-- The cells of what is held. -/
def InstrT.cells (x : InstrT) : List SV := [.int .i64 x.op, .int .i64 x.kind, .int .i64 x.to, .int .i64 x.a.reg, .int .i64 x.a.imm, .int .i64 x.b.reg, .int .i64 x.b.imm, .int .i64 x.array, .int .i64 x.cell, .int .i64 x.func, x.args.sv .opds, x.arrays.sv .ints, x.frm.sv .ints]
def TermT.cells (x : TermT) : List SV := [.int .i64 x.op, .int .i64 x.a.reg, .int .i64 x.a.imm, .int .i64 x.to, .int .i64 x.els]
def BlockT.cells (x : BlockT) : List SV := x.code.sv .instrs :: x.fin.cells
def ArrT.cells (x : ArrT) : List SV := [.int .i64 x.kind, .int .i64 x.len, .bool x.small, .int .i64 x.global]
def FuncT.cells (x : FuncT) : List SV := [.lit (.string x.name), .int .i64 x.params, .int .i64 x.regs, .bool x.result, x.arrays.sv .arrs, x.blocks.sv .blocks]
def ModT.cs (x : ModT) : List SV := [x.cells.sv .cells, x.arrays.sv .garrs, x.funcs.sv .funcs, .int .i64 x.main]
def OpdT.cells (x : OpdT) : List SV := [.int .i64 x.reg, .int .i64 x.imm]
def AppT.cells (x : AppT) : List SV := [.int .i64 x.pass, .int .i64 x.rule, .int .i64 x.func, .int .i64 x.block, .int .i64 x.index]
def cellAt (l : List SV) (r : Nat) : SV := l.getD r (.lit .nilFunc)
def Kt.cell : Kt → Nat → Nat → SV
  | .ints l, i, _ => .int .i64 (l.getD i 0)
  | .bools l, i, _ => .bool (l.getD i false)
  | .opds l, i, r => cellAt (l.getD i default).cells r
  | .instrs l, i, r => cellAt (l.getD i default).cells r
  | .blocks l, i, r => cellAt (l.getD i default).cells r
  | .arrs l, i, r => cellAt (l.getD i default).cells r
  | .funcs l, i, r => cellAt (l.getD i default).cells r
  | .cells l, i, r => cellAt [.lit (.string (l.getD i default).name), .int .i64 (l.getD i default).init] r
  | .garrs l, i, r => cellAt [.lit (.string (l.getD i default).name), .int .i64 (l.getD i default).len, .bool (l.getD i default).small] r
  | .apps l, i, r => cellAt (l.getD i default).cells r
  | .intss l, i, _ => (l.getD i default).sv .ints
  | .boolss l, i, _ => (l.getD i default).sv .bools
  | .places l, i, r => cellAt [.int .i64 (l.getD i default).1, .int .i64 (l.getD i default).2] r
def Env.le (E E' : Env) : Prop := (∀ i s, E.at_ i = some s → E'.at_ i = some s) ∧ (∀ j p, E.emp j = some p → E'.emp j = some p)
theorem Env.le_refl (E : Env) : E.le E := ⟨fun _ _ h => h, fun _ _ h => h⟩
theorem Env.le_trans {A B C : Env} (h : A.le B) (k : B.le C) : A.le C := ⟨fun i s e => k.1 i s (h.1 i s e), fun j p e => k.2 j p (h.2 j p e)⟩

mutual
/-- What a value stands for. -/
noncomputable def val (E : Env) : SV → Option Value
  | .bool b => some (.bool b)
  | .int k n => some (.int k n)
  | .lit v => some v
  | .ptr id off => (E.at_ id).map fun s => .pointer (some ⟨s.blk, s.base + off, none⟩)
  | .sl id off len cap => (E.at_ id).map fun s => .slice (some ⟨s.blk, s.base + off, none⟩) len cap
  | .slr id off len skip => (E.at_ id).map fun s => .slice (some ⟨s.blk, s.base + off, none⟩) len (s.cap - skip)
  | .emp j id off skip => (E.emp j).bind fun p => p.1.bind fun A => (E.at_ id).map fun s => .slice (some (if s.cap = skip then A else ⟨s.blk, s.base + off, none⟩)) 0 (s.cap - skip)
  | .map id => (E.at_ id).map fun s => .map (some s.blk)
  | .yld id => (E.at_ id).map fun s => .func (.yield s.blk) #[] #[]
  | .mks _ => some undef
  | .esl j c off len => (E.emp j).bind fun p => p.2.bind fun z => open Classical in if z.ct = c ∧ off + len ≤ c.n then some (.slice (p.1.map fun A => A.add (off * c.sz)) len (z.cap - off)) else none
  | .epl j c i r => (E.emp j).bind fun p => p.2.bind fun z => open Classical in if z.ct = c ∧ i < c.n then p.1.map fun A => .pointer (some (A.add (i * c.sz + r))) else none
  | .rng lo hi n => if lo ≤ n ∧ n ≤ hi then some (.int .i64 n) else none
  | .sla id len => (E.at_ id).bind fun s => if len ≤ s.cap then some (.slice (some ⟨s.blk, s.base, none⟩) len s.cap) else none
  | .fn f a b => (vals E a).bind fun x => (vals E b).map fun y => .func f x.toArray y.toArray
  | .iface t v => (val E v).map fun x => .iface t x
  | .agg l => (vals E l).map fun x => .agg x.toArray
  | .tup l => (vals E l).map fun x => .tuple x.toArray
noncomputable def vals (E : Env) : List SV → Option (List Value)
  | [] => some []
  | s :: r => (val E s).bind fun x => (vals E r).map fun y => x :: y
end

mutual
theorem val_le {E E' : Env} (h : E.le E') : ∀ (s : SV) (v : Value), val E s = some v → val E' s = some v
  | .bool b, v, e => by simpa [val] using e
  | .int k n, v, e => by simpa [val] using e
  | .lit x, v, e => by simpa [val] using e
  | .ptr id off, v, e => by
    simp only [val, Option.map_eq_some_iff] at e ⊢
    obtain ⟨s, a, b⟩ := e
    exact ⟨s, h.1 _ _ a, b⟩
  | .sl id off len cap, v, e => by
    simp only [val, Option.map_eq_some_iff] at e ⊢
    obtain ⟨s, a, b⟩ := e
    exact ⟨s, h.1 _ _ a, b⟩
  | .slr id off len skip, v, e => by
    simp only [val, Option.map_eq_some_iff] at e ⊢
    obtain ⟨s, a, b⟩ := e
    exact ⟨s, h.1 _ _ a, b⟩
  | .emp j id off skip, v, e => by
    simp only [val, Option.bind_eq_some_iff, Option.map_eq_some_iff] at e ⊢
    obtain ⟨p, a, A, b, s, c, d⟩ := e
    exact ⟨p, h.2 _ _ a, A, b, s, h.1 _ _ c, d⟩
  | .map id, v, e => by
    simp only [val, Option.map_eq_some_iff] at e ⊢
    obtain ⟨s, a, b⟩ := e
    exact ⟨s, h.1 _ _ a, b⟩
  | .yld id, v, e => by
    simp only [val, Option.map_eq_some_iff] at e ⊢
    obtain ⟨s, a, b⟩ := e
    exact ⟨s, h.1 _ _ a, b⟩
  | .mks l, v, e => by simpa [val] using e
  | .esl j c off len, v, e => by
    simp only [val, Option.bind_eq_some_iff] at e ⊢
    obtain ⟨s, a, b⟩ := e
    exact ⟨s, h.2 _ _ a, b⟩
  | .epl j c i r, v, e => by
    simp only [val, Option.bind_eq_some_iff] at e ⊢
    obtain ⟨s, a, b⟩ := e
    exact ⟨s, h.2 _ _ a, b⟩
  | .rng lo hi n, v, e => by simpa [val] using e
  | .sla id len, v, e => by
    simp only [val, Option.bind_eq_some_iff] at e ⊢
    obtain ⟨s, a, b⟩ := e
    exact ⟨s, h.1 _ _ a, b⟩
  | .fn f a b, v, e => by
    simp only [val, Option.bind_eq_some_iff, Option.map_eq_some_iff] at e ⊢
    obtain ⟨x, hx, y, hy, r⟩ := e
    exact ⟨x, vals_le h a x hx, y, vals_le h b y hy, r⟩
  | .iface t s, v, e => by
    simp only [val, Option.map_eq_some_iff] at e ⊢
    obtain ⟨x, hx, r⟩ := e
    exact ⟨x, val_le h s x hx, r⟩
  | .agg l, v, e => by
    simp only [val, Option.map_eq_some_iff] at e ⊢
    obtain ⟨x, hx, r⟩ := e
    exact ⟨x, vals_le h l x hx, r⟩
  | .tup l, v, e => by
    simp only [val, Option.map_eq_some_iff] at e ⊢
    obtain ⟨x, hx, r⟩ := e
    exact ⟨x, vals_le h l x hx, r⟩
theorem vals_le {E E' : Env} (h : E.le E') : ∀ (l : List SV) (v : List Value), vals E l = some v → vals E' l = some v
  | [], v, e => by simpa [vals] using e
  | s :: r, v, e => by
    simp only [vals, Option.bind_eq_some_iff, Option.map_eq_some_iff] at e ⊢
    obtain ⟨x, hx, y, hy, q⟩ := e
    exact ⟨x, val_le h s x hx, y, vals_le h r y hy, q⟩
end

mutual
/-- The value itself, where no address stands in it. -/
def flat : SV → Option Value
  | .bool b => some (.bool b)
  | .int k n => some (.int k n)
  | .lit v => some v
  | .iface t v => (flat v).map fun x => .iface t x
  | .agg l => (flats l).map fun x => .agg x.toArray
  | .tup l => (flats l).map fun x => .tuple x.toArray
  | .fn f a b => (flats a).bind fun x => (flats b).map fun y => .func f x.toArray y.toArray
  | _ => none
def flats : List SV → Option (List Value)
  | [] => some []
  | s :: r => (flat s).bind fun x => (flats r).map fun y => x :: y
end
mutual
theorem val_of_flat (E : Env) : ∀ (s : SV) (v : Value), flat s = some v → val E s = some v
  | .bool b, v, e => by simpa [val, flat] using e
  | .int k n, v, e => by simpa [val, flat] using e
  | .lit x, v, e => by simpa [val, flat] using e
  | .ptr id off, v, e => by simp [flat] at e
  | .sl id off len cap, v, e => by simp [flat] at e
  | .slr id off len skip, v, e => by simp [flat] at e
  | .emp j id off skip, v, e => by simp [flat] at e
  | .map id, v, e => by simp [flat] at e
  | .yld id, v, e => by simp [flat] at e
  | .mks l, v, e => by simp [flat] at e
  | .esl j c off len, v, e => by simp [flat] at e
  | .epl j c i r, v, e => by simp [flat] at e
  | .rng lo hi n, v, e => by simp [flat] at e
  | .sla id len, v, e => by simp [flat] at e
  | .fn f a b, v, e => by
    simp only [val, flat, Option.bind_eq_some_iff, Option.map_eq_some_iff] at e ⊢
    obtain ⟨x, hx, y, hy, r⟩ := e
    exact ⟨x, vals_of_flats E a x hx, y, vals_of_flats E b y hy, r⟩
  | .iface t s, v, e => by
    simp only [val, flat, Option.map_eq_some_iff] at e ⊢
    obtain ⟨x, hx, r⟩ := e
    exact ⟨x, val_of_flat E s x hx, r⟩
  | .agg l, v, e => by
    simp only [val, flat, Option.map_eq_some_iff] at e ⊢
    obtain ⟨x, hx, r⟩ := e
    exact ⟨x, vals_of_flats E l x hx, r⟩
  | .tup l, v, e => by
    simp only [val, flat, Option.map_eq_some_iff] at e ⊢
    obtain ⟨x, hx, r⟩ := e
    exact ⟨x, vals_of_flats E l x hx, r⟩
theorem vals_of_flats (E : Env) : ∀ (l : List SV) (v : List Value), flats l = some v → vals E l = some v
  | [], v, e => by simpa [vals, flats] using e
  | s :: r, v, e => by
    simp only [vals, flats, Option.bind_eq_some_iff, Option.map_eq_some_iff] at e ⊢
    obtain ⟨x, hx, y, hy, q⟩ := e
    exact ⟨x, val_of_flat E s x hx, y, vals_of_flats E r y hy, q⟩
end

/-- A run that neither looks at the world nor turns it. -/
def pureRun {α : Type} (P : Program) : Sem α → Option α
  | .pure a => some a
  | .program k => pureRun P (k P)
  | .mark _ k => pureRun P k
  | _ => none
theorem run_of_pureRun {α : Type} (P : Program) (e : Sem α) : ∀ (v : α) (w : World), pureRun P e = some v → e.run P w = .ok v w := by
  induction e with
  | pure a => intro v w h; simp only [pureRun, Option.some.injEq] at h; subst h; rfl
  | program k ih => intro v w h; simp only [pureRun] at h; simpa [Sem.run] using ih _ v w h
  | mark m k ih => intro v w h; simp only [pureRun] at h; simpa [Sem.run] using ih v w h
  | load m a k ih => intro v w h; simp [pureRun] at h
  | store m a v k ih => intro v w h; simp [pureRun] at h
  | new o k ih => intro v w h; simp [pureRun] at h
  | shape r k ih => intro v w h; simp [pureRun] at h
  | freeze a n k ih => intro v w h; simp [pureRun] at h
  | frozen a k ih => intro v w h; simp [pureRun] at h
  | getObj r k ih => intro v w h; simp [pureRun] at h
  | setObj r o k ih => intro v w h; simp [pureRun] at h
  | choose q k ih => intro v w h; simp [pureRun] at h
  | sys c k ih => intro v w h; simp [pureRun] at h
  | halt h => intro v w h; simp [pureRun] at h
end Go.Proofs.YtgoccionghehoaaGreatDoor.Ev
namespace Go.Proofs.YtgoccionghehoaaGreatDoor.Ev
open Go Go.RowKit

/-- What the program's own variables hold: block and place; and what a map's block must be for a set of whole numbers. -/
class GTab where
  look : Nat → Nat → Option Value
  set : List Int → Obj → Prop
  raise : Nat → Bool
variable [GTab]
inductive SO where
  | row (n sz : Nat) (t : Tr SV)
  | mp (es : List (SV × SV × Nat)) (clock : Nat)
  | lp (st : LoopState) (pend : Option Code) (fr : Tr SV) (N : Nat) (ps : Array Tmp) (assign body : Code) (D : Nat)
  | df
  | ml (ks : List Int)
  | any (sz : Nat)
structure HS where
  hp : Tr SO
  nx : Nat
  ne : Nat
  bar : Nat
abbrev Hp := Nat → Option SO

def entryOk (E : Env) (e : SV × SV × Nat) (m : MapEntry) : Prop := val E e.1 = some m.key ∧ val E e.2.1 = some m.val ∧ m.born = e.2.2
inductive EntriesOk (E : Env) : List (SV × SV × Nat) → List MapEntry → Prop
  | nil : EntriesOk E [] []
  | cons {e m es ms} : entryOk E e m → EntriesOk E es ms → EntriesOk E (e :: es) (m :: ms)
def cellOk (E : Env) (t : Tr SV) (i : Nat) (x : Option Value) : Prop := ∃ sv v, t.get i = some sv ∧ val E sv = some v ∧ v.oneCell' = true ∧ x = some v
/-- The frame's table says what the slots hold. -/
structure TmpsOk (E : Env) (fr : Tr SV) (N : Nat) (tmps : Array Value) : Prop where
  size : tmps.size = N
  get : ∀ t, t < N → val E ((fr.get t).getD (.lit undef)) = some (tmps.getD t undef)
theorem TmpsOk.le {E E' : Env} {fr : Tr SV} {N : Nat} {tmps : Array Value} (k : TmpsOk E fr N tmps) (h : E.le E') : TmpsOk E' fr N tmps := ⟨k.size, fun t ht => val_le h _ _ (k.get t ht)⟩
def objOk (E : Env) (s : Spot) (w : World) : SO → Prop
  | .row n sz t => ∃ c ty, w.heap[s.blk]? = some (.cells c ty (0, 0)) ∧ s.base + n ≤ c.size ∧ (s.base + s.cap * sz ≤ c.size ∧ (sz = 0 ∨ n ≤ s.cap * sz)) ∧ ∀ i, i < n → cellOk E t i c[s.base + i]?
  | .mp es clock => ∃ ms : List MapEntry, w.heap[s.blk]? = some (.map ms.toArray clock) ∧ EntriesOk E es ms
  | .lp st pend fr N ps assign body D => ∃ (fn : FuncId) (tmps : Array Value) (sD : Spot), w.heap[s.blk]? = some (.loop { state := st, pending := pend, fn, tmps, params := ps, assign, body, defers := sD.blk }) ∧ E.at_ D = some sD ∧ TmpsOk E fr N tmps
  | .df => w.heap[s.blk]? = some (.deferred (some []))
  | .ml ks => ∃ (ms : List MapEntry) (clock : Nat), w.heap[s.blk]? = some (.map ms.toArray clock) ∧ ms.length = ks.length ∧ GTab.set ks (.map ms.toArray clock)
  | .any sz => ∃ c ty, w.heap[s.blk]? = some (.cells c ty (0, 0)) ∧ s.base + s.cap * sz ≤ c.size
theorem EntriesOk.le {E E' : Env} (h : E.le E') {es : List (SV × SV × Nat)} {ms : List MapEntry} (k : EntriesOk E es ms) : EntriesOk E' es ms := by
  induction k with
  | nil => exact .nil
  | cons a _ ih => exact .cons ⟨val_le h _ _ a.1, val_le h _ _ a.2.1, a.2.2⟩ ih
theorem cellOk.le {E E' : Env} (h : E.le E') {t : Tr SV} {i : Nat} {x : Option Value} (k : cellOk E t i x) : cellOk E' t i x := by
  obtain ⟨sv, v, a, b, c, d⟩ := k
  exact ⟨sv, v, a, val_le h _ _ b, c, d⟩
theorem objOk.le {E E' : Env} (h : E.le E') {s : Spot} {w : World} {o : SO} (k : objOk E s w o) : objOk E' s w o := by
  cases o with
  | row n sz t =>
    obtain ⟨c, ty, a, b, d, e⟩ := k
    exact ⟨c, ty, a, b, d, fun i hi => (e i hi).le h⟩
  | mp es clock =>
    obtain ⟨ms, a, b⟩ := k
    exact ⟨ms, a, b.le h⟩
  | lp st pend fr N ps assign body D =>
    obtain ⟨fn, tmps, sD, a, b, c⟩ := k
    exact ⟨fn, tmps, sD, a, h.1 _ _ b, c.le h⟩
  | df => exact k
  | ml ks => exact k
  | any sz => exact k
theorem objOk.of_heap {E : Env} {s : Spot} {w w' : World} {o : SO} (h : w'.heap[s.blk]? = w.heap[s.blk]?) (k : objOk E s w o) : objOk E s w' o := by
  cases o with
  | row n sz t =>
    obtain ⟨c, ty, a, r⟩ := k
    exact ⟨c, ty, h.trans a, r⟩
  | mp es clock =>
    obtain ⟨ms, a, r⟩ := k
    exact ⟨ms, h.trans a, r⟩
  | lp st pend fr N ps assign body D =>
    obtain ⟨fn, tmps, sD, a, r⟩ := k
    exact ⟨fn, tmps, sD, h.trans a, r⟩
  | df => exact h.trans k
  | ml ks =>
    obtain ⟨ms, clock, a, r⟩ := k
    exact ⟨ms, clock, h.trans a, r⟩
  | any sz =>
    obtain ⟨c, ty, a, r⟩ := k
    exact ⟨c, ty, h.trans a, r⟩
theorem objOk.lt {E : Env} {s : Spot} {w : World} {o : SO} (k : objOk E s w o) : s.blk < w.heap.size := by
  cases o with
  | row n sz t =>
    obtain ⟨c, ty, a, _⟩ := k
    exact (Array.getElem?_eq_some_iff.1 a).1
  | mp es clock =>
    obtain ⟨ms, a, _⟩ := k
    exact (Array.getElem?_eq_some_iff.1 a).1
  | lp st pend fr N ps assign body D =>
    obtain ⟨fn, tmps, sD, a, _⟩ := k
    exact (Array.getElem?_eq_some_iff.1 a).1
  | df => exact (Array.getElem?_eq_some_iff.1 k).1
  | ml ks =>
    obtain ⟨ms, clock, a, _⟩ := k
    exact (Array.getElem?_eq_some_iff.1 a).1
  | any sz =>
    obtain ⟨c, ty, a, _⟩ := k
    exact (Array.getElem?_eq_some_iff.1 a).1

/-- What is held where nobody writes. -/
def FzOk (E : Env) (A : Option Addr) (z : Fz) (w : World) : Prop :=
  (∀ a, A = some a → a.block < w.heap.size) ∧ (z.ct.n ≤ z.cap ∧ z.ct.n ≤ 140737488351232) ∧ ∀ i r, i < z.ct.n → r < z.ct.sz → ∃ a v, A = some a ∧ val E (z.ct.cell i r) = some v ∧ v.oneCell' = true ∧ w.cell? (a.add (i * z.ct.sz + r)) = some v
theorem FzOk.le {E E' : Env} (h : E.le E') {A : Option Addr} {z : Fz} {w : World} (k : FzOk E A z w) : FzOk E' A z w :=
  ⟨k.1, k.2.1, fun i r hi hr => by
    obtain ⟨a, v, b, c, d, e⟩ := k.2.2 i r hi hr
    exact ⟨a, v, b, val_le h _ _ c, d, e⟩⟩
theorem FzOk.of_heap {E : Env} {A : Option Addr} {z : Fz} {w w' : World} (h : ∀ a, A = some a → w'.heap[a.block]? = w.heap[a.block]?) (k : FzOk E A z w) : FzOk E A z w' :=
  ⟨fun a ha => by
    have e := h a ha
    rw [Array.getElem?_eq_getElem (k.1 a ha)] at e
    exact (Array.getElem?_eq_some_iff.1 e).1, k.2.1, fun i r hi hr => by
    obtain ⟨a, v, b, c, d, e⟩ := k.2.2 i r hi hr
    exact ⟨a, v, b, c, d, (World.cell?_of_block (w := w) (a := a.add _) (by rw [show (a.add (i * z.ct.sz + r)).block = a.block from by unfold Addr.add; split <;> rfl]; exact h a b)).trans e⟩⟩
structure Rel (W0 : World) (E : Env) (g : Hp) (w : World) : Prop where
  below : Below W0.heap.size W0 w
  obj : ∀ id o, g id = some o → ∃ s, E.at_ id = some s ∧ W0.heap.size ≤ s.blk ∧ objOk E s w o
  inj : ∀ id id' o o' s s', g id = some o → g id' = some o' → E.at_ id = some s → E.at_ id' = some s' → s.blk = s'.blk → id = id'
  fz : ∀ j A z, E.emp j = some (A, some z) → FzOk E A z w
  frz : ∀ j a z id o s, E.emp j = some (some a, some z) → g id = some o → E.at_ id = some s → s.blk ≠ a.block
/-- Nothing is known yet under these numbers. -/
structure Free (E : Env) (nx nx' ne ne' : Nat) : Prop where
  at_ : ∀ id, nx ≤ id → id < nx' → E.at_ id = none
  emp : ∀ j, ne ≤ j → j < ne' → E.emp j = none
/-- The objects go on: those below the bar stay, none comes back. -/
structure Goes (h h' : HS) : Prop where
  kept : ∀ id, id < h.bar → h'.hp.get id = h.hp.get id
  bar : h'.bar = h.bar
  nx : h.nx ≤ h'.nx
  ne : h.ne ≤ h'.ne
  live : ∀ id o, h'.hp.get id = some o → (h.nx ≤ id ∧ id < h'.nx) ∨ ∃ o0, h.hp.get id = some o0
theorem Goes.refl (h : HS) : Goes h h := ⟨fun _ _ => rfl, rfl, Nat.le_refl _, Nat.le_refl _, fun _ o e => .inr ⟨o, e⟩⟩
theorem Goes.trans {a b c : HS} (h : Goes a b) (k : Goes b c) : Goes a c :=
  ⟨fun id hid => (k.kept id (by rw [h.bar]; exact hid)).trans (h.kept id hid), k.bar.trans h.bar, Nat.le_trans h.nx k.nx, Nat.le_trans h.ne k.ne, fun id o e => by
    rcases k.live id o e with q | ⟨o1, q⟩
    · exact .inl ⟨Nat.le_trans h.nx q.1, q.2⟩
    · rcases h.live id o1 q with r | r
      · exact .inl ⟨r.1, Nat.lt_of_lt_of_le r.2 k.nx⟩
      · exact .inr r⟩
/-- The world goes on: what E knows stays known, new numbers alone are added, blocks that are no object's from the bar on stay as they are. -/
structure Step (bar : Nat) (g : Hp) (nx nx' ne ne' : Nat) (E E' : Env) (w w' : World) : Prop where
  le : E.le E'
  dom : ∀ id, ¬ (nx ≤ id ∧ id < nx') → E'.at_ id = E.at_ id
  dome : ∀ j, ¬ (ne ≤ j ∧ j < ne') → E'.emp j = E.emp j
  size : w.heap.size ≤ w'.heap.size
  touch : ∀ k, k < w.heap.size → (∀ id s o, bar ≤ id → g id = some o → E.at_ id = some s → s.blk ≠ k) → w'.heap[k]? = w.heap[k]?
  fresh : ∀ id s, nx ≤ id → id < nx' → E'.at_ id = some s → w.heap.size ≤ s.blk ∨ ∃ id0 s0 o, bar ≤ id0 ∧ g id0 = some o ∧ E.at_ id0 = some s0 ∧ s0.blk = s.blk
  fzn : ∀ j a z, ne ≤ j → j < ne' → E'.emp j = some (some a, some z) → w.heap.size ≤ a.block ∨ ∃ id0 s0 o, bar ≤ id0 ∧ g id0 = some o ∧ E.at_ id0 = some s0 ∧ s0.blk = a.block
theorem Step.refl (bar : Nat) (g : Hp) (nx ne : Nat) (E : Env) (w : World) : Step bar g nx nx ne ne E E w w :=
  ⟨E.le_refl, fun _ _ => rfl, fun _ _ => rfl, Nat.le_refl _, fun _ _ _ => rfl, fun _ _ a b => absurd b (by omega), fun _ _ _ a b => absurd b (by omega)⟩
/-- Nothing but the count of draws has turned. -/
theorem Step.same (bar : Nat) (g : Hp) (nx ne : Nat) (E : Env) {w w' : World} (h : w'.heap = w.heap) : Step bar g nx nx ne ne E E w w' :=
  ⟨E.le_refl, fun _ _ => rfl, fun _ _ => rfl, by rw [h]; exact Nat.le_refl _, fun _ _ _ => by rw [h], fun _ _ a b => absurd b (by omega), fun _ _ _ a b => absurd b (by omega)⟩
theorem Step.trans {h h1 h2 : HS} {E E1 E2 : Env} {w w1 w2 : World} (G : Goes h h1) (G2 : Goes h1 h2) (a : Step h.bar h.hp.get h.nx h1.nx h.ne h1.ne E E1 w w1) (b : Step h1.bar h1.hp.get h1.nx h2.nx h1.ne h2.ne E1 E2 w1 w2) :
    Step h.bar h.hp.get h.nx h2.nx h.ne h2.ne E E2 w w2 := by
  have n1 := G.nx
  have n2 := G2.nx
  have m1 := G.ne
  have m2 := G2.ne
  refine ⟨Env.le_trans a.le b.le, fun id hid => ?_, fun j hj => ?_, Nat.le_trans a.size b.size, fun k hk hno => ?_, fun id s h1' h2' e => ?_, fun j A z h1' h2' e => ?_⟩
  · rw [b.dom id (by omega), a.dom id (by omega)]
  · rw [b.dome j (by omega), a.dome j (by omega)]
  · rw [b.touch k (Nat.lt_of_lt_of_le hk a.size) ?_, a.touch k hk hno]
    intro id s o hb ho he
    rw [G.bar] at hb
    by_cases hn : h.nx ≤ id ∧ id < h1.nx
    · rcases a.fresh id s hn.1 hn.2 he with q | ⟨id0, s0, o0, q0, q1, q2, q3⟩
      · omega
      · rw [← q3]; exact hno id0 s0 o0 q0 q1 q2
    · rcases G.live id o ho with q | ⟨o0, q⟩
      · exact absurd q hn
      · rw [a.dom id hn] at he
        exact hno id s o0 hb q he
  · by_cases hn : id < h1.nx
    · have e1 : E1.at_ id = some s := by rw [b.dom id (by omega)] at e; exact e
      exact a.fresh id s h1' hn e1
    · rcases b.fresh id s (by omega) h2' e with q | ⟨id0, s0, o0, q0, q1, q2, q3⟩
      · exact .inl (Nat.le_trans a.size q)
      · rw [G.bar] at q0
        by_cases hm : h.nx ≤ id0 ∧ id0 < h1.nx
        · rcases a.fresh id0 s0 hm.1 hm.2 q2 with r | ⟨i1, s1, o1, r0, r1, r2, r3⟩
          · exact .inl (by omega)
          · exact .inr ⟨i1, s1, o1, r0, r1, r2, r3.trans q3⟩
        · rcases G.live id0 o0 q1 with r | ⟨o1, r⟩
          · exact absurd r hm
          · rw [a.dom id0 hm] at q2
            exact .inr ⟨id0, s0, o1, q0, r, q2, q3⟩
  · by_cases hn : j < h1.ne
    · have e1 : E1.emp j = some (some A, some z) := by rw [b.dome j (by omega)] at e; exact e
      exact a.fzn j A z h1' hn e1
    · rcases b.fzn j A z (by omega) h2' e with q | ⟨id0, s0, o0, q0, q1, q2, q3⟩
      · exact .inl (Nat.le_trans a.size q)
      · rw [G.bar] at q0
        by_cases hm : h.nx ≤ id0 ∧ id0 < h1.nx
        · rcases a.fresh id0 s0 hm.1 hm.2 q2 with r | ⟨i1, s1, o1, r0, r1, r2, r3⟩
          · exact .inl (by omega)
          · exact .inr ⟨i1, s1, o1, r0, r1, r2, r3.trans q3⟩
        · rcases G.live id0 o0 q1 with r | ⟨o1, r⟩
          · exact absurd r hm
          · rw [a.dom id0 hm] at q2
            exact .inr ⟨id0, s0, o1, q0, r, q2, q3⟩
theorem Free.left {E : Env} {nx nx1 nx2 ne ne1 ne2 : Nat} (h : Free E nx nx2 ne ne2) (a : nx1 ≤ nx2) (b : ne1 ≤ ne2) : Free E nx nx1 ne ne1 :=
  ⟨fun id p q => h.at_ id p (by omega), fun j p q => h.emp j p (by omega)⟩
theorem Free.right {bar : Nat} {g : Hp} {E E1 : Env} {w w1 : World} {nx nx1 nx2 ne ne1 ne2 : Nat} (h : Free E nx nx2 ne ne2) (st : Step bar g nx nx1 ne ne1 E E1 w w1) (a : nx ≤ nx1) (b : ne ≤ ne1) : Free E1 nx1 nx2 ne1 ne2 :=
  ⟨fun id p q => by rw [st.dom id (by omega)]; exact h.at_ id (by omega) q, fun j p q => by rw [st.dome j (by omega)]; exact h.emp j (by omega) q⟩

variable {W0 : World} {E : Env} {g : Hp} {w : World}
/-- A world that differs in its count of draws alone. -/
theorem Rel.same (r : Rel W0 E g w) {w' : World} (hh : w'.heap = w.heap) (ho : w'.os = w.os) (ht : w'.tape = w.tape) (hout : w'.output = w.output) : Rel W0 E g w' :=
  ⟨⟨ho.trans r.below.os, ht.trans r.below.tape, hout.trans r.below.output, by rw [hh]; exact r.below.size, fun k hk => by rw [hh]; exact r.below.block k hk⟩,
    fun id o hid => by
      obtain ⟨s, a, b, c⟩ := r.obj id o hid
      exact ⟨s, a, b, c.of_heap (by rw [hh])⟩, r.inj, fun j A z e => (r.fz j A z e).of_heap fun _ _ => by rw [hh], r.frz⟩
theorem Rel.drewN (r : Rel W0 E g w) (n : Nat) : Rel W0 E g (w.drewN n) := r.same rfl rfl rfl rfl
theorem Rel.drew (r : Rel W0 E g w) : Rel W0 E g w.drew := r.same rfl rfl rfl rfl
/-- One object turns. -/
theorem Rel.upd (r : Rel W0 E g w) {id : Nat} {o o' : SO} {s : Spot} {w' : World} {g' : Hp} (hid : g id = some o) (hs : E.at_ id = some s) (ho : w'.os = w.os) (ht : w'.tape = w.tape) (hout : w'.output = w.output)
    (hsz : w'.heap.size = w.heap.size) (hoth : ∀ k, k ≠ s.blk → w'.heap[k]? = w.heap[k]?) (hob : objOk E s w' o') (hg : ∀ j, g' j = if j = id then some o' else g j) : Rel W0 E g' w' := by
  obtain ⟨s1, e1, b1, k1⟩ := r.obj id o hid
  have : s1 = s := Option.some.inj (e1.symm.trans hs)
  subst this
  have live : ∀ j x, g' j = some x → ∃ y, g j = some y := fun j x hx => by
    rw [hg] at hx
    by_cases e : j = id
    · exact ⟨o, by rw [e]; exact hid⟩
    · rw [if_neg e] at hx; exact ⟨x, hx⟩
  refine ⟨⟨ho.trans r.below.os, ht.trans r.below.tape, hout.trans r.below.output, by rw [hsz]; exact r.below.size, fun k hk => (hoth k (by omega)).trans (r.below.block k hk)⟩, fun j x hx => ?_, fun j j' x x' t t' hx hx' ht ht' hb => ?_, fun j A z hz => ?_, fun j a z j' x t' hz hx ht' => ?_⟩
  · rw [hg] at hx
    by_cases e : j = id
    · rw [if_pos e] at hx
      obtain rfl := Option.some.inj hx
      rw [e]
      exact ⟨s1, hs, b1, hob⟩
    · rw [if_neg e] at hx
      obtain ⟨t, a, b, c⟩ := r.obj j x hx
      refine ⟨t, a, b, c.of_heap (hoth _ fun eb => e (r.inj j id x o t s1 hx hid a hs eb))⟩
  · obtain ⟨y, hy⟩ := live j x hx
    obtain ⟨y', hy'⟩ := live j' x' hx'
    exact r.inj j j' y y' t t' hy hy' ht ht' hb
  · exact (r.fz j A z hz).of_heap fun a ha => hoth _ fun e => r.frz j a z id o s1 (by rw [← ha]; exact hz) hid hs e.symm
  · obtain ⟨y, hy⟩ := live j' x hx
    exact r.frz j a z j' y t' hz hy ht'
/-- E with one more object. -/
def Env.more (E : Env) (id : Nat) (s : Spot) : Env := { E with at_ := fun i => if i = id then some s else E.at_ i }
theorem Env.le_more (E : Env) (id : Nat) (s : Spot) (h : E.at_ id = none) : E.le (E.more id s) :=
  ⟨fun i x e => by
    simp only [Env.more]
    rw [if_neg (fun h2 => by rw [h2, h] at e; cases e)]
    exact e, fun _ _ e => e⟩
theorem Env.more_at (E : Env) (id : Nat) (s : Spot) : (E.more id s).at_ id = some s := by simp [Env.more]
theorem Env.more_ne (E : Env) (id : Nat) (s : Spot) (j : Nat) (h : j ≠ id) : (E.more id s).at_ j = E.at_ j := by simp [Env.more, h]
/-- One object is made in a new block. -/
theorem Rel.new (r : Rel W0 E g w) {id : Nat} {o : SO} {ob : Obj} {cap : Nat} {g' : Hp} (hn : E.at_ id = none) (hob : objOk (E.more id ⟨w.heap.size, 0, cap⟩) ⟨w.heap.size, 0, cap⟩ { w with heap := w.heap.push ob } o)
    (hg : ∀ j, g' j = if j = id then some o else g j) :
    Rel W0 (E.more id ⟨w.heap.size, 0, cap⟩) g' { w with heap := w.heap.push ob } := by
  have hle := E.le_more id ⟨w.heap.size, 0, cap⟩ hn
  have old : ∀ k, k < w.heap.size → (w.heap.push ob)[k]? = w.heap[k]? := fun k hk => by rw [Array.getElem?_push_lt hk, Array.getElem?_eq_getElem hk]
  refine ⟨⟨r.below.os, r.below.tape, r.below.output, by simp only [Array.size_push]; have := r.below.size; omega, fun k hk => (old k (by have := r.below.size; omega)).trans (r.below.block k hk)⟩, fun j x hx => ?_, fun j j' x x' t t' hx hx' ht ht' hb => ?_, fun j A z hz => ((r.fz j A z hz).of_heap (w' := { w with heap := w.heap.push ob }) fun a ha => old _ ((r.fz j A z hz).1 a ha)).le hle, fun j a z j' x t' hz hx ht' => ?_⟩
  · rw [hg] at hx
    by_cases e : j = id
    · rw [if_pos e] at hx
      obtain rfl := Option.some.inj hx
      rw [e]
      exact ⟨_, E.more_at _ _, r.below.size, hob⟩
    · rw [if_neg e] at hx
      obtain ⟨t, a, b, c⟩ := r.obj j x hx
      exact ⟨t, by rw [E.more_ne _ _ j e]; exact a, b, (c.of_heap (w' := { w with heap := w.heap.push ob }) (old _ c.lt)).le hle⟩
  · rw [hg] at hx hx'
    by_cases e : j = id
    · by_cases e' : j' = id
      · rw [e, e']
      · rw [if_neg e'] at hx'
        obtain ⟨t1, a, b, c⟩ := r.obj j' x' hx'
        rw [E.more_ne _ _ j' e', a] at ht'
        obtain rfl := Option.some.inj ht'
        rw [e, E.more_at] at ht
        obtain rfl := Option.some.inj ht
        have := c.lt
        simp only at hb
        omega
    · rw [if_neg e] at hx
      obtain ⟨t1, a, b, c⟩ := r.obj j x hx
      rw [E.more_ne _ _ j e, a] at ht
      obtain rfl := Option.some.inj ht
      by_cases e' : j' = id
      · rw [e', E.more_at] at ht'
        obtain rfl := Option.some.inj ht'
        have := c.lt
        simp only at hb
        omega
      · rw [if_neg e'] at hx'
        rw [E.more_ne _ _ j' e'] at ht'
        exact r.inj j j' x x' t1 t' hx hx' a ht' hb
  · rw [hg] at hx
    by_cases e' : j' = id
    · rw [e', E.more_at] at ht'
      obtain rfl := Option.some.inj ht'
      have := (r.fz j _ z hz).1 a rfl
      exact fun q => by simp only at q; omega
    · rw [if_neg e'] at hx
      rw [E.more_ne _ _ j' e'] at ht'
      exact r.frz j a z j' x t' hz hx ht'
theorem Step.new (bar : Nat) (g : Hp) (E : Env) (w : World) (nx ne cap : Nat) (ob : Obj) (hn : E.at_ nx = none) : Step bar g nx (nx + 1) ne ne E (E.more nx ⟨w.heap.size, 0, cap⟩) w { w with heap := w.heap.push ob } :=
  ⟨E.le_more _ _ hn, fun id hid => E.more_ne _ _ id (by omega), fun _ _ => rfl, by simp, fun k hk _ => by rw [Array.getElem?_push_lt hk, Array.getElem?_eq_getElem hk], fun id s a b e => by
    have : id = nx := by omega
    subst this
    rw [E.more_at] at e
    obtain rfl := Option.some.inj e
    exact .inl (Nat.le_refl _), fun _ _ _ a b => absurd b (by omega)⟩

/-- The marks among the deferred calls: of which blocks. -/
def Marks (E : Env) : List DI → List Deferred → Prop
  | [], ds => ds = []
  | .mark D :: r, ds => ∃ s ds', E.at_ D = some s ∧ ds = { target := .collected s.blk, args := #[] } :: ds' ∧ Marks E r ds'
  | .clo f ids :: r, ds => ∃ vl ds', vals E (ids.map fun id => SV.ptr id 0) = some vl ∧ ds = { target := .fn (.func f) vl.toArray, args := #[] } :: ds' ∧ Marks E r ds'
theorem Marks.le {E E' : Env} (h : E.le E') : ∀ {l : List DI} {ds : List Deferred}, Marks E l ds → Marks E' l ds
  | [], _, k => k
  | .mark _ :: _, _, ⟨s, ds', a, b, c⟩ => ⟨s, ds', h.1 _ _ a, b, Marks.le h c⟩
  | .clo _ _ :: _, _, ⟨vl, ds', a, b, c⟩ => ⟨vl, ds', vals_le h _ _ a, b, Marks.le h c⟩
def DefOk (E : Env) (x : SV) (ds : List Deferred) : Prop :=
  match x with
  | .mks l => Marks E l ds
  | _ => ds = []
theorem DefOk.le {E E' : Env} (h : E.le E') {x : SV} {ds : List Deferred} (k : DefOk E x ds) : DefOk E' x ds := by
  unfold DefOk at k ⊢
  split at k
  · exact k.le h
  · exact k
/-- A frame. -/
structure FrOk (E : Env) (fr : Tr SV) (N : Nat) (a : Act) : Prop where
  size : a.tmps.size = N
  defers : DefOk E ((fr.get N).getD (.lit undef)) a.defers
  get : ∀ t, val E ((fr.get t).getD (.lit undef)) = some (a.tmps.getD t undef)
theorem FrOk.le {E E' : Env} {fr : Tr SV} {N : Nat} {a : Act} (k : FrOk E fr N a) (h : E.le E') : FrOk E' fr N a := ⟨k.size, k.defers.le h, fun t => val_le h _ _ (k.get t)⟩
theorem FrOk.put {E : Env} {fr : Tr SV} {N : Nat} {a : Act} (k : FrOk E fr N a) {d : Nat} {sv : SV} {v : Value} (hd : d < N) (hv : val E sv = some v) : FrOk E (fr.put d (some sv)) N (a.put (some d) v) := by
  refine ⟨by simp [Act.put, k.size], by rw [Tr.get_put, if_neg (by omega)]; exact k.defers, fun t => ?_⟩
  rw [Tr.get_put]
  simp only [Act.put]
  by_cases e : t = d
  · subst e
    rw [if_pos rfl]
    have : t < a.tmps.size := by rw [k.size]; exact hd
    simp [Array.getD, this, hv]
  · rw [if_neg e, k.get t]
    congr 1
    simp only [Array.getD_eq_getD_getElem?]
    rw [Array.getElem?_setIfInBounds_ne (Ne.symm e)]
end Go.Proofs.YtgoccionghehoaaGreatDoor.Ev
namespace Go.Proofs.YtgoccionghehoaaGreatDoor.Ev
open Go
variable [GTab]

noncomputable def natK (n : Nat) : (Nat → Bool) → Bool := fun k => k n
theorem natK_eq (n : Nat) (k : Nat → Bool) : natK n k = k n := rfl
noncomputable def intK (n : Int) : (Int → Bool) → Bool := fun k => k n
theorem intK_eq (n : Int) (k : Int → Bool) : intK n k = k n := rfl

/-- A value without addresses of objects, as one of ours. -/
noncomputable def normK (v : Value) (k : SV → Bool) : Bool :=
  match v with
  | .bool b => k (.bool b)
  | .int kd n => intK n fun n' => k (.int kd n')
  | v => k (.lit v)
theorem normK_ok {v : Value} {k : SV → Bool} (h : normK v k = true) : ∃ sv, k sv = true ∧ ∀ E, val E sv = some v := by
  unfold normK at h
  split at h
  · rename_i b
    exact ⟨.bool b, h, fun _ => rfl⟩
  · rw [intK_eq] at h
    exact ⟨_, h, fun _ => rfl⟩
  · exact ⟨.lit v, h, fun _ => rfl⟩

noncomputable def opd (fr : Tr SV) : Operand → SV
  | .tmp t => (fr.get t).getD (.lit undef)
  | .const (.bool b) => .bool b
  | .const (.int k n) => .int k n
  | .const v => .lit v
  | .global g => .lit (.pointer (some ⟨g, 0, none⟩))
  | .func f => .fn (.func f) [] []
theorem opd_ok {E : Env} {fr : Tr SV} {N : Nat} {a : Act} (h : FrOk E fr N a) (x : Operand) : val E (opd fr x) = some (a.eval x) := by
  cases x with
  | tmp t => exact h.get t
  | const v => cases v <;> rfl
  | global g => rfl
  | func f => rfl
/-- The operand's value, handed on. -/
noncomputable def opdK (fr : Tr SV) (x : Operand) (k : SV → Bool) : Bool :=
  match x with
  | .tmp t => (match fr.get t with | some sv => k sv | none => k (.lit undef))
  | x => k (opd fr x)
theorem opdK_eq (fr : Tr SV) (x : Operand) (k : SV → Bool) : opdK fr x k = k (opd fr x) := by
  cases x with
  | tmp t =>
    show (match fr.get t with | some sv => k sv | none => k (.lit undef)) = k ((fr.get t).getD (.lit undef))
    cases fr.get t <;> rfl
  | const v => rfl
  | global g => rfl
  | func f => rfl
noncomputable def opdsK (fr : Tr SV) : List Operand → (List SV → Bool) → Bool
  | [], k => k []
  | x :: r, k => opdK fr x fun s => opdsK fr r fun l => k (s :: l)
theorem opdsK_eq (fr : Tr SV) (l : List Operand) : ∀ k, opdsK fr l k = k (l.map (opd fr)) := by
  induction l with
  | nil => intro k; rfl
  | cons x r ih => intro k; rw [opdsK, opdK_eq, ih]; rfl
theorem opds_ok {E : Env} {fr : Tr SV} {N : Nat} {a : Act} (h : FrOk E fr N a) (l : List Operand) : vals E (l.map (opd fr)) = some (l.map a.eval) := by
  induction l with
  | nil => rfl
  | cons x r ih => simp [vals, opd_ok h x, ih]

/-- It reads: it yields sv in the world that it got. -/
def ReadOk (P : Program) (W0 : World) (o : Oper) (fr : Tr SV) (g : Hp) (sv : SV) : Prop :=
  ∀ E N a w, Rel W0 E g w → FrOk E fr N a → ∃ v, val E sv = some v ∧ (execOp a.eval o).run P w = .ok (.value v) w

section
variable {P : Program} {W0 : World} {E : Env} {g : Hp} {w : World}
theorem Rel.cell (r : Rel W0 E g w) {id n sz : Nat} {t : Tr SV} (h : g id = some (.row n sz t)) {i : Nat} (hi : i < n) : ∃ s sv v, E.at_ id = some s ∧ t.get i = some sv ∧ val E sv = some v ∧ v.oneCell' = true ∧ w.cell? ⟨s.blk, s.base + i, none⟩ = some v := by
  obtain ⟨s, a, _, c, ty, h1, h2, h3, h4⟩ := r.obj id _ h
  obtain ⟨sv, v, k1, k2, k3, k4⟩ := h4 i hi
  exact ⟨s, sv, v, a, k1, k2, k3, by simp [World.cell?, h1, k4]⟩

/-- m cells from i on. -/
noncomputable def cellsK (t : Tr SV) (i0 m : Nat) (k0 : List SV → Bool) : Bool :=
  Nat.rec (motive := fun _ => Nat → (List SV → Bool) → Bool) (fun _ k => k []) (fun _ ih i k => getQ t i fun sv => ih (Nat.succ i) fun l => k (sv :: l)) m i0 k0
theorem cellsK_zero (t : Tr SV) (i : Nat) (k : List SV → Bool) : cellsK t i 0 k = k [] := rfl
theorem cellsK_succ (t : Tr SV) (i m : Nat) (k : List SV → Bool) : cellsK t i (m + 1) k = match t.get i with
    | some sv => cellsK t (i + 1) m fun l => k (sv :: l)
    | none => false := by
  show (getQ t i fun sv => cellsK t (i + 1) m fun l => k (sv :: l)) = _
  rw [getQ_eq]
  cases t.get i <;> rfl
theorem cellsK_ok (t : Tr SV) (m : Nat) : ∀ (i : Nat) (k : List SV → Bool), cellsK t i m k = true → ∃ l, k l = true ∧ l.length = m ∧ ∀ j, j < m → t.get (i + j) = l[j]? := by
  induction m with
  | zero => intro i k h; exact ⟨[], h, rfl, fun j hj => absurd hj (by omega)⟩
  | succ m ih =>
    intro i k h
    rw [cellsK_succ] at h
    cases hg : t.get i with
    | none => rw [hg] at h; cases h
    | some sv =>
      rw [hg] at h
      obtain ⟨l, h1, h2, h3⟩ := ih _ _ h
      refine ⟨sv :: l, h1, by simp [h2], fun j hj => ?_⟩
      cases j with
      | zero => simpa using hg
      | succ j =>
        have := h3 j (by omega)
        rw [show i + (j + 1) = i + 1 + j by omega, this]
        simp
theorem vals_get {E : Env} : ∀ (l : List SV) (F : Nat → Value), (∀ j sv, l[j]? = some sv → val E sv = some (F j)) → vals E l = some ((List.range l.length).map F)
  | [], F, _ => rfl
  | s :: r, F, h => by
    have h0 := h 0 s (by simp)
    have hr := vals_get r (fun j => F (j + 1)) (fun j sv e => h (j + 1) sv (by simpa using e))
    simp only [vals, h0, hr, Option.bind_some, Option.map_some, List.length_cons, List.range_succ_eq_map, List.map_cons, List.map_map]
    rfl
/-- A row's cells, read. -/
theorem Rel.cells (r : Rel W0 E g w) {id n sz : Nat} {t : Tr SV} (h : g id = some (.row n sz t)) {i m : Nat} (hi : i + m ≤ n) {l : List SV} (hl : l.length = m) (hg : ∀ j, j < m → t.get (i + j) = l[j]?) :
    ∃ s vl, E.at_ id = some s ∧ vals E l = some vl ∧ vl.length = m ∧ (loadCells ⟨s.blk, s.base + i, none⟩ m).run P w = .ok vl.toArray w := by
  obtain ⟨s, a, _, c, ty, h1, h2, h3, h4⟩ := r.obj id _ h
  have F : ∀ j, ∃ v, j < m → ∃ sv, l[j]? = some sv ∧ val E sv = some v ∧ w.cell? ⟨s.blk, s.base + (i + j), none⟩ = some v := by
    intro j
    by_cases hj : j < m
    · obtain ⟨sv, v, k1, k2, k3, k4⟩ := h4 (i + j) (by omega)
      exact ⟨v, fun _ => ⟨sv, by rw [← hg j hj]; exact k1, k2, by simp [World.cell?, h1, k4]⟩⟩
    · exact ⟨undef, fun h => absurd h hj⟩
  have hF := fun j => Classical.choose_spec (F j)
  generalize hf : (fun j => Classical.choose (F j)) = f at hF
  have hF' : ∀ j, j < m → ∃ sv, l[j]? = some sv ∧ val E sv = some (f j) ∧ w.cell? ⟨s.blk, s.base + (i + j), none⟩ = some (f j) := fun j hj => by
    have := hF j hj
    rw [← hf]
    exact this
  refine ⟨s, (List.range m).map f, a, ?_, by simp, ?_⟩
  · rw [← hl]
    refine vals_get l f fun j sv e => ?_
    have hj : j < m := by rw [← hl]; exact (List.getElem?_eq_some_iff.1 e).1
    obtain ⟨sv', e1, e2, _⟩ := hF' j hj
    rw [e] at e1
    obtain rfl := Option.some.inj e1
    exact e2
  · have := run_loadCells_list (P := P) w ⟨s.blk, s.base + i, none⟩ ((List.range m).map f) (fun j v e => by
      have hj : j < m := by have := (List.getElem?_eq_some_iff.1 e).1; simpa using this
      simp [hj] at e
      obtain ⟨sv', _, _, e3⟩ := hF' j hj
      rw [Addr.add_lit, ← e, Nat.add_assoc]
      exact e3)
    simpa using this
end

/-! ### a load -/
class GOk (w : World) : Prop where
  cell : ∀ b o v, GTab.look b o = some v → b < w.heap.size ∧ w.cell? ⟨b, o, none⟩ = some v
theorem GOk.below {W0 w : World} (h : GOk W0) (b : RowKit.Below W0.heap.size W0 w) : GOk w :=
  ⟨fun i o v e => by
    obtain ⟨h1, h2⟩ := h.cell i o v e
    refine ⟨Nat.lt_of_lt_of_le h1 b.size, ?_⟩
    simp only [World.cell?] at h2 ⊢
    rw [b.block i h1]
    exact h2⟩
def ofVs : Value → SV
  | .bool b => .bool b
  | .int k n => .int k n
  | v => .lit v
theorem val_ofVs (E : Env) (v : Value) : val E (ofVs v) = some v := by cases v <;> rfl
def gcells (b : Nat) : Nat → Nat → Option (List SV)
  | _, 0 => some []
  | o, m + 1 => match GTab.look b o with
    | some v => (gcells b (o + 1) m).map fun l => ofVs v :: l
    | none => none
theorem gcells_ok {W : World} (hG : GOk W) {b : Nat} (m : Nat) : ∀ (o : Nat) (l : List SV), gcells b o m = some l → ∀ E, ∃ vl, vals E l = some vl ∧ vl.length = m ∧ ∀ j v, vl[j]? = some v → W.cell? ⟨b, o + j, none⟩ = some v := by
  induction m with
  | zero => intro o l h E; simp only [gcells, Option.some.injEq] at h; subst h; exact ⟨[], rfl, rfl, fun j v e => by simp at e⟩
  | succ m ih =>
    intro o l h E
    rw [gcells] at h
    split at h
    case h_2 => cases h
    rename_i v hv
    obtain ⟨l', h1, rfl⟩ := Option.map_eq_some_iff.1 h
    obtain ⟨vl, k1, k2, k3⟩ := ih _ _ h1 E
    refine ⟨v :: vl, by simp [vals, val_ofVs, k1], by simp [k2], fun j u e => ?_⟩
    cases j with
    | zero =>
      simp only [List.getElem?_cons_zero, Option.some.injEq] at e
      subst e
      exact (hG.cell b o v hv).2
    | succ j =>
      have := k3 j u (by simpa using e)
      rw [show o + (j + 1) = o + 1 + j by omega]
      exact this
noncomputable def rdLoad (P : Program) (t : TypeId) (fr : Tr SV) (g : Tr SO) (x : Operand) (k : SV → Bool) : Bool :=
  opdK fr x fun p => match p with
  | .ptr id off => match g.get id with
    | some (.row n _ tr) => match isAggB P t with
      | some true => match P.info? t with
        | some i => bif Nat.ble (off + i.size) n then cellsK tr off i.size fun l => k (.agg l) else false
        | none => false
      | some false => bif Nat.ble (off + 1) n then (match tr.get off with | some sv => k sv | none => false) else false
      | none => false
    | _ => false
  | .lit (.pointer (some ⟨b, o, none⟩)) => (match isAggB P t with
    | some false => (match GTab.look b o with
      | some v => normK v k
      | none => false)
    | some true => (match P.info? t with
      | some i => (match gcells b o i.size with
        | some l => k (.agg l)
        | none => false)
      | none => false)
    | none => false)
  | _ => false
where
  isAggB (P : Program) (t : TypeId) : Option Bool :=
    match P.underlying t with
    | some (.struct _) => some true
    | some (.array _ _) => some true
    | some _ => some false
    | none => none
theorem run_isAgg {P : Program} {t : TypeId} {b : Bool} (h : rdLoad.isAggB P t = some b) (w : World) : (isAgg t).run P w = .ok b w := by
  unfold rdLoad.isAggB at h
  unfold isAgg
  split at h
  · rename_i e; simp only [Option.some.injEq] at h; subst h; simp [Sem.run_bind, run_underlying e, Result.andThen]
  · rename_i e; simp only [Option.some.injEq] at h; subst h; simp [Sem.run_bind, run_underlying e, Result.andThen]
  · rename_i d h1 h2 e
    simp only [Option.some.injEq] at h
    subst h
    cases d <;> first | (exact absurd rfl (h1 _)) | (exact absurd rfl (h2 _ _)) | simp [Sem.run_bind, run_underlying e, Result.andThen]
  · cases h
theorem run_sizeOf {P : Program} {t : TypeId} {i : TypeInfo} (h : P.info? t = some i) (w : World) : (sizeOf t).run P w = .ok i.size w := by
  simp [sizeOf, typeInfo, Sem.run_bind, h, Result.andThen]
theorem bif_true {b : Bool} {x : Bool} (h : (bif b then x else false) = true) : b = true ∧ x = true := by cases b <;> simp_all
theorem rdLoad_ok {P : Program} {W0 : World} [hG : GOk W0] {t : TypeId} {fr : Tr SV} {g : Tr SO} {x : Operand} {k : SV → Bool} {o : Oper} (ho : o.op = .load t x) (h : rdLoad P t fr g x k = true) : ∃ sv, k sv = true ∧ ReadOk P W0 o fr g.get sv := by
  unfold rdLoad at h
  rw [opdK_eq] at h
  split at h
  case h_3 => cases h
  case h_2 =>
    rename_i b o' hp
    split at h
    case h_3 => cases h
    case h_2 =>
      rename_i hagg
      split at h
      case h_2 => cases h
      rename_i i hi
      split at h
      case h_2 => cases h
      rename_i l hl
      refine ⟨_, h, fun E N a w r f => ?_⟩
      obtain ⟨vl, k1, k2, k3⟩ := gcells_ok (hG.below r.below) _ _ _ hl E
      refine ⟨.agg vl.toArray, by simp [val, k1], ?_⟩
      have hx := opd_ok f x
      rw [hp] at hx
      simp only [val, Option.some.injEq] at hx
      have hc := run_loadCells_list (P := P) w ⟨b, o', none⟩ vl (fun j v e => by rw [Addr.add_lit]; exact k3 j v e)
      rw [k2] at hc
      unfold execOp
      rw [ho]
      simp [Instr.loadAt, ← hx, Instr.sureAddr, loadVar, Sem.run_bind, run_isAgg hagg, run_sizeOf hi, Result.andThen, hc]
    rename_i hagg
    split at h
    case h_2 => cases h
    rename_i v hv
    obtain ⟨sv, h1, h2⟩ := normK_ok h
    refine ⟨sv, h1, fun E N a w r f => ⟨v, h2 E, ?_⟩⟩
    have hx := opd_ok f x
    rw [hp] at hx
    simp only [val, Option.some.injEq] at hx
    have hc := ((hG.below r.below).cell b o' v hv).2
    unfold execOp
    rw [ho]
    simp [Instr.loadAt, ← hx, Instr.sureAddr, loadVar, Sem.run_bind, run_isAgg hagg, Result.andThen, hc]
  rename_i id off hp
  split at h
  case h_2 => cases h
  rename_i n sz tr hrow
  split at h
  · rename_i hagg
    split at h
    case h_2 => cases h
    rename_i i hinfo
    obtain ⟨h1, h2⟩ := bif_true h
    obtain ⟨l, h3, h4, h5⟩ := cellsK_ok _ _ _ _ h2
    refine ⟨.agg l, h3, fun E N a w r f => ?_⟩
    obtain ⟨s, vl, e1, e2, e3, e4⟩ := r.cells (P := P) hrow (Nat.le_of_ble_eq_true h1) h4 h5
    have hx := opd_ok f x
    rw [hp] at hx
    simp only [val, e1, Option.map_some, Option.some.injEq] at hx
    refine ⟨.agg vl.toArray, by simp [val, e2], ?_⟩
    unfold execOp
    rw [ho]
    simp [Instr.loadAt, ← hx, Instr.sureAddr, loadVar, Sem.run_bind, run_isAgg hagg, run_sizeOf hinfo, Result.andThen, e4]
  · rename_i hagg
    obtain ⟨h1, h2⟩ := bif_true h
    split at h2
    case h_2 => cases h2
    rename_i sv hsv
    refine ⟨sv, h2, fun E N a w r f => ?_⟩
    obtain ⟨s, sv', v, e1, e2, e3, e4, e5⟩ := r.cell hrow (i := off) (Nat.le_of_ble_eq_true h1)
    rw [hsv] at e2
    obtain rfl := Option.some.inj e2
    have hx := opd_ok f x
    rw [hp] at hx
    simp only [val, e1, Option.map_some, Option.some.injEq] at hx
    refine ⟨v, e3, ?_⟩
    unfold execOp
    rw [ho]
    simp [Instr.loadAt, ← hx, Instr.sureAddr, loadVar, Sem.run_bind, run_isAgg hagg, Result.andThen, e5]
  · cases h
end Go.Proofs.YtgoccionghehoaaGreatDoor.Ev
namespace Go.Proofs.YtgoccionghehoaaGreatDoor.Ev
open Go
variable [GTab] {P : Program} {W0 : World} [GOk W0] {fr : Tr SV} {g : Tr SO} {k : SV → Bool} {o : Oper}

noncomputable def rdMove (fr : Tr SV) (x : Operand) (k : SV → Bool) : Bool := opdK fr x k
theorem rdMove_ok {x : Operand} (ho : o.op = .move x ∨ o.op = .assign x) (h : rdMove fr x k = true) : ∃ sv, k sv = true ∧ ReadOk P W0 o fr g.get sv := by
  unfold rdMove at h
  rw [opdK_eq] at h
  refine ⟨_, h, fun E N a w r f => ⟨_, opd_ok f x, ?_⟩⟩
  unfold execOp
  rcases ho with ho | ho <;> rw [ho] <;> rfl

noncomputable def rdPick (fr : Tr SV) (c x y : Operand) (k : SV → Bool) : Bool :=
  opdK fr c fun cv => match cv with
  | .bool true => opdK fr x k
  | .bool false => opdK fr y k
  | _ => false
theorem rdPick_ok {c x y : Operand} (ho : o.op = .pick c x y) (h : rdPick fr c x y k = true) : ∃ sv, k sv = true ∧ ReadOk P W0 o fr g.get sv := by
  unfold rdPick at h
  rw [opdK_eq] at h
  split at h
  case h_3 => cases h
  all_goals
    rename_i hc
    rw [opdK_eq] at h
    refine ⟨_, h, fun E N a w r f => ?_⟩
    have hc' := opd_ok f c
    rw [hc] at hc'
    simp only [val, Option.some.injEq] at hc'
    refine ⟨_, opd_ok f _, ?_⟩
    unfold execOp
    rw [ho]
    simp [← hc', asBool, Sem.run_bind, Result.andThen]

noncomputable def rdNil (fr : Tr SV) (x : Operand) (k : SV → Bool) : Bool :=
  opdK fr x fun p => match p with
  | .ptr id off => k (.ptr id off)
  | .fn (.func f) a b => k (.fn (.func f) a b)
  | .lit (.pointer (some q)) => k (.lit (.pointer (some q)))
  | _ => false
theorem rdNil_ok {x : Operand} (ho : o.op = .nilCheck x) (h : rdNil fr x k = true) : ∃ sv, k sv = true ∧ ReadOk P W0 o fr g.get sv := by
  unfold rdNil at h
  rw [opdK_eq] at h
  split at h
  · rename_i id off hp
    refine ⟨_, h, fun E N a w r f => ?_⟩
    have hx := opd_ok f x
    rw [hp] at hx
    refine ⟨_, hx, ?_⟩
    simp only [val, Option.map_eq_some_iff] at hx
    obtain ⟨s, _, hx⟩ := hx
    unfold execOp
    rw [ho]
    simp only [← hx]
    rfl
  · rename_i f' a' b' hp
    refine ⟨_, h, fun E N a w r f => ?_⟩
    have hx := opd_ok f x
    rw [hp] at hx
    refine ⟨_, hx, ?_⟩
    simp only [val, Option.map_eq_some_iff, Option.bind_eq_some_iff] at hx
    obtain ⟨x1, _, x2, _, hx⟩ := hx
    unfold execOp
    rw [ho]
    simp only [← hx]
    rfl
  · rename_i q hp
    refine ⟨_, h, fun E N a w r f => ?_⟩
    have hx := opd_ok f x
    rw [hp] at hx
    refine ⟨_, hx, ?_⟩
    simp only [val, Option.some.injEq] at hx
    unfold execOp
    rw [ho]
    simp only [← hx]
    rfl
  · cases h

noncomputable def rdFieldAddr (P : Program) (s : TypeId) (fr : Tr SV) (x : Operand) (fi : Nat) (k : SV → Bool) : Bool :=
  opdK fr x fun p => match p with
  | .ptr id off => match P.underlying s with
    | some (.struct fs) => match fs[fi]? with
      | some f => match P.info? f.type with
        | some i => bif Nat.beq i.size 0 then false else natK (off + f.offset) fun off' => k (.ptr id off')
        | none => false
      | none => false
    | _ => false
  | _ => false
theorem rdFieldAddr_ok {s : TypeId} {x : Operand} {fi : Nat} (ho : o.op = .fieldAddr s x fi) (h : rdFieldAddr P s fr x fi k = true) : ∃ sv, k sv = true ∧ ReadOk P W0 o fr g.get sv := by
  unfold rdFieldAddr at h
  rw [opdK_eq] at h
  split at h
  case h_2 => cases h
  rename_i id off hp
  split at h
  case h_2 => cases h
  rename_i fs hu
  split at h
  case h_2 => cases h
  rename_i f hf
  split at h
  case h_2 => cases h
  rename_i i hi
  rw [Tr.bif_beq] at h
  split at h
  · cases h
  rename_i hz
  rw [natK_eq] at h
  refine ⟨_, h, fun E N a w r fo => ?_⟩
  have hx := opd_ok fo x
  rw [hp] at hx
  simp only [val, Option.map_eq_some_iff] at hx
  obtain ⟨sp, e1, hx⟩ := hx
  refine ⟨.pointer (some ⟨sp.blk, sp.base + (off + f.offset), none⟩), by simp [val, e1], ?_⟩
  unfold execOp
  rw [ho]
  simp [Instr.fieldAt, ← hx, Instr.sureAddr, fieldPlace, Sem.run_bind, run_underlying hu, run_sizeOf hi, hf, Result.andThen, hz, Addr.add_lit, Nat.add_assoc]

noncomputable def rdIndexAddr (P : Program) (t : TypeId) (fr : Tr SV) (x ix : Operand) (k : SV → Bool) : Bool :=
  opdK fr ix fun iv => match iv with
  | .int _ (.ofNat i) => match P.underlying t with
    | some (.slice el) => match P.info? el with
      | some inf => opdK fr x fun p => match p with
        | .sl id off len _ => bif Nat.blt i len then natK (off + i * inf.size) fun off' => k (.ptr id off') else false
        | .slr id off len _ => bif Nat.blt i len then natK (off + i * inf.size) fun off' => k (.ptr id off') else false
        | _ => false
      | none => false
    | some (.array len el) => match P.info? el with
      | some inf => opdK fr x fun p => match p with
        | .ptr id off => bif Nat.blt i len then natK (off + i * inf.size) fun off' => k (.ptr id off') else false
        | _ => false
      | none => false
    | _ => false
  | _ => false
theorem blt_lt {a b : Nat} (h : Nat.blt a b = true) : a < b := Nat.le_of_ble_eq_true h
theorem rdIndexAddr_ok {t : TypeId} {x ix : Operand} (ho : o.op = .indexAddr t x ix) (h : rdIndexAddr P t fr x ix k = true) : ∃ sv, k sv = true ∧ ReadOk P W0 o fr g.get sv := by
  unfold rdIndexAddr at h
  rw [opdK_eq] at h
  split at h
  case h_2 => cases h
  rename_i kd i hix
  split at h
  · rename_i el hu
    split at h
    case h_2 => cases h
    rename_i inf hi
    rw [opdK_eq] at h
    split at h
    case h_3 => cases h
    all_goals
      rename_i hp
      obtain ⟨h1, h2⟩ := bif_true h
      have h1 := blt_lt h1
      rw [natK_eq] at h2
      refine ⟨_, h2, fun E N a w r fo => ?_⟩
      have hx := opd_ok fo x
      rw [hp] at hx
      simp only [val, Option.map_eq_some_iff] at hx
      obtain ⟨sp, e1, hx⟩ := hx
      have hy := opd_ok fo ix
      rw [hix] at hy
      simp only [val, Option.some.injEq] at hy
      refine ⟨_, by simp only [val, e1, Option.map_some]; rfl, ?_⟩
      unfold execOp
      rw [ho]
      simp [Instr.indexAt, ← hx, ← hy, asIntOf, Sem.run_bind, run_underlying hu, run_sizeOf hi, Result.andThen, Addr.add_lit, Nat.add_assoc, h1]
  · rename_i len el hu
    split at h
    case h_2 => cases h
    rename_i inf hi
    rw [opdK_eq] at h
    split at h
    case h_2 => cases h
    rename_i id off hp
    obtain ⟨h1, h2⟩ := bif_true h
    have h1 := blt_lt h1
    rw [natK_eq] at h2
    refine ⟨_, h2, fun E N a w r fo => ?_⟩
    have hx := opd_ok fo x
    rw [hp] at hx
    simp only [val, Option.map_eq_some_iff] at hx
    obtain ⟨sp, e1, hx⟩ := hx
    have hy := opd_ok fo ix
    rw [hix] at hy
    simp only [val, Option.some.injEq] at hy
    refine ⟨_, by simp only [val, e1, Option.map_some]; rfl, ?_⟩
    unfold execOp
    rw [ho]
    simp [Instr.indexAt, Instr.sureAddr, ← hx, ← hy, asIntOf, Sem.run_bind, run_underlying hu, run_sizeOf hi, Result.andThen, Addr.add_lit, Nat.add_assoc, h1]
  · cases h

noncomputable def rdExtract (fr : Tr SV) (x : Operand) (i : Nat) (k : SV → Bool) : Bool :=
  opdK fr x fun p => match p with
  | .tup l => match l[i]? with
    | some sv => k sv
    | none => false
  | _ => false
theorem vals_at {E : Env} : ∀ {l : List SV} {vl : List Value}, vals E l = some vl → ∀ (i : Nat), (l[i]?).bind (val E) = vl[i]?
  | [], vl, h, i => by simp only [vals, Option.some.injEq] at h; subst h; simp
  | s :: r, vl, h, i => by
    simp only [vals, Option.bind_eq_some_iff, Option.map_eq_some_iff] at h
    obtain ⟨x, hx, y, hy, rfl⟩ := h
    cases i with
    | zero => simp [hx]
    | succ i => simpa using vals_at hy i
theorem rdExtract_ok {x : Operand} {i : Nat} (ho : o.op = .extract x i) (h : rdExtract fr x i k = true) : ∃ sv, k sv = true ∧ ReadOk P W0 o fr g.get sv := by
  unfold rdExtract at h
  rw [opdK_eq] at h
  split at h
  case h_2 => cases h
  rename_i l hp
  split at h
  case h_2 => cases h
  rename_i sv hsv
  refine ⟨sv, h, fun E N a w r fo => ?_⟩
  have hx := opd_ok fo x
  rw [hp] at hx
  simp only [val, Option.map_eq_some_iff] at hx
  obtain ⟨vl, e1, hx⟩ := hx
  have e2 := vals_at e1 i
  rw [hsv] at e2
  simp only [Option.bind_some] at e2
  cases hv : val E sv with
  | none =>
    have hlen : ∀ {l : List SV} {vl : List Value}, vals E l = some vl → vl.length = l.length := by
      intro l
      induction l with
      | nil => intro vl h; simp only [vals, Option.some.injEq] at h; subst h; rfl
      | cons s r ih =>
        intro vl h
        simp only [vals, Option.bind_eq_some_iff, Option.map_eq_some_iff] at h
        obtain ⟨x, hx, y, hy, rfl⟩ := h
        simp [ih hy]
    rw [hv] at e2
    have h1 := (List.getElem?_eq_some_iff.1 hsv).1
    have h2 := List.getElem?_eq_none_iff.1 e2.symm
    have h3 := hlen e1
    omega
  | some v =>
    rw [hv] at e2
    refine ⟨v, rfl, ?_⟩
    unfold execOp
    rw [ho]
    simp [Instr.extract, ← hx, ← e2, Sem.run_bind, Result.andThen]

/-- All operands are values without addresses of objects: the model's own operation, which must neither look at the world nor turn it. -/
noncomputable def flatOpd (fr : Tr SV) (x : Operand) : Value := (flat (opd fr x)).getD undef
noncomputable def allFlat (fr : Tr SV) : List Operand → Bool
  | [] => true
  | x :: r => match flat (opd fr x) with
    | some _ => allFlat fr r
    | none => false
noncomputable def rdPure (P : Program) (o : Oper) (fr : Tr SV) (k : SV → Bool) : Bool :=
  bif allFlat fr o.op.operands.toList then
    (match o.op with
    | .select _ _ => false
    | _ => match pureRun P (execOp (flatOpd fr) o) with
      | some (.value v) => normK v k
      | _ => false)
  else false
theorem allFlat_ok {E : Env} {N : Nat} {a : Act} (f : FrOk E fr N a) : ∀ (l : List Operand), allFlat fr l = true → ∀ x ∈ l, a.eval x = flatOpd fr x
  | [], _, x, hx => by cases hx
  | y :: r, h, x, hx => by
    rw [allFlat] at h
    split at h
    case h_2 => cases h
    rename_i v hv
    rcases List.mem_cons.1 hx with rfl | hx
    · have := opd_ok f x
      rw [val_of_flat E _ _ hv] at this
      simp [flatOpd, hv, Option.some.inj this]
    · exact allFlat_ok f r h x hx
theorem rdPure_ok (h : rdPure P o fr k = true) : ∃ sv, k sv = true ∧ ReadOk P W0 o fr g.get sv := by
  unfold rdPure at h
  obtain ⟨h1, h2⟩ := bif_true h
  split at h2
  · cases h2
  rename_i hns
  split at h2
  case h_2 => cases h2
  rename_i v hv
  obtain ⟨sv, k1, k2⟩ := normK_ok h2
  refine ⟨sv, k1, fun E N a w r f => ⟨v, k2 E, ?_⟩⟩
  rw [execOp_congr o (fun cs b e => hns cs b e) (fun x hx => allFlat_ok f _ h1 x (by simpa using hx))]
  exact run_of_pureRun P _ _ w hv
end Go.Proofs.YtgoccionghehoaaGreatDoor.Ev
namespace Go.Proofs.YtgoccionghehoaaGreatDoor.Ev
open Go
variable [GTab] {P : Program} {W0 : World} [GOk W0] {fr : Tr SV} {g : Tr SO} {k : SV → Bool} {o : Oper}

def ofV : Value → SV
  | .bool b => .bool b
  | .int k n => .int k n
  | v => .lit v
theorem val_ofV (E : Env) (v : Value) : val E (ofV v) = some v := by cases v <;> rfl
theorem vals_ofV (E : Env) (l : List Value) : vals E (l.map ofV) = some l := by
  induction l with
  | nil => rfl
  | cons v r ih => simp [vals, val_ofV, ih]
def cellsS : SV → List SV
  | .agg l => l
  | .lit (.agg cs) => cs.toList.map ofV
  | s => [s]
theorem cellsS_ok {E : Env} {s : SV} {v : Value} (h : val E s = some v) : vals E (cellsS s) = some v.cells.toList := by
  cases s with
  | agg l =>
    simp only [val, Option.map_eq_some_iff] at h
    obtain ⟨vl, h1, rfl⟩ := h
    simpa [cellsS, Value.cells] using h1
  | lit x =>
    simp only [val, Option.some.injEq] at h
    subst h
    cases x with
    | agg cs => simp [cellsS, Value.cells, vals_ofV]
    | _ => simp [cellsS, vals, val, Value.cells]
  | ptr id off => simp only [val, Option.map_eq_some_iff] at h; obtain ⟨sp, h1, rfl⟩ := h; simp [cellsS, vals, val, h1, Value.cells]
  | sl id off len cap => simp only [val, Option.map_eq_some_iff] at h; obtain ⟨sp, h1, rfl⟩ := h; simp [cellsS, vals, val, h1, Value.cells]
  | slr id off len cap => simp only [val, Option.map_eq_some_iff] at h; obtain ⟨sp, h1, rfl⟩ := h; simp [cellsS, vals, val, h1, Value.cells]
  | emp j id off skip => simp only [val, Option.bind_eq_some_iff, Option.map_eq_some_iff] at h; obtain ⟨sp, h1, A, h2, s, h3, rfl⟩ := h; simp [cellsS, vals, val, h1, h2, h3, Value.cells]
  | map id => simp only [val, Option.map_eq_some_iff] at h; obtain ⟨sp, h1, rfl⟩ := h; simp [cellsS, vals, val, h1, Value.cells]
  | yld id => simp only [val, Option.map_eq_some_iff] at h; obtain ⟨sp, h1, rfl⟩ := h; simp [cellsS, vals, val, h1, Value.cells]
  | mks l => simp only [val, Option.some.injEq] at h; subst h; simp [cellsS, vals, val, Value.cells, undef]
  | esl j c off len =>
    have h' := h
    simp only [val, Option.bind_eq_some_iff] at h
    obtain ⟨p, h1, z, h2, h⟩ := h
    split at h
    · obtain rfl := Option.some.inj h
      simp [cellsS, vals, h', Value.cells]
    · cases h
  | epl j c i r =>
    have h' := h
    simp only [val, Option.bind_eq_some_iff] at h
    obtain ⟨p, h1, z, h2, h⟩ := h
    split at h
    · obtain ⟨A, h3, h⟩ := Option.map_eq_some_iff.1 h
      subst h
      simp [cellsS, vals, h', Value.cells]
    · cases h
  | rng lo hi n =>
    have h' := h
    simp only [val] at h
    split at h
    · obtain rfl := Option.some.inj h
      simp [cellsS, vals, h', Value.cells]
    · cases h
  | sla id len =>
    have h' := h
    simp only [val, Option.bind_eq_some_iff] at h
    obtain ⟨s, _, h⟩ := h
    split at h
    · obtain rfl := Option.some.inj h
      simp [cellsS, vals, h', Value.cells]
    · cases h
  | bool b => simp only [val, Option.some.injEq] at h; subst h; simp [cellsS, vals, val, Value.cells]
  | int kd n => simp only [val, Option.some.injEq] at h; subst h; simp [cellsS, vals, val, Value.cells]
  | iface t x => 
    have h' := h
    simp only [val, Option.map_eq_some_iff] at h
    obtain ⟨y, h1, rfl⟩ := h
    simp [cellsS, vals, h', Value.cells]
  | tup l =>
    have h' := h
    simp only [val, Option.map_eq_some_iff] at h
    obtain ⟨y, h1, rfl⟩ := h
    simp [cellsS, vals, h', Value.cells]
  | fn f a b =>
    have h' := h
    simp only [val, Option.map_eq_some_iff, Option.bind_eq_some_iff] at h
    obtain ⟨y, h1, z, h2, rfl⟩ := h
    simp [cellsS, vals, h', Value.cells]
theorem vals_length {E : Env} : ∀ {l : List SV} {vl : List Value}, vals E l = some vl → vl.length = l.length
  | [], vl, h => by simp only [vals, Option.some.injEq] at h; subst h; rfl
  | s :: r, vl, h => by
    simp only [vals, Option.bind_eq_some_iff, Option.map_eq_some_iff] at h
    obtain ⟨x, hx, y, hy, rfl⟩ := h
    simp [vals_length hy]
theorem vals_set {E : Env} {s : SV} {v : Value} (hs : val E s = some v) : ∀ {l : List SV} {vl : List Value} (i : Nat), vals E l = some vl → vals E (l.set i s) = some (vl.set i v)
  | [], vl, i, h => by simp only [vals, Option.some.injEq] at h; subst h; rfl
  | c :: r, vl, i, h => by
    simp only [vals, Option.bind_eq_some_iff, Option.map_eq_some_iff] at h
    obtain ⟨x, hx, y, hy, rfl⟩ := h
    cases i with
    | zero => simp [vals, hs, hy]
    | succ i => simp [vals, hx, vals_set hs i hy]
/-- The places from off on, set one by one. -/
def setsL {α : Type} (cs : List α) (off : Nat) : List α → List α
  | [] => cs
  | s :: r => setsL (cs.set off s) (off + 1) r
theorem vals_setsL {E : Env} : ∀ (seg : List SV) (vseg : List Value) (cs : List SV) (vcs : List Value) (off : Nat), vals E seg = some vseg → vals E cs = some vcs → vals E (setsL cs off seg) = some (setsL vcs off vseg)
  | [], vseg, cs, vcs, off, h, hc => by simp only [vals, Option.some.injEq] at h; subst h; exact hc
  | s :: r, vseg, cs, vcs, off, h, hc => by
    simp only [vals, Option.bind_eq_some_iff, Option.map_eq_some_iff] at h
    obtain ⟨x, hx, y, hy, rfl⟩ := h
    exact vals_setsL r y _ _ (off + 1) hy (vals_set hx off hc)
theorem setsL_foldl : ∀ (seg : List Value) (j : Nat) (cs : Array Value) (off : Nat), ((seg.zipIdx j).foldl (fun cs (x : Value × Nat) => cs.setIfInBounds (off + x.2) x.1) cs).toList = setsL cs.toList (off + j) seg
  | [], j, cs, off => rfl
  | s :: r, j, cs, off => by
    rw [List.zipIdx_cons, List.foldl_cons, setsL_foldl r (j + 1) _ off, setsL, Array.toList_setIfInBounds, Nat.add_assoc]
theorem fill_foldl (v : Value) (cs : Array Value) (off : Nat) : v.cells.zipIdx.foldl (fun cs (x : Value × Nat) => cs.setIfInBounds (off + x.2) x.1) cs = (setsL cs.toList off v.cells.toList).toArray := by
  have h := setsL_foldl v.cells.toList 0 cs off
  rw [Nat.add_zero] at h
  rw [← h]
  rw [← Array.foldl_toList, Array.toList_zipIdx]
def fillS (place : Nat → Option (Nat × Nat)) (cells : List SV) : List (Nat × SV) → Option (List SV)
  | [] => some cells
  | (i, s) :: rest => match place i with
    | none => none
    | some (off, size) => bif Nat.beq (cellsS s).length size && Nat.ble (off + (cellsS s).length) cells.length then fillS place (setsL cells off (cellsS s)) rest else none
theorem setsL_length {α : Type} : ∀ (seg cs : List α) (off : Nat), (setsL cs off seg).length = cs.length
  | [], _, _ => rfl
  | s :: r, cs, off => by rw [setsL, setsL_length r]; simp
theorem bif_some {α : Type} {b : Bool} {x : Option α} {y : α} (h : (bif b then x else none) = some y) : b = true ∧ x = some y := by cases b <;> simp_all
theorem fillS_ok {E : Env} (place : Nat → Option (Nat × Nat)) : ∀ (parts : List (Nat × SV)) (vparts : List (Nat × Value)) (cells : List SV) (vcells : List Value) (out : List SV), vals E cells = some vcells →
    vparts.map (·.1) = parts.map (·.1) → vals E (parts.map (·.2)) = some (vparts.map (·.2)) → fillS place cells parts = some out → ∃ vo, vals E out = some vo ∧ Instr.fill place vcells.toArray vparts = some vo.toArray
  | [], vparts, cells, vcells, out, hc, hi, hv, h => by
    have : vparts = [] := by simpa using hi
    subst this
    simp only [fillS, Option.some.injEq] at h
    subst h
    exact ⟨vcells, hc, rfl⟩
  | (i, s) :: rest, vparts, cells, vcells, out, hc, hi, hv, h => by
    cases vparts with
    | nil => simp at hi
    | cons x vrest =>
      obtain ⟨i', v⟩ := x
      simp only [List.map_cons, List.cons.injEq] at hi
      obtain ⟨rfl, hi⟩ := hi
      simp only [List.map_cons, vals, Option.bind_eq_some_iff, Option.map_eq_some_iff, List.cons.injEq] at hv
      obtain ⟨v', hv1, y, hv2, rfl, rfl⟩ := hv
      rw [fillS] at h
      split at h
      · cases h
      rename_i off size hp
      obtain ⟨hb, h⟩ := bif_some h
      simp only [Bool.and_eq_true] at hb
      have e1 := Nat.eq_of_beq_eq_true hb.1
      have e2 := Nat.le_of_ble_eq_true hb.2
      have hcs := cellsS_ok hv1
      have hl := vals_length hcs
      have hlc := vals_length hc
      obtain ⟨vo, k1, k2⟩ := fillS_ok place rest vrest _ _ out (vals_setsL _ _ _ _ off hcs hc) hi hv2 h
      refine ⟨vo, k1, ?_⟩
      rw [Instr.fill, hp]
      simp only
      have hsz : v'.cells.size = size := by rw [← e1, ← hl]; simp
      rw [if_neg (by simp [hsz]; rw [hlc, ← e1]; exact e2), fill_foldl]
      exact k2
/-- The list, its cells laid open. -/
noncomputable def listK (l : List SV) (k0 : List SV → Bool) : Bool := List.rec (motive := fun _ => (List SV → Bool) → Bool) (fun k => k []) (fun s _ ih k => ih fun l => k (s :: l)) l k0
theorem listK_eq (l : List SV) : ∀ k, listK l k = k l := by
  induction l with
  | nil => intro k; rfl
  | cons s r ih =>
    intro k
    show listK r (fun l => k (s :: l)) = _
    rw [ih]
noncomputable def partsS (fr : Tr SV) (l : List (Nat × Operand)) : List (Nat × SV) := l.map fun x => (x.1, opd fr x.2)
def placesOf (P : Program) (fs : List Field) : Option (List (Nat × Nat)) := fs.mapM (fun f => (P.info? f.type).map fun i => (f.offset, i.size))
noncomputable def builtS (P : Program) (t : TypeId) (parts : List (Nat × SV)) : Option (List SV) :=
  match P.info? t, P.underlying t with
  | some it, some (.array _ e) => match it.zero, P.info? e with
    | some z, some ie => fillS (fun i => some (i * ie.size, ie.size)) (cellsS (ofV z)) parts
    | _, _ => none
  | some it, some (.struct fields) => match it.zero, placesOf P fields.toList with
    | some z, some places => fillS (fun i => places[i]?) (cellsS (ofV z)) parts
    | _, _ => none
  | _, _ => none
theorem builtS_ok {E : Env} {t : TypeId} {parts : List (Nat × SV)} {vparts : List (Nat × Value)} {out : List SV} (hi : vparts.map (·.1) = parts.map (·.1)) (hv : vals E (parts.map (·.2)) = some (vparts.map (·.2))) (h : builtS P t parts = some out) :
    ∃ vo, vals E out = some vo ∧ P.built t vparts = some vo.toArray := by
  unfold builtS at h
  unfold Program.built
  split at h
  · rename_i it n e h1 h2
    split at h
    · rename_i z ie h3 h4
      obtain ⟨vo, k1, k2⟩ := fillS_ok (E := E) _ parts vparts _ _ out (cellsS_ok (val_ofV E z)) hi hv h
      refine ⟨vo, k1, ?_⟩
      simp only [h1, h2, h3, h4]
      simpa using k2
    · cases h
  · rename_i it fields h1 h2
    split at h
    · rename_i z places h3 h4
      obtain ⟨vo, k1, k2⟩ := fillS_ok (E := E) _ parts vparts _ _ out (cellsS_ok (val_ofV E z)) hi hv h
      refine ⟨vo, k1, ?_⟩
      unfold placesOf at h4
      simp only [h1, h2, h3, h4]
      simpa using k2
    · cases h
  · cases h
noncomputable def rdBuild (P : Program) (t : TypeId) (fr : Tr SV) (parts : Array (Nat × Operand)) (k : SV → Bool) : Bool :=
  match builtS P t (partsS fr parts.toList) with
  | some l => listK l fun l' => k (.agg l')
  | none => false
theorem partsS_ok {E : Env} {N : Nat} {a : Act} (f : FrOk E fr N a) (l : List (Nat × Operand)) : (l.map fun x => (x.1, a.eval x.2)).map (·.1) = (partsS fr l).map (·.1) ∧ vals E ((partsS fr l).map (·.2)) = some ((l.map fun x => (x.1, a.eval x.2)).map (·.2)) := by
  constructor
  · simp [partsS]
  · have := opds_ok f (l.map (·.2))
    simpa [partsS, Function.comp_def] using this
theorem rdBuild_ok {t : TypeId} {parts : Array (Nat × Operand)} (ho : o.op = .build t parts) (h : rdBuild P t fr parts k = true) : ∃ sv, k sv = true ∧ ReadOk P W0 o fr g.get sv := by
  unfold rdBuild at h
  split at h
  case h_2 => cases h
  rename_i l hl
  rw [listK_eq] at h
  refine ⟨.agg l, h, fun E N a w r f => ?_⟩
  obtain ⟨p1, p2⟩ := partsS_ok f parts.toList
  obtain ⟨vo, k1, k2⟩ := builtS_ok p1 p2 hl
  refine ⟨.agg vo.toArray, by simp [val, k1], ?_⟩
  unfold execOp
  rw [ho]
  have e : (parts.map fun (x : Nat × Operand) => (x.1, a.eval x.2)).toList = parts.toList.map fun x => (x.1, a.eval x.2) := by simp
  have := run_build (P := P) w t (parts.map fun (x : Nat × Operand) => (x.1, a.eval x.2)) vo.toArray (by rw [e]; exact k2)
  simp only [Sem.run_bind]
  rw [show (Instr.build t (parts.map fun x => match x with | (i, x) => (i, a.eval x))).run P w = .ok (.agg vo.toArray) w from this]
  rfl

noncomputable def rdField (P : Program) (t : TypeId) (fr : Tr SV) (x : Operand) (fi : Nat) (k : SV → Bool) : Bool :=
  opdK fr x fun p => match p with
  | .agg l => match P.underlying t with
    | some (.struct fs) => match fs[fi]? with
      | some f => match rdLoad.isAggB P f.type with
        | some false => (match l[f.offset]? with | some s => k s | none => false)
        | some true => (match P.info? f.type with | some i => listK ((l.drop f.offset).take i.size) fun l' => k (.agg l') | none => false)
        | none => false
      | none => false
    | _ => false
  | _ => false
theorem vals_drop {E : Env} : ∀ {l : List SV} {vl : List Value} (n : Nat), vals E l = some vl → vals E (l.drop n) = some (vl.drop n)
  | [], vl, n, h => by simp only [vals, Option.some.injEq] at h; subst h; simp [vals]
  | s :: r, vl, n, h => by
    have h' := h
    simp only [vals, Option.bind_eq_some_iff, Option.map_eq_some_iff] at h
    obtain ⟨x, hx, y, hy, rfl⟩ := h
    cases n with
    | zero => exact h'
    | succ n => exact vals_drop n hy
theorem vals_take {E : Env} : ∀ {l : List SV} {vl : List Value} (n : Nat), vals E l = some vl → vals E (l.take n) = some (vl.take n)
  | [], vl, n, h => by simp only [vals, Option.some.injEq] at h; subst h; simp [vals]
  | s :: r, vl, n, h => by
    simp only [vals, Option.bind_eq_some_iff, Option.map_eq_some_iff] at h
    obtain ⟨x, hx, y, hy, rfl⟩ := h
    cases n with
    | zero => rfl
    | succ n => simp [vals, hx, vals_take n hy]
theorem vals_one {E : Env} {l : List SV} {vl : List Value} (h : vals E l = some vl) {i : Nat} {s : SV} (hi : l[i]? = some s) : ∃ v, val E s = some v ∧ vl[i]? = some v := by
  have e := vals_at h i
  rw [hi] at e
  simp only [Option.bind_some] at e
  have hlt : i < vl.length := by rw [vals_length h]; exact (List.getElem?_eq_some_iff.1 hi).1
  rw [List.getElem?_eq_getElem hlt] at e
  exact ⟨_, e, List.getElem?_eq_getElem hlt⟩
theorem rdField_ok {t : TypeId} {x : Operand} {fi : Nat} (ho : o.op = .field t x fi) (h : rdField P t fr x fi k = true) : ∃ sv, k sv = true ∧ ReadOk P W0 o fr g.get sv := by
  unfold rdField at h
  rw [opdK_eq] at h
  split at h
  case h_2 => cases h
  rename_i l hp
  split at h
  case h_2 => cases h
  rename_i fs hu
  split at h
  case h_2 => cases h
  rename_i f hf
  split at h
  · rename_i hagg
    split at h
    case h_2 => cases h
    rename_i s hs
    refine ⟨s, h, fun E N a w r fo => ?_⟩
    have hx := opd_ok fo x
    rw [hp] at hx
    simp only [val, Option.map_eq_some_iff] at hx
    obtain ⟨vl, e1, hx⟩ := hx
    obtain ⟨v, e2, e3⟩ := vals_one e1 hs
    refine ⟨v, e2, ?_⟩
    unfold execOp
    rw [ho]
    simp [Instr.field, ← hx, asAgg, part, Sem.run_bind, run_underlying hu, hf, run_isAgg hagg, Result.andThen, e3]
  · rename_i hagg
    split at h
    case h_2 => cases h
    rename_i i hi
    rw [listK_eq] at h
    refine ⟨_, h, fun E N a w r fo => ?_⟩
    have hx := opd_ok fo x
    rw [hp] at hx
    simp only [val, Option.map_eq_some_iff] at hx
    obtain ⟨vl, e1, hx⟩ := hx
    refine ⟨.agg ((vl.drop f.offset).take i.size).toArray, by simp [val, vals_take _ (vals_drop _ e1)], ?_⟩
    unfold execOp
    rw [ho]
    simp [Instr.field, ← hx, asAgg, part, Sem.run_bind, run_underlying hu, hf, run_isAgg hagg, run_sizeOf hi, Result.andThen, List.extract_eq_take_drop]
  · cases h

/-- A place of an array's value, one cell each. -/
noncomputable def rdIndexA (P : Program) (t : TypeId) (fr : Tr SV) (x ix : Operand) (k : SV → Bool) : Bool :=
  match P.underlying t with
  | some (.array len el) => (match rdLoad.isAggB P el with
    | some false => (match P.info? el with
      | some inf => bif Nat.beq inf.size 1 then opdK fr ix fun iv => (match iv with
        | .int _ (.ofNat i) => opdK fr x fun p => (match p with
          | .agg l => bif Nat.blt i len then (match l[i]? with | some s => k s | none => false) else false
          | _ => false)
        | _ => false) else false
      | none => false)
    | _ => false)
  | _ => false
theorem rdIndexA_ok {t : TypeId} {x ix : Operand} (ho : o.op = .index t x ix) (h : rdIndexA P t fr x ix k = true) : ∃ sv, k sv = true ∧ ReadOk P W0 o fr g.get sv := by
  unfold rdIndexA at h
  split at h
  case h_2 => cases h
  rename_i len el hu
  split at h
  case h_2 => cases h
  rename_i hagg
  split at h
  case h_2 => cases h
  rename_i inf hi
  obtain ⟨hsz, h⟩ := bif_true h
  have hsz := Nat.eq_of_beq_eq_true hsz
  rw [opdK_eq] at h
  split at h
  case h_2 => cases h
  rename_i kd i hix
  rw [opdK_eq] at h
  split at h
  case h_2 => cases h
  rename_i l hp
  obtain ⟨hlt, h⟩ := bif_true h
  have hlt : i < len := Nat.le_of_ble_eq_true hlt
  split at h
  case h_2 => cases h
  rename_i s hs
  refine ⟨s, h, fun E N a w r fo => ?_⟩
  have hx := opd_ok fo x
  rw [hp] at hx
  simp only [val, Option.map_eq_some_iff] at hx
  obtain ⟨vl, e1, hx⟩ := hx
  have hy := opd_ok fo ix
  rw [hix] at hy
  simp only [val, Option.some.injEq] at hy
  obtain ⟨v, e2, e3⟩ := vals_one e1 hs
  refine ⟨v, e2, ?_⟩
  unfold execOp
  rw [ho]
  simp [Instr.index, ← hx, ← hy, asIntOf, part, Sem.run_bind, run_underlying hu, run_isAgg hagg, run_sizeOf hi, hsz, hlt, Result.andThen, e3]
noncomputable def rdMakeFunc (fr : Tr SV) (f : Fn) (first cap : Array Operand) (k : SV → Bool) : Bool :=
  opdsK fr first.toList fun a => opdsK fr cap.toList fun b => k (.fn f a b)
theorem rdMakeFunc_ok {f : Fn} {first cap : Array Operand} (ho : o.op = .makeFunc f first cap) (h : rdMakeFunc fr f first cap k = true) : ∃ sv, k sv = true ∧ ReadOk P W0 o fr g.get sv := by
  unfold rdMakeFunc at h
  rw [opdsK_eq, opdsK_eq] at h
  refine ⟨_, h, fun E N a w r fo => ⟨.func f (first.map a.eval) (cap.map a.eval), ?_, ?_⟩⟩
  · simp only [val, opds_ok fo, Option.bind_some, Option.map_some, Option.some.injEq, Value.func.injEq, true_and]
    constructor <;> (apply Array.ext'; simp)
  · unfold execOp
    rw [ho]
    simp [Instr.makeFunc, Sem.run_bind, Result.andThen]
end Go.Proofs.YtgoccionghehoaaGreatDoor.Ev
namespace Go.Proofs.YtgoccionghehoaaGreatDoor.Ev
open Go
variable [GTab] {P : Program} {W0 : World} [GOk W0] {fr : Tr SV} {g : Tr SO} {k : SV → Bool} {o : Oper}

noncomputable def rdLen (P : Program) (t : TypeId) (fr : Tr SV) (g : Tr SO) (x : Operand) (k : SV → Bool) : Bool :=
  opdK fr x fun p => match p with
  | .sl _ _ len _ => (match P.underlying t with | some (.slice _) => k (.int .i64 (.ofNat len)) | _ => false)
  | .slr _ _ len _ => (match P.underlying t with | some (.slice _) => k (.int .i64 (.ofNat len)) | _ => false)
  | .emp _ _ _ _ => (match P.underlying t with | some (.slice _) => k (.int .i64 (.ofNat 0)) | _ => false)
  | .map id => (match P.underlying t with
    | some (.map _ _) => (match g.get id with | some (.mp es _) => natK es.length fun n => k (.int .i64 (.ofNat n)) | some (.ml ks) => natK ks.length fun n => k (.int .i64 (.ofNat n)) | _ => false)
    | _ => false)
  | _ => false
theorem entries_length {E : Env} {es : List (SV × SV × Nat)} {ms : List MapEntry} (h : EntriesOk E es ms) : ms.length = es.length := by
  induction h with
  | nil => rfl
  | cons _ _ ih => simp [ih]
theorem rdLen_ok {t : TypeId} {x : Operand} (ho : o.op = .call { callee := .builtin .len, args := #[x], argTypes := #[t] }) (h : rdLen P t fr g x k = true) : ∃ sv, k sv = true ∧ ReadOk P W0 o fr g.get sv := by
  have run : ∀ (a : Act) (w : World) (v : Value), (Builtin.len_ #[t] o.type #[a.eval x]).run P w = .ok v w → (execOp a.eval o).run P w = .ok (.value v) w := by
    intro a w v h
    unfold execOp
    rw [ho]
    simp only [resolve, invoke, builtin, List.map_toArray, List.map_cons, List.map_nil, Sem.run_bind, Sem.run_pure, Result.andThen, h]
  unfold rdLen at h
  rw [opdK_eq] at h
  split at h
  · rename_i id off len cap hp
    split at h
    case h_2 => cases h
    rename_i el hu
    refine ⟨_, h, fun E N a w r f => ⟨.int .i64 len, rfl, run a w _ ?_⟩⟩
    have hx := opd_ok f x
    rw [hp] at hx
    simp only [val, Option.map_eq_some_iff] at hx
    obtain ⟨s, _, hx⟩ := hx
    simp [Builtin.len_, ← hx, Sem.run_bind, run_underlying hu, Result.andThen, goInt]
  · rename_i id off len cap hp
    split at h
    case h_2 => cases h
    rename_i el hu
    refine ⟨_, h, fun E N a w r f => ⟨.int .i64 len, rfl, run a w _ ?_⟩⟩
    have hx := opd_ok f x
    rw [hp] at hx
    simp only [val, Option.map_eq_some_iff] at hx
    obtain ⟨s, _, hx⟩ := hx
    simp [Builtin.len_, ← hx, Sem.run_bind, run_underlying hu, Result.andThen, goInt]
  · rename_i j id off skip hp
    split at h
    case h_2 => cases h
    rename_i el hu
    refine ⟨_, h, fun E N a w r f => ⟨.int .i64 (0 : Nat), rfl, run a w _ ?_⟩⟩
    have hx := opd_ok f x
    rw [hp] at hx
    simp only [val, Option.bind_eq_some_iff, Option.map_eq_some_iff] at hx
    obtain ⟨p, _, A, _, s, _, hx⟩ := hx
    simp [Builtin.len_, ← hx, Sem.run_bind, run_underlying hu, Result.andThen, goInt]
  · rename_i id hp
    split at h
    case h_2 => cases h
    rename_i kt el hu
    split at h
    case h_3 => cases h
    case h_2 =>
      rename_i ks hm
      rw [natK_eq] at h
      refine ⟨_, h, fun E N a w r f => ⟨.int .i64 ks.length, rfl, run a w _ ?_⟩⟩
      have hx := opd_ok f x
      rw [hp] at hx
      obtain ⟨s, e1, _, ms, clock, e2, e3, _⟩ := r.obj id _ hm
      simp only [val, e1, Option.map_some, Option.some.injEq] at hx
      simp [Builtin.len_, ← hx, Sem.run_bind, run_underlying hu, Result.andThen, getObj, Sem.run, e2, e3, goInt]
    rename_i es clock hm
    rw [natK_eq] at h
    refine ⟨_, h, fun E N a w r f => ⟨.int .i64 es.length, rfl, run a w _ ?_⟩⟩
    have hx := opd_ok f x
    rw [hp] at hx
    obtain ⟨s, e1, _, ms, e2, e3⟩ := r.obj id _ hm
    simp only [val, e1, Option.map_some, Option.some.injEq] at hx
    have hl := entries_length e3
    simp [Builtin.len_, ← hx, Sem.run_bind, run_underlying hu, Result.andThen, goInt, getObj, Sem.run, e2, hl]
  · cases h

def fitsNil (d : TypeDesc) (s n : SV) : Bool :=
  match d, s, n with
  | .pointer _, .ptr _ _, .lit (.pointer none) => true
  | .slice _, .sl _ _ _ _, .lit (.slice none _ _) => true
  | .slice _, .slr _ _ _ _, .lit (.slice none _ _) => true
  | .map _ _, .map _, .lit (.map none) => true
  | .func _ _ _, .fn _ _ _, .lit .nilFunc => true
  | _, _, _ => false
/-- x == nil, x != nil, where x is none. -/
noncomputable def rdEqNil (P : Program) (op : BinOp) (t : TypeId) (fr : Tr SV) (x y : Operand) (k : SV → Bool) : Bool :=
  match P.underlying t with
  | some d => opdK fr x fun p => opdK fr y fun q =>
    bif fitsNil d p q || fitsNil d q p then (match op with | .eql => k (.bool false) | .neq => k (.bool true) | _ => false) else false
  | none => false
theorem equalIn_nil {P : Program} {E : Env} {t : TypeId} {d : TypeDesc} {s n : SV} {v u : Value} (hu : P.underlying t = some d) (h : fitsNil d s n = true) (h1 : val E s = some v) (h2 : val E n = some u) (m : Nat) (w : World) :
    (Op.equalIn (m + 1) t v u).run P w = .ok false w ∧ (Op.equalIn (m + 1) t u v).run P w = .ok false w := by
  unfold fitsNil at h
  split at h
  all_goals first
    | (cases h; done)
    | (simp only [val, Option.map_eq_some_iff, Option.some.injEq] at h1 h2
       obtain ⟨s1, _, rfl⟩ := h1
       subst h2
       constructor <;> simp [Op.equalIn, Sem.run_bind, run_underlying hu, Result.andThen])
    | (simp only [val, Option.map_eq_some_iff, Option.bind_eq_some_iff, Option.some.injEq] at h1 h2
       obtain ⟨s1, _, s2, _, rfl⟩ := h1
       subst h2
       constructor <;> simp [Op.equalIn, Sem.run_bind, run_underlying hu, Result.andThen])
theorem equal_nil {P : Program} {E : Env} {t : TypeId} {d : TypeDesc} {s n : SV} {v u : Value} (hu : P.underlying t = some d) (h : fitsNil d s n = true) (h1 : val E s = some v) (h2 : val E n = some u) (w : World) :
    (Op.equal t v u).run P w = .ok false w ∧ (Op.equal t u v).run P w = .ok false w := equalIn_nil hu h h1 h2 9999 w
theorem binOp_nil {P : Program} {E : Env} {t : TypeId} {d : TypeDesc} {s n : SV} {v u : Value} (hu : P.underlying t = some d) (h : fitsNil d s n = true) (h1 : val E s = some v) (h2 : val E n = some u) (x y : Operand) (w : World) :
    (do eqGuard .eql t x y v u; binOp .eql t v u).run P w = .ok (.bool false) w ∧ (do eqGuard .neq t x y v u; binOp .neq t v u).run P w = .ok (.bool true) w ∧
    (do eqGuard .eql t x y u v; binOp .eql t u v).run P w = .ok (.bool false) w ∧ (do eqGuard .neq t x y u v; binOp .neq t u v).run P w = .ok (.bool true) w := by
  obtain ⟨q1, q2⟩ := equal_nil hu h h1 h2 w
  unfold fitsNil at h
  split at h
  all_goals first
    | (cases h; done)
    | (simp only [val, Option.map_eq_some_iff, Option.some.injEq] at h1 h2
       obtain ⟨s1, _, rfl⟩ := h1
       subst h2
       refine ⟨?_, ?_, ?_, ?_⟩ <;> simp [eqGuard, binOp, Sem.run_bind, q1, q2, Result.andThen])
    | (simp only [val, Option.map_eq_some_iff, Option.bind_eq_some_iff, Option.some.injEq] at h1 h2
       obtain ⟨s1, _, s2, _, rfl⟩ := h1
       subst h2
       refine ⟨?_, ?_, ?_, ?_⟩ <;> simp [eqGuard, binOp, Sem.run_bind, q1, q2, Result.andThen])
theorem rdEqNil_ok {op : BinOp} {t yt : TypeId} {x y : Operand} (ho : o.op = .binOp op t x y yt) (h : rdEqNil P op t fr x y k = true) : ∃ sv, k sv = true ∧ ReadOk P W0 o fr g.get sv := by
  unfold rdEqNil at h
  split at h
  case h_2 => cases h
  rename_i d hu
  rw [opdK_eq, opdK_eq] at h
  obtain ⟨h1, h2⟩ := bif_true h
  have main : ∀ (b : Bool), (op = .eql ∧ b = false ∨ op = .neq ∧ b = true) → k (.bool b) = true → ∃ sv, k sv = true ∧ ReadOk P W0 o fr g.get sv := by
    intro b hb hk
    refine ⟨_, hk, fun E N a w r f => ⟨.bool b, rfl, ?_⟩⟩
    have hx := opd_ok f x
    have hy := opd_ok f y
    have key : (do eqGuard op t x y (a.eval x) (a.eval y); binOp op t (a.eval x) (a.eval y)).run P w = .ok (.bool b) w := by
      simp only [Bool.or_eq_true] at h1
      rcases h1 with h1 | h1
      · obtain ⟨q1, q2, q3, q4⟩ := binOp_nil hu h1 hx hy x y w
        rcases hb with ⟨rfl, rfl⟩ | ⟨rfl, rfl⟩
        · exact q1
        · exact q2
      · obtain ⟨q1, q2, q3, q4⟩ := binOp_nil hu h1 hy hx x y w
        rcases hb with ⟨rfl, rfl⟩ | ⟨rfl, rfl⟩
        · exact q3
        · exact q4
    unfold execOp
    rw [ho]
    rw [Sem.run_bind, key]
    rfl
  split at h2
  · exact main false (.inl ⟨rfl, rfl⟩) h2
  · exact main true (.inr ⟨rfl, rfl⟩) h2
  · cases h2
end Go.Proofs.YtgoccionghehoaaGreatDoor.Ev
namespace Go.Proofs.YtgoccionghehoaaGreatDoor.Ev
open Go
variable [GTab] {P : Program} {W0 : World} [GOk W0] {fr : Tr SV} {g : Tr SO} {k : SV → Bool} {o : Oper}

noncomputable def boundK (fr : Tr SV) (x : Option Operand) (d : Nat) (k : Nat → Bool) : Bool :=
  match x with
  | none => k d
  | some x => opdK fr x fun v => match v with
    | .int _ (.ofNat n) => k n
    | _ => false
/-- The bound n, out of x where there is one, else d. -/
def BoundIs (x : Option Value) (d n : Nat) : Prop := (x = none ∧ n = d) ∨ ∃ kd, x = some (.int kd (n : Int))
theorem boundK_ok {x : Option Operand} {d : Nat} {k : Nat → Bool} (h : boundK fr x d k = true) : ∃ n, k n = true ∧ ∀ E N a, FrOk E fr N a → BoundIs (x.map a.eval) d n := by
  unfold boundK at h
  split at h
  · exact ⟨d, h, fun E N a f => .inl ⟨rfl, rfl⟩⟩
  · rename_i x
    rw [opdK_eq] at h
    split at h
    case h_2 => cases h
    rename_i kd n hp
    refine ⟨n, h, fun E N a f => .inr ⟨kd, ?_⟩⟩
    have hx := opd_ok f x
    rw [hp] at hx
    simp only [val, Option.some.injEq] at hx
    simp [← hx]
theorem run_sliceBound {x : Value} {kd : IntKind} {n y : Nat} (hx : x = .int kd (n : Int)) (h : n ≤ y) (c : BoundsCode) (w : World) : (Instr.sliceBound x y c).run P w = .ok n w := by
  subst hx
  simp [Instr.sliceBound, asIntOf, Sem.run_bind, Result.andThen, h]
theorem run_sliceBounds {isS : Bool} {len cap l h m : Nat} {lo hi mx : Option Value} (bl : BoundIs lo 0 l) (bh : BoundIs hi len h) (bm : BoundIs mx cap m) (hm : m ≤ cap) (hh : h ≤ m) (hl : l ≤ h) (hmx : hi = none → mx = none) (w : World) :
    (Instr.sliceBounds isS len cap lo hi mx).run P w = .ok (l, h, m) w := by
  rcases bm with ⟨rfl, rfl⟩ | ⟨km, rfl⟩
  · rcases bh with ⟨rfl, rfl⟩ | ⟨kh, rfl⟩
    · rcases bl with ⟨rfl, rfl⟩ | ⟨kl, rfl⟩
      · simp [Instr.sliceBounds, Sem.run_bind, Result.andThen]
      · simp [Instr.sliceBounds, Sem.run_bind, Result.andThen, run_sliceBound rfl hl]
    · rcases bl with ⟨rfl, rfl⟩ | ⟨kl, rfl⟩
      · simp [Instr.sliceBounds, Sem.run_bind, Result.andThen, run_sliceBound rfl hh]
      · simp [Instr.sliceBounds, Sem.run_bind, Result.andThen, run_sliceBound rfl hh, run_sliceBound rfl hl]
  · rcases bh with ⟨rfl, rfl⟩ | ⟨kh, rfl⟩
    · cases hmx rfl
    · rcases bl with ⟨rfl, rfl⟩ | ⟨kl, rfl⟩
      · simp [Instr.sliceBounds, Sem.run_bind, Result.andThen, run_sliceBound rfl hh, run_sliceBound rfl hm]
      · simp [Instr.sliceBounds, Sem.run_bind, Result.andThen, run_sliceBound rfl hh, run_sliceBound rfl hl, run_sliceBound rfl hm]

noncomputable def rdSlice (P : Program) (t : TypeId) (fr : Tr SV) (g : Tr SO) (x : Operand) (lo hi mx : Option Operand) (k : SV → Bool) : Bool :=
  bif hi.isNone && mx.isSome then false else
  match P.underlying t with
  | some (.slice el) => (match P.info? el with
    | some inf => opdK fr x fun p => match p with
      | .sl id off len cap => boundK fr lo 0 fun l => boundK fr hi len fun h => boundK fr mx cap fun m =>
        bif Nat.ble m cap && (Nat.ble h m && Nat.ble l h) then
          (bif Nat.beq m l then natK (h - l) fun n => k (.sl id off n 0) else natK (off + l * inf.size) fun off' => natK (h - l) fun n => natK (m - l) fun c => k (.sl id off' n c)) else false
      | .slr id off len skip => (match g.get id with
        | some (.row n sz _) => bif Nat.beq sz inf.size && (Nat.blt 0 sz && (Nat.beq off (skip * sz) && Nat.ble (off + len * sz) n)) then
            (match mx with
            | some mx => boundK fr lo 0 fun l => boundK fr hi len fun h => boundK fr (some mx) len fun m =>
              bif Nat.ble m len && (Nat.ble h m && Nat.ble l h) then
                (bif Nat.beq m l then natK (h - l) fun n => k (.sl id off n 0) else natK (off + l * inf.size) fun off' => natK (h - l) fun n => natK (m - l) fun c => k (.sl id off' n c)) else false
            | none => boundK fr lo 0 fun l => boundK fr hi len fun h =>
              bif Nat.ble (off + h * sz) n && (Nat.ble l h && (Nat.beq l 0 || Nat.ble (off + (l + 1) * sz) n)) then natK (off + l * inf.size) fun off' => natK (h - l) fun n' => natK (skip + l) fun s' => k (.slr id off' n' s') else false)
          else false
        | _ => false)
      | _ => false
    | none => false)
  | some (.array len el) => (match P.info? el with
    | some inf => opdK fr x fun p => match p with
      | .ptr id off => boundK fr lo 0 fun l => boundK fr hi len fun h => boundK fr mx len fun m =>
        bif Nat.ble m len && (Nat.ble h m && Nat.ble l h) then
          (bif Nat.beq m l then natK (h - l) fun n => k (.sl id off n 0) else natK (off + l * inf.size) fun off' => natK (h - l) fun n => natK (m - l) fun c => k (.sl id off' n c)) else false
      | _ => false
    | none => false)
  | _ => false
theorem bif_false {b x : Bool} (h : (bif b then false else x) = true) : b = false ∧ x = true := by cases b <;> simp_all
theorem and3 {a b c : Bool} (h : (a && (b && c)) = true) : a = true ∧ b = true ∧ c = true := by simpa [Bool.and_eq_true] using h
theorem run_slice_slice {t el : TypeId} {inf : TypeInfo} (hu : P.underlying t = some (.slice el)) (hi : P.info? el = some inf) {A : Option Addr} {len cap l h m : Nat} {lo hi' mx : Option Value} (bl : BoundIs lo 0 l) (bh : BoundIs hi' len h) (bm : BoundIs mx cap m)
    (hm : m ≤ cap) (hh : h ≤ m) (hl : l ≤ h) (hmx : hi' = none → mx = none) (w : World) :
    (Instr.sliceAt t (.slice A len cap) lo hi' mx).run P w = .ok (.slice (if m = l then A else A.map (·.add (l * inf.size))) (h - l) (m - l)) w := by
  simp [Instr.sliceAt, Instr.slice, Sem.run_bind, run_underlying hu, Result.andThen, run_sliceBounds bl bh bm hm hh hl hmx, run_sizeOf hi]
theorem rdSlice_ok {t : TypeId} {x : Operand} {lo hi mx : Option Operand} (ho : o.op = .slice t x lo hi mx) (h : rdSlice P t fr g x lo hi mx k = true) : ∃ sv, k sv = true ∧ ReadOk P W0 o fr g.get sv := by
  have run : ∀ (a : Act) (w : World) (v : Value), (Instr.sliceAt t (a.eval x) (lo.map a.eval) (hi.map a.eval) (mx.map a.eval)).run P w = .ok v w → (execOp a.eval o).run P w = .ok (.value v) w := by
    intro a w v h
    unfold execOp
    rw [ho]
    simp only [Sem.run_bind, h, Result.andThen, Sem.run_pure]
  unfold rdSlice at h
  obtain ⟨hb, h⟩ := bif_false h
  have hmx : ∀ a : Act, hi.map a.eval = none → mx.map a.eval = none := by
    intro a e
    cases hi with
    | none => cases mx with
      | none => rfl
      | some _ => simp at hb
    | some _ => simp at e
  clear hb
  split at h
  · rename_i el hu
    split at h
    case h_2 => cases h
    rename_i inf hinf
    rw [opdK_eq] at h
    split at h
    · rename_i id off len cap hp
      obtain ⟨l, h, bl⟩ := boundK_ok h
      obtain ⟨hh, h, bh⟩ := boundK_ok h
      obtain ⟨m, h, bm⟩ := boundK_ok h
      obtain ⟨h1, h⟩ := bif_true h
      obtain ⟨h1, h2, h3⟩ := and3 h1
      have h1 := Nat.le_of_ble_eq_true h1
      have h2 := Nat.le_of_ble_eq_true h2
      have h3 := Nat.le_of_ble_eq_true h3
      rw [Tr.bif_beq] at h
      split at h
      · rename_i hml
        rw [natK_eq] at h
        refine ⟨_, h, fun E N a w r f => ?_⟩
        have hx := opd_ok f x
        rw [hp] at hx
        simp only [val, Option.map_eq_some_iff] at hx
        obtain ⟨s, e1, hx⟩ := hx
        have key := run_slice_slice (P := P) hu hinf (A := some ⟨s.blk, s.base + off, none⟩) (bl E N a f) (bh E N a f) (bm E N a f) h1 h2 h3 (hmx a) w
        rw [hx, if_pos hml, show m - l = 0 by omega] at key
        exact ⟨_, by simp [val, e1], run a w _ key⟩
      · rename_i hml
        rw [natK_eq, natK_eq, natK_eq] at h
        refine ⟨_, h, fun E N a w r f => ?_⟩
        have hx := opd_ok f x
        rw [hp] at hx
        simp only [val, Option.map_eq_some_iff] at hx
        obtain ⟨s, e1, hx⟩ := hx
        have key := run_slice_slice (P := P) hu hinf (A := some ⟨s.blk, s.base + off, none⟩) (bl E N a f) (bh E N a f) (bm E N a f) h1 h2 h3 (hmx a) w
        rw [hx, if_neg hml] at key
        exact ⟨_, by simp [val, e1, Addr.add_lit, Nat.add_assoc], run a w _ key⟩
    · rename_i id off len skip hp
      split at h
      case h_2 => cases h
      rename_i n sz tr hrow
      obtain ⟨h0, h⟩ := bif_true h
      simp only [Bool.and_eq_true] at h0
      obtain ⟨z1, z2, z3, z4⟩ := h0
      have z1 := Nat.eq_of_beq_eq_true z1
      have z2 := blt_lt z2
      have z3 := Nat.eq_of_beq_eq_true z3
      have z4 := Nat.le_of_ble_eq_true z4
      have capAt : ∀ (E : Env) (w : World) (s : Spot) (q : Nat), Rel W0 E g.get w → E.at_ id = some s → off + q * sz ≤ n → skip + q ≤ s.cap := by
        intro E w s q r e hq
        obtain ⟨s', e', _, c, ty, _, _, q3, _⟩ := r.obj id _ hrow
        obtain rfl := Option.some.inj (e'.symm.trans e)
        rcases q3.2 with q' | q'
        · omega
        · have : (skip + q) * sz ≤ s'.cap * sz := by rw [Nat.add_mul]; omega
          exact Nat.le_of_mul_le_mul_right this z2
      have capOk : ∀ (E : Env) (w : World) (s : Spot), Rel W0 E g.get w → E.at_ id = some s → skip + len ≤ s.cap := by
        intro E w s r e
        obtain ⟨s', e', _, c, ty, _, _, q3, _⟩ := r.obj id _ hrow
        obtain rfl := Option.some.inj (e'.symm.trans e)
        rcases q3.2 with q | q
        · omega
        · have : (skip + len) * sz ≤ s'.cap * sz := by rw [Nat.add_mul]; omega
          exact Nat.le_of_mul_le_mul_right this z2
      cases mx with
      | some mx' =>
        simp only at h
        obtain ⟨l, h, bl⟩ := boundK_ok h
        obtain ⟨hh, h, bh⟩ := boundK_ok h
        obtain ⟨m, h, bm⟩ := boundK_ok h
        obtain ⟨h1, h⟩ := bif_true h
        obtain ⟨h1, h2, h3⟩ := and3 h1
        have h1 := Nat.le_of_ble_eq_true h1
        have h2 := Nat.le_of_ble_eq_true h2
        have h3 := Nat.le_of_ble_eq_true h3
        have bm' : ∀ (E : Env) N a, FrOk E fr N a → ∀ d, BoundIs ((some mx').map a.eval) d m := fun E N a f d => by
          rcases bm E N a f with ⟨q, _⟩ | q
          · cases q
          · exact .inr q
        rw [Tr.bif_beq] at h
        split at h
        · rename_i hml
          rw [natK_eq] at h
          refine ⟨_, h, fun E N a w r f => ?_⟩
          have hx := opd_ok f x
          rw [hp] at hx
          simp only [val, Option.map_eq_some_iff] at hx
          obtain ⟨s, e1, hx⟩ := hx
          have hcap := capOk E w s r e1
          have key := run_slice_slice (P := P) hu hinf (A := some ⟨s.blk, s.base + off, none⟩) (bl E N a f) (bh E N a f) (bm' E N a f (s.cap - skip)) (by omega) h2 h3 (hmx a) w
          rw [hx, if_pos hml, show m - l = 0 by omega] at key
          exact ⟨_, by simp [val, e1], run a w _ key⟩
        · rename_i hml
          rw [natK_eq, natK_eq, natK_eq] at h
          refine ⟨_, h, fun E N a w r f => ?_⟩
          have hx := opd_ok f x
          rw [hp] at hx
          simp only [val, Option.map_eq_some_iff] at hx
          obtain ⟨s, e1, hx⟩ := hx
          have hcap := capOk E w s r e1
          have key := run_slice_slice (P := P) hu hinf (A := some ⟨s.blk, s.base + off, none⟩) (bl E N a f) (bh E N a f) (bm' E N a f (s.cap - skip)) (by omega) h2 h3 (hmx a) w
          rw [hx, if_neg hml] at key
          exact ⟨_, by simp [val, e1, Addr.add_lit, Nat.add_assoc], run a w _ key⟩
      | none =>
        simp only at h
        obtain ⟨l, h, bl⟩ := boundK_ok h
        obtain ⟨hh, h, bh⟩ := boundK_ok h
        obtain ⟨h1, h⟩ := bif_true h
        obtain ⟨h1, h2, h3⟩ := and3 h1
        have h1 := Nat.le_of_ble_eq_true h1
        have h2 := Nat.le_of_ble_eq_true h2
        rw [natK_eq, natK_eq, natK_eq] at h
        refine ⟨_, h, fun E N a w r f => ?_⟩
        have hx := opd_ok f x
        rw [hp] at hx
        simp only [val, Option.map_eq_some_iff] at hx
        obtain ⟨s, e1, hx⟩ := hx
        have hcap := capAt E w s hh r e1 h1
        have key := run_slice_slice (P := P) hu hinf (A := some ⟨s.blk, s.base + off, none⟩) (bl E N a f) (bh E N a f) (m := s.cap - skip) (mx := none) (.inl ⟨rfl, rfl⟩) (Nat.le_refl _) (by omega) h2 (fun _ => rfl) w
        rw [hx] at key
        refine ⟨_, by simp only [val, e1, Option.map_some]; rfl, run a w _ ?_⟩
        rw [show s.cap - (skip + l) = s.cap - skip - l by omega]
        refine key.trans ?_
        simp only [Bool.or_eq_true] at h3
        rcases h3 with h3 | h3
        · have h3 := Nat.eq_of_beq_eq_true h3
          subst h3
          simp [Addr.add_lit]
        · have h3 := capAt E w s (l + 1) r e1 (Nat.le_of_ble_eq_true h3)
          rw [if_neg (by omega)]
          simp [Addr.add_lit, Nat.add_assoc]
    · cases h
  · rename_i len el hu
    split at h
    case h_2 => cases h
    rename_i inf hinf
    rw [opdK_eq] at h
    split at h
    case h_2 => cases h
    rename_i id off hp
    obtain ⟨l, h, bl⟩ := boundK_ok h
    obtain ⟨hh, h, bh⟩ := boundK_ok h
    obtain ⟨m, h, bm⟩ := boundK_ok h
    obtain ⟨h1, h⟩ := bif_true h
    obtain ⟨h1, h2, h3⟩ := and3 h1
    have h1 := Nat.le_of_ble_eq_true h1
    have h2 := Nat.le_of_ble_eq_true h2
    have h3 := Nat.le_of_ble_eq_true h3
    have key : ∀ (a : Act) (w : World) (A : Addr), a.eval x = .pointer (some A) → BoundIs (lo.map a.eval) 0 l → BoundIs (hi.map a.eval) len hh → BoundIs (mx.map a.eval) len m →
        (Instr.sliceAt t (a.eval x) (lo.map a.eval) (hi.map a.eval) (mx.map a.eval)).run P w = .ok (.slice (some (if m = l then A else A.add (l * inf.size))) (hh - l) (m - l)) w := by
      intro a w A e b1 b2 b3
      simp [Instr.sliceAt, Instr.sureAddr, e, Sem.run_bind, run_underlying hu, Result.andThen, run_sliceBounds b1 b2 b3 h1 h2 h3 (hmx a), run_sizeOf hinf]
    rw [Tr.bif_beq] at h
    split at h
    · rename_i hml
      rw [natK_eq] at h
      refine ⟨_, h, fun E N a w r f => ?_⟩
      have hx := opd_ok f x
      rw [hp] at hx
      simp only [val, Option.map_eq_some_iff] at hx
      obtain ⟨s, e1, hx⟩ := hx
      have key := key a w _ hx.symm (bl E N a f) (bh E N a f) (bm E N a f)
      rw [if_pos hml, show m - l = 0 by omega] at key
      exact ⟨_, by simp [val, e1], run a w _ key⟩
    · rename_i hml
      rw [natK_eq, natK_eq, natK_eq] at h
      refine ⟨_, h, fun E N a w r f => ?_⟩
      have hx := opd_ok f x
      rw [hp] at hx
      simp only [val, Option.map_eq_some_iff] at hx
      obtain ⟨s, e1, hx⟩ := hx
      have key := key a w _ hx.symm (bl E N a f) (bh E N a f) (bm E N a f)
      rw [if_neg hml] at key
      exact ⟨_, by simp [val, e1, Addr.add_lit, Nat.add_assoc], run a w _ key⟩
  · cases h
end Go.Proofs.YtgoccionghehoaaGreatDoor.Ev
namespace Go.Proofs.YtgoccionghehoaaGreatDoor.Ev
open Go
variable [GTab] {P : Program} {W0 : World} [GOk W0] {fr : Tr SV} {g : Tr SO} {k : SV → Bool} {o : Oper}

noncomputable def findS (kd : TypeDesc) (kv : Value) : List (SV × SV × Nat) → Nat → Option (Option (Nat × SV))
  | [], _ => some none
  | e :: r, i => match flat e.1 with
    | some kv' => match Instr.sameNow kd kv kv' with
      | some true => some (some (i, e.2.1))
      | some false => findS kd kv r (i + 1)
      | none => none
    | none => none
theorem findS_ok {E : Env} {kd : TypeDesc} {kv : Value} {es : List (SV × SV × Nat)} {ms : List MapEntry} (h : EntriesOk E es ms) : ∀ (i : Nat),
    (∀ j sv, findS kd kv es i = some (some (j, sv)) → ∃ v, val E sv = some v ∧ Instr.findNow kd kv ms i = some (some (j, v)) ∧ i ≤ j ∧ ∃ key, ms[j - i]? = some key ∧ Instr.sameNow kd kv key.key = some true) ∧
    (findS kd kv es i = some none → Instr.findNow kd kv ms i = some none) := by
  induction h with
  | nil => intro i; exact ⟨fun j sv e => by simp [findS] at e, fun _ => rfl⟩
  | @cons e m es ms hem _ ih =>
    intro i
    obtain ⟨e1, e2, e3⟩ := hem
    constructor
    · intro j sv h
      rw [findS] at h
      split at h
      case h_2 => cases h
      rename_i kv' hk
      have : kv' = m.key := Option.some.inj ((val_of_flat E _ _ hk).symm.trans e1)
      subst this
      split at h
      · rename_i hs
        simp only [Option.some.injEq, Prod.mk.injEq] at h
        obtain ⟨rfl, rfl⟩ := h
        exact ⟨m.val, e2, by simp [Instr.findNow, hs], Nat.le_refl _, m, by simp, hs⟩
      · rename_i hs
        obtain ⟨v, k1, k2, k3, key, k4, k5⟩ := (ih (i + 1)).1 j sv h
        refine ⟨v, k1, by simp [Instr.findNow, hs, k2], by omega, key, ?_, k5⟩
        rw [show j - i = (j - (i + 1)) + 1 by omega]
        simpa using k4
      · cases h
    · intro h
      rw [findS] at h
      split at h
      case h_2 => cases h
      rename_i kv' hk
      have : kv' = m.key := Option.some.inj ((val_of_flat E _ _ hk).symm.trans e1)
      subst this
      split at h
      · simp at h
      · rename_i hs
        simp [Instr.findNow, hs, (ih (i + 1)).2 h]
      · cases h
/-- A key whose comparison neither asks nor panics. -/
def plainKey : TypeDesc → Bool
  | .int _ => true
  | .string => true
  | .bool => true
  | _ => false
theorem run_checkKey {P : Program} {t : TypeId} {d : TypeDesc} (hu : P.underlying t = some d) (hd : plainKey d = true) (e : Bool) (n : Nat) (v : Value) (w : World) : (Instr.checkKey e (n + 1) t v).run P w = .ok () w := by
  cases d <;> first
    | (simp [plainKey] at hd; done)
    | (cases v <;> simp [Instr.checkKey, Sem.run_bind, run_underlying hu, Result.andThen])
theorem run_checkKey' {P : Program} {t : TypeId} {d : TypeDesc} (hu : P.underlying t = some d) (hd : plainKey d = true) (e : Bool) (v : Value) (w : World) : (Instr.checkKey e 10000 t v).run P w = .ok () w := run_checkKey hu hd e 9999 v w
theorem run_findKey {P : Program} {t : TypeId} {d : TypeDesc} (hu : P.underlying t = some d) {kv : Value} {ms : List MapEntry} {r : Option (Nat × Value)} (h : Instr.findNow d kv ms 0 = some r) (w : World) : (Instr.findKey t kv ms).run P w = .ok r w := by
  simp [Instr.findKey, Sem.run_bind, run_underlying hu, Result.andThen, h]

/-! ### keys that are structs -/
theorem pureRun_pure {α : Type} (a : α) : pureRun P (pure a : Sem α) = some a := rfl
theorem pureRun_bind {α β : Type} (e : Sem α) (f : α → Sem β) : pureRun P (e >>= f) = (pureRun P e).bind fun a => pureRun P (f a) := by
  show pureRun P (Sem.bind e f) = _
  induction e with
  | pure a => rfl
  | program k ih => exact ih _
  | mark m k ih => exact ih
  | load m a k ih => rfl
  | store m a v k ih => rfl
  | new o k ih => rfl
  | shape r k ih => rfl
  | freeze a n k ih => rfl
  | frozen a k ih => rfl
  | getObj r k ih => rfl
  | setObj r o k ih => rfl
  | choose q k ih => rfl
  | sys c k ih => rfl
  | halt h => rfl
theorem pureRun_underlying {t : TypeId} {d : TypeDesc} (h : P.underlying t = some d) : pureRun P (underlying t) = some d := by
  have : pureRun P (underlying t) = pureRun P (match P.underlying t with | some d => pure d | none => stuck "no such type" : Sem TypeDesc) := rfl
  rw [this, h]
  rfl
noncomputable def keysOf : List (SV × SV × Nat) → Option (List MapEntry)
  | [] => some []
  | e :: r => match flat e.1 with
    | some k => (keysOf r).map fun l => { key := k, val := undef, born := 0 } :: l
    | none => none
/-- The same keys. -/
inductive SameKeys : List MapEntry → List MapEntry → Prop
  | nil : SameKeys [] []
  | cons {a b r s} : a.key = b.key → SameKeys r s → SameKeys (a :: r) (b :: s)
theorem keysOf_ok {E : Env} {es : List (SV × SV × Nat)} {ms : List MapEntry} (h : EntriesOk E es ms) : ∀ l, keysOf es = some l → SameKeys l ms := by
  induction h with
  | nil => intro l e; simp only [keysOf, Option.some.injEq] at e; subst e; exact .nil
  | @cons e m es ms he _ ih =>
    intro l q
    rw [keysOf] at q
    split at q
    case h_2 => cases q
    rename_i k hk
    obtain ⟨l', q1, rfl⟩ := Option.map_eq_some_iff.1 q
    exact .cons (Option.some.inj ((val_of_flat E _ _ hk).symm.trans he.1)) (ih l' q1)
def Found (i : Nat) (ms : List MapEntry) (r r' : Option (Nat × Value)) : Prop := (r = none ∧ r' = none) ∨ ∃ j v m, r = some (j, v) ∧ i ≤ j ∧ ms[j - i]? = some m ∧ r' = some (j, m.val)
theorem Found.later {i : Nat} {m : MapEntry} {ms : List MapEntry} {r r' : Option (Nat × Value)} (h : Found (i + 1) ms r r') : Found i (m :: ms) r r' := by
  rcases h with h | ⟨j, v, m', a, b, c, d⟩
  · exact .inl h
  · refine .inr ⟨j, v, m', a, by omega, ?_, d⟩
    rw [show j - i = (j - (i + 1)) + 1 by omega]
    simpa using c
theorem findNow_keys {kd : TypeDesc} {kv : Value} {l ms : List MapEntry} (h : SameKeys l ms) : ∀ i r, Instr.findNow kd kv l i = some r → ∃ r', Instr.findNow kd kv ms i = some r' ∧ Found i ms r r' := by
  induction h with
  | nil => intro i r e; simp only [Instr.findNow, Option.some.injEq] at e; subst e; exact ⟨none, rfl, .inl ⟨rfl, rfl⟩⟩
  | @cons a b r s hk _ ih =>
    intro i q e
    rw [Instr.findNow, hk] at e
    rw [Instr.findNow]
    split at e
    · obtain rfl := Option.some.inj e
      exact ⟨_, rfl, .inr ⟨i, a.val, b, rfl, Nat.le_refl _, by simp, rfl⟩⟩
    · obtain ⟨r', h1, h2⟩ := ih (i + 1) q e
      exact ⟨r', h1, h2.later⟩
    · cases e
theorem findNow_none {kd : TypeDesc} {kv : Value} {l ms : List MapEntry} (h : SameKeys l ms) : ∀ i, Instr.findNow kd kv l i = none → Instr.findNow kd kv ms i = none := by
  induction h with
  | nil => intro i e; cases e
  | @cons a b r s hk _ ih =>
    intro i e
    rw [Instr.findNow, hk] at e
    rw [Instr.findNow]
    split at e
    · cases e
    · exact ih _ e
    · rfl
theorem findAsking_keys {kt : TypeId} {kv : Value} {l ms : List MapEntry} (h : SameKeys l ms) : ∀ i r, pureRun P (Instr.findAsking kt kv l i) = some r → ∃ r', pureRun P (Instr.findAsking kt kv ms i) = some r' ∧ Found i ms r r' := by
  induction h with
  | nil => intro i r e; simp only [Instr.findAsking, pureRun_pure, Option.some.injEq] at e; subst e; exact ⟨none, rfl, .inl ⟨rfl, rfl⟩⟩
  | @cons a b r s hk _ ih =>
    intro i q e
    simp only [Instr.findAsking, hk, pureRun_bind, Option.bind_eq_some_iff] at e
    obtain ⟨t, h1, h2⟩ := e
    simp only [Instr.findAsking, pureRun_bind, h1, Option.bind_some]
    cases t with
    | true =>
      simp only [if_true, pureRun_pure, Option.some.injEq] at h2
      subst h2
      exact ⟨_, rfl, .inr ⟨i, a.val, b, rfl, Nat.le_refl _, by simp, rfl⟩⟩
    | false =>
      simp only [Bool.false_eq_true, if_false] at h2 ⊢
      obtain ⟨r', h3, h4⟩ := ih (i + 1) q h2
      exact ⟨r', h3, h4.later⟩
noncomputable def findG (P : Program) (kt : TypeId) (kv : Value) (es : List (SV × SV × Nat)) : Option (Option (Nat × SV)) :=
  match keysOf es with
  | some l => match pureRun P (Instr.findKey kt kv l) with
    | some none => some none
    | some (some (j, _)) => match es[j]? with
      | some e => some (some (j, e.2.1))
      | none => none
    | none => none
  | none => none
theorem entries_at {E : Env} {es : List (SV × SV × Nat)} {ms : List MapEntry} (h : EntriesOk E es ms) : ∀ (j : Nat) e m, es[j]? = some e → ms[j]? = some m → entryOk E e m := by
  induction h with
  | nil => intro j e m h; simp at h
  | cons a _ ih =>
    intro j e m h1 h2
    cases j with
    | zero => simp only [List.getElem?_cons_zero, Option.some.injEq] at h1 h2; subst h1 h2; exact a
    | succ j => exact ih j e m (by simpa using h1) (by simpa using h2)
theorem findG_ok {kt : TypeId} {kd : TypeDesc} {kv : Value} (hkd : P.underlying kt = some kd) {E : Env} {es : List (SV × SV × Nat)} {ms : List MapEntry} (h : EntriesOk E es ms) :
    (∀ j sv, findG P kt kv es = some (some (j, sv)) → ∃ v m e, val E sv = some v ∧ pureRun P (Instr.findKey kt kv ms) = some (some (j, v)) ∧ ms[j]? = some m ∧ es[j]? = some e ∧ entryOk E e m) ∧
    (findG P kt kv es = some none → pureRun P (Instr.findKey kt kv ms) = some none) := by
  have key : ∀ l r, keysOf es = some l → pureRun P (Instr.findKey kt kv l) = some r → ∃ r', pureRun P (Instr.findKey kt kv ms) = some r' ∧ Found 0 ms r r' := by
    intro l r hl hr
    have sk := keysOf_ok h l hl
    simp only [Instr.findKey, pureRun_bind, pureRun_underlying hkd, Option.bind_some] at hr ⊢
    cases hn : Instr.findNow kd kv l 0 with
    | some q =>
      rw [hn] at hr
      simp only [pureRun_pure, Option.some.injEq] at hr
      subst hr
      obtain ⟨r', h1, h2⟩ := findNow_keys sk 0 q hn
      rw [h1]
      exact ⟨r', rfl, h2⟩
    | none =>
      rw [hn] at hr
      rw [findNow_none sk 0 hn]
      exact findAsking_keys sk 0 r hr
  constructor
  · intro j sv e
    unfold findG at e
    split at e
    case h_2 => cases e
    rename_i l hl
    split at e
    · cases e
    · rename_i j' v' hr
      split at e
      case h_2 => cases e
      rename_i en hen
      simp only [Option.some.injEq, Prod.mk.injEq] at e
      obtain ⟨rfl, rfl⟩ := e
      obtain ⟨r', h1, h2⟩ := key l _ hl hr
      rcases h2 with ⟨h2, _⟩ | ⟨j2, v2, m, a, _, c, d⟩
      · cases h2
      · simp only [Option.some.injEq, Prod.mk.injEq] at a
        obtain ⟨rfl, rfl⟩ := a
        subst d
        rw [Nat.sub_zero] at c
        have eo := entries_at h _ en m hen c
        exact ⟨m.val, m, en, eo.2.1, h1, c, hen, eo⟩
    · cases e
  · intro e
    unfold findG at e
    split at e
    case h_2 => cases e
    rename_i l hl
    split at e
    · rename_i hr
      obtain ⟨r', h1, h2⟩ := key l _ hl hr
      rcases h2 with ⟨_, rfl⟩ | ⟨_, _, _, a, _⟩
      · exact h1
      · cases a
    · split at e <;> cases e
    · cases e
noncomputable def findM (P : Program) (kt : TypeId) (kd : TypeDesc) (kv : Value) (es : List (SV × SV × Nat)) : Option (Option (Nat × SV)) := bif plainKey kd then findS kd kv es 0 else findG P kt kv es
noncomputable def chkM (P : Program) (kt : TypeId) (kd : TypeDesc) (kv : Value) (e : Bool) : Bool := bif plainKey kd then true else match pureRun P (Instr.checkKey e 10000 kt kv) with
  | some _ => true
  | none => false
theorem run_chkM {kt : TypeId} {kd : TypeDesc} {kv : Value} (hkd : P.underlying kt = some kd) {e : Bool} (h : chkM P kt kd kv e = true) (w : World) : (Instr.checkKey e 10000 kt kv).run P w = .ok () w := by
  unfold chkM at h
  cases hp : plainKey kd with
  | true => exact run_checkKey' hkd hp e kv w
  | false =>
    rw [hp, cond_false] at h
    split at h
    · rename_i u hu
      exact run_of_pureRun P _ _ w hu
    · cases h
theorem findM_ok {kt : TypeId} {kd : TypeDesc} {kv : Value} (hkd : P.underlying kt = some kd) {E : Env} {es : List (SV × SV × Nat)} {ms : List MapEntry} (h : EntriesOk E es ms) :
    (∀ j sv, findM P kt kd kv es = some (some (j, sv)) → ∃ v m, val E sv = some v ∧ (∀ w, (Instr.findKey kt kv ms).run P w = .ok (some (j, v)) w) ∧ ms[j]? = some m ∧ (plainKey kd = true → Instr.sameNow kd kv m.key = some true) ∧ (plainKey kd = false → ∃ e, es[j]? = some e ∧ entryOk E e m)) ∧
    (findM P kt kd kv es = some none → ∀ w, (Instr.findKey kt kv ms).run P w = .ok none w) := by
  unfold findM
  cases hp : plainKey kd with
  | true =>
    simp only [cond_true]
    refine ⟨fun j sv e => ?_, fun e w => run_findKey hkd ((findS_ok h 0).2 e) w⟩
    obtain ⟨v, k1, k2, _, m, k3, k4⟩ := (findS_ok h 0).1 j sv e
    rw [Nat.sub_zero] at k3
    exact ⟨v, m, k1, fun w => run_findKey hkd k2 w, k3, ⟨fun _ => k4, fun q => (by cases q)⟩⟩
  | false =>
    simp only [cond_false]
    refine ⟨fun j sv e => ?_, fun e w => run_of_pureRun P _ _ w ((findG_ok hkd h).2 e)⟩
    obtain ⟨v, m, en, k1, k2, k3, k4, k5⟩ := (findG_ok hkd h).1 j sv e
    exact ⟨v, m, k1, fun w => run_of_pureRun P _ _ w k2, k3, ⟨fun q => (by cases q), fun _ => ⟨en, k4, k5⟩⟩⟩

/-- What is found is what lies there. -/
def findValIs (P : Program) (kt : TypeId) (kd : TypeDesc) (kv : Value) (es : List (SV × SV × Nat)) (i : Nat) (sv : SV) (e : SV × SV × Nat) : Prop := sv = e.2.1
theorem findS_at {kd : TypeDesc} {kv : Value} : ∀ (es : List (SV × SV × Nat)) (n i : Nat) (sv : SV), findS kd kv es n = some (some (i, sv)) → n ≤ i ∧ ∃ e, es[i - n]? = some e ∧ sv = e.2.1
  | [], n, i, sv, h => by cases h
  | e :: r, n, i, sv, h => by
    rw [findS] at h
    split at h
    case h_2 => cases h
    split at h
    · simp only [Option.some.injEq, Prod.mk.injEq] at h
      obtain ⟨rfl, rfl⟩ := h
      exact ⟨Nat.le_refl _, e, by simp, rfl⟩
    · obtain ⟨h1, e', h2, h3⟩ := findS_at r (n + 1) i sv h
      refine ⟨by omega, e', ?_, h3⟩
      rw [show i - n = (i - (n + 1)) + 1 by omega]
      simpa using h2
    · cases h
theorem findVal_of {kt : TypeId} {kd : TypeDesc} {kv : Value} {es : List (SV × SV × Nat)} {i : Nat} {sv : SV} {e : SV × SV × Nat} (h : findM P kt kd kv es = some (some (i, sv))) (he : es[i]? = some e) : findValIs P kt kd kv es i sv e := by
  unfold findM at h
  cases hp : plainKey kd with
  | true =>
    rw [hp, cond_true] at h
    obtain ⟨_, e', h2, h3⟩ := findS_at es 0 i sv h
    rw [Nat.sub_zero, he] at h2
    obtain rfl := Option.some.inj h2
    exact h3
  | false =>
    rw [hp, cond_false] at h
    unfold findG at h
    split at h
    case h_2 => cases h
    split at h
    · cases h
    · split at h
      case h_2 => cases h
      rename_i e' he'
      simp only [Option.some.injEq, Prod.mk.injEq] at h
      obtain ⟨rfl, rfl⟩ := h
      rw [he] at he'
      obtain rfl := Option.some.inj he'
      rfl
    · cases h
noncomputable def rdLookup (P : Program) (t : TypeId) (fr : Tr SV) (g : Tr SO) (x ix : Operand) (ok : Bool) (k : SV → Bool) : Bool :=
  match P.underlying t with
  | some (.map kt el) => match P.underlying kt with
    | some kd => opdK fr x fun p => match p with
      | .map id => match g.get id with
        | some (.mp es _) => opdK fr ix fun q => match flat q with
          | some kv => bif chkM P kt kd kv es.isEmpty then match findM P kt kd kv es with
            | some (some (_, sv)) => bif ok then k (.tup [sv, .bool true]) else k sv
            | some none => match P.info? el with
              | some inf => match inf.zero with
                | some z => bif ok then k (.tup [ofV z, .bool false]) else k (ofV z)
                | none => false
              | none => false
            | none => false else false
          | none => false
        | _ => false
      | _ => false
    | none => false
  | _ => false
theorem rdLookup_ok {t : TypeId} {x ix : Operand} {ok : Bool} (ho : o.op = .lookup t x ix ok) (h : rdLookup P t fr g x ix ok k = true) : ∃ sv, k sv = true ∧ ReadOk P W0 o fr g.get sv := by
  have run : ∀ (a : Act) (w : World) (v : Value), (Instr.lookup t (a.eval x) (a.eval ix) ok).run P w = .ok v w → (execOp a.eval o).run P w = .ok (.value v) w := by
    intro a w v h
    unfold execOp
    rw [ho]
    simp only [Sem.run_bind, h, Result.andThen, Sem.run_pure]
  unfold rdLookup at h
  split at h
  case h_2 => cases h
  rename_i kt el hu
  split at h
  case h_2 => cases h
  rename_i kd hkd
  rw [opdK_eq] at h
  split at h
  case h_2 => cases h
  rename_i id hp
  split at h
  case h_2 => cases h
  rename_i es clock hm
  rw [opdK_eq] at h
  split at h
  case h_2 => cases h
  rename_i kv hkv
  obtain ⟨hchk, h⟩ := bif_true h
  have emp : ∀ {E : Env} {ms : List MapEntry}, EntriesOk E es ms → ms.isEmpty = es.isEmpty := fun h => by cases h <;> rfl
  have base : ∀ (E : Env) (N : Nat) (a : Act) (w : World), Rel W0 E g.get w → FrOk E fr N a → ∃ (r : Nat) (ms : List MapEntry), a.eval x = .map (some r) ∧ a.eval ix = kv ∧ w.heap[r]? = some (.map ms.toArray clock) ∧ EntriesOk E es ms := by
    intro E N a w r f
    obtain ⟨s, e1, _, ms, e2, e3⟩ := r.obj id _ hm
    have hx := opd_ok f x
    rw [hp] at hx
    simp only [val, e1, Option.map_some, Option.some.injEq] at hx
    have hy := opd_ok f ix
    rw [val_of_flat E _ _ hkv] at hy
    exact ⟨s.blk, ms, hx.symm, (Option.some.inj hy).symm, e2, e3⟩
  split at h
  · rename_i j sv hfind
    have hk : ∃ res, k res = true ∧ res = (if ok then .tup [sv, .bool true] else sv) := by
      cases ok
      · exact ⟨sv, h, rfl⟩
      · exact ⟨_, h, rfl⟩
    obtain ⟨res, hk, rfl⟩ := hk
    refine ⟨_, hk, fun E N a w r f => ?_⟩
    obtain ⟨b, ms, e1, e2, e3, e4⟩ := base E N a w r f
    obtain ⟨v, _, k1, k2, _⟩ := (findM_ok hkd e4).1 j sv hfind
    have hc := run_chkM hkd hchk w
    rw [← emp e4] at hc
    refine ⟨if ok then .tuple #[v, .bool true] else v, ?_, run a w _ ?_⟩
    · cases ok
      · exact k1
      · simp [val, vals, k1]
    · rw [e1, e2]
      simp [Instr.lookup, Sem.run_bind, run_underlying hu, Result.andThen, getObj, Sem.run, e3, hc, k2]
  · rename_i hfind
    split at h
    case h_2 => cases h
    rename_i inf hinf
    split at h
    case h_2 => cases h
    rename_i z hz
    have hk : ∃ res, k res = true ∧ res = (if ok then .tup [ofV z, .bool false] else ofV z) := by
      cases ok
      · exact ⟨_, h, rfl⟩
      · exact ⟨_, h, rfl⟩
    obtain ⟨res, hk, rfl⟩ := hk
    refine ⟨_, hk, fun E N a w r f => ?_⟩
    obtain ⟨b, ms, e1, e2, e3, e4⟩ := base E N a w r f
    have k2 := (findM_ok hkd e4).2 hfind
    have hc := run_chkM hkd hchk w
    rw [← emp e4] at hc
    refine ⟨if ok then .tuple #[z, .bool false] else z, ?_, run a w _ ?_⟩
    · cases ok
      · exact val_ofV E z
      · simp [val, vals, val_ofV]
    · rw [e1, e2]
      simp [Instr.lookup, Sem.run_bind, run_underlying hu, Result.andThen, getObj, Sem.run, e3, hc, k2, zeroValue, typeInfo, hinf, hz]
  · cases h

/-- All operations that only read. -/
noncomputable def rdK (P : Program) (o : Oper) (fr : Tr SV) (g : Tr SO) (k : SV → Bool) : Bool :=
  match o.op with
  | .move x => rdMove fr x k
  | .assign x => rdMove fr x k
  | .pick c a b => rdPick fr c a b k
  | .load t x => rdLoad P t fr g x k
  | .nilCheck x => rdNil fr x k
  | .fieldAddr s x f => rdFieldAddr P s fr x f k
  | .field t x f => bif allFlat fr [x] then rdPure P o fr k else rdField P t fr x f k
  | .index t x i => bif rdIndexA P t fr x i (fun _ => true) then rdIndexA P t fr x i k else rdPure P o fr k
  | .indexAddr t x i => bif allFlat fr [x] then rdPure P o fr k else rdIndexAddr P t fr x i k
  | .extract x i => rdExtract fr x i k
  | .build t ps => rdBuild P t fr ps k
  | .makeFunc f a b => rdMakeFunc fr f a b k
  | .slice t x lo hi mx => bif allFlat fr [x] then rdPure P o fr k else rdSlice P t fr g x lo hi mx k
  | .lookup t x i ok => bif allFlat fr [x] then rdPure P o fr k else rdLookup P t fr g x i ok k
  | .binOp op t x y _ => bif allFlat fr [x, y] then rdPure P o fr k else rdEqNil P op t fr x y k
  | .call c => (match c with
    | { callee := .builtin .len, args := ⟨[x]⟩, argTypes := ⟨[t]⟩ } => bif allFlat fr [x] then rdPure P o fr k else rdLen P t fr g x k
    | _ => rdPure P o fr k)
  | _ => rdPure P o fr k
theorem bif_or {b x y : Bool} (h : (bif b then x else y) = true) : x = true ∨ y = true := by cases b <;> simp_all
theorem bif_or2 {b y : Bool} (h : (bif b then true else y) = true) : b = true ∨ y = true := by cases b <;> simp_all
theorem rdK_ok (h : rdK P o fr g k = true) : ∃ sv, k sv = true ∧ ReadOk P W0 o fr g.get sv := by
  unfold rdK at h
  split at h
  · exact rdMove_ok (.inl (by assumption)) h
  · exact rdMove_ok (.inr (by assumption)) h
  · exact rdPick_ok (by assumption) h
  · exact rdLoad_ok (by assumption) h
  · exact rdNil_ok (by assumption) h
  · exact rdFieldAddr_ok (by assumption) h
  · rcases bif_or h with h | h
    · exact rdPure_ok h
    · exact rdField_ok (by assumption) h
  · rcases bif_or h with h | h
    · exact rdIndexA_ok (by assumption) h
    · exact rdPure_ok h
  · rcases bif_or h with h | h
    · exact rdPure_ok h
    · exact rdIndexAddr_ok (by assumption) h
  · exact rdExtract_ok (by assumption) h
  · exact rdBuild_ok (by assumption) h
  · exact rdMakeFunc_ok (by assumption) h
  · rcases bif_or h with h | h
    · exact rdPure_ok h
    · exact rdSlice_ok (by assumption) h
  · rcases bif_or h with h | h
    · exact rdPure_ok h
    · exact rdLookup_ok (by assumption) h
  · rcases bif_or h with h | h
    · exact rdPure_ok h
    · exact rdEqNil_ok (by assumption) h
  · split at h
    · rcases bif_or h with h | h
      · exact rdPure_ok h
      · exact rdLen_ok (by assumption) h
    · exact rdPure_ok h
  · exact rdPure_ok h
end Go.Proofs.YtgoccionghehoaaGreatDoor.Ev
