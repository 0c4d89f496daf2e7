/- Operations turned into closures, so that the kernel looks at an operation's form once. Operations turned into closures: each kind, and that a closure says no more than the operation. A closure says no more than the operation: the other kinds. Guards; a row of operations in the order of the text. A row of operations whose own values lie on a stack: only what is read elsewhere is written into the frame. A row of operations one of which may panic, or lay a deferred closure. Any order of a region's operations, where those that may come up in any order do not meddle with one another. Any order: the theorem. Any order: a region that draws. -/
import Derived.Test.YtgoccionghehoaaGreatDoorEv2
import Derived.Laws.Strings
import Derived.Laws.BitsLemmas
import Derived.TacticsIn
import Derived.StillTail
import Derived.OrdersIn
set_option linter.unusedSimpArgs false
set_option linter.unusedVariables false
set_option linter.unusedSectionVars false
namespace Go.Proofs.YtgoccionghehoaaGreatDoor.Ev
open Go
variable [GTab] {P : Program}

abbrev OpF := CallK → Tr SV → HS → (SV → HS → Bool) → Bool
noncomputable def opdC (x : Operand) : Cl (Tr SV → (SV → Bool) → Bool) :=
  match x with
  | .tmp t => paC t fun p => ⟨fun fr k => getP fr p k⟩
  | .const (.bool b) => Bool.rec ⟨fun _ k => k (.bool false)⟩ ⟨fun _ k => k (.bool true)⟩ b
  | .const (.int kd n) => intC n fun n' => ⟨fun _ k => k (.int kd n')⟩
  | x => ⟨fun _ k => k (opd .e x)⟩
theorem opdC_eq (x : Operand) (fr : Tr SV) (k : SV → Bool) : (opdC x).f fr k = opdK fr x k := by
  unfold opdC
  split
  · rw [paC_eq]
    exact getP_eq _ _ _
  · rename_i b
    cases b <;> rfl
  · rw [intC_eq]
    rfl
  · rename_i h1 h2 h3
    cases x with
    | tmp t => exact absurd rfl (h1 t)
    | const v => cases v <;> rfl
    | global g => rfl
    | func f => rfl
theorem opdC_at (x : Operand) (fr : Tr SV) (k : SV → Bool) : (opdC x).f fr k = k (opd fr x) := by rw [opdC_eq, opdK_eq]

/-! ### values by kind -/
noncomputable def asPtrD (s : SV) : (Nat → Nat → Bool) → Bool → Bool :=
  SV.rec (motive_1 := fun _ => (Nat → Nat → Bool) → Bool → Bool) (motive_2 := fun _ => Unit) (fun _ _ d => d) (fun _ _ _ d => d) (fun _ _ d => d) (fun i o k _ => k i o) (fun _ _ _ _ _ d => d) (fun _ _ _ _ _ d => d) (fun _ _ _ _ _ d => d) (fun _ _ d => d) (fun _ _ _ _ _ _ d => d) (fun _ _ _ _ d => d) (fun _ _ _ d => d) (fun _ _ _ d => d) (fun _ _ d => d) (fun _ _ d => d) (fun _ _ _ _ _ d => d) (fun _ _ _ _ _ d => d) (fun _ _ _ _ d => d) (fun _ _ _ d => d) () (fun _ _ _ _ => ()) s
theorem asPtrD_ok {s : SV} {k : Nat → Nat → Bool} {d : Bool} (h : asPtrD s k d = true) : d = true ∨ ∃ id off, s = .ptr id off ∧ k id off = true := by
  cases s <;> first | exact .inr ⟨_, _, rfl, h⟩ | exact .inl h
noncomputable def asRowO (so : SO) (k : Nat → Nat → Tr SV → Bool) : Bool := SO.rec (fun n s t => k n s t) (fun _ _ => false) (fun _ _ _ _ _ _ _ _ => false) false (fun _ => false) (fun _ => false) so
theorem asRowO_ok {so : SO} {k : Nat → Nat → Tr SV → Bool} (h : asRowO so k = true) : ∃ n s t, so = .row n s t ∧ k n s t = true := by
  cases so with
  | row n s t => exact ⟨n, s, t, rfl, h⟩
  | mp es c => cases h
  | lp => cases h
  | df => cases h
  | ml => cases h
  | any => cases h
noncomputable def asLen (s : SV) : (Nat → Bool) → Bool → Bool :=
  SV.rec (motive_1 := fun _ => (Nat → Bool) → Bool → Bool) (motive_2 := fun _ => Unit) (fun _ _ d => d) (fun _ _ _ d => d) (fun _ _ d => d) (fun _ _ _ d => d) (fun _ _ n _ k _ => k n) (fun _ _ n _ k _ => k n) (fun _ _ _ _ _ d => d) (fun _ _ d => d) (fun _ _ _ _ _ _ d => d) (fun _ _ _ _ d => d) (fun _ _ _ d => d) (fun _ _ _ d => d) (fun _ _ d => d) (fun _ _ d => d) (fun _ _ _ _ _ d => d) (fun _ _ _ _ _ d => d) (fun _ _ _ _ d => d) (fun _ _ _ d => d) () (fun _ _ _ _ => ()) s
theorem asLen_ok {s : SV} {k : Nat → Bool} {d : Bool} (h : asLen s k d = true) : d = true ∨ ∃ id off n c, (s = .sl id off n c ∨ s = .slr id off n c) ∧ k n = true := by
  cases s <;> first | exact .inr ⟨_, _, _, _, .inl rfl, h⟩ | exact .inr ⟨_, _, _, _, .inr rfl, h⟩ | exact .inl h
noncomputable def asLit (s : SV) : (Value → Bool) → Bool → Bool :=
  SV.rec (motive_1 := fun _ => (Value → Bool) → Bool → Bool) (motive_2 := fun _ => Unit) (fun _ _ d => d) (fun _ _ _ d => d) (fun v k _ => k v) (fun _ _ _ d => d) (fun _ _ _ _ _ d => d) (fun _ _ _ _ _ d => d) (fun _ _ _ _ _ d => d) (fun _ _ d => d) (fun _ _ _ _ _ _ d => d) (fun _ _ _ _ d => d) (fun _ _ _ d => d) (fun _ _ _ d => d) (fun _ _ d => d) (fun _ _ d => d) (fun _ _ _ _ _ d => d) (fun _ _ _ _ _ d => d) (fun _ _ _ _ d => d) (fun _ _ _ d => d) () (fun _ _ _ _ => ()) s
theorem asLit_ok {s : SV} {k : Value → Bool} {d : Bool} (h : asLit s k d = true) : d = true ∨ ∃ v, s = .lit v ∧ k v = true := by
  cases s <;> first | exact .inr ⟨_, rfl, h⟩ | exact .inl h
/-- The bytes of a string. -/
noncomputable def asStr (v : Value) (k : ByteArray → Bool) (d : Bool) : Bool := match v with | .string s => k s | _ => d
theorem asStr_ok {v : Value} {k : ByteArray → Bool} {d : Bool} (h : asStr v k d = true) : d = true ∨ ∃ s, v = .string s ∧ k s = true := by
  unfold asStr at h
  split at h
  · exact .inr ⟨_, rfl, h⟩
  · exact .inl h

/-! ### whole numbers -/
noncomputable def ikN (k : IntKind) : Nat := IntKind.rec 0 1 2 3 4 5 6 7 k
theorem ikN_inj {a b : IntKind} (h : ikN a = ikN b) : a = b := by cases a <;> cases b <;> first | rfl | (simp [ikN] at h; done) | (exact absurd h (by decide))
noncomputable def eqI (a b : Int) : Bool := Int.rec (fun m => Int.rec (fun n => Nat.beq m n) (fun _ => false) b) (fun m => Int.rec (fun _ => false) (fun n => Nat.beq m n) b) a
noncomputable def ltI (a b : Int) : Bool := Int.rec (fun m => Int.rec (fun n => Nat.blt m n) (fun _ => false) b) (fun m => Int.rec (fun _ => true) (fun n => Nat.blt n m) b) a
theorem nat_beq {m n : Nat} : Nat.beq m n = decide (m = n) := by
  by_cases h : m = n
  · subst h; simp
  · rw [decide_eq_false h, Bool.eq_false_iff]
    exact fun e => h (Nat.eq_of_beq_eq_true e)
theorem nat_blt {m n : Nat} : Nat.blt m n = decide (m < n) := by
  by_cases h : m < n
  · rw [decide_eq_true h]
    exact Nat.ble_eq_true_of_le h
  · rw [decide_eq_false h, Bool.eq_false_iff]
    exact fun e => h (Nat.le_of_ble_eq_true e)
theorem eqI_eq (a b : Int) : eqI a b = decide (a = b) := by
  cases a with
  | ofNat m => cases b with
    | ofNat n => show Nat.beq m n = _; rw [nat_beq]; exact decide_eq_decide.2 (by simp only [Int.ofNat_eq_natCast]; omega)
    | negSucc n => show false = _; rw [decide_eq_false]; simp
  | negSucc m => cases b with
    | ofNat n => show false = _; rw [decide_eq_false]; simp
    | negSucc n => show Nat.beq m n = _; rw [nat_beq]; exact decide_eq_decide.2 (by simp)
theorem ltI_eq (a b : Int) : ltI a b = decide (a < b) := by
  cases a with
  | ofNat m => cases b with
    | ofNat n => show Nat.blt m n = _; rw [nat_blt]; exact decide_eq_decide.2 (by simp)
    | negSucc n => show false = _; rw [decide_eq_false]; simp; omega
  | negSucc m => cases b with
    | ofNat n => show true = _; rw [decide_eq_true]; simp; omega
    | negSucc n => show Nat.blt n m = _; rw [nat_blt]; exact decide_eq_decide.2 (by omega)
noncomputable def cmpI (op : BinOp) : Option (Int → Int → Bool) :=
  match op with
  | .eql => some eqI
  | .neq => some fun a b => Bool.rec true false (eqI a b)
  | .lss => some ltI
  | .gtr => some fun a b => ltI b a
  | .leq => some fun a b => Bool.rec true false (ltI b a)
  | .geq => some fun a b => Bool.rec true false (ltI a b)
  | _ => none
theorem not_rec (b : Bool) : (Bool.rec true false b : Bool) = !b := by cases b <;> rfl
theorem dec_not (p q : Prop) [Decidable p] [Decidable q] (h : p ↔ ¬ q) : decide p = !decide q := by
  by_cases hq : q
  · simp [hq, h]
  · simp [hq, h]
theorem cmpI_ok {op : BinOp} {c : Int → Int → Bool} (h : cmpI op = some c) (k : IntKind) (t : TypeId) (m n : Int) : pureRun P (binOp op t (.int k m) (.int k n)) = some (.bool (c m n)) := by
  cases op <;> simp only [cmpI, Option.some.injEq, reduceCtorEq] at h <;> subst h <;> simp only [binOp, Op.intCmp, pureRun_pure, eqI_eq, ltI_eq, not_rec, ne_eq, not_true_eq_false, if_false, Option.some.injEq, Value.bool.injEq]
  · rfl
  · rfl
  · exact dec_not _ _ (by omega)
  · exact dec_not _ _ (by omega)
end Go.Proofs.YtgoccionghehoaaGreatDoor.Ev
namespace Go.Proofs.YtgoccionghehoaaGreatDoor.Ev
open Go
variable [GTab] {P : Program}

abbrev OpG (S : Type) := CallK → S → HS → (SV → HS → Bool) → Bool
abbrev OcF (S : Type) := Operand → Cl (S → (SV → Bool) → Bool)
section forms
variable {S : Type} (oc : OcF S) (gen : Cl (OpG S))
noncomputable def clGen (P : Program) (o : Oper) : Cl (OpG (Tr SV)) := ⟨fun call fr h k => opK P call o fr h k⟩
noncomputable def clMove (x : Operand) : Cl (OpG S) := (oc x).then fun g => ⟨fun _ fr h k => g fr fun v => k v h⟩
noncomputable def clPick (c x y : Operand) : Cl (OpG S) := (oc c).then fun gc => (oc x).then fun gx => (oc y).then fun gy => ⟨fun _ fr h k => gc fr fun v => asBool v (gx fr fun v => k v h) (gy fr fun v => k v h)⟩
noncomputable def clLoad (P : Program) (t : TypeId) (x : Operand) : Cl (OpG S) :=
  match rdLoad.isAggB P t with
  | some false => (oc x).then fun g => ⟨fun call fr h k => g fr fun p => asPtrD p (fun id off => getQ h.hp id fun so => asRowO so fun n _ tr => Bool.rec false (getQ tr off fun sv => k sv h) (Nat.blt off n)) (gen.f call fr h k)⟩
  | some true => (match P.info? t with
    | some i => natC i.size fun z => (oc x).then fun g => ⟨fun call fr h k => g fr fun p => asPtrD p (fun id off => getQ h.hp id fun so => asRowO so fun n _ tr => Bool.rec false (cellsK tr off z fun l => k (.agg l) h) (Nat.ble (off + z) n)) (gen.f call fr h k)⟩
    | none => gen)
  | none => gen
noncomputable def clNil (x : Operand) : Cl (OpG S) := (oc x).then fun g => ⟨fun call fr h k => g fr fun p => asPtrD p (fun id off => k (.ptr id off) h) (gen.f call fr h k)⟩
noncomputable def clFieldAddr (P : Program) (s : TypeId) (x : Operand) (fi : Nat) : Cl (OpG S) :=
  match P.underlying s with
  | some (.struct fs) => (match fs[fi]? with
    | some f => (match P.info? f.type with
      | some i => bif Nat.beq i.size 0 then gen else natC f.offset fun c => (oc x).then fun g => ⟨fun _ fr h k => g fr fun p => asPtr p fun id off => natK (off + c) fun off' => k (.ptr id off') h⟩
      | none => gen)
    | none => gen)
  | _ => gen
noncomputable def asNatI (n : Int) (k : Nat → Bool) : Bool := Int.rec (fun m => k m) (fun _ => false) n
noncomputable def clIndexAddr (P : Program) (t : TypeId) (x ix : Operand) : Cl (OpG S) :=
  match P.underlying t with
  | some (.slice el) => (match P.info? el with
    | some inf => natC inf.size fun z => (oc x).then fun gx => (oc ix).then fun gi => ⟨fun call fr h k => gi fr fun iv => asInt iv (fun _ n => asNatI n fun i => gx fr fun p => asRow p (fun id off len => Bool.rec false (natK (off + i * z) fun off' => k (.ptr id off') h) (Nat.blt i len)) (fun _ _ => false) (gen.f call fr h k)) false⟩
    | none => gen)
  | some (.array len el) => (match P.info? el with
    | some inf => natC inf.size fun z => (oc x).then fun gx => (oc ix).then fun gi => ⟨fun call fr h k => gi fr fun iv => asInt iv (fun _ n => asNatI n fun i => gx fr fun p => asPtrD p (fun id off => Bool.rec false (natK (off + i * z) fun off' => k (.ptr id off') h) (Nat.blt i len)) (gen.f call fr h k)) false⟩
    | none => gen)
  | _ => gen
/-- Sums, differences and products of int64's that are no less than 0. -/
noncomputable def sumI (_ : BinOp) : Option (Nat → Nat → (Int → Bool) → Bool → Bool) := none
noncomputable def clBin (op : BinOp) (x y : Operand) : Cl (OpG S) :=
  match cmpI op with
  | some c => (oc x).then fun gx => (oc y).then fun gy => (match op with
    | .eql => ⟨fun call fr h k => gx fr fun a => gy fr fun b => asInt a (fun ka m => asInt b (fun kb n => Bool.rec false (boolK (c m n) fun r => k r h) (Nat.beq (ikN ka) (ikN kb))) false)
        (asLit a (fun va => asLit b (fun vb => asStr va (fun s => asStr vb (fun u => boolK (byEq s.data.toList u.data.toList) fun r => k r h) (gen.f call fr h k)) (gen.f call fr h k)) (gen.f call fr h k)) (gen.f call fr h k))⟩
    | _ => ⟨fun call fr h k => gx fr fun a => gy fr fun b => asInt a (fun ka m => asInt b (fun kb n => Bool.rec false (boolK (c m n) fun r => k r h) (Nat.beq (ikN ka) (ikN kb))) false) (gen.f call fr h k)⟩)
  | none => (match sumI op with
    | some c => (oc x).then fun gx => (oc y).then fun gy => ⟨fun call fr h k => gx fr fun a => gy fr fun b => asInt a (fun ka p => asInt b (fun kb q =>
        Bool.rec (gen.f call fr h k) (Int.rec (fun m => Int.rec (fun n => c m n (fun r => k (.int .i64 r) h) (gen.f call fr h k)) (fun _ => gen.f call fr h k) q) (fun _ => gen.f call fr h k) p) (Nat.beq (ikN ka) 3 && Nat.beq (ikN kb) 3)) (gen.f call fr h k)) (gen.f call fr h k)⟩
    | none => gen)
noncomputable def clNot (x : Operand) : Cl (OpG S) := (oc x).then fun g => ⟨fun _ fr h k => g fr fun v => asBool v (k (.bool false) h) (k (.bool true) h)⟩
/-- The bytes as one number, the first one lowest. -/
noncomputable def numB (l : List UInt8) : Nat := List.rec 0 (fun a _ ih => Nat.add a.toNat (Nat.mul 256 ih)) l
noncomputable def nthK (l : List UInt8) (i : Nat) (k : Nat → Bool) : Bool := Bool.rec false (natK (Nat.land (Nat.shiftRight (numB l) (Nat.mul 8 i)) 255) k) (Nat.blt i l.length)
theorem numB_at (l : List UInt8) : ∀ (i : Nat) (b : UInt8), l[i]? = some b → Nat.land (Nat.shiftRight (numB l) (Nat.mul 8 i)) 255 = b.toNat := by
  induction l with
  | nil => intro i b h; simp at h
  | cons a r ih =>
    intro i b h
    have e : numB (a :: r) = a.toNat + 256 * numB r := rfl
    have ha : a.toNat < 256 := a.toNat_lt
    cases i with
    | zero =>
      simp only [List.getElem?_cons_zero, Option.some.injEq] at h
      subst h
      show (numB (a :: r) >>> (8 * 0)) &&& 255 = _
      rw [e, show (255 : Nat) = 2 ^ 8 - 1 from rfl, Nat.and_two_pow_sub_one_eq_mod, Nat.mul_zero, Nat.shiftRight_zero]
      omega
    | succ j =>
      have := ih j b (by simpa using h)
      show (numB (a :: r) >>> (8 * (j + 1))) &&& 255 = _
      have this2 : (numB r >>> (8 * j)) &&& 255 = b.toNat := this
      rw [← this2, show 8 * (j + 1) = 8 + 8 * j by omega, Nat.shiftRight_add, e]
      congr 2
      rw [Nat.shiftRight_eq_div_pow]
      omega
noncomputable def asAgg' (s : SV) : (List SV → Bool) → Bool → Bool :=
  SV.rec (motive_1 := fun _ => (List SV → Bool) → Bool → Bool) (motive_2 := fun _ => Unit) (fun _ _ d => d) (fun _ _ _ d => d) (fun _ _ d => d) (fun _ _ _ d => d) (fun _ _ _ _ _ d => d) (fun _ _ _ _ _ d => d) (fun _ _ _ _ _ d => d) (fun _ _ d => d) (fun _ _ _ _ _ _ d => d) (fun _ _ _ _ d => d) (fun l _ k _ => k l) (fun _ _ _ d => d) (fun _ _ d => d) (fun _ _ d => d) (fun _ _ _ _ _ d => d) (fun _ _ _ _ _ d => d) (fun _ _ _ _ d => d) (fun _ _ _ d => d) () (fun _ _ _ _ => ()) s
theorem asAgg'_ok {s : SV} {k : List SV → Bool} {d : Bool} (h : asAgg' s k d = true) : d = true ∨ ∃ l, s = .agg l ∧ k l = true := by
  cases s <;> first | exact .inr ⟨_, rfl, h⟩ | exact .inl h
noncomputable def nthV (l : List SV) : Nat → (SV → Bool) → Bool := List.rec (fun _ _ => false) (fun a _ ih i k => Nat.rec (k a) (fun j _ => ih j k) i) l
theorem nthV_eq (l : List SV) : ∀ (i : Nat) (k : SV → Bool), nthV l i k = match l[i]? with | some s => k s | none => false := by
  induction l with
  | nil => intro i k; rfl
  | cons a r ih =>
    intro i k
    cases i with
    | zero => rfl
    | succ j =>
      show nthV r j k = _
      rw [ih]
      simp
noncomputable def clIndex (P : Program) (t : TypeId) (x ix : Operand) : Cl (OpG S) :=
  match P.underlying t with
  | some .string => (oc x).then fun gx => (oc ix).then fun gi => ⟨fun call fr h k => gi fr fun iv => asInt iv (fun _ n => asNatI n fun i => gx fr fun v => asLit v (fun v => asStr v (fun s => nthK s.data.toList i fun c => k (.int .u8 (.ofNat c)) h) false) false) false⟩
  | some (.array len el) => (match rdLoad.isAggB P el, P.info? el with
    | some false, some inf => bif Nat.beq inf.size 1 then (oc x).then fun gx => (oc ix).then fun gi => ⟨fun call fr h k => gi fr fun iv => asInt iv (fun _ n => asNatI n fun i => gx fr fun v => asAgg' v (fun l => Bool.rec false (nthV l i fun s => k s h) (Nat.blt i len)) (gen.f call fr h k)) false⟩ else gen
    | _, _ => gen)
  | _ => gen
noncomputable def clLen (P : Program) (t : TypeId) (x : Operand) : Cl (OpG S) :=
  match P.underlying t with
  | some (.slice _) => (oc x).then fun g => ⟨fun call fr h k => g fr fun p => asLen p (fun n => k (.int .i64 (.ofNat n)) h) (gen.f call fr h k)⟩
  | some .string => (oc x).then fun g => ⟨fun call fr h k => g fr fun p => asLit p (fun v => asStr v (fun s => natK s.data.toList.length fun n => k (.int .i64 (.ofNat n)) h) (gen.f call fr h k)) (gen.f call fr h k)⟩
  | _ => gen
/-- The arguments, gathered. -/
noncomputable def argsC (l : List Operand) : Cl (S → (List SV → Bool) → Bool) :=
  List.rec ⟨fun _ k => k []⟩ (fun x _ ih => (oc x).then fun g => ih.then fun r => ⟨fun fr k => g fr fun s => r fr fun l => k (s :: l)⟩) l
noncomputable def clCall (P : Program) (f : Operand) (args : List Operand) : Cl (OpG S) :=
  match f with
  | .func g => bif fineFn P g then (argsC oc args).then fun a => ⟨fun call fr h k => a fr fun l => call (.fn g) l h k⟩ else gen
  | _ => gen
noncomputable def clAlloc (P : Program) (el : TypeId) : Cl (OpG S) :=
  match P.info? el with
  | some i => (match i.zero with
    | some z => bif allOne (cellsS (ofV z)) then natC (cellsS (ofV z)).length fun n => trOfC (cellsS (ofV z)) 0 .e fun t => ⟨fun _ _ h k => Bool.rec false (newK h (.row n 0 t) fun h' => k (.ptr h.nx 0) h') (Nat.ble h.bar h.nx)⟩ else gen
    | none => gen)
  | none => gen
where
  trOfC : List SV → Nat → Tr SV → (Tr SV → Cl (OpG S)) → Cl (OpG S)
  | [], _, t, k => k t
  | s :: r, i, t, k => t.putK i (some s) fun t' => natC (i + 1) fun i' => trOfC r i' t' k
theorem trOfC_eq : ∀ (l : List SV) (i : Nat) (t : Tr SV) (k : Tr SV → Cl (OpG S)), clAlloc.trOfC l i t k = k (trOf l i t)
  | [], _, _, _ => rfl
  | s :: r, i, t, k => by rw [clAlloc.trOfC, Tr.putK_eq, natC_eq, trOfC_eq r]; rfl
noncomputable def clBox (x : Operand) : Cl (OpG S) := (oc x).then fun g => ⟨fun _ fr h k => g fr fun s => efRow h (cellsS s) k⟩
noncomputable def clStore (P : Program) (t : TypeId) (x y : Operand) : Cl (OpG S) :=
  match P.info? t with
  | some i => natC i.size fun z => (oc x).then fun gx => (oc y).then fun gy => ⟨fun _ fr h k => gx fr fun p => asPtr p fun id off => HS.rec (fun hp nx ne bar => getQ hp id fun so => asRowO so fun n sz tr => gy fr fun q => listK (cellsS q) fun l =>
      Bool.rec false (trOfK l off tr fun tr' => hp.putK id (some (.row n sz tr')) fun hp' => k (.lit undef) ⟨hp', nx, ne, bar⟩) (Nat.beq l.length z && (Nat.ble (off + l.length) n && (Nat.ble bar id && allOne l)))) h⟩
  | none => gen
noncomputable def clExtract (x : Operand) (i : Nat) : Cl (OpG S) := natC i fun i => (oc x).then fun g => ⟨fun _ fr h k => g fr fun p => match p with
  | .tup l => (match l[i]? with
    | some sv => k sv h
    | none => false)
  | _ => false⟩
/-- An operation over any way to look at operands; gen where nothing better is known. -/
noncomputable def compG (P : Program) (o : Oper) : Cl (OpG S) :=
  match o.op with
  | .move x => clMove oc x
  | .assign x => clMove oc x
  | .pick c x y => clPick oc c x y
  | .load t x => clLoad oc gen P t x
  | .nilCheck x => clNil oc gen x
  | .fieldAddr s x fi => clFieldAddr oc gen P s x fi
  | .indexAddr t x ix => clIndexAddr oc gen P t x ix
  | .binOp op _ x y _ => clBin oc gen op x y
  | .unOp .not _ x => clNot oc x
  | .index t x ix => clIndex oc gen P t x ix
  | .extract x i => clExtract oc x i
  | .alloc el => clAlloc gen P el
  | .box _ x => clBox oc x
  | .store t x y => clStore oc gen P t x y
  | .call { callee := .builtin .len, args := ⟨[x]⟩, argTypes := ⟨[t]⟩ } => clLen oc gen P t x
  | .call { callee := .value f, args := ⟨args⟩, argTypes := _ } => clCall oc gen P f args
  | _ => gen
end forms
noncomputable def compOp (P : Program) (o : Oper) : Cl (OpG (Tr SV)) := compG opdC (clGen P o) P o

/-! ### soundness -/
theorem rec_true {b x : Bool} (h : (Bool.rec false x b : Bool) = true) : b = true ∧ x = true := by cases b <;> simp_all
theorem ofV_norm {v : Value} {k : SV → Bool} (h : k (ofV v) = true) : normK v k = true := by
  cases v with
  | bool b => cases b <;> exact h
  | int kd n => exact (intK_eq n fun n' => k (.int kd n')).trans h
  | _ => exact h
theorem rdPure_of {o : Oper} {fr : Tr SV} {k : SV → Bool} (hs : ∀ cs b, o.op ≠ .select cs b) {v : Value} (hf : allFlat fr o.op.operands.toList = true) (hr : pureRun P (execOp (flatOpd fr) o) = some (.value v)) (hk : k (ofV v) = true) : rdPure P o fr k = true := by
  unfold rdPure
  rw [hf, cond_true]
  split
  · rename_i cs b e
    exact absurd e (hs cs b)
  · rw [hr]
    exact ofV_norm hk
theorem exec_bin {o : Oper} {op : BinOp} {t u : TypeId} {x y : Operand} (ho : o.op = .binOp op t x y u) (ρ : Operand → Value) {a b v : Value} (hx : ρ x = a) (hy : ρ y = b) (hg : eqGuard op t x y a b = pure ()) (h : pureRun P (binOp op t a b) = some v) : pureRun P (execOp ρ o) = some (.value v) := by
  unfold execOp
  rw [ho]
  simp only [hx, hy, hg]
  have : ∀ e : Sem Value, pureRun P e = some v → pureRun P (do pure (Next.value (← e))) = some (.value v) := by
    intro e
    induction e with
    | pure a => intro h; simp only [pureRun, Option.some.injEq] at h; subst h; rfl
    | program k ih => intro h; exact ih _ h
    | mark m k ih => intro h; exact ih h
    | load m a k ih => intro h; simp [pureRun] at h
    | store m a v k ih => intro h; simp [pureRun] at h
    | new o k ih => intro h; simp [pureRun] at h
    | shape r k ih => intro h; simp [pureRun] at h
    | freeze a n k ih => intro h; simp [pureRun] at h
    | frozen a k ih => intro h; simp [pureRun] at h
    | getObj r k ih => intro h; simp [pureRun] at h
    | setObj r o k ih => intro h; simp [pureRun] at h
    | choose q k ih => intro h; simp [pureRun] at h
    | sys c k ih => intro h; simp [pureRun] at h
    | halt h => intro h; simp [pureRun] at h
  exact this _ h
theorem guard_int (op : BinOp) (t : TypeId) (x y : Operand) (k l : IntKind) (m n : Int) : eqGuard op t x y (.int k m) (.int l n) = pure () := by
  unfold eqGuard; cases op <;> rfl
theorem guard_str (op : BinOp) (t : TypeId) (x y : Operand) (a b : ByteArray) : eqGuard op t x y (.string a) (.string b) = pure () := by
  unfold eqGuard; cases op <;> rfl
theorem flat2 {fr : Tr SV} {x y : Operand} {a b : Value} (hx : flat (opd fr x) = some a) (hy : flat (opd fr y) = some b) : allFlat fr [x, y] = true ∧ flatOpd fr x = a ∧ flatOpd fr y = b := by
  refine ⟨?_, by simp [flatOpd, hx], by simp [flatOpd, hy]⟩
  simp [allFlat, hx, hy]
theorem opK_bin {call : CallK} {o : Oper} {fr : Tr SV} {h : HS} {k : SV → HS → Bool} {op : BinOp} {t u : TypeId} {x y : Operand} (ho : o.op = .binOp op t x y u) {a b v : Value} (hx : flat (opd fr x) = some a) (hy : flat (opd fr y) = some b)
    (hg : eqGuard op t x y a b = pure ()) (hr : pureRun P (binOp op t a b) = some v) (hk : k (ofV v) h = true) : opK P call o fr h k = true := by
  obtain ⟨e1, e2, e3⟩ := flat2 hx hy
  have : opK P call o fr h k = rdK P o fr h.hp fun sv => k sv h := by simp only [opK, ho]
  rw [this]
  have : rdK P o fr h.hp (fun sv => k sv h) = bif allFlat fr [x, y] then rdPure P o fr (fun sv => k sv h) else rdEqNil P op t fr x y (fun sv => k sv h) := by simp only [rdK, ho]
  rw [this, e1, cond_true]
  exact rdPure_of (fun cs b e => by rw [ho] at e; cases e) (by rw [ho]; exact e1) (exec_bin ho _ e2 e3 hg hr) hk
theorem clBin_ok {S : Type} {oc : OcF S} {gen : Cl (OpG S)} {s : S} {call : CallK} {o : Oper} {fr : Tr SV} {h : HS} {k : SV → HS → Bool} {op : BinOp} {t u : TypeId} {x y : Operand} (ho : o.op = .binOp op t x y u) (hx : ∀ k, (oc x).f s k = k (opd fr x)) (hy : ∀ k, (oc y).f s k = k (opd fr y)) (hk : (clBin oc gen op x y).f call s h k = true) : opK P call o fr h k = true ∨ gen.f call s h k = true := by
  have ints : ∀ (c : Int → Int → Bool), cmpI op = some c → ∀ ka m kb n, opd fr x = .int ka m → opd fr y = .int kb n → (Bool.rec false (boolK (c m n) fun r => k r h) (Nat.beq (ikN ka) (ikN kb)) : Bool) = true → opK P call o fr h k = true := by
    intro c hc ka m kb n ex ey hk
    obtain ⟨h1, h2⟩ := rec_true hk
    have := ikN_inj (Nat.eq_of_beq_eq_true h1)
    subst this
    rw [boolK_eq] at h2
    exact opK_bin ho (a := .int ka m) (b := .int ka n) (by rw [ex]; rfl) (by rw [ey]; rfl) (guard_int ..) (cmpI_ok hc ka t m n) h2
  unfold clBin at hk
  split at hk
  · rename_i c hc
    rw [Cl.then_eq, Cl.then_eq] at hk
    split at hk
    · simp only [hx, hy] at hk
      rcases asInt_ok hk with q1 | ⟨ka, m, ex, q1⟩
      · clear hk
        rcases asLit_ok q1 with q2 | ⟨va, ex, q2⟩
        · exact .inr q2
        clear q1
        rcases asLit_ok q2 with q1 | ⟨vb, ey, q1⟩
        · exact .inr q1
        clear q2
        rcases asStr_ok q1 with q2 | ⟨sa, e1, q2⟩
        · exact .inr q2
        clear q1
        rcases asStr_ok q2 with q1 | ⟨u', e2, hk⟩
        · exact .inr q1
        clear q2
        subst e1 e2
        rw [boolK_eq] at hk
        refine .inl (opK_bin ho (a := .string sa) (b := .string u') (v := .bool (byEq sa.data.toList u'.data.toList)) (by rw [ex]; rfl) (by rw [ey]; rfl) (guard_str ..) ?_ hk)
        simp only [binOp, Op.stringOp, pureRun_pure, ByteArray.toList_eq]
        congr 2
        cases hb : byEq sa.data.toList u'.data.toList with
        | true => rw [byEq_ok hb]; simp
        | false =>
          rw [beq_eq_false_iff_ne]
          intro e
          have : ∀ l : List UInt8, byEq l l = true := by
            intro l
            induction l with
            | nil => rfl
            | cons a r ih => simp [byEq, ih]
          rw [e, this] at hb
          cases hb
      · rcases asInt_ok q1 with q2 | ⟨kb, n, ey, q2⟩
        · cases q2
        exact .inl (ints c hc ka m kb n ex ey q2)
    · simp only [hx, hy] at hk
      rcases asInt_ok hk with q1 | ⟨ka, m, ex, q1⟩
      · exact .inr q1
      · rcases asInt_ok q1 with q2 | ⟨kb, n, ey, q2⟩
        · cases q2
        exact .inl (ints c hc ka m kb n ex ey q2)
  · split at hk
    · rename_i c hc
      cases hc
    · exact .inr hk
end Go.Proofs.YtgoccionghehoaaGreatDoor.Ev
namespace Go.Proofs.YtgoccionghehoaaGreatDoor.Ev
open Go
variable [GTab] {P : Program} {call : CallK} {o : Oper} {fr : Tr SV} {h : HS} {k : SV → HS → Bool} {S : Type} {oc : OcF S} {gen : Cl (OpG S)} {s : S}

theorem clMove_ok {x : Operand} (ho : o.op = .move x ∨ o.op = .assign x) (hx : ∀ k, (oc x).f s k = k (opd fr x)) (hk : (clMove oc x).f call s h k = true) : opK P call o fr h k = true ∨ gen.f call s h k = true := by
  unfold clMove at hk
  rw [Cl.then_eq] at hk
  simp only [hx] at hk
  rcases ho with ho | ho <;> (refine .inl ?_; simp only [opK, rdK, ho, rdMove, opdK_eq]; exact hk)
theorem clPick_ok {c x y : Operand} (ho : o.op = .pick c x y) (hc : ∀ k, (oc c).f s k = k (opd fr c)) (hx : ∀ k, (oc x).f s k = k (opd fr x)) (hy : ∀ k, (oc y).f s k = k (opd fr y)) (hk : (clPick oc c x y).f call s h k = true) : opK P call o fr h k = true ∨ gen.f call s h k = true := by
  unfold clPick at hk
  simp only [Cl.then_eq, hc, hx, hy] at hk
  obtain ⟨b, e, hk⟩ := asBool_ok hk
  refine .inl ?_
  simp only [opK, rdK, ho, rdPick, opdK_eq, e]
  cases b
  · exact hk
  · exact hk
theorem clLoad_ok {t : TypeId} {x : Operand} (ho : o.op = .load t x) (hx : ∀ k, (oc x).f s k = k (opd fr x)) (hk : (clLoad oc gen P t x).f call s h k = true) : opK P call o fr h k = true ∨ gen.f call s h k = true := by
  unfold clLoad at hk
  split at hk
  · rename_i ha
    simp only [Cl.then_eq, hx] at hk
    rcases asPtrD_ok hk with q | ⟨id, off, e, q⟩
    · exact .inr q
    clear hk
    rw [getQ_eq] at q
    split at q
    case h_2 => cases q
    rename_i so hso
    obtain ⟨n, sz, tr, rfl, q2⟩ := asRowO_ok q
    clear q
    obtain ⟨h1, hk⟩ := rec_true q2
    rw [getQ_eq] at hk
    refine .inl ?_
    simp only [opK, rdK, ho, rdLoad, opdK_eq, e, hso, ha]
    rw [show Nat.ble (off + 1) n = true from h1, cond_true]
    cases hg : tr.get off with
    | none => rw [hg] at hk; cases hk
    | some sv => rw [hg] at hk; exact hk
  · rename_i ha
    split at hk
    · rename_i i hi
      rw [natC_eq] at hk
      simp only [Cl.then_eq, hx] at hk
      rcases asPtrD_ok hk with q | ⟨id, off, e, q⟩
      · exact .inr q
      clear hk
      rw [getQ_eq] at q
      split at q
      case h_2 => cases q
      rename_i so hso
      obtain ⟨n, sz, tr, rfl, q2⟩ := asRowO_ok q
      clear q
      obtain ⟨h1, hk⟩ := rec_true q2
      refine .inl ?_
      simp only [opK, rdK, ho, rdLoad, opdK_eq, e, hso, ha, hi]
      rw [h1, cond_true]
      exact hk
    · exact .inr hk
  · exact .inr hk
theorem clNil_ok {x : Operand} (ho : o.op = .nilCheck x) (hx : ∀ k, (oc x).f s k = k (opd fr x)) (hk : (clNil oc gen x).f call s h k = true) : opK P call o fr h k = true ∨ gen.f call s h k = true := by
  unfold clNil at hk
  simp only [Cl.then_eq, hx] at hk
  rcases asPtrD_ok hk with q | ⟨id, off, e, q⟩
  · exact .inr q
  · refine .inl ?_
    simp only [opK, rdK, ho, rdNil, opdK_eq, e]
    exact q
theorem clFieldAddr_ok {st : TypeId} {x : Operand} {fi : Nat} (ho : o.op = .fieldAddr st x fi) (hx : ∀ k, (oc x).f s k = k (opd fr x)) (hk : (clFieldAddr oc gen P st x fi).f call s h k = true) : opK P call o fr h k = true ∨ gen.f call s h k = true := by
  unfold clFieldAddr at hk
  split at hk
  case h_2 => exact .inr hk
  rename_i fs hfs
  split at hk
  case h_2 => exact .inr hk
  rename_i f hf
  split at hk
  case h_2 => exact .inr hk
  rename_i i hi
  cases hz : Nat.beq i.size 0 with
  | true => rw [hz] at hk; exact .inr hk
  | false =>
    rw [hz, cond_false, natC_eq] at hk
    simp only [Cl.then_eq, hx] at hk
    obtain ⟨id, off, e, hk⟩ := asPtr_ok hk
    refine .inl ?_
    simp only [opK, rdK, ho, rdFieldAddr, opdK_eq, e, hfs, hf, hi, hz, cond_false]
    exact hk
theorem asNatI_ok {n : Int} {k : Nat → Bool} (h : asNatI n k = true) : ∃ m : Nat, n = .ofNat m ∧ k m = true := by
  cases n with
  | ofNat m => exact ⟨m, rfl, h⟩
  | negSucc m => cases h
theorem clIndexAddr_ok {t : TypeId} {x ix : Operand} (ho : o.op = .indexAddr t x ix) (hx : ∀ k, (oc x).f s k = k (opd fr x)) (hix : ∀ k, (oc ix).f s k = k (opd fr ix)) (hk : (clIndexAddr oc gen P t x ix).f call s h k = true) : opK P call o fr h k = true ∨ gen.f call s h k = true := by
  have e0 : opK P call o fr h k = bif allFlat fr [x] then rdPure P o fr (fun sv => k sv h) else rdIndexAddr P t fr x ix (fun sv => k sv h) := by simp only [opK, rdK, ho]
  unfold clIndexAddr at hk
  split at hk
  · rename_i el hu
    split at hk
    case h_2 => exact .inr hk
    rename_i inf hi
    rw [natC_eq] at hk
    simp only [Cl.then_eq, hx, hix] at hk
    rcases asInt_ok hk with q | ⟨kd, n, e, q⟩
    · cases q
    clear hk
    obtain ⟨i, rfl, q⟩ := asNatI_ok q
    cases hp : opd fr x <;> rw [hp] at q <;> first
      | exact .inr q
      | (cases q; done)
      | (refine .inl ?_
         obtain ⟨h1, q⟩ := rec_true q
         rw [e0, show allFlat fr [x] = false by simp [allFlat, hp, flat], cond_false]
         simp only [rdIndexAddr, opdK_eq, e, hu, hi, hp, h1, cond_true]
         exact q)
  · rename_i len el hu
    split at hk
    case h_2 => exact .inr hk
    rename_i inf hi
    rw [natC_eq] at hk
    simp only [Cl.then_eq, hx, hix] at hk
    rcases asInt_ok hk with q | ⟨kd, n, e, q⟩
    · cases q
    clear hk
    obtain ⟨i, rfl, q⟩ := asNatI_ok q
    rcases asPtrD_ok q with q2 | ⟨id, off, e2, q2⟩
    · exact .inr q2
    obtain ⟨h1, q⟩ := rec_true q2
    refine .inl ?_
    rw [e0, show allFlat fr [x] = false by simp [allFlat, e2, flat], cond_false]
    simp only [rdIndexAddr, opdK_eq, e, e2, hu, hi, h1, cond_true]
    exact q
  · exact .inr hk
theorem opK_pure {o : Oper} {v : Value} (hr : pureRun P (execOp (flatOpd fr) o) = some (.value v)) (hf : allFlat fr o.op.operands.toList = true) (hs : ∀ cs b, o.op ≠ .select cs b) (hk : k (ofV v) h = true) (he : opK P call o fr h k = rdPure P o fr fun sv => k sv h) : opK P call o fr h k = true := by
  rw [he]
  exact rdPure_of hs hf hr hk
theorem clNot_ok {t : TypeId} {x : Operand} (ho : o.op = .unOp .not t x) (hx : ∀ k, (oc x).f s k = k (opd fr x)) (hk : (clNot oc x).f call s h k = true) : opK P call o fr h k = true ∨ gen.f call s h k = true := by
  unfold clNot at hk
  simp only [Cl.then_eq, hx] at hk
  obtain ⟨b, e, hk⟩ := asBool_ok hk
  refine .inl (opK_pure (v := .bool !b) ?_ ?_ (fun cs b e => by rw [ho] at e; cases e) ?_ (by simp only [opK, rdK, ho]))
  · have e1 : flatOpd fr x = .bool b := by simp [flatOpd, e, flat]
    unfold execOp
    rw [ho]
    simp only [e1, Op.unary]
    rfl
  · rw [ho]
    simp [Op.operands, allFlat, e, flat]
  · cases b
    · exact hk
    · exact hk
theorem nthK_ok {l : List UInt8} {i : Nat} {k : Nat → Bool} (h : nthK l i k = true) : ∃ b : UInt8, l[i]? = some b ∧ k b.toNat = true := by
  unfold nthK at h
  obtain ⟨h1, h2⟩ := rec_true h
  have hi : i < l.length := Nat.le_of_ble_eq_true h1
  refine ⟨l[i], List.getElem?_eq_getElem hi, ?_⟩
  rw [natK_eq, numB_at l i _ (List.getElem?_eq_getElem hi)] at h2
  exact h2
theorem clIndex_ok {t : TypeId} {x ix : Operand} (ho : o.op = .index t x ix) (hx : ∀ k, (oc x).f s k = k (opd fr x)) (hix : ∀ k, (oc ix).f s k = k (opd fr ix)) (hk : (clIndex oc gen P t x ix).f call s h k = true) : opK P call o fr h k = true ∨ gen.f call s h k = true := by
  unfold clIndex at hk
  split at hk
  case h_3 => exact .inr hk
  case h_2 =>
    rename_i len el hu
    split at hk
    case h_2 => exact .inr hk
    rename_i inf ha hi
    cases hz : Nat.beq inf.size 1 with
    | false => rw [hz] at hk; exact .inr hk
    | true =>
    rw [hz, cond_true] at hk
    simp only [Cl.then_eq, hx, hix] at hk
    rcases asInt_ok hk with q1 | ⟨kd, n, e, q1⟩
    · cases q1
    clear hk
    obtain ⟨i, rfl, q1⟩ := asNatI_ok q1
    rcases asAgg'_ok q1 with q2 | ⟨l, e2, q2⟩
    · exact .inr q2
    clear q1
    obtain ⟨h1, q3⟩ := rec_true q2
    rw [nthV_eq] at q3
    refine .inl ?_
    have e0 : opK P call o fr h k = bif rdIndexA P t fr x ix (fun _ => true) then rdIndexA P t fr x ix (fun sv => k sv h) else rdPure P o fr (fun sv => k sv h) := by simp only [opK, rdK, ho]
    have e3 : rdIndexA P t fr x ix (fun sv => k sv h) = true := by
      unfold rdIndexA
      simp only [hu, ha, hi, hz, cond_true, opdK_eq, e, e2, h1]
      cases hl : l[i]? with
      | none => rw [hl] at q3; cases q3
      | some s => rw [hl] at q3; exact q3
    have e4 : rdIndexA P t fr x ix (fun _ => true) = true := by
      unfold rdIndexA
      simp only [hu, ha, hi, hz, cond_true, opdK_eq, e, e2, h1]
      cases hl : l[i]? with
      | none => rw [hl] at q3; cases q3
      | some s => rfl
    rw [e0, e4]
    exact e3
  rename_i hu
  simp only [Cl.then_eq, hx, hix] at hk
  rcases asInt_ok hk with q1 | ⟨kd, n, e, q1⟩
  · cases q1
  clear hk
  obtain ⟨i, rfl, q1⟩ := asNatI_ok q1
  rcases asLit_ok q1 with q2 | ⟨v, e2, q2⟩
  · cases q2
  clear q1
  rcases asStr_ok q2 with q1 | ⟨sa, rfl, q1⟩
  · cases q1
  clear q2
  obtain ⟨b, h1, q⟩ := nthK_ok q1
  refine .inl (opK_pure (v := .int .u8 b.toNat) ?_ ?_ (fun cs b e => by rw [ho] at e; cases e) q (by
    have e0 : rdIndexA P t fr x ix (fun _ => true) = false := by unfold rdIndexA; rw [hu]
    simp only [opK, rdK, ho, e0, cond_false]))
  · have e1 : flatOpd fr x = .string sa := by simp [flatOpd, e2, flat]
    have e3 : flatOpd fr ix = .int kd i := by simp [flatOpd, e, flat]
    have e4 : sa[i]? = some b := by
      have hi : i < sa.data.toList.length := (List.getElem?_eq_some_iff.1 h1).1
      have hi' : i < sa.size := by simpa using hi
      rw [getElem?_pos sa i hi']
      have := (List.getElem?_eq_some_iff.1 h1).2
      rw [← this]
      rfl
    unfold execOp
    rw [ho]
    simp only [e1, e3, Instr.index, asIntOf, pureRun_bind, pureRun_pure, Option.bind_some, pureRun_underlying hu]
    simp [e4, pureRun_pure]
  · rw [ho]
    simp [Op.operands, allFlat, e, e2, flat]
theorem clLen_ok {t : TypeId} {x : Operand} (ho : o.op = .call { callee := .builtin .len, args := #[x], argTypes := #[t] }) (hx : ∀ k, (oc x).f s k = k (opd fr x)) (hk : (clLen oc gen P t x).f call s h k = true) : opK P call o fr h k = true ∨ gen.f call s h k = true := by
  unfold clLen at hk
  split at hk
  · rename_i el hu
    simp only [Cl.then_eq, hx] at hk
    rcases asLen_ok hk with q | ⟨id, off, n, c, e, q⟩
    · exact .inr q
    refine .inl ?_
    have e1 : opK P call o fr h k = rdK P o fr h.hp fun sv => k sv h := by simp only [opK, ho, effB, cond_false]
    rw [e1]
    have e2 : rdK P o fr h.hp (fun sv => k sv h) = bif allFlat fr [x] then rdPure P o fr (fun sv => k sv h) else rdLen P t fr h.hp x (fun sv => k sv h) := by simp only [rdK, ho]
    rw [e2]
    rcases e with e | e
    · rw [show allFlat fr [x] = false by simp [allFlat, e, flat], cond_false]
      simp only [rdLen, opdK_eq, e, hu]
      exact q
    · rw [show allFlat fr [x] = false by simp [allFlat, e, flat], cond_false]
      simp only [rdLen, opdK_eq, e, hu]
      exact q
  · rename_i hu
    simp only [Cl.then_eq, hx] at hk
    rcases asLit_ok hk with q1 | ⟨v, e, q1⟩
    · exact .inr q1
    clear hk
    rcases asStr_ok q1 with q2 | ⟨sa, rfl, q2⟩
    · exact .inr q2
    clear q1
    rw [natK_eq] at q2
    refine .inl ?_
    have e1 : opK P call o fr h k = rdK P o fr h.hp fun sv => k sv h := by simp only [opK, ho, effB, cond_false]
    rw [e1]
    have e2 : rdK P o fr h.hp (fun sv => k sv h) = bif allFlat fr [x] then rdPure P o fr (fun sv => k sv h) else rdLen P t fr h.hp x (fun sv => k sv h) := by simp only [rdK, ho]
    rw [e2, show allFlat fr [x] = true by simp [allFlat, e, flat], cond_true]
    refine rdPure_of (v := .int .i64 sa.size) (fun cs b e => by rw [ho] at e; cases e) (by rw [ho]; simp [Op.operands, Call.operands, allFlat, e, flat]) ?_ (by simpa [ofV] using q2)
    unfold execOp
    rw [ho]
    have e3 : flatOpd fr x = .string sa := by simp [flatOpd, e, flat]
    simp only [resolve, invoke, builtin, List.map_toArray, List.map_cons, List.map_nil, pureRun_bind, pureRun_pure, Option.bind_some, e3, Builtin.len_, List.getElem?_toArray, List.getElem?_cons_zero, pureRun_underlying hu]
    rfl
  · exact .inr hk
theorem argsC_at (l : List Operand) : ∀ (k : List SV → Bool), (∀ x ∈ l, ∀ k, (oc x).f s k = k (opd fr x)) → (argsC oc l).f s k = k (l.map (opd fr)) := by
  induction l with
  | nil => intro k _; rfl
  | cons x r ih =>
    intro k hx
    show ((oc x).then fun g => (argsC oc r).then fun q => (⟨fun fr k => g fr fun s => q fr fun l => k (s :: l)⟩ : Cl (S → (List SV → Bool) → Bool))).f s k = _
    rw [Cl.then_eq, Cl.then_eq]
    show (oc x).f s (fun v => (argsC oc r).f s fun l => k (v :: l)) = _
    rw [hx x List.mem_cons_self, ih _ fun y hy => hx y (List.mem_cons_of_mem _ hy)]
    rfl
theorem clCall_ok {f : Operand} {args : Array Operand} {ts : Array TypeId} (ho : o.op = .call { callee := .value f, args := args, argTypes := ts }) (hx : ∀ x ∈ args.toList, ∀ k, (oc x).f s k = k (opd fr x)) (hk : (clCall oc gen P f args.toList).f call s h k = true) : opK P call o fr h k = true ∨ gen.f call s h k = true := by
  unfold clCall at hk
  split at hk
  case h_2 => exact .inr hk
  rename_i g
  cases hg : fineFn P g with
  | false => rw [hg] at hk; exact .inr hk
  | true =>
    rw [hg, cond_true, Cl.then_eq] at hk
    simp only [argsC_at args.toList _ hx] at hk
    refine .inl ?_
    simp only [opK, ho, callOp, opdK_eq, opd, fnOf, hg, cond_true, opdsK_eq, listK_eq, List.nil_append, List.append_nil]
    exact hk
theorem clAlloc_ok {el : TypeId} (ho : o.op = .alloc el)  (hk : (clAlloc gen P el).f call s h k = true) : opK P call o fr h k = true ∨ gen.f call s h k = true := by
  unfold clAlloc at hk
  split at hk
  case h_2 => exact .inr hk
  rename_i i hi
  split at hk
  case h_2 => exact .inr hk
  rename_i z hz
  cases ha : allOne (cellsS (ofV z)) with
  | false => rw [ha] at hk; exact .inr hk
  | true =>
    rw [ha, cond_true, natC_eq, trOfC_eq] at hk
    obtain ⟨h1, hk⟩ := rec_true hk
    refine .inl ?_
    simp only [opK, efK, ho, efAlloc, hi, hz, efRow, ha, h1, Bool.and_self, cond_true, natK_eq, trOfK_eq]
    exact hk
theorem clBox_ok {t : TypeId} {x : Operand} (ho : o.op = .box t x) (hx : ∀ k, (oc x).f s k = k (opd fr x)) (hk : (clBox oc x).f call s h k = true) : opK P call o fr h k = true ∨ gen.f call s h k = true := by
  unfold clBox at hk
  simp only [Cl.then_eq, hx] at hk
  refine .inl ?_
  simp only [opK, efK, ho, efBox, opdK_eq]
  exact hk
theorem clStore_ok {t : TypeId} {x y : Operand} (ho : o.op = .store t x y) (hx : ∀ k, (oc x).f s k = k (opd fr x)) (hy : ∀ k, (oc y).f s k = k (opd fr y)) (hk : (clStore oc gen P t x y).f call s h k = true) : opK P call o fr h k = true ∨ gen.f call s h k = true := by
  unfold clStore at hk
  split at hk
  case h_2 => exact .inr hk
  rename_i i hi
  rw [natC_eq] at hk
  simp only [Cl.then_eq, hx, hy] at hk
  obtain ⟨id, off, e, q⟩ := asPtr_ok hk
  clear hk
  have q : getQ h.hp id (fun so => asRowO so fun n sz tr => listK (cellsS (opd fr y)) fun l =>
      Bool.rec false (trOfK l off tr fun tr' => h.hp.putK id (some (.row n sz tr')) fun hp' => k (.lit undef) ⟨hp', h.nx, h.ne, h.bar⟩) (Nat.beq l.length i.size && (Nat.ble (off + l.length) n && (Nat.ble h.bar id && allOne l)))) = true := q
  rw [getQ_eq] at q
  split at q
  case h_2 => cases q
  rename_i so hso
  obtain ⟨n, sz, tr, rfl, q2⟩ := asRowO_ok q
  clear q
  rw [listK_eq] at q2
  obtain ⟨h1, hk⟩ := rec_true q2
  refine .inl ?_
  simp only [opK, efK, ho, efStore, opdK_eq, e, hso, hi, listK_eq, h1, cond_true]
  exact hk
theorem clExtract_ok {x : Operand} {i : Nat} (ho : o.op = .extract x i) (hx : ∀ k, (oc x).f s k = k (opd fr x)) (hk : (clExtract oc x i).f call s h k = true) : opK P call o fr h k = true ∨ gen.f call s h k = true := by
  unfold clExtract at hk
  rw [natC_eq, Cl.then_eq] at hk
  simp only [hx] at hk
  refine .inl ?_
  simp only [opK, rdK, ho, rdExtract, opdK_eq]
  split at hk
  · rename_i l e
    simp only [e]
    exact hk
  · cases hk
theorem compG_ok (hx : ∀ x ∈ o.op.operands.toList, ∀ k, (oc x).f s k = k (opd fr x)) (hk : (compG oc gen P o).f call s h k = true) : opK P call o fr h k = true ∨ gen.f call s h k = true := by
  unfold compG at hk
  split at hk <;> rename_i ho
  · exact clMove_ok (.inl ho) (hx _ (by simp [ho, Op.operands])) hk
  · exact clMove_ok (.inr ho) (hx _ (by simp [ho, Op.operands])) hk
  · exact clPick_ok ho (hx _ (by simp [ho, Op.operands])) (hx _ (by simp [ho, Op.operands])) (hx _ (by simp [ho, Op.operands])) hk
  · exact clLoad_ok ho (hx _ (by simp [ho, Op.operands])) hk
  · exact clNil_ok ho (hx _ (by simp [ho, Op.operands])) hk
  · exact clFieldAddr_ok ho (hx _ (by simp [ho, Op.operands])) hk
  · exact clIndexAddr_ok ho (hx _ (by simp [ho, Op.operands])) (hx _ (by simp [ho, Op.operands])) hk
  · exact clBin_ok ho (hx _ (by simp [ho, Op.operands])) (hx _ (by simp [ho, Op.operands])) hk
  · exact clNot_ok ho (hx _ (by simp [ho, Op.operands])) hk
  · exact clIndex_ok ho (hx _ (by simp [ho, Op.operands])) (hx _ (by simp [ho, Op.operands])) hk
  · exact clExtract_ok ho (hx _ (by simp [ho, Op.operands])) hk
  · exact clAlloc_ok ho hk
  · exact clBox_ok ho (hx _ (by simp [ho, Op.operands])) hk
  · exact clStore_ok ho (hx _ (by simp [ho, Op.operands])) (hx _ (by simp [ho, Op.operands])) hk
  · exact clLen_ok ho (hx _ (by simp [ho, Op.operands, Call.operands])) hk
  · exact clCall_ok ho (fun x h => hx x (by simp [ho, Op.operands, Call.operands]; right; simpa using h)) hk
  · exact .inr hk
theorem compOp_ok (hk : (compOp P o).f call fr h k = true) : opK P call o fr h k = true := by
  rcases compG_ok (fun x _ k => opdC_at x fr k) hk with h | h
  · exact h
  · exact h
end Go.Proofs.YtgoccionghehoaaGreatDoor.Ev
namespace Go.Proofs.YtgoccionghehoaaGreatDoor.Ev
open Go

variable [GTab] {P : Program} {W0 : World} [GOk W0]
/-! ### guards -/
noncomputable def wants (ops : Array Oper) (o : Oper) (fr : Tr SV) : Option Bool :=
  match o.guard with
  | none => some true
  | some (g, want) => match (ops[g]?).bind (·.dst) with
    | none => some false
    | some t => match opd fr (.tmp t) with
      | .bool b => some (bif b then want else !want)
      | .lit (.bool _) => none
      | _ => some false
theorem not_bool {E : Env} {s : SV} {v : Value} (h : val E s = some v) (h1 : ∀ b, s ≠ .bool b) (h2 : ∀ b, s ≠ .lit (.bool b)) : ∀ b, v ≠ .bool b := by
  intro b
  cases s with
  | bool b => exact absurd rfl (h1 b)
  | int k n => simp only [val, Option.some.injEq] at h; subst h; simp
  | lit v' => simp only [val, Option.some.injEq] at h; subst h; exact fun e => h2 b (by rw [e])
  | ptr id off => simp only [val, Option.map_eq_some_iff] at h; obtain ⟨_, _, rfl⟩ := h; simp
  | sl id off len cap => simp only [val, Option.map_eq_some_iff] at h; obtain ⟨_, _, rfl⟩ := h; simp
  | slr id off len cap => simp only [val, Option.map_eq_some_iff] at h; obtain ⟨_, _, rfl⟩ := h; simp
  | emp j id off skip => simp only [val, Option.bind_eq_some_iff, Option.map_eq_some_iff] at h; obtain ⟨_, _, _, _, _, _, rfl⟩ := h; simp
  | map id => simp only [val, Option.map_eq_some_iff] at h; obtain ⟨_, _, rfl⟩ := h; simp
  | yld id => simp only [val, Option.map_eq_some_iff] at h; obtain ⟨_, _, rfl⟩ := h; simp
  | mks l => simp only [val, Option.some.injEq] at h; subst h; simp [undef]
  | esl j c off len =>
    simp only [val, Option.bind_eq_some_iff] at h
    obtain ⟨p, h1, z, h2, h⟩ := h
    split at h
    · obtain rfl := Option.some.inj h; simp
    · cases h
  | epl j c i r =>
    simp only [val, Option.bind_eq_some_iff] at h
    obtain ⟨p, h1, z, h2, h⟩ := h
    split at h
    · obtain ⟨A, h3, h⟩ := Option.map_eq_some_iff.1 h
      subst h; simp
    · cases h
  | rng lo hi n =>
    simp only [val] at h
    split at h
    · obtain rfl := Option.some.inj h; simp
    · cases h
  | sla id len =>
    simp only [val, Option.bind_eq_some_iff] at h
    obtain ⟨s, _, h⟩ := h
    split at h
    · obtain rfl := Option.some.inj h; simp
    · cases h
  | iface t x => simp only [val, Option.map_eq_some_iff] at h; obtain ⟨_, _, rfl⟩ := h; simp
  | agg l => simp only [val, Option.map_eq_some_iff] at h; obtain ⟨_, _, rfl⟩ := h; simp
  | tup l => simp only [val, Option.map_eq_some_iff] at h; obtain ⟨_, _, rfl⟩ := h; simp
  | fn f a b => simp only [val, Option.map_eq_some_iff, Option.bind_eq_some_iff] at h; obtain ⟨_, _, _, _, rfl⟩ := h; simp
/-- What a guard looks at is the same in both frames. -/
def SameG (ops : Array Oper) (o : Oper) (fr fr' : Tr SV) : Prop := ∀ g want t, o.guard = some (g, want) → (ops[g]?).bind (·.dst) = some t → opd fr (.tmp t) = opd fr' (.tmp t)
theorem wants_ok {ops : Array Oper} {o : Oper} {fr fr' : Tr SV} {b : Bool} (h : wants ops o fr = some b) (sm : SameG ops o fr fr') {E : Env} {N : Nat} {a : Act} (fo : FrOk E fr' N a) : Region.wanted o (yielded ops a.tmps) = b := by
  unfold wants at h
  unfold Region.wanted
  split at h
  · rename_i hg
    rw [hg]
    exact Option.some.inj h
  · rename_i g want hg
    rw [hg]
    dsimp only
    split at h
    · rename_i hn
      have : yielded ops a.tmps g = none := by unfold yielded; rw [hn]; rfl
      rw [this, ← Option.some.inj h]
      rfl
    · rename_i t ht
      have hv := opd_ok fo (.tmp t)
      rw [← sm g want t hg ht] at hv
      have hy : yielded ops a.tmps g = match a.tmps[t]? with | some (.bool b) => some b | _ => none := by
        unfold yielded
        rw [ht]
        rfl
      rw [hy]
      simp only [Act.eval, Array.getD_eq_getD_getElem?] at hv
      split at h
      · rename_i x hx
        rw [hx] at hv
        simp only [val, Option.some.injEq] at hv
        cases hq : a.tmps[t]? with
        | none => rw [hq] at hv; exact absurd hv (by simp [undef])
        | some v =>
          rw [hq] at hv
          simp only [Option.getD_some] at hv
          subst hv
          rw [← Option.some.inj h]
          cases x <;> cases want <;> rfl
      · cases h
      · rename_i h1 h2
        have nb := not_bool hv h1 h2
        rw [← Option.some.inj h]
        cases hq : a.tmps[t]? with
        | none => rfl
        | some v =>
          rw [hq] at nb
          simp only [Option.getD_some] at nb
          cases v <;> first | rfl | (rename_i b; exact absurd rfl (nb b))

/-! ### the operations one by one -/
noncomputable def putDK (N : Nat) (dst : Option Tmp) (sv : SV) (fr : Tr SV) (k : Tr SV → Bool) : Bool :=
  match dst with
  | none => k fr
  | some d => bif Nat.blt d N then fr.putK d (some sv) k else false
noncomputable def putD (dst : Option Tmp) (sv : SV) (fr : Tr SV) : Tr SV :=
  match dst with
  | none => fr
  | some d => fr.put d (some sv)
def inN (N : Nat) (dst : Option Tmp) : Prop := ∀ d, dst = some d → d < N
theorem putDK_ok {N : Nat} {dst : Option Tmp} {sv : SV} {fr : Tr SV} {k : Tr SV → Bool} (h : putDK N dst sv fr k = true) : k (putD dst sv fr) = true ∧ inN N dst := by
  unfold putDK at h
  split at h
  · exact ⟨h, fun d e => by cases e⟩
  · rename_i d
    obtain ⟨h1, h2⟩ := bif_true h
    rw [Tr.putK_eq] at h2
    refine ⟨h2, fun d' e => ?_⟩
    obtain rfl := Option.some.inj e
    exact Nat.le_of_ble_eq_true h1
theorem FrOk.putD {E : Env} {fr : Tr SV} {N : Nat} {a : Act} (f : FrOk E fr N a) {dst : Option Tmp} {sv : SV} {v : Value} (hd : inN N dst) (hv : val E sv = some v) : FrOk E (putD dst sv fr) N (a.put dst v) := by
  cases dst with
  | none => exact f
  | some d => exact f.put (hd d rfl) hv
noncomputable def asBoolD (s : SV) : Bool → Bool → Bool → Bool :=
  SV.rec (motive_1 := fun _ => Bool → Bool → Bool → Bool) (motive_2 := fun _ => Unit) (fun b x y _ => Bool.rec y x b) (fun _ _ _ _ d => d) (fun _ _ _ d => d) (fun _ _ _ _ d => d) (fun _ _ _ _ _ _ d => d) (fun _ _ _ _ _ _ d => d) (fun _ _ _ _ _ _ d => d) (fun _ _ _ d => d) (fun _ _ _ _ _ _ _ d => d) (fun _ _ _ _ _ d => d) (fun _ _ _ _ d => d) (fun _ _ _ _ d => d) (fun _ _ _ d => d) (fun _ _ _ d => d) (fun _ _ _ _ _ _ d => d) (fun _ _ _ _ _ _ d => d) (fun _ _ _ _ _ d => d) (fun _ _ _ _ d => d) () (fun _ _ _ _ => ()) s
theorem asBoolD_ok {s : SV} {x y d : Bool} (h : asBoolD s x y d = true) : d = true ∨ ∃ b, s = .bool b ∧ (bif b then x else y) = true := by
  cases s <;> first | (rename_i b; exact .inr ⟨b, rfl, by cases b <;> exact h⟩) | exact .inl h
/-- The guard, looked at once. -/
noncomputable def wantC (ops : Array Oper) (o : Oper) : Cl (Tr SV → Bool → Bool → Bool) :=
  match o.guard with
  | none => ⟨fun _ x _ => x⟩
  | some (g, want) => (match (ops[g]?).bind (·.dst) with
    | none => ⟨fun _ _ y => y⟩
    | some t => (opdC (.tmp t)).then fun gt => (match want with
      | true => ⟨fun fr x y => gt fr fun v => asBoolD v x y (match wants ops o fr with | some true => x | some false => y | none => false)⟩
      | false => ⟨fun fr x y => gt fr fun v => asBoolD v y x (match wants ops o fr with | some true => x | some false => y | none => false)⟩))
theorem wantC_ok {ops : Array Oper} {o : Oper} {fr : Tr SV} {x y : Bool} (h : (wantC ops o).f fr x y = true) : ∃ b, wants ops o fr = some b ∧ (bif b then x else y) = true := by
  have gen : (match wants ops o fr with | some true => x | some false => y | none => false) = true → ∃ b, wants ops o fr = some b ∧ (bif b then x else y) = true := by
    intro h
    split at h
    · rename_i e; exact ⟨true, e, h⟩
    · rename_i e; exact ⟨false, e, h⟩
    · cases h
  unfold wantC at h
  split at h
  · rename_i e
    exact ⟨true, by unfold wants; rw [e], h⟩
  · rename_i g want e
    split at h
    · rename_i e2
      exact ⟨false, by unfold wants; rw [e]; simp only; rw [e2], h⟩
    · rename_i t e2
      rw [Cl.then_eq] at h
      cases want with
      | true =>
        simp only [opdC_at] at h
        rcases asBoolD_ok h with h | ⟨b, e3, h⟩
        · exact gen h
        · refine ⟨b, ?_, h⟩
          unfold wants
          rw [e]
          simp only
          rw [e2]
          simp only [e3]
          cases b <;> rfl
      | false =>
        simp only [opdC_at] at h
        rcases asBoolD_ok h with h | ⟨b, e3, h⟩
        · exact gen h
        · refine ⟨!b, ?_, by cases b <;> exact h⟩
          unfold wants
          rw [e]
          simp only
          rw [e2]
          simp only [e3]
          cases b <;> rfl
noncomputable def dstC (N : Nat) (dst : Option Tmp) : Cl (SV → Tr SV → (Tr SV → Bool) → Bool) :=
  match dst with
  | none => ⟨fun _ fr k => k fr⟩
  | some d => bif Nat.blt d N then paC d fun p => ⟨fun sv fr k => putP fr p sv k⟩ else ⟨fun _ _ _ => false⟩
theorem dstC_eq (N : Nat) (dst : Option Tmp) (sv : SV) (fr : Tr SV) (k : Tr SV → Bool) : (dstC N dst).f sv fr k = putDK N dst sv fr k := by
  unfold dstC putDK
  cases dst with
  | none => rfl
  | some d =>
    simp only
    cases Nat.blt d N with
    | false => rfl
    | true =>
      simp only [cond_true, paC_eq]
      exact putP_eq fr d sv k
noncomputable def opsC (P : Program) (N : Nat) (ops : Array Oper) (l : List Oper) : Cl (CallK → Tr SV → HS → (Tr SV → HS → Bool) → Bool) :=
  List.rec ⟨fun _ fr h k => k fr h⟩ (fun o _ ih => (compOp P o).then fun g => (dstC N o.dst).then fun pd => (match o.guard with
    | none => ⟨fun call fr h k => g call fr h fun sv h' => pd sv fr fun fr' => ih.f call fr' h' k⟩
    | some _ => (wantC ops o).then fun wc => ⟨fun call fr h k => wc fr (g call fr h fun sv h' => pd sv fr fun fr' => ih.f call fr' h' k) (pd (.lit undef) fr fun fr' => ih.f call fr' h k)⟩)) l
theorem opsC_step {P : Program} {N : Nat} {ops : Array Oper} {o : Oper} {l : List Oper} {call : CallK} {fr : Tr SV} {h : HS} {k : Tr SV → HS → Bool} (hk : (opsC P N ops (o :: l)).f call fr h k = true) :
    (wants ops o fr = some true ∧ opK P call o fr h (fun sv h' => putDK N o.dst sv fr fun fr' => (opsC P N ops l).f call fr' h' k) = true) ∨ (wants ops o fr = some false ∧ putDK N o.dst (.lit undef) fr (fun fr' => (opsC P N ops l).f call fr' h k) = true) := by
  change ((compOp P o).then fun g => (dstC N o.dst).then fun pd => (match o.guard with
    | none => (⟨fun call fr h k => g call fr h fun sv h' => pd sv fr fun fr' => (opsC P N ops l).f call fr' h' k⟩ : Cl (CallK → Tr SV → HS → (Tr SV → HS → Bool) → Bool))
    | some _ => (wantC ops o).then fun wc => ⟨fun call fr h k => wc fr (g call fr h fun sv h' => pd sv fr fun fr' => (opsC P N ops l).f call fr' h' k) (pd (.lit undef) fr fun fr' => (opsC P N ops l).f call fr' h k)⟩)).f call fr h k = true at hk
  rw [Cl.then_eq, Cl.then_eq] at hk
  cases hg : o.guard with
  | none =>
    rw [hg] at hk
    simp only [dstC_eq] at hk
    exact .inl ⟨by unfold wants; rw [hg], compOp_ok hk⟩
  | some x =>
    rw [hg] at hk
    simp only [Cl.then_eq, dstC_eq] at hk
    obtain ⟨b, e, hb⟩ := wantC_ok hk
    cases b with
    | true => exact .inl ⟨e, compOp_ok hb⟩
    | false => exact .inr ⟨e, hb⟩
/-- From every frame and world that are so, the walk comes to what is given. -/
def OpsOk (P : Program) (W0 : World) (N : Nat) (ops : Array Oper) (l : List Oper) (fr : Tr SV) (h : HS) (fr' : Tr SV) (h' : HS) : Prop :=
  ∀ ro E a w, Rel W0 E h.hp.get w → Free E h.nx h'.nx h.ne h'.ne → FrOk E fr N a → ∀ Q : Exit → Act → World → Prop,
    (∀ E' a' w', Rel W0 E' h'.hp.get w' → Step h.bar h.hp.get h.nx h'.nx h.ne h'.ne E E' w w' → FrOk E' fr' N a' → Q .normal a' w') → wpListIn (Fw ro) 0 P ops Q l a w
theorem opsC_ok {call : CallK} (hc : CallSound P W0 call) {N : Nat} {ops : Array Oper} (l : List Oper) : ∀ (fr : Tr SV) (h : HS) (k : Tr SV → HS → Bool), (opsC P N ops l).f call fr h k = true →
    ∃ fr' h', k fr' h' = true ∧ Goes h h' ∧ OpsOk P W0 N ops l fr h fr' h' := by
  induction l with
  | nil =>
    intro fr h k hk
    exact ⟨fr, h, hk, Goes.refl h, fun ro E a w r _ fo Q hQ => hQ E a w r (Step.refl _ _ _ _ _ _) fo⟩
  | cons o l ih =>
    intro fr h k hk
    rcases opsC_step hk with ⟨hw, hk⟩ | ⟨hw, hk⟩
    · obtain ⟨sv, h1, hk, g1, o1⟩ := opK_ok hc hk
      obtain ⟨hk, hN⟩ := putDK_ok hk
      obtain ⟨fr', h', k1, g2, o2⟩ := ih _ _ _ hk
      refine ⟨fr', h', k1, g1.trans g2, fun ro E a w r fe fo Q hQ => ?_⟩
      simp only [wpListIn]
      rw [wants_ok hw (fun _ _ _ _ _ => rfl) fo, if_pos rfl]
      refine (o1 ro fr E N a w (fun _ _ => rfl) r (fe.left g2.nx g2.ne) fo _ Q fun E' v w' e1 r' st => ?_)
      refine o2 ro E' _ w' r' (fe.right st g1.nx g1.ne) ((fo.le st.le).putD hN e1) Q fun E2 a2 w2 r2 st2 fo2 => hQ E2 a2 w2 r2 (Step.trans g1 g2 st st2) fo2
    · obtain ⟨hk, hN⟩ := putDK_ok hk
      obtain ⟨fr', h', k1, g2, o2⟩ := ih _ _ _ hk
      refine ⟨fr', h', k1, g2, fun ro E a w r fe fo Q hQ => ?_⟩
      simp only [wpListIn]
      rw [wants_ok hw (fun _ _ _ _ _ => rfl) fo, if_neg (by simp)]
      exact ⟨fun _ _ => trivial, o2 ro E _ w r fe (fo.putD hN rfl) Q hQ⟩
end Go.Proofs.YtgoccionghehoaaGreatDoor.Ev
namespace Go.Proofs.YtgoccionghehoaaGreatDoor.Ev
open Go
variable [GTab] {P : Program} {W0 : World} [GOk W0]

structure FS where
  fr : Tr SV
  st : List SV
noncomputable def idx (env : List Nat) (t : Nat) : Option Nat := List.rec none (fun a _ ih => bif Nat.beq a t then some 0 else ih.map Nat.succ) env
theorem idx_cons (a : Nat) (env : List Nat) (t : Nat) : idx (a :: env) t = bif Nat.beq a t then some 0 else (idx env t).map Nat.succ := rfl
noncomputable def atC (i : Nat) : Cl (List SV → (SV → Bool) → Bool) := Nat.rec ⟨fun st k => List.rec false (fun a _ _ => k a) st⟩ (fun _ ih => ih.then fun g => ⟨fun st k => List.rec false (fun _ r _ => g r k) st⟩) i
noncomputable def nthS (st : List SV) : Nat → (SV → Bool) → Bool := List.rec (fun _ _ => false) (fun a _ ih i k => Nat.rec (k a) (fun j _ => ih j k) i) st
theorem nthS_eq (st : List SV) : ∀ (i : Nat) (k : SV → Bool), nthS st i k = match st[i]? with | some v => k v | none => false := by
  induction st with
  | nil => intro i k; rfl
  | cons a r ih =>
    intro i k
    cases i with
    | zero => rfl
    | succ j =>
      show nthS r j k = _
      rw [ih]
      simp
theorem atC_eq (i : Nat) : ∀ (st : List SV) (k : SV → Bool), (atC i).f st k = nthS st i k := by
  induction i with
  | zero => intro st k; cases st <;> rfl
  | succ j ih =>
    intro st k
    show ((atC j).then fun g => (⟨fun st k => List.rec false (fun _ r _ => g r k) st⟩ : Cl (List SV → (SV → Bool) → Bool))).f st k = _
    rw [Cl.then_eq]
    cases st with
    | nil => rfl
    | cons a r => exact ih r k
abbrev Al := List (Nat × Operand)
/-- What the slot is another name of. -/
noncomputable def alias (al : Al) (t : Nat) : Option Operand := List.rec none (fun a _ ih => bif Nat.beq a.1 t then some a.2 else ih) al
theorem alias_cons (a : Nat × Operand) (al : Al) (t : Nat) : alias (a :: al) t = bif Nat.beq a.1 t then some a.2 else alias al t := rfl
noncomputable def isTmp (x : Operand) (d : Nat) : Bool := match x with
  | .tmp u => Nat.beq u d
  | _ => false
noncomputable def dropA (d : Nat) (al : Al) : Al := List.rec [] (fun a _ ih => bif Nat.beq a.1 d then ih else bif isTmp a.2 d then ih else a :: ih) al
/-- Is the operand at hand? -/
noncomputable def resolved (K : Nat) (env : List Nat) (al : Al) (x : Operand) : Bool :=
  match x with
  | .tmp t => (match alias al t with
    | some _ => true
    | none => (match idx env t with | some _ => true | none => Nat.testBit K t))
  | _ => true
noncomputable def allRes (K : Nat) (env : List Nat) (al : Al) (l : List Operand) : Bool := List.rec true (fun x _ ih => bif resolved K env al x then ih else false) l
noncomputable def opS (env : List Nat) (al : Al) (x : Operand) : Cl (FS → (SV → Bool) → Bool) :=
  match x with
  | .tmp t => (match alias al t with
    | some y => (opdC y).then fun g => ⟨fun s k => FS.rec (fun fr _ => g fr k) s⟩
    | none => (match idx env t with
      | some i => (atC i).then fun g => ⟨fun s k => FS.rec (fun _ st => g st k) s⟩
      | none => paC t fun p => ⟨fun s k => FS.rec (fun fr _ => getP fr p k) s⟩))
  | x => (opdC x).then fun g => ⟨fun _ k => g .e k⟩
/-- Frame, stack and second names say together what the full frame says. -/
structure StOk (K : Nat) (env : List Nat) (al : Al) (s : FS) (frT : Tr SV) : Prop where
  fr : ∀ t, Nat.testBit K t = true → opd s.fr (.tmp t) = opd frT (.tmp t)
  st : ∀ t i, idx env t = some i → s.st[i]? = some (opd frT (.tmp t))
  al : ∀ t x, (t, x) ∈ al → opd frT (.tmp t) = opd frT x ∧ ∀ u, x = .tmp u → Nat.testBit K u = true
theorem alias_mem {al : Al} {t : Nat} {x : Operand} (h : alias al t = some x) : (t, x) ∈ al := by
  induction al with
  | nil => cases h
  | cons a r ih =>
    rw [alias_cons, Tr.bif_beq] at h
    split at h
    · rename_i e
      obtain rfl := Option.some.inj h
      rw [← e]
      exact List.mem_cons_self
    · exact List.mem_cons_of_mem _ (ih h)
theorem opd_con {fr fr' : Tr SV} {x : Operand} (h : ∀ t, x ≠ .tmp t) : opd fr x = opd fr' x := by
  cases x with
  | tmp t => exact absurd rfl (h t)
  | const v => cases v <;> rfl
  | global g => rfl
  | func f => rfl
theorem opS_at {K : Nat} {env : List Nat} {al : Al} {s : FS} {frT : Tr SV} (h : StOk K env al s frT) {x : Operand} (hr : resolved K env al x = true) (k : SV → Bool) : (opS env al x).f s k = k (opd frT x) := by
  unfold opS
  split
  · rename_i t
    cases ha : alias al t with
    | some y =>
      simp only [Cl.then_eq]
      show (opdC y).f s.fr k = _
      obtain ⟨h1, h2⟩ := h.al t y (alias_mem ha)
      rw [opdC_at, h1]
      congr 1
      by_cases hy : ∃ u, y = .tmp u
      · obtain ⟨u, rfl⟩ := hy
        exact h.fr u (h2 u rfl)
      · exact opd_con fun t e => hy ⟨t, e⟩
    | none =>
    cases hi : idx env t with
    | some i =>
      simp only [Cl.then_eq]
      show (atC i).f s.st k = _
      rw [atC_eq, nthS_eq, h.st t i hi]
    | none =>
      simp only [paC_eq]
      show getP s.fr (pa t) k = _
      rw [getP_eq, opdK_eq]
      simp only [resolved, ha, hi] at hr
      rw [h.fr t hr]
  · rename_i hn
    rw [Cl.then_eq]
    show (opdC x).f .e k = _
    rw [opdC_at, opd_con (fr' := frT) fun t e => hn t e]
theorem allRes_ok {K : Nat} {env : List Nat} {al : Al} {l : List Operand} (h : allRes K env al l = true) : ∀ x ∈ l, resolved K env al x = true := by
  induction l with
  | nil => intro x hx; cases hx
  | cons y r ih =>
    obtain ⟨h1, h2⟩ := bif_true (show (bif resolved K env al y then allRes K env al r else false) = true from h)
    intro x hx
    rcases List.mem_cons.1 hx with e | e
    · rw [e]; exact h1
    · exact ih h2 x e
/-- The operands laid into the frame, for what looks at a frame. -/
noncomputable def matC (env : List Nat) (al : Al) (l : List Operand) : Cl (FS → Tr SV → (Tr SV → Bool) → Bool) :=
  List.rec ⟨fun _ fr k => k fr⟩ (fun x _ ih => match x with
    | .tmp t => (match alias al t, idx env t with
      | none, none => ih
      | _, _ => (opS env al (.tmp t)).then fun g => paC t fun p => ih.then fun r => ⟨fun s fr k => g s fun v => putP fr p v fun fr' => r s fr' k⟩)
    | _ => ih) l
theorem matC_ok {K : Nat} {env : List Nat} {al : Al} {s : FS} {frT : Tr SV} (h : StOk K env al s frT) (l : List Operand) : ∀ (fr : Tr SV) (k : Tr SV → Bool), (∀ x ∈ l, resolved K env al x = true) → (∀ t, Nat.testBit K t = true → opd fr (.tmp t) = opd frT (.tmp t)) → (matC env al l).f s fr k = true →
    ∃ fr', k fr' = true ∧ (∀ t, opd fr (.tmp t) = opd frT (.tmp t) → opd fr' (.tmp t) = opd frT (.tmp t)) ∧ ∀ t, Operand.tmp t ∈ l → opd fr' (.tmp t) = opd frT (.tmp t) := by
  induction l with
  | nil => intro fr k _ _ hk; exact ⟨fr, hk, fun _ e => e, fun t ht => by cases ht⟩
  | cons x r ih =>
    intro fr k hr hK hk
    have hr' : ∀ y ∈ r, resolved K env al y = true := fun y hy => hr y (List.mem_cons_of_mem _ hy)
    have skip : (matC env al r).f s fr k = true → (∀ t, x = .tmp t → opd fr (.tmp t) = opd frT (.tmp t)) → ∃ fr', k fr' = true ∧ (∀ t, opd fr (.tmp t) = opd frT (.tmp t) → opd fr' (.tmp t) = opd frT (.tmp t)) ∧ ∀ t, Operand.tmp t ∈ x :: r → opd fr' (.tmp t) = opd frT (.tmp t) := fun hk hx => by
      obtain ⟨fr', k1, k2, k3⟩ := ih fr k hr' hK hk
      refine ⟨fr', k1, k2, fun t ht => ?_⟩
      rcases List.mem_cons.1 ht with e | e
      · exact k2 t (hx t e.symm)
      · exact k3 t e
    cases x with
    | tmp t =>
      have res := hr _ List.mem_cons_self
      have main : ((opS env al (.tmp t)).then fun g => paC t fun p => (matC env al r).then fun r => (⟨fun s fr k => g s fun v => putP fr p v fun fr' => r s fr' k⟩ : Cl (FS → Tr SV → (Tr SV → Bool) → Bool))).f s fr k = true → ∃ fr', k fr' = true ∧ (∀ t, opd fr (.tmp t) = opd frT (.tmp t) → opd fr' (.tmp t) = opd frT (.tmp t)) ∧ ∀ t', Operand.tmp t' ∈ Operand.tmp t :: r → opd fr' (.tmp t') = opd frT (.tmp t') := fun hk2 => by
        simp only [paC_eq, Cl.then_eq, opS_at h res, putP_eq, Tr.putK_eq] at hk2
        have hp : ∀ t', opd (fr.put t (some (opd frT (.tmp t)))) (.tmp t') = if t' = t then opd frT (.tmp t) else opd fr (.tmp t') := fun t' => by
          simp only [opd]
          rw [Tr.get_put]
          split <;> rfl
        obtain ⟨fr', k1, k2, k3⟩ := ih _ k hr' (fun t' ht' => by
          rw [hp]
          split
          · rename_i e; rw [e]
          · exact hK t' ht') hk2
        refine ⟨fr', k1, fun t' e => k2 t' ?_, fun t' ht' => ?_⟩
        · rw [hp]
          split
          · rename_i e; rw [e]
          · exact e
        · rcases List.mem_cons.1 ht' with e | e
          · cases e
            refine k2 t ?_
            rw [hp, if_pos rfl]
          · exact k3 t' e
      have hk2 : (match alias al t, idx env t with
        | none, none => matC env al r
        | _, _ => (opS env al (.tmp t)).then fun g => paC t fun p => (matC env al r).then fun r => (⟨fun s fr k => g s fun v => putP fr p v fun fr' => r s fr' k⟩ : Cl (FS → Tr SV → (Tr SV → Bool) → Bool))).f s fr k = true := hk
      cases ha : alias al t with
      | some y => rw [ha] at hk2; exact main hk2
      | none =>
        cases hi : idx env t with
        | some i => rw [ha, hi] at hk2; exact main hk2
        | none =>
          rw [ha, hi] at hk2
          refine skip hk2 fun t' e => ?_
          cases e
          simp only [resolved, ha, hi] at res
          exact hK t res
    | const v => exact skip hk fun t e => by cases e
    | global g => exact skip hk fun t e => by cases e
    | func f => exact skip hk fun t e => by cases e
noncomputable def genS (P : Program) (env : List Nat) (al : Al) (o : Oper) : Cl (OpG FS) := (matC env al o.op.operands.toList).then fun m => ⟨fun call s h k => FS.rec (fun fr st => m ⟨fr, st⟩ fr fun fr' => opK P call o fr' h fun sv h' => normH h' fun h' => k sv h') s⟩
/-- One operation over frame and stack. -/
noncomputable def compS (P : Program) (K : Nat) (env : List Nat) (al : Al) (o : Oper) : Cl (OpG FS) :=
  bif allRes K env al o.op.operands.toList then compG (opS env al) (genS P env al o) P o else ⟨fun _ _ _ _ => false⟩
theorem compS_ok {K : Nat} {env : List Nat} {al : Al} {o : Oper} {call : CallK} {s : FS} {frT : Tr SV} {h : HS} {k : SV → HS → Bool} (hs : StOk K env al s frT) (hk : (compS P K env al o).f call s h k = true) :
    ∃ fr', Same fr' frT o.op.operands ∧ opK P call o fr' h k = true := by
  unfold compS at hk
  cases hr : allRes K env al o.op.operands.toList with
  | false => rw [hr] at hk; cases hk
  | true =>
    rw [hr, cond_true] at hk
    have res := allRes_ok hr
    rcases compG_ok (fr := frT) (fun x hx k => opS_at hs (res x hx) k) hk with hk | hk
    · exact ⟨frT, fun _ _ => rfl, hk⟩
    · unfold genS at hk
      rw [Cl.then_eq] at hk
      have hk2 : (matC env al o.op.operands.toList).f s s.fr (fun fr' => opK P call o fr' h fun sv h' => normH h' fun h' => k sv h') = true := hk
      simp only [normH_eq] at hk2
      obtain ⟨fr', k1, _, k3⟩ := matC_ok hs o.op.operands.toList s.fr _ res hs.fr hk2
      refine ⟨fr', fun x hx => ?_, k1⟩
      cases x with
      | tmp t => exact k3 t (by simpa using hx)
      | const v => cases v <;> rfl
      | global g => rfl
      | func f => rfl
/-- The guard over frame and stack. -/
noncomputable def wantS (K : Nat) (env : List Nat) (al : Al) (ops : Array Oper) (o : Oper) : Cl (FS → Bool → Bool → Bool) :=
  match o.guard with
  | none => ⟨fun _ x _ => x⟩
  | some (g, want) => (match (ops[g]?).bind (·.dst) with
    | none => ⟨fun _ _ y => y⟩
    | some t => bif resolved K env al (.tmp t) then (opS env al (.tmp t)).then fun gt => (match want with
      | true => ⟨fun s x y => gt s fun v => asBoolD v x y (asOther v y)⟩
      | false => ⟨fun s x y => gt s fun v => asBoolD v y x (asOther v y)⟩) else ⟨fun _ _ _ => false⟩)
where
  asOther (v : SV) (y : Bool) : Bool := match v with
    | .lit (.bool _) => false
    | .bool _ => false
    | _ => y
theorem wantS_ok {K : Nat} {env : List Nat} {al : Al} {ops : Array Oper} {o : Oper} {s : FS} {frT : Tr SV} (hs : StOk K env al s frT) {x y : Bool} (h : (wantS K env al ops o).f s x y = true) : ∃ b, wants ops o frT = some b ∧ (bif b then x else y) = true := by
  unfold wantS at h
  split at h
  · rename_i e
    exact ⟨true, by unfold wants; rw [e], h⟩
  · rename_i g want e
    split at h
    · rename_i e2
      exact ⟨false, by unfold wants; rw [e]; simp only; rw [e2], h⟩
    · rename_i t e2
      cases hr : resolved K env al (.tmp t) with
      | false => rw [hr] at h; cases h
      | true =>
      rw [hr, cond_true, Cl.then_eq] at h
      have other : wantS.asOther (opd frT (.tmp t)) y = true → ∃ b, wants ops o frT = some b ∧ (bif b then x else y) = true := fun q => by
        refine ⟨false, ?_, ?_⟩
        · unfold wants
          rw [e]
          simp only
          rw [e2]
          simp only
          unfold wantS.asOther at q
          split at q
          · cases q
          · cases q
          · rename_i n1 n2
            split
            · rename_i b eb; exact absurd eb (n2 b)
            · rename_i b eb; exact absurd eb (n1 b)
            · rfl
        · unfold wantS.asOther at q
          split at q
          · cases q
          · cases q
          · exact q
      cases want with
      | true =>
        simp only [opS_at hs hr] at h
        rcases asBoolD_ok h with h | ⟨b, e3, h⟩
        · exact other h
        · refine ⟨b, ?_, h⟩
          unfold wants
          rw [e]
          simp only
          rw [e2]
          simp only [e3]
          cases b <;> rfl
      | false =>
        simp only [opS_at hs hr] at h
        rcases asBoolD_ok h with h | ⟨b, e3, h⟩
        · exact other h
        · refine ⟨!b, ?_, by cases b <;> exact h⟩
          unfold wants
          rw [e]
          simp only
          rw [e2]
          simp only [e3]
          cases b <;> rfl

/-! ### a row of operations -/
noncomputable def pushC (N K : Nat) (again : Bool) (dst : Option Tmp) : Cl (FS → SV → (FS → Bool) → Bool) :=
  match dst with
  | none => ⟨fun s _ k => k s⟩
  | some d => bif Nat.blt d N then (bif Nat.testBit K d then paC d fun p => (match again with
      | true => ⟨fun s v k => FS.rec (fun fr st => putP fr p v fun fr' => k ⟨fr', v :: st⟩) s⟩
      | false => ⟨fun s v k => FS.rec (fun fr st => putP fr p v fun fr' => k ⟨fr', st⟩) s⟩) else (match again with
      | true => ⟨fun s v k => FS.rec (fun fr st => k ⟨fr, v :: st⟩) s⟩
      | false => ⟨fun s _ k => k s⟩)) else ⟨fun _ _ _ => false⟩
noncomputable def envOf (again : Bool) (dst : Option Tmp) (env : List Nat) : List Nat := match dst with
  | none => env
  | some d => bif again then d :: env else env
/-- It is read again in the row, or an elder value of it lies on the stack. -/
noncomputable def againB (m : Nat) (env : List Nat) (dst : Option Tmp) : Bool := match dst with
  | none => false
  | some d => bif Nat.testBit m d then true else (idx env d).isSome
/-- The second names that are left behind a write. -/
noncomputable def alOf (dst : Option Tmp) (al : Al) : Al := match dst with
  | none => al
  | some d => dropA d al
theorem mem_dropA {d : Nat} {al : Al} {t : Nat} {x : Operand} (h : (t, x) ∈ dropA d al) : t ≠ d ∧ x ≠ .tmp d ∧ (t, x) ∈ al := by
  induction al with
  | nil => cases h
  | cons a r ih =>
    have e : dropA d (a :: r) = bif Nat.beq a.1 d then dropA d r else bif isTmp a.2 d then dropA d r else a :: dropA d r := rfl
    rw [e] at h
    have up : (t ≠ d ∧ x ≠ .tmp d ∧ (t, x) ∈ r) → (t ≠ d ∧ x ≠ .tmp d ∧ (t, x) ∈ a :: r) := fun ⟨p, q, m⟩ => ⟨p, q, List.mem_cons_of_mem _ m⟩
    cases h1 : Nat.beq a.1 d with
    | true => rw [h1] at h; exact up (ih h)
    | false =>
      rw [h1, cond_false] at h
      cases h2 : isTmp a.2 d with
      | true => rw [h2] at h; exact up (ih h)
      | false =>
        rw [h2, cond_false] at h
        rcases List.mem_cons.1 h with q | q
        · subst q
          refine ⟨fun q => ?_, fun q => ?_, List.mem_cons_self⟩
          · have q : t = d := q
            rw [q] at h1
            simp at h1
          · have q : x = .tmp d := q
            rw [q] at h2
            simp [isTmp] at h2
        · exact up (ih q)
theorem opd_put {fr : Tr SV} {d t : Nat} {v : SV} : opd (fr.put d (some v)) (.tmp t) = if t = d then v else opd fr (.tmp t) := by
  simp only [opd]
  rw [Tr.get_put]
  split <;> rfl
theorem pushC_ok {N K : Nat} {again : Bool} {dst : Option Tmp} {env : List Nat} {al : Al} {s : FS} {frT : Tr SV} {v : SV} {k : FS → Bool} (hs : StOk K env al s frT) (ha : ∀ d, dst = some d → again = false → idx env d = none) (h : (pushC N K again dst).f s v k = true) : inN N dst ∧ ∃ s', k s' = true ∧ StOk K (envOf again dst env) (alOf dst al) s' (putD dst v frT) := by
  unfold pushC at h
  cases dst with
  | none => exact ⟨fun d e => (by cases e), s, h, hs⟩
  | some d =>
    simp only at h
    cases hd : Nat.blt d N with
    | false => rw [hd] at h; cases h
    | true =>
      rw [hd, cond_true] at h
      have alD : ∀ t x, (t, x) ∈ dropA d al → opd (frT.put d (some v)) (.tmp t) = opd (frT.put d (some v)) x ∧ ∀ u, x = .tmp u → Nat.testBit K u = true := fun t x hm => by
        obtain ⟨q1, q2, q3⟩ := mem_dropA hm
        obtain ⟨z1, z2⟩ := hs.al t x q3
        refine ⟨?_, z2⟩
        rw [opd_put, if_neg q1, z1]
        by_cases hx : ∃ u, x = .tmp u
        · obtain ⟨u, rfl⟩ := hx
          rw [opd_put, if_neg (fun e => q2 (by rw [e]))]
        · exact opd_con fun t e => hx ⟨t, e⟩
      have st : ∀ fr', (∀ t, Nat.testBit K t = true → opd fr' (.tmp t) = opd (frT.put d (some v)) (.tmp t)) → StOk K (d :: env) (dropA d al) ⟨fr', v :: s.st⟩ (frT.put d (some v)) := fun fr' hf => ⟨hf, fun t i hi => by
        rw [idx_cons, Tr.bif_beq] at hi
        rw [opd_put]
        split at hi
        · rename_i e
          obtain rfl := Option.some.inj hi
          rw [if_pos e.symm]
          rfl
        · rename_i e
          rw [if_neg (fun q => e q.symm)]
          simp only [Option.map_eq_some_iff] at hi
          obtain ⟨j, hj, rfl⟩ := hi
          have := hs.st t j hj
          simpa using this, alD⟩
      have st2 : ∀ fr', idx env d = none → (∀ t, Nat.testBit K t = true → opd fr' (.tmp t) = opd (frT.put d (some v)) (.tmp t)) → StOk K env (dropA d al) ⟨fr', s.st⟩ (frT.put d (some v)) := fun fr' hn hf => ⟨hf, fun t i hi => by
        rw [opd_put]
        split
        · rename_i e; subst e; rw [hn] at hi; cases hi
        · exact hs.st t i hi, alD⟩
      refine ⟨fun d' e => by obtain rfl := Option.some.inj e; exact Nat.le_of_ble_eq_true hd, ?_⟩
      have put : ∀ t, Nat.testBit K t = true → opd (s.fr.put d (some v)) (.tmp t) = opd (frT.put d (some v)) (.tmp t) := fun t ht => by
        rw [opd_put, opd_put]
        split
        · rfl
        · exact hs.fr t ht
      cases hK : Nat.testBit K d with
      | true =>
        rw [hK, cond_true, paC_eq] at h
        cases again with
        | true =>
          have h2 : putP s.fr (pa d) v (fun fr' => k ⟨fr', v :: s.st⟩) = true := h
          rw [putP_eq, Tr.putK_eq] at h2
          exact ⟨_, h2, st _ put⟩
        | false =>
          have h2 : putP s.fr (pa d) v (fun fr' => k ⟨fr', s.st⟩) = true := h
          rw [putP_eq, Tr.putK_eq] at h2
          exact ⟨_, h2, st2 _ (ha d rfl rfl) put⟩
      | false =>
        have no : ∀ t, Nat.testBit K t = true → opd s.fr (.tmp t) = opd (frT.put d (some v)) (.tmp t) := fun t ht => by
          rw [opd_put]
          split
          · rename_i e; subst e; rw [hK] at ht; cases ht
          · exact hs.fr t ht
        rw [hK, cond_false] at h
        cases again with
        | true => exact ⟨_, h, st _ no⟩
        | false => exact ⟨s, h, st2 _ (ha d rfl rfl) no⟩
theorem againB_no {m : Nat} {env : List Nat} {dst : Option Tmp} : ∀ d, dst = some d → againB m env dst = false → idx env d = none := by
  intro d e h
  subst e
  simp only [againB] at h
  cases hm : Nat.testBit m d with
  | true => rw [hm] at h; cases h
  | false =>
    rw [hm, cond_false] at h
    cases hi : idx env d with
    | none => rfl
    | some i => rw [hi] at h; cases h
noncomputable def rdMask (l : List Operand) : Nat := List.rec 0 (fun x _ ih => match x with
  | .tmp t => Nat.lor (Nat.shiftLeft 1 t) ih
  | _ => ih) l
/-- What a drawing region, or the rest of a row, looks at. -/
noncomputable def drMask (ops : Array Oper) (l : List Oper) : Nat := List.rec 0 (fun o _ ih => Nat.lor (rdMask o.op.operands.toList) (Nat.lor (match o.guard with
  | some (g, _) => (match (ops[g]?).bind (·.dst) with
    | some t => Nat.shiftLeft 1 t
    | none => 0)
  | none => 0) ih)) l
/-- The slots that a row writes. -/
noncomputable def wrMask (l : List Oper) : Nat := List.rec 0 (fun o _ ih => match o.dst with
  | some t => Nat.lor (Nat.shiftLeft 1 t) ih
  | none => ih) l
/-- A move that may stand as a second name. -/
noncomputable def nameOf (N K wr : Nat) (env : List Nat) (al : Al) (o : Oper) : Option (Nat × Operand) :=
  match o.guard, o.dst, o.op with
  | none, some d, .move x => bif Nat.blt d N then (bif Nat.testBit K d then none else (match idx env d with
    | some _ => none
    | none => (match x with
      | .tmp u => (match alias al u with
        | some y => bif isTmp y d then none else some (d, y)
        | none => (match idx env u with
          | some _ => none
          | none => bif Nat.testBit K u then (bif Nat.testBit wr u then none else bif Nat.beq u d then none else some (d, .tmp u)) else none))
      | x => some (d, x)))) else none
  | _, _, _ => none
noncomputable def opsS (P : Program) (N K : Nat) (ops : Array Oper) (l : List Oper) : List Nat → Al → Cl (CallK → FS → HS → (Tr SV → HS → Bool) → Bool) :=
  List.rec (fun _ _ => ⟨fun _ s h k => FS.rec (fun fr _ => k fr h) s⟩) (fun o l ih env al => match nameOf N K (wrMask l) env al o with
    | some (d, y) => ih env ((d, y) :: dropA d al)
    | none => (compS P K env al o).then fun g => (pushC N K (againB (drMask ops l) env o.dst) o.dst).then fun pd => (match o.guard with
      | none => ⟨fun call s h k => g call s h fun v h' => pd s v fun s' => (ih (envOf (againB (drMask ops l) env o.dst) o.dst env) (alOf o.dst al)).f call s' h' k⟩
      | some _ => (wantS K env al ops o).then fun wc => ⟨fun call s h k => wc s (g call s h fun v h' => pd s v fun s' => (ih (envOf (againB (drMask ops l) env o.dst) o.dst env) (alOf o.dst al)).f call s' h' k) (pd s (.lit undef) fun s' => (ih (envOf (againB (drMask ops l) env o.dst) o.dst env) (alOf o.dst al)).f call s' h k)⟩)) l
theorem opsS_cons {P : Program} {N K : Nat} {ops : Array Oper} {o : Oper} {l : List Oper} {env : List Nat} {al : Al} : opsS P N K ops (o :: l) env al = (match nameOf N K (wrMask l) env al o with
    | some (d, y) => opsS P N K ops l env ((d, y) :: dropA d al)
    | none => (compS P K env al o).then fun g => (pushC N K (againB (drMask ops l) env o.dst) o.dst).then fun pd => (match o.guard with
      | none => ⟨fun call s h k => g call s h fun v h' => pd s v fun s' => (opsS P N K ops l (envOf (againB (drMask ops l) env o.dst) o.dst env) (alOf o.dst al)).f call s' h' k⟩
      | some _ => (wantS K env al ops o).then fun wc => ⟨fun call s h k => wc s (g call s h fun v h' => pd s v fun s' => (opsS P N K ops l (envOf (againB (drMask ops l) env o.dst) o.dst env) (alOf o.dst al)).f call s' h' k) (pd s (.lit undef) fun s' => (opsS P N K ops l (envOf (againB (drMask ops l) env o.dst) o.dst env) (alOf o.dst al)).f call s' h k)⟩)) := rfl
theorem nameOf_ok {N K wr : Nat} {env : List Nat} {al : Al} {o : Oper} {d : Nat} {y : Operand} {s : FS} {frT : Tr SV} (hs : StOk K env al s frT) (h : nameOf N K wr env al o = some (d, y)) :
    o.guard = none ∧ o.dst = some d ∧ d < N ∧ ∃ x, o.op = .move x ∧ StOk K env ((d, y) :: dropA d al) s (frT.put d (some (opd frT x))) := by
  unfold nameOf at h
  split at h
  case h_2 => cases h
  rename_i d0 x hg hd ho
  cases hN : Nat.blt d0 N with
  | false => rw [hN] at h; cases h
  | true =>
  rw [hN, cond_true] at h
  cases hK : Nat.testBit K d0 with
  | true => rw [hK] at h; cases h
  | false =>
  rw [hK, cond_false] at h
  split at h
  case h_1 => cases h
  rename_i hi
  have fin : ∀ y, (opd frT x = opd frT y) → (∀ u, y = .tmp u → Nat.testBit K u = true) → y ≠ .tmp d0 → StOk K env ((d0, y) :: dropA d0 al) s (frT.put d0 (some (opd frT x))) := fun y hy hu hne => by
    have same : ∀ z : Operand, z ≠ .tmp d0 → opd (frT.put d0 (some (opd frT x))) z = opd frT z := fun z hz => by
      by_cases hx : ∃ u, z = .tmp u
      · obtain ⟨u, rfl⟩ := hx
        rw [opd_put, if_neg (fun e => hz (by rw [e]))]
      · exact opd_con fun t e => hx ⟨t, e⟩
    refine ⟨fun t ht => ?_, fun t i hti => ?_, fun t z hm => ?_⟩
    · rw [opd_put]
      split
      · rename_i e; subst e; rw [hK] at ht; cases ht
      · exact hs.fr t ht
    · rw [opd_put]
      split
      · rename_i e; subst e; rw [hi] at hti; cases hti
      · exact hs.st t i hti
    · rcases List.mem_cons.1 hm with q | q
      · simp only [Prod.mk.injEq] at q
        obtain ⟨rfl, rfl⟩ := q
        rw [opd_put, if_pos rfl, same z hne]
        exact ⟨hy, hu⟩
      · obtain ⟨q1, q2, q3⟩ := mem_dropA q
        obtain ⟨z1, z2⟩ := hs.al t z q3
        rw [opd_put, if_neg q1, same z q2]
        exact ⟨z1, z2⟩
  have hlt : d0 < N := Nat.le_of_ble_eq_true hN
  split at h
  · rename_i u
    split at h
    · rename_i y0 ha
      obtain ⟨z1, z2⟩ := hs.al u y0 (alias_mem ha)
      cases ht : isTmp y0 d0 with
      | true => rw [ht] at h; cases h
      | false =>
      rw [ht, cond_false] at h
      simp only [Option.some.injEq, Prod.mk.injEq] at h
      obtain ⟨rfl, rfl⟩ := h
      exact ⟨hg, hd, hlt, _, ho, fin y0 z1 z2 fun e => by rw [e] at ht; simp [isTmp] at ht⟩
    · split at h
      · cases h
      · cases hKu : Nat.testBit K u with
        | false => rw [hKu] at h; cases h
        | true =>
        rw [hKu, cond_true] at h
        cases hw : Nat.testBit wr u with
        | true => rw [hw] at h; cases h
        | false =>
        rw [hw, cond_false] at h
        cases hud : Nat.beq u d0 with
        | true => rw [hud] at h; cases h
        | false =>
        rw [hud, cond_false] at h
        simp only [Option.some.injEq, Prod.mk.injEq] at h
        obtain ⟨rfl, rfl⟩ := h
        exact ⟨hg, hd, hlt, _, ho, fin (.tmp u) rfl (fun u' e => by cases e; exact hKu) fun e => by cases e; simp at hud⟩
  · rename_i hnt
    simp only [Option.some.injEq, Prod.mk.injEq] at h
    obtain ⟨rfl, rfl⟩ := h
    exact ⟨hg, hd, hlt, _, ho, fin x rfl (fun u e => absurd e (hnt u)) fun e => absurd e (hnt _)⟩
theorem opsS_ok {call : CallK} (hc : CallSound P W0 call) {N K : Nat} {ops : Array Oper} (l : List Oper) : ∀ (env : List Nat) (al : Al) (s : FS) (frT : Tr SV) (h : HS) (k : Tr SV → HS → Bool), StOk K env al s frT → (opsS P N K ops l env al).f call s h k = true →
    ∃ fr' frT' h', k fr' h' = true ∧ (∀ t, Nat.testBit K t = true → opd fr' (.tmp t) = opd frT' (.tmp t)) ∧ Goes h h' ∧ OpsOk P W0 N ops l frT h frT' h' := by
  induction l with
  | nil =>
    intro env al s frT h k hs hk
    exact ⟨s.fr, frT, h, hk, hs.fr, Goes.refl h, fun ro E a w r _ fo Q hQ => hQ E a w r (Step.refl _ _ _ _ _ _) fo⟩
  | cons o l ih =>
    intro env al s frT h k hs hk
    rw [opsS_cons] at hk
    cases hn : nameOf N K (wrMask l) env al o with
    | some dy =>
      obtain ⟨d, y⟩ := dy
      rw [hn] at hk
      simp only at hk
      obtain ⟨hg, hd, hlt, x, ho, hs'⟩ := nameOf_ok hs hn
      obtain ⟨fr', frT', h', k1, ag, g2, o2⟩ := ih _ _ _ _ _ _ hs' hk
      classical
      have hop : opK P call o frT h (fun sv h1 => decide (sv = opd frT x ∧ h1 = h)) = true := by
        simp only [opK, rdK, ho, rdMove, opdK_eq]
        simp
      obtain ⟨sv, h1, hkk, g1, o1⟩ := opK_ok hc hop
      obtain ⟨rfl, rfl⟩ := of_decide_eq_true hkk
      refine ⟨fr', frT', h', k1, ag, g2, fun ro E a w r fe fo Q hQ => ?_⟩
      simp only [wpListIn]
      rw [show Region.wanted o (yielded ops a.tmps) = true by unfold Region.wanted; rw [hg], if_pos rfl]
      refine (o1 ro frT E N a w (fun _ _ => rfl) r (fe.left g2.nx g2.ne) fo _ Q fun E' v w' e1 r' st => ?_)
      have hN : inN N o.dst := fun d' e => by rw [hd] at e; obtain rfl := Option.some.inj e; exact hlt
      have fo2 := (fo.le st.le).putD hN e1
      rw [hd] at fo2
      rw [hd]
      exact o2 ro E' _ w' r' (fe.right st g1.nx g1.ne) fo2 Q fun E2 a2 w2 r2 st2 fo3 => hQ E2 a2 w2 r2 (Step.trans g1 g2 st st2) fo3
    | none =>
    rw [hn] at hk
    simp only at hk
    have step : (wants ops o frT = some true ∧ (compS P K env al o).f call s h (fun v h' => (pushC N K (againB (drMask ops l) env o.dst) o.dst).f s v fun s' => (opsS P N K ops l (envOf (againB (drMask ops l) env o.dst) o.dst env) (alOf o.dst al)).f call s' h' k) = true) ∨ (wants ops o frT = some false ∧ (pushC N K (againB (drMask ops l) env o.dst) o.dst).f s (.lit undef) (fun s' => (opsS P N K ops l (envOf (againB (drMask ops l) env o.dst) o.dst env) (alOf o.dst al)).f call s' h k) = true) := by
      rw [Cl.then_eq, Cl.then_eq] at hk
      cases hg : o.guard with
      | none =>
        rw [hg] at hk
        exact .inl ⟨by unfold wants; rw [hg], hk⟩
      | some x =>
        rw [hg] at hk
        simp only [Cl.then_eq] at hk
        obtain ⟨b, e, hb⟩ := wantS_ok hs hk
        cases b with
        | true => exact .inl ⟨e, hb⟩
        | false => exact .inr ⟨e, hb⟩
    rcases step with ⟨hw, hk⟩ | ⟨hw, hk⟩
    · obtain ⟨fr1, sm, hk⟩ := compS_ok hs hk
      obtain ⟨sv, h1, hk, g1, o1⟩ := opK_ok hc hk
      obtain ⟨hN, s', hk, hs'⟩ := pushC_ok hs againB_no hk
      obtain ⟨fr', frT', h', k1, ag, g2, o2⟩ := ih _ _ _ _ _ _ hs' hk
      refine ⟨fr', frT', h', k1, ag, g1.trans g2, fun ro E a w r fe fo Q hQ => ?_⟩
      simp only [wpListIn]
      rw [wants_ok hw (fun _ _ _ _ _ => rfl) fo, if_pos rfl]
      refine (o1 ro frT E N a w sm r (fe.left g2.nx g2.ne) fo _ Q fun E' v w' e1 r' st => ?_)
      refine o2 ro E' _ w' r' (fe.right st g1.nx g1.ne) ((fo.le st.le).putD hN e1) Q fun E2 a2 w2 r2 st2 fo2 => hQ E2 a2 w2 r2 (Step.trans g1 g2 st st2) fo2
    · obtain ⟨hN, s', hk, hs'⟩ := pushC_ok hs againB_no hk
      obtain ⟨fr', frT', h', k1, ag, g2, o2⟩ := ih _ _ _ _ _ _ hs' hk
      refine ⟨fr', frT', h', k1, ag, g2, fun ro E a w r fe fo Q hQ => ?_⟩
      simp only [wpListIn]
      rw [wants_ok hw (fun _ _ _ _ _ => rfl) fo, if_neg (by simp)]
      exact ⟨fun _ _ => trivial, o2 ro E _ w r fe (fo.putD hN rfl) Q hQ⟩

/-! ### which slots are read elsewhere -/
noncomputable def upMask (l : List Oper) : Nat → Nat := List.rec (fun _ => 0) (fun o _ ih d => natC (rdMask o.op.operands.toList) fun r => natC (Nat.xor (Nat.lor r d) d) fun u => (match o.dst with
  | some t => natC (Nat.lor d (Nat.shiftLeft 1 t)) fun d' => Nat.lor u (ih d')
  | none => Nat.lor u (ih d))) l
noncomputable def keepM (c : Code) : Nat :=
  Code.rec (motive := fun _ => Nat) 0 (fun _ ops draw => Bool.rec (upMask ops.toList 0) (drMask ops ops.toList) draw) (fun _ _ a b => Nat.lor a b) (fun c _ _ a b => Nat.lor (rdMask [c]) (Nat.lor a b)) (fun _ _ b => b) (fun _ b => b)
    (fun _ _ _ _ _ _ => Nat.sub (Nat.shiftLeft 1 512) 1) (fun _ => 0) (fun _ b => b) (fun _ => 0) (fun _ => 0) 0 (fun _ => 0) c
noncomputable def resM (rs : List ResultVar) : Nat := List.rec 0 (fun v _ ih => Nat.lor (match v with
  | .tmp t => Nat.shiftLeft 1 t
  | .cell a _ => Nat.shiftLeft 1 a) ih) rs
/-- Everything that a drawing region looks at lies in the frame. -/
noncomputable def drawIn (K : Nat) (ops : Array Oper) (l : List Oper) : Bool := List.rec true (fun o _ ih => bif allRes K [] [] o.op.operands.toList && (match o.guard with
  | some (g, _) => (match (ops[g]?).bind (·.dst) with
    | some t => Nat.testBit K t
    | none => true)
  | none => true) then ih else false) l
theorem drawIn_ok {K : Nat} {ops : Array Oper} {l : List Oper} (h : drawIn K ops l = true) {fr frT : Tr SV} (ag : ∀ t, Nat.testBit K t = true → opd fr (.tmp t) = opd frT (.tmp t)) : ∀ o ∈ l, Same fr frT o.op.operands ∧ SameG ops o fr frT := by
  induction l with
  | nil => intro o ho; cases ho
  | cons y r ih =>
    obtain ⟨h1, h2⟩ := bif_true (show (bif allRes K [] [] y.op.operands.toList && (match y.guard with
      | some (g, _) => (match (ops[g]?).bind (·.dst) with
        | some t => Nat.testBit K t
        | none => true)
      | none => true) then drawIn K ops r else false) = true from h)
    simp only [Bool.and_eq_true] at h1
    intro o ho
    rcases List.mem_cons.1 ho with e | e
    · subst e
      refine ⟨fun x hx => ?_, fun g want t hg ht => ?_⟩
      · have := allRes_ok h1.1 x (by simpa using hx)
        cases x with
        | tmp t => exact ag t (by simpa [resolved, idx, alias] using this)
        | const v => cases v <;> rfl
        | global g => rfl
        | func f => rfl
      · have := h1.2
        rw [hg] at this
        simp only at this
        rw [ht] at this
        exact ag t this
    · exact ih h2 o e
end Go.Proofs.YtgoccionghehoaaGreatDoor.Ev
namespace Go.Proofs.YtgoccionghehoaaGreatDoor.Ev
open Go
variable [GTab] {P : Program} {W0 : World} [GOk W0]
noncomputable def asMks (s : SV) : (List DI → Bool) → Bool → Bool :=
  SV.rec (motive_1 := fun _ => (List DI → Bool) → Bool → Bool) (motive_2 := fun _ => Unit) (fun _ _ d => d) (fun _ _ _ d => d) (fun _ _ d => d) (fun _ _ _ d => d) (fun _ _ _ _ _ d => d) (fun _ _ _ _ _ d => d) (fun _ _ _ _ _ d => d) (fun _ _ d => d) (fun _ _ _ _ _ _ d => d) (fun _ _ _ _ d => d) (fun _ _ _ d => d) (fun _ _ _ d => d) (fun _ _ d => d) (fun l k _ => k l) (fun _ _ _ _ _ d => d) (fun _ _ _ _ _ d => d) (fun _ _ _ _ d => d) (fun _ _ _ d => d) () (fun _ _ _ _ => ()) s
theorem asMks_ok {s : SV} {k : List DI → Bool} {d : Bool} (h : asMks s k d = true) : (∃ l, s = .mks l ∧ k l = true) ∨ ((∀ l, s ≠ .mks l) ∧ d = true) := by
  cases s <;> first | exact .inl ⟨_, rfl, h⟩ | exact .inr ⟨(fun l e => by cases e), h⟩
noncomputable def asMk (s : SV) (k : List DI → Bool) : Bool := asMks s k (k [])
theorem asMk_ok {s : SV} {k : List DI → Bool} (h : asMk s k = true) : ∃ l, k l = true ∧ ∀ E ds, DefOk E s ds → Marks E l ds := by
  rcases asMks_ok h with ⟨l, rfl, q⟩ | ⟨e, q⟩
  · exact ⟨l, q, fun E ds hd => hd⟩
  · refine ⟨[], q, fun E ds hd => ?_⟩
    unfold DefOk at hd
    split at hd
    · rename_i l; exact absurd rfl (e l)
    · exact hd
noncomputable def asIf (s : SV) (k : Bool) : Bool :=
  SV.rec (motive_1 := fun _ => Bool) (motive_2 := fun _ => Unit) (fun _ => false) (fun _ _ => false) (fun _ => false) (fun _ _ => false) (fun _ _ _ _ => false) (fun _ _ _ _ => false) (fun _ _ _ _ => false) (fun _ => false) (fun _ _ _ _ _ => false) (fun _ _ _ => k) (fun _ _ => false) (fun _ _ => false) (fun _ => false) (fun _ => false) (fun _ _ _ _ => false) (fun _ _ _ _ => false) (fun _ _ _ => false) (fun _ _ => false) () (fun _ _ _ _ => ()) s
theorem asIf_ok {s : SV} {k : Bool} (h : asIf s k = true) : (∃ t u, s = .iface t u) ∧ k = true := by
  cases s <;> first | exact ⟨⟨_, _, rfl⟩, h⟩ | cases h
/-- Pointers to whole boxes. -/
noncomputable def ptrIds (l : List SV) : (List Nat → Bool) → Bool := List.rec (fun k => k []) (fun s _ ih k => asPtr s fun id off => Bool.rec false (ih fun r => k (id :: r)) (Nat.beq off 0)) l
theorem ptrIds_ok (l : List SV) : ∀ {k : List Nat → Bool}, ptrIds l k = true → ∃ ids, l = ids.map (fun id => SV.ptr id 0) ∧ k ids = true := by
  induction l with
  | nil => intro k h; exact ⟨[], rfl, h⟩
  | cons s r ih =>
    intro k h
    obtain ⟨id, off, rfl, h⟩ := asPtr_ok (show asPtr s (fun id off => Bool.rec false (ptrIds r fun r => k (id :: r)) (Nat.beq off 0)) = true from h)
    obtain ⟨h1, h2⟩ := rec_true h
    obtain rfl := Nat.eq_of_beq_eq_true h1
    obtain ⟨ids, rfl, h3⟩ := ih h2
    exact ⟨id :: ids, rfl, h3⟩
/-- A closure over boxes. -/
noncomputable def cloK (s : SV) (k : FuncId → List Nat → Bool) : Bool := match fnOf s with
  | some (.func f, [], cap) => ptrIds cap fun ids => k f ids
  | _ => false
theorem cloK_ok {s : SV} {k : FuncId → List Nat → Bool} (h : cloK s k = true) : ∃ f ids, k f ids = true ∧ ∀ E v, val E s = some v → ∃ vl, vals E (ids.map fun id => SV.ptr id 0) = some vl ∧ v = .func (.func f) #[] vl.toArray := by
  unfold cloK at h
  split at h
  case h_2 => cases h
  rename_i f cap hf
  obtain ⟨ids, rfl, h2⟩ := ptrIds_ok _ h
  refine ⟨f, ids, h2, fun E v hv => ?_⟩
  obtain ⟨x, y, hx, hy, e⟩ := fnOf_ok hf hv
  simp only [vals, Option.some.injEq] at hx
  subst hx
  exact ⟨y, hy, e⟩
noncomputable def opsP (P : Program) (N K : Nat) (fl : Bool) (ops : Array Oper) (l : List Oper) : List Nat → Al → Cl (CallP → FS → HS → (Tr SV → HS → Bool) → (SV → Tr SV → HS → Bool) → Bool) :=
  List.rec (fun _ _ => ⟨fun _ s h k _ => FS.rec (fun fr _ => k fr h) s⟩) (fun o l ih env al => match o.op with
    | .panic x => (match o.guard with
      | none => bif resolved K env al x then (opS env al x).then fun g => ⟨fun _ s h _ kp => g s fun v => asIf v (FS.rec (fun fr _ => kp v fr h) s)⟩ else ⟨fun _ _ _ _ _ => false⟩
      | some _ => ⟨fun _ _ _ _ _ => false⟩)
    | .defer c => (match fl, o.guard, o.dst, c.callee, c.args.toList with
      | false, none, none, .value f, [] => bif resolved K env al f && (Nat.testBit K N && (idx env N).isNone) then (opS env al f).then fun g => paC N fun pN => ⟨fun call s h k kp => g s fun v => cloK v fun fi ids => FS.rec (fun fr st => getP fr pN fun mk => asMk mk fun dl => putP fr pN (.mks (.clo fi ids :: dl)) fun fr' => (ih env (dropA N al)).f call ⟨fr', st⟩ h k kp) s⟩ else ⟨fun _ _ _ _ _ => false⟩
      | _, _, _, _, _ => ⟨fun _ _ _ _ _ => false⟩)
    | _ => (match nameOf N K (wrMask l) env al o with
      | some (d, y) => ih env ((d, y) :: dropA d al)
      | none => (compS P K env al o).then fun g => (pushC N K (againB (drMask ops l) env o.dst) o.dst).then fun pd => (match o.guard with
        | none => ⟨fun call s h k kp => g (pcall call fun v h' => FS.rec (fun fr _ => kp v fr h') s) s h fun v h' => pd s v fun s' => (ih (envOf (againB (drMask ops l) env o.dst) o.dst env) (alOf o.dst al)).f call s' h' k kp⟩
        | some _ => (wantS K env al ops o).then fun wc => ⟨fun call s h k kp => wc s (g (pcall call fun v h' => FS.rec (fun fr _ => kp v fr h') s) s h fun v h' => pd s v fun s' => (ih (envOf (againB (drMask ops l) env o.dst) o.dst env) (alOf o.dst al)).f call s' h' k kp) (pd s (.lit undef) fun s' => (ih (envOf (againB (drMask ops l) env o.dst) o.dst env) (alOf o.dst al)).f call s' h k kp)⟩))) l
theorem opsP_cons {P : Program} {N K : Nat} {fl : Bool} {ops : Array Oper} {o : Oper} {l : List Oper} {env : List Nat} {al : Al} : opsP P N K fl ops (o :: l) env al = (match o.op with
    | .panic x => (match o.guard with
      | none => bif resolved K env al x then (opS env al x).then fun g => ⟨fun _ s h _ kp => g s fun v => asIf v (FS.rec (fun fr _ => kp v fr h) s)⟩ else ⟨fun _ _ _ _ _ => false⟩
      | some _ => ⟨fun _ _ _ _ _ => false⟩)
    | .defer c => (match fl, o.guard, o.dst, c.callee, c.args.toList with
      | false, none, none, .value f, [] => bif resolved K env al f && (Nat.testBit K N && (idx env N).isNone) then (opS env al f).then fun g => paC N fun pN => ⟨fun call s h k kp => g s fun v => cloK v fun fi ids => FS.rec (fun fr st => getP fr pN fun mk => asMk mk fun dl => putP fr pN (.mks (.clo fi ids :: dl)) fun fr' => (opsP P N K fl ops l env (dropA N al)).f call ⟨fr', st⟩ h k kp) s⟩ else ⟨fun _ _ _ _ _ => false⟩
      | _, _, _, _, _ => ⟨fun _ _ _ _ _ => false⟩)
    | _ => (match nameOf N K (wrMask l) env al o with
      | some (d, y) => opsP P N K fl ops l env ((d, y) :: dropA d al)
      | none => (compS P K env al o).then fun g => (pushC N K (againB (drMask ops l) env o.dst) o.dst).then fun pd => (match o.guard with
        | none => ⟨fun call s h k kp => g (pcall call fun v h' => FS.rec (fun fr _ => kp v fr h') s) s h fun v h' => pd s v fun s' => (opsP P N K fl ops l (envOf (againB (drMask ops l) env o.dst) o.dst env) (alOf o.dst al)).f call s' h' k kp⟩
        | some _ => (wantS K env al ops o).then fun wc => ⟨fun call s h k kp => wc s (g (pcall call fun v h' => FS.rec (fun fr _ => kp v fr h') s) s h fun v h' => pd s v fun s' => (opsP P N K fl ops l (envOf (againB (drMask ops l) env o.dst) o.dst env) (alOf o.dst al)).f call s' h' k kp) (pd s (.lit undef) fun s' => (opsP P N K fl ops l (envOf (againB (drMask ops l) env o.dst) o.dst env) (alOf o.dst al)).f call s' h k kp)⟩))) := rfl
/-- How a row ends. -/
def YOk (E : Env) (y : Option SV) (e : Exit) : Prop := match y with
  | none => e = .normal
  | some s => ∃ v, val E s = some v ∧ e = .panic [{ v, recovered := false }]
def OpsOkP (P : Program) (W0 : World) (N : Nat) (fl : Bool) (ops : Array Oper) (l : List Oper) (fr : Tr SV) (h : HS) (y : Option SV) (fr' : Tr SV) (h' : HS) : Prop :=
  ∀ (ro : { r : Option Nat // fl = true ∨ r = none }) E a w, Rel W0 E h.hp.get w → Free E h.nx h'.nx h.ne h'.ne → FrOk E fr N a → ∀ Q : Exit → Act → World → Prop,
    (∀ E' a' w', Rel W0 E' h'.hp.get w' → Step h.bar h.hp.get h.nx h'.nx h.ne h'.ne E E' w w' → FrOk E' fr' N a' → ∀ e, YOk E' y e → Q e a' w') → wpListIn (Fw ro.1) 0 P ops Q l a w
theorem StOk.putN {K N : Nat} {env : List Nat} {al : Al} {s : FS} {frT : Tr SV} (hs : StOk K env al s frT) (hi : idx env N = none) (v : SV) : StOk K env (dropA N al) ⟨s.fr.put N (some v), s.st⟩ (frT.put N (some v)) := by
  refine ⟨fun t ht => ?_, fun t i hti => ?_, fun t z hm => ?_⟩
  · show opd (s.fr.put N (some v)) (.tmp t) = _
    rw [opd_put, opd_put]
    split
    · rfl
    · exact hs.fr t ht
  · rw [opd_put]
    split
    · rename_i e; subst e; rw [hi] at hti; cases hti
    · exact hs.st t i hti
  · obtain ⟨q1, q2, q3⟩ := mem_dropA hm
    obtain ⟨z1, z2⟩ := hs.al t z q3
    refine ⟨?_, z2⟩
    rw [opd_put, if_neg q1, z1]
    by_cases hx : ∃ u, z = .tmp u
    · obtain ⟨u, rfl⟩ := hx
      rw [opd_put, if_neg (fun e => q2 (by rw [e]))]
    · exact opd_con fun t e => hx ⟨t, e⟩
theorem FrOk.defer {E : Env} {fr : Tr SV} {N : Nat} {a : Act} (fo : FrOk E fr N a) {l : List DI} {d : Deferred} (hm : Marks E l (d :: a.defers)) : FrOk E (fr.put N (some (.mks l))) N { a with defers := d :: a.defers } := by
  refine ⟨fo.size, ?_, fun t => ?_⟩
  · rw [Tr.get_put, if_pos rfl]
    exact hm
  · rw [Tr.get_put]
    split
    · rename_i e
      have := fo.size
      simp [val, e, Array.getD, this]
    · exact fo.get t
theorem opsP_ok {call : CallP} (hc : CallSoundP P W0 call) {N K : Nat} {fl : Bool} {ops : Array Oper} (l : List Oper) : ∀ (env : List Nat) (al : Al) (s : FS) (frT : Tr SV) (h : HS) (k : Tr SV → HS → Bool) (kp : SV → Tr SV → HS → Bool), StOk K env al s frT → (opsP P N K fl ops l env al).f call s h k kp = true →
    ∃ y fr' frT' h', (match y with | none => k fr' h' | some v => kp v fr' h') = true ∧ (∀ t, Nat.testBit K t = true → opd fr' (.tmp t) = opd frT' (.tmp t)) ∧ Goes h h' ∧ OpsOkP P W0 N fl ops l frT h y frT' h' := by
  induction l with
  | nil =>
    intro env al s frT h k kp hs hk
    exact ⟨none, s.fr, frT, h, hk, hs.fr, Goes.refl h, fun ro E a w r _ fo Q hQ => hQ E a w r (Step.refl _ _ _ _ _ _) fo _ rfl⟩
  | cons o l ih =>
    intro env al s frT h k kp hs hk
    rw [opsP_cons] at hk
    split at hk
    · -- a panic
      rename_i x ho
      split at hk
      case h_2 => cases hk
      rename_i hg
      cases hr : resolved K env al x with
      | false => rw [hr] at hk; cases hk
      | true =>
      rw [hr, cond_true, Cl.then_eq] at hk
      simp only [opS_at hs hr] at hk
      obtain ⟨⟨t, u, hv⟩, hk⟩ := asIf_ok hk
      refine ⟨some (opd frT x), s.fr, frT, h, hk, hs.fr, Goes.refl h, fun ro E a w r fe fo Q hQ => ?_⟩
      simp only [wpListIn]
      rw [show Region.wanted o (yielded ops a.tmps) = true by unfold Region.wanted; rw [hg], if_pos rfl]
      refine wpIn_of (by rw [ho]; intro c hc; cases hc) ?_
      have e1 := opd_ok fo x
      rw [hv] at e1
      simp only [val, Option.map_eq_some_iff] at e1
      obtain ⟨v', e2, e1⟩ := e1
      have e3 : (execOp a.eval o).run P w = .halt (.panic (.iface t v')) w := by
        unfold execOp
        rw [ho]
        simp only [← e1, Sem.run_bind]
        rfl
      rw [e3, Oper.uponIn_panic]
      refine hQ E a w r (Step.refl _ _ _ _ _ _) fo _ ⟨.iface t v', ?_, rfl⟩
      rw [hv]
      simp [val, e2]
    · -- a deferred closure
      rename_i c ho
      split at hk
      case h_2 => cases hk
      rename_i f hg hd hcal hcar
      cases hr : (resolved K env al f && (Nat.testBit K N && (idx env N).isNone)) with
      | false => rw [hr] at hk; cases hk
      | true =>
      rw [hr, cond_true, Cl.then_eq] at hk
      simp only [Bool.and_eq_true] at hr
      obtain ⟨hr, hKN, hi⟩ := hr
      have hi : idx env N = none := by
        cases h0 : idx env N with
        | none => rfl
        | some i => rw [h0] at hi; cases hi
      simp only [opS_at hs hr, paC_eq] at hk
      obtain ⟨fi, ids, hk, hclo⟩ := cloK_ok hk
      have hk : getP s.fr (pa N) (fun mk => asMk mk fun dl => putP s.fr (pa N) (.mks (.clo fi ids :: dl)) fun fr' => (opsP P N K false ops l env (dropA N al)).f call ⟨fr', s.st⟩ h k kp) = true := hk
      rw [getP_eq, opdK_eq] at hk
      obtain ⟨dl, hk, hmk⟩ := asMk_ok hk
      rw [putP_eq, Tr.putK_eq] at hk
      obtain ⟨y, fr', frT', h', k1, ag, g2, o2⟩ := ih _ _ _ _ _ _ _ (hs.putN hi _) hk
      refine ⟨y, fr', frT', h', k1, ag, g2, fun ro E a w r fe fo Q hQ => ?_⟩
      obtain ⟨ro, hro⟩ := ro
      rcases hro with e | rfl
      · cases e
      simp only [wpListIn]
      rw [show Region.wanted o (yielded ops a.tmps) = true by unfold Region.wanted; rw [hg], if_pos rfl]
      refine ⟨fun _ _ => trivial, ?_⟩
      obtain ⟨vl, q1, q2⟩ := hclo E _ (opd_ok fo f)
      have e3 : (o.semAt (Fw none).round a.eval).run P w = .ok (.defer { target := .fn (.func fi) vl.toArray, args := #[] }) w := by
        have hca : c.args = #[] := by rw [← Array.toList_inj]; exact hcar
        have e4 : a.eval f = .func (.func fi) #[] vl.toArray := q2
        show (execOp a.eval o).run P w = _
        unfold execOp
        rw [ho]
        simp only [Sem.run_bind, resolve, hcal, hca, e4, Deferred.ofValue, Sem.run_pure, Result.andThen]
        simp
      rw [e3, Oper.uponIn_defer, hd]
      refine o2 ⟨none, .inr rfl⟩ E _ w r fe (fo.defer ⟨vl, a.defers, q1, rfl, ?_⟩) Q hQ
      refine hmk E a.defers ?_
      rw [show opd s.fr (.tmp N) = opd frT (.tmp N) from hs.fr N hKN]
      exact fo.defers
    · rename_i hnp hnd
      cases hn : nameOf N K (wrMask l) env al o with
      | some dy =>
        obtain ⟨d, y⟩ := dy
        rw [hn] at hk
        simp only at hk
        obtain ⟨hg, hd, hlt, x, ho, hs'⟩ := nameOf_ok hs hn
        obtain ⟨z, fr', frT', h', k1, ag, g2, o2⟩ := ih _ _ _ _ _ _ _ hs' hk
        classical
        have hop : opK P (nc call) o frT h (fun sv h1 => decide (sv = opd frT x ∧ h1 = h)) = true := by
          simp only [opK, rdK, ho, rdMove, opdK_eq]
          simp
        obtain ⟨sv, h1, hkk, g1, o1⟩ := opK_ok (nc_ok hc) hop
        obtain ⟨rfl, rfl⟩ := of_decide_eq_true hkk
        refine ⟨z, fr', frT', h', k1, ag, g2, fun ro E a w r fe fo Q hQ => ?_⟩
        simp only [wpListIn]
        rw [show Region.wanted o (yielded ops a.tmps) = true by unfold Region.wanted; rw [hg], if_pos rfl]
        refine (o1 ro.1 frT E N a w (fun _ _ => rfl) r (fe.left g2.nx g2.ne) fo _ Q fun E' v w' e1 r' st => ?_)
        have hN : inN N o.dst := fun d' e => by rw [hd] at e; obtain rfl := Option.some.inj e; exact hlt
        have fo2 := (fo.le st.le).putD hN e1
        rw [hd] at fo2
        rw [hd]
        exact o2 ro E' _ w' r' (fe.right st g1.nx g1.ne) fo2 Q fun E2 a2 w2 r2 st2 fo3 => hQ E2 a2 w2 r2 (Step.trans g1 g2 st st2) fo3
      | none =>
      rw [hn] at hk
      simp only at hk
      have step : (wants ops o frT = some true ∧ (compS P K env al o).f (pcall call fun v h' => kp v s.fr h') s h (fun v h' => (pushC N K (againB (drMask ops l) env o.dst) o.dst).f s v fun s' => (opsP P N K fl ops l (envOf (againB (drMask ops l) env o.dst) o.dst env) (alOf o.dst al)).f call s' h' k kp) = true) ∨ (wants ops o frT = some false ∧ (pushC N K (againB (drMask ops l) env o.dst) o.dst).f s (.lit undef) (fun s' => (opsP P N K fl ops l (envOf (againB (drMask ops l) env o.dst) o.dst env) (alOf o.dst al)).f call s' h k kp) = true) := by
        rw [Cl.then_eq, Cl.then_eq] at hk
        cases hg : o.guard with
        | none =>
          rw [hg] at hk
          exact .inl ⟨by unfold wants; rw [hg], hk⟩
        | some x =>
          rw [hg] at hk
          simp only [Cl.then_eq] at hk
          obtain ⟨b, e, hb⟩ := wantS_ok hs hk
          cases b with
          | true => exact .inl ⟨e, hb⟩
          | false => exact .inr ⟨e, hb⟩
      rcases step with ⟨hw, hk⟩ | ⟨hw, hk⟩
      · obtain ⟨fr1, sm, hk⟩ := compS_ok hs hk
        rcases opK_okP hc hk with ⟨sv, h1, hk, g1, o1⟩ | ⟨sv, h1, hk, g1, o1⟩
        · obtain ⟨hN, s', hk, hs'⟩ := pushC_ok hs againB_no hk
          obtain ⟨z, fr', frT', h', k1, ag, g2, o2⟩ := ih _ _ _ _ _ _ _ hs' hk
          refine ⟨z, fr', frT', h', k1, ag, g1.trans g2, fun ro E a w r fe fo Q hQ => ?_⟩
          simp only [wpListIn]
          rw [wants_ok hw (fun _ _ _ _ _ => rfl) fo, if_pos rfl]
          refine (o1 ro.1 frT E N a w sm r (fe.left g2.nx g2.ne) fo _ Q fun E' v w' e1 r' st => ?_)
          exact o2 ro E' _ w' r' (fe.right st g1.nx g1.ne) ((fo.le st.le).putD hN e1) Q fun E2 a2 w2 r2 st2 fo2 => hQ E2 a2 w2 r2 (Step.trans g1 g2 st st2) fo2
        · refine ⟨some sv, s.fr, frT, h1, hk, hs.fr, g1, fun ro E a w r fe fo Q hQ => ?_⟩
          simp only [wpListIn]
          rw [wants_ok hw (fun _ _ _ _ _ => rfl) fo, if_pos rfl]
          exact o1 ro.1 frT E N a w sm r fe fo _ Q fun E' v w' e1 r' st => hQ E' a w' r' st (fo.le st.le) _ ⟨v, e1, rfl⟩
      · obtain ⟨hN, s', hk, hs'⟩ := pushC_ok hs againB_no hk
        obtain ⟨z, fr', frT', h', k1, ag, g2, o2⟩ := ih _ _ _ _ _ _ _ hs' hk
        refine ⟨z, fr', frT', h', k1, ag, g2, fun ro E a w r fe fo Q hQ => ?_⟩
        simp only [wpListIn]
        rw [wants_ok hw (fun _ _ _ _ _ => rfl) fo, if_neg (by simp)]
        exact ⟨fun _ _ => trivial, o2 ro E _ w r fe (fo.putD hN rfl) Q hQ⟩
end Go.Proofs.YtgoccionghehoaaGreatDoor.Ev
namespace Go.Proofs.YtgoccionghehoaaGreatDoor.Ev
open Go
variable [GTab]

section last
variable {β : Type} {w : Nat → Option β} {up : Nat → Bool}
def last (w : Nat → Option β) (up : Nat → Bool) (l : List Nat) (b : β) : β := l.foldl (fun b i => bif up i then (w i).getD b else b) b
theorem last_cons (i : Nat) (l : List Nat) (b : β) : last w up (i :: l) b = last w up l (bif up i then (w i).getD b else b) := rfl
theorem last_append (l m : List Nat) (b : β) : last w up (l ++ m) b = last w up m (last w up l b) := by simp [last, List.foldl_append]
theorem last_congr {u2 : Nat → Bool} (l : List Nat) : ∀ b, (∀ i ∈ l, w i ≠ none → up i = u2 i) → last w up l b = last w u2 l b := by
  induction l with
  | nil => intro b _; rfl
  | cons i l ih =>
    intro b h
    rw [last_cons, last_cons]
    have : (bif up i then (w i).getD b else b) = (bif u2 i then (w i).getD b else b) := by
      by_cases hw : w i = none
      · rw [hw]; cases up i <;> cases u2 i <;> rfl
      · rw [h i List.mem_cons_self hw]
    rw [this]
    exact ih _ fun j hj => h j (List.mem_cons_of_mem _ hj)
theorem last_same (l : List Nat) : ∀ b, (∀ i ∈ l, up i = true → w i = none) → last w up l b = b := by
  induction l with
  | nil => intro b _; rfl
  | cons i l ih =>
    intro b h
    rw [last_cons]
    have : (bif up i then (w i).getD b else b) = b := by
      cases hu : up i with
      | false => rfl
      | true => rw [h i List.mem_cons_self hu]; rfl
    rw [this]
    exact ih _ fun j hj => h j (List.mem_cons_of_mem _ hj)
theorem range_split {n i : Nat} (hi : i < n) : List.range n = List.range i ++ i :: List.range' (i + 1) (n - i - 1) := by
  obtain ⟨m, rfl⟩ : ∃ m, n = i + (m + 1) := ⟨n - i - 1, by omega⟩
  rw [List.range_eq_range', List.range_eq_range', ← List.range'_append_1, Nat.zero_add, List.range'_succ]
  congr 3
  omega
theorem last_put {n i : Nat} (hi : i < n) {u2 : Nat → Bool} (hu2 : ∀ j, u2 j = if j = i then true else up j) (hlate : ∀ j, i < j → j < n → up j = true → w i ≠ none → w j = none) (b : β) :
    last w u2 (List.range n) b = (w i).getD (last w up (List.range n) b) := by
  cases hw : w i with
  | none =>
    exact last_congr _ b fun j _ hj => by
      rw [hu2]
      by_cases e : j = i
      · subst e; exact absurd hw hj
      · rw [if_neg e]
  | some v =>
    rw [range_split hi, last_append, last_cons, hu2, if_pos rfl, cond_true, hw, last_same]
    · rfl
    · intro j hj hu
      rw [List.mem_range'_1] at hj
      rw [hu2, if_neg (by omega)] at hu
      exact hlate j (by omega) (by omega) hu (by rw [hw]; simp)
end last

structure Pl where
  view : Hp
  out : Hp
  sv : SV
  bar : Nat
  nx : Nat
  nx' : Nat
  ne : Nat
  ne' : Nat
open Classical in
noncomputable def ov (p : Pl) (g : Hp) : Hp := fun id => if p.out id = p.view id then g id else p.out id
open Classical in
noncomputable def wH (p : Nat → Pl) (id : Nat) (i : Nat) : Option (Option SO) := if (p i).out id = (p i).view id then none else some ((p i).out id)
def Pl.lives (p : Pl) : Prop := ∀ id o, p.out id = some o → (p.nx ≤ id ∧ id < p.nx') ∨ ∃ o0, p.view id = some o0

section frame
variable {W0 : World} {E E' : Env} {g : Hp} {w w' : World} {p : Pl}
theorem ov_cases {id : Nat} {o : SO} (hv : ∀ id o, p.view id = some o → g id = some o) (h : ov p g id = some o) : p.out id = some o ∨ (g id = some o ∧ p.view id = none ∧ p.out id = none) := by
  unfold ov at h
  split at h
  · rename_i e
    cases hq : p.view id with
    | none => exact .inr ⟨h, rfl, e.trans hq⟩
    | some o1 =>
      rw [hv id o1 hq] at h
      rw [e, hq]
      exact .inl h
  · exact .inl h
theorem Rel.frame (r : Rel W0 E g w) (hv : ∀ id o, p.view id = some o → g id = some o) (hl : p.lives) (r' : Rel W0 E' p.out w') (st : Step p.bar p.view p.nx p.nx' p.ne p.ne' E E' w w') : Rel W0 E' (ov p g) w' := by
  have other : ∀ id o, g id = some o → p.view id = none → ∃ s, E.at_ id = some s ∧ E'.at_ id = some s ∧ W0.heap.size ≤ s.blk ∧ s.blk < w.heap.size ∧ objOk E' s w' o := by
    intro id o hg hn
    obtain ⟨s, a, b, c⟩ := r.obj id o hg
    refine ⟨s, a, st.le.1 _ _ a, b, c.lt, (c.of_heap (st.touch s.blk c.lt fun id1 s1 o1 _ h1 e1 q => ?_)).le st.le⟩
    have := r.inj id1 id o1 o s1 s (hv _ _ h1) hg e1 a q
    rw [this, hn] at h1
    cases h1
  have mix : ∀ id id' o o' s s', p.out id = some o → g id' = some o' → p.view id' = none → E'.at_ id = some s → E'.at_ id' = some s' → s.blk = s'.blk → id = id' := by
    intro id id' o o' s s' ho hg hn e e' q
    obtain ⟨s1, a1, a2, _, a4, _⟩ := other id' o' hg hn
    obtain rfl := Option.some.inj (a2.symm.trans e')
    rcases hl id o ho with hnew | ⟨o0, h0⟩
    · rcases st.fresh id s hnew.1 hnew.2 e with h | ⟨id0, s0, o0, _, h1, h2, h3⟩
      · omega
      · have := r.inj id0 id' o0 o' s0 s1 (hv _ _ h1) hg h2 a1 (h3.trans q)
        rw [this, hn] at h1
        cases h1
    · obtain ⟨s0, b1, _, _⟩ := r.obj id o0 (hv _ _ h0)
      have := st.le.1 _ _ b1
      rw [e] at this
      obtain rfl := Option.some.inj this
      exact r.inj id id' o0 o' s s1 (hv _ _ h0) hg b1 a1 q
  refine ⟨r'.below, fun id o h => ?_, fun id id' o o' s s' h h' e e' q => ?_, r'.fz, fun j A z id' o s' hz h e' => ?_⟩
  · rcases ov_cases hv h with h | ⟨h, hn, _⟩
    · exact r'.obj id o h
    · obtain ⟨s, _, a, b, _, c⟩ := other id o h hn
      exact ⟨s, a, b, c⟩
  · rcases ov_cases hv h with h | ⟨h, hn, _⟩
    · rcases ov_cases hv h' with h' | ⟨h', hn', _⟩
      · exact r'.inj id id' o o' s s' h h' e e' q
      · exact mix id id' o o' s s' h h' hn' e e' q
    · rcases ov_cases hv h' with h' | ⟨h', hn', _⟩
      · exact (mix id' id o' o s' s h' h hn e' e q.symm).symm
      · obtain ⟨s1, a1, a2, _⟩ := other id o h hn
        obtain ⟨s2, b1, b2, _⟩ := other id' o' h' hn'
        obtain rfl := Option.some.inj (a2.symm.trans e)
        obtain rfl := Option.some.inj (b2.symm.trans e')
        exact r.inj id id' o o' s1 s2 h h' a1 b1 q
  · rcases ov_cases hv h with h | ⟨h, hn, _⟩
    · exact r'.frz j A z id' o s' hz h e'
    · obtain ⟨s1, a1, a2, _, a4, _⟩ := other id' o h hn
      obtain rfl := Option.some.inj (a2.symm.trans e')
      by_cases hid : p.ne ≤ j ∧ j < p.ne'
      · rcases st.fzn j A z hid.1 hid.2 hz with q | ⟨id0, s0, o0, _, h1, h2, h3⟩
        · omega
        · intro q
          have := r.inj id0 id' o0 o s0 s1 (hv _ _ h1) h h2 a1 (h3.trans q.symm)
          rw [this, hn] at h1
          cases h1
      · rw [st.dome j hid] at hz
        exact r.frz j A z id' o s1 hz h a1
theorem Step.frame {b nx0 nxN ne0 neN : Nat} {h0 : Hp} {E0 : Env} {w0 : World} (A : Step b h0 nx0 nxN ne0 neN E0 E w0 w) (B : Step p.bar p.view p.nx p.nx' p.ne p.ne' E E' w w') (hb : b ≤ p.bar) (hv : ∀ id o, p.view id = some o → g id = some o)
    (hg : ∀ id o, g id = some o → (nx0 ≤ id ∧ id < nxN) ∨ ∃ o0, h0 id = some o0) (h1 : nx0 ≤ p.nx) (h2 : p.nx' ≤ nxN) (h3 : ne0 ≤ p.ne) (h4 : p.ne' ≤ neN) : Step b h0 nx0 nxN ne0 neN E0 E' w0 w' := by
  refine ⟨Env.le_trans A.le B.le, fun id hid => ?_, fun j hj => ?_, Nat.le_trans A.size B.size, fun k hk hno => ?_, fun id s q1 q2 e => ?_, fun j a z q1 q2 e => ?_⟩
  · rw [B.dom id (by omega), A.dom id hid]
  · rw [B.dome j (by omega), A.dome j hj]
  · rw [B.touch k (Nat.lt_of_lt_of_le hk A.size) ?_, A.touch k hk hno]
    intro id s o hbar ho he
    by_cases hn : nx0 ≤ id ∧ id < nxN
    · rcases A.fresh id s hn.1 hn.2 he with q | ⟨id0, s0, o0, q0, q1, q2, q3⟩
      · omega
      · rw [← q3]; exact hno id0 s0 o0 q0 q1 q2
    · rcases hg id o (hv id o ho) with q | ⟨o0, q⟩
      · exact absurd q hn
      · rw [A.dom id hn] at he
        exact hno id s o0 (Nat.le_trans hb hbar) q he
  · by_cases hn : p.nx ≤ id ∧ id < p.nx'
    · rcases B.fresh id s hn.1 hn.2 e with q | ⟨id0, s0, o0, q0, q3, q4, q5⟩
      · exact .inl (Nat.le_trans A.size q)
      · by_cases hm : nx0 ≤ id0 ∧ id0 < nxN
        · rcases A.fresh id0 s0 hm.1 hm.2 q4 with r | ⟨i1, s1, o1, r0, r1, r2, r3⟩
          · exact .inl (by omega)
          · exact .inr ⟨i1, s1, o1, r0, r1, r2, r3.trans q5⟩
        · rcases hg id0 o0 (hv _ _ q3) with r | ⟨o1, r⟩
          · exact absurd r hm
          · rw [A.dom id0 hm] at q4
            exact .inr ⟨id0, s0, o1, Nat.le_trans hb q0, r, q4, q5⟩
    · rw [B.dom id hn] at e
      exact A.fresh id s q1 q2 e
  · by_cases hn : p.ne ≤ j ∧ j < p.ne'
    · rcases B.fzn j a z hn.1 hn.2 e with q | ⟨id0, s0, o0, q0, q3, q4, q5⟩
      · exact .inl (Nat.le_trans A.size q)
      · by_cases hm : nx0 ≤ id0 ∧ id0 < nxN
        · rcases A.fresh id0 s0 hm.1 hm.2 q4 with r | ⟨i1, s1, o1, r0, r1, r2, r3⟩
          · exact .inl (by omega)
          · exact .inr ⟨i1, s1, o1, r0, r1, r2, r3.trans q5⟩
        · rcases hg id0 o0 (hv _ _ q3) with r | ⟨o1, r⟩
          · exact absurd r hm
          · rw [A.dom id0 hm] at q4
            exact .inr ⟨id0, s0, o1, Nat.le_trans hb q0, r, q4, q5⟩
    · rw [B.dome j hn] at e
      exact A.fzn j a z q1 q2 e
end frame

inductive Bef (ops : Array Oper) : Nat → Nat → Prop
  | one {j : Nat} {o : Oper} {e : Edge} : ops[j]? = some o → e ∈ o.after → Region.binds .any e = true → Bef ops e.on j
  | step {i j : Nat} {o : Oper} {e : Edge} : Bef ops i e.on → ops[j]? = some o → e ∈ o.after → Region.binds .any e = true → Bef ops i j
def Closed (ops : Array Oper) (up : Nat → Bool) : Prop := ∀ j o, ops[j]? = some o → up j = true → ∀ e ∈ o.after, Region.binds .any e = true → up e.on = true
theorem Closed.bef {ops : Array Oper} {up : Nat → Bool} (c : Closed ops up) {i j : Nat} (b : Bef ops i j) (h : up j = true) : up i = true := by
  induction b with
  | one a d e => exact c _ _ a h _ d e
  | step _ a d e ih => exact ih (c _ _ a h _ d e)
theorem Bef.of_ready {ops : Array Oper} {up : Nat → Bool} (c : Closed ops up) {i j : Nat} {o : Oper} (ho : ops[j]? = some o) (h : ∀ e ∈ o.after, Region.binds .any e = true → up e.on = true) (b : Bef ops i j) : up i = true := by
  cases b with
  | one a d e =>
    rw [ho] at a
    obtain rfl := Option.some.inj a
    exact h _ d e
  | step b a d e =>
    rw [ho] at a
    obtain rfl := Option.some.inj a
    exact c.bef b (h _ d e)
end Go.Proofs.YtgoccionghehoaaGreatDoor.Ev
namespace Go.Proofs.YtgoccionghehoaaGreatDoor.Ev
open Go

variable [GTab] {P : Program} {W0 : World} [GOk W0]
def dstOf (ops : Array Oper) (i : Nat) : Option Tmp := (ops[i]?).bind (·.dst)
noncomputable def wF (ops : Array Oper) (p : Nat → Pl) (t : Nat) (i : Nat) : Option (Option SV) := if dstOf ops i = some t then some (some (p i).sv) else none
/-- What operation i does, from every frame that is fr where it looks. -/
def PlOk (P : Program) (W0 : World) (N : Nat) (ops : Array Oper) (i : Nat) (fr : Tr SV) (p : Pl) : Prop :=
  ∀ ro fr' E a w, (∀ o, ops[i]? = some o → Same fr fr' o.op.operands ∧ SameG ops o fr fr') → Rel W0 E p.view w → Free E p.nx p.nx' p.ne p.ne' → FrOk E fr' N a → ∀ (K : Act → World → Prop) (Q : Exit → Act → World → Prop),
    (∀ E' v w', val E' p.sv = some v → Rel W0 E' p.out w' → Step p.bar p.view p.nx p.nx' p.ne p.ne' E E' w w' → K (a.put (dstOf ops i) v) w') → wpOpIn (Fw ro) 0 P ops Q i K a w
structure Draw (P : Program) (W0 : World) (N : Nat) (ops : Array Oper) (p : Nat → Pl) (fr : Nat → Tr SV) (h0 : Hp) (fr0 : Tr SV) (b nx0 nxN ne0 neN : Nat) : Prop where
  ok : ∀ i, i < ops.size → PlOk P W0 N ops i (fr i) (p i)
  lives : ∀ i, i < ops.size → (p i).lives
  lexF : ∀ i, i < ops.size → ∀ t, (fr i).get t = last (wF ops p t) (fun j => decide (j < i)) (List.range ops.size) (fr0.get t)
  lexH : ∀ i, i < ops.size → ∀ id o, (p i).view id = some o → last (wH p id) (fun j => decide (j < i)) (List.range ops.size) (h0 id) = some o
  ind : ∀ i j, i < ops.size → j < ops.size → i ≠ j → ¬ Bef ops i j → ¬ Bef ops j i → ∀ id, (p i).out id ≠ (p i).view id → (p j).view id = none ∧ (p j).out id = none
  apart : ∀ i j oi oj, ops[i]? = some oi → ops[j]? = some oj → i ≠ j → ¬ Bef ops i j → ¬ Bef ops j i → oi.apart ops oj = true
  inN : ∀ i, i < ops.size → inN N (dstOf ops i)
  nx : ∀ i j, i < j → j < ops.size → (p i).nx' ≤ (p j).nx
  ne : ∀ i j, i < j → j < ops.size → (p i).ne' ≤ (p j).ne
  box : ∀ i, i < ops.size → nx0 ≤ (p i).nx ∧ (p i).nx ≤ (p i).nx' ∧ (p i).nx' ≤ nxN ∧ ne0 ≤ (p i).ne ∧ (p i).ne ≤ (p i).ne' ∧ (p i).ne' ≤ neN ∧ b ≤ (p i).bar
  edge : ∀ i o, ops[i]? = some o → ∀ e ∈ o.after, Region.binds .any e = true → e.on < i

noncomputable def gU (ops : Array Oper) (p : Nat → Pl) (h0 : Hp) (up : Nat → Bool) : Hp := fun id => last (wH p id) up (List.range ops.size) (h0 id)
noncomputable def frL (ops : Array Oper) (p : Nat → Pl) (up : Nat → Bool) (l : List Nat) (fr : Tr SV) : Tr SV := l.foldl (fun fr i => bif up i then putD (dstOf ops i) (p i).sv fr else fr) fr
theorem get_putD (dst : Option Tmp) (sv : SV) (fr : Tr SV) (t : Nat) : (putD dst sv fr).get t = (if dst = some t then some (some sv) else none).getD (fr.get t) := by
  cases dst with
  | none => rfl
  | some d =>
    show (fr.put d (some sv)).get t = _
    rw [Tr.get_put]
    by_cases e : t = d
    · subst e; simp
    · rw [if_neg e, if_neg (fun q => e (Option.some.inj q).symm)]; rfl
theorem get_frL (ops : Array Oper) (p : Nat → Pl) (up : Nat → Bool) (t : Nat) (l : List Nat) : ∀ fr : Tr SV, (frL ops p up l fr).get t = last (wF ops p t) up l (fr.get t) := by
  induction l with
  | nil => intro fr; rfl
  | cons i l ih =>
    intro fr
    show (frL ops p up l (bif up i then putD (dstOf ops i) (p i).sv fr else fr)).get t = _
    rw [ih, last_cons]
    congr 1
    cases up i with
    | false => rfl
    | true => exact get_putD _ _ _ _
theorem FrOk.of_get {E : Env} {fr fr' : Tr SV} {N : Nat} {a : Act} (f : FrOk E fr N a) (h : ∀ t, fr'.get t = fr.get t) : FrOk E fr' N a := ⟨f.size, by rw [h]; exact f.defers, fun t => by rw [h]; exact f.get t⟩

section
variable {N : Nat} {ops : Array Oper} {p : Nat → Pl} {fr : Nat → Tr SV} {h0 : Hp} {fr0 : Tr SV} {b nx0 nxN ne0 neN : Nat}
theorem Bef.lt (h : ∀ i o, ops[i]? = some o → ∀ e ∈ o.after, Region.binds .any e = true → e.on < i) {i j : Nat} (k : Bef ops i j) : i < j := by
  induction k with
  | one a d e => exact h _ _ a _ d e
  | step _ a d e ih => exact Nat.lt_trans ih (h _ _ a _ d e)
structure Inv (P : Program) (W0 : World) (N : Nat) (ops : Array Oper) (p : Nat → Pl) (h0 : Hp) (fr0 : Tr SV) (b nx0 nxN ne0 neN : Nat) (E0 : Env) (w0 : World) (up : Nat → Bool) (E : Env) (a : Act) (w : World) : Prop where
  rel : Rel W0 E (gU ops p h0 up) w
  frok : FrOk E (frL ops p up (List.range ops.size) fr0) N a
  step : Step b h0 nx0 nxN ne0 neN E0 E w0 w
  free : ∀ i, i < ops.size → up i = false → Free E (p i).nx (p i).nx' (p i).ne (p i).ne'
/-- Whether it has come up is whether it stands ahead, for all that is ordered with i. -/
theorem up_iff (D : Draw P W0 N ops p fr h0 fr0 b nx0 nxN ne0 neN) {up : Nat → Bool} (c : Closed ops up) {i : Nat} {o : Oper} (ho : ops[i]? = some o) (hi : up i = false) (hr : ∀ e ∈ o.after, Region.binds .any e = true → up e.on = true) {j : Nat} (h : j = i ∨ Bef ops i j ∨ Bef ops j i) : decide (j < i) = up j := by
  rcases h with rfl | h | h
  · rw [hi]; simp
  · have := h.lt D.edge
    have hu : up j = false := by
      cases hq : up j with
      | false => rfl
      | true => rw [c.bef h hq] at hi; cases hi
    rw [hu]
    simp
    omega
  · rw [h.of_ready c ho hr]
    have := h.lt D.edge
    simpa using this
theorem or_unordered (i j : Nat) : j = i ∨ Bef ops i j ∨ Bef ops j i ∨ (i ≠ j ∧ ¬ Bef ops i j ∧ ¬ Bef ops j i) := by
  by_cases h1 : j = i
  · exact .inl h1
  by_cases h2 : Bef ops i j
  · exact .inr (.inl h2)
  by_cases h3 : Bef ops j i
  · exact .inr (.inr (.inl h3))
  exact .inr (.inr (.inr ⟨fun e => h1 e.symm, h2, h3⟩))
theorem wH_ne {id i : Nat} (h : wH p id i ≠ none) : (p i).out id ≠ (p i).view id := by
  unfold wH at h
  split at h
  · exact absurd rfl h
  · assumption
theorem wH_eq {id i : Nat} (h : (p i).out id = (p i).view id) : wH p id i = none := by unfold wH; rw [if_pos h]
theorem inv_step {ro : Option Nat} (D : Draw P W0 N ops p fr h0 fr0 b nx0 nxN ne0 neN) {E0 : Env} {w0 : World} {up up' : Nat → Bool} (c : Closed ops up) {i : Nat} {o : Oper} (ho : ops[i]? = some o) (hi : up i = false) (hr : ∀ e ∈ o.after, Region.binds .any e = true → up e.on = true)
    (hup : ∀ j, up' j = if j = i then true else up j) {E : Env} {a : Act} {w : World} (I : Inv P W0 N ops p h0 fr0 b nx0 nxN ne0 neN E0 w0 up E a w) {K : Act → World → Prop} {Q : Exit → Act → World → Prop}
    (hK : ∀ E' a' w', Inv P W0 N ops p h0 fr0 b nx0 nxN ne0 neN E0 w0 up' E' a' w' → K a' w') : wpOpIn (Fw ro) 0 P ops Q i K a w := by
  have hn : i < ops.size := (Array.getElem?_eq_some_iff.1 ho).1
  obtain ⟨b1, b2, b3, b4, b5, b6, b7⟩ := D.box i hn
  have hv : ∀ id o, (p i).view id = some o → gU ops p h0 up id = some o := fun id o1 h1 => by
    rw [← D.lexH i hn id o1 h1]
    unfold gU
    exact (last_congr _ _ fun j hj hw => up_iff D c ho hi hr (by
      rcases or_unordered (ops := ops) i j with q | q | q | ⟨q1, q2, q3⟩
      · exact .inl q
      · exact .inr (.inl q)
      · exact .inr (.inr q)
      · have := (D.ind j i (List.mem_range.1 hj) hn (Ne.symm q1) q3 q2 id (wH_ne hw)).1
        rw [h1] at this
        cases this)).symm
  have apart : ∀ j oj, ops[j]? = some oj → i ≠ j → ¬ Bef ops i j → ¬ Bef ops j i → (∀ d, oj.dst = some d → d ∉ o.looksAt ops) ∧ (∀ d, oj.dst = some d → o.dst ≠ some d) := fun j oj hj q1 q2 q3 => by
    have := Oper.apart_spec (D.apart j i oj o hj ho (Ne.symm q1) q3 q2)
    exact ⟨this.1, this.2.1⟩
  have frs : ∀ t, t ∈ o.looksAt ops → (fr i).get t = (frL ops p up (List.range ops.size) fr0).get t := fun t ht => by
    rw [get_frL, D.lexF i hn t]
    exact last_congr _ _ fun j hj hw => up_iff D c ho hi hr (by
      rcases or_unordered (ops := ops) i j with q | q | q | ⟨q1, q2, q3⟩
      · exact .inl q
      · exact .inr (.inl q)
      · exact .inr (.inr q)
      · exfalso
        have hjn := List.mem_range.1 hj
        have hj' : ops[j]? = some ops[j] := Array.getElem?_eq_getElem hjn
        unfold wF at hw
        split at hw
        · rename_i hd
          refine (apart j _ hj' q1 q2 q3).1 t ?_ ht
          unfold dstOf at hd
          rw [hj'] at hd
          exact hd
        · exact hw rfl)
  refine D.ok i hn ro (frL ops p up (List.range ops.size) fr0) E a w (fun o' ho' => ?_) ?_ (I.free i hn hi) I.frok K Q fun E' v w' e1 r' st => hK E' _ w' ?_
  · rw [ho] at ho'
    obtain rfl := Option.some.inj ho'
    refine ⟨fun x hx => ?_, fun g want t hg ht => ?_⟩
    · cases x with
      | tmp t =>
        simp only [opd]
        rw [frs t (List.mem_append_left _ (List.mem_filterMap.2 ⟨.tmp t, by simpa using hx, rfl⟩))]
      | const v => cases v <;> rfl
      | global g => rfl
      | func f => rfl
    · simp only [opd]
      rw [frs t (List.mem_append_right _ (by rw [hg]; simp [ht]))]
  · exact ⟨I.rel.below, fun id o1 h1 => I.rel.obj id o1 (hv id o1 h1), fun id id' o1 o2 s s' h1 h2 => I.rel.inj id id' o1 o2 s s' (hv id o1 h1) (hv id' o2 h2), I.rel.fz, fun j A z id' o1 s' a h1 e => I.rel.frz j A z id' o1 s' a (hv id' o1 h1) e⟩
  · refine ⟨?_, ?_, ?_, ?_⟩
    · have := I.rel.frame hv (D.lives i hn) r' st
      have e : gU ops p h0 up' = ov (p i) (gU ops p h0 up) := by
        funext id
        unfold gU
        rw [last_put hn hup]
        · unfold wH ov
          split <;> rfl
        · intro j hj1 hj2 hu hw
          rcases or_unordered (ops := ops) i j with q | q | q | ⟨q1, q2, q3⟩
          · omega
          · rw [c.bef q hu] at hi; cases hi
          · have := q.lt D.edge; omega
          · have := D.ind i j hn hj2 q1 q2 q3 id (wH_ne hw)
            exact wH_eq (this.2.trans this.1.symm)
      rw [e]
      exact this
    · refine ((I.frok.le st.le).putD (D.inN i hn) e1).of_get fun t => ?_
      rw [get_frL, get_putD, get_frL, last_put hn hup]
      · rfl
      · intro j hj1 hj2 hu hw
        unfold wF at hw ⊢
        split at hw
        case isFalse => exact absurd rfl hw
        rename_i hd
        split
        case isFalse => rfl
        rename_i hd2
        exfalso
        rcases or_unordered (ops := ops) i j with q | q | q | ⟨q1, q2, q3⟩
        · omega
        · rw [c.bef q hu] at hi; cases hi
        · have := q.lt D.edge; omega
        · have hj' : ops[j]? = some ops[j] := by rw [Array.getElem?_eq_getElem hj2]
          unfold dstOf at hd hd2
          rw [ho] at hd
          rw [hj'] at hd2
          exact (apart j _ hj' q1 q2 q3).2 t hd2 hd
    · refine Step.frame I.step st b7 hv (fun id o1 h1 => ?_) b1 b3 b4 b6
      -- what is there is new or was there
      have key : ∀ l : List Nat, (∀ j ∈ l, j < ops.size) → ∀ x : Option SO, ((nx0 ≤ id ∧ id < nxN) ∨ (∃ o0, h0 id = some o0) ∨ x = none) → ((nx0 ≤ id ∧ id < nxN) ∨ (∃ o0, h0 id = some o0) ∨ last (wH p id) up l x = none) := by
        intro l
        induction l with
        | nil => intro _ x hx; exact hx
        | cons j l ih =>
          intro hl x hx
          rw [last_cons]
          refine ih (fun k hk => hl k (List.mem_cons_of_mem _ hk)) _ ?_
          cases up j with
          | false => exact hx
          | true =>
            simp only [cond_true]
            cases hw : wH p id j with
            | none => exact hx
            | some y =>
              have hjn := hl j List.mem_cons_self
              unfold wH at hw
              split at hw
              · cases hw
              · obtain rfl := Option.some.inj hw
                cases ho1 : (p j).out id with
                | none => exact .inr (.inr rfl)
                | some o2 =>
                  rcases D.lives j hjn id o2 ho1 with q | ⟨o3, q⟩
                  · obtain ⟨c1, c2, c3, _⟩ := D.box j hjn
                    exact .inl ⟨by omega, by omega⟩
                  · have := D.lexH j hjn id o3 q
                    by_cases hq : nx0 ≤ id ∧ id < nxN
                    · exact .inl hq
                    by_cases hq2 : ∃ o0, h0 id = some o0
                    · exact .inr (.inl hq2)
                    · exfalso
                      exact noOld D id hq (by cases hz : h0 id with | none => rfl | some z => exact absurd ⟨z, hz⟩ hq2) j hjn o3 q
      rcases key (List.range ops.size) (fun j hj => List.mem_range.1 hj) (h0 id) (by
        cases hz : h0 id with
        | none => exact .inr (.inr rfl)
        | some z => exact .inr (.inl ⟨z, rfl⟩)) with q | q | q
      · exact .inl q
      · exact .inr q
      · unfold gU at h1
        rw [q] at h1
        cases h1
    · intro j hj hu
      rw [hup] at hu
      split at hu
      · cases hu
      rename_i hne
      have f := I.free j hj hu
      obtain ⟨c1, c2, c3, c4, c5, c6, c7⟩ := D.box j hj
      rcases Nat.lt_or_gt_of_ne hne with h | h
      · have n1 := D.nx j i h hn
        have n2 := D.ne j i h hn
        exact ⟨fun id x y => by rw [st.dom id (by omega)]; exact f.at_ id x y, fun id x y => by rw [st.dome id (by omega)]; exact f.emp id x y⟩
      · have n1 := D.nx i j h hj
        have n2 := D.ne i j h hj
        exact ⟨fun id x y => by rw [st.dom id (by omega)]; exact f.at_ id x y, fun id x y => by rw [st.dome id (by omega)]; exact f.emp id x y⟩
where
  noOld (D : Draw P W0 N ops p fr h0 fr0 b nx0 nxN ne0 neN) (id : Nat) (hq : ¬ (nx0 ≤ id ∧ id < nxN)) (hz : h0 id = none) : ∀ j, j < ops.size → ∀ o, (p j).view id ≠ some o := by
    intro j
    induction j using Nat.strongRecOn with
    | _ j ih =>
      intro hj o ho
      have h1 := D.lexH j hj id o ho
      rw [last_same, hz] at h1
      · cases h1
      · intro k hk hkj
        have hk' := List.mem_range.1 hk
        have hkj' : k < j := of_decide_eq_true hkj
        refine wH_eq ?_
        have v0 : (p k).view id = none := by
          cases hv : (p k).view id with
          | none => rfl
          | some z => exact absurd hv (ih k hkj' hk' z)
        rw [v0]
        cases ho2 : (p k).out id with
        | none => rfl
        | some z =>
          rcases D.lives k hk' id z ho2 with q | ⟨z', q⟩
          · obtain ⟨c1, c2, c3, _⟩ := D.box k hk'
            exact absurd ⟨by omega, by omega⟩ hq
          · rw [v0] at q; cases q
end
end Go.Proofs.YtgoccionghehoaaGreatDoor.Ev
namespace Go.Proofs.YtgoccionghehoaaGreatDoor.Ev
open Go

variable [GTab] {P : Program} {W0 : World} [GOk W0] {N : Nat} {ops : Array Oper} {p : Nat → Pl} {fr : Nat → Tr SV} {h0 : Hp} {fr0 : Tr SV} {b nx0 nxN ne0 neN : Nat}
def upOf (up : Array Bool) (j : Nat) : Bool := up.getD j false
theorem filter_lt {α : Type} (q r : α → Bool) (l : List α) (h : ∀ x, q x = true → r x = true) : (l.filter q).length ≤ (l.filter r).length ∧ ∀ x ∈ l, r x = true → q x = false → (l.filter q).length < (l.filter r).length := by
  induction l with
  | nil => exact ⟨Nat.le_refl _, fun x hx => by cases hx⟩
  | cons y l ih =>
    simp only [List.filter_cons]
    cases hq : q y with
    | true =>
      rw [h y hq]
      simp only [if_true, List.length_cons]
      refine ⟨by have := ih.1; omega, fun x hx hr hn => ?_⟩
      rcases List.mem_cons.1 hx with e | e
      · subst e; rw [hq] at hn; cases hn
      · have := ih.2 x e hr hn; omega
    | false =>
      cases hr : r y with
      | true =>
        simp only [if_true, Bool.false_eq_true, if_false, List.length_cons]
        refine ⟨by have := ih.1; omega, fun x hx _ _ => by have := ih.1; omega⟩
      | false =>
        simp only [Bool.false_eq_true, if_false]
        refine ⟨ih.1, fun x hx hr' hn => ?_⟩
        rcases List.mem_cons.1 hx with e | e
        · subst e; rw [hr] at hr'; cases hr'
        · exact ih.2 x e hr' hn
def unl (n : Nat) (up : Array Bool) : Nat := ((List.range n).filter fun j => !upOf up j).length
theorem upOf_set {up : Array Bool} {i : Nat} (hi : i < up.size) (j : Nat) : upOf (up.setIfInBounds i true) j = if j = i then true else upOf up j := by
  unfold upOf
  by_cases e : j = i
  · subst e; simp [hi]
  · rw [getD_set_ne false (Ne.symm e), if_neg e]
theorem any_of_inv {ro : Option Nat} (D : Draw P W0 N ops p fr h0 fr0 b nx0 nxN ne0 neN) {E0 : Env} {w0 : World} {Q : Exit → Act → World → Prop} (hQ : ∀ E a w, Inv P W0 N ops p h0 fr0 b nx0 nxN ne0 neN E0 w0 (fun _ => true) E a w → Q .normal a w) (f : Nat) :
    ∀ (up : Array Bool) (E : Env) (a : Act) (w : World), up.size = ops.size → Closed ops (upOf up) → unl ops.size up ≤ f → Inv P W0 N ops p h0 fr0 b nx0 nxN ne0 neN E0 w0 (upOf up) E a w → wpAnyIn (Fw ro) 0 P .any ops Q f up a w := by
  have done : ∀ (up : Array Bool) (E : Env) (a : Act) (w : World), (∀ j, j < ops.size → upOf up j = true) → Inv P W0 N ops p h0 fr0 b nx0 nxN ne0 neN E0 w0 (upOf up) E a w → Q .normal a w := by
    intro up E a w hall I
    refine hQ E a w ⟨?_, ?_, I.step, fun i _ hf => by cases hf⟩
    · have e : gU ops p h0 (fun _ => true) = gU ops p h0 (upOf up) := by
        funext id
        exact last_congr _ _ fun j hj _ => (hall j (List.mem_range.1 hj)).symm
      rw [e]
      exact I.rel
    · refine I.frok.of_get fun t => ?_
      rw [get_frL, get_frL]
      exact last_congr _ _ fun j hj _ => (hall j (List.mem_range.1 hj)).symm
  have fin : ∀ (up : Array Bool), up.size = ops.size → Region.ready .any ops up = [] → ∀ j, j < ops.size → upOf up j = true := by
    intro up hs hr j
    induction j using Nat.strongRecOn with
    | _ j ih =>
      intro hj
      cases hu : upOf up j with
      | true => rfl
      | false =>
        exfalso
        have hj' : ops[j]? = some ops[j] := Array.getElem?_eq_getElem hj
        have : j ∈ Region.ready .any ops up := mem_ready.2 ⟨getD_in (by rw [hs]; exact hj) hu, ops[j], hj', fun e he hb => ih e.on (D.edge j _ hj' e he hb) (Nat.lt_trans (D.edge j _ hj' e he hb) hj)⟩
        rw [hr] at this
        cases this
  have rest : ∀ (up : Array Bool), (∀ j, j < ops.size → upOf up j = true) → Region.ready .any ops up = [] := by
    intro up hall
    cases hr : Region.ready .any ops up with
    | nil => rfl
    | cons j l =>
      exfalso
      have hm : j ∈ Region.ready .any ops up := by rw [hr]; exact List.mem_cons_self
      obtain ⟨h1, o, ho, _⟩ := mem_ready.1 hm
      have := hall j (Array.getElem?_eq_some_iff.1 ho).1
      unfold upOf at this
      rw [getD_both h1] at this
      cases this
  induction f with
  | zero =>
    intro up E a w hs c hu I
    have hall : ∀ j, j < ops.size → upOf up j = true := fun j hj => by
      cases hq : upOf up j with
      | true => rfl
      | false =>
        exfalso
        have : j ∈ (List.range ops.size).filter fun j => !upOf up j := List.mem_filter.2 ⟨List.mem_range.2 hj, by rw [hq]; rfl⟩
        have h2 := List.length_pos_of_mem this
        unfold unl at hu
        omega
    exact ⟨rest up hall, done up E a w hall I⟩
  | succ f ih =>
    intro up E a w hs c hu I
    refine ⟨fun hr => done up E a w (fin up hs hr) I, fun i hi => ?_⟩
    obtain ⟨h1, o, ho, hr⟩ := mem_ready.1 hi
    have hn : i < ops.size := (Array.getElem?_eq_some_iff.1 ho).1
    have hset := upOf_set (up := up) (i := i) (by rw [hs]; exact hn)
    refine inv_step D c ho (getD_both h1) hr hset I fun E' a' w' I' => ih _ E' a' w' (by simp [hs]) ?_ ?_ I'
    · intro j oj hj hu' e he hb
      rw [hset] at hu' ⊢
      by_cases q : e.on = i
      · rw [if_pos q]
      · rw [if_neg q]
        by_cases q2 : j = i
        · subst q2
          rw [ho] at hj
          obtain rfl := Option.some.inj hj
          exact hr e he hb
        · rw [if_neg q2] at hu'
          exact c j oj hj hu' e he hb
    · have := (filter_lt (fun j => !upOf (up.setIfInBounds i true) j) (fun j => !upOf up j) (List.range ops.size) (fun x hx => by
        rw [hset] at hx
        split at hx
        · cases hx
        · exact hx)).2 i (List.mem_range.2 hn) (by show (!upOf up i) = true; unfold upOf; rw [getD_both h1]; rfl) (by show (!upOf (up.setIfInBounds i true) i) = false; rw [hset, if_pos rfl]; rfl)
      unfold unl at hu ⊢
      omega
theorem draw_region {ro : Option Nat} (hm : P.follows .mixedOrders = true) (D : Draw P W0 N ops p fr h0 fr0 b nx0 nxN ne0 neN) {id : Nat} {E0 : Env} {a0 : Act} {w0 : World} (r : Rel W0 E0 h0 w0) (fe : Free E0 nx0 nxN ne0 neN) (fo : FrOk E0 fr0 N a0) {Q : Exit → Act → World → Prop}
    (hQ : ∀ E' a' w', Rel W0 E' (gU ops p h0 fun _ => true) w' → Step b h0 nx0 nxN ne0 neN E0 E' w0 w' → FrOk E' (frL ops p (fun _ => true) (List.range ops.size) fr0) N a' → Q .normal a' w') : (Code.region id ops true).wpIn (Fw ro) 0 P Q a0 w0 := by
  refine wpIn_region_any hm (any_of_inv D (E0 := E0) (w0 := w0) (fun E a w I => hQ E a w I.rel I.step I.frok) ops.size _ E0 a0 _ (by simp) (fun j o _ hu => ?_) ?_ ⟨?_, ?_, ?_, fun i hi _ => ?_⟩)
  · unfold upOf at hu
    rw [getD_replicate_false] at hu
    cases hu
  · unfold unl
    exact Nat.le_trans (List.length_filter_le _ _) (by simp)
  · have e : gU ops p h0 (upOf (Array.replicate ops.size false)) = h0 := by
      funext id
      exact last_same _ _ fun i _ hu => by unfold upOf at hu; rw [getD_replicate_false] at hu; cases hu
    rw [e]
    exact r.drew
  · refine fo.of_get fun t => ?_
    rw [get_frL]
    exact last_same _ _ fun i _ hu => by unfold upOf at hu; rw [getD_replicate_false] at hu; cases hu
  · exact ⟨E0.le_refl, fun _ _ => rfl, fun _ _ => rfl, Nat.le_refl _, fun _ _ _ => rfl, fun id s x y e => (by rw [fe.at_ id x y] at e; cases e), fun j a z x y e => (by rw [fe.emp j x y] at e; cases e)⟩
  · obtain ⟨c1, c2, c3, c4, c5, c6, _⟩ := D.box i hi
    exact ⟨fun id x y => fe.at_ id (by omega) (by omega), fun j x y => fe.emp j (by omega) (by omega)⟩
end Go.Proofs.YtgoccionghehoaaGreatDoor.Ev
