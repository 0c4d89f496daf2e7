/- Operations turned into closures, so that the kernel looks at an operation's form once. -/
import Derived.Test.YtjbjpjaeagopjaaGreatEvPath
import Derived.Laws.Strings
import Derived.Laws.BitsLemmas
set_option linter.unusedSimpArgs false
set_option linter.unusedVariables false
set_option linter.unusedSectionVars false
namespace Go.Proofs.YtjbjpjaeagopjaaGreat.Ev
open Go
variable [GTab] {P : Program}

abbrev OpF := CallK → Tr SV → HS → (SV → HS → Bool) → Bool
noncomputable def opdC (x : Operand) : Cl (Tr SV → (SV → Bool) → Bool) :=
  match x with
  | .tmp t => paC t fun p => ⟨fun fr k => getP fr p k⟩
  | .const (.bool b) => Bool.rec ⟨fun _ k => k (.bool false)⟩ ⟨fun _ k => k (.bool true)⟩ b
  | .const (.int kd n) => intC n fun n' => ⟨fun _ k => k (.int kd n')⟩
  | x => ⟨fun _ k => k (opd .e x)⟩
theorem opdC_eq (x : Operand) (fr : Tr SV) (k : SV → Bool) : (opdC x).f fr k = opdK fr x k := by
  unfold opdC
  split
  · rw [paC_eq]
    exact getP_eq _ _ _
  · rename_i b
    cases b <;> rfl
  · rw [intC_eq]
    rfl
  · rename_i h1 h2 h3
    cases x with
    | tmp t => exact absurd rfl (h1 t)
    | const v => cases v <;> rfl
    | global g => rfl
    | func f => rfl
theorem opdC_at (x : Operand) (fr : Tr SV) (k : SV → Bool) : (opdC x).f fr k = k (opd fr x) := by rw [opdC_eq, opdK_eq]

/-! ### values by kind -/
noncomputable def asPtrD (s : SV) : (Nat → Nat → Bool) → Bool → Bool :=
  SV.rec (motive_1 := fun _ => (Nat → Nat → Bool) → Bool → Bool) (motive_2 := fun _ => Unit) (fun _ _ d => d) (fun _ _ _ d => d) (fun _ _ d => d) (fun i o k _ => k i o) (fun _ _ _ _ _ d => d) (fun _ _ _ _ _ d => d) (fun _ _ _ _ _ d => d) (fun _ _ d => d) (fun _ _ _ _ _ _ d => d) (fun _ _ _ _ d => d) (fun _ _ _ d => d) (fun _ _ _ d => d) (fun _ _ d => d) (fun _ _ d => d) () (fun _ _ _ _ => ()) s
theorem asPtrD_ok {s : SV} {k : Nat → Nat → Bool} {d : Bool} (h : asPtrD s k d = true) : d = true ∨ ∃ id off, s = .ptr id off ∧ k id off = true := by
  cases s <;> first | exact .inr ⟨_, _, rfl, h⟩ | exact .inl h
noncomputable def asRowO (so : SO) (k : Nat → Nat → Tr SV → Bool) : Bool := SO.rec (fun n s t => k n s t) (fun _ _ => false) (fun _ _ _ _ _ _ _ _ => false) false so
theorem asRowO_ok {so : SO} {k : Nat → Nat → Tr SV → Bool} (h : asRowO so k = true) : ∃ n s t, so = .row n s t ∧ k n s t = true := by
  cases so with
  | row n s t => exact ⟨n, s, t, rfl, h⟩
  | mp es c => cases h
  | lp => cases h
  | df => cases h
noncomputable def asLen (s : SV) : (Nat → Bool) → Bool → Bool :=
  SV.rec (motive_1 := fun _ => (Nat → Bool) → Bool → Bool) (motive_2 := fun _ => Unit) (fun _ _ d => d) (fun _ _ _ d => d) (fun _ _ d => d) (fun _ _ _ d => d) (fun _ _ n _ k _ => k n) (fun _ _ n _ k _ => k n) (fun _ _ _ _ _ d => d) (fun _ _ d => d) (fun _ _ _ _ _ _ d => d) (fun _ _ _ _ d => d) (fun _ _ _ d => d) (fun _ _ _ d => d) (fun _ _ d => d) (fun _ _ d => d) () (fun _ _ _ _ => ()) s
theorem asLen_ok {s : SV} {k : Nat → Bool} {d : Bool} (h : asLen s k d = true) : d = true ∨ ∃ id off n c, (s = .sl id off n c ∨ s = .slr id off n c) ∧ k n = true := by
  cases s <;> first | exact .inr ⟨_, _, _, _, .inl rfl, h⟩ | exact .inr ⟨_, _, _, _, .inr rfl, h⟩ | exact .inl h
noncomputable def asLit (s : SV) : (Value → Bool) → Bool → Bool :=
  SV.rec (motive_1 := fun _ => (Value → Bool) → Bool → Bool) (motive_2 := fun _ => Unit) (fun _ _ d => d) (fun _ _ _ d => d) (fun v k _ => k v) (fun _ _ _ d => d) (fun _ _ _ _ _ d => d) (fun _ _ _ _ _ d => d) (fun _ _ _ _ _ d => d) (fun _ _ d => d) (fun _ _ _ _ _ _ d => d) (fun _ _ _ _ d => d) (fun _ _ _ d => d) (fun _ _ _ d => d) (fun _ _ d => d) (fun _ _ d => d) () (fun _ _ _ _ => ()) s
theorem asLit_ok {s : SV} {k : Value → Bool} {d : Bool} (h : asLit s k d = true) : d = true ∨ ∃ v, s = .lit v ∧ k v = true := by
  cases s <;> first | exact .inr ⟨_, rfl, h⟩ | exact .inl h
/-- The bytes of a string. -/
noncomputable def asStr (v : Value) (k : ByteArray → Bool) (d : Bool) : Bool := match v with | .string s => k s | _ => d
theorem asStr_ok {v : Value} {k : ByteArray → Bool} {d : Bool} (h : asStr v k d = true) : d = true ∨ ∃ s, v = .string s ∧ k s = true := by
  unfold asStr at h
  split at h
  · exact .inr ⟨_, rfl, h⟩
  · exact .inl h

/-! ### whole numbers -/
noncomputable def ikN (k : IntKind) : Nat := IntKind.rec 0 1 2 3 4 5 6 7 k
theorem ikN_inj {a b : IntKind} (h : ikN a = ikN b) : a = b := by cases a <;> cases b <;> first | rfl | (simp [ikN] at h; done) | (exact absurd h (by decide))
noncomputable def eqI (a b : Int) : Bool := Int.rec (fun m => Int.rec (fun n => Nat.beq m n) (fun _ => false) b) (fun m => Int.rec (fun _ => false) (fun n => Nat.beq m n) b) a
noncomputable def ltI (a b : Int) : Bool := Int.rec (fun m => Int.rec (fun n => Nat.blt m n) (fun _ => false) b) (fun m => Int.rec (fun _ => true) (fun n => Nat.blt n m) b) a
theorem nat_beq {m n : Nat} : Nat.beq m n = decide (m = n) := by
  by_cases h : m = n
  · subst h; simp
  · rw [decide_eq_false h, Bool.eq_false_iff]
    exact fun e => h (Nat.eq_of_beq_eq_true e)
theorem nat_blt {m n : Nat} : Nat.blt m n = decide (m < n) := by
  by_cases h : m < n
  · rw [decide_eq_true h]
    exact Nat.ble_eq_true_of_le h
  · rw [decide_eq_false h, Bool.eq_false_iff]
    exact fun e => h (Nat.le_of_ble_eq_true e)
theorem eqI_eq (a b : Int) : eqI a b = decide (a = b) := by
  cases a with
  | ofNat m => cases b with
    | ofNat n => show Nat.beq m n = _; rw [nat_beq]; exact decide_eq_decide.2 (by simp only [Int.ofNat_eq_natCast]; omega)
    | negSucc n => show false = _; rw [decide_eq_false]; simp
  | negSucc m => cases b with
    | ofNat n => show false = _; rw [decide_eq_false]; simp
    | negSucc n => show Nat.beq m n = _; rw [nat_beq]; exact decide_eq_decide.2 (by simp)
theorem ltI_eq (a b : Int) : ltI a b = decide (a < b) := by
  cases a with
  | ofNat m => cases b with
    | ofNat n => show Nat.blt m n = _; rw [nat_blt]; exact decide_eq_decide.2 (by simp)
    | negSucc n => show false = _; rw [decide_eq_false]; simp; omega
  | negSucc m => cases b with
    | ofNat n => show true = _; rw [decide_eq_true]; simp; omega
    | negSucc n => show Nat.blt n m = _; rw [nat_blt]; exact decide_eq_decide.2 (by omega)
noncomputable def cmpI (op : BinOp) : Option (Int → Int → Bool) :=
  match op with
  | .eql => some eqI
  | .neq => some fun a b => Bool.rec true false (eqI a b)
  | .lss => some ltI
  | .gtr => some fun a b => ltI b a
  | .leq => some fun a b => Bool.rec true false (ltI b a)
  | .geq => some fun a b => Bool.rec true false (ltI a b)
  | _ => none
theorem not_rec (b : Bool) : (Bool.rec true false b : Bool) = !b := by cases b <;> rfl
theorem dec_not (p q : Prop) [Decidable p] [Decidable q] (h : p ↔ ¬ q) : decide p = !decide q := by
  by_cases hq : q
  · simp [hq, h]
  · simp [hq, h]
theorem cmpI_ok {op : BinOp} {c : Int → Int → Bool} (h : cmpI op = some c) (k : IntKind) (t : TypeId) (m n : Int) : pureRun P (binOp op t (.int k m) (.int k n)) = some (.bool (c m n)) := by
  cases op <;> simp only [cmpI, Option.some.injEq, reduceCtorEq] at h <;> subst h <;> simp only [binOp, Op.intCmp, pureRun_pure, eqI_eq, ltI_eq, not_rec, ne_eq, not_true_eq_false, if_false, Option.some.injEq, Value.bool.injEq]
  · rfl
  · rfl
  · exact dec_not _ _ (by omega)
  · exact dec_not _ _ (by omega)
end Go.Proofs.YtjbjpjaeagopjaaGreat.Ev
