/- Closures that the kernel works out once; paths into a table. -/
import Derived.Test.YtjbjpjaeagopjaaGreatEvEq
set_option linter.unusedSimpArgs false
set_option linter.unusedVariables false
set_option linter.unusedSectionVars false
namespace Go.Proofs.YtjbjpjaeagopjaaGreat.Ev
open Go
universe u v

/-- Something that is worked out once. -/
structure Cl (α : Type u) : Type u where
  f : α
noncomputable def Cl.then {α : Type u} {β : Type v} (c : Cl α) (g : α → Cl β) : Cl β := Cl.rec (motive := fun _ => Cl β) (fun a => g a) c
theorem Cl.then_eq {α : Type u} {β : Type v} (c : Cl α) (g : α → Cl β) : c.then g = g c.f := by cases c; rfl
noncomputable def natC {β : Type v} (n : Nat) (k : Nat → β) : β := Nat.rec (k 0) (fun m _ => k (Nat.succ m)) n
theorem natC_eq {β : Type v} (n : Nat) (k : Nat → β) : natC n k = k n := by cases n <;> rfl
noncomputable def intC {β : Type v} (n : Int) (k : Int → β) : β := Int.rec (fun a => natC a fun b => k (.ofNat b)) (fun a => natC a fun b => k (.negSucc b)) n
theorem intC_eq {β : Type v} (n : Int) (k : Int → β) : intC n k = k n := by
  cases n with
  | ofNat a => exact natC_eq a (fun b => k (.ofNat b))
  | negSucc a => exact natC_eq a (fun b => k (.negSucc b))

noncomputable def paFC {β : Type v} (f : Nat) : Nat → (Pa → β) → β :=
  Nat.rec (fun _ k => k .z) (fun _ ih i k => Bool.rec (Bool.rec (Bool.rec (ih (Nat.div (Nat.sub i 1) 4) (fun p => k (.d p))) (ih (Nat.div (Nat.sub i 1) 4) (fun p => k (.b p))) (Nat.beq (Nat.mod (Nat.div (Nat.sub i 1) 2) 2) 0)) (Bool.rec (ih (Nat.div (Nat.sub i 1) 4) (fun p => k (.c p))) (ih (Nat.div (Nat.sub i 1) 4) (fun p => k (.a p))) (Nat.beq (Nat.mod (Nat.div (Nat.sub i 1) 2) 2) 0)) (Nat.beq (Nat.mod (Nat.sub i 1) 2) 0)) (k .z) (Nat.beq i 0)) f
noncomputable def paC {β : Type v} (i : Nat) (k : Pa → β) : β := paFC i i k
theorem paFC_eq {β : Type v} (f : Nat) : ∀ (i : Nat) (k : Pa → β), paFC f i k = k (paF f i) := by
  induction f with
  | zero => intro i k; rfl
  | succ f ih =>
    intro i k
    rw [paF_succ]
    show (Bool.rec (Bool.rec (Bool.rec (paFC f ((i - 1) / 4) (fun p => k (.d p))) (paFC f ((i - 1) / 4) (fun p => k (.b p))) (Nat.beq ((i - 1) / 2 % 2) 0)) (Bool.rec (paFC f ((i - 1) / 4) (fun p => k (.c p))) (paFC f ((i - 1) / 4) (fun p => k (.a p))) (Nat.beq ((i - 1) / 2 % 2) 0)) (Nat.beq ((i - 1) % 2) 0)) (k .z) (Nat.beq i 0) : β) = _
    simp only [Tr.rec_beq, ih]
    split
    · rfl
    · split <;> split <;> rfl
theorem paC_eq {β : Type v} (i : Nat) (k : Pa → β) : paC i k = k (pa i) := paFC_eq i i k
/-- What lies there; the empty tuple where nothing does. -/
noncomputable def getP (t : Tr SV) : Pa → (SV → Bool) → Bool :=
  Tr.rec (fun _ k => k (.lit undef)) (fun v _ _ _ _ ga gb gc gd p => Pa.rec (motive := fun _ => Option SV → (Pa → (SV → Bool) → Bool) → (Pa → (SV → Bool) → Bool) → (Pa → (SV → Bool) → Bool) → (Pa → (SV → Bool) → Bool) → (SV → Bool) → Bool)
    (fun v _ _ _ _ => Option.rec (fun k => k (.lit undef)) (fun s k => k s) v) (fun q _ _ ga _ _ _ => ga q) (fun q _ _ _ gb _ _ => gb q) (fun q _ _ _ _ gc _ => gc q) (fun q _ _ _ _ _ gd => gd q) p v ga gb gc gd) t
theorem getP_getp (t : Tr SV) : ∀ (p : Pa) (k : SV → Bool), getP t p k = k ((getp t p).getD (.lit undef)) := by
  induction t with
  | e => intro p k; rfl
  | n v a b c d ia ib ic id =>
    intro p k
    cases p with
    | z => cases v <;> rfl
    | a q => exact ia q k
    | b q => exact ib q k
    | c q => exact ic q k
    | d q => exact id q k
theorem getP_eq (t : Tr SV) (i : Nat) (k : SV → Bool) : getP t (pa i) k = opdK t (.tmp i) k := by
  rw [getP_getp, opdK_eq]
  rfl
noncomputable def oneP (p : Pa) : SV → (Tr SV → Bool) → Bool :=
  Pa.rec (fun s k => k (.n (some s) .e .e .e .e)) (fun _ ih s k => ih s fun t => k (.n none t .e .e .e)) (fun _ ih s k => ih s fun t => k (.n none .e t .e .e)) (fun _ ih s k => ih s fun t => k (.n none .e .e t .e)) (fun _ ih s k => ih s fun t => k (.n none .e .e .e t)) p
noncomputable def putP (t : Tr SV) : Pa → SV → (Tr SV → Bool) → Bool :=
  Tr.rec (fun p => oneP p) (fun v a b c d sa sb sc sd p => Pa.rec (motive := fun _ => Option SV → Tr SV → Tr SV → Tr SV → Tr SV → (Pa → SV → (Tr SV → Bool) → Bool) → (Pa → SV → (Tr SV → Bool) → Bool) → (Pa → SV → (Tr SV → Bool) → Bool) → (Pa → SV → (Tr SV → Bool) → Bool) → SV → (Tr SV → Bool) → Bool)
    (fun _ a b c d _ _ _ _ s k => k (.n (some s) a b c d)) (fun q _ v _ b c d sa _ _ _ s k => sa q s fun t => k (.n v t b c d)) (fun q _ v a _ c d _ sb _ _ s k => sb q s fun t => k (.n v a t c d)) (fun q _ v a b _ d _ _ sc _ s k => sc q s fun t => k (.n v a b t d)) (fun q _ v a b c _ _ _ _ sd s k => sd q s fun t => k (.n v a b c t)) p v a b c d sa sb sc sd) t
theorem oneP_eq (p : Pa) (s : SV) : ∀ k, oneP p s k = k (onep p (some s)) := by
  induction p with
  | z => intro k; rfl
  | a q ih => intro k; exact ih _
  | b q ih => intro k; exact ih _
  | c q ih => intro k; exact ih _
  | d q ih => intro k; exact ih _
theorem putP_putp (t : Tr SV) : ∀ (p : Pa) (s : SV) (k : Tr SV → Bool), putP t p s k = k (putp t p (some s)) := by
  induction t with
  | e => intro p s k; exact oneP_eq p s k
  | n v a b c d ia ib ic id =>
    intro p s k
    cases p with
    | z => rfl
    | a q => exact ia q s _
    | b q => exact ib q s _
    | c q => exact ic q s _
    | d q => exact id q s _
theorem putP_eq (t : Tr SV) (i : Nat) (s : SV) (k : Tr SV → Bool) : putP t (pa i) s k = t.putK i (some s) k := by
  rw [putP_putp, Tr.putK_eq]
  rfl

/-! ### an object by its number -/
/-! ### what kind of value -/
noncomputable def asPtr (s : SV) : (Nat → Nat → Bool) → Bool :=
  SV.rec (motive_1 := fun _ => (Nat → Nat → Bool) → Bool) (motive_2 := fun _ => Unit) (fun _ _ => false) (fun _ _ _ => false) (fun _ _ => false) (fun i o k => k i o) (fun _ _ _ _ _ => false) (fun _ _ _ _ _ => false) (fun _ _ _ _ _ => false) (fun _ _ => false) (fun _ _ _ _ _ _ => false) (fun _ _ _ _ => false) (fun _ _ _ => false) (fun _ _ _ => false) (fun _ _ => false) (fun _ _ => false) () (fun _ _ _ _ => ()) s
theorem asPtr_ok {s : SV} {k : Nat → Nat → Bool} (h : asPtr s k = true) : ∃ id off, s = .ptr id off ∧ k id off = true := by
  cases s <;> first | exact ⟨_, _, rfl, h⟩ | cases h
noncomputable def asBool (s : SV) : Bool → Bool → Bool :=
  SV.rec (motive_1 := fun _ => Bool → Bool → Bool) (motive_2 := fun _ => Unit) (fun b x y => Bool.rec y x b) (fun _ _ _ _ => false) (fun _ _ _ => false) (fun _ _ _ _ => false) (fun _ _ _ _ _ _ => false) (fun _ _ _ _ _ _ => false) (fun _ _ _ _ _ _ => false) (fun _ _ _ => false) (fun _ _ _ _ _ _ _ => false) (fun _ _ _ _ _ => false) (fun _ _ _ _ => false) (fun _ _ _ _ => false) (fun _ _ _ => false) (fun _ _ _ => false) () (fun _ _ _ _ => ()) s
theorem asBool_ok {s : SV} {x y : Bool} (h : asBool s x y = true) : ∃ b, s = .bool b ∧ (bif b then x else y) = true := by
  cases s <;> first | (rename_i b; exact ⟨b, rfl, by cases b <;> exact h⟩) | cases h
noncomputable def asInt (s : SV) : (IntKind → Int → Bool) → Bool → Bool :=
  SV.rec (motive_1 := fun _ => (IntKind → Int → Bool) → Bool → Bool) (motive_2 := fun _ => Unit) (fun _ _ d => d) (fun a n k _ => k a n) (fun _ _ d => d) (fun _ _ _ d => d) (fun _ _ _ _ _ d => d) (fun _ _ _ _ _ d => d) (fun _ _ _ _ _ d => d) (fun _ _ d => d) (fun _ _ _ _ _ _ d => d) (fun _ _ _ _ d => d) (fun _ _ _ d => d) (fun _ _ _ d => d) (fun _ _ d => d) (fun _ _ d => d) () (fun _ _ _ _ => ()) s
theorem asInt_ok {s : SV} {k : IntKind → Int → Bool} {d : Bool} (h : asInt s k d = true) : d = true ∨ ∃ a n, s = .int a n ∧ k a n = true := by
  cases s <;> first | exact .inr ⟨_, _, rfl, h⟩ | exact .inl h
/-- A slice of a row: number, place, length. -/
noncomputable def asRow (s : SV) : (Nat → Nat → Nat → Bool) → (Nat → Nat → Bool) → Bool → Bool :=
  SV.rec (motive_1 := fun _ => (Nat → Nat → Nat → Bool) → (Nat → Nat → Bool) → Bool → Bool) (motive_2 := fun _ => Unit) (fun _ _ _ d => d) (fun _ _ _ _ d => d) (fun _ _ _ d => d) (fun i o _ p _ => p i o) (fun i o n _ k _ _ => k i o n) (fun i o n _ k _ _ => k i o n) (fun _ _ _ _ _ _ d => d) (fun _ _ _ d => d) (fun _ _ _ _ _ _ _ d => d) (fun _ _ _ _ _ d => d) (fun _ _ _ _ d => d) (fun _ _ _ _ d => d) (fun _ _ _ d => d) (fun _ _ _ d => d) () (fun _ _ _ _ => ()) s
noncomputable def boolK (b : Bool) (k : SV → Bool) : Bool := Bool.rec (k (.bool false)) (k (.bool true)) b
theorem boolK_eq (b : Bool) (k : SV → Bool) : boolK b k = k (.bool b) := by cases b <;> rfl
end Go.Proofs.YtjbjpjaeagopjaaGreat.Ev
