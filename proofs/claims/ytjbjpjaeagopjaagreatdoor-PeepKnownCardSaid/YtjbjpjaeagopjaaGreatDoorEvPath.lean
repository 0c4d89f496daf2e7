/- Closures that the kernel works out once; paths into a table. -/
import Derived.Test.YtjbjpjaeagopjaaGreatDoorEvEq
set_option linter.unusedSimpArgs false
set_option linter.unusedVariables false
set_option linter.unusedSectionVars false
namespace Go.Proofs.YtjbjpjaeagopjaaGreatDoor.Ev
open Go
universe u v

/-- Something that is worked out once. -/
structure Cl (α : Type u) : Type u where
  f : α
noncomputable def Cl.then {α : Type u} {β : Type v} (c : Cl α) (g : α → Cl β) : Cl β := Cl.rec (motive := fun _ => Cl β) (fun a => g a) c
theorem Cl.then_eq {α : Type u} {β : Type v} (c : Cl α) (g : α → Cl β) : c.then g = g c.f := by cases c; rfl
noncomputable def natC {β : Type v} (n : Nat) (k : Nat → β) : β := Nat.rec (k 0) (fun m _ => k (Nat.succ m)) n
theorem natC_eq {β : Type v} (n : Nat) (k : Nat → β) : natC n k = k n := by cases n <;> rfl
noncomputable def intC {β : Type v} (n : Int) (k : Int → β) : β := Int.rec (fun a => natC a fun b => k (.ofNat b)) (fun a => natC a fun b => k (.negSucc b)) n
theorem intC_eq {β : Type v} (n : Int) (k : Int → β) : intC n k = k n := by
  cases n with
  | ofNat a => exact natC_eq a (fun b => k (.ofNat b))
  | negSucc a => exact natC_eq a (fun b => k (.negSucc b))

inductive Pa where
  | z
  | l (p : Pa)
  | r (p : Pa)
noncomputable def paF (f : Nat) : Nat → Pa := Nat.rec (fun _ => .z) (fun _ ih i => bif Nat.beq i 0 then .z else bif Nat.beq (i % 2) 1 then .l (ih (i / 2)) else .r (ih (i / 2 - 1))) f
noncomputable def pa (i : Nat) : Pa := paF i i
noncomputable def paFC {β : Type v} (f : Nat) : Nat → (Pa → β) → β :=
  Nat.rec (fun _ k => k .z) (fun _ ih i k => bif Nat.beq i 0 then k .z else bif Nat.beq (i % 2) 1 then ih (i / 2) (fun p => k (.l p)) else ih (i / 2 - 1) (fun p => k (.r p))) f
noncomputable def paC {β : Type v} (i : Nat) (k : Pa → β) : β := paFC i i k
theorem paFC_eq {β : Type v} (f : Nat) : ∀ (i : Nat) (k : Pa → β), paFC f i k = k (paF f i) := by
  induction f with
  | zero => intro i k; rfl
  | succ f ih =>
    intro i k
    show (bif Nat.beq i 0 then k .z else bif Nat.beq (i % 2) 1 then paFC f (i / 2) (fun p => k (.l p)) else paFC f (i / 2 - 1) (fun p => k (.r p))) = k (bif Nat.beq i 0 then .z else bif Nat.beq (i % 2) 1 then .l (paF f (i / 2)) else .r (paF f (i / 2 - 1)))
    rw [ih, ih]
    cases Nat.beq i 0 <;> cases Nat.beq (i % 2) 1 <;> rfl
theorem paC_eq {β : Type v} (i : Nat) (k : Pa → β) : paC i k = k (pa i) := paFC_eq i i k
noncomputable def getp {α : Type u} (t : Tr α) : Pa → Option α :=
  Tr.rec (fun _ => none) (fun v _ _ gl gr p => Pa.rec v (fun q _ => gl q) (fun q _ => gr q) p) t
theorem getp_paF {α : Type u} (t : Tr α) : ∀ (f i : Nat), i ≤ f → getp t (paF f i) = t.get i := by
  induction t with
  | e => intro f i _; rfl
  | n v l r il ir =>
    intro f i hi
    rw [Tr.get_n, Tr.bif_beq, Tr.bif_beq]
    cases f with
    | zero =>
      have : i = 0 := by omega
      subst this
      rfl
    | succ f =>
      show getp (.n v l r) (bif Nat.beq i 0 then .z else bif Nat.beq (i % 2) 1 then .l (paF f (i / 2)) else .r (paF f (i / 2 - 1))) = _
      rw [Tr.bif_beq, Tr.bif_beq]
      split
      · rfl
      · split
        · exact il f (i / 2) (by omega)
        · exact ir f (i / 2 - 1) (by omega)
/-- What lies there; the empty tuple where nothing does. -/
noncomputable def getP (t : Tr SV) : Pa → (SV → Bool) → Bool :=
  Tr.rec (fun _ k => k (.lit undef)) (fun v _ _ gl gr p k => Pa.rec (Option.rec (k (.lit undef)) (fun s => k s) v) (fun q _ => gl q k) (fun q _ => gr q k) p) t
theorem getP_getp (t : Tr SV) : ∀ (p : Pa) (k : SV → Bool), getP t p k = k ((getp t p).getD (.lit undef)) := by
  induction t with
  | e => intro p k; rfl
  | n v l r il ir =>
    intro p k
    cases p with
    | z => cases v <;> rfl
    | l q => exact il q k
    | r q => exact ir q k
theorem getP_eq (t : Tr SV) (i : Nat) (k : SV → Bool) : getP t (pa i) k = opdK t (.tmp i) k := by
  rw [getP_getp, opdK_eq]
  unfold pa
  rw [getp_paF t i i (Nat.le_refl _)]
  rfl
noncomputable def onep {α : Type u} (p : Pa) (o : Option α) : Tr α := Pa.rec (.n o .e .e) (fun _ t => .n none t .e) (fun _ t => .n none .e t) p
noncomputable def putp {α : Type u} (t : Tr α) : Pa → Option α → Tr α :=
  Tr.rec (fun p o => onep p o) (fun v l r sl sr p o => Pa.rec (.n o l r) (fun q _ => .n v (sl q o) r) (fun q _ => .n v l (sr q o)) p) t
noncomputable def oneP (p : Pa) (s : SV) : (Tr SV → Bool) → Bool :=
  Pa.rec (fun k => k (.n (some s) .e .e)) (fun _ ih k => ih fun t => k (.n none t .e)) (fun _ ih k => ih fun t => k (.n none .e t)) p
noncomputable def putP (t : Tr SV) : Pa → SV → (Tr SV → Bool) → Bool :=
  Tr.rec (fun p s k => oneP p s k) (fun v l r sl sr p s k => Pa.rec (k (.n (some s) l r)) (fun q _ => sl q s fun l' => k (.n v l' r)) (fun q _ => sr q s fun r' => k (.n v l r')) p) t
theorem onep_paF {α : Type u} (o : Option α) : ∀ (f i g : Nat), i ≤ f → i ≤ g → onep (paF f i) o = Tr.one g i o := by
  intro f
  induction f with
  | zero =>
    intro i g h _
    have : i = 0 := by omega
    subst this
    cases g <;> rfl
  | succ f ih =>
    intro i g h hg
    cases g with
    | zero =>
      have : i = 0 := by omega
      subst this
      rfl
    | succ g =>
      show onep (bif Nat.beq i 0 then .z else bif Nat.beq (i % 2) 1 then .l (paF f (i / 2)) else .r (paF f (i / 2 - 1))) o = (bif Nat.beq i 0 then Tr.n o .e .e else bif Nat.beq (i % 2) 1 then Tr.n none (Tr.one g (i / 2) o) .e else Tr.n none .e (Tr.one g (i / 2 - 1) o))
      rw [Tr.bif_beq, Tr.bif_beq, Tr.bif_beq, Tr.bif_beq]
      split
      · rfl
      · split
        · rw [← ih (i / 2) g (by omega) (by omega)]; rfl
        · rw [← ih (i / 2 - 1) g (by omega) (by omega)]; rfl
theorem putp_paF {α : Type u} (t : Tr α) : ∀ (f i : Nat) (o : Option α), i ≤ f → putp t (paF f i) o = t.put i o := by
  induction t with
  | e => intro f i o h; exact onep_paF o f i i h (Nat.le_refl _)
  | n v l r il ir =>
    intro f i o hi
    show _ = (bif Nat.beq i 0 then Tr.n o l r else bif Nat.beq (i % 2) 1 then Tr.n v (l.put (i / 2) o) r else Tr.n v l (r.put (i / 2 - 1) o))
    cases f with
    | zero =>
      have : i = 0 := by omega
      subst this
      rfl
    | succ f =>
      show putp (.n v l r) (bif Nat.beq i 0 then .z else bif Nat.beq (i % 2) 1 then .l (paF f (i / 2)) else .r (paF f (i / 2 - 1))) o = _
      rw [Tr.bif_beq, Tr.bif_beq, Tr.bif_beq, Tr.bif_beq]
      split
      · rfl
      · split
        · rw [← il f (i / 2) o (by omega)]; rfl
        · rw [← ir f (i / 2 - 1) o (by omega)]; rfl
theorem oneP_eq (p : Pa) (s : SV) : ∀ k, oneP p s k = k (onep p (some s)) := by
  induction p with
  | z => intro k; rfl
  | l q ih => intro k; exact ih _
  | r q ih => intro k; exact ih _
theorem putP_putp (t : Tr SV) : ∀ (p : Pa) (s : SV) (k : Tr SV → Bool), putP t p s k = k (putp t p (some s)) := by
  induction t with
  | e => intro p s k; exact oneP_eq p s k
  | n v l r il ir =>
    intro p s k
    cases p with
    | z => rfl
    | l q => exact il q s _
    | r q => exact ir q s _
theorem putP_eq (t : Tr SV) (i : Nat) (s : SV) (k : Tr SV → Bool) : putP t (pa i) s k = t.putK i (some s) k := by
  rw [putP_putp, Tr.putK_eq]
  unfold pa
  rw [putp_paF t i i _ (Nat.le_refl _)]

/-! ### an object by its number -/
noncomputable def getQ {α : Type} (t : Tr α) : Nat → (α → Bool) → Bool :=
  Tr.rec (fun _ _ => false) (fun v _ _ gl gr i k => Bool.rec (Bool.rec (gr (Nat.sub (Nat.div i 2) 1) k) (gl (Nat.div i 2) k) (Nat.beq (Nat.mod i 2) 1)) (Option.rec false (fun s => k s) v) (Nat.beq i 0)) t
theorem getQ_eq {α : Type} (t : Tr α) : ∀ (i : Nat) (k : α → Bool), getQ t i k = match t.get i with | some s => k s | none => false := by
  induction t with
  | e => intro i k; rfl
  | n v l r il ir =>
    intro i k
    rw [Tr.get_n]
    show (Bool.rec (Bool.rec (getQ r (i / 2 - 1) k) (getQ l (i / 2) k) (Nat.beq (i % 2) 1)) (Option.rec false (fun s => k s) v) (Nat.beq i 0) : Bool) = _
    cases Nat.beq i 0
    · cases Nat.beq (i % 2) 1
      · exact ir _ _
      · exact il _ _
    · cases v <;> rfl
/-! ### what kind of value -/
noncomputable def asPtr (s : SV) : (Nat → Nat → Bool) → Bool :=
  SV.rec (motive_1 := fun _ => (Nat → Nat → Bool) → Bool) (motive_2 := fun _ => Unit) (fun _ _ => false) (fun _ _ _ => false) (fun _ _ => false) (fun i o k => k i o) (fun _ _ _ _ _ => false) (fun _ _ _ _ _ => false) (fun _ _ => false) (fun _ _ => false) (fun _ _ _ _ _ _ => false) (fun _ _ _ _ => false) (fun _ _ _ => false) (fun _ _ _ => false) () (fun _ _ _ _ => ()) s
theorem asPtr_ok {s : SV} {k : Nat → Nat → Bool} (h : asPtr s k = true) : ∃ id off, s = .ptr id off ∧ k id off = true := by
  cases s <;> first | exact ⟨_, _, rfl, h⟩ | cases h
noncomputable def asBool (s : SV) : Bool → Bool → Bool :=
  SV.rec (motive_1 := fun _ => Bool → Bool → Bool) (motive_2 := fun _ => Unit) (fun b x y => Bool.rec y x b) (fun _ _ _ _ => false) (fun _ _ _ => false) (fun _ _ _ _ => false) (fun _ _ _ _ _ _ => false) (fun _ _ _ _ _ _ => false) (fun _ _ _ => false) (fun _ _ _ => false) (fun _ _ _ _ _ _ _ => false) (fun _ _ _ _ _ => false) (fun _ _ _ _ => false) (fun _ _ _ _ => false) () (fun _ _ _ _ => ()) s
theorem asBool_ok {s : SV} {x y : Bool} (h : asBool s x y = true) : ∃ b, s = .bool b ∧ (bif b then x else y) = true := by
  cases s <;> first | (rename_i b; exact ⟨b, rfl, by cases b <;> exact h⟩) | cases h
noncomputable def asInt (s : SV) : (IntKind → Int → Bool) → Bool → Bool :=
  SV.rec (motive_1 := fun _ => (IntKind → Int → Bool) → Bool → Bool) (motive_2 := fun _ => Unit) (fun _ _ d => d) (fun a n k _ => k a n) (fun _ _ d => d) (fun _ _ _ d => d) (fun _ _ _ _ _ d => d) (fun _ _ _ _ _ d => d) (fun _ _ d => d) (fun _ _ d => d) (fun _ _ _ _ _ _ d => d) (fun _ _ _ _ d => d) (fun _ _ _ d => d) (fun _ _ _ d => d) () (fun _ _ _ _ => ()) s
theorem asInt_ok {s : SV} {k : IntKind → Int → Bool} {d : Bool} (h : asInt s k d = true) : d = true ∨ ∃ a n, s = .int a n ∧ k a n = true := by
  cases s <;> first | exact .inr ⟨_, _, rfl, h⟩ | exact .inl h
/-- A slice of a row: number, place, length. -/
noncomputable def asRow (s : SV) : (Nat → Nat → Nat → Bool) → (Nat → Nat → Bool) → Bool → Bool :=
  SV.rec (motive_1 := fun _ => (Nat → Nat → Nat → Bool) → (Nat → Nat → Bool) → Bool → Bool) (motive_2 := fun _ => Unit) (fun _ _ _ d => d) (fun _ _ _ _ d => d) (fun _ _ _ d => d) (fun i o _ p _ => p i o) (fun i o n _ k _ _ => k i o n) (fun i o n _ k _ _ => k i o n) (fun _ _ _ d => d) (fun _ _ _ d => d) (fun _ _ _ _ _ _ _ d => d) (fun _ _ _ _ _ d => d) (fun _ _ _ _ d => d) (fun _ _ _ _ d => d) () (fun _ _ _ _ => ()) s
noncomputable def boolK (b : Bool) (k : SV → Bool) : Bool := Bool.rec (k (.bool false)) (k (.bool true)) b
theorem boolK_eq (b : Bool) (k : SV → Bool) : boolK b k = k (.bool b) := by cases b <;> rfl
end Go.Proofs.YtjbjpjaeagopjaaGreatDoor.Ev
