/- The rules' contracts in one form. One more application is told. The first rule that can be applied, at one of the two operations. apply at each operation, in the loops' heap. The heap at the loops' heads; apply in it. The inner loop: a rule as long as one can be applied. The inner loop's end. The outer loop. The outer loop's head as peep.Run comes to it: numbered anew. peep.Run, from its beginning's run. -/
import Derived.Test.YtgoccionghehoaaGreatDoorPe3
import Derived.Test.YtgoccionghehoaaGreatDoorPe4
import Derived.Test.YtgoccionghehoaaGreatDoorEv6
import Derived.Test.YtgoccionghehoaaGreatDoorPn1
set_option linter.unusedSimpArgs false
set_option linter.unusedVariables false
set_option linter.unusedSectionVars false
namespace Go.Proofs.YtgoccionghehoaaGreatDoor.Ev
open Go Go.Proofs

variable {W0 : World} [GOk W0]
/-- Whatever the one is, the other is too. -/
def Le (s s' : SV) : Prop := ∀ E v, val E s = some v → val E s' = some v
theorem Le.rfl {s : SV} : Le s s := fun _ _ h => h
theorem Le.rng {lo hi n : Int} (h1 : lo ≤ n) (h2 : n ≤ hi) : Le (I n) (.rng lo hi n) := fun E v h => by
  simp only [I, val] at h ⊢
  rw [if_pos ⟨h1, h2⟩]
  exact h
def Les (s s' : List SV) : Prop := ∀ E v, vals E s = some v → vals E s' = some v
theorem Les.rfl {s : List SV} : Les s s := fun _ _ h => h
theorem Les.cons {s s' : SV} {l l' : List SV} (h : Le s s') (k : Les l l') : Les (s :: l) (s' :: l') := fun E v e => by
  simp only [vals, Option.bind_eq_some_iff, Option.map_eq_some_iff] at e ⊢
  obtain ⟨a, ha, b, hb, e⟩ := e
  exact ⟨a, h E a ha, b, k E b hb, e⟩
theorem Le.agg {l l' : List SV} (h : Les l l') : Le (.agg l) (.agg l') := fun E v e => by
  simp only [val, Option.map_eq_some_iff] at e ⊢
  obtain ⟨b, hb, e⟩ := e
  exact ⟨b, h E b hb, e⟩
theorem Le.tup {l l' : List SV} (h : Les l l') : Le (.tup l) (.tup l') := fun E v e => by
  simp only [val, Option.map_eq_some_iff] at e ⊢
  obtain ⟨b, hb, e⟩ := e
  exact ⟨b, h E b hb, e⟩
theorem CallOk.res {f : FuncId} {l : List SV} {h h' : HS} {sv sv' : SV} (e : Le sv sv') (c : CallOk Tryz.prog W0 f l h h' sv) : CallOk Tryz.prog W0 f l h h' sv' := fun E w vl rel fe hv R hR => c E w vl rel fe hv R fun E' v w' k => hR E' v w' (e _ _ k)
/-- A rule's contract: whether it can be applied, and what becomes of the operation. -/
def RuleOk (W0 : World) [GOk W0] (o3 o4 : Int) (x3 x4 : Pn.In) (u : Option Nat) (to : Int) (x : Pn.In) (f : Nat) (t : Bool) (n : Pn.In) : Prop := ∀ h : HS, True → (∀ id o, (HR o3 o4 x3 x4 (outS u)).get id = some o → h.hp.get id = some o) → CallOk Tryz.prog W0 f [.ptr 41 0, .agg (enc 2 to x)] h h (bif t then someV (enc n.op to n) else zeroV)
theorem to_enc {f : FuncId} {l : List SV} {h h' : HS} {o k ar br : SV} {ai bi to : Int} {n : Pn.In} (h0 : o = I n.op) (h1 : Le k (.rng 0 14 n.k)) (h2 : Le ar (rg n.a.r)) (h3 : ai = n.a.i) (h4 : Le br (rg n.b.r)) (h5 : bi = n.b.i) (c : CallOk Tryz.prog W0 f l h h' (.tup [.agg [o, k, I to, ar, I ai, br, I bi, I 0, I 0, I 0, nilS, nilS, nilS], .bool true])) : CallOk Tryz.prog W0 f l h h' (someV (enc n.op to n)) := by
  subst h0 h3 h5
  exact CallOk.res (Le.tup (.cons (Le.agg (.cons .rfl (.cons h1 (.cons .rfl (.cons h2 (.cons .rfl (.cons h4 .rfl))))))) .rfl)) c
theorem le1 : Le (I (-1)) (rg (-1)) := Le.rng (by decide) (by decide)
theorem lk (n : Int) (h : decide (0 ≤ n ∧ n ≤ 14) = true) : Le (I n) (.rng 0 14 n) := Le.rng (of_decide_eq_true h).1 (of_decide_eq_true h).2
theorem le0 : Le (I 0) (rg 0) := Le.rng (by decide) (by decide)
theorem ok2 {o3 o4 to : Int} {x x3 x4 : Pn.In} {u : Option Nat} : RuleOk W0 o3 o4 x3 x4 u to x 39 (Pn.t2 x) (Pn.n2 x) := by
  intro h hbar hh
  cases ht : Pn.t2 x with
  | false => exact rule2_f ht hbar hh
  | true => exact to_enc rfl .rfl .rfl rfl .rfl rfl (rule2_t ht hbar hh)
theorem ok3 {o3 o4 to : Int} {x x3 x4 : Pn.In} {u : Option Nat} : RuleOk W0 o3 o4 x3 x4 u to x 40 (Pn.t3 x) (Pn.n3 x) := by
  intro h hbar hh
  cases ht : Pn.t3 x with
  | false => exact rule3_f ht hbar hh
  | true => exact to_enc rfl (lk 0 rfl) .rfl rfl le0 rfl (rule3_t ht hbar hh)
theorem ok4 {o3 o4 to : Int} {x x3 x4 : Pn.In} {u : Option Nat} : RuleOk W0 o3 o4 x3 x4 u to x 41 (Pn.t4 x) (Pn.n4 x) := by
  intro h hbar hh
  cases ht : Pn.t4 x with
  | false => exact rule4_f ht hbar hh
  | true => exact to_enc rfl (lk 0 rfl) le1 rfl le0 rfl (rule4_t ht hbar hh)
theorem ok5 {o3 o4 to : Int} {x x3 x4 : Pn.In} {u : Option Nat} : RuleOk W0 o3 o4 x3 x4 u to x 42 (Pn.t5 x) (Pn.n5 x) := by
  intro h hbar hh
  cases ht : Pn.t5 x with
  | false => exact rule5_f ht hbar hh
  | true => exact to_enc rfl (lk 0 rfl) le1 rfl le0 rfl (rule5_t ht hbar hh)
theorem ok7 {o3 o4 to : Int} {x x3 x4 : Pn.In} {u : Option Nat} : RuleOk W0 o3 o4 x3 x4 u to x 44 (Pn.t7 x) (Pn.n7 x) := by
  intro h hbar hh
  cases ht : Pn.t7 x with
  | false => exact rule7_f ht hbar hh
  | true => exact to_enc rfl (lk 2 rfl) le1 rfl .rfl rfl (rule7_t ht hbar hh)
theorem ok9 {o3 o4 to : Int} {x x3 x4 : Pn.In} {u : Option Nat} : RuleOk W0 o3 o4 x3 x4 u to x 46 (Pn.t9 x) (Pn.n9 x) := by
  intro h hbar hh
  cases ht : Pn.t9 x with
  | false => exact rule9_f ht hbar hh
  | true => exact to_enc rfl (lk 1 rfl) .rfl rfl le1 rfl (rule9_t ht hbar hh)
theorem ok6 {o3 o4 to : Int} {x x3 x4 : Pn.In} {u : Option Nat} : RuleOk W0 o3 o4 x3 x4 u to x 43 (Pn.t6 x) (Pn.n6 x) := by
  intro h hbar hh
  cases ht : Pn.t6 x with
  | false => exact rule6_f ht hbar hh
  | true =>
    show CallOk _ _ _ _ _ _ (someV (enc (Pn.n6 x).op to (Pn.n6 x)))
    unfold Pn.n6
    by_cases h1 : Pn.amid x.k [2, 8, 12, 13] = true
    · rw [if_pos h1]
      exact to_enc rfl (lk 0 rfl) le1 rfl le0 rfl (rule6_t0 ht h1 hbar hh)
    rw [if_neg h1]
    by_cases h2 : Pn.amid x.k [6, 7] = true
    · rw [if_pos h2]
      exact to_enc rfl (lk 0 rfl) .rfl rfl le0 rfl (rule6_ta ht h2 hbar hh)
    rw [if_neg h2]
    have h3 : Pn.amid x.k [11, 14] = true := by
      have q : Pn.amid x.k [2, 8, 12, 13, 6, 7, 11, 14] = true := by
        simp only [Pn.t6, Bool.and_eq_true] at ht
        exact ht.2
      rw [Pn.amid_iff] at q h1 h2 ⊢
      simp only [List.mem_cons, List.not_mem_nil, or_false] at q h1 h2 ⊢
      omega
    exact to_enc rfl (lk 0 rfl) le1 rfl le0 rfl (rule6_t1 ht h3 hbar hh)
theorem ok8 {o3 o4 to : Int} {x x3 x4 : Pn.In} {u : Option Nat} (hR : Pn.R x.b.i) : RuleOk W0 o3 o4 x3 x4 u to x 45 (Pn.t8 x) (Pn.n8 x) := by
  intro h hbar hh
  cases ht : Pn.t8 x with
  | false => exact rule8_f hR ht hbar hh
  | true => exact to_enc rfl (lk 9 rfl) .rfl rfl le1 rfl (rule8_t hR ht hbar hh)
theorem ok17 {o3 o4 to : Int} {x x3 x4 : Pn.In} {u : Option Nat} {n : Pn.In} (hR : Pn.R x.b.i) : RuleOk W0 o3 o4 x3 x4 u to x 54 false n := fun h hbar hh => rule17 hR hbar hh
theorem ok1 {o3 o4 to : Int} {x x3 x4 : Pn.In} {u : Option Nat} (h2 : x.op = 2) (k1 : 1 ≤ x.k) (k2 : x.k ≤ 14) : RuleOk W0 o3 o4 x3 x4 u to x 38 (Pn.t1 x) (Pn.n1 x) := by
  intro h hbar hh
  obtain ⟨op, k, a, b⟩ := x
  have h2 : op = 2 := h2
  subst h2
  rcases Pn.kinds k1 k2 with rfl | rfl | rfl | rfl | rfl | rfl | rfl | rfl | rfl | rfl | rfl | rfl | rfl | rfl
  · cases ht : Pn.t1 ⟨2, 1, a, b⟩ with
    | false => exact rule1k1_f (x := ⟨2, 1, a, b⟩) ht hbar hh
    | true => exact to_enc rfl (lk 0 rfl) le1 rfl le0 rfl (rule1k1_t (x := ⟨2, 1, a, b⟩) ht hbar hh)
  · cases ht : Pn.t1 ⟨2, 2, a, b⟩ with
    | false => exact rule1k2_f (x := ⟨2, 2, a, b⟩) ht hbar hh
    | true => exact to_enc rfl (lk 0 rfl) le1 rfl le0 rfl (rule1k2_t (x := ⟨2, 2, a, b⟩) ht hbar hh)
  · cases ht : Pn.t1 ⟨2, 3, a, b⟩ with
    | false => exact rule1k3_f (x := ⟨2, 3, a, b⟩) ht hbar hh
    | true => exact to_enc rfl (lk 0 rfl) le1 rfl le0 rfl (rule1k3_t (x := ⟨2, 3, a, b⟩) ht hbar hh)
  · cases ht : Pn.t1 ⟨2, 4, a, b⟩ with
    | false => exact rule1k4_f (x := ⟨2, 4, a, b⟩) ht hbar hh
    | true => exact to_enc rfl (lk 0 rfl) le1 rfl le0 rfl (rule1k4_t (x := ⟨2, 4, a, b⟩) ht hbar hh)
  · cases ht : Pn.t1 ⟨2, 5, a, b⟩ with
    | false => exact rule1k5_f (x := ⟨2, 5, a, b⟩) ht hbar hh
    | true => exact to_enc rfl (lk 0 rfl) le1 rfl le0 rfl (rule1k5_t (x := ⟨2, 5, a, b⟩) ht hbar hh)
  · cases ht : Pn.t1 ⟨2, 6, a, b⟩ with
    | false => exact rule1k6_f (x := ⟨2, 6, a, b⟩) ht hbar hh
    | true => exact to_enc rfl (lk 0 rfl) le1 rfl le0 rfl (rule1k6_t (x := ⟨2, 6, a, b⟩) ht hbar hh)
  · cases ht : Pn.t1 ⟨2, 7, a, b⟩ with
    | false => exact rule1k7_f (x := ⟨2, 7, a, b⟩) ht hbar hh
    | true => exact to_enc rfl (lk 0 rfl) le1 rfl le0 rfl (rule1k7_t (x := ⟨2, 7, a, b⟩) ht hbar hh)
  · cases ht : Pn.t1 ⟨2, 8, a, b⟩ with
    | false => exact rule1k8_f (x := ⟨2, 8, a, b⟩) ht hbar hh
    | true => exact to_enc rfl (lk 0 rfl) le1 rfl le0 rfl (rule1k8_t (x := ⟨2, 8, a, b⟩) ht hbar hh)
  · cases ht : Pn.t1 ⟨2, 9, a, b⟩ with
    | false => exact rule1k9_f (x := ⟨2, 9, a, b⟩) ht hbar hh
    | true => exact to_enc rfl (lk 0 rfl) le1 rfl le0 rfl (rule1k9_t (x := ⟨2, 9, a, b⟩) ht hbar hh)
  · cases ht : Pn.t1 ⟨2, 10, a, b⟩ with
    | false => exact rule1k10_f (x := ⟨2, 10, a, b⟩) ht hbar hh
    | true => exact to_enc rfl (lk 0 rfl) le1 rfl le0 rfl (rule1k10_t (x := ⟨2, 10, a, b⟩) ht hbar hh)
  · cases ht : Pn.t1 ⟨2, 11, a, b⟩ with
    | false => exact rule1k11_f (x := ⟨2, 11, a, b⟩) ht hbar hh
    | true => exact to_enc rfl (lk 0 rfl) le1 rfl le0 rfl (rule1k11_t (x := ⟨2, 11, a, b⟩) ht hbar hh)
  · cases ht : Pn.t1 ⟨2, 12, a, b⟩ with
    | false => exact rule1k12_f (x := ⟨2, 12, a, b⟩) ht hbar hh
    | true => exact to_enc rfl (lk 0 rfl) le1 rfl le0 rfl (rule1k12_t (x := ⟨2, 12, a, b⟩) ht hbar hh)
  · cases ht : Pn.t1 ⟨2, 13, a, b⟩ with
    | false => exact rule1k13_f (x := ⟨2, 13, a, b⟩) ht hbar hh
    | true => exact to_enc rfl (lk 0 rfl) le1 rfl le0 rfl (rule1k13_t (x := ⟨2, 13, a, b⟩) ht hbar hh)
  · cases ht : Pn.t1 ⟨2, 14, a, b⟩ with
    | false => exact rule1k14_f (x := ⟨2, 14, a, b⟩) ht hbar hh
    | true => exact to_enc rfl (lk 0 rfl) le1 rfl le0 rfl (rule1k14_t (x := ⟨2, 14, a, b⟩) ht hbar hh)
theorem ok10 {o4 to : Int} {x y x4 : Pn.In} {u : Option Nat} (hx : Pn.IOk 3 x) (h2 : x.op = 2) (hy : Pn.IOk 2 y) : RuleOk W0 y.op o4 y x4 u to x 47 (Pn.t10 y x) (Pn.n10 y x) := by
  intro h hbar hh
  obtain ⟨xo, k, ⟨r, i⟩, b⟩ := x
  obtain ⟨yo, yk, ya, yb⟩ := y
  have hr : -1 ≤ r ∧ r ≤ 3 := ⟨hx.a.lo, hx.a.hi⟩
  have kk := (hx.k1 h2).1
  have kk2 := (hx.k1 h2).2.1
  have h2 : xo = 2 := h2
  subst h2
  have hyo : yo = 1 ∨ yo = 2 := hy.op
  rcases hyo with rfl | rfl
  · have ht : Pn.t10 ⟨1, yk, ya, yb⟩ ⟨2, k, ⟨r, i⟩, b⟩ = false := by simp [Pn.t10, Pn.sameY, Pn.compY, Pn.hasY]
    rw [ht]
    rcases rcases_r hr with rfl | rfl | rfl | rfl | rfl
    · exact e10o1rm (x := ⟨2, k, ⟨-1, i⟩, b⟩) hbar hh
    · exact e10o1r0 (x := ⟨2, k, ⟨0, i⟩, b⟩) hbar hh
    · exact e10o1r1 (x := ⟨2, k, ⟨1, i⟩, b⟩) hbar hh
    · exact e10o1r2 (x := ⟨2, k, ⟨2, i⟩, b⟩) hbar hh
    · exact e10o1r3 (x := ⟨2, k, ⟨3, i⟩, b⟩) hbar hh
  by_cases h3 : r = 3
  · subst h3
    cases ht : Pn.t10 ⟨2, yk, ya, yb⟩ ⟨2, k, ⟨3, i⟩, b⟩ with
    | false => exact e10o2r3_f (x := ⟨2, k, ⟨3, i⟩, b⟩) ht hbar hh
    | true =>
      have c := e10o2r3_t (W0 := W0) (o4 := o4) (to := to) (x := ⟨2, k, ⟨3, i⟩, b⟩) (x3 := ⟨2, yk, ya, yb⟩) (x4 := x4) (u := u) (h := h) ht hbar hh
      exact to_enc rfl .rfl .rfl rfl le1 rfl c
  have ht : Pn.t10 ⟨2, yk, ya, yb⟩ ⟨2, k, ⟨r, i⟩, b⟩ = false := by simp [Pn.t10, Pn.sameY, Pn.compY, Pn.hasY, h3]
  rw [ht]
  rcases rcases_r hr with rfl | rfl | rfl | rfl | rfl
  · exact e10o2rm (x := ⟨2, k, ⟨-1, i⟩, b⟩) hbar hh
  · exact e10o2r0 (x := ⟨2, k, ⟨0, i⟩, b⟩) hbar hh
  · exact e10o2r1 (x := ⟨2, k, ⟨1, i⟩, b⟩) hbar hh
  · exact e10o2r2 (x := ⟨2, k, ⟨2, i⟩, b⟩) hbar hh
  · exact absurd rfl h3
theorem ok11 {o4 to : Int} {x y x4 : Pn.In} {u : Option Nat} (hx : Pn.IOk 3 x) (h2 : x.op = 2) (hy : Pn.IOk 2 y) : RuleOk W0 y.op o4 y x4 u to x 48 (Pn.t11 y x) (Pn.n11 y x) := by
  intro h hbar hh
  obtain ⟨xo, k, ⟨r, i⟩, b⟩ := x
  obtain ⟨yo, yk, ya, yb⟩ := y
  have hr : -1 ≤ r ∧ r ≤ 3 := ⟨hx.a.lo, hx.a.hi⟩
  have kk := (hx.k1 h2).1
  have kk2 := (hx.k1 h2).2.1
  have h2 : xo = 2 := h2
  subst h2
  have hyo : yo = 1 ∨ yo = 2 := hy.op
  rcases hyo with rfl | rfl
  · have ht : Pn.t11 ⟨1, yk, ya, yb⟩ ⟨2, k, ⟨r, i⟩, b⟩ = false := by simp [Pn.t11, Pn.sameY, Pn.compY, Pn.hasY]
    rw [ht]
    rcases rcases_r hr with rfl | rfl | rfl | rfl | rfl
    · exact e11o1rm (x := ⟨2, k, ⟨-1, i⟩, b⟩) hbar hh
    · exact e11o1r0 (x := ⟨2, k, ⟨0, i⟩, b⟩) hbar hh
    · exact e11o1r1 (x := ⟨2, k, ⟨1, i⟩, b⟩) hbar hh
    · exact e11o1r2 (x := ⟨2, k, ⟨2, i⟩, b⟩) hbar hh
    · exact e11o1r3 (x := ⟨2, k, ⟨3, i⟩, b⟩) hbar hh
  by_cases h3 : r = 3
  · subst h3
    rcases Pn.kinds kk kk2 with rfl | rfl | rfl | rfl | rfl | rfl | rfl | rfl | rfl | rfl | rfl | rfl | rfl | rfl
    · have ht : Pn.t11 ⟨2, yk, ya, yb⟩ ⟨2, 1, ⟨3, i⟩, b⟩ = false := by simp [Pn.t11, Pn.amid]
      rw [ht]
      exact e11o2r3k1 (x := ⟨2, 1, ⟨3, i⟩, b⟩) hbar hh
    · have ht : Pn.t11 ⟨2, yk, ya, yb⟩ ⟨2, 2, ⟨3, i⟩, b⟩ = false := by simp [Pn.t11, Pn.amid]
      rw [ht]
      exact e11o2r3k2 (x := ⟨2, 2, ⟨3, i⟩, b⟩) hbar hh
    · have ht : Pn.t11 ⟨2, yk, ya, yb⟩ ⟨2, 3, ⟨3, i⟩, b⟩ = false := by simp [Pn.t11, Pn.amid]
      rw [ht]
      exact e11o2r3k3 (x := ⟨2, 3, ⟨3, i⟩, b⟩) hbar hh
    · have ht : Pn.t11 ⟨2, yk, ya, yb⟩ ⟨2, 4, ⟨3, i⟩, b⟩ = false := by simp [Pn.t11, Pn.amid]
      rw [ht]
      exact e11o2r3k4 (x := ⟨2, 4, ⟨3, i⟩, b⟩) hbar hh
    · have ht : Pn.t11 ⟨2, yk, ya, yb⟩ ⟨2, 5, ⟨3, i⟩, b⟩ = false := by simp [Pn.t11, Pn.amid]
      rw [ht]
      exact e11o2r3k5 (x := ⟨2, 5, ⟨3, i⟩, b⟩) hbar hh
    · cases ht : Pn.t11 ⟨2, yk, ya, yb⟩ ⟨2, 6, ⟨3, i⟩, b⟩ with
      | false => exact e11o2r3k6_f (x := ⟨2, 6, ⟨3, i⟩, b⟩) ht hbar hh
      | true => exact to_enc rfl .rfl .rfl rfl le1 (by show _ = (Pn.bin 6 yb.i b.i).getD 0; rw [Pn.bin6, Option.getD_some, ← Pn.W_toNat]; rfl) (e11o2r3k6_t (x := ⟨2, 6, ⟨3, i⟩, b⟩) (x3 := ⟨2, yk, ya, yb⟩) ht hbar hh)
    · cases ht : Pn.t11 ⟨2, yk, ya, yb⟩ ⟨2, 7, ⟨3, i⟩, b⟩ with
      | false => exact e11o2r3k7_f (x := ⟨2, 7, ⟨3, i⟩, b⟩) ht hbar hh
      | true => exact to_enc rfl .rfl .rfl rfl le1 (by show _ = (Pn.bin 7 yb.i b.i).getD 0; rw [Pn.bin7, Option.getD_some, ← Pn.W_toNat]; rfl) (e11o2r3k7_t (x := ⟨2, 7, ⟨3, i⟩, b⟩) (x3 := ⟨2, yk, ya, yb⟩) ht hbar hh)
    · cases ht : Pn.t11 ⟨2, yk, ya, yb⟩ ⟨2, 8, ⟨3, i⟩, b⟩ with
      | false => exact e11o2r3k8_f (x := ⟨2, 8, ⟨3, i⟩, b⟩) ht hbar hh
      | true => exact to_enc rfl .rfl .rfl rfl le1 (by show _ = (Pn.bin 8 yb.i b.i).getD 0; rw [Pn.bin8, Option.getD_some, ← Pn.W_toNat]; rfl) (e11o2r3k8_t (x := ⟨2, 8, ⟨3, i⟩, b⟩) (x3 := ⟨2, yk, ya, yb⟩) ht hbar hh)
    · have ht : Pn.t11 ⟨2, yk, ya, yb⟩ ⟨2, 9, ⟨3, i⟩, b⟩ = false := by simp [Pn.t11, Pn.amid]
      rw [ht]
      exact e11o2r3k9 (x := ⟨2, 9, ⟨3, i⟩, b⟩) hbar hh
    · have ht : Pn.t11 ⟨2, yk, ya, yb⟩ ⟨2, 10, ⟨3, i⟩, b⟩ = false := by simp [Pn.t11, Pn.amid]
      rw [ht]
      exact e11o2r3k10 (x := ⟨2, 10, ⟨3, i⟩, b⟩) hbar hh
    · have ht : Pn.t11 ⟨2, yk, ya, yb⟩ ⟨2, 11, ⟨3, i⟩, b⟩ = false := by simp [Pn.t11, Pn.amid]
      rw [ht]
      exact e11o2r3k11 (x := ⟨2, 11, ⟨3, i⟩, b⟩) hbar hh
    · have ht : Pn.t11 ⟨2, yk, ya, yb⟩ ⟨2, 12, ⟨3, i⟩, b⟩ = false := by simp [Pn.t11, Pn.amid]
      rw [ht]
      exact e11o2r3k12 (x := ⟨2, 12, ⟨3, i⟩, b⟩) hbar hh
    · have ht : Pn.t11 ⟨2, yk, ya, yb⟩ ⟨2, 13, ⟨3, i⟩, b⟩ = false := by simp [Pn.t11, Pn.amid]
      rw [ht]
      exact e11o2r3k13 (x := ⟨2, 13, ⟨3, i⟩, b⟩) hbar hh
    · have ht : Pn.t11 ⟨2, yk, ya, yb⟩ ⟨2, 14, ⟨3, i⟩, b⟩ = false := by simp [Pn.t11, Pn.amid]
      rw [ht]
      exact e11o2r3k14 (x := ⟨2, 14, ⟨3, i⟩, b⟩) hbar hh
  have ht : Pn.t11 ⟨2, yk, ya, yb⟩ ⟨2, k, ⟨r, i⟩, b⟩ = false := by simp [Pn.t11, Pn.sameY, Pn.compY, Pn.hasY, h3]
  rw [ht]
  rcases rcases_r hr with rfl | rfl | rfl | rfl | rfl
  · exact e11o2rm (x := ⟨2, k, ⟨-1, i⟩, b⟩) hbar hh
  · exact e11o2r0 (x := ⟨2, k, ⟨0, i⟩, b⟩) hbar hh
  · exact e11o2r1 (x := ⟨2, k, ⟨1, i⟩, b⟩) hbar hh
  · exact e11o2r2 (x := ⟨2, k, ⟨2, i⟩, b⟩) hbar hh
  · exact absurd rfl h3
theorem ok12 {o4 to : Int} {x y x4 : Pn.In} {u : Option Nat} (hx : Pn.IOk 3 x) (h2 : x.op = 2) (hy : Pn.IOk 2 y) : RuleOk W0 y.op o4 y x4 u to x 49 (Pn.t12 y x) (Pn.n12 y x) := by
  intro h hbar hh
  obtain ⟨xo, k, ⟨r, i⟩, b⟩ := x
  obtain ⟨yo, yk, ya, yb⟩ := y
  have hr : -1 ≤ r ∧ r ≤ 3 := ⟨hx.a.lo, hx.a.hi⟩
  have kk := (hx.k1 h2).1
  have kk2 := (hx.k1 h2).2.1
  have h2 : xo = 2 := h2
  subst h2
  have hyo : yo = 1 ∨ yo = 2 := hy.op
  rcases hyo with rfl | rfl
  · have ht : Pn.t12 ⟨1, yk, ya, yb⟩ ⟨2, k, ⟨r, i⟩, b⟩ = false := by simp [Pn.t12, Pn.sameY, Pn.compY, Pn.hasY]
    rw [ht]
    rcases rcases_r hr with rfl | rfl | rfl | rfl | rfl
    · exact e12o1rm (x := ⟨2, k, ⟨-1, i⟩, b⟩) hbar hh
    · exact e12o1r0 (x := ⟨2, k, ⟨0, i⟩, b⟩) hbar hh
    · exact e12o1r1 (x := ⟨2, k, ⟨1, i⟩, b⟩) hbar hh
    · exact e12o1r2 (x := ⟨2, k, ⟨2, i⟩, b⟩) hbar hh
    · exact e12o1r3 (x := ⟨2, k, ⟨3, i⟩, b⟩) hbar hh
  by_cases h3 : r = 3
  · subst h3
    cases ht : Pn.t12 ⟨2, yk, ya, yb⟩ ⟨2, k, ⟨3, i⟩, b⟩ with
    | false => exact e12o2r3_f (x := ⟨2, k, ⟨3, i⟩, b⟩) ht hbar hh
    | true =>
      have c := e12o2r3_t (W0 := W0) (o4 := o4) (to := to) (x := ⟨2, k, ⟨3, i⟩, b⟩) (x3 := ⟨2, yk, ya, yb⟩) (x4 := x4) (u := u) (h := h) ht hbar hh
      exact to_enc rfl .rfl .rfl rfl le1 rfl c
  have ht : Pn.t12 ⟨2, yk, ya, yb⟩ ⟨2, k, ⟨r, i⟩, b⟩ = false := by simp [Pn.t12, Pn.sameY, Pn.compY, Pn.hasY, h3]
  rw [ht]
  rcases rcases_r hr with rfl | rfl | rfl | rfl | rfl
  · exact e12o2rm (x := ⟨2, k, ⟨-1, i⟩, b⟩) hbar hh
  · exact e12o2r0 (x := ⟨2, k, ⟨0, i⟩, b⟩) hbar hh
  · exact e12o2r1 (x := ⟨2, k, ⟨1, i⟩, b⟩) hbar hh
  · exact e12o2r2 (x := ⟨2, k, ⟨2, i⟩, b⟩) hbar hh
  · exact absurd rfl h3
theorem ok13 {o4 to : Int} {x y x4 : Pn.In} {u : Option Nat} (hx : Pn.IOk 3 x) (h2 : x.op = 2) (hy : Pn.IOk 2 y) : RuleOk W0 y.op o4 y x4 u to x 50 (Pn.t13 y x) (Pn.n13 y x) := by
  intro h hbar hh
  obtain ⟨xo, k, ⟨r, i⟩, b⟩ := x
  obtain ⟨yo, yk, ya, yb⟩ := y
  have hr : -1 ≤ r ∧ r ≤ 3 := ⟨hx.a.lo, hx.a.hi⟩
  have kk := (hx.k1 h2).1
  have kk2 := (hx.k1 h2).2.1
  have h2 : xo = 2 := h2
  subst h2
  have hyo : yo = 1 ∨ yo = 2 := hy.op
  rcases hyo with rfl | rfl
  · have ht : Pn.t13 ⟨1, yk, ya, yb⟩ ⟨2, k, ⟨r, i⟩, b⟩ = false := by simp [Pn.t13, Pn.sameY, Pn.compY, Pn.hasY]
    rw [ht]
    rcases rcases_r hr with rfl | rfl | rfl | rfl | rfl
    · exact e13o1rm (x := ⟨2, k, ⟨-1, i⟩, b⟩) hbar hh
    · exact e13o1r0 (x := ⟨2, k, ⟨0, i⟩, b⟩) hbar hh
    · exact e13o1r1 (x := ⟨2, k, ⟨1, i⟩, b⟩) hbar hh
    · exact e13o1r2 (x := ⟨2, k, ⟨2, i⟩, b⟩) hbar hh
    · exact e13o1r3 (x := ⟨2, k, ⟨3, i⟩, b⟩) hbar hh
  by_cases h3 : r = 3
  · subst h3
    cases ht : Pn.t13 ⟨2, yk, ya, yb⟩ ⟨2, k, ⟨3, i⟩, b⟩ with
    | false => exact e13o2r3_f (x := ⟨2, k, ⟨3, i⟩, b⟩) ht hbar hh
    | true =>
      have c := e13o2r3_t (W0 := W0) (o4 := o4) (to := to) (x := ⟨2, k, ⟨3, i⟩, b⟩) (x3 := ⟨2, yk, ya, yb⟩) (x4 := x4) (u := u) (h := h) ht hbar hh
      exact to_enc rfl .rfl .rfl rfl le1 (shS _ _) c
  have ht : Pn.t13 ⟨2, yk, ya, yb⟩ ⟨2, k, ⟨r, i⟩, b⟩ = false := by simp [Pn.t13, Pn.sameY, Pn.compY, Pn.hasY, h3]
  rw [ht]
  rcases rcases_r hr with rfl | rfl | rfl | rfl | rfl
  · exact e13o2rm (x := ⟨2, k, ⟨-1, i⟩, b⟩) hbar hh
  · exact e13o2r0 (x := ⟨2, k, ⟨0, i⟩, b⟩) hbar hh
  · exact e13o2r1 (x := ⟨2, k, ⟨1, i⟩, b⟩) hbar hh
  · exact e13o2r2 (x := ⟨2, k, ⟨2, i⟩, b⟩) hbar hh
  · exact absurd rfl h3
theorem ok14 {o4 to : Int} {x y x4 : Pn.In} {u : Option Nat} (hx : Pn.IOk 3 x) (h2 : x.op = 2) (hy : Pn.IOk 2 y) : RuleOk W0 y.op o4 y x4 u to x 51 (Pn.t14 y x) (Pn.n14 y x) := by
  intro h hbar hh
  obtain ⟨xo, k, ⟨a, ai⟩, ⟨r, i⟩⟩ := x
  obtain ⟨yo, yk, ya, yb⟩ := y
  have hr : -1 ≤ r ∧ r ≤ 3 := ⟨((hx.k1 h2).2.2).lo, ((hx.k1 h2).2.2).hi⟩
  have kk := (hx.k1 h2).1
  have kk2 := (hx.k1 h2).2.1
  have h2 : xo = 2 := h2
  subst h2
  have hyo : yo = 1 ∨ yo = 2 := hy.op
  rcases hyo with rfl | rfl
  · have ht : Pn.t14 ⟨1, yk, ya, yb⟩ ⟨2, k, ⟨a, ai⟩, ⟨r, i⟩⟩ = false := by simp [Pn.t14, Pn.sameY, Pn.compY, Pn.hasY]
    rw [ht]
    rcases rcases_r hr with rfl | rfl | rfl | rfl | rfl
    · exact e14o1rm (x := ⟨2, k, ⟨a, ai⟩, ⟨-1, i⟩⟩) hbar hh
    · exact e14o1r0 (x := ⟨2, k, ⟨a, ai⟩, ⟨0, i⟩⟩) hbar hh
    · exact e14o1r1 (x := ⟨2, k, ⟨a, ai⟩, ⟨1, i⟩⟩) hbar hh
    · exact e14o1r2 (x := ⟨2, k, ⟨a, ai⟩, ⟨2, i⟩⟩) hbar hh
    · exact e14o1r3 (x := ⟨2, k, ⟨a, ai⟩, ⟨3, i⟩⟩) hbar hh
  by_cases h3 : r = 3
  · subst h3
    cases ht : Pn.t14 ⟨2, yk, ya, yb⟩ ⟨2, k, ⟨a, ai⟩, ⟨3, i⟩⟩ with
    | false => exact e14o2r3_f (x := ⟨2, k, ⟨a, ai⟩, ⟨3, i⟩⟩) ht hbar hh
    | true =>
      have c := e14o2r3_t (W0 := W0) (o4 := o4) (to := to) (x := ⟨2, k, ⟨a, ai⟩, ⟨3, i⟩⟩) (x3 := ⟨2, yk, ya, yb⟩) (x4 := x4) (u := u) (h := h) ht hbar hh
      exact to_enc rfl (lk 0 rfl) .rfl rfl le0 rfl c
  have ht : Pn.t14 ⟨2, yk, ya, yb⟩ ⟨2, k, ⟨a, ai⟩, ⟨r, i⟩⟩ = false := by simp [Pn.t14, Pn.sameY, Pn.compY, Pn.hasY, h3]
  rw [ht]
  rcases rcases_r hr with rfl | rfl | rfl | rfl | rfl
  · exact e14o2rm (x := ⟨2, k, ⟨a, ai⟩, ⟨-1, i⟩⟩) hbar hh
  · exact e14o2r0 (x := ⟨2, k, ⟨a, ai⟩, ⟨0, i⟩⟩) hbar hh
  · exact e14o2r1 (x := ⟨2, k, ⟨a, ai⟩, ⟨1, i⟩⟩) hbar hh
  · exact e14o2r2 (x := ⟨2, k, ⟨a, ai⟩, ⟨2, i⟩⟩) hbar hh
  · exact absurd rfl h3
theorem ok15 {o4 to : Int} {x y x4 : Pn.In} {u : Option Nat} (hx : Pn.IOk 3 x) (h2 : x.op = 2) (hy : Pn.IOk 2 y) : RuleOk W0 y.op o4 y x4 u to x 52 (Pn.t15 y x) (Pn.n15 y x) := by
  intro h hbar hh
  obtain ⟨xo, k, ⟨r, i⟩, b⟩ := x
  obtain ⟨yo, yk, ya, yb⟩ := y
  have hr : -1 ≤ r ∧ r ≤ 3 := ⟨hx.a.lo, hx.a.hi⟩
  have kk := (hx.k1 h2).1
  have kk2 := (hx.k1 h2).2.1
  have h2 : xo = 2 := h2
  subst h2
  have hyo : yo = 1 ∨ yo = 2 := hy.op
  rcases hyo with rfl | rfl
  · have ht : Pn.t15 ⟨1, yk, ya, yb⟩ ⟨2, k, ⟨r, i⟩, b⟩ = false := by simp [Pn.t15, Pn.sameY, Pn.compY, Pn.hasY]
    rw [ht]
    rcases rcases_r hr with rfl | rfl | rfl | rfl | rfl
    · exact e15o1rm (x := ⟨2, k, ⟨-1, i⟩, b⟩) hbar hh
    · exact e15o1r0 (x := ⟨2, k, ⟨0, i⟩, b⟩) hbar hh
    · exact e15o1r1 (x := ⟨2, k, ⟨1, i⟩, b⟩) hbar hh
    · exact e15o1r2 (x := ⟨2, k, ⟨2, i⟩, b⟩) hbar hh
    · exact e15o1r3 (x := ⟨2, k, ⟨3, i⟩, b⟩) hbar hh
  by_cases h3 : r = 3
  · subst h3
    cases ht : Pn.t15 ⟨2, yk, ya, yb⟩ ⟨2, k, ⟨3, i⟩, b⟩ with
    | false => exact e15o2r3_f (x := ⟨2, k, ⟨3, i⟩, b⟩) ht hbar hh
    | true =>
      have c := e15o2r3_t (W0 := W0) (o4 := o4) (to := to) (x := ⟨2, k, ⟨3, i⟩, b⟩) (x3 := ⟨2, yk, ya, yb⟩) (x4 := x4) (u := u) (h := h) ht hbar hh
      exact to_enc rfl (lk 0 rfl) .rfl rfl le0 rfl c
  have ht : Pn.t15 ⟨2, yk, ya, yb⟩ ⟨2, k, ⟨r, i⟩, b⟩ = false := by simp [Pn.t15, Pn.sameY, Pn.compY, Pn.hasY, h3]
  rw [ht]
  rcases rcases_r hr with rfl | rfl | rfl | rfl | rfl
  · exact e15o2rm (x := ⟨2, k, ⟨-1, i⟩, b⟩) hbar hh
  · exact e15o2r0 (x := ⟨2, k, ⟨0, i⟩, b⟩) hbar hh
  · exact e15o2r1 (x := ⟨2, k, ⟨1, i⟩, b⟩) hbar hh
  · exact e15o2r2 (x := ⟨2, k, ⟨2, i⟩, b⟩) hbar hh
  · exact absurd rfl h3
theorem ok16 {o4 to : Int} {x y x4 : Pn.In} {u : Option Nat} (hx : Pn.IOk 3 x) (h2 : x.op = 2) (hy : Pn.IOk 2 y) : RuleOk W0 y.op o4 y x4 u to x 53 (Pn.t16 y x) (Pn.n16 y x) := by
  intro h hbar hh
  obtain ⟨xo, k, ⟨r, i⟩, b⟩ := x
  obtain ⟨yo, yk, ya, yb⟩ := y
  have hr : -1 ≤ r ∧ r ≤ 3 := ⟨hx.a.lo, hx.a.hi⟩
  have kk := (hx.k1 h2).1
  have kk2 := (hx.k1 h2).2.1
  have h2 : xo = 2 := h2
  subst h2
  have hyo : yo = 1 ∨ yo = 2 := hy.op
  rcases hyo with rfl | rfl
  · have ht : Pn.t16 ⟨1, yk, ya, yb⟩ ⟨2, k, ⟨r, i⟩, b⟩ = false := by simp [Pn.t16, Pn.sameY, Pn.compY, Pn.hasY]
    rw [ht]
    rcases rcases_r hr with rfl | rfl | rfl | rfl | rfl
    · exact e16o1rm (x := ⟨2, k, ⟨-1, i⟩, b⟩) hbar hh
    · exact e16o1r0 (x := ⟨2, k, ⟨0, i⟩, b⟩) hbar hh
    · exact e16o1r1 (x := ⟨2, k, ⟨1, i⟩, b⟩) hbar hh
    · exact e16o1r2 (x := ⟨2, k, ⟨2, i⟩, b⟩) hbar hh
    · exact e16o1r3 (x := ⟨2, k, ⟨3, i⟩, b⟩) hbar hh
  by_cases h3 : r = 3
  · subst h3
    cases ht : Pn.t16 ⟨2, yk, ya, yb⟩ ⟨2, k, ⟨3, i⟩, b⟩ with
    | false => exact e16o2r3_f (x := ⟨2, k, ⟨3, i⟩, b⟩) ht hbar hh
    | true =>
      have hk : yk = 11 ∨ yk = 12 ∨ yk = 13 ∨ yk = 14 := by
        simp only [Pn.t16, Pn.compY, Bool.and_eq_true] at ht
        have q := ht.2.2
        rw [Pn.amid_iff] at q
        simpa using q
      rcases hk with rfl | rfl | rfl | rfl
      · exact to_enc rfl (lk 12 rfl) .rfl rfl .rfl rfl (e16o2r3_t11 (x := ⟨2, k, ⟨3, i⟩, b⟩) (x3 := ⟨2, 11, ya, yb⟩) ht rfl hbar hh)
      · exact to_enc rfl (lk 11 rfl) .rfl rfl .rfl rfl (e16o2r3_t12 (x := ⟨2, k, ⟨3, i⟩, b⟩) (x3 := ⟨2, 12, ya, yb⟩) ht rfl hbar hh)
      · exact to_enc rfl (lk 14 rfl) .rfl rfl .rfl rfl (e16o2r3_t13 (x := ⟨2, k, ⟨3, i⟩, b⟩) (x3 := ⟨2, 13, ya, yb⟩) ht rfl hbar hh)
      · exact to_enc rfl (lk 13 rfl) .rfl rfl .rfl rfl (e16o2r3_t14 (x := ⟨2, k, ⟨3, i⟩, b⟩) (x3 := ⟨2, 14, ya, yb⟩) ht rfl hbar hh)
  have ht : Pn.t16 ⟨2, yk, ya, yb⟩ ⟨2, k, ⟨r, i⟩, b⟩ = false := by simp [Pn.t16, Pn.sameY, Pn.compY, Pn.hasY, h3]
  rw [ht]
  rcases rcases_r hr with rfl | rfl | rfl | rfl | rfl
  · exact e16o2rm (x := ⟨2, k, ⟨-1, i⟩, b⟩) hbar hh
  · exact e16o2r0 (x := ⟨2, k, ⟨0, i⟩, b⟩) hbar hh
  · exact e16o2r1 (x := ⟨2, k, ⟨1, i⟩, b⟩) hbar hh
  · exact e16o2r2 (x := ⟨2, k, ⟨2, i⟩, b⟩) hbar hh
  · exact absurd rfl h3
end Go.Proofs.YtgoccionghehoaaGreatDoor.Ev
namespace Go.Proofs.YtgoccionghehoaaGreatDoor.Ev
open Go Go.Proofs

variable {W0 : World} [GOk W0]
/-- A call seen through some objects. -/
theorem call_to {f : FuncId} {m : Nat} {call : CallK} (hc : CallSound Tryz.prog W0 call) {l : List SV} {h : HS} {sv : SV} {ids : List Nat} {g1 : Tr SO} {nx : Nat} (hb : hasBody Tryz.prog f = true)
    (H : ∀ q : SV → List (Option SO) → Bool → Nat → Bool, q sv (ids.map g1.get) true h.ne = true → fnRunJ Tryz.prog f m call l h (fun s h' => q s (ids.map h'.hp.get) (Nat.ble h'.nx nx) h'.ne) = true)
    (hid : ∀ id o, g1.get id = some o → id ∈ ids) : CallOk Tryz.prog W0 f l h ⟨g1, nx, h.ne, h.bar⟩ sv ∧ ∀ id o, g1.get id = some o → id < h.nx → ∃ o0, h.hp.get id = some o0 := by
  classical
  obtain ⟨sv', h', k1, g, c⟩ := fnRunJ_ok (W0 := W0) hc mixed hb (H (fun s o b a => decide (s = sv ∧ o = ids.map g1.get ∧ b = true ∧ a = h.ne)) (by simp))
  obtain ⟨rfl, e1, e2, e3⟩ := of_decide_eq_true k1
  have e2 := Nat.le_of_ble_eq_true e2
  have hg : ∀ id o, g1.get id = some o → h'.hp.get id = some o := fun id o e => by
    rw [List.map_inj_left.1 e1 id (hid id o e)]; exact e
  have c2 := c.less (h'' := ⟨g1, nx, h'.ne, h'.bar⟩) hg e2 (Nat.le_refl _) g.nx (by rw [e3]; exact Nat.le_refl _)
  rw [e3, g.bar] at c2
  refine ⟨c2, fun id o e hlt => ?_⟩
  rcases g.live id o (hg id o e) with x | x
  · omega
  · exact x
theorem CallOk.weak {f : FuncId} {l : List SV} {h h1 h2 : HS} {sv : SV} (c : CallOk Tryz.prog W0 f l h h1 sv) (hr : ∀ E w, Rel W0 E h1.hp.get w → Rel W0 E h2.hp.get w) (nx : h2.nx = h1.nx) (ne : h2.ne = h1.ne) : CallOk Tryz.prog W0 f l h h2 sv := by
  intro E w vl rel fe hv R hR
  rw [nx, ne] at fe
  exact c E w vl rel fe hv R fun E' v w' e r st => hR E' v w' e (hr E' w' r) (by rw [nx, ne]; exact st)
theorem SoRen.rfl_id {p : Nat → Bool} {o : SO} (h : soPl p o = true) : SoRen (fun i => i) p o o := by
  cases o with
  | row n sz t =>
    refine ⟨rfl, rfl, h, ?_⟩
    refine List.map_congr_left fun i _ => ?_
    cases t.get i with
    | none => rfl
    | some s => rw [Option.map_some, svMap_id]
  | any sz => exact rfl
  | mp _ _ => cases h
  | lp _ _ _ _ _ _ _ _ => cases h
  | df => cases h
  | ml _ => cases h
/-- The record of the peeper. -/
noncomputable def pL (out : SV) : List SV := [.ptr 42 0, I 0, I (-1), nilS, .fn (.func 14) [] [.ptr 47 0], .sl 46 0 17 17, out, .bool false]
noncomputable def pO (out : SV) : Option SO := rowO 0 (pL out)
/-- The number of applications with one more. -/
def suc : Option Nat → Nat
  | none => 1
  | some n => n + 1
def outO : Option Nat → Option SO
  | none => none
  | some _ => some (.any 5)
noncomputable def HM (u : Option Nat) : Tr SO := (Tr.e.put 41 (pO (outS u))).put 51 (outO u)
noncomputable def HM1 (m : Nat) : Tr SO := (Tr.e.put 41 (pO (.sla 61 m))).put 61 (some (.any 5))
theorem mayS_tr (r i : Int) (n ne : Nat) (q : SV → List (Option SO) → Bool → Nat → Bool) : fnRunJ Tryz.prog 56 100 (cP W0) [.ptr 41 0, I r, I 0, I i] ⟨HM (some n), 60, ne, 0⟩ (fun s h' => q s ([41, 61].map h'.hp.get) (Nat.ble h'.nx 62) h'.ne) =
    bif decide (Int.ofNat n ≥ 4000) then q (.bool false) [rowO 0 [.ptr 42 0, I 0, I (-1), nilS, .fn (.func 14) [] [.ptr 47 0], .sl 46 0 17 17, .sla 51 n, .bool true], none] true ne else bif (Nat.ble ((n + 1) * 40) 140737488355328 && Nat.ble (n + 1) 9223372036854775807) then q (.bool true) ([41, 61].map (HM1 (n + 1)).get) true ne else false := by kernel_rfl
noncomputable def HM0 (r i : Int) : Tr SO := (Tr.e.put 41 (pO (.slr 61 0 1 0))).put 61 (rowO 5 [I 7, I r, I 0, I 0, I i])
theorem mayN_tr (r i : Int) (ne : Nat) (q : SV → List (Option SO) → Bool → Nat → Bool) : fnRunJ Tryz.prog 56 100 (cP W0) [.ptr 41 0, I r, I 0, I i] ⟨HM none, 60, ne, 0⟩ (fun s h' => q s ([41, 61].map h'.hp.get) (Nat.ble h'.nx 62) h'.ne) =
    q (.bool true) ([41, 61].map (HM0 r i).get) true ne := by kernel_rfl
theorem cP_ok : CallSound Tryz.prog W0 (cP W0) := callH_ok (LP := pwT) (L := []) (m := 100) mixed 30
theorem get2 {a b : Nat} {x y : Option SO} {id : Nat} {o : SO} (h : ((Tr.e.put a x).put b y).get id = some o) : id ∈ [a, b] := by
  rw [Tr.get_put, Tr.get_put, Tr.get_e] at h
  simp only [List.mem_cons, List.not_mem_nil, or_false]
  split at h
  · omega
  split at h
  · omega
  · cases h
/-- The first application's row may be forgotten. -/
theorem weak0 (r i : Int) (E : Env) (w : World) (k : Rel W0 E (HM0 r i).get w) : Rel W0 E (HM1 1).get w := by
  have o61 : (HM0 r i).get 61 = rowO 5 [I 7, I r, I 0, I 0, I i] := by kernel_rfl
  have o41 : (HM0 r i).get 41 = pO (.slr 61 0 1 0) := by kernel_rfl
  have n61 : (HM1 1).get 61 = some (.any 5) := by kernel_rfl
  have n41 : (HM1 1).get 41 = pO (.sla 61 1) := by kernel_rfl
  obtain ⟨s, a, b, c, ty, d, e, f, g⟩ := k.obj 61 _ o61
  obtain ⟨s4, a4, b4, c4, ty4, d4, e4, f4, g4⟩ := k.obj 41 _ o41
  have hcap : 1 ≤ s.cap := by
    rcases f.2 with q | q
    · cases q
    · have q : 5 ≤ s.cap * 5 := q
      omega
  have hm : ∀ id o, (HM1 1).get id = some o → id = 41 ∨ id = 61 := fun id o h => by
    have := get2 h
    simpa using this
  have hh : ∀ id o, (HM1 1).get id = some o → ∃ o0, (HM0 r i).get id = some o0 := fun id o h => by
    rcases hm id o h with rfl | rfl
    · exact ⟨_, o41⟩
    · exact ⟨_, o61⟩
  refine ⟨k.below, fun id o h => ?_, fun id id' o o' s s' h h' => ?_, k.fz, fun j a z id o s e h => ?_⟩
  · rcases hm id o h with rfl | rfl
    · rw [n41] at h
      obtain rfl := Option.some.inj h
      refine ⟨s4, a4, b4, c4, ty4, d4, e4, f4, fun t ht => ?_⟩
      have g4 : ∀ t, t < 8 → cellOk E (trOf (pL (.slr 61 0 1 0)) 0 .e) t c4[s4.base + t]? := g4
      have ht : t < 8 := ht
      show cellOk E (trOf (pL (.sla 61 1)) 0 .e) t c4[s4.base + t]?
      obtain ⟨sv, v, x1, x2, x3, x4⟩ := g4 t ht
      by_cases h6 : t = 6
      · subst h6
        have y : (trOf (pL (.slr 61 0 1 0)) 0 .e).get 6 = some (.slr 61 0 1 0) := by kernel_rfl
        rw [y] at x1
        obtain rfl := Option.some.inj x1
        refine ⟨.sla 61 1, v, by kernel_rfl, ?_, x3, x4⟩
        simp only [val, a, Option.map_some, Option.some.injEq, Option.bind_some] at x2 ⊢
        rw [if_pos hcap]
        rw [← x2]
        rfl
      · have y : (trOf (pL (.sla 61 1)) 0 .e).get t = (trOf (pL (.slr 61 0 1 0)) 0 .e).get t := by
          have : t = 0 ∨ t = 1 ∨ t = 2 ∨ t = 3 ∨ t = 4 ∨ t = 5 ∨ t = 7 := by omega
          rcases this with rfl | rfl | rfl | rfl | rfl | rfl | rfl <;> rfl
        exact ⟨sv, v, y.trans x1, x2, x3, x4⟩
    · rw [n61] at h
      obtain rfl := Option.some.inj h
      exact ⟨s, a, b, c, ty, d, f.1⟩
  · obtain ⟨o1, h1⟩ := hh id o h
    obtain ⟨o1', h1'⟩ := hh id' o' h'
    exact k.inj id id' o1 o1' s s' h1 h1'
  · obtain ⟨o1, h1⟩ := hh id o h
    exact k.frz j a z id o1 s e h1
theorem may_at (u : Option Nat) (hu : suc u ≤ 4000) (r i : Int) (ne : Nat) : CallOk Tryz.prog W0 56 [.ptr 41 0, I r, I 0, I i] ⟨HM u, 60, ne, 0⟩ ⟨HM1 (suc u), 62, ne, 0⟩ (.bool true) := by
  cases u with
  | none =>
    have c := (call_to (W0 := W0) (ids := [41, 61]) (g1 := HM0 r i) (nx := 62) (h := ⟨HM none, 60, ne, 0⟩) (sv := .bool true) cP_ok (by kernel_rfl) (fun q hq => (mayN_tr r i ne q).trans hq) (fun id o h => get2 h)).1
    exact c.weak (h2 := ⟨HM1 1, 62, ne, 0⟩) (weak0 r i) rfl rfl
  | some n =>
    have hu : n + 1 ≤ 4000 := hu
    refine (call_to (W0 := W0) (ids := [41, 61]) (g1 := HM1 (n + 1)) (nx := 62) (h := ⟨HM (some n), 60, ne, 0⟩) (sv := .bool true) cP_ok (by kernel_rfl) (fun q hq => (mayS_tr r i n ne q).trans ?_) (fun id o h => get2 h)).1
    rw [decide_eq_false (by show ¬ ((n : Int) ≥ 4000); omega), cond_false, Nat.ble_eq_true_of_le (by omega), Nat.ble_eq_true_of_le (by omega)]
    exact hq
/-- One more application, from any heap with the record. -/
theorem may_ok (u : Option Nat) (hu : suc u ≤ 4000) (r i : Int) {h : HS} (h41 : h.hp.get 41 = pO (outS u)) (h51 : h.hp.get 51 = outO u) (hbar : h.bar ≤ 41) (hn : h.nx ≤ 100) (hn0 : 60 ≤ h.nx) (hd : ∀ id o, h.hp.get id = some o → id < h.nx) :
    grd Tryz.prog W0 56 [.ptr 41 0, I r, I 0, I i] h (.bool true, ⟨((h.hp.put 41 (pO (.sla 100 (suc u)))).put 51 none).put 100 (some (.any 5)), 101, h.ne, h.bar⟩) = true := by
  refine grd_of ⟨fun id hid => ?_, rfl, by show h.nx ≤ 101; omega, Nat.le_refl _, fun id o e => ?_⟩ ?_
  · show (((h.hp.put 41 (pO (.sla 100 (suc u)))).put 51 none).put 100 (some (.any 5))).get id = _
    rw [Tr.get_put, if_neg (by omega), Tr.get_put, if_neg (by omega), Tr.get_put, if_neg (by omega)]
  · have e : (((h.hp.put 41 (pO (.sla 100 (suc u)))).put 51 none).put 100 (some (.any 5))).get id = some o := e
    show (h.nx ≤ id ∧ id < 101) ∨ _
    rw [Tr.get_put, Tr.get_put, Tr.get_put] at e
    split at e
    · exact .inl ⟨by omega, by omega⟩
    split at e
    · cases e
    split at e
    · rename_i q; subst q; exact .inr ⟨_, h41⟩
    · exact .inr ⟨o, e⟩
  refine CallOk.place (τ := fun i => i) (ρ := fun i => if i = 100 then 61 else i) (p0 := fun i => Nat.blt i 60) (p := fun i => [41, 42, 46, 47, 100].any (Nat.beq i)) (g := HM u) (g1 := HM1 (suc u)) (n := 60) (n1 := 62) (b := 0) (l := [.ptr 41 0, I r, I 0, I i]) (sv := .bool true) (fun ne => may_at u hu r i ne) (fun id o e hid => ?_) ⟨fun id o2 e => ?_, fun id o2 e => ?_, fun id id' _ _ e => e⟩ (fun id e => blt_lt e) (svsMap_id _) rfl (fun id o _ e => ?_) (fun id e => ?_) (fun id o e => ?_) (fun id id' e e' q => ?_) rfl rfl (by show h.nx ≤ 101; omega) rfl
  · have m := get2 e
    simp only [List.mem_cons, List.not_mem_nil, or_false] at m
    rcases m with rfl | rfl
    · exact ⟨_, show (HM u).get 41 = pO (outS u) by kernel_rfl⟩
    · omega
  · have m := get2 e
    simp only [List.mem_cons, List.not_mem_nil, or_false] at m
    rcases m with rfl | rfl
    · have e' : pO (outS u) = some o2 := e
      refine ⟨o2, by rw [h41]; exact e', SoRen.rfl_id ?_⟩
      obtain rfl := Option.some.inj e'
      cases u <;> kernel_rfl
    · have e' : outO u = some o2 := e
      refine ⟨o2, by rw [h51]; exact e', SoRen.rfl_id ?_⟩
      cases u with
      | none => cases e'
      | some n => obtain rfl := Option.some.inj e'; rfl
  · have m := get2 e
    simp only [List.mem_cons, List.not_mem_nil, or_false] at m
    rcases m with rfl | rfl <;> rfl
  · have m := get2 e
    simp only [List.mem_cons, List.not_mem_nil, or_false] at m
    show h.bar ≤ id
    omega
  · have e : id = 41 ∨ id = 42 ∨ id = 46 ∨ id = 47 ∨ id = 100 := by simpa using e
    show (id < h.nx ∧ (if id = 100 then 61 else id) < 60 ∧ (if id = 100 then 61 else id) = id) ∨ (h.nx ≤ id ∧ id < 101 ∧ 60 ≤ (if id = 100 then 61 else id) ∧ (if id = 100 then 61 else id) < 62)
    rcases e with rfl | rfl | rfl | rfl | rfl <;> simp <;> omega
  · have e2 : (((h.hp.put 41 (pO (.sla 100 (suc u)))).put 51 none).put 100 (some (.any 5))).get id = some o := e
    rw [Tr.get_put, Tr.get_put, Tr.get_put] at e2
    by_cases q1 : id = 100
    · rw [if_pos q1] at e2
      obtain rfl := Option.some.inj e2
      subst q1
      exact .inl ⟨rfl, .any 5, show (HM1 (suc u)).get 61 = some (.any 5) by kernel_rfl, rfl⟩
    rw [if_neg q1] at e2
    by_cases q2 : id = 51
    · rw [if_pos q2] at e2; cases e2
    rw [if_neg q2] at e2
    by_cases q3 : id = 41
    · rw [if_pos q3] at e2
      obtain rfl := Option.some.inj e2
      subst q3
      exact .inl ⟨rfl, _, show (HM1 (suc u)).get 41 = pO (.sla 61 (suc u)) by kernel_rfl, rfl, rfl, by kernel_rfl, by kernel_rfl⟩
    · rw [if_neg q3] at e2
      refine .inr ⟨fun i o' e' => ?_, hd id o e2, e2⟩
      have m := get2 e'
      simp only [List.mem_cons, List.not_mem_nil, or_false] at m
      show i ≠ id
      omega
  · have e : id = 41 ∨ id = 42 ∨ id = 46 ∨ id = 47 ∨ id = 100 := by simpa using e
    have e' : id' = 41 ∨ id' = 42 ∨ id' = 46 ∨ id' = 47 ∨ id' = 100 := by simpa using e'
    have q : (if id = 100 then 61 else id) = (if id' = 100 then 61 else id') := q
    rcases e with rfl | rfl | rfl | rfl | rfl <;> rcases e' with rfl | rfl | rfl | rfl | rfl <;> first | rfl | (revert q; decide)
end Go.Proofs.YtgoccionghehoaaGreatDoor.Ev
namespace Go.Proofs.YtgoccionghehoaaGreatDoor.Pn
/-- The rules' tests and what they make. -/
def tts (y x : In) : Nat → Bool
  | 0 => t1 x
  | 1 => t2 x
  | 2 => t3 x
  | 3 => t4 x
  | 4 => t5 x
  | 5 => t6 x
  | 6 => t7 x
  | 7 => t8 x
  | 8 => t9 x
  | 9 => t10 y x
  | 10 => t11 y x
  | 11 => t12 y x
  | 12 => t13 y x
  | 13 => t14 y x
  | 14 => t15 y x
  | 15 => t16 y x
  | _ => false
def nns (y x : In) : Nat → In
  | 0 => n1 x
  | 1 => n2 x
  | 2 => n3 x
  | 3 => n4 x
  | 4 => n5 x
  | 5 => n6 x
  | 6 => n7 x
  | 7 => n8 x
  | 8 => n9 x
  | 9 => n10 y x
  | 10 => n11 y x
  | 11 => n12 y x
  | 12 => n13 y x
  | 13 => n14 y x
  | 14 => n15 y x
  | 15 => n16 y x
  | _ => x
theorem lt_cases {P : Nat → Prop} {j : Nat} (h : ∀ m, m < j → P m) (k : P j) : ∀ m, m < j + 1 → P m := fun m hm => by
  by_cases e : m = j
  · rw [e]; exact k
  · exact h m (by omega)
theorem step_some {y x n : In} {r : Nat} (h : step y x = some (r, n)) : ∃ j, j < 16 ∧ (∀ m, m < j → tts y x m = false) ∧ tts y x j = true ∧ n = nns y x j := by
  unfold step at h
  have h0 : ∀ m, m < 0 → tts y x m = false := fun m hm => absurd hm (by omega)
  by_cases c1 : t1 x = true
  · rw [if_pos c1] at h
    simp only [Option.some.injEq, Prod.mk.injEq] at h
    exact ⟨0, by omega, h0, c1, h.2.symm⟩
  rw [if_neg c1] at h
  have h1 : ∀ m, m < 1 → tts y x m = false := lt_cases h0 (show tts y x 0 = false from Bool.eq_false_iff.2 c1)
  by_cases c2 : t2 x = true
  · rw [if_pos c2] at h
    simp only [Option.some.injEq, Prod.mk.injEq] at h
    exact ⟨1, by omega, h1, c2, h.2.symm⟩
  rw [if_neg c2] at h
  have h2 : ∀ m, m < 2 → tts y x m = false := lt_cases h1 (show tts y x 1 = false from Bool.eq_false_iff.2 c2)
  by_cases c3 : t3 x = true
  · rw [if_pos c3] at h
    simp only [Option.some.injEq, Prod.mk.injEq] at h
    exact ⟨2, by omega, h2, c3, h.2.symm⟩
  rw [if_neg c3] at h
  have h3 : ∀ m, m < 3 → tts y x m = false := lt_cases h2 (show tts y x 2 = false from Bool.eq_false_iff.2 c3)
  by_cases c4 : t4 x = true
  · rw [if_pos c4] at h
    simp only [Option.some.injEq, Prod.mk.injEq] at h
    exact ⟨3, by omega, h3, c4, h.2.symm⟩
  rw [if_neg c4] at h
  have h4 : ∀ m, m < 4 → tts y x m = false := lt_cases h3 (show tts y x 3 = false from Bool.eq_false_iff.2 c4)
  by_cases c5 : t5 x = true
  · rw [if_pos c5] at h
    simp only [Option.some.injEq, Prod.mk.injEq] at h
    exact ⟨4, by omega, h4, c5, h.2.symm⟩
  rw [if_neg c5] at h
  have h5 : ∀ m, m < 5 → tts y x m = false := lt_cases h4 (show tts y x 4 = false from Bool.eq_false_iff.2 c5)
  by_cases c6 : t6 x = true
  · rw [if_pos c6] at h
    simp only [Option.some.injEq, Prod.mk.injEq] at h
    exact ⟨5, by omega, h5, c6, h.2.symm⟩
  rw [if_neg c6] at h
  have h6 : ∀ m, m < 6 → tts y x m = false := lt_cases h5 (show tts y x 5 = false from Bool.eq_false_iff.2 c6)
  by_cases c7 : t7 x = true
  · rw [if_pos c7] at h
    simp only [Option.some.injEq, Prod.mk.injEq] at h
    exact ⟨6, by omega, h6, c7, h.2.symm⟩
  rw [if_neg c7] at h
  have h7 : ∀ m, m < 7 → tts y x m = false := lt_cases h6 (show tts y x 6 = false from Bool.eq_false_iff.2 c7)
  by_cases c8 : t8 x = true
  · rw [if_pos c8] at h
    simp only [Option.some.injEq, Prod.mk.injEq] at h
    exact ⟨7, by omega, h7, c8, h.2.symm⟩
  rw [if_neg c8] at h
  have h8 : ∀ m, m < 8 → tts y x m = false := lt_cases h7 (show tts y x 7 = false from Bool.eq_false_iff.2 c8)
  by_cases c9 : t9 x = true
  · rw [if_pos c9] at h
    simp only [Option.some.injEq, Prod.mk.injEq] at h
    exact ⟨8, by omega, h8, c9, h.2.symm⟩
  rw [if_neg c9] at h
  have h9 : ∀ m, m < 9 → tts y x m = false := lt_cases h8 (show tts y x 8 = false from Bool.eq_false_iff.2 c9)
  by_cases c10 : t10 y x = true
  · rw [if_pos c10] at h
    simp only [Option.some.injEq, Prod.mk.injEq] at h
    exact ⟨9, by omega, h9, c10, h.2.symm⟩
  rw [if_neg c10] at h
  have h10 : ∀ m, m < 10 → tts y x m = false := lt_cases h9 (show tts y x 9 = false from Bool.eq_false_iff.2 c10)
  by_cases c11 : t11 y x = true
  · rw [if_pos c11] at h
    simp only [Option.some.injEq, Prod.mk.injEq] at h
    exact ⟨10, by omega, h10, c11, h.2.symm⟩
  rw [if_neg c11] at h
  have h11 : ∀ m, m < 11 → tts y x m = false := lt_cases h10 (show tts y x 10 = false from Bool.eq_false_iff.2 c11)
  by_cases c12 : t12 y x = true
  · rw [if_pos c12] at h
    simp only [Option.some.injEq, Prod.mk.injEq] at h
    exact ⟨11, by omega, h11, c12, h.2.symm⟩
  rw [if_neg c12] at h
  have h12 : ∀ m, m < 12 → tts y x m = false := lt_cases h11 (show tts y x 11 = false from Bool.eq_false_iff.2 c12)
  by_cases c13 : t13 y x = true
  · rw [if_pos c13] at h
    simp only [Option.some.injEq, Prod.mk.injEq] at h
    exact ⟨12, by omega, h12, c13, h.2.symm⟩
  rw [if_neg c13] at h
  have h13 : ∀ m, m < 13 → tts y x m = false := lt_cases h12 (show tts y x 12 = false from Bool.eq_false_iff.2 c13)
  by_cases c14 : t14 y x = true
  · rw [if_pos c14] at h
    simp only [Option.some.injEq, Prod.mk.injEq] at h
    exact ⟨13, by omega, h13, c14, h.2.symm⟩
  rw [if_neg c14] at h
  have h14 : ∀ m, m < 14 → tts y x m = false := lt_cases h13 (show tts y x 13 = false from Bool.eq_false_iff.2 c14)
  by_cases c15 : t15 y x = true
  · rw [if_pos c15] at h
    simp only [Option.some.injEq, Prod.mk.injEq] at h
    exact ⟨14, by omega, h14, c15, h.2.symm⟩
  rw [if_neg c15] at h
  have h15 : ∀ m, m < 15 → tts y x m = false := lt_cases h14 (show tts y x 14 = false from Bool.eq_false_iff.2 c15)
  by_cases c16 : t16 y x = true
  · rw [if_pos c16] at h
    simp only [Option.some.injEq, Prod.mk.injEq] at h
    exact ⟨15, by omega, h15, c16, h.2.symm⟩
  rw [if_neg c16] at h
  have h16 : ∀ m, m < 16 → tts y x m = false := lt_cases h15 (show tts y x 15 = false from Bool.eq_false_iff.2 c16)
  cases h
theorem step_none {y x : In} (h : step y x = none) : ∀ m, m < 17 → tts y x m = false := by
  unfold step at h
  have h0 : ∀ m, m < 0 → tts y x m = false := fun m hm => absurd hm (by omega)
  by_cases c1 : t1 x = true
  · rw [if_pos c1] at h; cases h
  rw [if_neg c1] at h
  have h1 : ∀ m, m < 1 → tts y x m = false := lt_cases h0 (show tts y x 0 = false from Bool.eq_false_iff.2 c1)
  by_cases c2 : t2 x = true
  · rw [if_pos c2] at h; cases h
  rw [if_neg c2] at h
  have h2 : ∀ m, m < 2 → tts y x m = false := lt_cases h1 (show tts y x 1 = false from Bool.eq_false_iff.2 c2)
  by_cases c3 : t3 x = true
  · rw [if_pos c3] at h; cases h
  rw [if_neg c3] at h
  have h3 : ∀ m, m < 3 → tts y x m = false := lt_cases h2 (show tts y x 2 = false from Bool.eq_false_iff.2 c3)
  by_cases c4 : t4 x = true
  · rw [if_pos c4] at h; cases h
  rw [if_neg c4] at h
  have h4 : ∀ m, m < 4 → tts y x m = false := lt_cases h3 (show tts y x 3 = false from Bool.eq_false_iff.2 c4)
  by_cases c5 : t5 x = true
  · rw [if_pos c5] at h; cases h
  rw [if_neg c5] at h
  have h5 : ∀ m, m < 5 → tts y x m = false := lt_cases h4 (show tts y x 4 = false from Bool.eq_false_iff.2 c5)
  by_cases c6 : t6 x = true
  · rw [if_pos c6] at h; cases h
  rw [if_neg c6] at h
  have h6 : ∀ m, m < 6 → tts y x m = false := lt_cases h5 (show tts y x 5 = false from Bool.eq_false_iff.2 c6)
  by_cases c7 : t7 x = true
  · rw [if_pos c7] at h; cases h
  rw [if_neg c7] at h
  have h7 : ∀ m, m < 7 → tts y x m = false := lt_cases h6 (show tts y x 6 = false from Bool.eq_false_iff.2 c7)
  by_cases c8 : t8 x = true
  · rw [if_pos c8] at h; cases h
  rw [if_neg c8] at h
  have h8 : ∀ m, m < 8 → tts y x m = false := lt_cases h7 (show tts y x 7 = false from Bool.eq_false_iff.2 c8)
  by_cases c9 : t9 x = true
  · rw [if_pos c9] at h; cases h
  rw [if_neg c9] at h
  have h9 : ∀ m, m < 9 → tts y x m = false := lt_cases h8 (show tts y x 8 = false from Bool.eq_false_iff.2 c9)
  by_cases c10 : t10 y x = true
  · rw [if_pos c10] at h; cases h
  rw [if_neg c10] at h
  have h10 : ∀ m, m < 10 → tts y x m = false := lt_cases h9 (show tts y x 9 = false from Bool.eq_false_iff.2 c10)
  by_cases c11 : t11 y x = true
  · rw [if_pos c11] at h; cases h
  rw [if_neg c11] at h
  have h11 : ∀ m, m < 11 → tts y x m = false := lt_cases h10 (show tts y x 10 = false from Bool.eq_false_iff.2 c11)
  by_cases c12 : t12 y x = true
  · rw [if_pos c12] at h; cases h
  rw [if_neg c12] at h
  have h12 : ∀ m, m < 12 → tts y x m = false := lt_cases h11 (show tts y x 11 = false from Bool.eq_false_iff.2 c12)
  by_cases c13 : t13 y x = true
  · rw [if_pos c13] at h; cases h
  rw [if_neg c13] at h
  have h13 : ∀ m, m < 13 → tts y x m = false := lt_cases h12 (show tts y x 12 = false from Bool.eq_false_iff.2 c13)
  by_cases c14 : t14 y x = true
  · rw [if_pos c14] at h; cases h
  rw [if_neg c14] at h
  have h14 : ∀ m, m < 14 → tts y x m = false := lt_cases h13 (show tts y x 13 = false from Bool.eq_false_iff.2 c14)
  by_cases c15 : t15 y x = true
  · rw [if_pos c15] at h; cases h
  rw [if_neg c15] at h
  have h15 : ∀ m, m < 15 → tts y x m = false := lt_cases h14 (show tts y x 14 = false from Bool.eq_false_iff.2 c15)
  by_cases c16 : t16 y x = true
  · rw [if_pos c16] at h; cases h
  rw [if_neg c16] at h
  have h16 : ∀ m, m < 16 → tts y x m = false := lt_cases h15 (show tts y x 15 = false from Bool.eq_false_iff.2 c16)
  exact lt_cases h16 rfl
end Go.Proofs.YtgoccionghehoaaGreatDoor.Pn
namespace Go.Proofs.YtgoccionghehoaaGreatDoor.Ev
open Go Go.Proofs

variable {W0 : World} [GOk W0]
theorem ok_all {o4 to : Int} {x y x4 : Pn.In} {u : Option Nat} (hx : Pn.IOk 3 x) (h2 : x.op = 2) (hy : Pn.IOk 2 y) (m : Nat) (hm : m < 17) : RuleOk W0 y.op o4 y x4 u to x (38 + m) (Pn.tts y x m) (Pn.nns y x m) := by
  have k := hx.k1 h2
  have : m = 0 ∨ m = 1 ∨ m = 2 ∨ m = 3 ∨ m = 4 ∨ m = 5 ∨ m = 6 ∨ m = 7 ∨ m = 8 ∨ m = 9 ∨ m = 10 ∨ m = 11 ∨ m = 12 ∨ m = 13 ∨ m = 14 ∨ m = 15 ∨ m = 16 := by omega
  rcases this with rfl | rfl | rfl | rfl | rfl | rfl | rfl | rfl | rfl | rfl | rfl | rfl | rfl | rfl | rfl | rfl | rfl
  · exact ok1 h2 k.1 k.2.1
  · exact ok2 
  · exact ok3 
  · exact ok4 
  · exact ok5 
  · exact ok6 
  · exact ok7 
  · exact ok8 k.2.2.i
  · exact ok9 
  · exact ok10 hx h2 hy
  · exact ok11 hx h2 hy
  · exact ok12 hx h2 hy
  · exact ok13 hx h2 hy
  · exact ok14 hx h2 hy
  · exact ok15 hx h2 hy
  · exact ok16 hx h2 hy
  · exact ok17 k.2.2.i
noncomputable def rO (m : Nat) : Option SO := rowO 0 [I m, .fn (.func (37 + m)) [] []]
noncomputable def zO : Option SO := rowO 0 (cI (I 0) (I 0) (I 0) (I 0) (I 0) (I 0) (I 0))
/-- The objects that are read, and the row of the applications. -/
noncomputable def HB (o3 o4 : Int) (x3 x4 : Pn.In) (u : Option Nat) : Tr SO := (HR o3 o4 x3 x4 (outS u)).put 51 (outO u)
/-- Behind m rules that could not be applied. -/
noncomputable def HAr : Nat → Tr SO → Tr SO
  | 0, g => g
  | m + 1, g => ((HAr m g).put (60 + 2 * m) (rO (m + 1))).put (61 + 2 * m) zO
noncomputable def HAc (m : Nat) (g : Tr SO) : Tr SO := (HAr m g).put (60 + 2 * m) (rO (m + 1))
noncomputable def HAm (m : Nat) (g : Tr SO) (to : Int) (n : Pn.In) : Tr SO := (HAc m g).put (61 + 2 * m) (rowO 0 (enc n.op to n))
section
variable (W0 : World) [GOk W0] (g : Tr SO) (ne : Nat) (to : Int) (x n : Pn.In) (u : Option Nat)
noncomputable def gz (m : Nat) : Bool := grd Tryz.prog W0 (38 + m) [.ptr 41 0, .agg (enc 2 to x)] ⟨HAc m g, 61 + 2 * m, ne, 61 + 2 * m⟩ (zeroV, ⟨HAc m g, 61 + 2 * m, ne, 61 + 2 * m⟩)
noncomputable def gy (m : Nat) : Bool := grd Tryz.prog W0 (38 + m) [.ptr 41 0, .agg (enc 2 to x)] ⟨HAc m g, 61 + 2 * m, ne, 61 + 2 * m⟩ (someV (enc n.op to n), ⟨HAc m g, 61 + 2 * m, ne, 61 + 2 * m⟩)
noncomputable def gm (m : Nat) : Bool := grd Tryz.prog W0 56 [.ptr 41 0, I (m + 1 : Nat), I 0, I to] ⟨HAm m g to n, 62 + 2 * m, ne, 0⟩ (.bool true, ⟨(((HAm m g to n).put 41 (pO (.sla 100 (suc u)))).put 51 none).put 100 (some (.any 5)), 101, ne, 0⟩)
noncomputable def nz : Nat → Bool → Bool
  | 0, b => b
  | k + 1, b => nz k (andR b (gz W0 g ne to x k))
end
noncomputable def mayG (u : Option Nat) : Nat × (List SV → HS → GR) := (56, fun _ h => ⟨true, .bool true, .bool false, ⟨((h.hp.put 41 (pO (.sla 100 (suc u)))).put 51 none).put 100 (some (.any 5)), 101, h.ne, h.bar⟩⟩)
noncomputable def gt (j : Nat) (n : Pn.In) (to : Int) (m : Nat) : Nat × (List SV → HS → GR) := (38 + m, fun _ h => ⟨Nat.beq j m, someV (enc n.op to n), zeroV, h⟩)
noncomputable def gts (j : Nat) (n : Pn.In) (to : Int) (u : Option Nat) : GdT := [gt j n to 0, gt j n to 1, gt j n to 2, gt j n to 3, gt j n to 4, gt j n to 5, gt j n to 6, gt j n to 7, gt j n to 8, gt j n to 9, gt j n to 10, gt j n to 11, gt j n to 12, gt j n to 13, gt j n to 14, gt j n to 15, gt j n to 16, mayG u]
noncomputable abbrev cK (W0 : World) [GOk W0] (j : Nat) (n : Pn.In) (to : Int) (u : Option Nat) : CallK := callG Tryz.prog W0 (gts j n to u) 100 30
theorem cK_ok {j : Nat} {n : Pn.In} {to : Int} {u : Option Nat} : CallSound Tryz.prog W0 (cK W0 j n to u) := callG_ok mixed 30
/-- Behind the application. -/
noncomputable def HZ (o3 o4 : Int) (x3 x4 : Pn.In) (m : Nat) : Tr SO := (HR o3 o4 x3 x4 (.sla 100 m)).put 100 (some (.any 5))
def idsZ : List Nat := [41, 42, 43, 44, 46, 47, 100]
def idsB : List Nat := [41, 42, 43, 44, 46, 47, 51]
theorem ap3_0 (o4 : Int) (x x4 n : Pn.In) (u : Option Nat) (ne : Nat) (q : SV → List (Option SO) → Bool → Nat → Bool) : fnRunJ Tryz.prog 18 100 (cK W0 0 n 3 u) [.ptr 41 0, I 0, I 3] ⟨HB 2 o4 x x4 u, 60, ne, 0⟩ (fun s h' => q s (idsZ.map h'.hp.get) (Nat.ble h'.nx 101) h'.ne) = nz W0 (HB 2 o4 x x4 u) ne 3 x 0 (andR (andR (q (.bool true) (idsZ.map (HZ n.op o4 n x4 (suc u)).get) true ne) (gm W0 (HB 2 o4 x x4 u) ne 3 n u 0)) (gy W0 (HB 2 o4 x x4 u) ne 3 x n 0)) := by kernel_rfl
theorem ap3_1 (o4 : Int) (x x4 n : Pn.In) (u : Option Nat) (ne : Nat) (q : SV → List (Option SO) → Bool → Nat → Bool) : fnRunJ Tryz.prog 18 100 (cK W0 1 n 3 u) [.ptr 41 0, I 0, I 3] ⟨HB 2 o4 x x4 u, 60, ne, 0⟩ (fun s h' => q s (idsZ.map h'.hp.get) (Nat.ble h'.nx 101) h'.ne) = nz W0 (HB 2 o4 x x4 u) ne 3 x 1 (andR (andR (q (.bool true) (idsZ.map (HZ n.op o4 n x4 (suc u)).get) true ne) (gm W0 (HB 2 o4 x x4 u) ne 3 n u 1)) (gy W0 (HB 2 o4 x x4 u) ne 3 x n 1)) := by kernel_rfl
theorem ap3_2 (o4 : Int) (x x4 n : Pn.In) (u : Option Nat) (ne : Nat) (q : SV → List (Option SO) → Bool → Nat → Bool) : fnRunJ Tryz.prog 18 100 (cK W0 2 n 3 u) [.ptr 41 0, I 0, I 3] ⟨HB 2 o4 x x4 u, 60, ne, 0⟩ (fun s h' => q s (idsZ.map h'.hp.get) (Nat.ble h'.nx 101) h'.ne) = nz W0 (HB 2 o4 x x4 u) ne 3 x 2 (andR (andR (q (.bool true) (idsZ.map (HZ n.op o4 n x4 (suc u)).get) true ne) (gm W0 (HB 2 o4 x x4 u) ne 3 n u 2)) (gy W0 (HB 2 o4 x x4 u) ne 3 x n 2)) := by kernel_rfl
theorem ap3_3 (o4 : Int) (x x4 n : Pn.In) (u : Option Nat) (ne : Nat) (q : SV → List (Option SO) → Bool → Nat → Bool) : fnRunJ Tryz.prog 18 100 (cK W0 3 n 3 u) [.ptr 41 0, I 0, I 3] ⟨HB 2 o4 x x4 u, 60, ne, 0⟩ (fun s h' => q s (idsZ.map h'.hp.get) (Nat.ble h'.nx 101) h'.ne) = nz W0 (HB 2 o4 x x4 u) ne 3 x 3 (andR (andR (q (.bool true) (idsZ.map (HZ n.op o4 n x4 (suc u)).get) true ne) (gm W0 (HB 2 o4 x x4 u) ne 3 n u 3)) (gy W0 (HB 2 o4 x x4 u) ne 3 x n 3)) := by kernel_rfl
theorem ap3_4 (o4 : Int) (x x4 n : Pn.In) (u : Option Nat) (ne : Nat) (q : SV → List (Option SO) → Bool → Nat → Bool) : fnRunJ Tryz.prog 18 100 (cK W0 4 n 3 u) [.ptr 41 0, I 0, I 3] ⟨HB 2 o4 x x4 u, 60, ne, 0⟩ (fun s h' => q s (idsZ.map h'.hp.get) (Nat.ble h'.nx 101) h'.ne) = nz W0 (HB 2 o4 x x4 u) ne 3 x 4 (andR (andR (q (.bool true) (idsZ.map (HZ n.op o4 n x4 (suc u)).get) true ne) (gm W0 (HB 2 o4 x x4 u) ne 3 n u 4)) (gy W0 (HB 2 o4 x x4 u) ne 3 x n 4)) := by kernel_rfl
theorem ap3_5 (o4 : Int) (x x4 n : Pn.In) (u : Option Nat) (ne : Nat) (q : SV → List (Option SO) → Bool → Nat → Bool) : fnRunJ Tryz.prog 18 100 (cK W0 5 n 3 u) [.ptr 41 0, I 0, I 3] ⟨HB 2 o4 x x4 u, 60, ne, 0⟩ (fun s h' => q s (idsZ.map h'.hp.get) (Nat.ble h'.nx 101) h'.ne) = nz W0 (HB 2 o4 x x4 u) ne 3 x 5 (andR (andR (q (.bool true) (idsZ.map (HZ n.op o4 n x4 (suc u)).get) true ne) (gm W0 (HB 2 o4 x x4 u) ne 3 n u 5)) (gy W0 (HB 2 o4 x x4 u) ne 3 x n 5)) := by kernel_rfl
theorem ap3_6 (o4 : Int) (x x4 n : Pn.In) (u : Option Nat) (ne : Nat) (q : SV → List (Option SO) → Bool → Nat → Bool) : fnRunJ Tryz.prog 18 100 (cK W0 6 n 3 u) [.ptr 41 0, I 0, I 3] ⟨HB 2 o4 x x4 u, 60, ne, 0⟩ (fun s h' => q s (idsZ.map h'.hp.get) (Nat.ble h'.nx 101) h'.ne) = nz W0 (HB 2 o4 x x4 u) ne 3 x 6 (andR (andR (q (.bool true) (idsZ.map (HZ n.op o4 n x4 (suc u)).get) true ne) (gm W0 (HB 2 o4 x x4 u) ne 3 n u 6)) (gy W0 (HB 2 o4 x x4 u) ne 3 x n 6)) := by kernel_rfl
theorem ap3_7 (o4 : Int) (x x4 n : Pn.In) (u : Option Nat) (ne : Nat) (q : SV → List (Option SO) → Bool → Nat → Bool) : fnRunJ Tryz.prog 18 100 (cK W0 7 n 3 u) [.ptr 41 0, I 0, I 3] ⟨HB 2 o4 x x4 u, 60, ne, 0⟩ (fun s h' => q s (idsZ.map h'.hp.get) (Nat.ble h'.nx 101) h'.ne) = nz W0 (HB 2 o4 x x4 u) ne 3 x 7 (andR (andR (q (.bool true) (idsZ.map (HZ n.op o4 n x4 (suc u)).get) true ne) (gm W0 (HB 2 o4 x x4 u) ne 3 n u 7)) (gy W0 (HB 2 o4 x x4 u) ne 3 x n 7)) := by kernel_rfl
theorem ap3_8 (o4 : Int) (x x4 n : Pn.In) (u : Option Nat) (ne : Nat) (q : SV → List (Option SO) → Bool → Nat → Bool) : fnRunJ Tryz.prog 18 100 (cK W0 8 n 3 u) [.ptr 41 0, I 0, I 3] ⟨HB 2 o4 x x4 u, 60, ne, 0⟩ (fun s h' => q s (idsZ.map h'.hp.get) (Nat.ble h'.nx 101) h'.ne) = nz W0 (HB 2 o4 x x4 u) ne 3 x 8 (andR (andR (q (.bool true) (idsZ.map (HZ n.op o4 n x4 (suc u)).get) true ne) (gm W0 (HB 2 o4 x x4 u) ne 3 n u 8)) (gy W0 (HB 2 o4 x x4 u) ne 3 x n 8)) := by kernel_rfl
theorem ap3_9 (o4 : Int) (x x4 n : Pn.In) (u : Option Nat) (ne : Nat) (q : SV → List (Option SO) → Bool → Nat → Bool) : fnRunJ Tryz.prog 18 100 (cK W0 9 n 3 u) [.ptr 41 0, I 0, I 3] ⟨HB 2 o4 x x4 u, 60, ne, 0⟩ (fun s h' => q s (idsZ.map h'.hp.get) (Nat.ble h'.nx 101) h'.ne) = nz W0 (HB 2 o4 x x4 u) ne 3 x 9 (andR (andR (q (.bool true) (idsZ.map (HZ n.op o4 n x4 (suc u)).get) true ne) (gm W0 (HB 2 o4 x x4 u) ne 3 n u 9)) (gy W0 (HB 2 o4 x x4 u) ne 3 x n 9)) := by kernel_rfl
theorem ap3_10 (o4 : Int) (x x4 n : Pn.In) (u : Option Nat) (ne : Nat) (q : SV → List (Option SO) → Bool → Nat → Bool) : fnRunJ Tryz.prog 18 100 (cK W0 10 n 3 u) [.ptr 41 0, I 0, I 3] ⟨HB 2 o4 x x4 u, 60, ne, 0⟩ (fun s h' => q s (idsZ.map h'.hp.get) (Nat.ble h'.nx 101) h'.ne) = nz W0 (HB 2 o4 x x4 u) ne 3 x 10 (andR (andR (q (.bool true) (idsZ.map (HZ n.op o4 n x4 (suc u)).get) true ne) (gm W0 (HB 2 o4 x x4 u) ne 3 n u 10)) (gy W0 (HB 2 o4 x x4 u) ne 3 x n 10)) := by kernel_rfl
theorem ap3_11 (o4 : Int) (x x4 n : Pn.In) (u : Option Nat) (ne : Nat) (q : SV → List (Option SO) → Bool → Nat → Bool) : fnRunJ Tryz.prog 18 100 (cK W0 11 n 3 u) [.ptr 41 0, I 0, I 3] ⟨HB 2 o4 x x4 u, 60, ne, 0⟩ (fun s h' => q s (idsZ.map h'.hp.get) (Nat.ble h'.nx 101) h'.ne) = nz W0 (HB 2 o4 x x4 u) ne 3 x 11 (andR (andR (q (.bool true) (idsZ.map (HZ n.op o4 n x4 (suc u)).get) true ne) (gm W0 (HB 2 o4 x x4 u) ne 3 n u 11)) (gy W0 (HB 2 o4 x x4 u) ne 3 x n 11)) := by kernel_rfl
theorem ap3_12 (o4 : Int) (x x4 n : Pn.In) (u : Option Nat) (ne : Nat) (q : SV → List (Option SO) → Bool → Nat → Bool) : fnRunJ Tryz.prog 18 100 (cK W0 12 n 3 u) [.ptr 41 0, I 0, I 3] ⟨HB 2 o4 x x4 u, 60, ne, 0⟩ (fun s h' => q s (idsZ.map h'.hp.get) (Nat.ble h'.nx 101) h'.ne) = nz W0 (HB 2 o4 x x4 u) ne 3 x 12 (andR (andR (q (.bool true) (idsZ.map (HZ n.op o4 n x4 (suc u)).get) true ne) (gm W0 (HB 2 o4 x x4 u) ne 3 n u 12)) (gy W0 (HB 2 o4 x x4 u) ne 3 x n 12)) := by kernel_rfl
theorem ap3_13 (o4 : Int) (x x4 n : Pn.In) (u : Option Nat) (ne : Nat) (q : SV → List (Option SO) → Bool → Nat → Bool) : fnRunJ Tryz.prog 18 100 (cK W0 13 n 3 u) [.ptr 41 0, I 0, I 3] ⟨HB 2 o4 x x4 u, 60, ne, 0⟩ (fun s h' => q s (idsZ.map h'.hp.get) (Nat.ble h'.nx 101) h'.ne) = nz W0 (HB 2 o4 x x4 u) ne 3 x 13 (andR (andR (q (.bool true) (idsZ.map (HZ n.op o4 n x4 (suc u)).get) true ne) (gm W0 (HB 2 o4 x x4 u) ne 3 n u 13)) (gy W0 (HB 2 o4 x x4 u) ne 3 x n 13)) := by kernel_rfl
theorem ap3_14 (o4 : Int) (x x4 n : Pn.In) (u : Option Nat) (ne : Nat) (q : SV → List (Option SO) → Bool → Nat → Bool) : fnRunJ Tryz.prog 18 100 (cK W0 14 n 3 u) [.ptr 41 0, I 0, I 3] ⟨HB 2 o4 x x4 u, 60, ne, 0⟩ (fun s h' => q s (idsZ.map h'.hp.get) (Nat.ble h'.nx 101) h'.ne) = nz W0 (HB 2 o4 x x4 u) ne 3 x 14 (andR (andR (q (.bool true) (idsZ.map (HZ n.op o4 n x4 (suc u)).get) true ne) (gm W0 (HB 2 o4 x x4 u) ne 3 n u 14)) (gy W0 (HB 2 o4 x x4 u) ne 3 x n 14)) := by kernel_rfl
theorem ap3_15 (o4 : Int) (x x4 n : Pn.In) (u : Option Nat) (ne : Nat) (q : SV → List (Option SO) → Bool → Nat → Bool) : fnRunJ Tryz.prog 18 100 (cK W0 15 n 3 u) [.ptr 41 0, I 0, I 3] ⟨HB 2 o4 x x4 u, 60, ne, 0⟩ (fun s h' => q s (idsZ.map h'.hp.get) (Nat.ble h'.nx 101) h'.ne) = nz W0 (HB 2 o4 x x4 u) ne 3 x 15 (andR (andR (q (.bool true) (idsZ.map (HZ n.op o4 n x4 (suc u)).get) true ne) (gm W0 (HB 2 o4 x x4 u) ne 3 n u 15)) (gy W0 (HB 2 o4 x x4 u) ne 3 x n 15)) := by kernel_rfl
theorem ap3_n (o4 : Int) (x x4 n : Pn.In) (u : Option Nat) (ne : Nat) (q : SV → List (Option SO) → Bool → Nat → Bool) : fnRunJ Tryz.prog 18 100 (cK W0 17 n 3 u) [.ptr 41 0, I 0, I 3] ⟨HB 2 o4 x x4 u, 60, ne, 0⟩ (fun s h' => q s (idsB.map h'.hp.get) (Nat.ble h'.nx 101) h'.ne) = nz W0 (HB 2 o4 x x4 u) ne 3 x 17 (q (.bool false) (idsB.map (HB 2 o4 x x4 u).get) true ne) := by kernel_rfl
theorem ap4_0 (o3 : Int) (x x3 n : Pn.In) (u : Option Nat) (ne : Nat) (q : SV → List (Option SO) → Bool → Nat → Bool) : fnRunJ Tryz.prog 18 100 (cK W0 0 n 4 u) [.ptr 41 0, I 0, I 4] ⟨HB o3 2 x3 x u, 60, ne, 0⟩ (fun s h' => q s (idsZ.map h'.hp.get) (Nat.ble h'.nx 101) h'.ne) = nz W0 (HB o3 2 x3 x u) ne 4 x 0 (andR (andR (q (.bool true) (idsZ.map (HZ o3 n.op x3 n (suc u)).get) true ne) (gm W0 (HB o3 2 x3 x u) ne 4 n u 0)) (gy W0 (HB o3 2 x3 x u) ne 4 x n 0)) := by kernel_rfl
theorem ap4_1 (o3 : Int) (x x3 n : Pn.In) (u : Option Nat) (ne : Nat) (q : SV → List (Option SO) → Bool → Nat → Bool) : fnRunJ Tryz.prog 18 100 (cK W0 1 n 4 u) [.ptr 41 0, I 0, I 4] ⟨HB o3 2 x3 x u, 60, ne, 0⟩ (fun s h' => q s (idsZ.map h'.hp.get) (Nat.ble h'.nx 101) h'.ne) = nz W0 (HB o3 2 x3 x u) ne 4 x 1 (andR (andR (q (.bool true) (idsZ.map (HZ o3 n.op x3 n (suc u)).get) true ne) (gm W0 (HB o3 2 x3 x u) ne 4 n u 1)) (gy W0 (HB o3 2 x3 x u) ne 4 x n 1)) := by kernel_rfl
theorem ap4_2 (o3 : Int) (x x3 n : Pn.In) (u : Option Nat) (ne : Nat) (q : SV → List (Option SO) → Bool → Nat → Bool) : fnRunJ Tryz.prog 18 100 (cK W0 2 n 4 u) [.ptr 41 0, I 0, I 4] ⟨HB o3 2 x3 x u, 60, ne, 0⟩ (fun s h' => q s (idsZ.map h'.hp.get) (Nat.ble h'.nx 101) h'.ne) = nz W0 (HB o3 2 x3 x u) ne 4 x 2 (andR (andR (q (.bool true) (idsZ.map (HZ o3 n.op x3 n (suc u)).get) true ne) (gm W0 (HB o3 2 x3 x u) ne 4 n u 2)) (gy W0 (HB o3 2 x3 x u) ne 4 x n 2)) := by kernel_rfl
theorem ap4_3 (o3 : Int) (x x3 n : Pn.In) (u : Option Nat) (ne : Nat) (q : SV → List (Option SO) → Bool → Nat → Bool) : fnRunJ Tryz.prog 18 100 (cK W0 3 n 4 u) [.ptr 41 0, I 0, I 4] ⟨HB o3 2 x3 x u, 60, ne, 0⟩ (fun s h' => q s (idsZ.map h'.hp.get) (Nat.ble h'.nx 101) h'.ne) = nz W0 (HB o3 2 x3 x u) ne 4 x 3 (andR (andR (q (.bool true) (idsZ.map (HZ o3 n.op x3 n (suc u)).get) true ne) (gm W0 (HB o3 2 x3 x u) ne 4 n u 3)) (gy W0 (HB o3 2 x3 x u) ne 4 x n 3)) := by kernel_rfl
theorem ap4_4 (o3 : Int) (x x3 n : Pn.In) (u : Option Nat) (ne : Nat) (q : SV → List (Option SO) → Bool → Nat → Bool) : fnRunJ Tryz.prog 18 100 (cK W0 4 n 4 u) [.ptr 41 0, I 0, I 4] ⟨HB o3 2 x3 x u, 60, ne, 0⟩ (fun s h' => q s (idsZ.map h'.hp.get) (Nat.ble h'.nx 101) h'.ne) = nz W0 (HB o3 2 x3 x u) ne 4 x 4 (andR (andR (q (.bool true) (idsZ.map (HZ o3 n.op x3 n (suc u)).get) true ne) (gm W0 (HB o3 2 x3 x u) ne 4 n u 4)) (gy W0 (HB o3 2 x3 x u) ne 4 x n 4)) := by kernel_rfl
theorem ap4_5 (o3 : Int) (x x3 n : Pn.In) (u : Option Nat) (ne : Nat) (q : SV → List (Option SO) → Bool → Nat → Bool) : fnRunJ Tryz.prog 18 100 (cK W0 5 n 4 u) [.ptr 41 0, I 0, I 4] ⟨HB o3 2 x3 x u, 60, ne, 0⟩ (fun s h' => q s (idsZ.map h'.hp.get) (Nat.ble h'.nx 101) h'.ne) = nz W0 (HB o3 2 x3 x u) ne 4 x 5 (andR (andR (q (.bool true) (idsZ.map (HZ o3 n.op x3 n (suc u)).get) true ne) (gm W0 (HB o3 2 x3 x u) ne 4 n u 5)) (gy W0 (HB o3 2 x3 x u) ne 4 x n 5)) := by kernel_rfl
theorem ap4_6 (o3 : Int) (x x3 n : Pn.In) (u : Option Nat) (ne : Nat) (q : SV → List (Option SO) → Bool → Nat → Bool) : fnRunJ Tryz.prog 18 100 (cK W0 6 n 4 u) [.ptr 41 0, I 0, I 4] ⟨HB o3 2 x3 x u, 60, ne, 0⟩ (fun s h' => q s (idsZ.map h'.hp.get) (Nat.ble h'.nx 101) h'.ne) = nz W0 (HB o3 2 x3 x u) ne 4 x 6 (andR (andR (q (.bool true) (idsZ.map (HZ o3 n.op x3 n (suc u)).get) true ne) (gm W0 (HB o3 2 x3 x u) ne 4 n u 6)) (gy W0 (HB o3 2 x3 x u) ne 4 x n 6)) := by kernel_rfl
theorem ap4_7 (o3 : Int) (x x3 n : Pn.In) (u : Option Nat) (ne : Nat) (q : SV → List (Option SO) → Bool → Nat → Bool) : fnRunJ Tryz.prog 18 100 (cK W0 7 n 4 u) [.ptr 41 0, I 0, I 4] ⟨HB o3 2 x3 x u, 60, ne, 0⟩ (fun s h' => q s (idsZ.map h'.hp.get) (Nat.ble h'.nx 101) h'.ne) = nz W0 (HB o3 2 x3 x u) ne 4 x 7 (andR (andR (q (.bool true) (idsZ.map (HZ o3 n.op x3 n (suc u)).get) true ne) (gm W0 (HB o3 2 x3 x u) ne 4 n u 7)) (gy W0 (HB o3 2 x3 x u) ne 4 x n 7)) := by kernel_rfl
theorem ap4_8 (o3 : Int) (x x3 n : Pn.In) (u : Option Nat) (ne : Nat) (q : SV → List (Option SO) → Bool → Nat → Bool) : fnRunJ Tryz.prog 18 100 (cK W0 8 n 4 u) [.ptr 41 0, I 0, I 4] ⟨HB o3 2 x3 x u, 60, ne, 0⟩ (fun s h' => q s (idsZ.map h'.hp.get) (Nat.ble h'.nx 101) h'.ne) = nz W0 (HB o3 2 x3 x u) ne 4 x 8 (andR (andR (q (.bool true) (idsZ.map (HZ o3 n.op x3 n (suc u)).get) true ne) (gm W0 (HB o3 2 x3 x u) ne 4 n u 8)) (gy W0 (HB o3 2 x3 x u) ne 4 x n 8)) := by kernel_rfl
theorem ap4_9 (o3 : Int) (x x3 n : Pn.In) (u : Option Nat) (ne : Nat) (q : SV → List (Option SO) → Bool → Nat → Bool) : fnRunJ Tryz.prog 18 100 (cK W0 9 n 4 u) [.ptr 41 0, I 0, I 4] ⟨HB o3 2 x3 x u, 60, ne, 0⟩ (fun s h' => q s (idsZ.map h'.hp.get) (Nat.ble h'.nx 101) h'.ne) = nz W0 (HB o3 2 x3 x u) ne 4 x 9 (andR (andR (q (.bool true) (idsZ.map (HZ o3 n.op x3 n (suc u)).get) true ne) (gm W0 (HB o3 2 x3 x u) ne 4 n u 9)) (gy W0 (HB o3 2 x3 x u) ne 4 x n 9)) := by kernel_rfl
theorem ap4_10 (o3 : Int) (x x3 n : Pn.In) (u : Option Nat) (ne : Nat) (q : SV → List (Option SO) → Bool → Nat → Bool) : fnRunJ Tryz.prog 18 100 (cK W0 10 n 4 u) [.ptr 41 0, I 0, I 4] ⟨HB o3 2 x3 x u, 60, ne, 0⟩ (fun s h' => q s (idsZ.map h'.hp.get) (Nat.ble h'.nx 101) h'.ne) = nz W0 (HB o3 2 x3 x u) ne 4 x 10 (andR (andR (q (.bool true) (idsZ.map (HZ o3 n.op x3 n (suc u)).get) true ne) (gm W0 (HB o3 2 x3 x u) ne 4 n u 10)) (gy W0 (HB o3 2 x3 x u) ne 4 x n 10)) := by kernel_rfl
theorem ap4_11 (o3 : Int) (x x3 n : Pn.In) (u : Option Nat) (ne : Nat) (q : SV → List (Option SO) → Bool → Nat → Bool) : fnRunJ Tryz.prog 18 100 (cK W0 11 n 4 u) [.ptr 41 0, I 0, I 4] ⟨HB o3 2 x3 x u, 60, ne, 0⟩ (fun s h' => q s (idsZ.map h'.hp.get) (Nat.ble h'.nx 101) h'.ne) = nz W0 (HB o3 2 x3 x u) ne 4 x 11 (andR (andR (q (.bool true) (idsZ.map (HZ o3 n.op x3 n (suc u)).get) true ne) (gm W0 (HB o3 2 x3 x u) ne 4 n u 11)) (gy W0 (HB o3 2 x3 x u) ne 4 x n 11)) := by kernel_rfl
theorem ap4_12 (o3 : Int) (x x3 n : Pn.In) (u : Option Nat) (ne : Nat) (q : SV → List (Option SO) → Bool → Nat → Bool) : fnRunJ Tryz.prog 18 100 (cK W0 12 n 4 u) [.ptr 41 0, I 0, I 4] ⟨HB o3 2 x3 x u, 60, ne, 0⟩ (fun s h' => q s (idsZ.map h'.hp.get) (Nat.ble h'.nx 101) h'.ne) = nz W0 (HB o3 2 x3 x u) ne 4 x 12 (andR (andR (q (.bool true) (idsZ.map (HZ o3 n.op x3 n (suc u)).get) true ne) (gm W0 (HB o3 2 x3 x u) ne 4 n u 12)) (gy W0 (HB o3 2 x3 x u) ne 4 x n 12)) := by kernel_rfl
theorem ap4_13 (o3 : Int) (x x3 n : Pn.In) (u : Option Nat) (ne : Nat) (q : SV → List (Option SO) → Bool → Nat → Bool) : fnRunJ Tryz.prog 18 100 (cK W0 13 n 4 u) [.ptr 41 0, I 0, I 4] ⟨HB o3 2 x3 x u, 60, ne, 0⟩ (fun s h' => q s (idsZ.map h'.hp.get) (Nat.ble h'.nx 101) h'.ne) = nz W0 (HB o3 2 x3 x u) ne 4 x 13 (andR (andR (q (.bool true) (idsZ.map (HZ o3 n.op x3 n (suc u)).get) true ne) (gm W0 (HB o3 2 x3 x u) ne 4 n u 13)) (gy W0 (HB o3 2 x3 x u) ne 4 x n 13)) := by kernel_rfl
theorem ap4_14 (o3 : Int) (x x3 n : Pn.In) (u : Option Nat) (ne : Nat) (q : SV → List (Option SO) → Bool → Nat → Bool) : fnRunJ Tryz.prog 18 100 (cK W0 14 n 4 u) [.ptr 41 0, I 0, I 4] ⟨HB o3 2 x3 x u, 60, ne, 0⟩ (fun s h' => q s (idsZ.map h'.hp.get) (Nat.ble h'.nx 101) h'.ne) = nz W0 (HB o3 2 x3 x u) ne 4 x 14 (andR (andR (q (.bool true) (idsZ.map (HZ o3 n.op x3 n (suc u)).get) true ne) (gm W0 (HB o3 2 x3 x u) ne 4 n u 14)) (gy W0 (HB o3 2 x3 x u) ne 4 x n 14)) := by kernel_rfl
theorem ap4_15 (o3 : Int) (x x3 n : Pn.In) (u : Option Nat) (ne : Nat) (q : SV → List (Option SO) → Bool → Nat → Bool) : fnRunJ Tryz.prog 18 100 (cK W0 15 n 4 u) [.ptr 41 0, I 0, I 4] ⟨HB o3 2 x3 x u, 60, ne, 0⟩ (fun s h' => q s (idsZ.map h'.hp.get) (Nat.ble h'.nx 101) h'.ne) = nz W0 (HB o3 2 x3 x u) ne 4 x 15 (andR (andR (q (.bool true) (idsZ.map (HZ o3 n.op x3 n (suc u)).get) true ne) (gm W0 (HB o3 2 x3 x u) ne 4 n u 15)) (gy W0 (HB o3 2 x3 x u) ne 4 x n 15)) := by kernel_rfl
theorem ap4_n (o3 : Int) (x x3 n : Pn.In) (u : Option Nat) (ne : Nat) (q : SV → List (Option SO) → Bool → Nat → Bool) : fnRunJ Tryz.prog 18 100 (cK W0 17 n 4 u) [.ptr 41 0, I 0, I 4] ⟨HB o3 2 x3 x u, 60, ne, 0⟩ (fun s h' => q s (idsB.map h'.hp.get) (Nat.ble h'.nx 101) h'.ne) = nz W0 (HB o3 2 x3 x u) ne 4 x 17 (q (.bool false) (idsB.map (HB o3 2 x3 x u).get) true ne) := by kernel_rfl
end Go.Proofs.YtgoccionghehoaaGreatDoor.Ev
namespace Go.Proofs.YtgoccionghehoaaGreatDoor.Ev
open Go Go.Proofs

variable {W0 : World} [GOk W0]
theorem nz_true {g : Tr SO} {ne : Nat} {to : Int} {x : Pn.In} : ∀ (k : Nat) {b : Bool}, (∀ m, m < k → gz W0 g ne to x m = true) → b = true → nz W0 g ne to x k b = true
  | 0, b, _, hb => hb
  | k + 1, b, hz, hb => nz_true k (fun m hm => hz m (by omega)) (by rw [hb, hz k (by omega)]; rfl)
theorem HAr_get (g : Tr SO) : ∀ (m : Nat) (id : Nat), id < 60 → (HAr m g).get id = g.get id
  | 0, _, _ => rfl
  | m + 1, id, h => by rw [HAr, Tr.get_put, if_neg (by omega), Tr.get_put, if_neg (by omega)]; exact HAr_get g m id h
theorem HAr_lt {g : Tr SO} (hg : ∀ id o, g.get id = some o → id < 60) : ∀ (m : Nat) (id : Nat) (o : SO), (HAr m g).get id = some o → id < 60 + 2 * m
  | 0, id, o, h => hg id o h
  | m + 1, id, o, h => by
    rw [HAr, Tr.get_put] at h
    by_cases q : id = 61 + 2 * m
    · omega
    rw [if_neg q, Tr.get_put] at h
    by_cases q2 : id = 60 + 2 * m
    · omega
    rw [if_neg q2] at h
    have := HAr_lt hg m id o h
    omega
theorem HAc_get (g : Tr SO) (m : Nat) (id : Nat) (h : id < 60) : (HAc m g).get id = g.get id := by
  rw [HAc, Tr.get_put, if_neg (by omega)]; exact HAr_get g m id h
theorem HAm_get (g : Tr SO) (m : Nat) (to : Int) (n : Pn.In) (id : Nat) (h : id < 60) : (HAm m g to n).get id = g.get id := by
  rw [HAm, Tr.get_put, if_neg (by omega)]; exact HAc_get g m id h
theorem HAm_lt {g : Tr SO} (hg : ∀ id o, g.get id = some o → id < 60) (m : Nat) (to : Int) (n : Pn.In) (id : Nat) (o : SO) (h : (HAm m g to n).get id = some o) : id < 62 + 2 * m := by
  rw [HAm, Tr.get_put] at h
  by_cases q : id = 61 + 2 * m
  · omega
  rw [if_neg q, HAc, Tr.get_put] at h
  by_cases q2 : id = 60 + 2 * m
  · omega
  rw [if_neg q2] at h
  have := HAr_lt hg m id o h
  omega
section
variable {o3 o4 : Int} {x3 x4 : Pn.In} {u : Option Nat}
theorem HB_ids {id : Nat} {o : SO} (h : (HB o3 o4 x3 x4 u).get id = some o) : id ∈ idsB := by
  rw [HB, Tr.get_put] at h
  by_cases q : id = 51
  · subst q; decide
  rw [if_neg q] at h
  have := HR_ids h
  revert this
  simp only [ids, idsB, List.mem_cons, List.not_mem_nil, or_false]
  omega
theorem HB_lt (id : Nat) (o : SO) (h : (HB o3 o4 x3 x4 u).get id = some o) : id < 60 := by
  have := HB_ids h
  simp only [idsB, List.mem_cons, List.not_mem_nil, or_false] at this
  omega
theorem HB_HR (id : Nat) (o : SO) (h : (HR o3 o4 x3 x4 (outS u)).get id = some o) : (HB o3 o4 x3 x4 u).get id = some o := by
  have := HR_ids h
  simp only [ids, List.mem_cons, List.not_mem_nil, or_false] at this
  rw [HB, Tr.get_put, if_neg (by omega)]
  exact h
theorem HB_51 : (HB o3 o4 x3 x4 u).get 51 = outO u := by rw [HB, Tr.get_put, if_pos rfl]
theorem HB_41 : (HB o3 o4 x3 x4 u).get 41 = pO (outS u) := by
  rw [HB, Tr.get_put, if_neg (by decide)]
  kernel_rfl
theorem HZ_ids {m : Nat} {id : Nat} {o : SO} (h : (HZ o3 o4 x3 x4 m).get id = some o) : id ∈ idsZ := by
  rw [HZ, Tr.get_put] at h
  by_cases q : id = 100
  · subst q; decide
  rw [if_neg q] at h
  have := HR_ids h
  revert this
  simp only [ids, idsZ, List.mem_cons, List.not_mem_nil, or_false]
  omega
end
section
variable {o3 o4 : Int} {x3 x4 : Pn.In} {u : Option Nat} {to : Int} {x y n : Pn.In} {ne m : Nat}
theorem gz_ok (r : RuleOk W0 o3 o4 x3 x4 u to x (38 + m) false n) : gz W0 (HB o3 o4 x3 x4 u) ne to x m = true :=
  grd_of (Goes.refl _) (r _ trivial fun id o h => by
    have := HB_lt id o (HB_HR id o h)
    show (HAc m (HB o3 o4 x3 x4 u)).get id = some o
    rw [HAc_get _ _ _ this]
    exact HB_HR id o h)
theorem gy_ok (r : RuleOk W0 o3 o4 x3 x4 u to x (38 + m) true n) : gy W0 (HB o3 o4 x3 x4 u) ne to x n m = true :=
  grd_of (Goes.refl _) (r _ trivial fun id o h => by
    have := HB_lt id o (HB_HR id o h)
    show (HAc m (HB o3 o4 x3 x4 u)).get id = some o
    rw [HAc_get _ _ _ this]
    exact HB_HR id o h)
theorem gm_ok (hu : suc u ≤ 4000) (hm : m < 16) : gm W0 (HB o3 o4 x3 x4 u) ne to n u m = true := by
  refine may_ok (W0 := W0) u hu (m + 1 : Nat) to (h := ⟨HAm m (HB o3 o4 x3 x4 u) to n, 62 + 2 * m, ne, 0⟩) ?_ ?_ (Nat.zero_le _) (by show 62 + 2 * m ≤ 100; omega) (by show 60 ≤ 62 + 2 * m; omega) (fun id o h => HAm_lt HB_lt m to n id o h)
  · show (HAm m (HB o3 o4 x3 x4 u) to n).get 41 = _
    rw [HAm_get _ _ _ _ _ (by decide)]; exact HB_41
  · show (HAm m (HB o3 o4 x3 x4 u) to n).get 51 = _
    rw [HAm_get _ _ _ _ _ (by decide)]; exact HB_51
end
abbrev Pure18 (W0 : World) [GOk W0] (i : Int) (h h' : HS) (b : Bool) : Prop := CallOk Tryz.prog W0 18 [.ptr 41 0, I 0, I i] h h' (.bool b) ∧ ∀ id o, h'.hp.get id = some o → id < h.nx → ∃ o0, h.hp.get id = some o0
theorem apply3 {o4 : Int} {x x4 n : Pn.In} {u : Option Nat} {r : Nat} (hx : Pn.IOk 2 x) (h2 : x.op = 2) (hs : Pn.step x x = some (r, n)) (hu : suc u ≤ 4000) (ne : Nat) : Pure18 W0 3 ⟨HB 2 o4 x x4 u, 60, ne, 0⟩ ⟨HZ n.op o4 n x4 (suc u), 101, ne, 0⟩ true := by
  obtain ⟨j, hj, hz, ht, rfl⟩ := Pn.step_some hs
  have rk : ∀ m, m < 17 → RuleOk W0 2 o4 x x4 u 3 x (38 + m) (Pn.tts x x m) (Pn.nns x x m) := fun m hm => by
    have := ok_all (W0 := W0) (o4 := o4) (to := 3) (x4 := x4) (u := u) (Pn.IOk.mono hx (by decide)) h2 hx m hm
    rw [h2] at this
    exact this
  have kz : ∀ m, m < j → gz W0 (HB 2 o4 x x4 u) ne 3 x m = true := fun m hm => gz_ok (by have := rk m (by omega); rw [hz m hm] at this; exact this)
  have ky : gy W0 (HB 2 o4 x x4 u) ne 3 x (Pn.nns x x j) j = true := gy_ok (by have := rk j (by omega); rw [ht] at this; exact this)
  have km : gm W0 (HB 2 o4 x x4 u) ne 3 (Pn.nns x x j) u j = true := gm_ok hu hj
  have : j = 0 ∨ j = 1 ∨ j = 2 ∨ j = 3 ∨ j = 4 ∨ j = 5 ∨ j = 6 ∨ j = 7 ∨ j = 8 ∨ j = 9 ∨ j = 10 ∨ j = 11 ∨ j = 12 ∨ j = 13 ∨ j = 14 ∨ j = 15 := by omega
  rcases this with rfl | rfl | rfl | rfl | rfl | rfl | rfl | rfl | rfl | rfl | rfl | rfl | rfl | rfl | rfl | rfl
  · exact call_to (W0 := W0) (h := ⟨HB 2 o4 x x4 u, 60, ne, 0⟩) (ids := idsZ) cK_ok (by kernel_rfl) (fun q hq => (ap3_0 o4 x x4 _ u ne q).trans (nz_true _ kz (by rw [ky, km]; exact (andR_t _).trans ((andR_t _).trans hq)))) (fun id o h => HZ_ids h)
  · exact call_to (W0 := W0) (h := ⟨HB 2 o4 x x4 u, 60, ne, 0⟩) (ids := idsZ) cK_ok (by kernel_rfl) (fun q hq => (ap3_1 o4 x x4 _ u ne q).trans (nz_true _ kz (by rw [ky, km]; exact (andR_t _).trans ((andR_t _).trans hq)))) (fun id o h => HZ_ids h)
  · exact call_to (W0 := W0) (h := ⟨HB 2 o4 x x4 u, 60, ne, 0⟩) (ids := idsZ) cK_ok (by kernel_rfl) (fun q hq => (ap3_2 o4 x x4 _ u ne q).trans (nz_true _ kz (by rw [ky, km]; exact (andR_t _).trans ((andR_t _).trans hq)))) (fun id o h => HZ_ids h)
  · exact call_to (W0 := W0) (h := ⟨HB 2 o4 x x4 u, 60, ne, 0⟩) (ids := idsZ) cK_ok (by kernel_rfl) (fun q hq => (ap3_3 o4 x x4 _ u ne q).trans (nz_true _ kz (by rw [ky, km]; exact (andR_t _).trans ((andR_t _).trans hq)))) (fun id o h => HZ_ids h)
  · exact call_to (W0 := W0) (h := ⟨HB 2 o4 x x4 u, 60, ne, 0⟩) (ids := idsZ) cK_ok (by kernel_rfl) (fun q hq => (ap3_4 o4 x x4 _ u ne q).trans (nz_true _ kz (by rw [ky, km]; exact (andR_t _).trans ((andR_t _).trans hq)))) (fun id o h => HZ_ids h)
  · exact call_to (W0 := W0) (h := ⟨HB 2 o4 x x4 u, 60, ne, 0⟩) (ids := idsZ) cK_ok (by kernel_rfl) (fun q hq => (ap3_5 o4 x x4 _ u ne q).trans (nz_true _ kz (by rw [ky, km]; exact (andR_t _).trans ((andR_t _).trans hq)))) (fun id o h => HZ_ids h)
  · exact call_to (W0 := W0) (h := ⟨HB 2 o4 x x4 u, 60, ne, 0⟩) (ids := idsZ) cK_ok (by kernel_rfl) (fun q hq => (ap3_6 o4 x x4 _ u ne q).trans (nz_true _ kz (by rw [ky, km]; exact (andR_t _).trans ((andR_t _).trans hq)))) (fun id o h => HZ_ids h)
  · exact call_to (W0 := W0) (h := ⟨HB 2 o4 x x4 u, 60, ne, 0⟩) (ids := idsZ) cK_ok (by kernel_rfl) (fun q hq => (ap3_7 o4 x x4 _ u ne q).trans (nz_true _ kz (by rw [ky, km]; exact (andR_t _).trans ((andR_t _).trans hq)))) (fun id o h => HZ_ids h)
  · exact call_to (W0 := W0) (h := ⟨HB 2 o4 x x4 u, 60, ne, 0⟩) (ids := idsZ) cK_ok (by kernel_rfl) (fun q hq => (ap3_8 o4 x x4 _ u ne q).trans (nz_true _ kz (by rw [ky, km]; exact (andR_t _).trans ((andR_t _).trans hq)))) (fun id o h => HZ_ids h)
  · exact call_to (W0 := W0) (h := ⟨HB 2 o4 x x4 u, 60, ne, 0⟩) (ids := idsZ) cK_ok (by kernel_rfl) (fun q hq => (ap3_9 o4 x x4 _ u ne q).trans (nz_true _ kz (by rw [ky, km]; exact (andR_t _).trans ((andR_t _).trans hq)))) (fun id o h => HZ_ids h)
  · exact call_to (W0 := W0) (h := ⟨HB 2 o4 x x4 u, 60, ne, 0⟩) (ids := idsZ) cK_ok (by kernel_rfl) (fun q hq => (ap3_10 o4 x x4 _ u ne q).trans (nz_true _ kz (by rw [ky, km]; exact (andR_t _).trans ((andR_t _).trans hq)))) (fun id o h => HZ_ids h)
  · exact call_to (W0 := W0) (h := ⟨HB 2 o4 x x4 u, 60, ne, 0⟩) (ids := idsZ) cK_ok (by kernel_rfl) (fun q hq => (ap3_11 o4 x x4 _ u ne q).trans (nz_true _ kz (by rw [ky, km]; exact (andR_t _).trans ((andR_t _).trans hq)))) (fun id o h => HZ_ids h)
  · exact call_to (W0 := W0) (h := ⟨HB 2 o4 x x4 u, 60, ne, 0⟩) (ids := idsZ) cK_ok (by kernel_rfl) (fun q hq => (ap3_12 o4 x x4 _ u ne q).trans (nz_true _ kz (by rw [ky, km]; exact (andR_t _).trans ((andR_t _).trans hq)))) (fun id o h => HZ_ids h)
  · exact call_to (W0 := W0) (h := ⟨HB 2 o4 x x4 u, 60, ne, 0⟩) (ids := idsZ) cK_ok (by kernel_rfl) (fun q hq => (ap3_13 o4 x x4 _ u ne q).trans (nz_true _ kz (by rw [ky, km]; exact (andR_t _).trans ((andR_t _).trans hq)))) (fun id o h => HZ_ids h)
  · exact call_to (W0 := W0) (h := ⟨HB 2 o4 x x4 u, 60, ne, 0⟩) (ids := idsZ) cK_ok (by kernel_rfl) (fun q hq => (ap3_14 o4 x x4 _ u ne q).trans (nz_true _ kz (by rw [ky, km]; exact (andR_t _).trans ((andR_t _).trans hq)))) (fun id o h => HZ_ids h)
  · exact call_to (W0 := W0) (h := ⟨HB 2 o4 x x4 u, 60, ne, 0⟩) (ids := idsZ) cK_ok (by kernel_rfl) (fun q hq => (ap3_15 o4 x x4 _ u ne q).trans (nz_true _ kz (by rw [ky, km]; exact (andR_t _).trans ((andR_t _).trans hq)))) (fun id o h => HZ_ids h)
theorem apply4 {x3 x n : Pn.In} {u : Option Nat} {r : Nat} (hy : Pn.IOk 2 x3) (hx : Pn.IOk 3 x) (h2 : x.op = 2) (hs : Pn.step x3 x = some (r, n)) (hu : suc u ≤ 4000) (ne : Nat) : Pure18 W0 4 ⟨HB x3.op 2 x3 x u, 60, ne, 0⟩ ⟨HZ x3.op n.op x3 n (suc u), 101, ne, 0⟩ true := by
  obtain ⟨j, hj, hz, ht, rfl⟩ := Pn.step_some hs
  have rk : ∀ m, m < 17 → RuleOk W0 x3.op 2 x3 x u 4 x (38 + m) (Pn.tts x3 x m) (Pn.nns x3 x m) := fun m hm => ok_all (W0 := W0) (o4 := 2) (to := 4) (x4 := x) (u := u) hx h2 hy m hm
  have kz : ∀ m, m < j → gz W0 (HB x3.op 2 x3 x u) ne 4 x m = true := fun m hm => gz_ok (by have := rk m (by omega); rw [hz m hm] at this; exact this)
  have ky : gy W0 (HB x3.op 2 x3 x u) ne 4 x (Pn.nns x3 x j) j = true := gy_ok (by have := rk j (by omega); rw [ht] at this; exact this)
  have km : gm W0 (HB x3.op 2 x3 x u) ne 4 (Pn.nns x3 x j) u j = true := gm_ok hu hj
  have : j = 0 ∨ j = 1 ∨ j = 2 ∨ j = 3 ∨ j = 4 ∨ j = 5 ∨ j = 6 ∨ j = 7 ∨ j = 8 ∨ j = 9 ∨ j = 10 ∨ j = 11 ∨ j = 12 ∨ j = 13 ∨ j = 14 ∨ j = 15 := by omega
  rcases this with rfl | rfl | rfl | rfl | rfl | rfl | rfl | rfl | rfl | rfl | rfl | rfl | rfl | rfl | rfl | rfl
  · exact call_to (W0 := W0) (h := ⟨HB x3.op 2 x3 x u, 60, ne, 0⟩) (ids := idsZ) cK_ok (by kernel_rfl) (fun q hq => (ap4_0 x3.op x x3 _ u ne q).trans (nz_true _ kz (by rw [ky, km]; exact (andR_t _).trans ((andR_t _).trans hq)))) (fun id o h => HZ_ids h)
  · exact call_to (W0 := W0) (h := ⟨HB x3.op 2 x3 x u, 60, ne, 0⟩) (ids := idsZ) cK_ok (by kernel_rfl) (fun q hq => (ap4_1 x3.op x x3 _ u ne q).trans (nz_true _ kz (by rw [ky, km]; exact (andR_t _).trans ((andR_t _).trans hq)))) (fun id o h => HZ_ids h)
  · exact call_to (W0 := W0) (h := ⟨HB x3.op 2 x3 x u, 60, ne, 0⟩) (ids := idsZ) cK_ok (by kernel_rfl) (fun q hq => (ap4_2 x3.op x x3 _ u ne q).trans (nz_true _ kz (by rw [ky, km]; exact (andR_t _).trans ((andR_t _).trans hq)))) (fun id o h => HZ_ids h)
  · exact call_to (W0 := W0) (h := ⟨HB x3.op 2 x3 x u, 60, ne, 0⟩) (ids := idsZ) cK_ok (by kernel_rfl) (fun q hq => (ap4_3 x3.op x x3 _ u ne q).trans (nz_true _ kz (by rw [ky, km]; exact (andR_t _).trans ((andR_t _).trans hq)))) (fun id o h => HZ_ids h)
  · exact call_to (W0 := W0) (h := ⟨HB x3.op 2 x3 x u, 60, ne, 0⟩) (ids := idsZ) cK_ok (by kernel_rfl) (fun q hq => (ap4_4 x3.op x x3 _ u ne q).trans (nz_true _ kz (by rw [ky, km]; exact (andR_t _).trans ((andR_t _).trans hq)))) (fun id o h => HZ_ids h)
  · exact call_to (W0 := W0) (h := ⟨HB x3.op 2 x3 x u, 60, ne, 0⟩) (ids := idsZ) cK_ok (by kernel_rfl) (fun q hq => (ap4_5 x3.op x x3 _ u ne q).trans (nz_true _ kz (by rw [ky, km]; exact (andR_t _).trans ((andR_t _).trans hq)))) (fun id o h => HZ_ids h)
  · exact call_to (W0 := W0) (h := ⟨HB x3.op 2 x3 x u, 60, ne, 0⟩) (ids := idsZ) cK_ok (by kernel_rfl) (fun q hq => (ap4_6 x3.op x x3 _ u ne q).trans (nz_true _ kz (by rw [ky, km]; exact (andR_t _).trans ((andR_t _).trans hq)))) (fun id o h => HZ_ids h)
  · exact call_to (W0 := W0) (h := ⟨HB x3.op 2 x3 x u, 60, ne, 0⟩) (ids := idsZ) cK_ok (by kernel_rfl) (fun q hq => (ap4_7 x3.op x x3 _ u ne q).trans (nz_true _ kz (by rw [ky, km]; exact (andR_t _).trans ((andR_t _).trans hq)))) (fun id o h => HZ_ids h)
  · exact call_to (W0 := W0) (h := ⟨HB x3.op 2 x3 x u, 60, ne, 0⟩) (ids := idsZ) cK_ok (by kernel_rfl) (fun q hq => (ap4_8 x3.op x x3 _ u ne q).trans (nz_true _ kz (by rw [ky, km]; exact (andR_t _).trans ((andR_t _).trans hq)))) (fun id o h => HZ_ids h)
  · exact call_to (W0 := W0) (h := ⟨HB x3.op 2 x3 x u, 60, ne, 0⟩) (ids := idsZ) cK_ok (by kernel_rfl) (fun q hq => (ap4_9 x3.op x x3 _ u ne q).trans (nz_true _ kz (by rw [ky, km]; exact (andR_t _).trans ((andR_t _).trans hq)))) (fun id o h => HZ_ids h)
  · exact call_to (W0 := W0) (h := ⟨HB x3.op 2 x3 x u, 60, ne, 0⟩) (ids := idsZ) cK_ok (by kernel_rfl) (fun q hq => (ap4_10 x3.op x x3 _ u ne q).trans (nz_true _ kz (by rw [ky, km]; exact (andR_t _).trans ((andR_t _).trans hq)))) (fun id o h => HZ_ids h)
  · exact call_to (W0 := W0) (h := ⟨HB x3.op 2 x3 x u, 60, ne, 0⟩) (ids := idsZ) cK_ok (by kernel_rfl) (fun q hq => (ap4_11 x3.op x x3 _ u ne q).trans (nz_true _ kz (by rw [ky, km]; exact (andR_t _).trans ((andR_t _).trans hq)))) (fun id o h => HZ_ids h)
  · exact call_to (W0 := W0) (h := ⟨HB x3.op 2 x3 x u, 60, ne, 0⟩) (ids := idsZ) cK_ok (by kernel_rfl) (fun q hq => (ap4_12 x3.op x x3 _ u ne q).trans (nz_true _ kz (by rw [ky, km]; exact (andR_t _).trans ((andR_t _).trans hq)))) (fun id o h => HZ_ids h)
  · exact call_to (W0 := W0) (h := ⟨HB x3.op 2 x3 x u, 60, ne, 0⟩) (ids := idsZ) cK_ok (by kernel_rfl) (fun q hq => (ap4_13 x3.op x x3 _ u ne q).trans (nz_true _ kz (by rw [ky, km]; exact (andR_t _).trans ((andR_t _).trans hq)))) (fun id o h => HZ_ids h)
  · exact call_to (W0 := W0) (h := ⟨HB x3.op 2 x3 x u, 60, ne, 0⟩) (ids := idsZ) cK_ok (by kernel_rfl) (fun q hq => (ap4_14 x3.op x x3 _ u ne q).trans (nz_true _ kz (by rw [ky, km]; exact (andR_t _).trans ((andR_t _).trans hq)))) (fun id o h => HZ_ids h)
  · exact call_to (W0 := W0) (h := ⟨HB x3.op 2 x3 x u, 60, ne, 0⟩) (ids := idsZ) cK_ok (by kernel_rfl) (fun q hq => (ap4_15 x3.op x x3 _ u ne q).trans (nz_true _ kz (by rw [ky, km]; exact (andR_t _).trans ((andR_t _).trans hq)))) (fun id o h => HZ_ids h)
theorem apply3n {o4 : Int} {x x4 : Pn.In} {u : Option Nat} (hx : Pn.IOk 2 x) (h2 : x.op = 2) (hs : Pn.step x x = none) (ne : Nat) : Pure18 W0 3 ⟨HB 2 o4 x x4 u, 60, ne, 0⟩ ⟨HB 2 o4 x x4 u, 101, ne, 0⟩ false := by
  have kz : ∀ m, m < 17 → gz W0 (HB 2 o4 x x4 u) ne 3 x m = true := fun m hm => gz_ok (n := Pn.nns x x m) (by
    have := ok_all (W0 := W0) (o4 := o4) (to := 3) (x4 := x4) (u := u) (Pn.IOk.mono hx (by decide)) h2 hx m hm
    rw [h2, Pn.step_none hs m hm] at this
    exact this)
  exact call_to (W0 := W0) (h := ⟨HB 2 o4 x x4 u, 60, ne, 0⟩) (ids := idsB) cK_ok (by kernel_rfl) (fun q hq => (ap3_n o4 x x4 x u ne q).trans (nz_true _ kz hq)) (fun id o h => HB_ids h)
theorem apply4n {x3 x : Pn.In} {u : Option Nat} (hy : Pn.IOk 2 x3) (hx : Pn.IOk 3 x) (h2 : x.op = 2) (hs : Pn.step x3 x = none) (ne : Nat) : Pure18 W0 4 ⟨HB x3.op 2 x3 x u, 60, ne, 0⟩ ⟨HB x3.op 2 x3 x u, 101, ne, 0⟩ false := by
  have kz : ∀ m, m < 17 → gz W0 (HB x3.op 2 x3 x u) ne 4 x m = true := fun m hm => gz_ok (n := Pn.nns x3 x m) (by
    have := ok_all (W0 := W0) (o4 := 2) (to := 4) (x4 := x) (u := u) hx h2 hy m hm
    rw [Pn.step_none hs m hm] at this
    exact this)
  exact call_to (W0 := W0) (h := ⟨HB x3.op 2 x3 x u, 60, ne, 0⟩) (ids := idsB) cK_ok (by kernel_rfl) (fun q hq => (ap4_n x3.op x x3 x u ne q).trans (nz_true _ kz hq)) (fun id o h => HB_ids h)
theorem ac0 (o3 o4 : Int) (x3 x4 : Pn.In) (u : Option Nat) (ne : Nat) (q : SV → List (Option SO) → Bool → Nat → Bool) : fnRunJ Tryz.prog 18 100 (cP W0) [.ptr 41 0, I 0, I 0] ⟨HB o3 o4 x3 x4 u, 60, ne, 0⟩ (fun s h' => q s (idsB.map h'.hp.get) (Nat.ble h'.nx 101) h'.ne) = q (.bool false) (idsB.map (HB o3 o4 x3 x4 u).get) true ne := by kernel_rfl
theorem apply0 (o3 o4 : Int) (x3 x4 : Pn.In) (u : Option Nat) (ne : Nat) : Pure18 W0 0 ⟨HB o3 o4 x3 x4 u, 60, ne, 0⟩ ⟨HB o3 o4 x3 x4 u, 101, ne, 0⟩ false :=
  call_to (W0 := W0) (h := ⟨HB o3 o4 x3 x4 u, 60, ne, 0⟩) (ids := idsB) cP_ok (by kernel_rfl) (fun q hq => (ac0 o3 o4 x3 x4 u ne q).trans hq) (fun id o h => HB_ids h)
theorem ac1 (o3 o4 : Int) (x3 x4 : Pn.In) (u : Option Nat) (ne : Nat) (q : SV → List (Option SO) → Bool → Nat → Bool) : fnRunJ Tryz.prog 18 100 (cP W0) [.ptr 41 0, I 0, I 1] ⟨HB o3 o4 x3 x4 u, 60, ne, 0⟩ (fun s h' => q s (idsB.map h'.hp.get) (Nat.ble h'.nx 101) h'.ne) = q (.bool false) (idsB.map (HB o3 o4 x3 x4 u).get) true ne := by kernel_rfl
theorem apply1 (o3 o4 : Int) (x3 x4 : Pn.In) (u : Option Nat) (ne : Nat) : Pure18 W0 1 ⟨HB o3 o4 x3 x4 u, 60, ne, 0⟩ ⟨HB o3 o4 x3 x4 u, 101, ne, 0⟩ false :=
  call_to (W0 := W0) (h := ⟨HB o3 o4 x3 x4 u, 60, ne, 0⟩) (ids := idsB) cP_ok (by kernel_rfl) (fun q hq => (ac1 o3 o4 x3 x4 u ne q).trans hq) (fun id o h => HB_ids h)
theorem ac2 (o3 o4 : Int) (x3 x4 : Pn.In) (u : Option Nat) (ne : Nat) (q : SV → List (Option SO) → Bool → Nat → Bool) : fnRunJ Tryz.prog 18 100 (cP W0) [.ptr 41 0, I 0, I 2] ⟨HB o3 o4 x3 x4 u, 60, ne, 0⟩ (fun s h' => q s (idsB.map h'.hp.get) (Nat.ble h'.nx 101) h'.ne) = q (.bool false) (idsB.map (HB o3 o4 x3 x4 u).get) true ne := by kernel_rfl
theorem apply2 (o3 o4 : Int) (x3 x4 : Pn.In) (u : Option Nat) (ne : Nat) : Pure18 W0 2 ⟨HB o3 o4 x3 x4 u, 60, ne, 0⟩ ⟨HB o3 o4 x3 x4 u, 101, ne, 0⟩ false :=
  call_to (W0 := W0) (h := ⟨HB o3 o4 x3 x4 u, 60, ne, 0⟩) (ids := idsB) cP_ok (by kernel_rfl) (fun q hq => (ac2 o3 o4 x3 x4 u ne q).trans hq) (fun id o h => HB_ids h)
theorem ac5 (o3 o4 : Int) (x3 x4 : Pn.In) (u : Option Nat) (ne : Nat) (q : SV → List (Option SO) → Bool → Nat → Bool) : fnRunJ Tryz.prog 18 100 (cP W0) [.ptr 41 0, I 0, I 5] ⟨HB o3 o4 x3 x4 u, 60, ne, 0⟩ (fun s h' => q s (idsB.map h'.hp.get) (Nat.ble h'.nx 101) h'.ne) = q (.bool false) (idsB.map (HB o3 o4 x3 x4 u).get) true ne := by kernel_rfl
theorem apply5 (o3 o4 : Int) (x3 x4 : Pn.In) (u : Option Nat) (ne : Nat) : Pure18 W0 5 ⟨HB o3 o4 x3 x4 u, 60, ne, 0⟩ ⟨HB o3 o4 x3 x4 u, 101, ne, 0⟩ false :=
  call_to (W0 := W0) (h := ⟨HB o3 o4 x3 x4 u, 60, ne, 0⟩) (ids := idsB) cP_ok (by kernel_rfl) (fun q hq => (ac5 o3 o4 x3 x4 u ne q).trans hq) (fun id o h => HB_ids h)
theorem ac3c (o3 o4 : Int) (x3 x4 : Pn.In) (u : Option Nat) (ne : Nat) (q : SV → List (Option SO) → Bool → Nat → Bool) : fnRunJ Tryz.prog 18 100 (cP W0) [.ptr 41 0, I 0, I 3] ⟨HB 1 o4 x3 x4 u, 60, ne, 0⟩ (fun s h' => q s (idsB.map h'.hp.get) (Nat.ble h'.nx 101) h'.ne) = q (.bool false) (idsB.map (HB 1 o4 x3 x4 u).get) true ne := by kernel_rfl
theorem apply3c (o3 o4 : Int) (x3 x4 : Pn.In) (u : Option Nat) (ne : Nat) : Pure18 W0 3 ⟨HB 1 o4 x3 x4 u, 60, ne, 0⟩ ⟨HB 1 o4 x3 x4 u, 101, ne, 0⟩ false :=
  call_to (W0 := W0) (h := ⟨HB 1 o4 x3 x4 u, 60, ne, 0⟩) (ids := idsB) cP_ok (by kernel_rfl) (fun q hq => (ac3c o3 o4 x3 x4 u ne q).trans hq) (fun id o h => HB_ids h)
theorem ac4c (o3 o4 : Int) (x3 x4 : Pn.In) (u : Option Nat) (ne : Nat) (q : SV → List (Option SO) → Bool → Nat → Bool) : fnRunJ Tryz.prog 18 100 (cP W0) [.ptr 41 0, I 0, I 4] ⟨HB o3 1 x3 x4 u, 60, ne, 0⟩ (fun s h' => q s (idsB.map h'.hp.get) (Nat.ble h'.nx 101) h'.ne) = q (.bool false) (idsB.map (HB o3 1 x3 x4 u).get) true ne := by kernel_rfl
theorem apply4c (o3 o4 : Int) (x3 x4 : Pn.In) (u : Option Nat) (ne : Nat) : Pure18 W0 4 ⟨HB o3 1 x3 x4 u, 60, ne, 0⟩ ⟨HB o3 1 x3 x4 u, 101, ne, 0⟩ false :=
  call_to (W0 := W0) (h := ⟨HB o3 1 x3 x4 u, 60, ne, 0⟩) (ids := idsB) cP_ok (by kernel_rfl) (fun q hq => (ac4c o3 o4 x3 x4 u ne q).trans hq) (fun id o h => HB_ids h)
/-- At any instruction: nothing is applied. -/
theorem apply_n {x3 x4 : Pn.In} {u : Option Nat} (h3 : Pn.IOk 2 x3) (h4 : Pn.IOk 3 x4) (i : Int) (hi : 0 ≤ i ∧ i ≤ 5) (n3 : i = 3 → Pn.next x3 x3 = none) (n4 : i = 4 → Pn.next x3 x4 = none) (ne : Nat) : Pure18 W0 i ⟨HB x3.op x4.op x3 x4 u, 60, ne, 0⟩ ⟨HB x3.op x4.op x3 x4 u, 101, ne, 0⟩ false := by
  have : i = 0 ∨ i = 1 ∨ i = 2 ∨ i = 3 ∨ i = 4 ∨ i = 5 := by omega
  rcases this with rfl | rfl | rfl | rfl | rfl | rfl
  · exact apply0 _ _ _ _ _ _
  · exact apply1 _ _ _ _ _ _
  · exact apply2 _ _ _ _ _ _
  · rcases h3.op with q | q
    · rw [q]; exact apply3c 1 _ _ _ _ _
    · have n3 := n3 rfl
      rw [Pn.next, if_pos q] at n3
      have := apply3n (W0 := W0) (o4 := x4.op) (x4 := x4) (u := u) h3 q n3 ne
      rw [q]
      exact this
  · rcases h4.op with q | q
    · rw [q]; exact apply4c _ 1 _ _ _ _
    · have n4 := n4 rfl
      rw [Pn.next, if_pos q] at n4
      rw [q]
      exact apply4n h3 h4 q n4 ne
  · exact apply5 _ _ _ _ _ _
theorem apply_3 {x3 x4 n : Pn.In} {u : Option Nat} {r : Nat} (h3 : Pn.IOk 2 x3) (hs : Pn.next x3 x3 = some (r, n)) (hu : suc u ≤ 4000) (ne : Nat) : Pure18 W0 3 ⟨HB x3.op x4.op x3 x4 u, 60, ne, 0⟩ ⟨HZ n.op x4.op n x4 (suc u), 101, ne, 0⟩ true := by
  unfold Pn.next at hs
  split at hs
  case isFalse => cases hs
  rename_i h2
  have := apply3 (W0 := W0) (o4 := x4.op) (x4 := x4) (u := u) h3 h2 hs hu ne
  rw [h2]
  exact this
theorem apply_4 {x3 x4 n : Pn.In} {u : Option Nat} {r : Nat} (h3 : Pn.IOk 2 x3) (h4 : Pn.IOk 3 x4) (hs : Pn.next x3 x4 = some (r, n)) (hu : suc u ≤ 4000) (ne : Nat) : Pure18 W0 4 ⟨HB x3.op x4.op x3 x4 u, 60, ne, 0⟩ ⟨HZ x3.op n.op x3 n (suc u), 101, ne, 0⟩ true := by
  unfold Pn.next at hs
  split at hs
  case isFalse => cases hs
  rename_i h2
  have := apply4 (W0 := W0) (u := u) h3 h4 h2 hs hu ne
  rw [h2]
  exact this
end Go.Proofs.YtgoccionghehoaaGreatDoor.Ev
namespace Go.Proofs.YtgoccionghehoaaGreatDoor.Ev
open Go Go.Proofs

variable {W0 : World} [GOk W0]
/-- What lies at the call of peep.Run and stays: the module. -/
structure Old where
  o1 : Option SO
  o17 : Option SO
  o26 : Option SO
  o27 : Option SO
def modV : SV := .agg [.slr 45 0 3 0, .lit (.slice none 0 0), .slr 42 0 1 0, .int .i64 0]
noncomputable def cellsO (A B C : Int) : Option SO := rowO 2 [str [97], I A, str [98], I B, str [99], I C]
noncomputable def mO : Option SO := rowO 0 [.slr 45 0 3 0, nilS, .slr 42 0 1 0, I 0]
noncomputable def gO : Option SO := rowO 0 [.sl 52 0 1 1, .sl 53 0 1 1, .slr 50 0 1 0, .sl 54 0 1 1, .sl 55 0 1 1]
noncomputable def ordO : Option SO := rowO 1 [I 0]
noncomputable def resO : Option SO := rowO 0 [nilS, nilS, nilS, I 0]
noncomputable def ext (o : Old) (A B C : Int) (g : Tr SO) : Tr SO := ((((((((g.put 45 (cellsO A B C)).put 48 mO).put 49 gO).put 50 ordO).put 56 resO).put 1 o.o1).put 17 o.o17).put 26 o.o26).put 27 o.o27
def extL : List Nat := [45, 48, 49, 50, 56, 1, 17, 26, 27]
theorem ext_in {o : Old} {A B C : Int} {g g' : Tr SO} {id : Nat} (h : id ∈ extL) : (ext o A B C g).get id = (ext o A B C g').get id := by
  simp only [extL, List.mem_cons, List.not_mem_nil, or_false] at h
  simp only [ext, Tr.get_put]
  rcases h with rfl | rfl | rfl | rfl | rfl | rfl | rfl | rfl | rfl <;> simp
theorem ext_out {o : Old} {A B C : Int} {g : Tr SO} {id : Nat} (h : ¬ id ∈ extL) : (ext o A B C g).get id = g.get id := by
  simp only [extL, List.mem_cons, List.not_mem_nil, or_false, not_or] at h
  obtain ⟨h1, h2, h3, h4, h5, h6, h7, h8, h9⟩ := h
  simp only [ext, Tr.get_put, h1, h2, h3, h4, h5, h6, h7, h8, h9, if_false]
noncomputable def HC (o : Old) (A B C : Int) (x3 x4 : Pn.In) (u : Option Nat) : Tr SO := ext o A B C (HB x3.op x4.op x3 x4 u)
noncomputable def HCZ (o : Old) (A B C : Int) (x3 x4 : Pn.In) (m : Nat) : Tr SO := ext o A B C (HZ x3.op x4.op x3 x4 m)
def pC : Nat → Bool := fun i => [41, 42, 43, 44, 46, 47, 51, 100].any (Nat.beq i)
theorem HB_pl (o3 o4 : Int) (x3 x4 : Pn.In) (u : Option Nat) : trAll (soPl fun i => Nat.blt i 60) (HB o3 o4 x3 x4 u) = true := by
  cases u <;> kernel_rfl
theorem HB_plC (o3 o4 : Int) (x3 x4 : Pn.In) (u : Option Nat) : trAll (soPl pC) (HB o3 o4 x3 x4 u) = true := by
  cases u <;> kernel_rfl
theorem HZ_plC (o3 o4 : Int) (x3 x4 : Pn.In) (m : Nat) : trAll (soPl pC) (HZ o3 o4 x3 x4 m) = true := by kernel_rfl
theorem pC_iff {id : Nat} : pC id = true ↔ id = 41 ∨ id = 42 ∨ id = 43 ∨ id = 44 ∨ id = 46 ∨ id = 47 ∨ id = 51 ∨ id = 100 := by simp [pC]
/-- A call of apply in the loops' heap. -/
theorem ap_place {o : Old} {A B C : Int} {g g1 : Tr SO} {i : Int} {b : Bool} (c : ∀ ne, Pure18 W0 i ⟨g, 60, ne, 0⟩ ⟨g1, 101, ne, 0⟩ b) (hg : ∀ id o, g.get id = some o → id ∈ idsB) (hg1 : ∀ id o, g1.get id = some o → id ∈ idsB ∨ id ∈ idsZ) (hpl : trAll (soPl fun i => Nat.blt i 60) g = true) (hplC : trAll (soPl pC) g1 = true) :
    CallOk Tryz.prog W0 18 [.ptr 41 0, I 0, I i] ⟨ext o A B C g, 60, 0, 29⟩ ⟨ext o A B C g1, 101, 0, 29⟩ (.bool b) := by
  have hgE : ∀ id o, g.get id = some o → ¬ id ∈ extL := fun id o e => by
    have := hg id o e
    simp only [idsB, extL, List.mem_cons, List.not_mem_nil, or_false] at this ⊢
    omega
  have hg1E : ∀ id o, g1.get id = some o → ¬ id ∈ extL := fun id o e => by
    have := hg1 id o e
    simp only [idsB, idsZ, extL, List.mem_cons, List.not_mem_nil, or_false] at this ⊢
    omega
  refine CallOk.place (τ := fun i => i) (ρ := fun i => i) (p0 := fun i => Nat.blt i 60) (p := pC) (g := g) (g1 := g1) (n := 60) (n1 := 101) (b := 0) (l := [.ptr 41 0, I 0, I i]) (sv := .bool b) (fun ne => (c ne).1) (fun id o e h => (c 0).2 id o e h) ⟨fun id o2 e => ?_, fun id o2 e => ?_, fun id id' _ _ e => e⟩ (fun id e => blt_lt e) (svsMap_id _) rfl (fun id o _ e => ?_) (fun id e => ?_) (fun id o' e => ?_) (fun id id' _ _ e => e) rfl rfl (by show 60 ≤ 101; omega) rfl
  · exact ⟨o2, (ext_out (hgE id o2 e)).trans e, SoRen.rfl_id (trAll_get hpl e)⟩
  · have := hg id o2 e
    simp only [idsB, List.mem_cons, List.not_mem_nil, or_false] at this
    rcases this with rfl | rfl | rfl | rfl | rfl | rfl | rfl <;> rfl
  · have := hg id o e
    simp only [idsB, List.mem_cons, List.not_mem_nil, or_false] at this
    show 29 ≤ id
    omega
  · have := pC_iff.1 e
    show (id < 60 ∧ id < 60 ∧ id = id) ∨ (60 ≤ id ∧ id < 101 ∧ 60 ≤ id ∧ id < 101)
    omega
  · have e : (ext o A B C g1).get id = some o' := e
    by_cases q : id ∈ extL
    · refine .inr ⟨fun i o2 e2 q2 => ?_, ?_, ?_⟩
      · have q2 : i = id := q2
        subst q2
        exact hgE i o2 e2 q
      · simp only [extL, List.mem_cons, List.not_mem_nil, or_false] at q
        show id < 60
        omega
      · show (ext o A B C g).get id = some o'
        rw [ext_in (g' := g1) q]; exact e
    · rw [ext_out q] at e
      refine .inl ⟨?_, o', e, SoRen.rfl_id (trAll_get hplC e)⟩
      have := hg1 id o' e
      simp only [idsB, idsZ, List.mem_cons, List.not_mem_nil, or_false] at this
      exact pC_iff.2 (by omega)
section
variable {o : Old} {A B C : Int} {x3 x4 n : Pn.In} {u : Option Nat} {r : Nat}
theorem HR_some (o3 o4 : Int) (x3 x4 : Pn.In) (out : SV) (id : Nat) (h : id ∈ ids) : ∃ o, (HR o3 o4 x3 x4 out).get id = some o := by
  simp only [ids, List.mem_cons, List.not_mem_nil, or_false] at h
  rcases h with rfl | rfl | rfl | rfl | rfl | rfl <;> exact ⟨_, rfl⟩
theorem HB_some (o3 o4 : Int) (x3 x4 : Pn.In) (u : Option Nat) (id : Nat) (h : id ∈ ids) : ∃ o, (HB o3 o4 x3 x4 u).get id = some o := by
  obtain ⟨o, e⟩ := HR_some o3 o4 x3 x4 (outS u) id h
  exact ⟨o, HB_HR id o e⟩
theorem HZ_100 (o3 o4 : Int) (x3 x4 : Pn.In) (m : Nat) : (HZ o3 o4 x3 x4 m).get 100 = some (.any 5) := by rw [HZ, Tr.get_put, if_pos rfl]
theorem live_of {g g1 : Tr SO} (h : ∀ id, id ∈ ids → ∃ o, g.get id = some o) (hid : ∀ id o, g1.get id = some o → id < 60 → id ∈ ids ∨ ∃ o0, g.get id = some o0) {n0 : Nat} : ∀ id o1, (ext o A B C g1).get id = some o1 → (60 ≤ id) ∨ ∃ o0, (ext o A B C g).get id = some o0 := fun id o1 e => by
  by_cases q : id ∈ extL
  · exact .inr ⟨o1, by rw [ext_in (g' := g1) q]; exact e⟩
  · rw [ext_out q] at e
    rw [ext_out q]
    by_cases q2 : id < 60
    · rcases hid id o1 e q2 with x | x
      · exact .inr (h id x)
      · exact .inr x
    · exact .inl (by omega)
theorem apC_n (h3 : Pn.IOk 2 x3) (h4 : Pn.IOk 3 x4) {i : Int} (hi : 0 ≤ i ∧ i ≤ 5) (n3 : i = 3 → Pn.next x3 x3 = none) (n4 : i = 4 → Pn.next x3 x4 = none) : grd Tryz.prog W0 18 [.ptr 41 0, I 0, I i] ⟨HC o A B C x3 x4 u, 60, 0, 29⟩ (.bool false, ⟨HC o A B C x3 x4 u, 101, 0, 29⟩) = true :=
  grd_of ⟨fun _ _ => rfl, rfl, by show 60 ≤ 101; omega, Nat.le_refl _, fun id o e => .inr ⟨o, e⟩⟩ (ap_place (fun ne => apply_n h3 h4 i hi n3 n4 ne) (fun id o e => HB_ids e) (fun id o e => .inl (HB_ids e)) (HB_pl _ _ _ _ _) (HB_plC _ _ _ _ _))
theorem kept_z {o3 o4 o3' o4' : Int} {y3 y4 : Pn.In} {m : Nat} (id : Nat) (hid : id < 29) : (ext o A B C (HZ o3 o4 x3 x4 m)).get id = (ext o A B C (HB o3' o4' y3 y4 u)).get id := by
  by_cases q : id ∈ extL
  · exact ext_in q
  · rw [ext_out q, ext_out q]
    have a1 : (HZ o3 o4 x3 x4 m).get id = none := by
      cases e : (HZ o3 o4 x3 x4 m).get id with
      | none => rfl
      | some o =>
        have := HZ_ids e
        simp only [idsZ, List.mem_cons, List.not_mem_nil, or_false] at this
        omega
    have a2 : (HB o3' o4' y3 y4 u).get id = none := by
      cases e : (HB o3' o4' y3 y4 u).get id with
      | none => rfl
      | some o =>
        have := HB_ids e
        simp only [idsB, List.mem_cons, List.not_mem_nil, or_false] at this
        omega
    rw [a1, a2]
theorem z_ids {o3 o4 : Int} {m : Nat} (id : Nat) (o : SO) (e : (HZ o3 o4 x3 x4 m).get id = some o) (h : id < 60) : id ∈ ids := by
  have := HZ_ids e
  simp only [idsZ, ids, List.mem_cons, List.not_mem_nil, or_false] at this ⊢
  omega
theorem z_goes {o3 o4 o3' o4' : Int} {y3 y4 : Pn.In} {m : Nat} : Goes ⟨ext o A B C (HB o3' o4' y3 y4 u), 60, 0, 29⟩ ⟨ext o A B C (HZ o3 o4 x3 x4 m), 101, 0, 29⟩ :=
  ⟨fun id hid => kept_z id hid, rfl, by show 60 ≤ 101; omega, Nat.le_refl _, fun id o e => by
    by_cases q : id ∈ extL
    · refine .inr ⟨o, ?_⟩
      show (ext _ A B C (HB o3' o4' y3 y4 u)).get id = some o
      rw [ext_in (g' := HZ o3 o4 x3 x4 m) q]; exact e
    · have e : (ext _ A B C (HZ o3 o4 x3 x4 m)).get id = some o := e
      rw [ext_out q] at e
      have := HZ_ids e
      by_cases q2 : id < 60
      · obtain ⟨o', e'⟩ := HB_some o3' o4' y3 y4 u id (z_ids id o e q2)
        exact .inr ⟨o', (ext_out q).trans e'⟩
      · refine .inl ⟨by show 60 ≤ id; omega, ?_⟩
        simp only [idsZ, List.mem_cons, List.not_mem_nil, or_false] at this
        show id < 101
        omega⟩
theorem z_51 {o3 o4 : Int} {m : Nat} (o : SO) (e : (HZ o3 o4 x3 x4 m).get 51 = some o) : False := by
  have := HZ_ids e
  revert this
  decide
theorem apC_3 (h3 : Pn.IOk 2 x3) (hs : Pn.next x3 x3 = some (r, n)) (hu : suc u ≤ 4000) : grd Tryz.prog W0 18 [.ptr 41 0, I 0, I 3] ⟨HC o A B C x3 x4 u, 60, 0, 29⟩ (.bool true, ⟨HCZ o A B C n x4 (suc u), 101, 0, 29⟩) = true :=
  grd_of z_goes (ap_place (fun ne => apply_3 h3 hs hu ne) (fun id o e => HB_ids e) (fun id o e => .inr (HZ_ids e)) (HB_pl _ _ _ _ _) (HZ_plC _ _ _ _ _))
theorem apC_4 (h3 : Pn.IOk 2 x3) (h4 : Pn.IOk 3 x4) (hs : Pn.next x3 x4 = some (r, n)) (hu : suc u ≤ 4000) : grd Tryz.prog W0 18 [.ptr 41 0, I 0, I 4] ⟨HC o A B C x3 x4 u, 60, 0, 29⟩ (.bool true, ⟨HCZ o A B C x3 n (suc u), 101, 0, 29⟩) = true :=
  grd_of z_goes (ap_place (fun ne => apply_4 h3 h4 hs hu ne) (fun id o e => HB_ids e) (fun id o e => .inr (HZ_ids e)) (HB_pl _ _ _ _ _) (HZ_plC _ _ _ _ _))
end
end Go.Proofs.YtgoccionghehoaaGreatDoor.Ev
namespace Go.Proofs.YtgoccionghehoaaGreatDoor.Ev
open Go Go.Proofs

variable {W0 : World} [GOk W0]
/-- The loops in a piece of code, in order. -/
noncomputable def loopsOf (c : Code) : List Code := Code.rec (motive := fun _ => List Code) [] (fun _ _ _ => []) (fun _ _ ia ib => ia ++ ib) (fun _ _ _ ia ib => ia ++ ib) (fun _ _ ib => ib) (fun b _ => [b]) (fun _ _ _ _ _ _ => []) (fun _ => []) (fun _ ib => ib) (fun _ => []) (fun _ => []) [] (fun _ => []) c
noncomputable def b1 : Code := (loopsOf (bodyOf Tryz.prog 6)).getD 0 .skip
noncomputable def b2 : Code := (loopsOf b1).getD 0 .skip
noncomputable def b3 : Code := (loopsOf b2).getD 0 .skip
def pick : List Nat → List SV → SV → Nat → SV
  | t' :: ts, s :: ss, z, t => bif Nat.beq t t' then s else pick ts ss z t
  | _, _, z, _ => z
theorem pick_spec : ∀ (ls : List Nat) (lv : List SV) (z : SV) (t : Nat), (∃ i : Nat, ls[i]? = some t ∧ lv[i]? = some (pick ls lv z t)) ∨ pick ls lv z t = z
  | [], _, _, _ => .inr rfl
  | _ :: _, [], _, _ => .inr rfl
  | t' :: ts, s :: ss, z, t => by
    unfold pick
    by_cases e : t = t'
    · subst e
      refine .inl ⟨0, rfl, ?_⟩
      rw [show Nat.beq t t = true from Nat.beq_refl t]; rfl
    · have : Nat.beq t t' = false := by
        cases q : Nat.beq t t' with
        | false => rfl
        | true => exact absurd (Nat.eq_of_beq_eq_true q) e
      rw [this]
      rcases pick_spec ts ss z t with ⟨i, a, b⟩ | a
      · exact .inl ⟨i + 1, by simpa using a, by simpa using b⟩
      · exact .inr a
/-- A frame: some slots are known, the others hold what they hold. -/
noncomputable def frD (ls : List Nat) (lv : List SV) (d : Nat → Value) : Tr SV := slots ((List.range 117).map fun t => pick ls lv (.lit (d t)) t)
def lsC : List Nat := [3, 6, 12, 14, 15, 17, 18, 76, 77, 78, 117]
def lsO : List Nat := [3, 6, 12, 14, 15, 117]
noncomputable def liveC (bef i : Int) : List SV := [.ptr 48 0, .ptr 56 0, .ptr 49 0, .ptr 47 0, I bef, I 0, I i, .slr 50 0 1 0, I 1, I 0, .lit undef]
noncomputable def liveO (bef : Int) : List SV := [.ptr 48 0, .ptr 56 0, .ptr 49 0, .ptr 47 0, I bef, .lit undef]
noncomputable def frC (d : Nat → Value) (bef i : Int) : Tr SV := frD lsC (liveC bef i) d
noncomputable def frO (d : Nat → Value) (bef : Int) : Tr SV := frD lsO (liveO bef) d
def cids : List Nat := [1, 17, 26, 27, 41, 42, 43, 44, 45, 46, 47, 48, 49, 50, 51, 56]
def cidZ : List Nat := [1, 17, 26, 27, 41, 42, 43, 44, 45, 46, 47, 48, 49, 50, 100, 56]
noncomputable def opds (ls : List Nat) (fr : Tr SV) : List SV := ls.map fun t => opd fr (.tmp t)
noncomputable def seenX (ls cs : List Nat) (q : X → List SV → List (Option SO) → Bool) : KX := fun x fr' h' => q x (opds ls fr') (cs.map h'.hp.get)
noncomputable abbrev cT (W0 : World) [GOk W0] (b : Bool) (h' : HS) : CallK := callG Tryz.prog W0 [(18, fun _ _ => ⟨b, .bool true, .bool false, h'⟩)] 100 30
theorem run3n (d : Nat → Value) (bef i : Int) (o : Old) (A B C : Int) (x3 x4 : Pn.In) (u : Option Nat) (q : X → List SV → List (Option SO) → Bool) : dCode Tryz.prog (cT W0 false ⟨HC o A B C x3 x4 u, 101, 0, 29⟩) 117 noLp b3 (frC d bef i) ⟨HC o A B C x3 x4 u, 60, 0, 29⟩ (seenX lsC cids q) =
    bif decide (i < 6) then andR (q .normal (liveC bef (IntKind.i64.wrap (i + 1))) (cids.map (HC o A B C x3 x4 u).get)) (grd Tryz.prog W0 18 [.ptr 41 0, I 0, I i] ⟨HC o A B C x3 x4 u, 60, 0, 29⟩ (.bool false, ⟨HC o A B C x3 x4 u, 101, 0, 29⟩)) else q (.exit 4) (liveC bef i) (cids.map (HC o A B C x3 x4 u).get) := by kernel_rfl
theorem run3a (d : Nat → Value) (bef i : Int) (o : Old) (A B C : Int) (x3 x4 y3 y4 : Pn.In) (u : Option Nat) (m : Nat) (q : X → List SV → List (Option SO) → Bool) : dCode Tryz.prog (cT W0 true ⟨HCZ o A B C y3 y4 m, 101, 0, 29⟩) 117 noLp b3 (frC d bef i) ⟨HC o A B C x3 x4 u, 60, 0, 29⟩ (seenX lsC cidZ q) =
    bif decide (i < 6) then andR (q .normal (liveC bef i) (cidZ.map (HCZ o A B C y3 y4 m).get)) (grd Tryz.prog W0 18 [.ptr 41 0, I 0, I i] ⟨HC o A B C x3 x4 u, 60, 0, 29⟩ (.bool true, ⟨HCZ o A B C y3 y4 m, 101, 0, 29⟩)) else q (.exit 4) (liveC bef i) (cidZ.map (HC o A B C x3 x4 u).get) := by kernel_rfl
theorem frD_at (ls : List Nat) (lv : List SV) (d : Nat → Value) (t : Nat) (h : t < 117) : opd (frD ls lv d) (.tmp t) = pick ls lv (.lit (d t)) t := by
  unfold frD
  rw [opd_slots, List.getD_eq_getElem?_getD, List.getElem?_map, List.getElem?_range h]
  rfl
theorem frD_out (ls : List Nat) (lv : List SV) (d : Nat → Value) (t : Nat) (h : 117 ≤ t) : opd (frD ls lv d) (.tmp t) = .lit undef := by
  unfold frD
  rw [opd_slots, List.getD_eq_getElem?_getD, List.getElem?_map, List.getElem?_eq_none (by simpa using h)]
  rfl
/-- The old objects. -/
noncomputable def oldH (o : Old) : Tr SO := (((Tr.e.put 1 o.o1).put 17 o.o17).put 26 o.o26).put 27 o.o27
noncomputable abbrev h0 (o : Old) : HS := ⟨oldH o, 29, 0, 29⟩
/-- What is known behind a run is told anew. -/
theorem retell {o : Old} {E0 E : Env} {w0 w : World} {fr : Tr SV} {hp : Tr SO} {a : Act} {σ : Nat → Nat} {p : Nat → Bool} {H2 : Tr SO} {ls : List Nat} {lv : List SV} (rel : Rel W0 E hp.get w) (fo : FrOk E fr 117 a) (A : Anc (h0 o) E0 w0 E w)
    (k : HpRen σ p hp H2) (hp : ∀ id, p id = true → (id < 29 ∧ σ id = id) ∨ (29 ≤ id ∧ id < 60 ∧ 29 ≤ σ id))
    (hl : opds ls fr = svsMap σ lv) (hpl : svsPl p lv = true) (h117 : opd fr (.tmp 117) = .lit undef) :
    ∃ d E2, Rel W0 E2 H2.get w ∧ FreeF E2 ⟨H2, 60, 0, 29⟩ ∧ FrOk E2 (frD ls lv d) 117 a ∧ Anc (h0 o) E0 w0 E2 w := by
  obtain ⟨E2, e2, r2, f2, a2⟩ := re_ren (h1 := ⟨_, 0, 0, 0⟩) (h2 := ⟨H2, 60, 0, 29⟩) rel A k rfl hp (by show 29 ≤ 60; omega)
  refine ⟨fun t => a.tmps.getD t undef, E2, r2, f2, ⟨fo.size, ?_, fun t => ?_⟩, a2⟩
  · have d1 := fo.defers
    rw [show ((fr.get 117).getD (.lit undef)) = .lit undef from h117] at d1
    rw [show (((frD ls lv fun t => a.tmps.getD t undef).get 117).getD (.lit undef)) = .lit undef from frD_out ls lv (fun t => a.tmps.getD t undef) 117 (Nat.le_refl _)]
    exact d1
  · show val E2 (opd (frD ls lv fun t => a.tmps.getD t undef) (.tmp t)) = _
    by_cases ht : t < 117
    · rw [frD_at _ _ _ _ ht]
      rcases pick_spec ls lv (.lit (a.tmps.getD t undef)) t with ⟨i, h1, h2⟩ | h
      · have hs : ∀ (l : List SV) (i : Nat) (s : SV), svsPl p l = true → l[i]? = some s → svPl p s = true ∧ (svsMap σ l)[i]? = some (svMap σ s) := by
          intro l
          induction l with
          | nil => intro i s _ h; simp at h
          | cons x r ih =>
            intro i s hh h
            simp only [svsPl, Bool.and_eq_true] at hh
            cases i with
            | zero => simp only [List.getElem?_cons_zero, Option.some.injEq] at h; subst h; exact ⟨hh.1, rfl⟩
            | succ i => simp only [List.getElem?_cons_succ] at h; exact ⟨(ih i s hh.2 h).1, by simpa [svsMap] using (ih i s hh.2 h).2⟩
        obtain ⟨q1, q2⟩ := hs lv i _ hpl h2
        rw [val_ren e2 _ q1]
        rw [← hl] at q2
        have : opd fr (.tmp t) = svMap σ (pick ls lv (.lit (a.tmps.getD t undef)) t) := by
          unfold opds at q2
          rw [List.getElem?_map, h1, Option.map_some, Option.some.injEq] at q2
          exact q2
        rw [← this]
        exact fo.get t
      · rw [h]; rfl
    · rw [frD_out _ _ _ _ (by omega)]
      have : a.tmps.size ≤ t := by rw [fo.size]; omega
      rw [Array.getD_eq_getD_getElem?, Array.getElem?_eq_none this]
      rfl
section
variable {o : Old} {A B C : Int} {x3 x4 : Pn.In} {u : Option Nat}
theorem ext_old {g : Tr SO} (hg : ∀ id, id < 29 → g.get id = none) (id : Nat) (h : id < 29) : (ext o A B C g).get id = (oldH o).get id := by
  simp only [ext, oldH, Tr.get_put, Tr.get_e]
  rw [hg id h]
  have h1 : ¬ id = 45 := by omega
  have h2 : ¬ id = 48 := by omega
  have h3 : ¬ id = 49 := by omega
  have h4 : ¬ id = 50 := by omega
  have h5 : ¬ id = 56 := by omega
  simp only [h1, h2, h3, h4, h5, if_false]
theorem HB_low (o3 o4 : Int) (id : Nat) (h : id < 29) : (HB o3 o4 x3 x4 u).get id = none := by
  cases e : (HB o3 o4 x3 x4 u).get id with
  | none => rfl
  | some o =>
    have := HB_ids e
    simp only [idsB, List.mem_cons, List.not_mem_nil, or_false] at this
    omega
theorem HC_cids {id : Nat} {o1 : SO} (h : (HC o A B C x3 x4 u).get id = some o1) : id ∈ cids := by
  by_cases q : id ∈ extL
  · revert q
    simp only [extL, cids, List.mem_cons, List.not_mem_nil, or_false]
    omega
  · rw [HC, ext_out q] at h
    have := HB_ids h
    revert this
    simp only [idsB, cids, List.mem_cons, List.not_mem_nil, or_false]
    omega
theorem goesC : Goes (h0 o) ⟨HC o A B C x3 x4 u, 60, 0, 29⟩ :=
  ⟨fun id h => ext_old (HB_low _ _) id h, rfl, by show 29 ≤ 60; omega, Nat.le_refl _, fun id o1 e => by
    by_cases q : id < 29
    · refine .inr ⟨o1, ?_⟩
      show (oldH o).get id = some o1
      rw [← ext_old (A := A) (B := B) (C := C) (HB_low (x3 := x3) (x4 := x4) (u := u) x3.op x4.op) id q]; exact e
    · have := HC_cids e
      simp only [cids, List.mem_cons, List.not_mem_nil, or_false] at this
      refine .inl ⟨by show 29 ≤ id; omega, by show id < 60; omega⟩⟩
end
end Go.Proofs.YtgoccionghehoaaGreatDoor.Ev
namespace Go.Proofs.YtgoccionghehoaaGreatDoor.Ev
open Go Go.Proofs

variable {W0 : World} [GOk W0]
def pI60 : Nat → Bool := fun i => Nat.blt i 60 && !(Nat.beq i 51)
def p60 : Nat → Bool := fun i => Nat.blt i 60
def σZ : Nat → Nat := fun i => bif Nat.beq i 51 then 100 else i
structure OldOk (o : Old) : Prop where
  pl : ∀ id x, (oldH o).get id = some x → soPl (fun i => Nat.blt i 29) x = true
theorem pI60_iff {i : Nat} : pI60 i = true ↔ i < 60 ∧ i ≠ 51 := by
  simp only [pI60, Bool.and_eq_true, Bool.not_eq_true', Nat.blt_eq]
  constructor
  · rintro ⟨a, b⟩
    exact ⟨a, fun e => by subst e; cases b⟩
  · rintro ⟨a, b⟩
    refine ⟨a, ?_⟩
    cases e : Nat.beq i 51 with
    | false => rfl
    | true => exact absurd (Nat.eq_of_beq_eq_true e) b
theorem p60_iff {i : Nat} : p60 i = true ↔ i < 60 := by simp [p60]
theorem σZ_ne {i : Nat} (h : i ≠ 51) : σZ i = i := by
  unfold σZ
  cases e : Nat.beq i 51 with
  | false => rfl
  | true => exact absurd (Nat.eq_of_beq_eq_true e) h
section
variable {o : Old} {A B C : Int} {x3 x4 : Pn.In} {u : Option Nat}
def noOld : Old := ⟨none, none, none, none⟩
theorem HC_no (A B C : Int) (x3 x4 : Pn.In) (u : Option Nat) : trAll (soPl p60) (HC noOld A B C x3 x4 u) = true := by
  cases u <;> kernel_rfl
theorem HC_no41 (A B C : Int) (x3 x4 : Pn.In) (u : Option Nat) : trAll (soPl pI60) ((HC noOld A B C x3 x4 u).put 41 none) = true := by
  cases u <;> kernel_rfl
theorem HC_old {id : Nat} (h : 29 ≤ id) : (HC o A B C x3 x4 u).get id = (HC noOld A B C x3 x4 u).get id := by
  have h1 : ¬ id = 1 := by omega
  have h2 : ¬ id = 17 := by omega
  have h3 : ¬ id = 26 := by omega
  have h4 : ¬ id = 27 := by omega
  simp only [HC, ext, Tr.get_put, h1, h2, h3, h4, if_false]
theorem HC_lo {id : Nat} (h : id < 29) : (HC o A B C x3 x4 u).get id = (oldH o).get id := ext_old (HB_low _ _) id h
theorem HC_pl (hO : OldOk o) {id : Nat} {x : SO} (e : (HC o A B C x3 x4 u).get id = some x) : soPl p60 x = true ∧ (id ≠ 41 → soPl pI60 x = true) := by
  by_cases h : id < 29
  · rw [HC_lo h] at e
    have := hO.pl id x e
    exact ⟨soPl_mono (fun i hi => p60_iff.2 (by have := blt_lt hi; omega)) this, fun _ => soPl_mono (fun i hi => pI60_iff.2 (by have := blt_lt hi; omega)) this⟩
  · rw [HC_old (by omega)] at e
    exact ⟨trAll_get (HC_no _ _ _ _ _ _) e, fun q => trAll_get (HC_no41 A B C x3 x4 u) (i := id) (by rw [Tr.get_put, if_neg q]; exact e)⟩
theorem HC_dom {id : Nat} {x : SO} (e : (HC o A B C x3 x4 u).get id = some x) : p60 id = true := by
  have := HC_cids e
  simp only [cids, List.mem_cons, List.not_mem_nil, or_false] at this
  exact p60_iff.2 (by omega)
theorem ren_n (hO : OldOk o) {hp : Tr SO} (h : cids.map hp.get = cids.map (HC o A B C x3 x4 u).get) : HpRen (fun i => i) p60 hp (HC o A B C x3 x4 u) :=
  ⟨fun id o2 e => ⟨o2, (List.map_inj_left.1 h id (HC_cids e)).trans e, SoRen.rfl_on (HC_pl hO e).1 (fun _ _ => rfl) (fun _ q => q)⟩, fun id o2 e => HC_dom e, fun _ _ _ _ e => e⟩
theorem HCZ_eq {m : Nat} {id : Nat} (h1 : id ≠ 41) (h2 : id ≠ 51) (h3 : id ≠ 100) : (HCZ o A B C x3 x4 m).get id = (HC o A B C x3 x4 u).get id := by
  by_cases q : id ∈ extL
  · exact ext_in q
  · rw [HCZ, HC, ext_out q, ext_out q, HZ, HB, Tr.get_put, if_neg h3, Tr.get_put, if_neg h2]
    simp only [HR, Tr.get_put, if_neg h1]
theorem HCZ_41 {m : Nat} : (HCZ o A B C x3 x4 m).get 41 = pO (.sla 100 m) := by
  rw [HCZ, ext_out (by decide), HZ, Tr.get_put, if_neg (by decide)]
  rfl
theorem HC_41 : (HC o A B C x3 x4 u).get 41 = pO (outS u) := by
  rw [HC, ext_out (by decide)]; exact HB_41
theorem HCZ_100 {m : Nat} : (HCZ o A B C x3 x4 m).get 100 = some (.any 5) := by
  rw [HCZ, ext_out (by decide)]; exact HZ_100 _ _ _ _ _
theorem HC_51 : (HC o A B C x3 x4 u).get 51 = outO u := by
  rw [HC, ext_out (by decide)]; exact HB_51
theorem ren_z (hO : OldOk o) {hp : Tr SO} {m : Nat} (h : cidZ.map hp.get = cidZ.map (HCZ o A B C x3 x4 m).get) : HpRen σZ p60 hp (HC o A B C x3 x4 (some m)) := by
  refine ⟨fun id o2 e => ?_, fun id o2 e => HC_dom e, fun id id' h1 h2 e => ?_⟩
  · have hm := HC_cids e
    by_cases h51 : id = 51
    · subst h51
      rw [HC_51] at e
      obtain rfl := Option.some.inj e
      exact ⟨.any 5, (List.map_inj_left.1 h 100 (by decide)).trans HCZ_100, rfl⟩
    by_cases h41 : id = 41
    · subst h41
      rw [HC_41] at e
      obtain rfl := Option.some.inj e
      refine ⟨_, (List.map_inj_left.1 h 41 (by decide)).trans HCZ_41, rfl, rfl, ?_, ?_⟩
      · kernel_rfl
      · kernel_rfl
    · rw [σZ_ne h51]
      have hz : id ∈ cidZ := by
        revert hm
        simp only [cids, cidZ, List.mem_cons, List.not_mem_nil, or_false]
        omega
      refine ⟨o2, (List.map_inj_left.1 h id hz).trans ((HCZ_eq h41 h51 ?_).trans e), SoRen.rfl_on ((HC_pl hO e).2 h41) (fun i hi => σZ_ne (pI60_iff.1 hi).2) (fun i hi => p60_iff.2 (pI60_iff.1 hi).1)⟩
      intro q
      subst q
      revert hm
      decide
  · have h1 := p60_iff.1 h1
    have h2 := p60_iff.1 h2
    by_cases q1 : id = 51
    · by_cases q2 : id' = 51
      · omega
      · rw [σZ_ne q2, q1] at e
        have : σZ 51 = 100 := rfl
        omega
    · by_cases q2 : id' = 51
      · rw [σZ_ne q1, q2] at e
        have : σZ 51 = 100 := rfl
        omega
      · rwa [σZ_ne q1, σZ_ne q2] at e
end
theorem noLpH {P : Program} {E0 : Env} {w0 : World} {o : Old} {N : Nat} : LoopSoundH P W0 (h0 o) E0 w0 N noLp := fun b fr h k e => by cases e
/-- The state at the inner loop's head. -/
structure S3 where
  s : Pn.St
  i : Int
  f : Nat
  g : Nat
noncomputable def HS3 (o : Old) (A B C : Int) (s : Pn.St) : HS := ⟨HC o A B C s.x s.y s.u, 60, 0, 29⟩
structure I3 (o : Old) (A B C : Int) (bef : Int) (F : Pn.St) (t : S3) (fr : Tr SV) (h : HS) : Prop where
  fr : ∃ d, fr = frC d bef t.i
  h : h = HS3 o A B C t.s
  j : Pn.JOk A B C t.s.x t.s.y
  i0 : 0 ≤ t.i
  i6 : t.i ≤ 6
  mf : Pn.mu t.s.x ≤ t.f
  mg : Pn.mu t.s.y ≤ t.g
  c : Pn.cnt t.s.u + t.f + t.g ≤ 1000
  F : Pn.tot t.i t.f t.g t.s = F
theorem suc_cnt (u : Option Nat) : suc u = Pn.cnt u + 1 := by cases u <;> simp [suc, Pn.cnt]
theorem loop3 {o : Old} (hO : OldOk o) {A B C : Int} (hA : Pn.R A) (hB : Pn.R B) (hC : Pn.R C) {E0 : Env} {w0 : World} {bef : Int} {F : Pn.St} (t : S3) {fr : Tr SV} {h : HS} (hi : I3 o A B C bef F t fr h) : HT Tryz.prog W0 (h0 o) E0 w0 117 (.loop b3) fr h fun x fr' h' => x = .exit 4 ∧ (∃ d, fr' = frC d bef 6) ∧ h' = HS3 o A B C F := by
  refine HT.loop (I := I3 o A B C bef F) (m := fun t => t.f + t.g + (6 - t.i).toNat) (fun t fr h hi => ?_) t hi
  obtain ⟨⟨d, rfl⟩, rfl, j, i0, i6, mf, mg, hc, hF⟩ := hi
  obtain ⟨⟨x, y, u⟩, i, f, g⟩ := t
  simp only at j i0 i6 mf mg hc hF ⊢
  classical
  have hplL : ∀ bef i, svsPl p60 (liveC bef i) = true := fun _ _ => rfl
  have idp : ∀ id, p60 id = true → (id < 29 ∧ id = id) ∨ (29 ≤ id ∧ id < 60 ∧ 29 ≤ id) := fun id q => by have := p60_iff.1 q; omega
  have h117 : ∀ {fr' : Tr SV} {l : List SV}, opds lsC fr' = l → l[10]? = some (.lit undef) → opd fr' (.tmp 117) = .lit undef := fun {fr' l} e q => by
    subst e
    have : some (opd fr' (.tmp 117)) = some (.lit undef) := q
    exact Option.some.inj this
  by_cases hap : (i = 3 ∧ ∃ p, Pn.next x x = some p) ∨ (i = 4 ∧ ∃ p, Pn.next x y = some p)
  · -- a rule is applied
    obtain ⟨y3, y4, hgrd, hj', hst⟩ : ∃ y3 y4, grd Tryz.prog W0 18 [.ptr 41 0, I 0, I i] ⟨HC o A B C x y u, 60, 0, 29⟩ (.bool true, ⟨HCZ o A B C y3 y4 (suc u), 101, 0, 29⟩) = true ∧ Pn.JOk A B C y3 y4 ∧ ∃ f' g', f' + g' < f + g ∧ Pn.mu y3 ≤ f' ∧ Pn.mu y4 ≤ g' ∧ Pn.tot i f' g' ⟨y3, y4, Pn.inc u⟩ = F := by
      have hu : suc u ≤ 4000 := by rw [suc_cnt]; omega
      rcases hap with ⟨rfl, ⟨r, n⟩, hn⟩ | ⟨rfl, ⟨r, n⟩, hn⟩
      · obtain ⟨j', _, m'⟩ := Pn.next_x hA hB hC j hn
        obtain ⟨f, rfl⟩ : ∃ f', f = f' + 1 := ⟨f - 1, by omega⟩
        refine ⟨n, y, apC_3 j.x hn hu, j', f, g, by omega, by omega, mg, ?_⟩
        rw [Pn.tot_3 (s := ⟨x, y, u⟩) hn]
        exact hF
      · obtain ⟨j', _, m'⟩ := Pn.next_y hA hB hC j hn
        obtain ⟨g, rfl⟩ : ∃ g', g = g' + 1 := ⟨g - 1, by omega⟩
        refine ⟨x, n, apC_4 j.x j.y hn hu, j', f, g, by omega, mf, by omega, ?_⟩
        rw [Pn.tot_4 (s := ⟨x, y, u⟩) hn]
        exact hF
    obtain ⟨f', g', hlt, mf', mg', hF'⟩ := hst
    have i5 : i < 6 := by rcases hap with ⟨rfl, _⟩ | ⟨rfl, _⟩ <;> decide
    have run := dCodeH_ok (W0 := W0) (h0 := h0 o) (E0 := E0) (w0 := w0) (P := Tryz.prog) (callG_ok (W0 := W0) (L := [(18, fun _ _ => ⟨true, .bool true, .bool false, ⟨HCZ o A B C y3 y4 (suc u), 101, 0, 29⟩⟩)]) (m := 100) mixed 30) mixed noLpH b3 (frC d bef i) ⟨HC o A B C x y u, 60, 0, 29⟩ (seenX lsC cidZ fun x l os => decide (x = .normal ∧ l = liveC bef i ∧ os = cidZ.map (HCZ o A B C y3 y4 (suc u)).get)) (by
      refine (run3a d bef i o A B C x y y3 y4 u (suc u) _).trans ?_
      rw [decide_eq_true i5, cond_true, hgrd]
      exact (andR_t _).trans (decide_eq_true ⟨rfl, rfl, rfl⟩))
    refine HT.re run fun x' fr' h' E' a' w' q g1 rel ff fo A1 => ?_
    obtain ⟨rfl, q2, q3⟩ := of_decide_eq_true q
    have hs : suc u = Pn.cnt u + 1 := suc_cnt u
    rw [hs] at q3
    obtain ⟨d', E2, r2, f2, fo2, a2⟩ := retell (ls := lsC) (lv := liveC bef i) rel fo A1 (ren_z hO q3) (fun id hid => by
      have := p60_iff.1 hid
      by_cases q : id = 51
      · subst q
        exact .inr ⟨by decide, by decide, by decide⟩
      · rw [σZ_ne q]; omega) (q2.trans rfl) (hplL _ _) (h117 q2 rfl)
    refine ⟨.normal, _, ⟨HC o A B C y3 y4 (Pn.inc u), 60, 0, 29⟩, E2, ?_, goesC, r2, f2, fo2, a2, fun e he => he⟩
    exact ⟨⟨⟨y3, y4, Pn.inc u⟩, i, f', g'⟩, by show f' + g' + (6 - i).toNat < f + g + (6 - i).toNat; omega, ⟨⟨d', rfl⟩, rfl, hj', i0, i6, mf', mg', by show Pn.cnt u + 1 + f' + g' ≤ 1000; omega, hF'⟩⟩
  · -- nothing is applied
    have n3 : i = 3 → Pn.next x x = none := fun e => by
      cases q : Pn.next x x with
      | none => rfl
      | some p => exact absurd (.inl ⟨e, p, q⟩) hap
    have n4 : i = 4 → Pn.next x y = none := fun e => by
      cases q : Pn.next x y with
      | none => rfl
      | some p => exact absurd (.inr ⟨e, p, q⟩) hap
    by_cases i5 : i < 6
    · have hgrd := apC_n (W0 := W0) (o := o) (A := A) (B := B) (C := C) (u := u) j.x j.y (i := i) ⟨i0, by omega⟩ n3 n4
      have run := dCodeH_ok (W0 := W0) (h0 := h0 o) (E0 := E0) (w0 := w0) (P := Tryz.prog) (callG_ok (W0 := W0) (L := [(18, fun _ _ => ⟨false, .bool true, .bool false, ⟨HC o A B C x y u, 101, 0, 29⟩⟩)]) (m := 100) mixed 30) mixed noLpH b3 (frC d bef i) ⟨HC o A B C x y u, 60, 0, 29⟩ (seenX lsC cids fun x' l os => decide (x' = .normal ∧ l = liveC bef (i + 1) ∧ os = cids.map (HC o A B C x y u).get)) (by
        refine (run3n d bef i o A B C x y u _).trans ?_
        rw [decide_eq_true i5, cond_true, hgrd]
        refine (andR_t _).trans (decide_eq_true ⟨rfl, ?_, rfl⟩)
        rw [show IntKind.i64.wrap (i + 1) = i + 1 from Pn.W_of (by rw [Pn.R]; omega)])
      refine HT.re run fun x' fr' h' E' a' w' q g1 rel ff fo A1 => ?_
      obtain ⟨rfl, q2, q3⟩ := of_decide_eq_true q
      obtain ⟨d', E2, r2, f2, fo2, a2⟩ := retell (ls := lsC) (lv := liveC bef (i + 1)) rel fo A1 (ren_n hO q3) idp (q2.trans (svsMap_id _).symm) (hplL _ _) (h117 q2 rfl)
      refine ⟨.normal, _, ⟨HC o A B C x y u, 60, 0, 29⟩, E2, ?_, goesC, r2, f2, fo2, a2, fun e he => he⟩
      exact ⟨⟨⟨x, y, u⟩, i + 1, f, g⟩, by show f + g + (6 - (i + 1)).toNat < f + g + (6 - i).toNat; omega, ⟨⟨d', rfl⟩, rfl, j, by show 0 ≤ i + 1; omega, by show i + 1 ≤ 6; omega, mf, mg, hc, (Pn.tot_n (s := ⟨x, y, u⟩) n3 n4).trans hF⟩⟩
    · have i6' : i = 6 := by omega
      subst i6'
      have run := dCodeH_ok (W0 := W0) (h0 := h0 o) (E0 := E0) (w0 := w0) (P := Tryz.prog) (callG_ok (W0 := W0) (L := [(18, fun _ _ => ⟨false, .bool true, .bool false, ⟨HC o A B C x y u, 101, 0, 29⟩⟩)]) (m := 100) mixed 30) mixed noLpH b3 (frC d bef 6) ⟨HC o A B C x y u, 60, 0, 29⟩ (seenX lsC cids fun x' l os => decide (x' = .exit 4 ∧ l = liveC bef 6 ∧ os = cids.map (HC o A B C x y u).get)) (by
        refine (run3n d bef 6 o A B C x y u _).trans ?_
        exact decide_eq_true ⟨rfl, rfl, rfl⟩)
      refine HT.re run fun x' fr' h' E' a' w' q g1 rel ff fo A1 => ?_
      obtain ⟨rfl, q2, q3⟩ := of_decide_eq_true q
      obtain ⟨d', E2, r2, f2, fo2, a2⟩ := retell (ls := lsC) (lv := liveC bef 6) rel fo A1 (ren_n hO q3) idp (q2.trans (svsMap_id _).symm) (hplL _ _) (h117 q2 rfl)
      have hFe : F = ⟨x, y, u⟩ := hF.symm
      refine ⟨.exit 4, _, ⟨HC o A B C x y u, 60, 0, 29⟩, E2, ⟨rfl, ⟨d', rfl⟩, by rw [hFe]; rfl⟩, goesC, r2, f2, fo2, a2, fun e he => he⟩
end Go.Proofs.YtgoccionghehoaaGreatDoor.Ev
namespace Go.Proofs.YtgoccionghehoaaGreatDoor.Ev
open Go Go.Proofs

variable {W0 : World} [GOk W0]
section
variable (o : Old) (A B C : Int)
/-- The inner loop, by its end. -/
noncomputable def lpD (bef : Int) (s F : Pn.St) : LoopK := fun b fr h k => andR (dec (∀ d, k (.exit 4) (frC d bef 6) (HS3 o A B C F) = true)) (andR (dec (opds lsC fr = liveC bef 0)) (andR (dec (cids.map h.hp.get = cids.map (HC o A B C s.x s.y s.u).get)) (dec (b = b3))))
end
section
variable {o : Old} {A B C : Int}
theorem lpD_ok (hO : OldOk o) {E0 : Env} {w0 : World} {bef : Int} {s F : Pn.St} (hG : ∀ d, HT Tryz.prog W0 (h0 o) E0 w0 117 (.loop b3) (frC d bef 0) (HS3 o A B C s) fun x fr' h' => x = .exit 4 ∧ (∃ d, fr' = frC d bef 6) ∧ h' = HS3 o A B C F) : LoopSoundH Tryz.prog W0 (h0 o) E0 w0 117 (lpD o A B C bef s F) := by
  intro b fr h k hk
  simp only [lpD, andR_true, dec_true] at hk
  have k1 := hk.1
  have k2 := hk.2.1
  have k3 := hk.2.2.1
  have k4 := hk.2.2.2
  clear hk
  rw [k4]
  intro g0 E a w rel ff fo A1 K hK
  obtain ⟨d, E2, r2, f2, fo2, a2⟩ := retell (ls := lsC) (lv := liveC bef 0) rel fo A1 (ren_n hO k3) (fun id q => by have := p60_iff.1 q; omega) (k2.trans (svsMap_id _).symm) rfl (by
    have : some (opd fr (.tmp 117)) = some (.lit undef) := by rw [show some (opd fr (.tmp 117)) = (opds lsC fr)[10]? from rfl, k2]; rfl
    exact Option.some.inj this)
  refine hG d goesC E2 a w r2 f2 fo2 a2 K fun x fr' h' E' a' w' q => ?_
  obtain ⟨rfl, ⟨d', rfl⟩, rfl⟩ := q
  exact hK _ _ _ _ _ _ (k1 d')
noncomputable abbrev cE (W0 : World) [GOk W0] : CallK := callG Tryz.prog W0 [] 100 30
theorem run1_0 (d : Nat → Value) (bef : Int) (o : Old) (A B C : Int) (x y : Pn.In) (F : Pn.St) (q : X → List SV → List (Option SO) → Bool) : dCode Tryz.prog (cE W0) 117 (lpX Tryz.prog (cE W0) 117 19 (lpD o A B C 0 ⟨x, y, none⟩ F) 5) b1 (frO d bef) (HS3 o A B C ⟨x, y, none⟩) (seenX lsO cids q) =
    bif !(bef == 0) then andR (dec (∀ d : Nat → Value, q .normal (liveO 0) (cids.map (HC o A B C F.x F.y F.u).get) = true)) (andR (dec (liveC 0 0 = liveC 0 0)) (andR (dec (cids.map (HC o A B C x y none).get = cids.map (HC o A B C x y none).get)) (dec (b3 = b3)))) else q (.exit 0) (liveO bef) (cids.map (HC o A B C x y none).get) := by kernel_rfl
theorem run1_s (d : Nat → Value) (bef : Int) (n : Nat) (o : Old) (A B C : Int) (x y : Pn.In) (F : Pn.St) (q : X → List SV → List (Option SO) → Bool) : dCode Tryz.prog (cE W0) 117 (lpX Tryz.prog (cE W0) 117 19 (lpD o A B C n ⟨x, y, some n⟩ F) 5) b1 (frO d bef) (HS3 o A B C ⟨x, y, some n⟩) (seenX lsO cids q) =
    bif !(bef == Int.ofNat n) then andR (dec (∀ d : Nat → Value, q .normal (liveO n) (cids.map (HC o A B C F.x F.y F.u).get) = true)) (andR (dec (liveC n 0 = liveC n 0)) (andR (dec (cids.map (HC o A B C x y (some n)).get = cids.map (HC o A B C x y (some n)).get)) (dec (b3 = b3)))) else q (.exit 0) (liveO bef) (cids.map (HC o A B C x y (some n)).get) := by kernel_rfl
theorem opds_117 {fr : Tr SV} {bef : Int} (h : opds lsO fr = liveO bef) : opd fr (.tmp 117) = .lit undef := by
  have : some (opd fr (.tmp 117)) = some (.lit undef) := by rw [show some (opd fr (.tmp 117)) = (opds lsO fr)[5]? from rfl, h]; rfl
  exact Option.some.inj this
/-- One round of the outer loop. -/
theorem round1 (hO : OldOk o) (hA : Pn.R A) (hB : Pn.R B) (hC : Pn.R C) {E0 : Env} {w0 : World} {s : Pn.St} (j : Pn.JOk A B C s.x s.y) (hc : Pn.cnt s.u ≤ 100) {bef : Int} {fr : Tr SV} (hfr : ∃ d, fr = frO d bef) :
    HT Tryz.prog W0 (h0 o) E0 w0 117 b1 fr (HS3 o A B C s) fun x fr' h' => (bef ≠ Pn.cnt s.u ∧ x = .normal ∧ (∃ d, fr' = frO d (Pn.cnt s.u)) ∧ h' = HS3 o A B C (Pn.pass s)) ∨ (bef = Pn.cnt s.u ∧ x = .exit 0 ∧ (∃ d, fr' = frO d bef) ∧ h' = HS3 o A B C s) := by
  obtain ⟨d, rfl⟩ := hfr
  obtain ⟨x, y, u⟩ := s
  classical
  have m3 := Pn.mu_le (j.x.mono (by decide : (2 : Int) ≤ 3))
  have m4 := Pn.mu_le j.y
  have hG : ∀ bef d, HT Tryz.prog W0 (h0 o) E0 w0 117 (.loop b3) (frC d bef 0) (HS3 o A B C ⟨x, y, u⟩) fun x' fr' h' => x' = .exit 4 ∧ (∃ d, fr' = frC d bef 6) ∧ h' = HS3 o A B C (Pn.pass ⟨x, y, u⟩) := fun bef d =>
    loop3 hO hA hB hC ⟨⟨x, y, u⟩, 0, 20, 20⟩ ⟨⟨d, rfl⟩, rfl, j, by show (0 : Int) ≤ 0; omega, by show (0 : Int) ≤ 6; omega, by show Pn.mu x ≤ 20; have m3 : Pn.mu x ≤ 17 := m3; omega, by show Pn.mu y ≤ 20; have m4 : Pn.mu y ≤ 17 := m4; omega, by show Pn.cnt u + 20 + 20 ≤ 1000; have hc : Pn.cnt u ≤ 100 := hc; omega, rfl⟩
  have run : HT Tryz.prog W0 (h0 o) E0 w0 117 b1 (frO d bef) (HS3 o A B C ⟨x, y, u⟩) fun x' fr' h' => seenX lsO cids (fun x' l os => decide ((bef ≠ Pn.cnt u ∧ x' = .normal ∧ l = liveO (Pn.cnt u) ∧ os = cids.map (HC o A B C (Pn.pass ⟨x, y, u⟩).x (Pn.pass ⟨x, y, u⟩).y (Pn.pass ⟨x, y, u⟩).u).get) ∨ (bef = Pn.cnt u ∧ x' = .exit 0 ∧ l = liveO bef ∧ os = cids.map (HC o A B C x y u).get))) x' fr' h' = true := by
    refine dCodeH_ok (W0 := W0) (callG_ok (W0 := W0) (L := []) (m := 100) mixed 30) mixed (lpX_ok (id := 19) (callG_ok (W0 := W0) (L := []) (m := 100) mixed 30) mixed (lpD_ok hO (hG (Pn.cnt u))) 5) b1 _ _ _ ?_
    cases u with
    | none =>
      refine (run1_0 d bef o A B C x y (Pn.pass ⟨x, y, none⟩) _).trans ?_
      by_cases e : bef = 0
      · subst e
        exact decide_eq_true (.inr ⟨rfl, rfl, rfl, rfl⟩)
      · rw [show (bef == 0) = false by simpa using e]
        exact andR_true.2 ⟨dec_true.2 fun _ => decide_eq_true (.inl ⟨e, rfl, rfl, rfl⟩), andR_true.2 ⟨dec_true.2 rfl, andR_true.2 ⟨dec_true.2 rfl, dec_true.2 rfl⟩⟩⟩
    | some n =>
      refine (run1_s d bef n o A B C x y (Pn.pass ⟨x, y, some n⟩) _).trans ?_
      by_cases e : bef = n
      · subst e
        rw [show ((n : Int) == Int.ofNat n) = true by simp]
        exact decide_eq_true (.inr ⟨rfl, rfl, rfl, rfl⟩)
      · rw [show (bef == Int.ofNat n) = false by simpa using e]
        exact andR_true.2 ⟨dec_true.2 fun _ => decide_eq_true (.inl ⟨e, rfl, rfl, rfl⟩), andR_true.2 ⟨dec_true.2 rfl, andR_true.2 ⟨dec_true.2 rfl, dec_true.2 rfl⟩⟩⟩
  refine HT.re run fun x' fr' h' E' a' w' q g1 rel ff fo A1 => ?_
  have q := of_decide_eq_true q
  rcases q with ⟨q0, rfl, q2, q3⟩ | ⟨q0, rfl, q2, q3⟩
  · obtain ⟨d', E2, r2, f2, fo2, a2⟩ := retell (ls := lsO) (lv := liveO (Pn.cnt u)) rel fo A1 (ren_n hO q3) (fun id q => by have := p60_iff.1 q; omega) (q2.trans (svsMap_id _).symm) rfl (opds_117 q2)
    exact ⟨.normal, _, HS3 o A B C (Pn.pass ⟨x, y, u⟩), E2, .inl ⟨q0, rfl, ⟨d', rfl⟩, rfl⟩, goesC, r2, f2, fo2, a2, fun e he => he⟩
  · obtain ⟨d', E2, r2, f2, fo2, a2⟩ := retell (ls := lsO) (lv := liveO bef) rel fo A1 (ren_n hO q3) (fun id q => by have := p60_iff.1 q; omega) (q2.trans (svsMap_id _).symm) rfl (opds_117 q2)
    exact ⟨.exit 0, _, HS3 o A B C ⟨x, y, u⟩, E2, .inr ⟨q0, rfl, ⟨d', rfl⟩, rfl⟩, goesC, r2, f2, fo2, a2, fun e he => he⟩
structure S1 where
  k : Nat
  s : Pn.St
  bef : Int
structure I1 (o : Old) (A B C : Int) (F : Pn.St) (t : S1) (fr : Tr SV) (h : HS) : Prop where
  fr : ∃ d, fr = frO d t.bef
  h : h = HS3 o A B C t.s
  j : Pn.JOk A B C t.s.x t.s.y
  c : Pn.cnt t.s.u ≤ 100
  p : Pn.pass t.s = F
  k : t.k = 2 ∨ (t.k = 1 ∧ t.s = F) ∨ (t.k = 0 ∧ t.s = F ∧ t.bef = Pn.cnt F.u)
  k2 : t.k = 2 → t.bef ≠ Pn.cnt t.s.u
theorem loop1 (hO : OldOk o) (hA : Pn.R A) (hB : Pn.R B) (hC : Pn.R C) {E0 : Env} {w0 : World} {x y : Pn.In} (j : Pn.JOk A B C x y) {d : Nat → Value} :
    HT Tryz.prog W0 (h0 o) E0 w0 117 (.loop b1) (frO d (-1)) (HS3 o A B C ⟨x, y, none⟩) fun x' fr' h' => x' = .exit 0 ∧ (∃ d bef, fr' = frO d bef) ∧ h' = HS3 o A B C (Pn.pass ⟨x, y, none⟩) := by
  have fin := Pn.pass_fin hA hB hC (s := ⟨x, y, none⟩) j
  have hp : Pn.pass (Pn.pass ⟨x, y, none⟩) = Pn.pass ⟨x, y, none⟩ := Pn.tot_id fin.nx fin.ny 0
  have hcF : Pn.cnt (Pn.pass ⟨x, y, none⟩).u ≤ 100 := by have := fin.c; have e : Pn.cnt (⟨x, y, none⟩ : Pn.St).u = 0 := rfl; omega
  have hpF : ∀ s, s = Pn.pass ⟨x, y, none⟩ → Pn.pass s = Pn.pass ⟨x, y, none⟩ := fun s e => by rw [e, hp]
  have p0 : Pn.pass ⟨x, y, none⟩ = Pn.pass ⟨x, y, none⟩ := rfl
  refine HT.loop (I := I1 o A B C (Pn.pass ⟨x, y, none⟩)) (m := fun t => t.k) (fun t fr h hi => ?_) ⟨2, ⟨x, y, none⟩, -1⟩ ⟨⟨d, rfl⟩, rfl, j, Nat.zero_le _, rfl, .inl rfl, fun _ => (show (-1 : Int) ≠ 0 by decide)⟩
  obtain ⟨hfr, rfl, j1, c1, p1, k1, k2⟩ := hi
  refine (round1 (W0 := W0) hO hA hB hC (E0 := E0) (w0 := w0) j1 c1 hfr).mono fun x' fr' h' q => ?_
  rcases q with ⟨q0, rfl, q2, rfl⟩ | ⟨q0, rfl, ⟨d', rfl⟩, rfl⟩
  · rw [p1]
    rcases k1 with k1 | ⟨k1, e1⟩ | ⟨k1, e1, b1⟩
    · exact ⟨⟨1, Pn.pass ⟨x, y, none⟩, Pn.cnt t.s.u⟩, by show 1 < t.k; omega, q2, rfl, fin.j, hcF, hp, .inr (.inl ⟨rfl, rfl⟩), fun h => by cases h⟩
    · refine ⟨⟨0, Pn.pass ⟨x, y, none⟩, Pn.cnt t.s.u⟩, by show 0 < t.k; omega, q2, rfl, fin.j, hcF, hp, .inr (.inr ⟨rfl, rfl, ?_⟩), fun h => by cases h⟩
      rw [e1]
    · rw [e1] at q0
      exact absurd b1 q0
  · refine ⟨rfl, ⟨d', t.bef, rfl⟩, ?_⟩
    rcases k1 with k1 | ⟨k1, e1⟩ | ⟨k1, e1, b1⟩
    · exact absurd q0 (k2 k1)
    · rw [e1]
    · rw [e1]
end
end Go.Proofs.YtgoccionghehoaaGreatDoor.Ev
namespace Go.Proofs.YtgoccionghehoaaGreatDoor.Ev
open Go Go.Proofs

variable {W0 : World} [GOk W0]
def idOf : SV → Nat
  | .ptr id _ => id
  | .sl id _ _ _ => id
  | .slr id _ _ _ => id
  | _ => 0
noncomputable def cellOf (hp : Tr SO) (id i : Nat) : SV := match hp.get id with
  | some (.row _ _ t) => (t.get i).getD (.lit undef)
  | _ => .lit undef
/-- The numbers of the objects. -/
noncomputable def chase (fr : Tr SV) (hp : Tr SO) : List Nat :=
  (fun m res g box => (fun p => (fun f tbl => (fun bl => [p, f, bl, idOf (cellOf hp bl 0), idOf (cellOf hp m 0), tbl, box, m, g, idOf (cellOf hp g 2), idOf (cellOf hp g 0), idOf (cellOf hp g 1), idOf (cellOf hp g 3), idOf (cellOf hp g 4), res]) (idOf (cellOf hp f 5))) (idOf (cellOf hp p 0)) (idOf (cellOf hp p 5))) (idOf (cellOf hp box 0))) (idOf (opd fr (.tmp 3))) (idOf (opd fr (.tmp 6))) (idOf (opd fr (.tmp 12))) (idOf (opd fr (.tmp 14)))
def cEl : List Nat := [41, 42, 43, 44, 45, 46, 47, 48, 49, 50, 52, 53, 54, 55, 56]
def cO : List Nat := [41, 42, 43, 44, 45, 46, 47, 48, 49, 50, 56]
def look : List Nat → List Nat → Nat → Nat
  | a :: l, b :: bs, i => bif Nat.beq i a then b else look l bs i
  | _, _, _ => 0
def fwd (σ : List Nat) (c : Nat) : Nat := bif Nat.blt c 29 then c else look cEl σ c
def inv (σ : List Nat) (i : Nat) : Nat := bif Nat.blt i 29 then i else look σ cEl i
def pAc (σ : List Nat) (i : Nat) : Bool := Nat.blt i 29 || σ.any (Nat.beq i)
def pEc (c : Nat) : Bool := Nat.blt c 29 || cEl.any (Nat.beq c)
noncomputable def rowPl (p : Nat → Bool) : Option SO → Bool
  | some (.row _ _ t) => trAll (svPl p) t
  | _ => false
noncomputable def okE (σ : List Nat) (fr : Tr SV) (hp : Tr SO) : Bool :=
  (σ.all fun i => Nat.beq (fwd σ (inv σ i)) i) && ((cEl.all fun c => Nat.beq (inv σ (fwd σ c)) c && Nat.ble 29 (fwd σ c)) && ((cO.all fun c => rowPl (pAc σ) (hp.get (fwd σ c))) && svsPl (pAc σ) (opds lsO fr)))
noncomputable def ovM (f : SV → SV) : Option SO → Option (Nat × Nat × List (Option SV))
  | some (.row n sz t) => some (n, sz, (List.range n).map fun i => (t.get i).map f)
  | _ => none
noncomputable def ov0 : Option SO → Option (Nat × Nat × List (Option SV))
  | some (.row n sz t) => some (n, sz, (List.range n).map t.get)
  | _ => none
/-- The loops' heap at the start: the operations as they are given. -/
noncomputable def codeO (c3 c4 : List SV) : Option SO := rowO 13 (gI 0 ++ (gI 1 ++ (gI 2 ++ (c3 ++ (c4 ++ pI)))))
noncomputable def HCi (o : Old) (A B C : Int) (c3 c4 : List SV) : Tr SO := (HC o A B C ⟨1, 0, ⟨0, 0⟩, ⟨0, 0⟩⟩ ⟨1, 0, ⟨0, 0⟩, ⟨0, 0⟩⟩ none).put 44 (codeO c3 c4)
noncomputable def lpE (o : Old) (A B C : Int) (c3 c4 : List SV) (F : Pn.St) : LoopK := fun b fr h k =>
  andR (andR (dec (F.u = none → ∀ d bef, k (.exit 0) (frO d bef) (HS3 o A B C ⟨F.x, F.y, none⟩) = true)) (dec (∀ n, F.u = some n → ∀ d bef, k (.exit 0) (frO d bef) (HS3 o A B C ⟨F.x, F.y, some n⟩) = true))) ((fun σ => bif okE σ fr h.hp then andR (dec (svsMap (inv σ) (opds lsO fr) = liveO (-1))) (andR (dec ((cO.map fun c => ovM (svMap (inv σ)) (h.hp.get (fwd σ c))) = cO.map fun c => ov0 ((HCi o A B C c3 c4).get c))) (dec (b = b1))) else false) (chase fr h.hp))
mutual
theorem svMap_comp {f g : Nat → Nat} : ∀ (s : SV), svMap f (svMap g s) = svMap (fun i => f (g i)) s
  | .bool _ => rfl
  | .int _ _ => rfl
  | .lit _ => rfl
  | .mks _ => rfl
  | .rng _ _ _ => rfl
  | .ptr _ _ => rfl
  | .sl _ _ _ _ => rfl
  | .slr _ _ _ _ => rfl
  | .sla _ _ => rfl
  | .emp _ _ _ _ => rfl
  | .esl _ _ _ _ => rfl
  | .epl _ _ _ _ => rfl
  | .map _ => rfl
  | .yld _ => rfl
  | .fn f a b => by simp only [svMap, svsMap_comp a, svsMap_comp b]
  | .iface t v => by simp only [svMap, svMap_comp v]
  | .agg l => by simp only [svMap, svsMap_comp l]
  | .tup l => by simp only [svMap, svsMap_comp l]
theorem svsMap_comp {f g : Nat → Nat} : ∀ (l : List SV), svsMap f (svsMap g l) = svsMap (fun i => f (g i)) l
  | [] => rfl
  | s :: r => by simp only [svsMap, svMap_comp s, svsMap_comp r]
end
section
variable {o : Old} {A B C : Int} {c3 c4 : List SV}
theorem HC_44 {x3 x4 : Pn.In} {u : Option Nat} : (HC o A B C x3 x4 u).get 44 = codeO (enc x3.op 3 x3) (enc x4.op 4 x4) := by
  rw [HC, ext_out (by decide), HB, Tr.get_put, if_neg (by decide)]
  rfl
theorem HC_n44 {x3 x4 y3 y4 : Pn.In} {u : Option Nat} {id : Nat} (h : id ≠ 44) : (HC o A B C x3 x4 u).get id = (HC o A B C y3 y4 u).get id := by
  by_cases q : id ∈ extL
  · exact ext_in q
  · rw [HC, HC, ext_out q, ext_out q, HB, HB, Tr.get_put, Tr.get_put]
    split
    · rfl
    · simp only [HR, Tr.get_put, if_neg h]
theorem HCi_44 : (HCi o A B C c3 c4).get 44 = codeO c3 c4 := by rw [HCi, Tr.get_put, if_pos rfl]
theorem HCi_n44 {x3 x4 : Pn.In} {id : Nat} (h : id ≠ 44) : (HCi o A B C c3 c4).get id = (HC o A B C x3 x4 none).get id := by
  rw [HCi, Tr.get_put, if_neg h]
  exact HC_n44 h
theorem Les.get {l l' : List SV} (h : Les l l') : l.length = l'.length → True := fun _ => trivial
/-- Cell by cell. -/
inductive LeL : List SV → List SV → Prop
  | nil : LeL [] []
  | cons {s s' : SV} {l l' : List SV} : Le s s' → LeL l l' → LeL (s :: l) (s' :: l')
theorem LeL.rfl : ∀ {l : List SV}, LeL l l
  | [] => .nil
  | _ :: _ => .cons Le.rfl LeL.rfl
theorem LeL.append {a a' b b' : List SV} (h : LeL a a') (k : LeL b b') : LeL (a ++ b) (a' ++ b') := by
  induction h with
  | nil => exact k
  | cons x _ ih => exact .cons x ih
theorem LeL.len {a a' : List SV} (h : LeL a a') : a.length = a'.length := by
  induction h with
  | nil => rfl
  | cons x _ ih => simp [ih]
theorem LeL.at_ {a a' : List SV} (h : LeL a a') : ∀ (i : Nat) (s : SV), a[i]? = some s → ∃ s', a'[i]? = some s' ∧ Le s s' := by
  induction h with
  | nil => intro i s e; simp at e
  | cons x _ ih =>
    intro i s e
    cases i with
    | zero => simp only [List.getElem?_cons_zero, Option.some.injEq] at e; subst e; exact ⟨_, List.getElem?_cons_zero, x⟩
    | succ i => simp only [List.getElem?_cons_succ] at e ⊢; exact ih i s e
theorem row_le {E : Env} {s : Spot} {w : World} {sz : Nat} {l l' : List SV} (h : LeL l l') (k : objOk E s w (.row l.length sz (trOf l 0 .e))) : objOk E s w (.row l'.length sz (trOf l' 0 .e)) := by
  obtain ⟨c, ty, a, b, d, e⟩ := k
  rw [← h.len]
  refine ⟨c, ty, a, b, d, fun i hi => ?_⟩
  obtain ⟨sv, v, e1, e2, e3, e4⟩ := e i hi
  rw [get_trOf, if_pos ⟨Nat.zero_le _, by omega⟩, Nat.sub_zero] at e1
  obtain ⟨sv', f1, f2⟩ := h.at_ i sv e1
  refine ⟨sv', v, ?_, f2 E v e2, e3, e4⟩
  rw [get_trOf, if_pos ⟨Nat.zero_le _, by rw [← h.len]; omega⟩, Nat.sub_zero]
  exact f1
/-- The operations' cells are told more loosely. -/
theorem weak44 {x y : Pn.In} (h3 : LeL c3 (enc x.op 3 x)) (h4 : LeL c4 (enc y.op 4 y)) {E : Env} {w : World} (r : Rel W0 E (HCi o A B C c3 c4).get w) : Rel W0 E (HC o A B C x y none).get w := by
  have hh : ∀ id o1, (HC o A B C x y none).get id = some o1 → ∃ o0, (HCi o A B C c3 c4).get id = some o0 := fun id o1 h => by
    by_cases q : id = 44
    · subst q; exact ⟨_, HCi_44⟩
    · exact ⟨o1, (HCi_n44 q).trans h⟩
  refine ⟨r.below, fun id o1 h => ?_, fun id id' o1 o1' s s' h h' => ?_, r.fz, fun j a z id o1 s e h => ?_⟩
  · by_cases q : id = 44
    · subst q
      rw [HC_44] at h
      obtain rfl := Option.some.inj h
      obtain ⟨s, a, b, k⟩ := r.obj 44 _ HCi_44
      exact ⟨s, a, b, row_le (.append .rfl (.append .rfl (.append .rfl (.append h3 (.append h4 .rfl))))) k⟩
    · exact r.obj id o1 ((HCi_n44 q).trans h)
  · obtain ⟨a, b⟩ := hh id o1 h
    obtain ⟨a', b'⟩ := hh id' o1' h'
    exact r.inj id id' a a' s s' b b'
  · obtain ⟨a', b⟩ := hh id o1 h
    exact r.frz j a z id a' s e b
theorem HCi_lo {id : Nat} (h : id < 29) : (HCi o A B C c3 c4).get id = (oldH o).get id := by
  rw [HCi_n44 (x3 := ⟨1, 0, ⟨0, 0⟩, ⟨0, 0⟩⟩) (x4 := ⟨1, 0, ⟨0, 0⟩, ⟨0, 0⟩⟩) (by omega)]
  exact HC_lo h
theorem HCi_old {id : Nat} (h : 29 ≤ id) : (HCi o A B C c3 c4).get id = (HCi noOld A B C c3 c4).get id := by
  by_cases q : id = 44
  · subst q; rw [HCi_44, HCi_44]
  · rw [HCi_n44 (x3 := ⟨1, 0, ⟨0, 0⟩, ⟨0, 0⟩⟩) (x4 := ⟨1, 0, ⟨0, 0⟩, ⟨0, 0⟩⟩) q, HCi_n44 (x3 := ⟨1, 0, ⟨0, 0⟩, ⟨0, 0⟩⟩) (x4 := ⟨1, 0, ⟨0, 0⟩, ⟨0, 0⟩⟩) q]
    exact HC_old h
theorem HCi_51 : (HCi o A B C c3 c4).get 51 = none := by
  rw [HCi_n44 (x3 := ⟨1, 0, ⟨0, 0⟩, ⟨0, 0⟩⟩) (x4 := ⟨1, 0, ⟨0, 0⟩, ⟨0, 0⟩⟩) (by decide), HC_51]; rfl
theorem HCi_ids {id : Nat} {x : SO} (h : (HCi o A B C c3 c4).get id = some x) : id < 29 ∨ id ∈ cO := by
  by_cases q : id = 44
  · subst q; exact .inr (by decide)
  · have h' := h
    rw [HCi_n44 (x3 := ⟨1, 0, ⟨0, 0⟩, ⟨0, 0⟩⟩) (x4 := ⟨1, 0, ⟨0, 0⟩, ⟨0, 0⟩⟩) q] at h'
    have := HC_cids h'
    have n51 : id ≠ 51 := fun e => by subst e; rw [HCi_51] at h; cases h
    revert this
    simp only [cids, cO, List.mem_cons, List.not_mem_nil, or_false]
    omega
theorem ov_ren {σ : List Nat} {o1 o2 : Option SO} {x2 : SO} (h2 : o2 = some x2) (hpl : rowPl (pAc σ) o1 = true) (hp2 : soPl pEc x2 = true) (hfi : ∀ i, pAc σ i = true → fwd σ (inv σ i) = i) (h : ovM (svMap (inv σ)) o1 = ov0 o2) : ∃ x1, o1 = some x1 ∧ SoRen (fwd σ) pEc x1 x2 := by
  subst h2
  match o1, hpl with
  | some (.row n sz t), hpl =>
    match x2, hp2 with
    | .row n2 sz2 t2, hp2 =>
      simp only [ovM, ov0, Option.some.injEq, Prod.mk.injEq] at h
      obtain ⟨rfl, rfl, h⟩ := h
      refine ⟨_, rfl, rfl, rfl, hp2, ?_⟩
      refine List.map_congr_left fun i hi => ?_
      have h := List.map_inj_left.1 h i hi
      rw [← h]
      cases e : t.get i with
      | none => rfl
      | some s =>
        rw [Option.map_some, Option.map_some, svMap_comp, svMap_on (p' := pAc σ) hfi s (trAll_get (show trAll (svPl (pAc σ)) t = true from hpl) e)]
    | .any _, _ => cases h
theorem lpE_ok (hO : OldOk o) (hA : Pn.R A) (hB : Pn.R B) (hC : Pn.R C) {x y : Pn.In} (j : Pn.JOk A B C x y) (h3 : LeL c3 (enc x.op 3 x)) (h4 : LeL c4 (enc y.op 4 y)) (hpl : trAll (soPl pEc) (HCi noOld A B C c3 c4) = true) {E0 : Env} {w0 : World} : LoopSoundH Tryz.prog W0 (h0 o) E0 w0 117 (lpE o A B C c3 c4 (Pn.pass ⟨x, y, none⟩)) := by
  intro b fr h k hk
  simp only [lpE, andR_true, dec_true] at hk
  obtain ⟨⟨k1n, k1s⟩, hk⟩ := hk
  have k1 : ∀ d bef, k (.exit 0) (frO d bef) (HS3 o A B C (Pn.pass ⟨x, y, none⟩)) = true := by
    revert k1n k1s
    generalize Pn.pass ⟨x, y, none⟩ = F
    obtain ⟨Fx, Fy, Fu⟩ := F
    intro k1n k1s
    cases Fu with
    | none => exact k1n rfl
    | some n => exact k1s n rfl
  generalize chase fr h.hp = σ at hk
  obtain ⟨kO, hk⟩ := bif_true hk
  simp only [andR_true, dec_true] at hk
  obtain ⟨k2, k3, k4⟩ := hk
  rw [k4]
  simp only [okE, Bool.and_eq_true] at kO
  obtain ⟨o1, o2, o3, o4⟩ := kO
  have hfi : ∀ i, pAc σ i = true → fwd σ (inv σ i) = i := fun i hi => by
    unfold pAc at hi
    by_cases q : Nat.blt i 29 = true
    · have : inv σ i = i := by unfold inv; rw [q]; rfl
      rw [this]; unfold fwd; rw [q]; rfl
    · simp only [Bool.or_eq_true] at hi
      rcases hi with hi | hi
      · exact absurd hi q
      · rw [List.any_eq_true] at hi
        obtain ⟨a, ha, hia⟩ := hi
        obtain rfl := Nat.eq_of_beq_eq_true hia
        exact Nat.eq_of_beq_eq_true (List.all_eq_true.1 o1 i ha)
  have hif : ∀ c, pEc c = true → inv σ (fwd σ c) = c ∧ (29 ≤ c → 29 ≤ fwd σ c) := fun c hc => by
    by_cases q : c < 29
    · have qb : Nat.blt c 29 = true := by simpa using q
      have : fwd σ c = c := by unfold fwd; rw [qb]; rfl
      rw [this]
      exact ⟨by unfold inv; rw [qb]; rfl, fun h => by omega⟩
    · unfold pEc at hc
      simp only [Bool.or_eq_true] at hc
      rcases hc with hc | hc
      · exact absurd (blt_lt hc) q
      · rw [List.any_eq_true] at hc
        obtain ⟨a, ha, hia⟩ := hc
        obtain rfl := Nat.eq_of_beq_eq_true hia
        have := List.all_eq_true.1 o2 c ha
        simp only [Bool.and_eq_true] at this
        exact ⟨Nat.eq_of_beq_eq_true this.1, fun _ => Nat.le_of_ble_eq_true this.2⟩
  have flo : ∀ c, c < 29 → fwd σ c = c := fun c q => by
    have qb : Nat.blt c 29 = true := by simpa using q
    unfold fwd; rw [qb]; rfl
  have hE : ∀ c, pEc c = true ↔ (c < 29 ∨ c ∈ cEl) := fun c => by
    simp only [pEc, Bool.or_eq_true, List.any_eq_true, Nat.blt_eq]
    constructor
    · rintro (q | ⟨a, ha, e⟩)
      · exact .inl q
      · obtain rfl := Nat.eq_of_beq_eq_true e; exact .inr ha
    · rintro (q | q)
      · exact .inl q
      · exact .inr ⟨c, q, Nat.beq_refl c⟩
  intro g0 E a w rel ff fo A1 K hK
  have ren : HpRen (fwd σ) pEc h.hp (HCi o A B C c3 c4) := by
    refine ⟨fun id x2 e => ?_, fun id x2 e => ?_, fun id id' p1 p2 e => ?_⟩
    · rcases HCi_ids e with q | q
      · rw [HCi_lo q] at e
        refine ⟨x2, ?_, SoRen.rfl_on (hO.pl id x2 e) (fun i hi => flo i (blt_lt hi)) fun i hi => (hE i).2 (.inl (blt_lt hi))⟩
        rw [flo id q]
        exact (g0.kept id q).trans e
      · have e2 := e
        have hid : 29 ≤ id := by
          simp only [cO, List.mem_cons, List.not_mem_nil, or_false] at q
          omega
        rw [HCi_old hid] at e2
        exact ov_ren e (List.all_eq_true.1 o3 id q) (trAll_get hpl e2) hfi (List.map_inj_left.1 k3 id q)
    · rcases HCi_ids e with q | q
      · exact (hE id).2 (.inl q)
      · refine (hE id).2 (.inr ?_)
        revert q
        simp only [cO, cEl, List.mem_cons, List.not_mem_nil, or_false]
        omega
    · rw [← (hif id p1).1, ← (hif id' p2).1, e]
  have hl : opds lsO fr = svsMap (fwd σ) (liveO (-1)) := by
    rw [← k2, svsMap_comp, svsMap_on (p' := pAc σ) hfi _ o4]
  obtain ⟨d, E2, r2, f2, fo2, a2⟩ := retell (ls := lsO) (lv := liveO (-1)) rel fo A1 ren (fun id q => by
    rcases (hE id).1 q with x | x
    · exact .inl ⟨x, flo id x⟩
    · have : 29 ≤ id ∧ id < 60 := by
        simp only [cEl, List.mem_cons, List.not_mem_nil, or_false] at x
        omega
      exact .inr ⟨this.1, this.2, (hif id q).2 this.1⟩) hl rfl (by
    have : some (opd fr (.tmp 117)) = some (.lit undef) := by rw [show some (opd fr (.tmp 117)) = (opds lsO fr)[5]? from rfl, hl]; rfl
    exact Option.some.inj this)
  refine loop1 hO hA hB hC j (d := d) goesC E2 a w (weak44 h3 h4 r2) ⟨f2.at_, f2.emp⟩ fo2 a2 K fun x' fr' h' E' a' w' q => ?_
  obtain ⟨rfl, ⟨d', bef, rfl⟩, rfl⟩ := q
  exact hK _ _ _ _ _ _ (k1 d' bef)
end
end Go.Proofs.YtgoccionghehoaaGreatDoor.Ev
namespace Go.Proofs.YtgoccionghehoaaGreatDoor.Ev
open Go Go.Proofs

variable {W0 : World} [GOk W0]
noncomputable def Old6 (A B C : Int) (c3 c4 : List SV) : Old := ⟨rowO 0 [.slr 26 0 6 0, I 3, I 0, I 0, I 0, I 0], cellsO A B C, codeO c3 c4, rowO 0 [str [102], I 0, I 5, .bool false, nilS, .sl 1 0 1 1]⟩
noncomputable def A6 : List SV := [.agg [.slr 17 0 3 0, nilS, .sl 27 0 1 1, I 0], I 0, .agg [I (-1), nilS]]
noncomputable def svF (F : Pn.St) : SV := .tup [.agg [.slr 45 0 3 0, nilS, .slr 42 0 1 0, I 0], outS F.u, I 0]
noncomputable def hF (A B C : Int) (c3 c4 : List SV) (F : Pn.St) : HS := ⟨(HC (Old6 A B C c3 c4) A B C F.x F.y F.u).put 56 mO, 60, 0, 29⟩
/-- The code behind the loop. -/
noncomputable def afterLoop (c : Code) : Code := Code.rec (motive := fun _ => Code) .skip (fun _ _ _ => .skip) (fun a b _ ib => (fun l : List Code => List.rec (motive := fun _ => Code) ib (fun _ _ _ => b) l) (loopsOf a)) (fun _ _ _ _ _ => .skip) (fun _ _ _ => .skip) (fun _ _ => .skip) (fun _ _ _ _ _ _ => .skip) (fun _ => .skip) (fun _ _ => .skip) (fun _ => .skip) (fun _ => .skip) .skip (fun _ => .skip) c
noncomputable def tail6 : Code := afterLoop (bodyOf Tryz.prog 6)
theorem tail6_0 (lp : LoopK) (d : Nat → Value) (bef : Int) (o : Old) (A B C : Int) (x y : Pn.In) (q : SV → HS → Bool) : dCode Tryz.prog (cE W0) 117 lp tail6 (frO d bef) (HS3 o A B C ⟨x, y, none⟩) (fnEnd Tryz.prog 6 117 q) = q (svF ⟨x, y, none⟩) ⟨(HC o A B C x y none).put 56 mO, 60, 0, 29⟩ := by kernel_rfl
theorem tail6_s (lp : LoopK) (d : Nat → Value) (bef : Int) (o : Old) (A B C : Int) (x y : Pn.In) (n : Nat) (q : SV → HS → Bool) : dCode Tryz.prog (cE W0) 117 lp tail6 (frO d bef) (HS3 o A B C ⟨x, y, some n⟩) (fnEnd Tryz.prog 6 117 q) = q (svF ⟨x, y, some n⟩) ⟨(HC o A B C x y (some n)).put 56 mO, 60, 0, 29⟩ := by kernel_rfl
theorem tail6_ok (lp : LoopK) (d : Nat → Value) (bef : Int) (o : Old) (A B C : Int) (F : Pn.St) (q : SV → HS → Bool) : dCode Tryz.prog (cE W0) 117 lp tail6 (frO d bef) (HS3 o A B C F) (fnEnd Tryz.prog 6 117 q) = q (svF F) ⟨(HC o A B C F.x F.y F.u).put 56 mO, 60, 0, 29⟩ := by
  obtain ⟨x, y, u⟩ := F
  cases u with
  | none => exact tail6_0 lp d bef o A B C x y q
  | some n => exact tail6_s lp d bef o A B C x y n q
/-- What the kernel has to see. -/
def Seen6 (W0 : World) [GOk W0] (A B C : Int) (c3 c4 : List SV) : Prop := ∀ (F : Pn.St) (q : SV → HS → Bool), dCode Tryz.prog (cE W0) 117 (lpX Tryz.prog (cE W0) 117 13 (lpE (Old6 A B C c3 c4) A B C c3 c4 F) 1) (bodyOf Tryz.prog 6) (slots (A6 ++ undefs Tryz.prog 6 3)) ⟨oldH (Old6 A B C c3 c4), 29, 0, 29⟩ (fnEnd Tryz.prog 6 117 q) =
  andR (andR (dec (F.u = none → ∀ (d : Nat → Value) (bef : Int), q (svF ⟨F.x, F.y, none⟩) (hF A B C c3 c4 ⟨F.x, F.y, none⟩) = true)) (dec (∀ n, F.u = some n → ∀ (d : Nat → Value) (bef : Int), q (svF ⟨F.x, F.y, some n⟩) (hF A B C c3 c4 ⟨F.x, F.y, some n⟩) = true))) (andR (dec (liveO (-1) = liveO (-1))) (andR (dec ((cO.map fun c => ov0 ((HCi (Old6 A B C c3 c4) A B C c3 c4).get c)) = cO.map fun c => ov0 ((HCi (Old6 A B C c3 c4) A B C c3 c4).get c))) (dec (b1 = b1))))
theorem fnEnd_k {P : Program} {W0 : World} [GOk W0] {f N : Nat} {k : SV → HS → Bool} {x : X} {fr : Tr SV} {h : HS} (hk : fnEnd P f N k x fr h = true) : ∃ s, k s h = true := by
  unfold fnEnd at hk
  split at hk
  case h_2 => cases hk
  obtain ⟨_, hk⟩ := bif_true hk
  obtain ⟨_, hk⟩ := bif_false hk
  obtain ⟨r, k2, _⟩ := resK_ok (W0 := W0) _ hk
  exact ⟨_, k2⟩
theorem nSl6 : nSl Tryz.prog 6 3 = 117 := by kernel_rfl
theorem OldOk.of {A B C : Int} {c3 c4 : List SV} (h : trAll (soPl fun i => Nat.blt i 29) (oldH (Old6 A B C c3 c4)) = true) : OldOk (Old6 A B C c3 c4) := ⟨fun id x e => trAll_get h e⟩
theorem oldH_lt {o : Old} {id : Nat} {x : SO} (e : (oldH o).get id = some x) : id < 29 := by
  simp only [oldH, Tr.get_put, Tr.get_e] at e
  by_cases h4 : id = 27
  · omega
  rw [if_neg h4] at e
  by_cases h3 : id = 26
  · omega
  rw [if_neg h3] at e
  by_cases h2 : id = 17
  · omega
  rw [if_neg h2] at e
  by_cases h1 : id = 1
  · omega
  rw [if_neg h1] at e
  cases e
theorem call6 {A B C : Int} (hA : Pn.R A) (hB : Pn.R B) (hC : Pn.R C) {c3 c4 : List SV} {x y : Pn.In} (j : Pn.JOk A B C x y) (h3 : LeL c3 (enc x.op 3 x)) (h4 : LeL c4 (enc y.op 4 y)) (hpl : trAll (soPl pEc) (HCi noOld A B C c3 c4) = true) (hO : trAll (soPl fun i => Nat.blt i 29) (oldH (Old6 A B C c3 c4)) = true) (hS : Seen6 W0 A B C c3 c4) :
    CallOk Tryz.prog W0 6 A6 ⟨oldH (Old6 A B C c3 c4), 29, 0, 29⟩ (hF A B C c3 c4 (Pn.pass ⟨x, y, none⟩)) (svF (Pn.pass ⟨x, y, none⟩)) := by
  have hOk := OldOk.of hO
  classical
  refine call_of_HT (p := fun i => Nat.blt i 29) (p' := p60) (by kernel_rfl) rfl rfl ⟨fun id o e => ⟨trAll_get hO e, ?_⟩, fun id e => blt_lt e⟩ ⟨fun id o1 e => ?_, fun id e => p60_iff.1 e⟩ (by kernel_rfl) ?_ ?_ fun E0 w0 => ?_
  · have := oldH_lt e
    simpa using this
  · have e : ((HC (Old6 A B C c3 c4) A B C (Pn.pass ⟨x, y, none⟩).x (Pn.pass ⟨x, y, none⟩).y (Pn.pass ⟨x, y, none⟩).u).put 56 mO).get id = some o1 := e
    rw [Tr.get_put] at e
    by_cases q : id = 56
    · subst q
      rw [if_pos rfl] at e
      obtain rfl := Option.some.inj e
      exact ⟨by kernel_rfl, by decide⟩
    · rw [if_neg q] at e
      exact ⟨(HC_pl hOk e).1, HC_dom e⟩
  · generalize Pn.pass ⟨x, y, none⟩ = F
    obtain ⟨Fx, Fy, Fu⟩ := F
    cases Fu <;> rfl
  · have g := goesC (o := Old6 A B C c3 c4) (A := A) (B := B) (C := C) (x3 := (Pn.pass ⟨x, y, none⟩).x) (x4 := (Pn.pass ⟨x, y, none⟩).y) (u := (Pn.pass ⟨x, y, none⟩).u)
    refine ⟨fun id hid => ?_, rfl, g.nx, g.ne, fun id o1 e => ?_⟩
    · have hid : id < 29 := hid
      show ((HC (Old6 A B C c3 c4) A B C (Pn.pass ⟨x, y, none⟩).x (Pn.pass ⟨x, y, none⟩).y (Pn.pass ⟨x, y, none⟩).u).put 56 mO).get id = _
      rw [Tr.get_put, if_neg (by omega)]
      exact g.kept id hid
    · have e : ((HC (Old6 A B C c3 c4) A B C (Pn.pass ⟨x, y, none⟩).x (Pn.pass ⟨x, y, none⟩).y (Pn.pass ⟨x, y, none⟩).u).put 56 mO).get id = some o1 := e
      rw [Tr.get_put] at e
      by_cases q : id = 56
      · subst q; exact .inl ⟨show 29 ≤ 56 by decide, show 56 < 60 by decide⟩
      · rw [if_neg q] at e
        exact g.live id o1 e
  · rw [show nSl Tryz.prog 6 (A6).length = 117 from nSl6]
    have run := dCodeH_ok (W0 := W0) (h0 := h0 (Old6 A B C c3 c4)) (E0 := E0) (w0 := w0) (P := Tryz.prog) (callG_ok (W0 := W0) (L := []) (m := 100) mixed 30) mixed (lpX_ok (id := 13) (callG_ok (W0 := W0) (L := []) (m := 100) mixed 30) mixed (lpE_ok hOk hA hB hC j h3 h4 hpl) 1) (bodyOf Tryz.prog 6) (slots (A6 ++ undefs Tryz.prog 6 3)) ⟨oldH (Old6 A B C c3 c4), 29, 0, 29⟩ (fnEnd Tryz.prog 6 117 fun s h2 => decide (s = svF (Pn.pass ⟨x, y, none⟩) ∧ h2 = hF A B C c3 c4 (Pn.pass ⟨x, y, none⟩))) (by
      refine (hS _ _).trans ?_
      generalize Pn.pass ⟨x, y, none⟩ = F
      obtain ⟨Fx, Fy, Fu⟩ := F
      exact andR_true.2 ⟨andR_true.2 ⟨dec_true.2 fun e _ _ => decide_eq_true (by simp only at e; subst e; exact ⟨rfl, rfl⟩), dec_true.2 fun n e _ _ => decide_eq_true (by simp only at e; subst e; exact ⟨rfl, rfl⟩)⟩, andR_true.2 ⟨dec_true.2 rfl, andR_true.2 ⟨dec_true.2 rfl, dec_true.2 rfl⟩⟩⟩)
    refine HT.mono run fun x' fr' h' q => ⟨_, q, fun s h2 e => (of_decide_eq_true e).1, ?_⟩
    obtain ⟨s, e⟩ := fnEnd_k (W0 := W0) q
    exact (of_decide_eq_true e).2
end Go.Proofs.YtgoccionghehoaaGreatDoor.Ev
