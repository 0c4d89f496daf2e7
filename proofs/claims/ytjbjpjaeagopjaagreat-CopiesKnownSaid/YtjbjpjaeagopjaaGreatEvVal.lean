/- Values whose addresses are numbers of objects, and what they stand for. -/
import Derived.Test.YtjbjpjaeagopjaaGreatEvTrie
import Derived.Calls
import Derived.Orders
set_option linter.unusedSimpArgs false
set_option linter.unusedVariables false
set_option linter.unusedSectionVars false
namespace Go.Proofs.YtjbjpjaeagopjaaGreat.Ev
open Go

inductive SV where
  | bool (b : Bool)
  | int (k : IntKind) (n : Int)
  | lit (v : Value)
  | ptr (id off : Nat)
  | sl (id off len cap : Nat)
  | slr (id off len skip : Nat)
  | emp (j id off skip : Nat)
  | map (id : Nat)
  | fn (f : Fn) (first cap : List SV)
  | iface (t : TypeId) (v : SV)
  | agg (l : List SV)
  | tup (l : List SV)
  | yld (id : Nat)
  | mks (l : List Nat)

/-- Where an object lies: its block, its first place there, the capacity from there on. -/
structure Spot where
  blk : Nat
  base : Nat
  cap : Nat
structure Env where
  at_ : Nat → Option Spot
  emp : Nat → Option (Option Addr × Nat)
def Env.le (E E' : Env) : Prop := (∀ i s, E.at_ i = some s → E'.at_ i = some s) ∧ (∀ j p, E.emp j = some p → E'.emp j = some p)
theorem Env.le_refl (E : Env) : E.le E := ⟨fun _ _ h => h, fun _ _ h => h⟩
theorem Env.le_trans {A B C : Env} (h : A.le B) (k : B.le C) : A.le C := ⟨fun i s e => k.1 i s (h.1 i s e), fun j p e => k.2 j p (h.2 j p e)⟩

mutual
/-- What a value stands for. -/
def val (E : Env) : SV → Option Value
  | .bool b => some (.bool b)
  | .int k n => some (.int k n)
  | .lit v => some v
  | .ptr id off => (E.at_ id).map fun s => .pointer (some ⟨s.blk, s.base + off, none⟩)
  | .sl id off len cap => (E.at_ id).map fun s => .slice (some ⟨s.blk, s.base + off, none⟩) len cap
  | .slr id off len skip => (E.at_ id).map fun s => .slice (some ⟨s.blk, s.base + off, none⟩) len (s.cap - skip)
  | .emp j id off skip => (E.emp j).bind fun p => p.1.bind fun A => (E.at_ id).map fun s => .slice (some (if s.cap = skip then A else ⟨s.blk, s.base + off, none⟩)) 0 (s.cap - skip)
  | .map id => (E.at_ id).map fun s => .map (some s.blk)
  | .yld id => (E.at_ id).map fun s => .func (.yield s.blk) #[] #[]
  | .mks _ => some undef
  | .fn f a b => (vals E a).bind fun x => (vals E b).map fun y => .func f x.toArray y.toArray
  | .iface t v => (val E v).map fun x => .iface t x
  | .agg l => (vals E l).map fun x => .agg x.toArray
  | .tup l => (vals E l).map fun x => .tuple x.toArray
def vals (E : Env) : List SV → Option (List Value)
  | [] => some []
  | s :: r => (val E s).bind fun x => (vals E r).map fun y => x :: y
end

mutual
theorem val_le {E E' : Env} (h : E.le E') : ∀ (s : SV) (v : Value), val E s = some v → val E' s = some v
  | .bool b, v, e => by simpa [val] using e
  | .int k n, v, e => by simpa [val] using e
  | .lit x, v, e => by simpa [val] using e
  | .ptr id off, v, e => by
    simp only [val, Option.map_eq_some_iff] at e ⊢
    obtain ⟨s, a, b⟩ := e
    exact ⟨s, h.1 _ _ a, b⟩
  | .sl id off len cap, v, e => by
    simp only [val, Option.map_eq_some_iff] at e ⊢
    obtain ⟨s, a, b⟩ := e
    exact ⟨s, h.1 _ _ a, b⟩
  | .slr id off len skip, v, e => by
    simp only [val, Option.map_eq_some_iff] at e ⊢
    obtain ⟨s, a, b⟩ := e
    exact ⟨s, h.1 _ _ a, b⟩
  | .emp j id off skip, v, e => by
    simp only [val, Option.bind_eq_some_iff, Option.map_eq_some_iff] at e ⊢
    obtain ⟨p, a, A, b, s, c, d⟩ := e
    exact ⟨p, h.2 _ _ a, A, b, s, h.1 _ _ c, d⟩
  | .map id, v, e => by
    simp only [val, Option.map_eq_some_iff] at e ⊢
    obtain ⟨s, a, b⟩ := e
    exact ⟨s, h.1 _ _ a, b⟩
  | .yld id, v, e => by
    simp only [val, Option.map_eq_some_iff] at e ⊢
    obtain ⟨s, a, b⟩ := e
    exact ⟨s, h.1 _ _ a, b⟩
  | .mks l, v, e => by simpa [val] using e
  | .fn f a b, v, e => by
    simp only [val, Option.bind_eq_some_iff, Option.map_eq_some_iff] at e ⊢
    obtain ⟨x, hx, y, hy, r⟩ := e
    exact ⟨x, vals_le h a x hx, y, vals_le h b y hy, r⟩
  | .iface t s, v, e => by
    simp only [val, Option.map_eq_some_iff] at e ⊢
    obtain ⟨x, hx, r⟩ := e
    exact ⟨x, val_le h s x hx, r⟩
  | .agg l, v, e => by
    simp only [val, Option.map_eq_some_iff] at e ⊢
    obtain ⟨x, hx, r⟩ := e
    exact ⟨x, vals_le h l x hx, r⟩
  | .tup l, v, e => by
    simp only [val, Option.map_eq_some_iff] at e ⊢
    obtain ⟨x, hx, r⟩ := e
    exact ⟨x, vals_le h l x hx, r⟩
theorem vals_le {E E' : Env} (h : E.le E') : ∀ (l : List SV) (v : List Value), vals E l = some v → vals E' l = some v
  | [], v, e => by simpa [vals] using e
  | s :: r, v, e => by
    simp only [vals, Option.bind_eq_some_iff, Option.map_eq_some_iff] at e ⊢
    obtain ⟨x, hx, y, hy, q⟩ := e
    exact ⟨x, val_le h s x hx, y, vals_le h r y hy, q⟩
end

mutual
/-- The value itself, where no address stands in it. -/
def flat : SV → Option Value
  | .bool b => some (.bool b)
  | .int k n => some (.int k n)
  | .lit v => some v
  | .iface t v => (flat v).map fun x => .iface t x
  | .agg l => (flats l).map fun x => .agg x.toArray
  | .tup l => (flats l).map fun x => .tuple x.toArray
  | .fn f a b => (flats a).bind fun x => (flats b).map fun y => .func f x.toArray y.toArray
  | _ => none
def flats : List SV → Option (List Value)
  | [] => some []
  | s :: r => (flat s).bind fun x => (flats r).map fun y => x :: y
end
mutual
theorem val_of_flat (E : Env) : ∀ (s : SV) (v : Value), flat s = some v → val E s = some v
  | .bool b, v, e => by simpa [val, flat] using e
  | .int k n, v, e => by simpa [val, flat] using e
  | .lit x, v, e => by simpa [val, flat] using e
  | .ptr id off, v, e => by simp [flat] at e
  | .sl id off len cap, v, e => by simp [flat] at e
  | .slr id off len skip, v, e => by simp [flat] at e
  | .emp j id off skip, v, e => by simp [flat] at e
  | .map id, v, e => by simp [flat] at e
  | .yld id, v, e => by simp [flat] at e
  | .mks l, v, e => by simp [flat] at e
  | .fn f a b, v, e => by
    simp only [val, flat, Option.bind_eq_some_iff, Option.map_eq_some_iff] at e ⊢
    obtain ⟨x, hx, y, hy, r⟩ := e
    exact ⟨x, vals_of_flats E a x hx, y, vals_of_flats E b y hy, r⟩
  | .iface t s, v, e => by
    simp only [val, flat, Option.map_eq_some_iff] at e ⊢
    obtain ⟨x, hx, r⟩ := e
    exact ⟨x, val_of_flat E s x hx, r⟩
  | .agg l, v, e => by
    simp only [val, flat, Option.map_eq_some_iff] at e ⊢
    obtain ⟨x, hx, r⟩ := e
    exact ⟨x, vals_of_flats E l x hx, r⟩
  | .tup l, v, e => by
    simp only [val, flat, Option.map_eq_some_iff] at e ⊢
    obtain ⟨x, hx, r⟩ := e
    exact ⟨x, vals_of_flats E l x hx, r⟩
theorem vals_of_flats (E : Env) : ∀ (l : List SV) (v : List Value), flats l = some v → vals E l = some v
  | [], v, e => by simpa [vals, flats] using e
  | s :: r, v, e => by
    simp only [vals, flats, Option.bind_eq_some_iff, Option.map_eq_some_iff] at e ⊢
    obtain ⟨x, hx, y, hy, q⟩ := e
    exact ⟨x, val_of_flat E s x hx, y, vals_of_flats E r y hy, q⟩
end

/-- A run that neither looks at the world nor turns it. -/
def pureRun {α : Type} (P : Program) : Sem α → Option α
  | .pure a => some a
  | .program k => pureRun P (k P)
  | .mark _ k => pureRun P k
  | _ => none
theorem run_of_pureRun {α : Type} (P : Program) (e : Sem α) : ∀ (v : α) (w : World), pureRun P e = some v → e.run P w = .ok v w := by
  induction e with
  | pure a => intro v w h; simp only [pureRun, Option.some.injEq] at h; subst h; rfl
  | program k ih => intro v w h; simp only [pureRun] at h; simpa [Sem.run] using ih _ v w h
  | mark m k ih => intro v w h; simp only [pureRun] at h; simpa [Sem.run] using ih v w h
  | load m a k ih => intro v w h; simp [pureRun] at h
  | store m a v k ih => intro v w h; simp [pureRun] at h
  | new o k ih => intro v w h; simp [pureRun] at h
  | shape r k ih => intro v w h; simp [pureRun] at h
  | freeze a n k ih => intro v w h; simp [pureRun] at h
  | frozen a k ih => intro v w h; simp [pureRun] at h
  | getObj r k ih => intro v w h; simp [pureRun] at h
  | setObj r o k ih => intro v w h; simp [pureRun] at h
  | choose q k ih => intro v w h; simp [pureRun] at h
  | sys c k ih => intro v w h; simp [pureRun] at h
  | halt h => intro v w h; simp [pureRun] at h
end Go.Proofs.YtjbjpjaeagopjaaGreat.Ev
