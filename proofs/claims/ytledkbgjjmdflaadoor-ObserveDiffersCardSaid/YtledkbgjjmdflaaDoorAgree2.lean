/- irsem.Agree: its contract. -/
import Derived.Test.YtledkbgjjmdflaaDoorAgree
namespace Go.Proofs.YtledkbgjjmdflaaDoor.Obs
open Go Go.RowKit Go.Proofs Go.Shelf Go.Sort

def begB (xs ys : List Int) : Bool := decide (xs = ys.take xs.length)
theorem readsI_take {w : World} {B : Option Addr} {m n : Nat} {ys : List Int} (h : ReadsI w B m ys) (hn : n ≤ m) : ReadsI w B n (ys.take n) :=
  ⟨by rw [List.length_take, h.1]; omega, fun h0 => by
    obtain ⟨ad, e, hc⟩ := h.2 (by omega)
    refine ⟨ad, e, fun j hj => ?_⟩
    rw [hc j (by omega)]
    simp [List.getD_eq_getElem?_getD, List.getElem?_take, hj]⟩

set_option maxHeartbeats 400000 in
theorem begins_any (A B : Option Addr) (n m c d : Nat) (xs ys : List Int) (w : World) (hx : ReadsI w A n xs) (hy : ReadsI w B m ys) (hn : n ≤ 140737488351232) (hm : m ≤ d) (hd : d ≤ 140737488351232) :
    Calls Tryd.prog 29 #[.slice A n c, .slice B m d] w (Ret (.bool (begB xs ys)) w) := by
  by_cases hnm : n ≤ m
  · have hb : decide ((n : Int) ≤ (m : Int)) = true := by simp; omega
    have i0 : (0 : Int) ≤ (n : Int) := Int.natCast_nonneg _
    have i1 : (n : Int) ≤ (d : Int) := by omega
    have he := equal_any A B n n c d xs (ys.take n) w hx (readsI_take hy hnm) hn hn
    have hfin : eqL xs (ys.take n) = begB xs ys := by unfold eqL begB; rw [hx.1]
    rw [hfin] at he
    obtain ⟨r, hr⟩ : ∃ r, r = begB xs ys := ⟨_, rfl⟩
    rw [← hr] at he ⊢
    clear hr hfin hx hy
    have HE := Lib.hid he
    clear he
    go_enter Tryd.func29, Tryd.ntmps29
    go_wp2_with (go_at_call 30; refine HE.out.mono ?_; rintro e w' ⟨rfl, q, rfl⟩)
    go_ret
    exact ⟨rfl, q, rfl⟩
  · have hb : decide ((n : Int) ≤ (m : Int)) = false := by simp; omega
    have hfin : begB xs ys = false := decide_eq_false (fun h => by
      have := congrArg List.length h
      rw [List.length_take, hx.1, hy.1] at this
      omega)
    rw [hfin]
    clear hfin hx hy
    go_enter Tryd.func29, Tryd.ntmps29
    go_wp2
    go_ret
    exact ⟨rfl, 0, rfl⟩

def agreeB (xs : List Int) (ea ca : Int) (ys : List Int) (eb cb : Int) : Bool :=
  (decide (ea = eb) && decide (ca = cb) && eqL xs ys) || (decide (ea = 4) && begB xs ys) || (decide (eb = 4) && begB ys xs)

/-- It returns v; nothing that lay has turned. -/
def RetB (v : Value) (w : World) (e : Ending) (w' : World) : Prop := e = .returned v ∧ Below w.heap.size w w'

theorem belowN {B : Nat} {a w : World} (h : Below B a w) (n : Nat) : Below B a (w.drewN n) := ⟨h.os, h.tape, h.output, h.size, h.block⟩

set_option maxHeartbeats 8000000 in
set_option maxRecDepth 100000 in
theorem agree_any (A B : Option Addr) (n m c d : Nat) (xs ys : List Int) (ea ca eb cb : Int) (w : World) (hx : ReadsI w A n xs) (hy : ReadsI w B m ys) (hn : n ≤ c) (hc : c ≤ 140737488351232) (hm : m ≤ d) (hd : d ≤ 140737488351232) :
    Calls Tryd.prog 15 #[.agg #[.slice A n c, .int .i64 ea, .int .i64 ca], .agg #[.slice B m d, .int .i64 eb, .int .i64 cb]] w (RetB (.bool (agreeB xs ea ca ys eb cb)) w) := by
  have K30 : Hid (∀ W, Below w.heap.size w W → Calls Tryd.prog 30 #[.slice A n c, .slice B m d] W (Ret (.bool (eqL xs ys)) W)) := fun W hb => equal_any A B n m c d xs ys _ (hx.below (Nat.le_refl _) hb) (hy.below (Nat.le_refl _) hb) (by omega) (by omega)
  have K29a : Hid (∀ W, Below w.heap.size w W → Calls Tryd.prog 29 #[.slice A n c, .slice B m d] W (Ret (.bool (begB xs ys)) W)) := fun W hb => begins_any A B n m c d xs ys _ (hx.below (Nat.le_refl _) hb) (hy.below (Nat.le_refl _) hb) (by omega) hm (by omega)
  have K29b : Hid (∀ W, Below w.heap.size w W → Calls Tryd.prog 29 #[.slice B m d, .slice A n c] W (Ret (.bool (begB ys xs)) W)) := fun W hb => begins_any B A m n d c ys xs _ (hy.below (Nat.le_refl _) hb) (hx.below (Nat.le_refl _) hb) (by omega) hn (by omega)
  clear hx hy hn hc hm hd
  have HAG : Hid (agreeB xs ea ca ys eb cb = ((decide (ea = eb) && decide (ca = cb) && eqL xs ys) || (decide (ea = 4) && begB xs ys) || (decide (eb = 4) && begB ys xs))) := rfl
  generalize agreeB xs ea ca ys eb cb = res at HAG ⊢
  generalize eqL xs ys = r0 at K30 HAG
  generalize begB xs ys = r1 at K29a HAG
  generalize begB ys xs = r2 at K29b HAG
  have h1 : ((ea == eb) = false ∧ ea ≠ eb) ∨ ((ea == eb) = true ∧ ea = eb) := by by_cases h : ea = eb <;> simp [h]
  have h2 : ((ca == cb) = false ∧ ca ≠ cb) ∨ ((ca == cb) = true ∧ ca = cb) := by by_cases h : ca = cb <;> simp [h]
  have h3 : ((ea == 4) = false ∧ ea ≠ 4) ∨ ((ea == 4) = true ∧ ea = 4) := by by_cases h : ea = 4 <;> simp [h]
  have h4 : ((eb == 4) = false ∧ eb ≠ 4) ∨ ((eb == 4) = true ∧ eb = 4) := by by_cases h : eb = 4 <;> simp [h]
  have first : ((ea == eb) = false ∧ Hid (ea ≠ eb)) ∨ ((ea == eb) = true ∧ (ca == cb) = false ∧ Hid (ca ≠ cb)) ∨ ((ea == eb) = true ∧ (ca == cb) = true ∧ r0 = false) ∨ ((ea == eb) = true ∧ (ca == cb) = true ∧ r0 = true ∧ Hid (ea = eb ∧ ca = cb)) := by
    rcases h1 with ⟨h1, h1'⟩ | ⟨h1, h1'⟩
    · exact .inl ⟨h1, h1'⟩
    · rcases h2 with ⟨h2, h2'⟩ | ⟨h2, h2'⟩
      · exact .inr (.inl ⟨h1, h2, h2'⟩)
      · cases r0
        · exact .inr (.inr (.inl ⟨h1, h2, rfl⟩))
        · exact .inr (.inr (.inr ⟨h1, h2, rfl, h1', h2'⟩))
  have second : ((ea == 4) = false ∧ Hid (ea ≠ 4) ∧ (eb == 4) = false ∧ Hid (eb ≠ 4)) ∨ ((ea == 4) = false ∧ Hid (ea ≠ 4) ∧ (eb == 4) = true ∧ Hid (eb = 4)) ∨ ((ea == 4) = true ∧ Hid (ea = 4) ∧ r1 = true) ∨ ((ea == 4) = true ∧ Hid (ea = 4) ∧ r1 = false ∧ (eb == 4) = false ∧ Hid (eb ≠ 4)) ∨ ((ea == 4) = true ∧ Hid (ea = 4) ∧ r1 = false ∧ (eb == 4) = true ∧ Hid (eb = 4)) := by
    rcases h3 with ⟨h3, h3'⟩ | ⟨h3, h3'⟩
    · rcases h4 with ⟨h4, h4'⟩ | ⟨h4, h4'⟩
      · exact .inl ⟨h3, h3', h4, h4'⟩
      · exact .inr (.inl ⟨h3, h3', h4, h4'⟩)
    · cases r1
      · rcases h4 with ⟨h4, h4'⟩ | ⟨h4, h4'⟩
        · exact .inr (.inr (.inr (.inl ⟨h3, h3', rfl, h4, h4'⟩)))
        · exact .inr (.inr (.inr (.inr ⟨h3, h3', rfl, h4, h4'⟩)))
      · exact .inr (.inr (.inl ⟨h3, h3', rfl⟩))
  clear h1 h2 h3 h4
  have FIN : ∀ {W : World} {v : Bool}, v = res → Below w.heap.size w W → RetB (.bool res) w (.returned (.bool v)) W := fun h hb => ⟨ret_b h, hb⟩
  rcases first with ⟨f1, g1⟩ | ⟨f1, f2, g2⟩ | ⟨f1, f2, rfl⟩ | ⟨f1, f2, rfl, g3⟩
  · -- the ends differ
    rcases second with ⟨s1, t1, s2, t2⟩ | ⟨s1, t1, s2, t2⟩ | ⟨s1, t1, rfl⟩ | ⟨s1, t1, rfl, s2, t2⟩ | ⟨s1, t1, rfl, s2, t2⟩
    · go_enter Tryd.func15, Tryd.ntmps15
      go_wp2_with (first
        | (go_at_call 30; ((with_reducible refine (K30.out _ (by repeat (first | exact Below.refl _ _ | refine Below.drew ?_ | refine belowN ?_ _ | refine Below.alloc ?_ (by simp) _))).mono ?_); rintro en w' ⟨rfl, q, rfl⟩))
        | (go_at_call 29; ((with_reducible refine (K29a.out _ (by repeat (first | exact Below.refl _ _ | refine Below.drew ?_ | refine belowN ?_ _ | refine Below.alloc ?_ (by simp) _))).mono ?_); rintro en w' ⟨rfl, q, rfl⟩))
        | (go_at_call 29; ((with_reducible refine (K29b.out _ (by repeat (first | exact Below.refl _ _ | refine Below.drew ?_ | refine belowN ?_ _ | refine Below.alloc ?_ (by simp) _))).mono ?_); rintro en w' ⟨rfl, q, rfl⟩)))
      go_ret
      refine FIN ?_ ?_
      · rw [HAG.out, decide_eq_false g1.out]; simp [t1.out, t2.out]
      · repeat (first | exact Below.refl _ _ | refine Below.drew ?_ | refine belowN ?_ _ | refine Below.alloc ?_ (by simp) _)
    · go_enter Tryd.func15, Tryd.ntmps15
      go_wp2_with (first
        | (go_at_call 30; ((with_reducible refine (K30.out _ (by repeat (first | exact Below.refl _ _ | refine Below.drew ?_ | refine belowN ?_ _ | refine Below.alloc ?_ (by simp) _))).mono ?_); rintro en w' ⟨rfl, q, rfl⟩))
        | (go_at_call 29; ((with_reducible refine (K29a.out _ (by repeat (first | exact Below.refl _ _ | refine Below.drew ?_ | refine belowN ?_ _ | refine Below.alloc ?_ (by simp) _))).mono ?_); rintro en w' ⟨rfl, q, rfl⟩))
        | (go_at_call 29; ((with_reducible refine (K29b.out _ (by repeat (first | exact Below.refl _ _ | refine Below.drew ?_ | refine belowN ?_ _ | refine Below.alloc ?_ (by simp) _))).mono ?_); rintro en w' ⟨rfl, q, rfl⟩)))
      go_ret
      refine FIN ?_ ?_
      · rw [HAG.out, decide_eq_false g1.out]; simp [t1.out, t2.out]
      · repeat (first | exact Below.refl _ _ | refine Below.drew ?_ | refine belowN ?_ _ | refine Below.alloc ?_ (by simp) _)
    · go_enter Tryd.func15, Tryd.ntmps15
      go_wp2_with (first
        | (go_at_call 30; ((with_reducible refine (K30.out _ (by repeat (first | exact Below.refl _ _ | refine Below.drew ?_ | refine belowN ?_ _ | refine Below.alloc ?_ (by simp) _))).mono ?_); rintro en w' ⟨rfl, q, rfl⟩))
        | (go_at_call 29; ((with_reducible refine (K29a.out _ (by repeat (first | exact Below.refl _ _ | refine Below.drew ?_ | refine belowN ?_ _ | refine Below.alloc ?_ (by simp) _))).mono ?_); rintro en w' ⟨rfl, q, rfl⟩))
        | (go_at_call 29; ((with_reducible refine (K29b.out _ (by repeat (first | exact Below.refl _ _ | refine Below.drew ?_ | refine belowN ?_ _ | refine Below.alloc ?_ (by simp) _))).mono ?_); rintro en w' ⟨rfl, q, rfl⟩)))
      go_ret
      refine FIN ?_ ?_
      · rw [HAG.out, decide_eq_false g1.out]; simp [t1.out]
      · repeat (first | exact Below.refl _ _ | refine Below.drew ?_ | refine belowN ?_ _ | refine Below.alloc ?_ (by simp) _)
    · go_enter Tryd.func15, Tryd.ntmps15
      go_wp2_with (first
        | (go_at_call 30; ((with_reducible refine (K30.out _ (by repeat (first | exact Below.refl _ _ | refine Below.drew ?_ | refine belowN ?_ _ | refine Below.alloc ?_ (by simp) _))).mono ?_); rintro en w' ⟨rfl, q, rfl⟩))
        | (go_at_call 29; ((with_reducible refine (K29a.out _ (by repeat (first | exact Below.refl _ _ | refine Below.drew ?_ | refine belowN ?_ _ | refine Below.alloc ?_ (by simp) _))).mono ?_); rintro en w' ⟨rfl, q, rfl⟩))
        | (go_at_call 29; ((with_reducible refine (K29b.out _ (by repeat (first | exact Below.refl _ _ | refine Below.drew ?_ | refine belowN ?_ _ | refine Below.alloc ?_ (by simp) _))).mono ?_); rintro en w' ⟨rfl, q, rfl⟩)))
      go_ret
      refine FIN ?_ ?_
      · rw [HAG.out, decide_eq_false g1.out]; simp [t1.out, t2.out]
      · repeat (first | exact Below.refl _ _ | refine Below.drew ?_ | refine belowN ?_ _ | refine Below.alloc ?_ (by simp) _)
    · go_enter Tryd.func15, Tryd.ntmps15
      go_wp2_with (first
        | (go_at_call 30; ((with_reducible refine (K30.out _ (by repeat (first | exact Below.refl _ _ | refine Below.drew ?_ | refine belowN ?_ _ | refine Below.alloc ?_ (by simp) _))).mono ?_); rintro en w' ⟨rfl, q, rfl⟩))
        | (go_at_call 29; ((with_reducible refine (K29a.out _ (by repeat (first | exact Below.refl _ _ | refine Below.drew ?_ | refine belowN ?_ _ | refine Below.alloc ?_ (by simp) _))).mono ?_); rintro en w' ⟨rfl, q, rfl⟩))
        | (go_at_call 29; ((with_reducible refine (K29b.out _ (by repeat (first | exact Below.refl _ _ | refine Below.drew ?_ | refine belowN ?_ _ | refine Below.alloc ?_ (by simp) _))).mono ?_); rintro en w' ⟨rfl, q, rfl⟩)))
      go_ret
      refine FIN ?_ ?_
      · rw [HAG.out, decide_eq_false g1.out]; simp [t1.out, t2.out]
      · repeat (first | exact Below.refl _ _ | refine Below.drew ?_ | refine belowN ?_ _ | refine Below.alloc ?_ (by simp) _)
  · -- the codes differ
    rcases second with ⟨s1, t1, s2, t2⟩ | ⟨s1, t1, s2, t2⟩ | ⟨s1, t1, rfl⟩ | ⟨s1, t1, rfl, s2, t2⟩ | ⟨s1, t1, rfl, s2, t2⟩
    · go_enter Tryd.func15, Tryd.ntmps15
      go_wp2_with (first
        | (go_at_call 30; ((with_reducible refine (K30.out _ (by repeat (first | exact Below.refl _ _ | refine Below.drew ?_ | refine belowN ?_ _ | refine Below.alloc ?_ (by simp) _))).mono ?_); rintro en w' ⟨rfl, q, rfl⟩))
        | (go_at_call 29; ((with_reducible refine (K29a.out _ (by repeat (first | exact Below.refl _ _ | refine Below.drew ?_ | refine belowN ?_ _ | refine Below.alloc ?_ (by simp) _))).mono ?_); rintro en w' ⟨rfl, q, rfl⟩))
        | (go_at_call 29; ((with_reducible refine (K29b.out _ (by repeat (first | exact Below.refl _ _ | refine Below.drew ?_ | refine belowN ?_ _ | refine Below.alloc ?_ (by simp) _))).mono ?_); rintro en w' ⟨rfl, q, rfl⟩)))
      go_ret
      refine FIN ?_ ?_
      · rw [HAG.out, decide_eq_false g2.out]; simp [t1.out, t2.out]
      · repeat (first | exact Below.refl _ _ | refine Below.drew ?_ | refine belowN ?_ _ | refine Below.alloc ?_ (by simp) _)
    · go_enter Tryd.func15, Tryd.ntmps15
      go_wp2_with (first
        | (go_at_call 30; ((with_reducible refine (K30.out _ (by repeat (first | exact Below.refl _ _ | refine Below.drew ?_ | refine belowN ?_ _ | refine Below.alloc ?_ (by simp) _))).mono ?_); rintro en w' ⟨rfl, q, rfl⟩))
        | (go_at_call 29; ((with_reducible refine (K29a.out _ (by repeat (first | exact Below.refl _ _ | refine Below.drew ?_ | refine belowN ?_ _ | refine Below.alloc ?_ (by simp) _))).mono ?_); rintro en w' ⟨rfl, q, rfl⟩))
        | (go_at_call 29; ((with_reducible refine (K29b.out _ (by repeat (first | exact Below.refl _ _ | refine Below.drew ?_ | refine belowN ?_ _ | refine Below.alloc ?_ (by simp) _))).mono ?_); rintro en w' ⟨rfl, q, rfl⟩)))
      go_ret
      refine FIN ?_ ?_
      · rw [HAG.out, decide_eq_false g2.out]; simp [t1.out, t2.out]
      · repeat (first | exact Below.refl _ _ | refine Below.drew ?_ | refine belowN ?_ _ | refine Below.alloc ?_ (by simp) _)
    · go_enter Tryd.func15, Tryd.ntmps15
      go_wp2_with (first
        | (go_at_call 30; ((with_reducible refine (K30.out _ (by repeat (first | exact Below.refl _ _ | refine Below.drew ?_ | refine belowN ?_ _ | refine Below.alloc ?_ (by simp) _))).mono ?_); rintro en w' ⟨rfl, q, rfl⟩))
        | (go_at_call 29; ((with_reducible refine (K29a.out _ (by repeat (first | exact Below.refl _ _ | refine Below.drew ?_ | refine belowN ?_ _ | refine Below.alloc ?_ (by simp) _))).mono ?_); rintro en w' ⟨rfl, q, rfl⟩))
        | (go_at_call 29; ((with_reducible refine (K29b.out _ (by repeat (first | exact Below.refl _ _ | refine Below.drew ?_ | refine belowN ?_ _ | refine Below.alloc ?_ (by simp) _))).mono ?_); rintro en w' ⟨rfl, q, rfl⟩)))
      go_ret
      refine FIN ?_ ?_
      · rw [HAG.out, decide_eq_false g2.out]; simp [t1.out]
      · repeat (first | exact Below.refl _ _ | refine Below.drew ?_ | refine belowN ?_ _ | refine Below.alloc ?_ (by simp) _)
    · go_enter Tryd.func15, Tryd.ntmps15
      go_wp2_with (first
        | (go_at_call 30; ((with_reducible refine (K30.out _ (by repeat (first | exact Below.refl _ _ | refine Below.drew ?_ | refine belowN ?_ _ | refine Below.alloc ?_ (by simp) _))).mono ?_); rintro en w' ⟨rfl, q, rfl⟩))
        | (go_at_call 29; ((with_reducible refine (K29a.out _ (by repeat (first | exact Below.refl _ _ | refine Below.drew ?_ | refine belowN ?_ _ | refine Below.alloc ?_ (by simp) _))).mono ?_); rintro en w' ⟨rfl, q, rfl⟩))
        | (go_at_call 29; ((with_reducible refine (K29b.out _ (by repeat (first | exact Below.refl _ _ | refine Below.drew ?_ | refine belowN ?_ _ | refine Below.alloc ?_ (by simp) _))).mono ?_); rintro en w' ⟨rfl, q, rfl⟩)))
      go_ret
      refine FIN ?_ ?_
      · rw [HAG.out, decide_eq_false g2.out]; simp [t1.out, t2.out]
      · repeat (first | exact Below.refl _ _ | refine Below.drew ?_ | refine belowN ?_ _ | refine Below.alloc ?_ (by simp) _)
    · go_enter Tryd.func15, Tryd.ntmps15
      go_wp2_with (first
        | (go_at_call 30; ((with_reducible refine (K30.out _ (by repeat (first | exact Below.refl _ _ | refine Below.drew ?_ | refine belowN ?_ _ | refine Below.alloc ?_ (by simp) _))).mono ?_); rintro en w' ⟨rfl, q, rfl⟩))
        | (go_at_call 29; ((with_reducible refine (K29a.out _ (by repeat (first | exact Below.refl _ _ | refine Below.drew ?_ | refine belowN ?_ _ | refine Below.alloc ?_ (by simp) _))).mono ?_); rintro en w' ⟨rfl, q, rfl⟩))
        | (go_at_call 29; ((with_reducible refine (K29b.out _ (by repeat (first | exact Below.refl _ _ | refine Below.drew ?_ | refine belowN ?_ _ | refine Below.alloc ?_ (by simp) _))).mono ?_); rintro en w' ⟨rfl, q, rfl⟩)))
      go_ret
      refine FIN ?_ ?_
      · rw [HAG.out, decide_eq_false g2.out]; simp [t1.out, t2.out]
      · repeat (first | exact Below.refl _ _ | refine Below.drew ?_ | refine belowN ?_ _ | refine Below.alloc ?_ (by simp) _)
  · -- what is printed differs
    rcases second with ⟨s1, t1, s2, t2⟩ | ⟨s1, t1, s2, t2⟩ | ⟨s1, t1, rfl⟩ | ⟨s1, t1, rfl, s2, t2⟩ | ⟨s1, t1, rfl, s2, t2⟩
    · go_enter Tryd.func15, Tryd.ntmps15
      go_wp2_with (first
        | (go_at_call 30; ((with_reducible refine (K30.out _ (by repeat (first | exact Below.refl _ _ | refine Below.drew ?_ | refine belowN ?_ _ | refine Below.alloc ?_ (by simp) _))).mono ?_); rintro en w' ⟨rfl, q, rfl⟩))
        | (go_at_call 29; ((with_reducible refine (K29a.out _ (by repeat (first | exact Below.refl _ _ | refine Below.drew ?_ | refine belowN ?_ _ | refine Below.alloc ?_ (by simp) _))).mono ?_); rintro en w' ⟨rfl, q, rfl⟩))
        | (go_at_call 29; ((with_reducible refine (K29b.out _ (by repeat (first | exact Below.refl _ _ | refine Below.drew ?_ | refine belowN ?_ _ | refine Below.alloc ?_ (by simp) _))).mono ?_); rintro en w' ⟨rfl, q, rfl⟩)))
      go_ret
      refine FIN ?_ ?_
      · rw [HAG.out]; simp [Bool.and_false, t1.out, t2.out]
      · repeat (first | exact Below.refl _ _ | refine Below.drew ?_ | refine belowN ?_ _ | refine Below.alloc ?_ (by simp) _)
    · go_enter Tryd.func15, Tryd.ntmps15
      go_wp2_with (first
        | (go_at_call 30; ((with_reducible refine (K30.out _ (by repeat (first | exact Below.refl _ _ | refine Below.drew ?_ | refine belowN ?_ _ | refine Below.alloc ?_ (by simp) _))).mono ?_); rintro en w' ⟨rfl, q, rfl⟩))
        | (go_at_call 29; ((with_reducible refine (K29a.out _ (by repeat (first | exact Below.refl _ _ | refine Below.drew ?_ | refine belowN ?_ _ | refine Below.alloc ?_ (by simp) _))).mono ?_); rintro en w' ⟨rfl, q, rfl⟩))
        | (go_at_call 29; ((with_reducible refine (K29b.out _ (by repeat (first | exact Below.refl _ _ | refine Below.drew ?_ | refine belowN ?_ _ | refine Below.alloc ?_ (by simp) _))).mono ?_); rintro en w' ⟨rfl, q, rfl⟩)))
      go_ret
      refine FIN ?_ ?_
      · rw [HAG.out]; simp [Bool.and_false, t1.out, t2.out]
      · repeat (first | exact Below.refl _ _ | refine Below.drew ?_ | refine belowN ?_ _ | refine Below.alloc ?_ (by simp) _)
    · go_enter Tryd.func15, Tryd.ntmps15
      go_wp2_with (first
        | (go_at_call 30; ((with_reducible refine (K30.out _ (by repeat (first | exact Below.refl _ _ | refine Below.drew ?_ | refine belowN ?_ _ | refine Below.alloc ?_ (by simp) _))).mono ?_); rintro en w' ⟨rfl, q, rfl⟩))
        | (go_at_call 29; ((with_reducible refine (K29a.out _ (by repeat (first | exact Below.refl _ _ | refine Below.drew ?_ | refine belowN ?_ _ | refine Below.alloc ?_ (by simp) _))).mono ?_); rintro en w' ⟨rfl, q, rfl⟩))
        | (go_at_call 29; ((with_reducible refine (K29b.out _ (by repeat (first | exact Below.refl _ _ | refine Below.drew ?_ | refine belowN ?_ _ | refine Below.alloc ?_ (by simp) _))).mono ?_); rintro en w' ⟨rfl, q, rfl⟩)))
      go_ret
      refine FIN ?_ ?_
      · rw [HAG.out]; simp [Bool.and_false, t1.out]
      · repeat (first | exact Below.refl _ _ | refine Below.drew ?_ | refine belowN ?_ _ | refine Below.alloc ?_ (by simp) _)
    · go_enter Tryd.func15, Tryd.ntmps15
      go_wp2_with (first
        | (go_at_call 30; ((with_reducible refine (K30.out _ (by repeat (first | exact Below.refl _ _ | refine Below.drew ?_ | refine belowN ?_ _ | refine Below.alloc ?_ (by simp) _))).mono ?_); rintro en w' ⟨rfl, q, rfl⟩))
        | (go_at_call 29; ((with_reducible refine (K29a.out _ (by repeat (first | exact Below.refl _ _ | refine Below.drew ?_ | refine belowN ?_ _ | refine Below.alloc ?_ (by simp) _))).mono ?_); rintro en w' ⟨rfl, q, rfl⟩))
        | (go_at_call 29; ((with_reducible refine (K29b.out _ (by repeat (first | exact Below.refl _ _ | refine Below.drew ?_ | refine belowN ?_ _ | refine Below.alloc ?_ (by simp) _))).mono ?_); rintro en w' ⟨rfl, q, rfl⟩)))
      go_ret
      refine FIN ?_ ?_
      · rw [HAG.out]; simp [Bool.and_false, t1.out, t2.out]
      · repeat (first | exact Below.refl _ _ | refine Below.drew ?_ | refine belowN ?_ _ | refine Below.alloc ?_ (by simp) _)
    · go_enter Tryd.func15, Tryd.ntmps15
      go_wp2_with (first
        | (go_at_call 30; ((with_reducible refine (K30.out _ (by repeat (first | exact Below.refl _ _ | refine Below.drew ?_ | refine belowN ?_ _ | refine Below.alloc ?_ (by simp) _))).mono ?_); rintro en w' ⟨rfl, q, rfl⟩))
        | (go_at_call 29; ((with_reducible refine (K29a.out _ (by repeat (first | exact Below.refl _ _ | refine Below.drew ?_ | refine belowN ?_ _ | refine Below.alloc ?_ (by simp) _))).mono ?_); rintro en w' ⟨rfl, q, rfl⟩))
        | (go_at_call 29; ((with_reducible refine (K29b.out _ (by repeat (first | exact Below.refl _ _ | refine Below.drew ?_ | refine belowN ?_ _ | refine Below.alloc ?_ (by simp) _))).mono ?_); rintro en w' ⟨rfl, q, rfl⟩)))
      go_ret
      refine FIN ?_ ?_
      · rw [HAG.out]; simp [Bool.and_false, t1.out, t2.out]
      · repeat (first | exact Below.refl _ _ | refine Below.drew ?_ | refine belowN ?_ _ | refine Below.alloc ?_ (by simp) _)
  · go_enter Tryd.func15, Tryd.ntmps15
    go_wp2_with (first
      | (go_at_call 30; ((with_reducible refine (K30.out _ (by repeat (first | exact Below.refl _ _ | refine Below.drew ?_ | refine belowN ?_ _ | refine Below.alloc ?_ (by simp) _))).mono ?_); rintro en w' ⟨rfl, q, rfl⟩))
      | (go_at_call 29; ((with_reducible refine (K29a.out _ (by repeat (first | exact Below.refl _ _ | refine Below.drew ?_ | refine belowN ?_ _ | refine Below.alloc ?_ (by simp) _))).mono ?_); rintro en w' ⟨rfl, q, rfl⟩))
      | (go_at_call 29; ((with_reducible refine (K29b.out _ (by repeat (first | exact Below.refl _ _ | refine Below.drew ?_ | refine belowN ?_ _ | refine Below.alloc ?_ (by simp) _))).mono ?_); rintro en w' ⟨rfl, q, rfl⟩)))
    go_ret
    refine FIN ?_ ?_
    · rw [HAG.out]; simp [g3.out.1, g3.out.2]
    · repeat (first | exact Below.refl _ _ | refine Below.drew ?_ | refine belowN ?_ _ | refine Below.alloc ?_ (by simp) _)
end Go.Proofs.YtledkbgjjmdflaaDoor.Obs
