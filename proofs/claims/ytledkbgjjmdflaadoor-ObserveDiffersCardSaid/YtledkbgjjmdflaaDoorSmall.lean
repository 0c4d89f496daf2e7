/- usual, printed, and the reference's Equal: contracts. -/
import Derived.Test.YtledkbgjjmdflaaDoorAgree2
namespace Go.Proofs.YtledkbgjjmdflaaDoor.Obs
open Go Go.RowKit Go.Proofs Go.Shelf Go.Sort

set_option maxHeartbeats 400000 in
theorem begins_ref (A B : Option Addr) (n c d : Nat) (xs ys : List Int) (w : World) (hx : ReadsI w A n xs) (hy : ReadsI w B n ys) (hn : n ≤ 140737488351232) :
    Calls Tryd.prog 26 #[.slice A n c, .slice B n d] w (Ret (.bool (eqL xs ys)) w) := by
  have HX := Lib.hid hx.1
  have HY := Lib.hid hy.1
  have hle : decide ((n : Int) ≤ (n : Int)) = true := by simp
  go_enter Tryd.func26, Tryd.ntmps26
  go_wp2
  go_loopw [5] (fun i wr => ∃ k : Nat, k ≤ n ∧ i = .int .i64 k ∧ Hid (xs.take k = ys.take k) ∧ ∃ q, wr = w.drewN q) (fun i _ => n - (intOf i).toNat)
  case atStart => exact ⟨0, Nat.zero_le _, rfl, rfl, 0, rfl⟩
  case round =>
    obtain ⟨k, hk, rfl, HT, q, rfl⟩ := hrel
    by_cases hlt : k < n
    · obtain ⟨ad, rfl, hcx⟩ := hx.2 (by omega)
      obtain ⟨bd, rfl, hcy⟩ := hy.2 (by omega)
      have h1 : w.cell? (ad.add k) = some (.int .i64 (xs.getD k 0)) := hcx k hlt
      have h2 : w.cell? (bd.add k) = some (.int .i64 (ys.getD k 0)) := hcy k hlt
      have i0 : (0 : Int) ≤ (k : Int) := Int.natCast_nonneg _
      have i1 : (k : Int) < (n : Int) := by omega
      clear hcx hcy
      have ex : xs.take (k + 1) = xs.take k ++ [xs.getD k 0] := take_succ_getD xs k (by have := HX.out; omega)
      have ey : ys.take (k + 1) = ys.take k ++ [ys.getD k 0] := take_succ_getD ys k (by have := HY.out; omega)
      have EX := Lib.hid ex
      have EY := Lib.hid ey
      clear ex ey
      obtain ⟨x, hxv⟩ : ∃ x, x = xs.getD k 0 := ⟨_, rfl⟩
      obtain ⟨y, hyv⟩ : ∃ y, y = ys.getD k 0 := ⟨_, rfl⟩
      rw [← hxv] at h1
      rw [← hyv] at h2
      have HXV := Lib.hid hxv
      have HYV := Lib.hid hyv
      clear hxv hyv
      by_cases he : x = y
      · subst he
        have hb : (x != x) = false := by simp
        go_wp2
        go_quiet (fail)
        go_wp2
        go_roundw
        case rel => exact ⟨k + 1, by omega, by go_num, (by show _ = _; rw [EX.out, EY.out, HT.out, ← HXV.out, ← HYV.out]), q + nq, rfl⟩
        case measure => simp [intOf]; omega
      · have hb : (x != y) = true := by simpa using he
        have hfin : eqL xs ys = false := eqL_false (fun h => he (by rw [HXV.out, HYV.out, h]))
        have HFIN := Lib.hid hfin
        clear hfin
        go_wp2
        go_quiet (fail)
        go_wp2
        go_ret
        exact ⟨ret_b HFIN.out.symm, q + nq, World.drewN_drewN ..⟩
    · have hfin : eqL xs ys = true := eqL_true (by
        have h := HT.out
        rwa [List.take_of_length_le (by have := HX.out; omega), List.take_of_length_le (by have := HY.out; omega)] at h)
      have HFIN := Lib.hid hfin
      clear hfin
      go_wp2
      go_ret
      exact ⟨ret_b HFIN.out.symm, q, rfl⟩

def usualB (e c : Int) : Bool := if e = 1 ∨ e = 4 then decide (c = 0) else decide (e = 2 ∨ e = 3)
set_option maxHeartbeats 1000000 in
theorem usual_any (A : Option Addr) (n k : Nat) (e c : Int) (w : World) : Calls Tryd.prog 11 #[.agg #[.slice A n k, .int .i64 e, .int .i64 c]] w (RetB (.bool (usualB e c)) w) := by
  have FIN : ∀ {W : World} {v : Bool}, v = usualB e c → Below w.heap.size w W → RetB (.bool (usualB e c)) w (.returned (.bool v)) W := fun h hb => ⟨ret_b h, hb⟩
  have HU : Hid (usualB e c = if e = 1 ∨ e = 4 then decide (c = 0) else decide (e = 2 ∨ e = 3)) := rfl
  generalize usualB e c = res at HU FIN ⊢
  by_cases e1 : e = 1
  · have h1 : (e == 1) = true := by simpa using e1
    obtain ⟨r, hr⟩ : ∃ r, r = (c == 0) := ⟨_, rfl⟩
    have HE : Hid (e = 1 ∧ r = (c == 0)) := ⟨e1, hr⟩
    clear e1 hr
    go_enter Tryd.func11, Tryd.ntmps11
    go_wp2
    go_ret
    exact FIN (v := c == 0) (by rw [HU.out, if_pos (.inl HE.out.1)]; rfl) ((Below.refl _ _).alloc (Nat.le_refl _) _)
  · have h1 : (e == 1) = false := by simpa using e1
    by_cases e4 : e = 4
    · have h4 : (e == 4) = true := by simpa using e4
      have HE : Hid (e = 4) := e4
      clear e1 e4
      go_enter Tryd.func11, Tryd.ntmps11
      go_wp2
      go_ret
      exact FIN (v := c == 0) (by rw [HU.out, if_pos (.inr HE.out)]; rfl) ((Below.refl _ _).alloc (Nat.le_refl _) _)
    · have h4 : (e == 4) = false := by simpa using e4
      have hu : res = decide (e = 2 ∨ e = 3) := by rw [HU.out, if_neg (by omega)]
      by_cases e2 : e = 2
      · have h2 : (e == 2) = true := by simpa using e2
        have HE : Hid (res = true) := by show _ = _; rw [hu]; simp [e2]
        clear e1 e4 e2 hu
        go_enter Tryd.func11, Tryd.ntmps11
        go_wp2
        go_ret
        exact FIN HE.out.symm ((Below.refl _ _).alloc (Nat.le_refl _) _)
      · have h2 : (e == 2) = false := by simpa using e2
        by_cases e3 : e = 3
        · have h3 : (e == 3) = true := by simpa using e3
          have HE : Hid (res = true) := by show _ = _; rw [hu]; simp [e3]
          clear e1 e4 e2 hu e3
          go_enter Tryd.func11, Tryd.ntmps11
          go_wp2
          go_ret
          exact FIN HE.out.symm ((Below.refl _ _).alloc (Nat.le_refl _) _)
        · have h3 : (e == 3) = false := by simpa using e3
          have HE : Hid (res = false) := by show _ = _; rw [hu]; simp [e2, e3]
          clear e1 e4 e2 hu e3
          go_enter Tryd.func11, Tryd.ntmps11
          go_wp2
          go_ret
          exact FIN HE.out.symm ((Below.refl _ _).alloc (Nat.le_refl _) _)

def sameB (xs : List Int) (ea ca : Int) (ys : List Int) (eb cb : Int) : Bool := decide (ea = eb ∧ ca = cb ∧ xs = ys)
set_option maxHeartbeats 1000000 in
theorem refEqual_any (A B : Option Addr) (n m c d : Nat) (xs ys : List Int) (ea ca eb cb : Int) (w : World) (hx : ReadsI w A n xs) (hy : ReadsI w B m ys) (hn : n ≤ 140737488351232) :
    Calls Tryd.prog 12 #[.agg #[.slice A n c, .int .i64 ea, .int .i64 ca], .agg #[.slice B m d, .int .i64 eb, .int .i64 cb]] w (RetB (.bool (sameB xs ea ca ys eb cb)) w) := by
  have FIN : ∀ {W : World} {v : Bool}, v = sameB xs ea ca ys eb cb → Below w.heap.size w W → RetB (.bool (sameB xs ea ca ys eb cb)) w (.returned (.bool v)) W := fun h hb => ⟨ret_b h, hb⟩
  have HU : Hid (sameB xs ea ca ys eb cb = decide (ea = eb ∧ ca = cb ∧ xs = ys)) := rfl
  generalize sameB xs ea ca ys eb cb = res at HU FIN ⊢
  by_cases e1 : ea = eb
  · have h1 : (ea == eb) = true := by simpa using e1
    by_cases e2 : ca = cb
    · have h2 : (ca == cb) = true := by simpa using e2
      by_cases e3 : n = m
      · subst e3
        have h3 : ((n : Int) == (n : Int)) = true := by simp
        have K26 : Hid (∀ W, Below w.heap.size w W → Calls Tryd.prog 26 #[.slice A n c, .slice B n d] W (Ret (.bool (eqL xs ys)) W)) := fun W hb => begins_ref A B n c d xs ys W (hx.below (Nat.le_refl _) hb) (hy.below (Nat.le_refl _) hb) hn
        have HE : Hid (res = eqL xs ys) := by show _ = _; rw [HU.out]; simp [e1, e2, eqL]
        clear e1 e2 hx hy hn
        go_enter Tryd.func12, Tryd.ntmps12
        go_wp2_with (go_at_call 26; ((with_reducible refine (K26.out _ (by repeat (first | exact Below.refl _ _ | refine Below.drew ?_ | refine belowN ?_ _ | refine Below.alloc ?_ (by simp) _))).mono ?_); rintro en w' ⟨rfl, q, rfl⟩))
        go_ret
        exact FIN HE.out.symm (by repeat (first | exact Below.refl _ _ | refine Below.drew ?_ | refine belowN ?_ _ | refine Below.alloc ?_ (by simp) _))
      · have h3 : ((n : Int) == (m : Int)) = false := by simp; omega
        have HE : Hid (res = false) := by
          show _ = _
          rw [HU.out]
          exact decide_eq_false (fun h => e3 (by rw [← hx.1, ← hy.1, h.2.2]))
        clear e1 e2 hx hy hn
        go_enter Tryd.func12, Tryd.ntmps12
        go_wp2
        go_ret
        exact FIN HE.out.symm (by repeat (first | exact Below.refl _ _ | refine Below.drew ?_ | refine belowN ?_ _ | refine Below.alloc ?_ (by simp) _))
    · have h2 : (ca == cb) = false := by simpa using e2
      have HE : Hid (res = false) := by
        show _ = _
        rw [HU.out]
        exact decide_eq_false (fun h => e2 h.2.1)
      clear e1 e2 hx hy hn
      go_enter Tryd.func12, Tryd.ntmps12
      go_wp2
      go_ret
      exact FIN HE.out.symm (by repeat (first | exact Below.refl _ _ | refine Below.drew ?_ | refine belowN ?_ _ | refine Below.alloc ?_ (by simp) _))
  · have h1 : (ea == eb) = false := by simpa using e1
    have HE : Hid (res = false) := by
      show _ = _
      rw [HU.out]
      exact decide_eq_false (fun h => e1 h.1)
    clear e1 hx hy hn
    go_enter Tryd.func12, Tryd.ntmps12
    go_wp2
    go_ret
    exact FIN HE.out.symm (by repeat (first | exact Below.refl _ _ | refine Below.drew ?_ | refine belowN ?_ _ | refine Below.alloc ?_ (by simp) _))

set_option maxHeartbeats 400000 in
theorem printed_any (e c : Int) (A : Option Addr) (n k : Nat) (w : World) : Calls Tryd.prog 14 #[.int .i64 e, .int .i64 c, .slice A n k] w (RetB (.agg #[.string ⟨#[]⟩, .slice A n k, .int .i64 e, .int .i64 c]) w) := by
  go_enter Tryd.func14, Tryd.ntmps14
  go_wp2
  refine bodyPost_ret (results_cell_row rfl _ _ w.heap.size 36 #[.string (⟨#[]⟩ : ByteArray), .slice A n k, .int .i64 e, .int .i64 c] (0, 0) _ rfl (heap_alloc_new w _) Tryd.underlying36 rfl (by kernel_rfl)) rfl ?_
  exact ⟨rfl, (Below.refl _ _).alloc (Nat.le_refl _) _⟩
end Go.Proofs.YtledkbgjjmdflaaDoor.Obs
