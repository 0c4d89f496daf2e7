/- The reference's begins, Agree and differ: contracts. -/
import Derived.Test.YtledkbgjjmdflaaDoorSmall
import Derived.Test.YtledkbgjjmdflaaDoorDiffer
namespace Go.Proofs.YtledkbgjjmdflaaDoor.Obs
open Go Go.RowKit Go.Proofs Go.Shelf Go.Sort

theorem begB_true {xs ys : List Int} (n m : Nat) (hx : xs.length = n) (hy : ys.length = m) (hnm : n ≤ m) (h : xs.take n = ys.take n) : begB xs ys = true := decide_eq_true (by rw [hx, ← h, List.take_of_length_le (by omega)])
theorem begB_len {xs ys : List Int} (n m : Nat) (hx : xs.length = n) (hy : ys.length = m) (hnm : ¬ n ≤ m) : begB xs ys = false := decide_eq_false (fun h => by
  have := congrArg List.length h
  rw [List.length_take, hx, hy] at this
  omega)
theorem begB_ne {xs ys : List Int} (k : Nat) (hx : k < xs.length) (hy : k < ys.length) (h : xs.getD k 0 ≠ ys.getD k 0) : begB xs ys = false := decide_eq_false (fun e => h (by
  rw [e]
  simp [List.getD_eq_getElem?_getD, List.getElem?_take, hx]))

set_option maxHeartbeats 400000 in
theorem begins_all (A B : Option Addr) (n m c d : Nat) (xs ys : List Int) (w : World) (hx : ReadsI w A n xs) (hy : ReadsI w B m ys) (hn : n ≤ 140737488351232) (hm : m ≤ 140737488351232) :
    Calls Tryd.prog 26 #[.slice A n c, .slice B m d] w (Ret (.bool (begB xs ys)) w) := by
  have HX := Lib.hid hx.1
  have HY := Lib.hid hy.1
  go_enter Tryd.func26, Tryd.ntmps26
  go_wp2
  go_loopw [5] (fun i wr => ∃ k : Nat, k ≤ n ∧ k ≤ m ∧ i = .int .i64 k ∧ Hid (xs.take k = ys.take k) ∧ ∃ q, wr = w.drewN q) (fun i _ => n - (intOf i).toNat)
  case atStart => exact ⟨0, Nat.zero_le _, Nat.zero_le _, rfl, rfl, 0, rfl⟩
  case round =>
    obtain ⟨k, hk, hkm, rfl, HT, q, rfl⟩ := hrel
    by_cases hlt : k < n
    · have hltz : (k : Int) < (n : Int) := by omega
      by_cases hlt2 : k < m
      · have hltz2 : (k : Int) < (m : Int) := by omega
        obtain ⟨ad, rfl, hcx⟩ := hx.2 (by omega)
        obtain ⟨bd, rfl, hcy⟩ := hy.2 (by omega)
        have h1 : w.cell? (ad.add k) = some (.int .i64 (xs.getD k 0)) := hcx k hlt
        have h2 : w.cell? (bd.add k) = some (.int .i64 (ys.getD k 0)) := hcy k hlt2
        have i0 : (0 : Int) ≤ (k : Int) := Int.natCast_nonneg _
        clear hcx hcy
        have EX := Lib.hid (take_succ_getD xs k (by have := HX.out; omega))
        have EY := Lib.hid (take_succ_getD ys k (by have := HY.out; omega))
        obtain ⟨x, hxv⟩ : ∃ x, x = xs.getD k 0 := ⟨_, rfl⟩
        obtain ⟨y, hyv⟩ : ∃ y, y = ys.getD k 0 := ⟨_, rfl⟩
        rw [← hxv] at h1
        rw [← hyv] at h2
        have HXV := Lib.hid hxv
        have HYV := Lib.hid hyv
        clear hxv hyv
        by_cases he : x = y
        · subst he
          have hb : (x != x) = false := by simp
          go_wp2
          go_quiet (fail)
          go_wp2
          go_roundw
          case rel => exact ⟨k + 1, by omega, by omega, by go_num, (by show _ = _; rw [EX.out, EY.out, HT.out, ← HXV.out, ← HYV.out]), q + nq, rfl⟩
          case measure => simp [intOf]; omega
        · have hb : (x != y) = true := by simpa using he
          have HFIN := Lib.hid (begB_ne (xs := xs) (ys := ys) k (by have := HX.out; omega) (by have := HY.out; omega) (by rw [← HXV.out, ← HYV.out]; exact he))
          go_wp2
          go_quiet (fail)
          go_wp2
          go_ret
          exact ⟨ret_b HFIN.out.symm, q + nq, World.drewN_drewN ..⟩
      · have hltz2 : ¬ (k : Int) < (m : Int) := by omega
        have hb : decide ((n : Int) ≤ (m : Int)) = false := by simp; omega
        have HFIN : Hid (decide (n ≤ m) = begB xs ys) := by show _ = _; rw [begB_len n m HX.out HY.out (by omega)]; exact decide_eq_false (by omega)
        go_wp2
        go_ret
        exact ⟨ret_b HFIN.out, q, rfl⟩
    · have hltz : ¬ (k : Int) < (n : Int) := by omega
      have hkn : k = n := by omega
      have hb : decide ((n : Int) ≤ (m : Int)) = true := by simp; omega
      have HFIN : Hid (decide (n ≤ m) = begB xs ys) := by show _ = _; rw [begB_true n m HX.out HY.out (by omega) (by rw [← hkn]; exact HT.out)]; exact decide_eq_true (by omega)
      clear hkn
      go_wp2
      go_ret
      exact ⟨ret_b HFIN.out, q, rfl⟩

set_option maxHeartbeats 4000000 in
set_option maxRecDepth 100000 in
theorem refAgree_any (A B : Option Addr) (n m c d : Nat) (xs ys : List Int) (ea ca eb cb : Int) (w : World) (hx : ReadsI w A n xs) (hy : ReadsI w B m ys) (hn : n ≤ 140737488351232) (hm : m ≤ 140737488351232) :
    Calls Tryd.prog 19 #[.agg #[.slice A n c, .int .i64 ea, .int .i64 ca], .agg #[.slice B m d, .int .i64 eb, .int .i64 cb]] w (RetB (.bool (agreeB xs ea ca ys eb cb)) w) := by
  have K26a : Hid (∀ W, Below w.heap.size w W → Calls Tryd.prog 26 #[.slice A n c, .slice B m d] W (Ret (.bool (begB xs ys)) W)) := fun W hb => begins_all A B n m c d xs ys _ (hx.below (Nat.le_refl _) hb) (hy.below (Nat.le_refl _) hb) hn hm
  have K26b : Hid (∀ W, Below w.heap.size w W → Calls Tryd.prog 26 #[.slice B m d, .slice A n c] W (Ret (.bool (begB ys xs)) W)) := fun W hb => begins_all B A m n d c ys xs _ (hy.below (Nat.le_refl _) hb) (hx.below (Nat.le_refl _) hb) hm hn
  have HAG : Hid (agreeB xs ea ca ys eb cb = (sameB xs ea ca ys eb cb || (decide (ea = 4) && begB xs ys) || (decide (eb = 4) && begB ys xs))) := by
    show _ = _
    unfold agreeB sameB eqL
    simp [Bool.and_assoc]
  obtain ⟨wa, hwa⟩ : ∃ wa, wa = (w.alloc (Obj.cells #[.slice A n c, .int .i64 ea, .int .i64 ca] 34)).alloc (Obj.cells #[.slice B m d, .int .i64 eb, .int .i64 cb] 34) := ⟨_, rfl⟩
  have hba : Below w.heap.size w wa := by rw [hwa]; exact ((Below.refl _ _).alloc (Nat.le_refl _) _).alloc (by simp) _
  have K12 : Hid (Calls Tryd.prog 12 #[.agg #[.slice A n c, .int .i64 ea, .int .i64 ca], .agg #[.slice B m d, .int .i64 eb, .int .i64 cb]] wa (RetB (.bool (sameB xs ea ca ys eb cb)) wa)) := refEqual_any A B n m c d xs ys ea ca eb cb wa (hx.below (Nat.le_refl _) hba) (hy.below (Nat.le_refl _) hba) hn
  clear hx hy hn hm
  have c1 : ∀ i, wa.cell? ⟨w.heap.size, i, none⟩ = (#[.slice A n c, .int .i64 ea, .int .i64 ca] : Array Value)[i]? := fun i => by
    rw [hwa, World.cell?_alloc_lt _ _ _ (by simp), cell_new_at]
  have c2 : ∀ i, wa.cell? ⟨w.heap.size + 1, i, none⟩ = (#[.slice B m d, .int .i64 eb, .int .i64 cb] : Array Value)[i]? := fun i => by
    rw [hwa, cell_new_eq _ _ _ _ _ (by simp)]
  have a0' : wa.cell? ⟨w.heap.size, 0, none⟩ = some (.slice A n c) := c1 0
  have a1' : wa.cell? ⟨w.heap.size, 1, none⟩ = some (.int .i64 ea) := c1 1
  have b0' : wa.cell? ⟨w.heap.size + 1, 0, none⟩ = some (.slice B m d) := c2 0
  have b1' : wa.cell? ⟨w.heap.size + 1, 1, none⟩ = some (.int .i64 eb) := c2 1
  have HWA := Lib.hid hwa
  have HSZ : Hid (w.heap.size ≤ wa.heap.size) := hba.size
  clear hwa c1 c2
  generalize agreeB xs ea ca ys eb cb = res at HAG ⊢
  generalize sameB xs ea ca ys eb cb = r0 at K12 HAG
  generalize begB xs ys = r1 at K26a HAG
  generalize begB ys xs = r2 at K26b HAG
  have FIN : ∀ {W : World} {v : Bool}, v = res → Below w.heap.size w W → RetB (.bool res) w (.returned (.bool v)) W := fun h hb => ⟨ret_b h, hb⟩
  cases r0
  · by_cases e4 : ea = 4
    · have h4 : (ea == 4) = true := by simpa using e4
      have E4 := Lib.hid e4
      clear e4
      cases r1
      · by_cases f4 : eb = 4
        · have g4 : (eb == 4) = true := by simpa using f4
          have F4 := Lib.hid f4
          clear f4
          go_enter Tryd.func19, Tryd.ntmps19
          go_wp2_with fail
          go_at_call 12
          rw [← HWA.out]
          refine K12.out.mono ?_
          rintro en w1 ⟨rfl, hb1⟩
          have hbb := hba.trans (hb1.mono HSZ.out)
          have a0 := cellB hb1 a0'
          have a1 := cellB hb1 a1'
          have b0 := cellB hb1 b0'
          have b1 := cellB hb1 b1'
          clear hb1 hba a0' a1' b0' b1'
          go_wp2_with (first
                  | (go_at_call 12; rw [← HWA.out]; refine K12.out.mono ?_; rintro en w1 ⟨rfl, hb1⟩; have hbb := hba.trans (hb1.mono HSZ.out); have a0 := cellB hb1 a0'; have a1 := cellB hb1 a1'; have b0 := cellB hb1 b0'; have b1 := cellB hb1 b1'; clear hb1)
                  | (go_at_call 26; ((with_reducible refine (K26a.out _ (by repeat (first | assumption | exact Below.refl _ _ | refine Below.drew ?_ | refine belowN ?_ _ | refine Below.alloc ?_ (by simp) _))).mono ?_); rintro en w' ⟨rfl, q, rfl⟩))
                  | (go_at_call 26; ((with_reducible refine (K26b.out _ (by repeat (first | assumption | exact Below.refl _ _ | refine Below.drew ?_ | refine belowN ?_ _ | refine Below.alloc ?_ (by simp) _))).mono ?_); rintro en w' ⟨rfl, q, rfl⟩)))
          go_ret
          refine FIN ?_ ?_
          · rw [HAG.out]; simp [E4.out, F4.out]
          · repeat (first | assumption | exact Below.refl _ _ | refine Below.drew ?_ | refine belowN ?_ _ | refine Below.alloc ?_ (by simp) _)
        · have g4 : (eb == 4) = false := by simpa using f4
          have F4 := Lib.hid f4
          clear f4
          go_enter Tryd.func19, Tryd.ntmps19
          go_wp2_with fail
          go_at_call 12
          rw [← HWA.out]
          refine K12.out.mono ?_
          rintro en w1 ⟨rfl, hb1⟩
          have hbb := hba.trans (hb1.mono HSZ.out)
          have a0 := cellB hb1 a0'
          have a1 := cellB hb1 a1'
          have b0 := cellB hb1 b0'
          have b1 := cellB hb1 b1'
          clear hb1 hba a0' a1' b0' b1'
          go_wp2_with (first
                  | (go_at_call 12; rw [← HWA.out]; refine K12.out.mono ?_; rintro en w1 ⟨rfl, hb1⟩; have hbb := hba.trans (hb1.mono HSZ.out); have a0 := cellB hb1 a0'; have a1 := cellB hb1 a1'; have b0 := cellB hb1 b0'; have b1 := cellB hb1 b1'; clear hb1)
                  | (go_at_call 26; ((with_reducible refine (K26a.out _ (by repeat (first | assumption | exact Below.refl _ _ | refine Below.drew ?_ | refine belowN ?_ _ | refine Below.alloc ?_ (by simp) _))).mono ?_); rintro en w' ⟨rfl, q, rfl⟩))
                  | (go_at_call 26; ((with_reducible refine (K26b.out _ (by repeat (first | assumption | exact Below.refl _ _ | refine Below.drew ?_ | refine belowN ?_ _ | refine Below.alloc ?_ (by simp) _))).mono ?_); rintro en w' ⟨rfl, q, rfl⟩)))
          go_ret
          refine FIN ?_ ?_
          · rw [HAG.out]; simp [E4.out, F4.out]
          · repeat (first | assumption | exact Below.refl _ _ | refine Below.drew ?_ | refine belowN ?_ _ | refine Below.alloc ?_ (by simp) _)
      · have X : True := trivial
        go_enter Tryd.func19, Tryd.ntmps19
        go_wp2_with fail
        go_at_call 12
        rw [← HWA.out]
        refine K12.out.mono ?_
        rintro en w1 ⟨rfl, hb1⟩
        have hbb := hba.trans (hb1.mono HSZ.out)
        have a0 := cellB hb1 a0'
        have a1 := cellB hb1 a1'
        have b0 := cellB hb1 b0'
        have b1 := cellB hb1 b1'
        clear hb1 hba a0' a1' b0' b1'
        go_wp2_with (first
                | (go_at_call 12; rw [← HWA.out]; refine K12.out.mono ?_; rintro en w1 ⟨rfl, hb1⟩; have hbb := hba.trans (hb1.mono HSZ.out); have a0 := cellB hb1 a0'; have a1 := cellB hb1 a1'; have b0 := cellB hb1 b0'; have b1 := cellB hb1 b1'; clear hb1)
                | (go_at_call 26; ((with_reducible refine (K26a.out _ (by repeat (first | assumption | exact Below.refl _ _ | refine Below.drew ?_ | refine belowN ?_ _ | refine Below.alloc ?_ (by simp) _))).mono ?_); rintro en w' ⟨rfl, q, rfl⟩))
                | (go_at_call 26; ((with_reducible refine (K26b.out _ (by repeat (first | assumption | exact Below.refl _ _ | refine Below.drew ?_ | refine belowN ?_ _ | refine Below.alloc ?_ (by simp) _))).mono ?_); rintro en w' ⟨rfl, q, rfl⟩)))
        go_ret
        refine FIN ?_ ?_
        · rw [HAG.out]; simp [E4.out]
        · repeat (first | assumption | exact Below.refl _ _ | refine Below.drew ?_ | refine belowN ?_ _ | refine Below.alloc ?_ (by simp) _)
    · have h4 : (ea == 4) = false := by simpa using e4
      have E4 := Lib.hid e4
      clear e4
      by_cases f4 : eb = 4
      · have g4 : (eb == 4) = true := by simpa using f4
        have F4 := Lib.hid f4
        clear f4
        go_enter Tryd.func19, Tryd.ntmps19
        go_wp2_with fail
        go_at_call 12
        rw [← HWA.out]
        refine K12.out.mono ?_
        rintro en w1 ⟨rfl, hb1⟩
        have hbb := hba.trans (hb1.mono HSZ.out)
        have a0 := cellB hb1 a0'
        have a1 := cellB hb1 a1'
        have b0 := cellB hb1 b0'
        have b1 := cellB hb1 b1'
        clear hb1 hba a0' a1' b0' b1'
        go_wp2_with (first
                | (go_at_call 12; rw [← HWA.out]; refine K12.out.mono ?_; rintro en w1 ⟨rfl, hb1⟩; have hbb := hba.trans (hb1.mono HSZ.out); have a0 := cellB hb1 a0'; have a1 := cellB hb1 a1'; have b0 := cellB hb1 b0'; have b1 := cellB hb1 b1'; clear hb1)
                | (go_at_call 26; ((with_reducible refine (K26a.out _ (by repeat (first | assumption | exact Below.refl _ _ | refine Below.drew ?_ | refine belowN ?_ _ | refine Below.alloc ?_ (by simp) _))).mono ?_); rintro en w' ⟨rfl, q, rfl⟩))
                | (go_at_call 26; ((with_reducible refine (K26b.out _ (by repeat (first | assumption | exact Below.refl _ _ | refine Below.drew ?_ | refine belowN ?_ _ | refine Below.alloc ?_ (by simp) _))).mono ?_); rintro en w' ⟨rfl, q, rfl⟩)))
        go_ret
        refine FIN ?_ ?_
        · rw [HAG.out]; simp [E4.out, F4.out]
        · repeat (first | assumption | exact Below.refl _ _ | refine Below.drew ?_ | refine belowN ?_ _ | refine Below.alloc ?_ (by simp) _)
      · have g4 : (eb == 4) = false := by simpa using f4
        have F4 := Lib.hid f4
        clear f4
        go_enter Tryd.func19, Tryd.ntmps19
        go_wp2_with fail
        go_at_call 12
        rw [← HWA.out]
        refine K12.out.mono ?_
        rintro en w1 ⟨rfl, hb1⟩
        have hbb := hba.trans (hb1.mono HSZ.out)
        have a0 := cellB hb1 a0'
        have a1 := cellB hb1 a1'
        have b0 := cellB hb1 b0'
        have b1 := cellB hb1 b1'
        clear hb1 hba a0' a1' b0' b1'
        go_wp2_with (first
                | (go_at_call 12; rw [← HWA.out]; refine K12.out.mono ?_; rintro en w1 ⟨rfl, hb1⟩; have hbb := hba.trans (hb1.mono HSZ.out); have a0 := cellB hb1 a0'; have a1 := cellB hb1 a1'; have b0 := cellB hb1 b0'; have b1 := cellB hb1 b1'; clear hb1)
                | (go_at_call 26; ((with_reducible refine (K26a.out _ (by repeat (first | assumption | exact Below.refl _ _ | refine Below.drew ?_ | refine belowN ?_ _ | refine Below.alloc ?_ (by simp) _))).mono ?_); rintro en w' ⟨rfl, q, rfl⟩))
                | (go_at_call 26; ((with_reducible refine (K26b.out _ (by repeat (first | assumption | exact Below.refl _ _ | refine Below.drew ?_ | refine belowN ?_ _ | refine Below.alloc ?_ (by simp) _))).mono ?_); rintro en w' ⟨rfl, q, rfl⟩)))
        go_ret
        refine FIN ?_ ?_
        · rw [HAG.out]; simp [E4.out, F4.out]
        · repeat (first | assumption | exact Below.refl _ _ | refine Below.drew ?_ | refine belowN ?_ _ | refine Below.alloc ?_ (by simp) _)
  · have X : True := trivial
    go_enter Tryd.func19, Tryd.ntmps19
    go_wp2_with fail
    go_at_call 12
    rw [← HWA.out]
    refine K12.out.mono ?_
    rintro en w1 ⟨rfl, hb1⟩
    have hbb := hba.trans (hb1.mono HSZ.out)
    have a0 := cellB hb1 a0'
    have a1 := cellB hb1 a1'
    have b0 := cellB hb1 b0'
    have b1 := cellB hb1 b1'
    clear hb1 hba a0' a1' b0' b1'
    go_wp2_with (first
            | (go_at_call 12; rw [← HWA.out]; refine K12.out.mono ?_; rintro en w1 ⟨rfl, hb1⟩; have hbb := hba.trans (hb1.mono HSZ.out); have a0 := cellB hb1 a0'; have a1 := cellB hb1 a1'; have b0 := cellB hb1 b0'; have b1 := cellB hb1 b1'; clear hb1)
            | (go_at_call 26; ((with_reducible refine (K26a.out _ (by repeat (first | assumption | exact Below.refl _ _ | refine Below.drew ?_ | refine belowN ?_ _ | refine Below.alloc ?_ (by simp) _))).mono ?_); rintro en w' ⟨rfl, q, rfl⟩))
            | (go_at_call 26; ((with_reducible refine (K26b.out _ (by repeat (first | assumption | exact Below.refl _ _ | refine Below.drew ?_ | refine belowN ?_ _ | refine Below.alloc ?_ (by simp) _))).mono ?_); rintro en w' ⟨rfl, q, rfl⟩)))
    go_ret
    refine FIN ?_ ?_
    · rw [HAG.out]; simp
    · repeat (first | assumption | exact Below.refl _ _ | refine Below.drew ?_ | refine belowN ?_ _ | refine Below.alloc ?_ (by simp) _)

set_option maxHeartbeats 2000000 in
set_option maxRecDepth 100000 in
theorem refDiffer_any (A B : Option Addr) (n m c d : Nat) (xs ys : List Int) (ea ca eb cb : Int) (w : World) (hx : ReadsI w A n xs) (hy : ReadsI w B m ys) (hn : n ≤ 140737488351232) (hm : m ≤ 140737488351232) :
    Calls Tryd.prog 20 #[.agg #[.slice A n c, .int .i64 ea, .int .i64 ca], .agg #[.slice B m d, .int .i64 eb, .int .i64 cb]] w (Ret2 (kindOf xs ea ys eb) w) := by
  obtain ⟨mn, hmn⟩ : ∃ mn, mn = min n m := ⟨_, rfl⟩
  have HX := Lib.hid hx.1
  have HY := Lib.hid hy.1
  have hmin : min (n : Int) (m : Int) = (mn : Int) := by omega
  have hmnb : mn ≤ n ∧ mn ≤ m := by omega
  obtain ⟨hmnb1, hmnb2⟩ := hmnb
  have HMN := Lib.hid hmn
  clear hmn
  obtain ⟨wa, hwa⟩ : ∃ wa, wa = (w.alloc (Obj.cells #[.slice A n c, .int .i64 ea, .int .i64 ca] 34)).alloc (Obj.cells #[.slice B m d, .int .i64 eb, .int .i64 cb] 34) := ⟨_, rfl⟩
  have hba : Below w.heap.size w wa := by rw [hwa]; exact ((Below.refl _ _).alloc (Nat.le_refl _) _).alloc (by simp) _
  have hx' := hx.below (Nat.le_refl _) hba
  have hy' := hy.below (Nat.le_refl _) hba
  have c1 : ∀ i, wa.cell? ⟨w.heap.size, i, none⟩ = (#[.slice A n c, .int .i64 ea, .int .i64 ca] : Array Value)[i]? := fun i => by
    rw [hwa, World.cell?_alloc_lt _ _ _ (by simp), cell_new_at]
  have c2 : ∀ i, wa.cell? ⟨w.heap.size + 1, i, none⟩ = (#[.slice B m d, .int .i64 eb, .int .i64 cb] : Array Value)[i]? := fun i => by
    rw [hwa, cell_new_eq _ _ _ _ _ (by simp)]
  have a0 : wa.cell? ⟨w.heap.size, 0, none⟩ = some (.slice A n c) := c1 0
  have a1 : wa.cell? ⟨w.heap.size, 1, none⟩ = some (.int .i64 ea) := c1 1
  have b0 : wa.cell? ⟨w.heap.size + 1, 0, none⟩ = some (.slice B m d) := c2 0
  have b1 : wa.cell? ⟨w.heap.size + 1, 1, none⟩ = some (.int .i64 eb) := c2 1
  have HWA := Lib.hid hwa
  clear hwa c1 c2 hx hy
  go_enter Tryd.func20, Tryd.ntmps20
  go_wp2
  rw [← HWA.out]
  go_loopw [7] (fun i wr => ∃ k : Nat, k ≤ mn ∧ i = .int .i64 k ∧ Hid (xs.take k = ys.take k) ∧ ∃ q, wr = wa.drewN q) (fun i _ => mn - (intOf i).toNat)
  case atStart => exact ⟨0, Nat.zero_le _, rfl, rfl, 0, rfl⟩
  case round =>
    obtain ⟨k, hk, rfl, HT, q, rfl⟩ := hrel
    by_cases hlt : k < mn
    · obtain ⟨ad, rfl, hcx⟩ := hx'.2 (by omega)
      obtain ⟨bd, rfl, hcy⟩ := hy'.2 (by omega)
      have h1 : wa.cell? (ad.add k) = some (.int .i64 (xs.getD k 0)) := hcx k (by omega)
      have h2 : wa.cell? (bd.add k) = some (.int .i64 (ys.getD k 0)) := hcy k (by omega)
      have i0 : (0 : Int) ≤ (k : Int) := Int.natCast_nonneg _
      have i1 : (k : Int) < (n : Int) := by omega
      have i2 : (k : Int) < (m : Int) := by omega
      clear hcx hcy hx' hy'
      have EX := Lib.hid (take_succ_getD xs k (by have := HX.out; omega))
      have EY := Lib.hid (take_succ_getD ys k (by have := HY.out; omega))
      obtain ⟨x, hxv⟩ : ∃ x, x = xs.getD k 0 := ⟨_, rfl⟩
      obtain ⟨y, hyv⟩ : ∃ y, y = ys.getD k 0 := ⟨_, rfl⟩
      rw [← hxv] at h1
      rw [← hyv] at h2
      have HXV := Lib.hid hxv
      have HYV := Lib.hid hyv
      clear hxv hyv
      by_cases he : x = y
      · subst he
        have hb : (x != x) = false := by simp
        go_wp2
        go_quiet (fail)
        go_wp2
        go_roundw
        case rel => exact ⟨k + 1, by omega, by go_num, (by show _ = _; rw [EX.out, EY.out, HT.out, ← HXV.out, ← HYV.out]), q + nq, rfl⟩
        case measure => simp [intOf]; omega
      · have hb : (x != y) = true := by simpa using he
        have hfin : kindOf xs ea ys eb = (1, (k : Int)) := by
          have h := mis_at xs ys k HT.out (by have := HX.out; omega) (by have := HY.out; omega) (by rw [← HXV.out, ← HYV.out]; exact he)
          unfold kindOf
          rw [h, if_pos (by unfold mn2; have := HX.out; have := HY.out; have := HMN.out; omega)]
        have HFIN := Lib.hid hfin
        clear hfin
        go_wp2
        go_quiet (fail)
        go_wp2
        go_ret2
        exact ⟨ret_2 HFIN.out, (belowN' (belowN' hba _) _)⟩
    · have hkm : k = mn := by omega
      have hnd : ¬ mis xs ys < mn2 xs ys := by
        unfold mn2
        rw [mis_end xs ys k HT.out (by have := HX.out; have := HY.out; have := HMN.out; omega)]
        have := HX.out; have := HY.out; have := HMN.out; omega
      have hml : mn2 xs ys = mn := by unfold mn2; have := HX.out; have := HY.out; have := HMN.out; omega
      have HND := Lib.hid hnd
      have HML := Lib.hid hml
      clear hnd hml hkm
      by_cases hnm : n = m
      · have hne : ((n : Int) != (m : Int)) = false := by simp; omega
        have HNM := Lib.hid hnm
        clear hnm
        by_cases hee : ea = eb
        · have hb : (ea != eb) = false := by simpa using hee
          have hfin : kindOf xs ea ys eb = (4, (mn : Int)) := by
            unfold kindOf
            rw [if_neg HND.out, if_neg (by have := HX.out; have := HY.out; have := HNM.out; omega), if_neg (by simpa using hee), HML.out]
          have HFIN := Lib.hid hfin
          clear hfin hee
          go_wp2
          go_ret2
          exact ⟨ret_2 HFIN.out, belowN' hba _⟩
        · have hb : (ea != eb) = true := by simpa using hee
          have hfin : kindOf xs ea ys eb = (3, (mn : Int)) := by
            unfold kindOf
            rw [if_neg HND.out, if_neg (by have := HX.out; have := HY.out; have := HNM.out; omega), if_pos hee, HML.out]
          have HFIN := Lib.hid hfin
          clear hfin hee
          go_wp2
          go_ret2
          exact ⟨ret_2 HFIN.out, belowN' hba _⟩
      · have hne : ((n : Int) != (m : Int)) = true := by simp; omega
        have hfin : kindOf xs ea ys eb = (2, (mn : Int)) := by
          unfold kindOf
          rw [if_neg HND.out, if_pos (by have := HX.out; have := HY.out; omega), HML.out]
        have HFIN := Lib.hid hfin
        clear hfin hnm
        go_wp2
        go_ret2
        exact ⟨ret_2 HFIN.out, belowN' hba _⟩
end Go.Proofs.YtledkbgjjmdflaaDoor.Obs
