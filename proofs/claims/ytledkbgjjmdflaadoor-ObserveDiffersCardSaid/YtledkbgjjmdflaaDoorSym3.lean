/- The merge by rotations sorts, and keeps equals in their order. No program in sight. -/
import Derived.Test.YtledkbgjjmdflaaDoorSym2
namespace Go.Proofs.YtledkbgjjmdflaaDoor.Stab
open Go.Sort
variable {α : Type} {key : α → Int}

theorem at_list [Inhabited α] {d : Array α} {P Q : List α} (h : d.toList = P ++ Q) (i : Nat) (hi : i < Q.length) : d[P.length + i]! = Q[i] := by
  have hd : d = (P ++ Q).toArray := by rw [← h]
  subst hd
  have e : (P ++ Q)[P.length + i]? = some Q[i] := by
    rw [List.getElem?_append_right (by omega), show P.length + i - P.length = i by omega, List.getElem?_eq_getElem hi]
  simp [getElem!_def, e]
theorem Srt.get {l : List α} (h : Srt key l) (i j : Nat) (hij : i ≤ j) (hj : j < l.length) : key (l[i]'(by omega)) ≤ key l[j] := by
  rcases Nat.lt_or_eq_of_le hij with hlt | rfl
  · exact List.pairwise_iff_getElem.1 h i j (by omega) hj hlt
  · exact Int.le_refl _
theorem mem_take_get {l : List α} {n : Nat} {x : α} (h : x ∈ l.take n) : ∃ i, ∃ hi : i < l.length, i < n ∧ l[i] = x := by
  obtain ⟨i, hi, rfl⟩ := List.mem_iff_getElem.1 h
  simp only [List.length_take] at hi
  exact ⟨i, by omega, by omega, by simp⟩
theorem mem_drop_get {l : List α} {n : Nat} {x : α} (h : x ∈ l.drop n) : ∃ i, ∃ hi : i < l.length, n ≤ i ∧ l[i] = x := by
  obtain ⟨i, hi, rfl⟩ := List.mem_iff_getElem.1 h
  simp only [List.length_drop] at hi
  exact ⟨n + i, by omega, by omega, by simp⟩

/-- One element ahead of a sorted block. -/
theorem one_up [Inhabited α] (lt : α → α → Bool) {d : Array α} {P Y S : List α} {x : α} (hd : d.toList = P ++ ([x] ++ (Y ++ S))) (hY : Srt key Y) (hlt : ∀ y ∈ Y, lt y x = decide (key y < key x)) :
    (slideUp d P.length (bsr Y.length (fun h => lt d[h]! d[P.length]!) (P.length + 1) (P.length + 1 + Y.length) - 1 - P.length)).toList = P ++ (isort key ([x] ++ Y) ++ S) := by
  have hx : d[P.length]! = x := by
    have := at_list hd 0 (by simp)
    simpa using this
  have hy : ∀ i (hi : i < Y.length), d[P.length + 1 + i]! = Y[i] := by
    intro i hi
    have hd' : d.toList = (P ++ [x]) ++ (Y ++ S) := by rw [hd]; simp only [List.append_assoc]
    have := at_list hd' i (by simp; omega)
    rw [List.length_append, List.length_singleton] at this
    rw [this, List.getElem_append_left hi]
  rw [hx]
  obtain ⟨hr1, hr2⟩ := bsr_le Y.length (fun h => lt d[h]! x) (P.length + 1) (P.length + 1 + Y.length) (by omega) (by omega)
  have hp : ∀ i (hi : i < Y.length), lt d[P.length + 1 + i]! x = decide (key Y[i] < key x) := fun i hi => by rw [hy i hi]; exact hlt _ (List.getElem_mem hi)
  obtain ⟨hs1, hs2⟩ := bsr_spec Y.length (fun h => lt d[h]! x) (P.length + 1) (P.length + 1 + Y.length) (by omega) (by omega) (by
    intro u v hu huv hv hpv
    obtain ⟨i, rfl⟩ : ∃ i, u = P.length + 1 + i := ⟨u - (P.length + 1), by omega⟩
    obtain ⟨j, rfl⟩ : ∃ j, v = P.length + 1 + j := ⟨v - (P.length + 1), by omega⟩
    replace hpv : lt d[P.length + 1 + j]! x = true := hpv
    show lt d[P.length + 1 + i]! x = true
    rw [hp j (by omega)] at hpv
    rw [hp i (by omega)]
    have := hY.get i j (by omega) (by omega)
    simp only [decide_eq_true_eq] at hpv ⊢
    omega)
  generalize bsr Y.length (fun h => lt d[h]! x) (P.length + 1) (P.length + 1 + Y.length) = r at *
  obtain ⟨t, rfl⟩ : ∃ t, r = P.length + 1 + t := ⟨r - (P.length + 1), by omega⟩
  have ht : t ≤ Y.length := by omega
  have lo : ∀ z ∈ Y.take t, key z < key x := by
    intro z hz
    obtain ⟨i, hi, hit, rfl⟩ := mem_take_get hz
    have := hs1 (P.length + 1 + i) (by omega) (by omega)
    rw [hp i hi] at this
    simpa using this
  have hi' : ∀ z ∈ Y.drop t, key x ≤ key z := by
    intro z hz
    obtain ⟨i, hi, hit, rfl⟩ := mem_drop_get hz
    have := hs2 (P.length + 1 + i) (by omega) (by omega)
    rw [hp i hi] at this
    simp at this
    omega
  have e : P.length + 1 + t - 1 - P.length = (Y.take t).length := by simp; omega
  rw [e, slideUp_list (Y.take t) P (Y.drop t ++ S) d x (by rw [hd, ← List.append_assoc (Y.take t), List.take_append_drop]; rfl)]
  have eY : Y.take t ++ Y.drop t = Y := List.take_append_drop _ _
  have hYs : Srt key (Y.take t ++ Y.drop t) := by rw [eY]; exact hY
  have fin : Y.take t ++ ([x] ++ Y.drop t) = isort key ([x] ++ Y) := by
    refine isort_eq ?_ ?_
    · refine Srt.append hYs.left (Srt.append (List.pairwise_singleton _ _) hYs.right ?_) ?_
      · intro a ha b hb
        rw [List.mem_singleton] at ha
        subst ha
        exact hi' b hb
      · intro a ha b hb
        rcases List.mem_append.1 hb with hb | hb
        · rw [List.mem_singleton] at hb
          subst hb
          exact Int.le_of_lt (lo a ha)
        · exact hYs.cross a ha b hb
    · have h1 : Same key ([x] ++ Y.take t) (Y.take t ++ [x]) := Same.swap (fun a ha b hb => by
        rw [List.mem_singleton] at ha
        subst ha
        have := lo b hb
        omega)
      have h2 := Same.append h1 (Same.refl (key := key) (Y.drop t))
      rw [List.append_assoc, List.append_assoc, eY] at h2
      exact h2
  rw [← fin]
  simp only [List.append_assoc, List.cons_append, List.nil_append]

/-- One element behind a sorted block. -/
theorem one_down [Inhabited α] (lt : α → α → Bool) {d : Array α} {P X S : List α} {y : α} (hd : d.toList = P ++ (X ++ ([y] ++ S))) (hX : Srt key X) (hlt : ∀ x ∈ X, lt y x = decide (key y < key x)) :
    (slideDown d (P.length + X.length) (P.length + X.length - bsr X.length (fun h => !lt d[P.length + X.length]! d[h]!) P.length (P.length + X.length))).toList = P ++ (isort key (X ++ [y]) ++ S) := by
  have hy : d[P.length + X.length]! = y := by
    have hd' : d.toList = (P ++ X) ++ ([y] ++ S) := by rw [hd]; simp only [List.append_assoc]
    have := at_list hd' 0 (by simp)
    simpa using this
  have hx : ∀ i (hi : i < X.length), d[P.length + i]! = X[i] := by
    intro i hi
    rw [at_list hd i (by simp; omega), List.getElem_append_left hi]
  rw [hy]
  obtain ⟨hr1, hr2⟩ := bsr_le X.length (fun h => !lt y d[h]!) P.length (P.length + X.length) (by omega) (by omega)
  have hp : ∀ i (hi : i < X.length), (!lt y d[P.length + i]!) = !decide (key y < key X[i]) := fun i hi => by rw [hx i hi, hlt _ (List.getElem_mem hi)]
  obtain ⟨hs1, hs2⟩ := bsr_spec X.length (fun h => !lt y d[h]!) P.length (P.length + X.length) (by omega) (by omega) (by
    intro u v hu huv hv hpv
    obtain ⟨i, rfl⟩ : ∃ i, u = P.length + i := ⟨u - P.length, by omega⟩
    obtain ⟨j, rfl⟩ : ∃ j, v = P.length + j := ⟨v - P.length, by omega⟩
    replace hpv : (!lt y d[P.length + j]!) = true := hpv
    show (!lt y d[P.length + i]!) = true
    rw [hp j (by omega)] at hpv
    rw [hp i (by omega)]
    have := hX.get i j (by omega) (by omega)
    simp only [Bool.not_eq_true', decide_eq_false_iff_not] at hpv ⊢
    omega)
  generalize bsr X.length (fun h => !lt y d[h]!) P.length (P.length + X.length) = r at *
  obtain ⟨t, rfl⟩ : ∃ t, r = P.length + t := ⟨r - P.length, by omega⟩
  have ht : t ≤ X.length := by omega
  have lo : ∀ z ∈ X.take t, key z ≤ key y := by
    intro z hz
    obtain ⟨i, hi, hit, rfl⟩ := mem_take_get hz
    have := hs1 (P.length + i) (by omega) (by omega)
    rw [hp i hi] at this
    simp at this
    omega
  have hi' : ∀ z ∈ X.drop t, key y < key z := by
    intro z hz
    obtain ⟨i, hi, hit, rfl⟩ := mem_drop_get hz
    have := hs2 (P.length + i) (by omega) (by omega)
    rw [hp i hi] at this
    simp at this
    omega
  have eX : X.take t ++ X.drop t = X := List.take_append_drop _ _
  have l1 : (X.take t).length = t := by simp; omega
  have l2 : (X.drop t).length = X.length - t := by simp
  have h1 := slideDown_list (X.drop t).reverse (P ++ X.take t) S d y (by rw [List.reverse_reverse, hd, List.append_assoc P (X.take t), ← List.append_assoc (X.take t), eX]; rfl)
  rw [List.length_reverse, l2, List.length_append, l1, List.reverse_reverse] at h1
  rw [show P.length + X.length - (P.length + t) = X.length - t by omega, show P.length + X.length = P.length + t + (X.length - t) by omega, h1]
  have fin : X.take t ++ ([y] ++ X.drop t) = isort key (X ++ [y]) := by
    have hXs : Srt key (X.take t ++ X.drop t) := by rw [eX]; exact hX
    refine isort_eq ?_ ?_
    · refine Srt.append hXs.left (Srt.append (List.pairwise_singleton _ _) hXs.right ?_) ?_
      · intro a ha b hb
        rw [List.mem_singleton] at ha
        subst ha
        exact Int.le_of_lt (hi' b hb)
      · intro a ha b hb
        rcases List.mem_append.1 hb with hb | hb
        · rw [List.mem_singleton] at hb
          subst hb
          exact lo a ha
        · exact hXs.cross a ha b hb
    · have h1 : Same key (X.drop t ++ [y]) ([y] ++ X.drop t) := Same.swap (fun a ha b hb => by
        rw [List.mem_singleton] at hb
        subst hb
        have := hi' a ha
        omega)
      have h2 := Same.append (Same.refl (key := key) (X.take t)) h1
      rw [← List.append_assoc (X.take t) (X.drop t), eX] at h2
      exact h2
  rw [← fin]
  simp only [List.append_assoc, List.cons_append, List.nil_append]
end Go.Proofs.YtledkbgjjmdflaaDoor.Stab
