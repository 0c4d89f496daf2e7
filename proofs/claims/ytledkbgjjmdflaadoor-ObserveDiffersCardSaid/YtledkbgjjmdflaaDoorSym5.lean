/- Insertion sort, and Go's stable sort by blocks and merges: what they leave. No program in sight. -/
import Derived.Test.YtledkbgjjmdflaaDoorSym4
namespace Go.Proofs.YtledkbgjjmdflaaDoor.Stab
open Go.Sort
variable {α : Type} [Inhabited α] {key : α → Int}

theorem insInner_list (lt : α → α → Bool) : ∀ (Z P R : List α) (d : Array α) (x : α), d.toList = P ++ (Z.reverse ++ x :: R) → Srt key Z.reverse → (∀ z ∈ Z, lt x z = decide (key x < key z)) →
    (insInner lt P.length (P.length + Z.length) d).toList = P ++ (isort key (Z.reverse ++ [x]) ++ R)
  | [], P, R, d, x, hd, _, _ => by
    have : insInner lt P.length P.length d = d := by
      cases hp : P.length with
      | zero => rfl
      | succ n => rw [insInner, if_neg (by simp)]
    rw [List.length_nil, Nat.add_zero, this, hd]
    rfl
  | z :: Z, P, R, d, x, hd, hZ, hlt => by
    have hZ' : Srt key (Z.reverse ++ [z]) := by rw [← List.reverse_cons]; exact hZ
    have hd' : d.toList = (P ++ Z.reverse) ++ z :: ([] ++ x :: R) := by rw [hd]; simp only [List.reverse_cons, List.append_assoc, List.cons_append, List.nil_append]
    have g1 : d[P.length + Z.length]! = z := by
      have := at_list hd' 0 (by simp)
      rw [List.length_append, List.length_reverse, Nat.add_zero] at this
      exact this
    have g2 : d[P.length + Z.length + 1]! = x := by
      have := at_list hd' 1 (by simp)
      rw [List.length_append, List.length_reverse] at this
      exact this
    have h1 := swp_list hd'
    simp only [List.length_append, List.length_reverse, List.length_nil, Nat.add_zero, List.nil_append] at h1
    have hs : d.size = P.length + Z.length + 2 + R.length := by
      rw [← Array.length_toList, hd']; simp; omega
    rw [List.length_cons, show P.length + (Z.length + 1) = P.length + Z.length + 1 by omega, insInner, g1, g2, hlt z (by simp)]
    by_cases hxz : key x < key z
    · rw [if_pos (by simp [hxz]; omega)]
      have h2 := insInner_list lt Z P (z :: R) (swp d (P.length + Z.length + 1) (P.length + Z.length)) x (by
        rw [swp_comm_ne _ _ _ (by omega) (by omega) (by omega), h1]
        simp only [List.append_assoc]) hZ'.left (fun y hy => hlt y (by simp [hy]))
      rw [h2]
      have fin : isort key (Z.reverse ++ [x]) ++ [z] = isort key ((z :: Z).reverse ++ [x]) := by
        refine isort_eq (Srt.append (isort_srt _) (List.pairwise_singleton _ _) ?_) ?_
        · intro a ha b hb
          rw [List.mem_singleton] at hb
          subst hb
          rw [isort_mem] at ha
          rcases List.mem_append.1 ha with ha | ha
          · exact hZ'.cross a ha b (by simp)
          · rw [List.mem_singleton] at ha
            subst ha
            omega
        · have e1 : Same key ([z] ++ [x]) ([x] ++ [z]) := Same.swap (fun a ha b hb => by
            rw [List.mem_singleton] at ha hb
            subst ha hb
            omega)
          have e2 : Same key (Z.reverse ++ ([z] ++ [x])) (Z.reverse ++ ([x] ++ [z])) := Same.append (Same.refl _) e1
          have e3 : (z :: Z).reverse ++ [x] = Z.reverse ++ ([z] ++ [x]) := by simp only [List.reverse_cons, List.append_assoc]
          rw [e3]
          refine e2.trans ?_
          rw [← List.append_assoc]
          exact Same.append (isort_same _) (Same.refl _)
      rw [← fin]
      simp only [List.append_assoc, List.cons_append, List.nil_append]
    · rw [if_neg (by simp [hxz])]
      have : Srt key ((z :: Z).reverse ++ [x]) := by
        refine Srt.append hZ (List.pairwise_singleton _ _) ?_
        intro a ha b hb
        rw [List.mem_singleton] at hb
        subst hb
        rw [List.reverse_cons] at ha
        rcases List.mem_append.1 ha with ha | ha
        · have := hZ'.cross a ha z (by simp)
          omega
        · rw [List.mem_singleton] at ha
          subst ha
          omega
      rw [isort_of_srt this, hd]
      simp only [List.append_assoc, List.cons_append, List.nil_append]

theorem insOuter_list (lt : α → α → Bool) : ∀ (W Z P R : List α) (d : Array α), d.toList = P ++ (Z ++ (W ++ R)) → Srt key Z → (∀ x ∈ Z ++ W, ∀ y ∈ Z ++ W, lt x y = decide (key x < key y)) →
    (insOuter lt P.length (P.length + Z.length + W.length) (P.length + Z.length) d).toList = P ++ (isort key (Z ++ W) ++ R)
  | [], Z, P, R, d, hd, hZ, _ => by
    rw [insOuter, if_neg (by simp), List.append_nil, isort_of_srt hZ, hd]
    rfl
  | x :: W, Z, P, R, d, hd, hZ, hlt => by
    rw [insOuter, if_pos (by simp)]
    have h1 := insInner_list (key := key) lt Z.reverse P (W ++ R) d x (by rw [List.reverse_reverse]; exact hd) (by rw [List.reverse_reverse]; exact hZ) (fun z hz => hlt x (by simp) z (by simp at hz; simp [hz]))
    rw [List.length_reverse, List.reverse_reverse] at h1
    have h2 := insOuter_list lt W (isort key (Z ++ [x])) P R _ (by rw [h1]) (isort_srt _) (fun u hu v hv => by
      refine hlt u ?_ v ?_
      · rcases List.mem_append.1 hu with h | h
        · rw [isort_mem] at h
          rcases List.mem_append.1 h with h | h
          · simp [h]
          · simp at h; simp [h]
        · simp [h]
      · rcases List.mem_append.1 hv with h | h
        · rw [isort_mem] at h
          rcases List.mem_append.1 h with h | h
          · simp [h]
          · simp at h; simp [h]
        · simp [h])
    rw [isort_length, List.length_append, List.length_singleton, show P.length + (Z.length + 1) + W.length = P.length + Z.length + (x :: W).length by simp; omega, show P.length + (Z.length + 1) = P.length + Z.length + 1 by omega] at h2
    rw [h2]
    congr 2
    have := isort_append (key := key) (Z ++ [x]) W
    refine (isort_eq (isort_srt _) ?_)
    have e : Z ++ x :: W = (Z ++ [x]) ++ W := by simp
    rw [e]
    exact (Same.append (isort_same (key := key) (Z ++ [x])) (Same.refl W)).trans (isort_same _)

theorem insertion_list (lt : α → α → Bool) {d : Array α} {P X R : List α} (hd : d.toList = P ++ (X ++ R)) (hlt : ∀ x ∈ X, ∀ y ∈ X, lt x y = decide (key x < key y)) :
    (Sort.insertionSort lt d P.length (P.length + X.length)).toList = P ++ (isort key X ++ R) := by
  unfold Sort.insertionSort
  cases X with
  | nil => rw [insOuter, if_neg (by simp), hd]; rfl
  | cons x W =>
    have := insOuter_list (key := key) lt W [x] P R d (by rw [hd]; rfl) (List.pairwise_singleton _ _) (by simpa using hlt)
    rw [List.length_singleton, show P.length + 1 + W.length = P.length + (x :: W).length by simp; omega] at this
    exact this
end Go.Proofs.YtledkbgjjmdflaaDoor.Stab
