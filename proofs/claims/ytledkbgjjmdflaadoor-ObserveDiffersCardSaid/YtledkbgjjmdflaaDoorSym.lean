/- Exchanges of ranges, rotations, and a search by halves, over arrays and lists. No program in sight. -/
import Derived.Sort.Defs
namespace Go.Proofs.YtledkbgjjmdflaaDoor.Stab
open Go.Sort
variable {α : Type} [Inhabited α]

theorem swp_list {d : Array α} {P M S : List α} {x y : α} (h : d.toList = P ++ x :: (M ++ y :: S)) : (swp d P.length (P.length + 1 + M.length)).toList = P ++ y :: (M ++ x :: S) := by
  have hd : d = (P ++ x :: (M ++ y :: S)).toArray := by rw [← h]
  subst hd
  have g1 : (P ++ x :: (M ++ y :: S)).toArray[P.length]! = x := by simp
  have g2 : (P ++ x :: (M ++ y :: S)).toArray[P.length + 1 + M.length]! = y := by
    have e : P.length + 1 + M.length = P.length + (1 + M.length) := by omega
    have e2 : (P ++ x :: (M ++ y :: S))[P.length + (1 + M.length)]? = some y := by
      rw [List.getElem?_append_right (by omega), show P.length + (1 + M.length) - P.length = M.length + 1 by omega, List.getElem?_cons_succ, List.getElem?_append_right (by omega)]
      simp
    rw [e]
    simp [getElem!_def, e2]
  unfold swp
  rw [g1, g2]
  simp only [List.setIfInBounds_toArray]
  rw [List.set_append_right _ _ (by omega), Nat.sub_self, List.set_cons_zero, List.set_append_right _ _ (by omega), show P.length + 1 + M.length - P.length = M.length + 1 by omega, List.set_cons_succ, List.set_append_right _ _ (by omega), Nat.sub_self, List.set_cons_zero]

/-- k places of two ranges, exchanged one after the other. -/
def swapN (d : Array α) (a b : Nat) : Nat → Array α
  | 0 => d
  | k + 1 => swp (swapN d a b k) (a + k) (b + k)
theorem swapN_list {d : Array α} {P X M Y S : List α} (hd : d.toList = P ++ (X ++ (M ++ (Y ++ S)))) (hl : X.length = Y.length) :
    (swapN d P.length (P.length + X.length + M.length) X.length).toList = P ++ (Y ++ (M ++ (X ++ S))) := by
  have go : ∀ k, k ≤ X.length → (swapN d P.length (P.length + X.length + M.length) k).toList = P ++ (Y.take k ++ (X.drop k ++ (M ++ (X.take k ++ (Y.drop k ++ S))))) := by
    intro k
    induction k with
    | zero => intro _; simpa [swapN] using hd
    | succ k ih =>
      intro hk
      have hx : k < X.length := by omega
      have hy : k < Y.length := by omega
      have e := ih (by omega)
      rw [List.drop_eq_getElem_cons hx, List.drop_eq_getElem_cons hy] at e
      have e2 : (swapN d P.length (P.length + X.length + M.length) k).toList = (P ++ Y.take k) ++ X[k] :: ((X.drop (k + 1) ++ (M ++ X.take k)) ++ Y[k] :: (Y.drop (k + 1) ++ S)) := by rw [e]; simp only [List.append_assoc, List.cons_append]
      have e3 := swp_list e2
      rw [swapN]
      have p1 : (P ++ Y.take k).length = P.length + k := by simp; omega
      have p2 : P.length + k + 1 + (X.drop (k + 1) ++ (M ++ X.take k)).length = P.length + X.length + M.length + k := by simp; omega
      rw [p1, p2] at e3
      rw [e3, List.take_succ_eq_append_getElem hx, List.take_succ_eq_append_getElem hy]
      simp only [List.append_assoc, List.cons_append, List.nil_append]
  have := go X.length (Nat.le_refl _)
  rw [this, List.take_of_length_le (Nat.le_of_eq hl.symm), List.drop_of_length_le (Nat.le_refl X.length), List.take_of_length_le (Nat.le_refl X.length), List.drop_of_length_le (Nat.le_of_eq hl.symm)]
  simp only [List.nil_append]

/-- Go's rotation: i places before m, j from m on. -/
def rotN : Nat → Array α → Nat → Nat → Nat → Array α
  | 0, d, _, _, _ => d
  | f + 1, d, m, i, j => if i = j then swapN d (m - i) m i else if j < i then rotN f (swapN d (m - i) m j) m (i - j) j else rotN f (swapN d (m - i) (m + j - i) i) m i (j - i)
theorem rotN_list : ∀ (f : Nat) (d : Array α) (m : Nat) (P X Y S : List α), d.toList = P ++ (X ++ (Y ++ S)) → m = P.length + X.length → 0 < X.length → 0 < Y.length → X.length + Y.length ≤ f →
    (rotN f d m X.length Y.length).toList = P ++ (Y ++ (X ++ S))
  | 0, _, _, _, _, _, _, _, _, _, _, h => by omega
  | f + 1, d, m, P, X, Y, S, hd, hm, hx, hy, hf => by
    subst hm
    rw [rotN]
    have hmi : P.length + X.length - X.length = P.length := by omega
    rw [hmi]
    by_cases he : X.length = Y.length
    · rw [if_pos he]
      have := swapN_list (M := []) (by simpa using hd) he
      simpa using this
    · rw [if_neg he]
      by_cases hlt : Y.length < X.length
      · rw [if_pos hlt]
        have e1 : X.take Y.length ++ X.drop Y.length = X := List.take_append_drop _ _
        have l1 : (X.take Y.length).length = Y.length := by simp; omega
        have l2 : (X.drop Y.length).length = X.length - Y.length := by simp
        have h1 := swapN_list (d := d) (P := P) (X := X.take Y.length) (M := X.drop Y.length) (Y := Y) (S := S) (by rw [hd, ← List.append_assoc (X.take Y.length), e1]) l1
        rw [l1, l2, show P.length + Y.length + (X.length - Y.length) = P.length + X.length by omega] at h1
        have h2 := rotN_list f (swapN d P.length (P.length + X.length) Y.length) (P.length + X.length) (P ++ Y) (X.drop Y.length) (X.take Y.length) S (by rw [h1]; simp) (by rw [l2, List.length_append]; omega) (by omega) (by omega) (by omega)
        rw [l1, l2] at h2
        rw [h2, ← List.append_assoc (X.take Y.length), e1, List.append_assoc]
      · rw [if_neg hlt]
        have e1 : Y.take (Y.length - X.length) ++ Y.drop (Y.length - X.length) = Y := List.take_append_drop _ _
        have l1 : (Y.take (Y.length - X.length)).length = Y.length - X.length := by simp
        have l2 : (Y.drop (Y.length - X.length)).length = X.length := by simp; omega
        have h1 := swapN_list (d := d) (P := P) (X := X) (M := Y.take (Y.length - X.length)) (Y := Y.drop (Y.length - X.length)) (S := S) (by rw [hd, ← List.append_assoc (Y.take _), e1]) l2.symm
        rw [l1, show P.length + X.length + (Y.length - X.length) = P.length + X.length + Y.length - X.length by omega] at h1
        have h2 := rotN_list f (swapN d P.length (P.length + X.length + Y.length - X.length) X.length) (P.length + X.length) P (Y.drop (Y.length - X.length)) (Y.take (Y.length - X.length)) (X ++ S) (by rw [h1]) (by rw [l2]) (by omega) (by omega) (by omega)
        rw [l1, l2] at h2
        rw [h2, ← List.append_assoc (Y.take _), e1]

/-- A search by halves for the first place at which p fails. -/
def bsr : Nat → (Nat → Bool) → Nat → Nat → Nat
  | 0, _, i, _ => i
  | f + 1, p, i, j => if i < j then (if p ((i + j) / 2) then bsr f p ((i + j) / 2 + 1) j else bsr f p i ((i + j) / 2)) else i
theorem bsr_le : ∀ (f : Nat) (p : Nat → Bool) (i j : Nat), i ≤ j → j - i ≤ f → i ≤ bsr f p i j ∧ bsr f p i j ≤ j
  | 0, p, i, j, h, hf => by simp only [bsr]; omega
  | f + 1, p, i, j, h, hf => by
    rw [bsr]
    split
    · split
      · have := bsr_le f p ((i + j) / 2 + 1) j (by omega) (by omega); omega
      · have := bsr_le f p i ((i + j) / 2) (by omega) (by omega); omega
    · omega
theorem bsr_spec : ∀ (f : Nat) (p : Nat → Bool) (i j : Nat), i ≤ j → j - i ≤ f → (∀ x y, i ≤ x → x ≤ y → y < j → p y = true → p x = true) →
    (∀ x, i ≤ x → x < bsr f p i j → p x = true) ∧ (∀ x, bsr f p i j ≤ x → x < j → p x = false)
  | 0, p, i, j, h, hf, hm => by
    simp only [bsr]
    exact ⟨fun x _ _ => by omega, fun x _ _ => by omega⟩
  | f + 1, p, i, j, h, hf, hm => by
    rw [bsr]
    split
    · split
      · rename_i hlt hp
        obtain ⟨h1, h2⟩ := bsr_spec f p ((i + j) / 2 + 1) j (by omega) (by omega) (fun x y hx hxy hy => hm x y (by omega) hxy hy)
        refine ⟨fun x hx hxr => ?_, h2⟩
        by_cases hxm : x ≤ (i + j) / 2
        · exact hm x _ hx hxm (by omega) hp
        · exact h1 x (by omega) hxr
      · rename_i hlt hp
        obtain ⟨h1, h2⟩ := bsr_spec f p i ((i + j) / 2) (by omega) (by omega) (fun x y hx hxy hy => hm x y hx hxy (by omega))
        refine ⟨h1, fun x hx hxj => ?_⟩
        by_cases hxm : x < (i + j) / 2
        · exact h2 x hx hxm
        · cases hpx : p x with
          | false => rfl
          | true => exact absurd (hm _ x (by omega) (by omega) hxj hpx) hp
    · exact ⟨fun x _ _ => by omega, fun x _ _ => by omega⟩
end Go.Proofs.YtledkbgjjmdflaaDoor.Stab
