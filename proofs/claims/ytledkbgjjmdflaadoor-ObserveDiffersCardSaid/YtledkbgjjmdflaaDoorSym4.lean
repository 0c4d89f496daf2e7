/- The merge by rotations: it sorts, and keeps equals in their order. No program in sight. -/
import Derived.Test.YtledkbgjjmdflaaDoorSym3
namespace Go.Proofs.YtledkbgjjmdflaaDoor.Stab
open Go.Sort
variable {α : Type} {key : α → Int}

theorem isort_mem (l : List α) (x : α) : x ∈ isort key l ↔ x ∈ l := (isort_same l).mem x
theorem isort_of_srt {l : List α} (h : Srt key l) : isort key l = l := (isort_eq h (Same.refl l)).symm

set_option maxHeartbeats 1000000 in
theorem symM_list [Inhabited α] (lt : α → α → Bool) : ∀ (f : Nat) (d : Array α) (P X Y S : List α), d.toList = P ++ (X ++ (Y ++ S)) → Srt key X → Srt key Y → 0 < X.length → 0 < Y.length →
    (∀ x ∈ X ++ Y, ∀ y ∈ X ++ Y, lt x y = decide (key x < key y)) → X.length + Y.length ≤ f →
    (symM lt f d P.length (P.length + X.length) (P.length + X.length + Y.length)).toList = P ++ (isort key (X ++ Y) ++ S)
  | 0, _, _, _, _, _, _, _, _, h, _, _, hf => by omega
  | f + 1, d, P, X, Y, S, hd, hX, hY, hx, hy, hlt, hf => by
    rw [symM]
    by_cases h1 : P.length + X.length - P.length = 1
    · rw [if_pos h1]
      have hx1 : X.length = 1 := by omega
      obtain ⟨x, rfl⟩ := List.length_eq_one_iff.1 hx1
      have := one_up lt hd hY (fun y hy => hlt y (by simp [hy]) x (by simp))
      rw [show P.length + [x].length + Y.length - (P.length + [x].length) = Y.length by omega]
      exact this
    rw [if_neg h1]
    by_cases h2 : P.length + X.length + Y.length - (P.length + X.length) = 1
    · rw [if_pos h2]
      have hy1 : Y.length = 1 := by omega
      obtain ⟨y, rfl⟩ := List.length_eq_one_iff.1 hy1
      have := one_down lt hd hX (fun x hx => hlt y (by simp) x (by simp [hx]))
      rw [show P.length + X.length - P.length = X.length by omega]
      exact this
    rw [if_neg h2]
    obtain ⟨a, ha⟩ : ∃ a, a = P.length := ⟨_, rfl⟩
    obtain ⟨m, hm⟩ : ∃ m, m = a + X.length := ⟨_, rfl⟩
    obtain ⟨b, hb⟩ : ∃ b, b = m + Y.length := ⟨_, rfl⟩
    obtain ⟨mid, hmid⟩ : ∃ c, c = (a + b) / 2 := ⟨_, rfl⟩
    rw [← ha] at h1 h2 ⊢
    rw [← hm] at h1 h2 ⊢
    rw [← hb] at h2 ⊢
    simp only
    rw [← hmid]
    obtain ⟨s0, hs0⟩ : ∃ s, s = if mid < m then mid + m - b else a := ⟨_, rfl⟩
    obtain ⟨r0, hr0⟩ : ∃ s, s = if mid < m then mid else m := ⟨_, rfl⟩
    rw [← hs0, ← hr0]
    have s0a : a ≤ s0 := by rw [hs0]; split <;> omega
    have s0n : mid + m ≤ s0 + b := by rw [hs0]; split <;> omega
    have r0m : r0 ≤ m := by rw [hr0]; split <;> omega
    have r0d : r0 ≤ mid := by rw [hr0]; split <;> omega
    have sr : s0 ≤ r0 := by rw [hs0, hr0]; split <;> omega
    have s0c : s0 = a ∨ s0 + b = mid + m := by rw [hs0]; split <;> omega
    have r0c : r0 = m ∨ r0 = mid := by rw [hr0]; split <;> omega
    have gX : ∀ i (hi : i < X.length), d[a + i]! = X[i] := by
      intro i hi
      rw [ha, at_list hd i (by simp; omega), List.getElem_append_left hi]
    have gY : ∀ i (hi : i < Y.length), d[m + i]! = Y[i] := by
      intro i hi
      have hd' : d.toList = (P ++ X) ++ (Y ++ S) := by rw [hd]; simp only [List.append_assoc]
      have := at_list hd' i (by simp; omega)
      rw [List.length_append, ← ha, ← hm] at this
      rw [this, List.getElem_append_left hi]
    have hp : ∀ c (h1 : s0 ≤ c) (h2 : c < r0), (!lt d[mid + m - 1 - c]! d[c]!) = !decide (key (Y[mid - 1 - c]'(by omega)) < key (X[c - a]'(by omega))) := by
      intro c h1 h2
      have e1 := gX (c - a) (by omega)
      have e2 := gY (mid - 1 - c) (by omega)
      rw [show a + (c - a) = c by omega] at e1
      rw [show m + (mid - 1 - c) = mid + m - 1 - c by omega] at e2
      rw [e1, e2, hlt _ (List.mem_append_right _ (List.getElem_mem _)) _ (List.mem_append_left _ (List.getElem_mem _))]
    obtain ⟨hst1, hst2⟩ := bsr_le (r0 - s0) (fun c => !lt d[mid + m - 1 - c]! d[c]!) s0 r0 sr (Nat.le_refl _)
    obtain ⟨hsp1, hsp2⟩ := bsr_spec (r0 - s0) (fun c => !lt d[mid + m - 1 - c]! d[c]!) s0 r0 sr (Nat.le_refl _) (by
      intro u v hu huv hv hpv
      replace hpv : (!lt d[mid + m - 1 - v]! d[v]!) = true := hpv
      show (!lt d[mid + m - 1 - u]! d[u]!) = true
      rw [hp v (by omega) hv] at hpv
      rw [hp u hu (by omega)]
      have k1 := hX.get (u - a) (v - a) (by omega) (by omega)
      have k2 := hY.get (mid - 1 - v) (mid - 1 - u) (by omega) (by omega)
      simp only [Bool.not_eq_true', decide_eq_false_iff_not] at hpv ⊢
      omega)
    generalize bsr (r0 - s0) (fun c => !lt d[mid + m - 1 - c]! d[c]!) s0 r0 = st at *
    obtain ⟨en, hen⟩ : ∃ e, e = mid + m - st := ⟨_, rfl⟩
    rw [← hen]
    obtain ⟨X1, hX1⟩ : ∃ l, l = X.take (st - a) := ⟨_, rfl⟩
    obtain ⟨X2, hX2⟩ : ∃ l, l = X.drop (st - a) := ⟨_, rfl⟩
    obtain ⟨Y1, hY1⟩ : ∃ l, l = Y.take (mid - st) := ⟨_, rfl⟩
    obtain ⟨Y2, hY2⟩ : ∃ l, l = Y.drop (mid - st) := ⟨_, rfl⟩
    have A : ∀ u ∈ X1, ∀ v ∈ Y2, key u ≤ key v := by
      intro u hu v hv
      rw [hX1] at hu
      rw [hY2] at hv
      obtain ⟨i, hi, hii, rfl⟩ := mem_take_get hu
      obtain ⟨j, hj, hjj, rfl⟩ := mem_drop_get hv
      have hlt' : s0 < st := by omega
      have e := hsp1 (st - 1) (by omega) (by omega)
      rw [hp (st - 1) (by omega) (by omega)] at e
      simp only [Bool.not_eq_true', decide_eq_false_iff_not] at e
      have k1 := hX.get i (st - 1 - a) (by omega) (by omega)
      have k2 := hY.get (mid - 1 - (st - 1)) j (by omega) hj
      omega
    have B : ∀ u ∈ X2, ∀ v ∈ Y1, key v < key u := by
      intro u hu v hv
      rw [hX2] at hu
      rw [hY1] at hv
      obtain ⟨i, hi, hii, rfl⟩ := mem_drop_get hu
      obtain ⟨j, hj, hjj, rfl⟩ := mem_take_get hv
      have hlt' : st < r0 := by omega
      have e := hsp2 st (by omega) hlt'
      rw [hp st (by omega) hlt'] at e
      simp only [Bool.not_eq_false', decide_eq_true_eq] at e
      have k1 := hX.get (st - a) i (by omega) hi
      have k2 := hY.get j (mid - 1 - st) (by omega) (by omega)
      omega
    have eX : X1 ++ X2 = X := by rw [hX1, hX2]; exact List.take_append_drop _ _
    have eY : Y1 ++ Y2 = Y := by rw [hY1, hY2]; exact List.take_append_drop _ _
    have lX1 : X1.length = st - a := by rw [hX1]; simp; omega
    have lX2 : X2.length = m - st := by rw [hX2]; simp; omega
    have lY1 : Y1.length = mid - st := by rw [hY1]; simp; omega
    have lY2 : Y2.length = b - en := by rw [hY2]; simp; omega
    have sX : Srt key (X1 ++ X2) := by rw [eX]; exact hX
    have sY : Srt key (Y1 ++ Y2) := by rw [eY]; exact hY
    have mX1 : ∀ z ∈ X1, z ∈ X ++ Y := fun z hz => by rw [← eX]; simp [hz]
    have mX2 : ∀ z ∈ X2, z ∈ X ++ Y := fun z hz => by rw [← eX]; simp [hz]
    have mY1 : ∀ z ∈ Y1, z ∈ X ++ Y := fun z hz => by rw [← eY]; simp [hz]
    have mY2 : ∀ z ∈ Y2, z ∈ X ++ Y := fun z hz => by rw [← eY]; simp [hz]
    clear hp hsp1 hsp2 gX gY hX1 hX2 hY1 hY2
    have hd' : d.toList = (P ++ X1) ++ (X2 ++ (Y1 ++ (Y2 ++ S))) := by
      rw [hd, ← eX, ← eY]; simp only [List.append_assoc]
    -- the rotation
    obtain ⟨d1, hd1⟩ : ∃ e, e = if st < m ∧ m < en then rotN (en - st) d m (m - st) (en - m) else d := ⟨_, rfl⟩
    rw [← hd1]
    have k1 : d1.toList = P ++ (X1 ++ (Y1 ++ (X2 ++ (Y2 ++ S)))) := by
      rw [hd1]
      split
      · rename_i hc
        have := rotN_list (en - st) d m (P ++ X1) X2 Y1 (Y2 ++ S) hd' (by rw [List.length_append]; omega) (by omega) (by omega) (by omega)
        rw [lX2, lY1, show mid - st = en - m by omega] at this
        rw [this]
        simp only [List.append_assoc]
      · rename_i hc
        have : X2 = [] ∨ Y1 = [] := by
          by_cases hz : X2.length = 0
          · exact .inl (List.eq_nil_of_length_eq_zero hz)
          · exact .inr (List.eq_nil_of_length_eq_zero (by omega))
        rw [hd']
        rcases this with e | e <;> rw [e] <;> simp only [List.append_assoc, List.nil_append]
    -- the left half
    obtain ⟨d2, hd2⟩ : ∃ e, e = if a < st ∧ st < mid then symM lt f d1 a st mid else d1 := ⟨_, rfl⟩
    rw [← hd2]
    have k2 : d2.toList = P ++ (isort key (X1 ++ Y1) ++ (X2 ++ (Y2 ++ S))) := by
      rw [hd2]
      split
      · rename_i hc
        have := symM_list lt f d1 P X1 Y1 (X2 ++ (Y2 ++ S)) k1 sX.left sY.left (by omega) (by omega)
          (fun x hx y hy => hlt x (by rcases List.mem_append.1 hx with h | h; exact mX1 _ h; exact mY1 _ h) y (by rcases List.mem_append.1 hy with h | h; exact mX1 _ h; exact mY1 _ h)) (by omega)
        rw [← ha, lX1, lY1, show a + (st - a) = st by omega, show st + (mid - st) = mid by omega] at this
        exact this
      · rename_i hc
        have : Srt key (X1 ++ Y1) := by
          by_cases hz : X1.length = 0
          · rw [List.eq_nil_of_length_eq_zero hz]; exact sY.left
          · rw [List.eq_nil_of_length_eq_zero (l := Y1) (by omega), List.append_nil]; exact sX.left
        rw [isort_of_srt this, k1]
        simp only [List.append_assoc]
    -- the right half
    have l12 : (P ++ isort key (X1 ++ Y1)).length = mid := by rw [List.length_append, isort_length, List.length_append]; omega
    have fin : isort key (X1 ++ Y1) ++ isort key (X2 ++ Y2) = isort key (X ++ Y) := by
      refine isort_eq (Srt.append (isort_srt _) (isort_srt _) ?_) ?_
      · intro u hu v hv
        rw [isort_mem] at hu hv
        rcases List.mem_append.1 hu with hu | hu <;> rcases List.mem_append.1 hv with hv | hv
        · exact sX.cross u hu v hv
        · exact A u hu v hv
        · exact Int.le_of_lt (B v hv u hu)
        · exact sY.cross u hu v hv
      · have e1 : Same key (X2 ++ Y1) (Y1 ++ X2) := Same.swap (fun u hu v hv => by have := B u hu v hv; omega)
        have e2 : Same key (X1 ++ ((X2 ++ Y1) ++ Y2)) (X1 ++ ((Y1 ++ X2) ++ Y2)) := Same.append (Same.refl _) (Same.append e1 (Same.refl _))
        have e3 : X ++ Y = X1 ++ ((X2 ++ Y1) ++ Y2) := by rw [← eX, ← eY]; simp only [List.append_assoc]
        rw [e3]
        refine e2.trans ?_
        have e4 : X1 ++ ((Y1 ++ X2) ++ Y2) = (X1 ++ Y1) ++ (X2 ++ Y2) := by simp only [List.append_assoc]
        rw [e4]
        exact Same.append (isort_same _) (isort_same _)
    rw [← fin]
    split
    · rename_i hc
      have := symM_list lt f d2 (P ++ isort key (X1 ++ Y1)) X2 Y2 S (by rw [k2]; simp only [List.append_assoc]) sX.right sY.right (by omega) (by omega)
        (fun x hx y hy => hlt x (by rcases List.mem_append.1 hx with h | h; exact mX2 _ h; exact mY2 _ h) y (by rcases List.mem_append.1 hy with h | h; exact mX2 _ h; exact mY2 _ h)) (by omega)
      rw [l12, lX2, lY2, show mid + (m - st) = en by omega, show en + (b - en) = b by omega] at this
      rw [this]
      simp only [List.append_assoc]
    · rename_i hc
      have : Srt key (X2 ++ Y2) := by
        by_cases hz : X2.length = 0
        · rw [List.eq_nil_of_length_eq_zero hz]; exact sY.right
        · rw [List.eq_nil_of_length_eq_zero (l := Y2) (by omega), List.append_nil]; exact sX.right
      rw [isort_of_srt this, k2]
      simp only [List.append_assoc]
end Go.Proofs.YtledkbgjjmdflaaDoor.Stab
