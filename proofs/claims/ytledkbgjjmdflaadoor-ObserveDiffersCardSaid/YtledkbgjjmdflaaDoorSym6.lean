/- Go's stable sort: blocks of 20 by insertion, then merges by rotations: the stable sort. No program in sight. -/
import Derived.Test.YtledkbgjjmdflaaDoorSym5
namespace Go.Proofs.YtledkbgjjmdflaaDoor.Stab
open Go.Sort
variable {α : Type} {key : α → Int}

variable (key) in
/-- Blocks of bs, each sorted. -/
def Runs (bs : Nat) (l : List α) : Prop := ∀ k, Srt key ((l.drop (k * bs)).take bs)
theorem Runs.cons {bs : Nat} {A B : List α} (hl : A.length = bs) (hA : Srt key A) (hB : Runs key bs B) : Runs key bs (A ++ B) := by
  intro k
  cases k with
  | zero =>
    rw [Nat.zero_mul, List.drop_zero, List.take_append_of_le_length (by omega), List.take_of_length_le (by omega)]
    exact hA
  | succ k =>
    rw [List.drop_append, List.drop_of_length_le (by rw [Nat.add_mul]; omega), List.nil_append, show (k + 1) * bs - A.length = k * bs by rw [Nat.add_mul]; omega]
    exact hB k
theorem Runs.short {bs : Nat} {A : List α} (hl : A.length ≤ bs) (hA : Srt key A) : Runs key bs A := by
  intro k
  cases k with
  | zero =>
    rw [Nat.zero_mul, List.drop_zero, List.take_of_length_le (by omega)]
    exact hA
  | succ k =>
    rw [List.drop_of_length_le (by rw [Nat.add_mul]; omega), List.take_nil]
    exact List.Pairwise.nil
theorem Runs.first {bs : Nat} {A : List α} (h : Runs key bs A) : Srt key (A.take bs) := by
  have := h 0
  rwa [Nat.zero_mul, List.drop_zero] at this
theorem Runs.rest {bs : Nat} {A : List α} (h : Runs key bs A) : Runs key bs (A.drop bs) := by
  intro k
  have := h (k + 1)
  rw [List.drop_drop]
  rwa [Nat.add_mul, Nat.one_mul, Nat.add_comm] at this

variable [Inhabited α]
/-- The first loop and the call behind it: blocks of 20, from a on. -/
def ph1 (lt : α → α → Bool) : Nat → Array α → Nat → Nat → Array α
  | 0, d, _, _ => d
  | f + 1, d, a, n => if a + 20 ≤ n then ph1 lt f (Sort.insertionSort lt d a (a + 20)) (a + 20) n else Sort.insertionSort lt d a n
/-- One round of merges. -/
def pass (lt : α → α → Bool) (bs : Nat) : Nat → Array α → Nat → Nat → Array α
  | 0, d, _, _ => d
  | f + 1, d, a, n => if a + 2 * bs ≤ n then pass lt bs f (symM lt (2 * bs) d a (a + bs) (a + 2 * bs)) (a + 2 * bs) n else if a + bs < n then symM lt (n - a) d a (a + bs) n else d
def ph3 (lt : α → α → Bool) : Nat → Array α → Nat → Nat → Array α
  | 0, d, _, _ => d
  | f + 1, d, bs, n => if bs < n then ph3 lt f (pass lt bs (n + 1) d 0 n) (2 * bs) n else d
/-- slices.SortStableFunc. -/
def stableM (lt : α → α → Bool) (d : Array α) : Array α := ph3 lt (d.size + 1) (ph1 lt (d.size + 1) d 0 d.size) 20 d.size

theorem ph1_list (lt : α → α → Bool) : ∀ (f : Nat) (d : Array α) (P X : List α), d.toList = P ++ X → (∀ x ∈ X, ∀ y ∈ X, lt x y = decide (key x < key y)) → X.length < f →
    ∃ X', (ph1 lt f d P.length (P.length + X.length)).toList = P ++ X' ∧ Same key X X' ∧ X'.length = X.length ∧ Runs key 20 X'
  | 0, _, _, _, _, _, h => by omega
  | f + 1, d, P, X, hd, hlt, hf => by
    rw [ph1]
    by_cases h20 : 20 ≤ X.length
    · rw [if_pos (by omega)]
      have e : X.take 20 ++ X.drop 20 = X := List.take_append_drop _ _
      have l1 : (X.take 20).length = 20 := by simp; omega
      have l2 : (X.drop 20).length = X.length - 20 := by simp
      have h1 := insertion_list (key := key) lt (d := d) (P := P) (X := X.take 20) (R := X.drop 20) (by rw [hd, e]) (fun x hx y hy => hlt x (List.mem_of_mem_take hx) y (List.mem_of_mem_take hy))
      rw [l1] at h1
      obtain ⟨X', k1, k2, k3, k4⟩ := ph1_list lt f (Sort.insertionSort lt d P.length (P.length + 20)) (P ++ isort key (X.take 20)) (X.drop 20) (by rw [h1]; simp only [List.append_assoc]) (fun x hx y hy => hlt x (List.mem_of_mem_drop hx) y (List.mem_of_mem_drop hy)) (by omega)
      rw [List.length_append, isort_length, l1, l2, show P.length + 20 + (X.length - 20) = P.length + X.length by omega] at k1
      refine ⟨isort key (X.take 20) ++ X', by rw [k1]; simp only [List.append_assoc], ?_, by rw [List.length_append, isort_length, l1, k3, l2]; omega, Runs.cons (by rw [isort_length, l1]) (isort_srt _) k4⟩
      have := Same.append (isort_same (key := key) (X.take 20)) k2
      rwa [e] at this
    · rw [if_neg (by omega)]
      have h1 := insertion_list (key := key) lt (d := d) (P := P) (X := X) (R := []) (by rw [hd, List.append_nil]) hlt
      rw [List.append_nil] at h1
      exact ⟨isort key X, h1, isort_same _, isort_length _, Runs.short (by rw [isort_length]; omega) (isort_srt _)⟩

theorem pass_list (lt : α → α → Bool) (bs : Nat) (hbs : 0 < bs) : ∀ (f : Nat) (d : Array α) (P X : List α), d.toList = P ++ X → (∀ x ∈ X, ∀ y ∈ X, lt x y = decide (key x < key y)) → Runs key bs X → X.length < f →
    ∃ X', (pass lt bs f d P.length (P.length + X.length)).toList = P ++ X' ∧ Same key X X' ∧ X'.length = X.length ∧ Runs key (2 * bs) X'
  | 0, _, _, _, _, _, _, h => by omega
  | f + 1, d, P, X, hd, hlt, hr, hf => by
    rw [pass]
    by_cases h2 : 2 * bs ≤ X.length
    · rw [if_pos (by omega)]
      obtain ⟨A, hA⟩ : ∃ A, A = X.take bs := ⟨_, rfl⟩
      obtain ⟨B, hB⟩ : ∃ B, B = (X.drop bs).take bs := ⟨_, rfl⟩
      obtain ⟨C, hC⟩ : ∃ C, C = (X.drop bs).drop bs := ⟨_, rfl⟩
      have e : X = A ++ (B ++ C) := by rw [hA, hB, hC, List.take_append_drop, List.take_append_drop]
      have lA : A.length = bs := by rw [hA]; simp; omega
      have lB : B.length = bs := by rw [hB]; simp; omega
      have lC : C.length = X.length - 2 * bs := by rw [hC]; simp; omega
      have sA : Srt key A := by rw [hA]; exact hr.first
      have sB : Srt key B := by rw [hB]; exact hr.rest.first
      have rC : Runs key bs C := by rw [hC]; exact hr.rest.rest
      have mAB : ∀ z ∈ A ++ B, z ∈ X := fun z hz => by rw [e, ← List.append_assoc]; exact List.mem_append_left _ hz
      have mC : ∀ z ∈ C, z ∈ X := fun z hz => by rw [e]; simp [hz]
      have h1 := symM_list (key := key) lt (2 * bs) d P A B C (by rw [hd, e]) sA sB (by omega) (by omega) (fun x hx y hy => hlt x (mAB x hx) y (mAB y hy)) (by omega)
      rw [lA, lB, show P.length + bs + bs = P.length + 2 * bs by omega] at h1
      obtain ⟨X', k1, k2, k3, k4⟩ := pass_list lt bs hbs f _ (P ++ isort key (A ++ B)) C (by rw [h1]; simp only [List.append_assoc]) (fun x hx y hy => hlt x (mC x hx) y (mC y hy)) rC (by omega)
      have l12 : (isort key (A ++ B)).length = 2 * bs := by rw [isort_length, List.length_append]; omega
      rw [List.length_append, l12, lC, show P.length + 2 * bs + (X.length - 2 * bs) = P.length + X.length by omega] at k1
      refine ⟨isort key (A ++ B) ++ X', by rw [k1]; simp only [List.append_assoc], ?_, by rw [List.length_append, l12, k3, lC]; omega, Runs.cons l12 (isort_srt _) k4⟩
      have := Same.append (isort_same (key := key) (A ++ B)) k2
      rwa [List.append_assoc, ← e] at this
    · rw [if_neg (by omega)]
      by_cases h3 : bs < X.length
      · rw [if_pos (by omega)]
        obtain ⟨A, hA⟩ : ∃ A, A = X.take bs := ⟨_, rfl⟩
        obtain ⟨B, hB⟩ : ∃ B, B = X.drop bs := ⟨_, rfl⟩
        have e : X = A ++ B := by rw [hA, hB, List.take_append_drop]
        have lA : A.length = bs := by rw [hA]; simp; omega
        have lB : B.length = X.length - bs := by rw [hB]; simp
        have sA : Srt key A := by rw [hA]; exact hr.first
        have sB : Srt key B := by
          have := hr.rest.first
          rw [← hB, List.take_of_length_le (by omega)] at this
          exact this
        have h1 := symM_list (key := key) lt (P.length + X.length - P.length) d P A B [] (by rw [hd, e, List.append_nil]) sA sB (by omega) (by omega) (fun x hx y hy => hlt x (by rw [e]; exact hx) y (by rw [e]; exact hy)) (by omega)
        rw [lA, lB, show P.length + bs + (X.length - bs) = P.length + X.length by omega, List.append_nil, ← e] at h1
        exact ⟨isort key X, h1, isort_same _, isort_length _, Runs.short (by rw [isort_length]; omega) (isort_srt _)⟩
      · rw [if_neg (by omega)]
        have := hr.first
        rw [List.take_of_length_le (by omega)] at this
        exact ⟨X, hd, Same.refl _, rfl, Runs.short (by omega) this⟩

theorem ph3_list (lt : α → α → Bool) : ∀ (f : Nat) (bs : Nat) (d : Array α) (X : List α), 0 < bs → d.toList = X → (∀ x ∈ X, ∀ y ∈ X, lt x y = decide (key x < key y)) → Runs key bs X → X.length < f + bs →
    (ph3 lt f d bs X.length).toList = isort key X
  | 0, bs, d, X, hbs, hd, hlt, hr, hf => by
    have := hr.first
    rw [List.take_of_length_le (by omega)] at this
    rw [ph3, hd, isort_of_srt this]
  | f + 1, bs, d, X, hbs, hd, hlt, hr, hf => by
    rw [ph3]
    split
    · obtain ⟨X', k1, k2, k3, k4⟩ := pass_list (key := key) lt bs hbs (X.length + 1) d [] X (by simpa using hd) hlt hr (by omega)
      simp only [List.length_nil, Nat.zero_add, List.nil_append] at k1
      have := ph3_list lt f (2 * bs) _ X' (by omega) k1 (fun x hx y hy => hlt x ((k2.mem x).1 hx) y ((k2.mem y).1 hy)) k4 (by omega)
      rw [k3] at this
      rw [this]
      exact isort_eq (isort_srt _) (k2.trans (isort_same _))
    · have := hr.first
      rw [List.take_of_length_le (by omega)] at this
      rw [hd, isort_of_srt this]

theorem stableM_list (lt : α → α → Bool) (d : Array α) (hlt : ∀ x ∈ d.toList, ∀ y ∈ d.toList, lt x y = decide (key x < key y)) : (stableM lt d).toList = isort key d.toList := by
  unfold stableM
  obtain ⟨X', k1, k2, k3, k4⟩ := ph1_list (key := key) lt (d.size + 1) d [] d.toList rfl hlt (by simp)
  simp only [List.length_nil, Nat.zero_add, List.nil_append, Array.length_toList] at k1 k3
  have := ph3_list (key := key) lt (d.size + 1) 20 _ X' (by omega) k1 (fun x hx y hy => hlt x ((k2.mem x).1 hx) y ((k2.mem y).1 hy)) k4 (by omega)
  rw [k3] at this
  rw [this]
  exact isort_eq (isort_srt _) (k2.trans (isort_same _))
end Go.Proofs.YtledkbgjjmdflaaDoor.Stab
