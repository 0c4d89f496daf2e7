/- Stable sorting by a key, over lists: what is sorted and keeps, for each key, the elements of that key in their order is one list alone; rotations and merges. No program in sight. -/
namespace Go.Proofs.YtledkbgjjmdflaaDoor.Stab
variable {α : Type} (key : α → Int)

def Srt (l : List α) : Prop := l.Pairwise fun x y => key x ≤ key y
/-- For each key the elements of that key, in their order. -/
def Same (l l' : List α) : Prop := ∀ v : Int, l'.filter (fun x => key x == v) = l.filter (fun x => key x == v)
variable {key}
theorem Same.refl (l : List α) : Same key l l := fun _ => rfl
theorem Same.trans {a b c : List α} (h : Same key a b) (k : Same key b c) : Same key a c := fun v => (k v).trans (h v)
theorem Same.symm {a b : List α} (h : Same key a b) : Same key b a := fun v => (h v).symm
theorem Same.append {a b c d : List α} (h : Same key a b) (k : Same key c d) : Same key (a ++ c) (b ++ d) := fun v => by
  rw [List.filter_append, List.filter_append, h v, k v]
theorem Same.mem {a b : List α} (h : Same key a b) (x : α) : x ∈ b ↔ x ∈ a := by
  have e := h (key x)
  constructor
  · intro hx
    have : x ∈ b.filter (fun y => key y == key x) := List.mem_filter.2 ⟨hx, by simp⟩
    rw [e] at this
    exact (List.mem_filter.1 this).1
  · intro hx
    have : x ∈ a.filter (fun y => key y == key x) := List.mem_filter.2 ⟨hx, by simp⟩
    rw [← e] at this
    exact (List.mem_filter.1 this).1
/-- Two blocks whose keys differ may change places. -/
theorem Same.swap {x y : List α} (h : ∀ a ∈ x, ∀ b ∈ y, key a ≠ key b) : Same key (x ++ y) (y ++ x) := fun v => by
  rw [List.filter_append, List.filter_append]
  by_cases hx : x.filter (fun a => key a == v) = []
  · rw [hx]; simp
  · have : y.filter (fun a => key a == v) = [] := by
      rw [List.filter_eq_nil_iff]
      intro b hb hbv
      apply hx
      rw [List.filter_eq_nil_iff]
      intro a ha hav
      simp only [beq_iff_eq] at hav hbv
      exact h a ha b hb (hav.trans hbv.symm)
    rw [this]; simp
theorem Same.nil {l : List α} (h : Same key [] l) : l = [] := by
  cases l with
  | nil => rfl
  | cons x t => exact absurd ((h.mem x).1 (by simp)) (by simp)
/-- Sorted, and for each key the same: the same list. -/
theorem Same.unique : ∀ {a b : List α}, Srt key a → Srt key b → Same key a b → a = b
  | [], b, _, _, h => (Same.nil h).symm
  | x :: a, [], _, _, h => absurd ((h.mem x).2 (by simp)) (by simp)
  | x :: a, y :: b, ha, hb, h => by
    have hx : x ∈ y :: b := (h.mem x).2 (by simp)
    have hy : y ∈ x :: a := (h.mem y).1 (by simp)
    have k1 : key y ≤ key x := by
      rcases List.mem_cons.1 hx with rfl | hx
      · exact Int.le_refl _
      · exact List.rel_of_pairwise_cons hb hx
    have k2 : key x ≤ key y := by
      rcases List.mem_cons.1 hy with rfl | hy
      · exact Int.le_refl _
      · exact List.rel_of_pairwise_cons ha hy
    have k : key x = key y := Int.le_antisymm k2 k1
    have e := h (key x)
    rw [List.filter_cons_of_pos (by simp [k]), List.filter_cons_of_pos (by simp)] at e
    obtain ⟨rfl, -⟩ := List.cons.inj e
    have := Same.unique (List.Pairwise.of_cons ha) (List.Pairwise.of_cons hb) (fun v => by
      have e := h v
      by_cases hv : key y = v
      · rw [List.filter_cons_of_pos (by simp [hv]), List.filter_cons_of_pos (by simp [hv])] at e
        exact (List.cons.inj e).2
      · rw [List.filter_cons_of_neg (by simpa using hv), List.filter_cons_of_neg (by simpa using hv)] at e
        exact e)
    rw [this]
theorem Srt.append {a b : List α} (ha : Srt key a) (hb : Srt key b) (h : ∀ x ∈ a, ∀ y ∈ b, key x ≤ key y) : Srt key (a ++ b) :=
  List.pairwise_append.2 ⟨ha, hb, h⟩
theorem Srt.left {a b : List α} (h : Srt key (a ++ b)) : Srt key a := (List.pairwise_append.1 h).1
theorem Srt.right {a b : List α} (h : Srt key (a ++ b)) : Srt key b := (List.pairwise_append.1 h).2.1
theorem Srt.cross {a b : List α} (h : Srt key (a ++ b)) : ∀ x ∈ a, ∀ y ∈ b, key x ≤ key y := (List.pairwise_append.1 h).2.2

variable (key)
/-- x before the first element whose key is not below its own. -/
def ins (x : α) : List α → List α
  | [] => [x]
  | y :: l => if key x ≤ key y then x :: y :: l else y :: ins x l
def isort : List α → List α
  | [] => []
  | x :: l => ins key x (isort l)
variable {key}
theorem ins_mem (x : α) (l : List α) (z : α) : z ∈ ins key x l ↔ z = x ∨ z ∈ l := by
  induction l with
  | nil => simp [ins]
  | cons y l ih =>
    unfold ins
    split
    · simp
    · rw [List.mem_cons, ih, List.mem_cons]
      constructor
      · rintro (h | h | h) <;> simp [h]
      · rintro (h | h | h) <;> simp [h]
theorem ins_srt (x : α) (l : List α) (h : Srt key l) : Srt key (ins key x l) := by
  induction l with
  | nil => simp [ins, Srt]
  | cons y l ih =>
    unfold ins
    split
    · rename_i hxy
      refine List.Pairwise.cons (fun z hz => ?_) h
      rcases List.mem_cons.1 hz with rfl | hz
      · exact hxy
      · exact Int.le_trans hxy (List.rel_of_pairwise_cons h hz)
    · rename_i hxy
      refine List.Pairwise.cons (fun z hz => ?_) (ih (List.Pairwise.of_cons h))
      rcases (ins_mem x l z).1 hz with rfl | hz
      · omega
      · exact List.rel_of_pairwise_cons h hz
theorem ins_same (x : α) (l : List α) : Same key (x :: l) (ins key x l) := by
  induction l with
  | nil => exact Same.refl _
  | cons y l ih =>
    unfold ins
    split
    · exact Same.refl _
    · rename_i hxy
      have h1 : Same key ([x] ++ [y]) ([y] ++ [x]) := Same.swap (by intro a ha b hb; simp at ha hb; subst ha hb; omega)
      have h2 : Same key (x :: y :: l) (y :: x :: l) := Same.append (c := l) (d := l) h1 (Same.refl l)
      exact h2.trans (Same.append (a := [y]) (b := [y]) (Same.refl _) ih)
theorem isort_srt (l : List α) : Srt key (isort key l) := by
  induction l with
  | nil => exact List.Pairwise.nil
  | cons x l ih => exact ins_srt x _ ih
theorem isort_same (l : List α) : Same key l (isort key l) := by
  induction l with
  | nil => exact Same.refl _
  | cons x l ih => exact (Same.append (a := [x]) (b := [x]) (Same.refl _) ih).trans (ins_same x _)
theorem isort_eq {l z : List α} (hs : Srt key z) (h : Same key l z) : z = isort key l := (Same.unique (isort_srt l) hs ((isort_same l).symm.trans h)).symm
theorem isort_length (l : List α) : (isort key l).length = l.length := by
  have hi : ∀ (x : α) (l : List α), (ins key x l).length = l.length + 1 := by
    intro x l
    induction l with
    | nil => rfl
    | cons y l ih => unfold ins; split <;> simp [ih]
  induction l with
  | nil => rfl
  | cons x l ih => rw [isort, hi, ih]; rfl
theorem isort_append (a b : List α) : isort key (isort key a ++ isort key b) = isort key (a ++ b) :=
  isort_eq (isort_srt _) ((Same.append (isort_same a) (isort_same b)).trans (isort_same _))
end Go.Proofs.YtledkbgjjmdflaaDoor.Stab
