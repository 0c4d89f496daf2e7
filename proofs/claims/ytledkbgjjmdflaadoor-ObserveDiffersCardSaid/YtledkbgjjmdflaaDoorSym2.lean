/- Slides of one element, and the merge by rotations (SymMerge), over arrays and lists. No program in sight. -/
import Derived.Test.YtledkbgjjmdflaaDoorSym
import Derived.Test.YtledkbgjjmdflaaDoorStab
namespace Go.Proofs.YtledkbgjjmdflaaDoor.Stab
open Go.Sort
variable {α : Type} [Inhabited α]

/-- for k up: exchange k and k+1, n times. -/
def slideUp : Array α → Nat → Nat → Array α
  | d, _, 0 => d
  | d, k, n + 1 => slideUp (swp d k (k + 1)) (k + 1) n
/-- for k down: exchange k and k-1, n times. -/
def slideDown : Array α → Nat → Nat → Array α
  | d, _, 0 => d
  | d, k, n + 1 => slideDown (swp d k (k - 1)) (k - 1) n
theorem swp_comm_ne (d : Array α) (i j : Nat) (hi : i < d.size) (hj : j < d.size) (h : i ≠ j) : swp d i j = swp d j i := by
  unfold swp
  apply Array.ext_getElem?
  intro k
  rw [Array.getElem?_setIfInBounds, Array.getElem?_setIfInBounds, Array.getElem?_setIfInBounds, Array.getElem?_setIfInBounds]
  by_cases e1 : i = k
  · subst e1
    rw [if_neg (fun e => h e.symm), if_pos rfl, if_pos rfl]
    simp [hi]
  · rw [if_neg e1]
    by_cases e2 : j = k
    · subst e2
      rw [if_pos rfl, if_neg e1, if_pos rfl]
      simp [hj]
    · rw [if_neg e2, if_neg e2, if_neg e1]
theorem slideUp_list : ∀ (Z P S : List α) (d : Array α) (x : α), d.toList = P ++ x :: (Z ++ S) → (slideUp d P.length Z.length).toList = P ++ (Z ++ x :: S)
  | [], P, S, d, x, h => by simpa [slideUp] using h
  | z :: Z, P, S, d, x, h => by
    have h1 := swp_list (P := P) (M := []) (x := x) (y := z) (S := Z ++ S) (by simpa using h)
    simp only [List.length_nil, Nat.add_zero, List.nil_append] at h1
    have h2 := slideUp_list Z (P ++ [z]) S (swp d P.length (P.length + 1)) x (by rw [h1]; simp only [List.append_assoc, List.cons_append, List.nil_append])
    rw [List.length_append, List.length_singleton] at h2
    rw [List.length_cons, slideUp, h2]
    simp only [List.append_assoc, List.cons_append, List.nil_append]
theorem slideDown_list : ∀ (Z P S : List α) (d : Array α) (x : α), d.toList = P ++ (Z.reverse ++ x :: S) → (slideDown d (P.length + Z.length) Z.length).toList = P ++ x :: (Z.reverse ++ S)
  | [], P, S, d, x, h => by simpa [slideDown] using h
  | z :: Z, P, S, d, x, h => by
    have hd : d.toList = (P ++ Z.reverse) ++ z :: ([] ++ x :: S) := by rw [h]; simp only [List.reverse_cons, List.append_assoc, List.cons_append, List.nil_append]
    have h1 := swp_list hd
    simp only [List.length_append, List.length_reverse, List.length_nil, Nat.add_zero, List.nil_append] at h1
    have hs : d.size = P.length + Z.length + 2 + S.length := by
      rw [← Array.length_toList, hd]; simp; omega
    have h2 := slideDown_list Z P (z :: S) (swp d (P.length + Z.length + 1) (P.length + Z.length)) x (by
      rw [swp_comm_ne _ _ _ (by omega) (by omega) (by omega), h1]
      simp only [List.append_assoc])
    rw [List.length_cons, slideDown, show P.length + (Z.length + 1) = P.length + Z.length + 1 by omega, Nat.add_sub_cancel, h2]
    simp only [List.reverse_cons, List.append_assoc, List.cons_append, List.nil_append]

/-- Go's symMerge, f calls deep at most. -/
def symM (lt : α → α → Bool) : Nat → Array α → Nat → Nat → Nat → Array α
  | 0, d, _, _, _ => d
  | f + 1, d, a, m, b =>
    if m - a = 1 then slideUp d a (bsr (b - m) (fun h => lt d[h]! d[a]!) m b - 1 - a)
    else if b - m = 1 then slideDown d m (m - bsr (m - a) (fun h => !lt d[m]! d[h]!) a m)
    else
      let mid := (a + b) / 2
      let s0 := if mid < m then mid + m - b else a
      let r0 := if mid < m then mid else m
      let st := bsr (r0 - s0) (fun c => !lt d[mid + m - 1 - c]! d[c]!) s0 r0
      let en := mid + m - st
      let d1 := if st < m ∧ m < en then rotN (en - st) d m (m - st) (en - m) else d
      let d2 := if a < st ∧ st < mid then symM lt f d1 a st mid else d1
      if mid < en ∧ en < b then symM lt f d2 mid en b else d2
end Go.Proofs.YtledkbgjjmdflaaDoor.Stab
