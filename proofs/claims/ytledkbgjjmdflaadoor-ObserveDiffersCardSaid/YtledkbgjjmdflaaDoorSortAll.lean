/- The stable sort of any number of differences: what it leaves; and that the differences, sorted by their first place, are those that the reference lists. -/
import Derived.Test.YtledkbgjjmdflaaDoorSymB
import Derived.Test.YtledkbgjjmdflaaDoorDiffer
namespace Go.Proofs.YtledkbgjjmdflaaDoor.Obs
open Go Go.RowKit Go.Proofs Go.Shelf Go.Sort

theorem size_ph1 (lt : Dif → Dif → Bool) : ∀ (f : Nat) (d : Array Dif) (a n : Nat), (Stab.ph1 lt f d a n).size = d.size
  | 0, _, _, _ => rfl
  | f + 1, d, a, n => by
    rw [Stab.ph1]
    split
    · rw [size_ph1 lt f, size_insertion]
    · rw [size_insertion]
theorem size_pass (lt : Dif → Dif → Bool) (bs : Nat) : ∀ (f : Nat) (d : Array Dif) (a n : Nat), (Stab.pass lt bs f d a n).size = d.size
  | 0, _, _, _ => rfl
  | f + 1, d, a, n => by
    rw [Stab.pass]
    split
    · rw [size_pass lt bs f, size_symM]
    · split
      · rw [size_symM]
      · rfl
theorem size_ph3 (lt : Dif → Dif → Bool) : ∀ (f : Nat) (d : Array Dif) (bs n : Nat), (Stab.ph3 lt f d bs n).size = d.size
  | 0, _, _, _ => rfl
  | f + 1, d, bs, n => by
    rw [Stab.ph3]
    split
    · rw [size_ph3 lt f, size_pass]
    · rfl
theorem size_stableM (lt : Dif → Dif → Bool) (d : Array Dif) : (Stab.stableM lt d).size = d.size := by rw [Stab.stableM, size_ph3, size_ph1]

set_option maxHeartbeats 400000 in
theorem sorts_all : SortsTo (fun d => Stab.stableM (ltOf cfD) d) 1000000 := by
  intro blk cap n d w hn hH hblk hM
  have hc := stable_all sym_does blk cap d w hH hblk (by omega)
  rw [← hn] at hc
  have HC := Lib.hid hc
  clear hc hH hn
  dsimp only
  generalize Stab.stableM (ltOf cfD) d = r at HC ⊢
  go_enter Tryd.func17, Tryd.ntmps17
  go_wp2_with (go_at_call 31; refine HC.out.mono ?_; rintro e w' ⟨rfl, q, os, hw'⟩; have HW := Lib.hid hw'; clear hw')
  go_end0
  exact ⟨rfl, q, os, HW.out⟩

/-- The row i of the reference: the differences of i and the places behind it, below m. -/
def rrow (l : List Beh) (i m : Nat) : List Dif := (List.range m).filterMap fun k => if i < k then difOf l i k else none
def refs (l : List Beh) (n m : Nat) : List Dif := (List.range m).flatMap fun i => rrow l i n
theorem rrow_succ (l : List Beh) (i m : Nat) (h : i < m) : rrow l i (m + 1) = rrow l i m ++ (difOf l i m).toList := by
  unfold rrow
  rw [List.range_succ, List.filterMap_append]
  cases h2 : difOf l i m <;> simp [h, h2]
theorem rrow_start (l : List Beh) (i : Nat) : rrow l i (i + 1) = [] := by
  unfold rrow
  rw [List.filterMap_eq_nil_iff]
  intro k hk
  rw [if_neg (by simp at hk; omega)]
theorem refs_succ (l : List Beh) (n m : Nat) : refs l n (m + 1) = refs l n m ++ rrow l m n := by
  unfold refs
  rw [List.range_succ, List.flatMap_append]
  simp
theorem rrow_le (l : List Beh) (i m : Nat) : (rrow l i m).length ≤ m := by
  have := List.length_filterMap_le (fun k => if i < k then difOf l i k else none) (List.range m)
  simpa [rrow] using this
theorem refs_le (l : List Beh) (n m : Nat) : (refs l n m).length ≤ m * n := by
  induction m with
  | zero => simp [refs]
  | succ m ih =>
    rw [refs_succ, List.length_append]
    have := rrow_le l m n
    have : (m + 1) * n = m * n + n := by rw [Nat.add_mul]; omega
    omega

def keyD (x : Dif) : Int := x.1
theorem difOf_key {l : List Beh} {k i : Nat} {x : Dif} (h : difOf l k i = some x) : x.1 = (k : Int) := by
  unfold difOf at h
  simp only at h
  split at h
  · simp only [Option.some.injEq] at h
    rw [← h]
  · simp at h
theorem rrow_key {l : List Beh} {i n : Nat} {x : Dif} (h : x ∈ rrow l i n) : x.1 = (i : Int) := by
  unfold rrow at h
  obtain ⟨k, _, hk⟩ := List.mem_filterMap.1 h
  split at hk
  · exact difOf_key hk
  · simp at hk
theorem refs_key {l : List Beh} {n m : Nat} {x : Dif} (h : x ∈ refs l n m) : 0 ≤ x.1 ∧ x.1 < m := by
  unfold refs at h
  obtain ⟨i, hi, hx⟩ := List.mem_flatMap.1 h
  have := rrow_key hx
  simp at hi
  omega
theorem refs_srt (l : List Beh) (n m : Nat) : Stab.Srt keyD (refs l n m) := by
  induction m with
  | zero => exact List.Pairwise.nil
  | succ m ih =>
    rw [refs_succ]
    refine Stab.Srt.append ih ?_ ?_
    · refine List.Pairwise.imp_of_mem (R := fun _ _ => True) (fun {a b} ha hb _ => ?_) (List.pairwise_of_forall (fun _ _ => trivial))
      show a.1 ≤ b.1
      rw [rrow_key ha, rrow_key hb]
      exact Int.le_refl _
    · intro x hx y hy
      show x.1 ≤ y.1
      rw [rrow_key hy]
      have := refs_key hx
      omega
theorem difs_key {l : List Beh} {m : Nat} {x : Dif} (h : x ∈ difs l m) : 0 ≤ x.1 ∧ x.1 < m := by
  unfold difs difsRow at h
  obtain ⟨i, hi, hx⟩ := List.mem_flatMap.1 h
  obtain ⟨k, hk, hx⟩ := List.mem_filterMap.1 hx
  have := difOf_key hx
  simp at hi hk
  omega
theorem row_filter (l : List Beh) (i m : Nat) (v : Int) : (difsRow l i m).filter (fun x => keyD x == v) = if 0 ≤ v ∧ v < m then (difOf l v.toNat i).toList else [] := by
  induction m with
  | zero => rw [if_neg (by omega)]; rfl
  | succ m ih =>
    rw [difsRow_succ, List.filter_append, ih]
    by_cases hv : v = (m : Int)
    · subst hv
      rw [if_neg (by omega), if_pos (by omega), List.nil_append]
      cases h : difOf l m i with
      | none => simp [h]
      | some x => simp [h, keyD, difOf_key h]
    · have e : (difOf l m i).toList.filter (fun x => keyD x == v) = [] := by
        cases h : difOf l m i with
        | none => rfl
        | some x => simp [keyD, difOf_key h]; omega
      rw [e, List.append_nil]
      by_cases h2 : 0 ≤ v ∧ v < m
      · rw [if_pos h2, if_pos (by omega)]
      · rw [if_neg h2, if_neg (by omega)]
theorem difs_filter (l : List Beh) (m : Nat) (v : Int) : (difs l m).filter (fun x => keyD x == v) = if 0 ≤ v ∧ v < m then rrow l v.toNat m else [] := by
  induction m with
  | zero => rw [if_neg (by omega)]; rfl
  | succ m ih =>
    rw [difs_succ, List.filter_append, ih, row_filter]
    by_cases h2 : 0 ≤ v ∧ v < m
    · rw [if_pos h2, if_pos h2, if_pos (by omega), rrow_succ _ _ _ (by omega)]
    · rw [if_neg h2, if_neg h2]
      by_cases h3 : 0 ≤ v ∧ v < (m + 1 : Nat)
      · rw [if_pos h3]
        have : v.toNat = m := by omega
        rw [this, rrow_start]
        rfl
      · rw [if_neg h3]
        rfl
theorem refs_filter (l : List Beh) (n m : Nat) (v : Int) : (refs l n m).filter (fun x => keyD x == v) = if 0 ≤ v ∧ v < m then rrow l v.toNat n else [] := by
  induction m with
  | zero => rw [if_neg (by omega)]; rfl
  | succ m ih =>
    rw [refs_succ, List.filter_append, ih]
    by_cases hv : v = (m : Int)
    · subst hv
      rw [if_neg (by omega), if_pos (by omega), List.nil_append]
      simp only [Int.toNat_natCast]
      rw [List.filter_eq_self]
      intro x hx
      simp [keyD, rrow_key hx]
    · have e : (rrow l m n).filter (fun x => keyD x == v) = [] := by
        rw [List.filter_eq_nil_iff]
        intro x hx
        simp [keyD, rrow_key hx]
        omega
      rw [e, List.append_nil]
      by_cases h2 : 0 ≤ v ∧ v < m
      · rw [if_pos h2, if_pos (by omega)]
      · rw [if_neg h2, if_neg (by omega)]
theorem difs_same (l : List Beh) (n : Nat) : Stab.Same keyD (difs l n) (refs l n n) := fun v => by rw [difs_filter, refs_filter]
theorem sorted_refs (l : List Beh) (n : Nat) (hn : n ≤ 1000) : Stab.stableM (ltOf cfD) (difs l n).toArray = (refs l n n).toArray := by
  have h := Stab.stableM_list (key := keyD) (ltOf cfD) (difs l n).toArray (by
    intro x hx y hy
    have h1 := difs_key (show x ∈ difs l n from hx)
    have h2 := difs_key (show y ∈ difs l n from hy)
    unfold ltOf cfD keyD
    have e : wrap64 (x.1 - y.1) = x.1 - y.1 := by unfold wrap64; omega
    rw [e]
    exact decide_eq_decide.2 (by omega))
  rw [← Stab.isort_eq (refs_srt l n n) (difs_same l n)] at h
  exact Array.toList_inj.1 (by rw [h])
end Go.Proofs.YtledkbgjjmdflaaDoor.Obs
