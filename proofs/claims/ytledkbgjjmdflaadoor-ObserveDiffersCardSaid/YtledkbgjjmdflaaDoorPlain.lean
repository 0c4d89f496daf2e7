/- The texts of behaviours, as plain lists of bytes: when two of them are equal. -/
import Derived.Lib.ItoaNum
import Derived.Lib.ItoaLen
namespace Go.Proofs.YtledkbgjjmdflaaDoor.Obs
open Go Go.Lib

/-- No digit list holds a blank; each byte lies from 48 to 57. -/
theorem decDigits_mem (u : Nat) : ∀ c ∈ decDigits u, 48 ≤ c.toNat ∧ c.toNat ≤ 57 := by
  induction u using Nat.strongRecOn with
  | _ u ih =>
    intro c hc
    by_cases h : u < 10
    · rw [decDigits, dif_pos h] at hc
      simp only [List.mem_singleton] at hc
      subst hc
      simp only [UInt8.toNat_ofNat']
      omega
    · rw [decDigits, dif_neg h, List.mem_append] at hc
      rcases hc with hc | hc
      · exact ih (u / 10) (by omega) c hc
      · simp only [List.mem_singleton] at hc
        subst hc
        simp only [UInt8.toNat_ofNat']
        omega
theorem decDigits_ne (u : Nat) : decDigits u ≠ [] := by
  by_cases h : u < 10
  · rw [decDigits, dif_pos h]; simp
  · rw [decDigits, dif_neg h]; simp
/-- What the digits say. -/
def valOf (l : List UInt8) : Nat := l.foldl (fun a c => a * 10 + (c.toNat - 48)) 0
theorem valOf_snoc (l : List UInt8) (c : UInt8) : valOf (l ++ [c]) = valOf l * 10 + (c.toNat - 48) := by simp [valOf]
theorem valOf_decDigits (u : Nat) : valOf (decDigits u) = u := by
  induction u using Nat.strongRecOn with
  | _ u ih =>
    by_cases h : u < 10
    · rw [decDigits, dif_pos h]
      simp only [valOf, List.foldl_cons, List.foldl_nil, UInt8.toNat_ofNat']
      omega
    · rw [decDigits, dif_neg h, valOf_snoc, ih (u / 10) (by omega)]
      simp only [UInt8.toNat_ofNat']
      omega
theorem decDigits_inj {u v : Nat} (h : decDigits u = decDigits v) : u = v := by
  rw [← valOf_decDigits u, ← valOf_decDigits v, h]

theorem itoa_mem (n : Int) : ∀ c ∈ itoa n, c.toNat = 45 ∨ (48 ≤ c.toNat ∧ c.toNat ≤ 57) := by
  intro c hc
  unfold itoa at hc
  split at hc
  · rcases List.mem_cons.1 hc with rfl | hc
    · exact .inl rfl
    · exact .inr (decDigits_mem _ c hc)
  · exact .inr (decDigits_mem _ c hc)
theorem itoa_ne (n : Int) : itoa n ≠ [] := by
  unfold itoa
  split
  · simp
  · exact decDigits_ne _
theorem itoa_inj {m n : Int} (h : itoa m = itoa n) : m = n := by
  unfold itoa at h
  have hd : ∀ (u v : Nat), 45 :: decDigits u ≠ decDigits v := by
    intro u v e
    have := decDigits_mem v 45 (by rw [← e]; simp)
    have : (45 : UInt8).toNat = 45 := rfl
    omega
  split at h <;> split at h
  · have := decDigits_inj (List.cons.inj h).2; omega
  · exact absurd h (hd _ _)
  · exact absurd h.symm (hd _ _)
  · have := decDigits_inj h; omega

/-- Two lists without a blank, each with a blank behind it. -/
theorem cut_at_blank {a b r s : List UInt8} (ha : ∀ c ∈ a, c ≠ 32) (hb : ∀ c ∈ b, c ≠ 32) (h : a ++ 32 :: r = b ++ 32 :: s) : a = b ∧ r = s := by
  induction a generalizing b with
  | nil =>
    cases b with
    | nil => exact ⟨rfl, (List.cons.inj h).2⟩
    | cons y b => exact absurd (List.cons.inj h).1.symm (hb y (by simp))
  | cons x a ih =>
    cases b with
    | nil => exact absurd (List.cons.inj h).1 (ha x (by simp))
    | cons y b =>
      obtain ⟨h1, h2⟩ := List.cons.inj h
      obtain ⟨h3, h4⟩ := ih (fun c hc => ha c (by simp [hc])) (fun c hc => hb c (by simp [hc])) h2
      exact ⟨by rw [h1, h3], h4⟩
theorem itoa_no32 (n : Int) : ∀ c ∈ itoa n, c ≠ 32 := by
  intro c hc e
  subst e
  have : (32 : UInt8).toNat = 32 := rfl
  rcases itoa_mem n 32 hc with h | h <;> omega

/-- What is printed, each number with a blank behind it. -/
def outText : List Int → List UInt8
  | [] => []
  | v :: r => itoa v ++ 32 :: outText r
theorem outText_snoc (l : List Int) (v : Int) : outText (l ++ [v]) = outText l ++ (itoa v ++ [32]) := by
  induction l with
  | nil => simp [outText]
  | cons x l ih => simp [outText, ih]
theorem outText_length (l : List Int) (hl : ∀ v ∈ l, -9223372036854775808 ≤ v ∧ v ≤ 9223372036854775807) : (outText l).length ≤ l.length * 22 := by
  induction l with
  | nil => simp [outText]
  | cons x l ih =>
    have h1 := hl x (by simp)
    have := Lib.itoa_length_le x h1.1 h1.2
    have := ih (fun v hv => hl v (by simp [hv]))
    simp only [outText, List.length_append, List.length_cons]
    omega

def doneT : List UInt8 := [100, 111, 110, 101]
def trapT : List UInt8 := [116, 114, 97, 112, 32]
def undefT : List UInt8 := [117, 110, 100, 101, 102, 105, 110, 101, 100, 32]
def cutT : List UInt8 := [99, 117, 116]
def endT : List UInt8 := [101, 110, 100, 32]
def tailOf (e c : Int) : List UInt8 :=
  if e = 1 then doneT else if e = 2 then trapT ++ itoa c else if e = 3 then undefT ++ itoa c else if e = 4 then cutT else endT ++ (itoa e ++ 32 :: itoa c)
def textOf (l : List Int) (e c : Int) : List UInt8 := outText l ++ tailOf e c

/-- The behaviours that have an end that there is. -/
def Usual (e c : Int) : Prop := (e = 1 ∧ c = 0) ∨ e = 2 ∨ e = 3 ∨ (e = 4 ∧ c = 0)
theorem tail_head {e c : Int} (_h : Usual e c) : ∃ x r, tailOf e c = x :: r ∧ 97 ≤ x.toNat := by
  unfold tailOf
  split
  · exact ⟨_, _, rfl, by decide⟩
  split
  · exact ⟨_, _, rfl, by decide⟩
  split
  · exact ⟨_, _, rfl, by decide⟩
  split
  · exact ⟨_, _, rfl, by decide⟩
  · exact ⟨_, _, rfl, by decide⟩
theorem tail_inj {e c e' c' : Int} (h : Usual e c) (h' : Usual e' c') (ht : tailOf e c = tailOf e' c') : e = e' ∧ c = c' := by
  rcases h with ⟨rfl, rfl⟩ | rfl | rfl | ⟨rfl, rfl⟩ <;> rcases h' with ⟨rfl, rfl⟩ | rfl | rfl | ⟨rfl, rfl⟩ <;>
    simp [tailOf, doneT, trapT, undefT, cutT] at ht ⊢ <;> exact itoa_inj ht
theorem itoa_head (n : Int) : ∃ x r, itoa n = x :: r ∧ x.toNat ≤ 57 := by
  cases hn : itoa n with
  | nil => exact absurd hn (itoa_ne n)
  | cons x r =>
    refine ⟨x, r, rfl, ?_⟩
    rcases itoa_mem n x (by rw [hn]; simp) with h | h <;> omega
theorem text_inj {l l' : List Int} {e c e' c' : Int} (h : Usual e c) (h' : Usual e' c') (ht : textOf l e c = textOf l' e' c') : l = l' ∧ e = e' ∧ c = c' := by
  induction l generalizing l' with
  | nil =>
    cases l' with
    | nil => exact ⟨rfl, tail_inj h h' (by simpa [textOf, outText] using ht)⟩
    | cons v l' =>
      exfalso
      obtain ⟨x, r, hx, hx1⟩ := tail_head h
      obtain ⟨y, s, hy, hy1⟩ := itoa_head v
      simp only [textOf, outText, hx, hy, List.nil_append, List.cons_append] at ht
      have := (List.cons.inj ht).1
      subst this
      omega
  | cons v l ih =>
    cases l' with
    | nil =>
      exfalso
      obtain ⟨x, r, hx, hx1⟩ := tail_head h'
      obtain ⟨y, s, hy, hy1⟩ := itoa_head v
      simp only [textOf, outText, hx, hy, List.nil_append, List.cons_append] at ht
      have := (List.cons.inj ht).1
      subst this
      omega
    | cons v' l' =>
      simp only [textOf, outText, List.append_assoc, List.cons_append] at ht
      obtain ⟨h1, h2⟩ := cut_at_blank (itoa_no32 v) (itoa_no32 v') ht
      obtain ⟨h3, h4, h5⟩ := ih (l' := l') (by simpa [textOf] using h2)
      exact ⟨by rw [itoa_inj h1, h3], h4, h5⟩
end Go.Proofs.YtledkbgjjmdflaaDoor.Obs
