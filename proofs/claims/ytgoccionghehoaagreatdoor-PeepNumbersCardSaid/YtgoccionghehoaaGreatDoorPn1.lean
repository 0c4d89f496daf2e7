/- The plain law of the fourteen operations on 64 bits: what the rules of the pass use. The sixteen rules as plain functions: when they can be applied, to what, and that the value stays. Each rule keeps the value. Powers of two; a rule's application, whichever it is. The two operations together: each application keeps what they come to, and there are few. What the loops come to. -/
import Derived.Calls
import Derived.Laws.BitsLemmas
set_option linter.unusedSimpArgs false
set_option linter.unusedVariables false
set_option linter.unusedSectionVars false
namespace Go.Proofs.YtgoccionghehoaaGreatDoor.Pn
open Go

def W (n : Int) : Int := IntKind.i64.wrap n
def B (n : Int) : BitVec 64 := BitVec.ofInt 64 n
def R (n : Int) : Prop := -9223372036854775808 ≤ n ∧ n ≤ 9223372036854775807
theorem W_def (n : Int) : W n = (n + 9223372036854775808) % 18446744073709551616 - 9223372036854775808 := IntKind.wrap_i64 n
theorem W_R (n : Int) : R (W n) := by rw [R, W_def]; omega
theorem W_of {n : Int} (h : R n) : W n = n := by rw [W_def]; rw [R] at h; omega
theorem toInt_B (n : Int) : (B n).toInt = W n := by
  rw [W_def, B, BitVec.toInt_ofInt, Int.bmod_def]
  have : ((2 ^ 64 : Nat) : Int) = 18446744073709551616 := by decide
  rw [this]
  split <;> omega
theorem B_W (n : Int) : B (W n) = B n := by
  apply BitVec.eq_of_toInt_eq
  rw [toInt_B, toInt_B, W_of (W_R n)]
theorem B_inj {a b : Int} (ha : R a) (hb : R b) (h : B a = B b) : a = b := by
  have := congrArg BitVec.toInt h
  rwa [toInt_B, toInt_B, W_of ha, W_of hb] at this
theorem W_toNat (x : BitVec 64) : W (x.toNat : Int) = x.toInt := by
  rw [W_def, BitVec.toInt_eq_toNat_cond]
  have := x.isLt
  split <;> omega
theorem B_toInt (x : BitVec 64) : B x.toInt = x := by
  apply BitVec.eq_of_toInt_eq
  rw [toInt_B]
  apply W_of
  have h1 := BitVec.toInt_lt (x := x)
  have h2 := BitVec.le_toInt (x := x)
  rw [R]
  omega
theorem B_add (a b : Int) : B (a + b) = B a + B b := by rw [B, B, B, BitVec.ofInt_add]
theorem B_neg (a : Int) : B (-a) = - B a := by rw [B, B, BitVec.ofInt_neg]
theorem B_sub (a b : Int) : B (a - b) = B a - B b := by rw [Int.sub_eq_add_neg, B_add, B_neg, BitVec.sub_eq_add_neg]
theorem B_mul (a b : Int) : B (a * b) = B a * B b := by rw [B, B, B, BitVec.ofInt_mul]
theorem B_W' {a b : Int} (h : B a = B b) : W a = W b := by rw [← toInt_B, ← toInt_B, h]

def T (b : Bool) : Int := if b then 1 else 0
def sh (b : Int) : Nat := (b % 64).toNat
/-- What an operation comes to; none: a trap. -/
def bin (k a b : Int) : Option Int :=
  if k = 1 then some (W (a + b)) else if k = 2 then some (W (a - b)) else if k = 3 then some (W (a * b))
  else if k = 4 then (if b = 0 then none else if b = -1 then some (W (-a)) else some (W (a.tdiv b)))
  else if k = 5 then (if b = 0 then none else if b = -1 then some 0 else some (a.tmod b))
  else if k = 6 then some (B a &&& B b).toInt else if k = 7 then some (B a ||| B b).toInt else if k = 8 then some (B a ^^^ B b).toInt
  else if k = 9 then some (W (a * 2 ^ sh b)) else if k = 10 then some (a.fdiv (2 ^ sh b))
  else if k = 11 then some (T (a == b)) else if k = 12 then some (T (a != b)) else if k = 13 then some (T (decide (a < b))) else some (T (decide (a ≤ b)))
theorem bin1 (a b : Int) : bin 1 a b = some (W (a + b)) := rfl
theorem bin2 (a b : Int) : bin 2 a b = some (W (a - b)) := rfl
theorem bin3 (a b : Int) : bin 3 a b = some (W (a * b)) := rfl
theorem bin4 (a b : Int) : bin 4 a b = if b = 0 then none else if b = -1 then some (W (-a)) else some (W (a.tdiv b)) := rfl
theorem bin5 (a b : Int) : bin 5 a b = if b = 0 then none else if b = -1 then some 0 else some (a.tmod b) := rfl
theorem bin6 (a b : Int) : bin 6 a b = some (B a &&& B b).toInt := rfl
theorem bin7 (a b : Int) : bin 7 a b = some (B a ||| B b).toInt := rfl
theorem bin8 (a b : Int) : bin 8 a b = some (B a ^^^ B b).toInt := rfl
theorem bin9 (a b : Int) : bin 9 a b = some (W (a * 2 ^ sh b)) := rfl
theorem bin10 (a b : Int) : bin 10 a b = some (a.fdiv (2 ^ sh b)) := rfl
theorem bin11 (a b : Int) : bin 11 a b = some (T (a == b)) := rfl
theorem bin12 (a b : Int) : bin 12 a b = some (T (a != b)) := rfl
theorem bin13 (a b : Int) : bin 13 a b = some (T (decide (a < b))) := rfl
theorem bin14 (a b : Int) : bin 14 a b = some (T (decide (a ≤ b))) := rfl
theorem R_toInt (x : BitVec 64) : R x.toInt := by
  have h1 := BitVec.toInt_lt (x := x)
  have h2 := BitVec.le_toInt (x := x)
  rw [R]
  omega
theorem R_T (b : Bool) : R (T b) := by cases b <;> simp [T, R]
theorem sh_lt (b : Int) : sh b < 64 := by unfold sh; omega
theorem kinds {k : Int} (h1 : 1 ≤ k) (h2 : k ≤ 14) : k = 1 ∨ k = 2 ∨ k = 3 ∨ k = 4 ∨ k = 5 ∨ k = 6 ∨ k = 7 ∨ k = 8 ∨ k = 9 ∨ k = 10 ∨ k = 11 ∨ k = 12 ∨ k = 13 ∨ k = 14 := by omega
theorem bin_R {k a b v : Int} (h1 : 1 ≤ k) (h2 : k ≤ 14) (ha : R a) (h : bin k a b = some v) : R v := by
  rcases kinds h1 h2 with rfl | rfl | rfl | rfl | rfl | rfl | rfl | rfl | rfl | rfl | rfl | rfl | rfl | rfl
  · rw [bin1] at h; cases h; exact W_R _
  · rw [bin2] at h; cases h; exact W_R _
  · rw [bin3] at h; cases h; exact W_R _
  · rw [bin4] at h
    split at h
    · cases h
    · split at h
      · cases h; exact W_R _
      · cases h; exact W_R _
  · rw [bin5] at h
    split at h
    · cases h
    · split at h
      · cases h; rw [R]; omega
      · cases h
        have h1 := Int.natAbs_tmod a b
        have h2 : a.natAbs % b.natAbs ≤ a.natAbs := Nat.mod_le _ _
        rw [R] at ha ⊢
        rcases Int.lt_or_le a 0 with q | q
        · have : a.tmod b ≤ 0 := by
            have := Int.tmod_nonneg (a := -a) b (by omega)
            rw [Int.neg_tmod] at this
            omega
          omega
        · have := Int.tmod_nonneg (a := a) b q
          omega
  · rw [bin6] at h; cases h; exact R_toInt _
  · rw [bin7] at h; cases h; exact R_toInt _
  · rw [bin8] at h; cases h; exact R_toInt _
  · rw [bin9] at h; cases h; exact W_R _
  · rw [bin10] at h; cases h
    have h2 : (0 : Int) < 2 ^ sh b := Int.pow_pos (by decide)
    rw [Int.fdiv_eq_ediv_of_nonneg _ (by omega)]
    have h3 : (1 : Int) ≤ 2 ^ sh b := h2
    rw [R] at ha ⊢
    constructor
    · rcases Int.lt_or_le a 0 with q | q
      · have : a ≤ a / 2 ^ sh b := by
          apply Int.le_ediv_of_mul_le h2
          have := Int.mul_le_mul_of_nonpos_left (a := a) (b := 2 ^ sh b) (c := 1) (by omega) h3
          omega
        omega
      · have := Int.ediv_nonneg q (Int.le_of_lt h2)
        omega
    · rcases Int.lt_or_le a 0 with q | q
      · have := Int.ediv_neg_of_neg_of_pos q h2
        omega
      · have := Int.ediv_le_self (2 ^ sh b) q
        omega
  · rw [bin11] at h; cases h; exact R_T _
  · rw [bin12] at h; cases h; exact R_T _
  · rw [bin13] at h; cases h; exact R_T _
  · rw [bin14] at h; cases h; exact R_T _
theorem T_comm (a b : Int) : (a == b) = (b == a) := by
  rw [Bool.eq_iff_iff]; simp only [beq_iff_eq]; exact eq_comm
theorem T_comm' (a b : Int) : (a != b) = (b != a) := by simp only [bne, T_comm a b]
theorem bin_comm {k : Int} (h : k = 1 ∨ k = 3 ∨ k = 6 ∨ k = 7 ∨ k = 8 ∨ k = 11 ∨ k = 12) (a b : Int) : bin k a b = bin k b a := by
  rcases h with rfl | rfl | rfl | rfl | rfl | rfl | rfl
  · rw [bin1, bin1, Int.add_comm]
  · rw [bin3, bin3, Int.mul_comm]
  · rw [bin6, bin6, BitVec.and_comm]
  · rw [bin7, bin7, BitVec.or_comm]
  · rw [bin8, bin8, BitVec.xor_comm]
  · rw [bin11, bin11, T_comm]
  · rw [bin12, bin12, T_comm']
theorem B_0 : B 0 = 0#64 := rfl
theorem B_m1 : B (-1) = BitVec.allOnes 64 := by decide
theorem toInt_of {a : Int} (ha : R a) : (B a).toInt = a := by rw [toInt_B, W_of ha]
theorem kept_add {k a : Int} (h : k = 1 ∨ k = 2 ∨ k = 7 ∨ k = 8) (ha : R a) : bin k a 0 = some a := by
  rcases h with rfl | rfl | rfl | rfl
  · rw [bin1, Int.add_zero, W_of ha]
  · rw [bin2, Int.sub_zero, W_of ha]
  · rw [bin7, B_0, BitVec.or_zero, toInt_of ha]
  · rw [bin8, B_0, BitVec.xor_zero, toInt_of ha]
theorem kept_sh {k a c : Int} (h : k = 9 ∨ k = 10) (ha : R a) (hc : sh c = 0) : bin k a c = some a := by
  rcases h with rfl | rfl
  · rw [bin9, hc, Int.pow_zero, Int.mul_one, W_of ha]
  · rw [bin10, hc, Int.pow_zero, Int.fdiv_one]
theorem kept_one {k a : Int} (h : k = 3 ∨ k = 4) (ha : R a) : bin k a 1 = some a := by
  rcases h with rfl | rfl
  · rw [bin3, Int.mul_one, W_of ha]
  · rw [bin4, if_neg (by decide), if_neg (by decide), Int.tdiv_one, W_of ha]
theorem kept_and {a : Int} (ha : R a) : bin 6 a (-1) = some a := by
  rw [bin6, B_m1, BitVec.and_allOnes, toInt_of ha]
theorem gone_0 {k a : Int} (h : k = 3 ∨ k = 6) : bin k a 0 = some 0 := by
  rcases h with rfl | rfl
  · rw [bin3, Int.mul_zero]; rfl
  · rw [bin6, B_0, BitVec.and_zero]; rfl
theorem gone_rem {a c : Int} (h : c = 1 ∨ c = -1) : bin 5 a c = some 0 := by
  rcases h with rfl | rfl
  · rw [bin5, if_neg (by decide), if_neg (by decide), Int.tmod_one]
  · rw [bin5, if_neg (by decide), if_pos rfl]
theorem or_ones {a : Int} : bin 7 a (-1) = some (-1) := by
  rw [bin7, B_m1, BitVec.or_allOnes]
  decide
theorem self_0 {k a : Int} (h : k = 2 ∨ k = 8 ∨ k = 12 ∨ k = 13) : bin k a a = some 0 := by
  rcases h with rfl | rfl | rfl | rfl
  · rw [bin2, Int.sub_self]; rfl
  · rw [bin8, BitVec.xor_self]; rfl
  · rw [bin12]; simp [T]
  · rw [bin13]; simp [T]
theorem self_a {k a : Int} (h : k = 6 ∨ k = 7) (ha : R a) : bin k a a = some a := by
  rcases h with rfl | rfl
  · rw [bin6, BitVec.and_self, toInt_of ha]
  · rw [bin7, BitVec.or_self, toInt_of ha]
theorem self_1 {k a : Int} (h : k = 11 ∨ k = 14) : bin k a a = some 1 := by
  rcases h with rfl | rfl
  · rw [bin11]; simp [T]
  · rw [bin14]; simp [T]
theorem negated {a : Int} : bin 4 a (-1) = bin 2 0 a := by
  rw [bin4, bin2, if_neg (by decide), if_pos rfl, Int.zero_sub]
theorem sh_nat {n : Nat} (h : n < 64) : sh (n : Int) = n := by unfold sh; omega
theorem shifted {a : Int} {n : Nat} (h : n < 64) : bin 3 a (2 ^ n) = bin 9 a n := by
  rw [bin3, bin9, sh_nat h]
theorem added {a c : Int} : bin 2 a c = bin 1 a (W (-c)) := by
  rw [bin2, bin1]
  exact congrArg some (B_W' (by rw [B_add, B_W, B_sub, B_neg, BitVec.sub_eq_add_neg]))
theorem sums {a b c : Int} : bin 1 (W (a + b)) c = bin 1 a (W (b + c)) := by
  rw [bin1, bin1]
  exact congrArg some (B_W' (by rw [B_add, B_add, B_W, B_W, B_add, B_add, BitVec.add_assoc]))
theorem products {a b c : Int} : bin 3 (W (a * b)) c = bin 3 a (W (b * c)) := by
  rw [bin3, bin3]
  exact congrArg some (B_W' (by rw [B_mul, B_mul, B_W, B_W, B_mul, B_mul, BitVec.mul_assoc]))
theorem masks {k a b c u v : Int} (h : k = 6 ∨ k = 7 ∨ k = 8) (hu : bin k a b = some u) (hv : bin k b c = some v) : bin k u c = bin k a v := by
  rcases h with rfl | rfl | rfl
  · rw [bin6] at hu hv ⊢; cases hu; cases hv; rw [bin6, B_toInt, B_toInt, BitVec.and_assoc]
  · rw [bin7] at hu hv ⊢; cases hu; cases hv; rw [bin7, B_toInt, B_toInt, BitVec.or_assoc]
  · rw [bin8] at hu hv ⊢; cases hu; cases hv; rw [bin8, B_toInt, B_toInt, BitVec.xor_assoc]
theorem shifts {a b c : Int} (h : sh c + sh b < 64) : bin 9 (W (a * 2 ^ sh b)) c = bin 9 a ((sh c + sh b : Nat) : Int) := by
  rw [bin9, bin9, sh_nat h]
  exact congrArg some (B_W' (by rw [B_mul, B_W, B_mul, B_mul, BitVec.mul_assoc, ← B_mul, ← Int.pow_add, Nat.add_comm]))
theorem twice {a : Int} (ha : R a) : bin 2 0 (W (0 - a)) = some a := by
  rw [bin2]
  have : W (0 - W (0 - a)) = W a := B_W' (by rw [B_sub, B_W, B_sub, B_0, BitVec.zero_sub, BitVec.zero_sub, BitVec.neg_neg])
  rw [this, W_of ha]
theorem truth_ne (b : Bool) : bin 12 (T b) 0 = some (T b) := by
  rw [bin12]; cases b <;> rfl
theorem truth_eq (b : Bool) : bin 11 (T b) 0 = some (T (!b)) := by
  rw [bin11]; cases b <;> rfl
theorem not_lt {a b : Int} : (!decide (a < b)) = decide (b ≤ a) := by
  rw [Bool.eq_iff_iff]; simp
theorem not_le {a b : Int} : (!decide (a ≤ b)) = decide (b < a) := by
  rw [Bool.eq_iff_iff]; simp
end Go.Proofs.YtgoccionghehoaaGreatDoor.Pn
namespace Go.Proofs.YtgoccionghehoaaGreatDoor.Pn
open Go

/-- An operand: a register, or below nought a number. -/
structure Op where
  r : Int
  i : Int
/-- An operation: 1 a copy, 2 one of two operands. -/
structure In where
  op : Int
  k : Int
  a : Op
  b : Op
def con (v : Int) : Op := ⟨-1, v⟩
def copy (a : Op) : In := ⟨1, 0, a, ⟨0, 0⟩⟩
def two (k : Int) (a b : Op) : In := ⟨2, k, a, b⟩
def isC (o : Op) : Bool := decide (o.r < 0)
def amid (k : Int) (l : List Int) : Bool := match l with
  | [] => false
  | x :: r => (k == x) || amid k r
/-- The exponent of a power of two from 2 on; else 0. -/
def pow (c : Int) : Int := if c ≤ 1 then 0 else if (B c &&& B (c - 1)).toInt ≠ 0 then 0 else (c.toNat.log2 : Int)
/-- Is the operand the result of the operation y (of the register 3)? -/
def hasY (y : In) (o : Op) : Bool := (o.r == 3) && (y.op == 2)
def sameY (y x : In) : Bool := hasY y x.a && (y.k == x.k) && isC y.b
def compY (y x : In) : Bool := hasY y x.a && amid y.k [11, 12, 13, 14]
def t1 (x : In) : Bool := isC x.a && isC x.b && (bin x.k x.a.i x.b.i).isSome
def n1 (x : In) : In := copy (con ((bin x.k x.a.i x.b.i).getD 0))
def t2 (x : In) : Bool := isC x.a && !isC x.b && amid x.k [1, 3, 6, 7, 8, 11, 12]
def n2 (x : In) : In := two x.k x.b x.a
def t3 (x : In) : Bool := isC x.b && ((x.b.i == 0) && amid x.k [1, 2, 7, 8] || (sh x.b.i == 0) && amid x.k [9, 10] || (x.b.i == 1) && amid x.k [3, 4] || (x.b.i == -1) && (x.k == 6))
def n3 (x : In) : In := copy x.a
def t4 (x : In) : Bool := isC x.b && ((x.b.i == 0) && amid x.k [3, 6] || ((x.b.i == 1) || (x.b.i == -1)) && (x.k == 5))
def n4 (_ : In) : In := copy (con 0)
def t5 (x : In) : Bool := isC x.b && (x.b.i == -1) && (x.k == 7)
def n5 (_ : In) : In := copy (con (-1))
def t6 (x : In) : Bool := !isC x.a && (x.a.r == x.b.r) && (x.a.i == x.b.i) && amid x.k [2, 8, 12, 13, 6, 7, 11, 14]
def n6 (x : In) : In := if amid x.k [2, 8, 12, 13] then copy (con 0) else if amid x.k [6, 7] then copy x.a else copy (con 1)
def t7 (x : In) : Bool := isC x.b && (x.b.i == -1) && (x.k == 4)
def n7 (x : In) : In := two 2 (con 0) x.a
def t8 (x : In) : Bool := isC x.b && (x.k == 3) && decide (0 < pow x.b.i)
def n8 (x : In) : In := two 9 x.a (con (pow x.b.i))
def t9 (x : In) : Bool := isC x.b && (x.k == 2)
def n9 (x : In) : In := two 1 x.a (con (W (0 - x.b.i)))
def t10 (y x : In) : Bool := isC x.b && (x.k == 1) && sameY y x
def n10 (y x : In) : In := two x.k y.a (con (W (y.b.i + x.b.i)))
def t11 (y x : In) : Bool := isC x.b && amid x.k [6, 7, 8] && sameY y x
def n11 (y x : In) : In := two x.k y.a (con ((bin x.k y.b.i x.b.i).getD 0))
def t12 (y x : In) : Bool := isC x.b && (x.k == 3) && sameY y x
def n12 (y x : In) : In := two x.k y.a (con (W (y.b.i * x.b.i)))
def t13 (y x : In) : Bool := isC x.b && (x.k == 9) && sameY y x && decide (sh x.b.i + sh y.b.i < 64)
def n13 (y x : In) : In := two x.k y.a (con ((sh x.b.i + sh y.b.i : Nat) : Int))
def t14 (y x : In) : Bool := (x.k == 2) && (x.a.r == -1) && (x.a.i == 0) && hasY y x.b && (y.k == 2) && (y.a.r == -1) && (y.a.i == 0)
def n14 (y _ : In) : In := copy y.b
def t15 (y x : In) : Bool := isC x.b && (x.b.i == 0) && (x.k == 12) && compY y x
def n15 (_ x : In) : In := copy x.a
def t16 (y x : In) : Bool := isC x.b && (x.b.i == 0) && (x.k == 11) && compY y x
def n16 (y _ : In) : In := if y.k = 11 then two 12 y.a y.b else if y.k = 12 then two 11 y.a y.b else if y.k = 13 then two 14 y.b y.a else two 13 y.b y.a

/-! ### values -/
def val (ρ : Int → Int) (o : Op) : Int := if o.r < 0 then o.i else ρ o.r
def exec (ρ : Int → Int) (x : In) : Option Int := if x.op = 1 then some (val ρ x.a) else bin x.k (val ρ x.a) (val ρ x.b)
/-- An operand of a register up to m. -/
structure OOk (m : Int) (o : Op) : Prop where
  lo : -1 ≤ o.r
  hi : o.r ≤ m
  i : R o.i
  z : 0 ≤ o.r → o.i = 0
structure IOk (m : Int) (x : In) : Prop where
  op : x.op = 1 ∨ x.op = 2
  k0 : x.op = 1 → x.k = 0 ∧ x.b = ⟨0, 0⟩
  k1 : x.op = 2 → 1 ≤ x.k ∧ x.k ≤ 14 ∧ OOk m x.b
  a : OOk m x.a
/-- What is known of the register 3: y's value, where y is an operation whose registers are below, and no division. -/
structure YOk (ρ : Int → Int) (y : In) : Prop where
  ok : IOk 2 y
  v : y.op = 2 → y.k ≠ 4 → y.k ≠ 5 → exec ρ y = some (ρ 3)
structure EOk (ρ : Int → Int) : Prop where
  R : ∀ r, R (ρ r)
theorem val_R {ρ : Int → Int} {m : Int} {o : Op} (h : EOk ρ) (k : OOk m o) : R (val ρ o) := by
  unfold val; split
  · exact k.i
  · exact h.R _
theorem amid_iff {k : Int} {l : List Int} : amid k l = true ↔ k ∈ l := by
  induction l with
  | nil => simp [amid]
  | cons x r ih => simp [amid, ih]
theorem isC_iff {o : Op} : isC o = true ↔ o.r < 0 := by simp [isC]
theorem val_con (ρ : Int → Int) (v : Int) : val ρ (con v) = v := by simp [val, con]
theorem val_isC {ρ : Int → Int} {o : Op} (h : isC o = true) : val ρ o = o.i := by
  have := isC_iff.1 h
  simp [val, this]
theorem exec_copy (ρ : Int → Int) (a : Op) : exec ρ (copy a) = some (val ρ a) := rfl
theorem exec_two (ρ : Int → Int) (k : Int) (a b : Op) : exec ρ (two k a b) = bin k (val ρ a) (val ρ b) := rfl
theorem exec_of {ρ : Int → Int} {x : In} (h : x.op = 2) : exec ρ x = bin x.k (val ρ x.a) (val ρ x.b) := by simp [exec, h]
theorem con_ok {m v : Int} (hm : -1 ≤ m) (h : R v) : OOk m (con v) := ⟨by simp [con], by simp [con]; omega, h, by simp [con]⟩
theorem copy_ok {m : Int} {a : Op} (h : OOk m a) : IOk m (copy a) := ⟨.inl rfl, fun _ => ⟨rfl, rfl⟩, fun h => (by cases h), h⟩
theorem two_ok {m k : Int} {a b : Op} (h1 : 1 ≤ k) (h2 : k ≤ 14) (ha : OOk m a) (hb : OOk m b) : IOk m (two k a b) := ⟨.inr rfl, fun h => (by cases h), fun _ => ⟨h1, h2, hb⟩, ha⟩
theorem OOk.mono {m n : Int} {o : Op} (h : OOk m o) (hm : m ≤ n) : OOk n o := ⟨h.lo, Int.le_trans h.hi hm, h.i, h.z⟩
theorem R_small {n : Int} (h1 : -1 ≤ n) (h2 : n ≤ 100) : R n := by rw [R]; omega

/-- How far an operation still is from one that no rule fits. -/
def wt (k : Int) : Nat := if k = 4 then 6 else if k = 3 then 3 else if k = 2 then 3 else 2
def mu (x : In) : Nat := if x.op = 1 then 0 else wt x.k + (if x.a.r < 0 ∧ ¬ x.b.r < 0 then 1 else 0) + (if x.a.r = 3 ∨ x.b.r = 3 then 10 else 0)
theorem mu_copy (a : Op) : mu (copy a) = 0 := rfl
theorem mu_two (k : Int) (a b : Op) : mu (two k a b) = wt k + (if a.r < 0 ∧ ¬ b.r < 0 then 1 else 0) + (if a.r = 3 ∨ b.r = 3 then 10 else 0) := rfl
theorem mu_of {x : In} (h : x.op = 2) : mu x = wt x.k + (if x.a.r < 0 ∧ ¬ x.b.r < 0 then 1 else 0) + (if x.a.r = 3 ∨ x.b.r = 3 then 10 else 0) := by simp [mu, h]
theorem wt_pos (k : Int) : 2 ≤ wt k := by unfold wt; split; omega; split; omega; split <;> omega
theorem mu_pos {x : In} (h : x.op = 2) : 0 < mu x := by rw [mu_of h]; have := wt_pos x.k; omega
/-- A rule's application: well-formed, of the same value, nearer to the end. -/
structure Good (ρ : Int → Int) (m : Int) (x x' : In) : Prop where
  ok : IOk m x'
  v : exec ρ x' = exec ρ x
  mu : mu x' < mu x
theorem Good.copy {ρ : Int → Int} {m : Int} {x : In} {a : Op} (h2 : x.op = 2) (ha : OOk m a) (hv : exec ρ x = some (val ρ a)) : Good ρ m x (copy a) := ⟨copy_ok ha, by rw [exec_copy, hv], mu_pos h2⟩
end Go.Proofs.YtgoccionghehoaaGreatDoor.Pn
namespace Go.Proofs.YtgoccionghehoaaGreatDoor.Pn
open Go

variable {ρ : Int → Int} {m : Int} {x y : In}
theorem and2 {a b : Bool} (h : (a && b) = true) : a = true ∧ b = true := by simpa using h
theorem good1 (h2 : x.op = 2) (ix : IOk m x) (hm : -1 ≤ m) (t : t1 x = true) : Good ρ m x (n1 x) := by
  obtain ⟨t, t3⟩ := and2 t
  obtain ⟨t1, t2⟩ := and2 t
  obtain ⟨k1, k2, hb⟩ := ix.k1 h2
  obtain ⟨v, hv⟩ := Option.isSome_iff_exists.1 t3
  have hR := bin_R k1 k2 ix.a.i hv
  unfold n1
  rw [hv, Option.getD_some]
  exact .copy h2 (con_ok hm hR) (by rw [exec_of h2, val_isC t1, val_isC t2, hv, val_con])
theorem good2 (h2 : x.op = 2) (ix : IOk m x) (t : t2 x = true) : Good ρ m x (n2 x) := by
  obtain ⟨t, t3⟩ := and2 t
  obtain ⟨t1, t2⟩ := and2 t
  obtain ⟨k1, k2, hb⟩ := ix.k1 h2
  have t1 := isC_iff.1 t1
  have t2 : ¬ x.b.r < 0 := by rw [← isC_iff]; simpa using t2
  refine ⟨two_ok k1 k2 hb ix.a, ?_, ?_⟩
  · unfold n2
    rw [exec_two, exec_of h2]
    refine bin_comm ?_ _ _
    simpa [amid_iff] using t3
  · unfold n2
    rw [mu_two, mu_of h2, if_neg (by omega), if_pos (⟨t1, t2⟩ : x.a.r < 0 ∧ ¬ x.b.r < 0)]
    split <;> split <;> omega
theorem good3 (e : EOk ρ) (h2 : x.op = 2) (ix : IOk m x) (t : t3 x = true) : Good ρ m x (n3 x) := by
  obtain ⟨t1, t2⟩ := and2 t
  refine .copy h2 ix.a ?_
  have hR := val_R e ix.a
  rw [exec_of h2, val_isC t1]
  simp only [Bool.or_eq_true, Bool.and_eq_true, beq_iff_eq, amid_iff] at t2
  rcases t2 with ((⟨h, k⟩ | ⟨h, k⟩) | ⟨h, k⟩) | ⟨h, k⟩
  · rw [h]; exact kept_add (by simpa using k) hR
  · exact kept_sh (by simpa using k) hR h
  · rw [h]; exact kept_one (by simpa using k) hR
  · rw [h, k]; exact kept_and hR
theorem good4 (h2 : x.op = 2) (ix : IOk m x) (hm : -1 ≤ m) (t : t4 x = true) : Good ρ m x (n4 x) := by
  obtain ⟨t1, t2⟩ := and2 t
  refine .copy h2 (con_ok hm (R_small (by decide) (by decide))) ?_
  rw [exec_of h2, val_isC t1, val_con]
  simp only [Bool.or_eq_true, Bool.and_eq_true, beq_iff_eq, amid_iff] at t2
  rcases t2 with ⟨h, k⟩ | ⟨h, k⟩
  · rw [h]; exact gone_0 (by simpa using k)
  · rw [k]; exact gone_rem h
theorem good5 (h2 : x.op = 2) (ix : IOk m x) (hm : -1 ≤ m) (t : t5 x = true) : Good ρ m x (n5 x) := by
  obtain ⟨t, t3⟩ := and2 t
  obtain ⟨t1, t2⟩ := and2 t
  refine .copy h2 (con_ok hm (R_small (by decide) (by decide))) ?_
  simp only [beq_iff_eq] at t2 t3
  rw [exec_of h2, val_isC t1, val_con, t2, t3]
  exact or_ones
theorem good6 (e : EOk ρ) (h2 : x.op = 2) (ix : IOk m x) (hm : -1 ≤ m) (t : t6 x = true) : Good ρ m x (n6 x) := by
  obtain ⟨t, t4⟩ := and2 t
  obtain ⟨t, t3⟩ := and2 t
  obtain ⟨t1, t2⟩ := and2 t
  simp only [beq_iff_eq] at t2 t3
  have hv : val ρ x.b = val ρ x.a := by unfold val; rw [t2, t3]
  have hR := val_R e ix.a
  have key : exec ρ x = bin x.k (val ρ x.a) (val ρ x.a) := by rw [exec_of h2, hv]
  unfold n6
  split
  · rename_i h
    exact .copy h2 (con_ok hm (R_small (by decide) (by decide))) (by rw [key, val_con]; exact self_0 (by simpa [amid_iff] using h))
  · split
    · rename_i h
      exact .copy h2 ix.a (by rw [key]; exact self_a (by simpa [amid_iff] using h) hR)
    · rename_i h1 h3
      refine .copy h2 (con_ok hm (R_small (by decide) (by decide))) (by rw [key, val_con]; refine self_1 ?_; simp only [amid_iff, List.mem_cons, List.not_mem_nil, or_false] at t4 h1 h3; omega)
theorem good7 (h2 : x.op = 2) (ix : IOk m x) (hm : -1 ≤ m) (t : t7 x = true) : Good ρ m x (n7 x) := by
  obtain ⟨t, t3⟩ := and2 t
  obtain ⟨t1, t2⟩ := and2 t
  simp only [beq_iff_eq] at t2 t3
  have t1' := isC_iff.1 t1
  refine ⟨two_ok (by decide) (by decide) (con_ok hm (R_small (by decide) (by decide))) ix.a, ?_, ?_⟩
  · unfold n7
    rw [exec_two, exec_of h2, val_con, val_isC t1, t2, t3]
    exact negated.symm
  · unfold n7
    rw [mu_two, mu_of h2, t3]
    have h1 : (con 0).r = -1 := rfl
    have w2 : wt 2 = 3 := rfl
    have w4 : wt 4 = 6 := rfl
    rw [h1, w2, w4]
    split <;> split <;> split <;> split <;> omega
theorem good9 (h2 : x.op = 2) (ix : IOk m x) (hm : -1 ≤ m) (t : t9 x = true) : Good ρ m x (n9 x) := by
  obtain ⟨t1, t2⟩ := and2 t
  simp only [beq_iff_eq] at t2
  have t1' := isC_iff.1 t1
  refine ⟨two_ok (by decide) (by decide) ix.a (con_ok hm (W_R _)), ?_, ?_⟩
  · unfold n9
    rw [exec_two, exec_of h2, val_con, val_isC t1, t2, added, Int.zero_sub]
  · unfold n9
    rw [mu_two, mu_of h2, t2]
    have h1 : (con (W (0 - x.b.i))).r = -1 := rfl
    have w2 : wt 2 = 3 := rfl
    have w1 : wt 1 = 2 := rfl
    rw [h1, w2, w1]
    split <;> split <;> split <;> split <;> omega
/-- What it means that the operand A is the result of y. -/
theorem hasY_iff {o : Op} : hasY y o = true ↔ o.r = 3 ∧ y.op = 2 := by simp [hasY]
theorem val_3 {o : Op} (h : o.r = 3) : val ρ o = ρ 3 := by simp [val, h]
theorem merged (yk : YOk ρ y) (h2 : x.op = 2) (ix : IOk m x) (hm : 2 ≤ m) (hc : isC x.b = true) (hy : sameY y x = true) (h4 : x.k ≠ 4 ∧ x.k ≠ 5) {v : Int} (hR : R v) (hv : ∀ u, bin x.k (val ρ y.a) y.b.i = some u → bin x.k u x.b.i = bin x.k (val ρ y.a) v) : Good ρ m x (two x.k y.a (con v)) := by
  obtain ⟨hy, y3⟩ := and2 hy
  obtain ⟨y1, y2⟩ := and2 hy
  obtain ⟨y1, y4⟩ := hasY_iff.1 y1
  simp only [beq_iff_eq] at y2
  obtain ⟨k1, k2, hb⟩ := ix.k1 h2
  have hc' := isC_iff.1 hc
  have ha := yk.ok.a
  have e := yk.v y4 (by rw [y2]; exact h4.1) (by rw [y2]; exact h4.2)
  rw [exec_of y4, val_isC y3, y2] at e
  refine ⟨two_ok k1 k2 (ha.mono hm) (con_ok (by omega) hR), ?_, ?_⟩
  · rw [exec_two, exec_of h2, val_con, val_isC hc, val_3 y1]
    exact (hv _ e).symm
  · rw [mu_two, mu_of h2]
    have h1 : (con v).r = -1 := rfl
    have h5 := ha.hi
    rw [h1, if_neg (by omega), if_neg (by omega), if_pos (Or.inl y1 : x.a.r = 3 ∨ x.b.r = 3)]
    omega
theorem good10 (yk : YOk ρ y) (h2 : x.op = 2) (ix : IOk m x) (hm : 2 ≤ m) (t : t10 y x = true) : Good ρ m x (n10 y x) := by
  obtain ⟨t, t3⟩ := and2 t
  obtain ⟨t1, t2⟩ := and2 t
  simp only [beq_iff_eq] at t2
  refine merged yk h2 ix hm t1 t3 (by omega) (W_R _) fun u hu => ?_
  rw [t2] at hu ⊢
  rw [bin1] at hu
  cases hu
  exact sums
theorem good11 (yk : YOk ρ y) (h2 : x.op = 2) (ix : IOk m x) (hm : 2 ≤ m) (t : t11 y x = true) : Good ρ m x (n11 y x) := by
  obtain ⟨t, t3⟩ := and2 t
  obtain ⟨t1, t2⟩ := and2 t
  have t2 : x.k = 6 ∨ x.k = 7 ∨ x.k = 8 := by simpa [amid_iff] using t2
  obtain ⟨k1, k2, hb⟩ := ix.k1 h2
  have hs : ∃ v, bin x.k y.b.i x.b.i = some v := by
    rcases t2 with h | h | h <;> rw [h]
    · exact ⟨_, bin6 _ _⟩
    · exact ⟨_, bin7 _ _⟩
    · exact ⟨_, bin8 _ _⟩
  obtain ⟨v, hv⟩ := hs
  have yb : R y.b.i := by
    obtain ⟨q, _⟩ := and2 t3
    obtain ⟨q, _⟩ := and2 q
    exact (yk.ok.k1 (hasY_iff.1 q).2).2.2.i
  unfold n11
  rw [hv, Option.getD_some]
  exact merged yk h2 ix hm t1 t3 (by omega) (bin_R k1 k2 yb hv) fun u hu => masks t2 hu hv
theorem good12 (yk : YOk ρ y) (h2 : x.op = 2) (ix : IOk m x) (hm : 2 ≤ m) (t : t12 y x = true) : Good ρ m x (n12 y x) := by
  obtain ⟨t, t3⟩ := and2 t
  obtain ⟨t1, t2⟩ := and2 t
  simp only [beq_iff_eq] at t2
  refine merged yk h2 ix hm t1 t3 (by omega) (W_R _) fun u hu => ?_
  rw [t2] at hu ⊢
  rw [bin3] at hu
  cases hu
  exact products
theorem good13 (yk : YOk ρ y) (h2 : x.op = 2) (ix : IOk m x) (hm : 2 ≤ m) (t : t13 y x = true) : Good ρ m x (n13 y x) := by
  obtain ⟨t, t4⟩ := and2 t
  obtain ⟨t, t3⟩ := and2 t
  obtain ⟨t1, t2⟩ := and2 t
  simp only [beq_iff_eq] at t2
  have t4 := of_decide_eq_true t4
  refine merged yk h2 ix hm t1 t3 (by omega) (R_small (by omega) (by omega)) fun u hu => ?_
  rw [t2] at hu ⊢
  rw [bin9] at hu
  cases hu
  exact shifts t4
theorem good14 (e : EOk ρ) (yk : YOk ρ y) (h2 : x.op = 2) (ix : IOk m x) (hm : 2 ≤ m) (t : t14 y x = true) : Good ρ m x (n14 y x) := by
  simp only [t14, Bool.and_eq_true, beq_iff_eq] at t
  obtain ⟨⟨⟨⟨⟨⟨k, a1⟩, a2⟩, hy⟩, yk2⟩, y1⟩, y2⟩ := t
  obtain ⟨b3, yo⟩ := hasY_iff.1 hy
  have yb := (yk.ok.k1 yo).2.2
  refine .copy h2 (yb.mono hm) ?_
  have ev := yk.v yo (by omega) (by omega)
  rw [exec_of yo, yk2] at ev
  have va : val ρ y.a = 0 := by simp [val, y1, y2]
  have vx : val ρ x.a = 0 := by simp [val, a1, a2]
  rw [va, bin2] at ev
  rw [exec_of h2, k, vx, val_3 b3, ← Option.some.inj ev]
  exact twice (val_R e yb)
theorem truth_of {k a b v : Int} (hk : k = 11 ∨ k = 12 ∨ k = 13 ∨ k = 14) (h : bin k a b = some v) : ∃ q : Bool, v = T q ∧ (k = 11 → q = (a == b)) ∧ (k = 12 → q = (a != b)) ∧ (k = 13 → q = decide (a < b)) ∧ (k = 14 → q = decide (a ≤ b)) := by
  rcases hk with rfl | rfl | rfl | rfl
  · rw [bin11] at h; cases h; exact ⟨_, rfl, fun _ => rfl, fun h => (by omega), fun h => (by omega), fun h => (by omega)⟩
  · rw [bin12] at h; cases h; exact ⟨_, rfl, fun h => (by omega), fun _ => rfl, fun h => (by omega), fun h => (by omega)⟩
  · rw [bin13] at h; cases h; exact ⟨_, rfl, fun h => (by omega), fun h => (by omega), fun _ => rfl, fun h => (by omega)⟩
  · rw [bin14] at h; cases h; exact ⟨_, rfl, fun h => (by omega), fun h => (by omega), fun h => (by omega), fun _ => rfl⟩
theorem comp_of (yk : YOk ρ y) (h : compY y x = true) : x.a.r = 3 ∧ y.op = 2 ∧ (y.k = 11 ∨ y.k = 12 ∨ y.k = 13 ∨ y.k = 14) ∧ bin y.k (val ρ y.a) (val ρ y.b) = some (ρ 3) := by
  obtain ⟨h1, h2⟩ := and2 h
  obtain ⟨h1, h3⟩ := hasY_iff.1 h1
  have hk : y.k = 11 ∨ y.k = 12 ∨ y.k = 13 ∨ y.k = 14 := by simpa [amid_iff] using h2
  exact ⟨h1, h3, hk, by rw [← exec_of h3]; exact yk.v h3 (by omega) (by omega)⟩
theorem good15 (yk : YOk ρ y) (h2 : x.op = 2) (ix : IOk m x) (t : t15 y x = true) : Good ρ m x (n15 y x) := by
  simp only [t15, Bool.and_eq_true, beq_iff_eq] at t
  obtain ⟨⟨⟨c, b0⟩, k⟩, hy⟩ := t
  obtain ⟨a3, yo, yk', ev⟩ := comp_of yk hy
  refine .copy h2 ix.a ?_
  obtain ⟨q, hq, _⟩ := truth_of yk' ev
  rw [exec_of h2, k, val_isC c, b0, val_3 a3, hq]
  exact truth_ne q
theorem good16 (yk : YOk ρ y) (h2 : x.op = 2) (ix : IOk m x) (hm : 2 ≤ m) (t : t16 y x = true) : Good ρ m x (n16 y x) := by
  simp only [t16, Bool.and_eq_true, beq_iff_eq] at t
  obtain ⟨⟨⟨c, b0⟩, k⟩, hy⟩ := t
  obtain ⟨a3, yo, yk', ev⟩ := comp_of yk hy
  obtain ⟨q, hq, q1, q2, q3, q4⟩ := truth_of yk' ev
  have ya := yk.ok.a
  have yb := (yk.ok.k1 yo).2.2
  have hx : exec ρ x = some (T (!q)) := by
    rw [exec_of h2, k, val_isC c, b0, val_3 a3, hq]
    exact truth_eq q
  have key : ∀ (kk : Int) (a b : Op), kk = 11 ∨ kk = 12 ∨ kk = 13 ∨ kk = 14 → OOk 2 a → OOk 2 b → bin kk (val ρ a) (val ρ b) = some (T (!q)) → Good ρ m x (two kk a b) := by
    intro kk a b hk ha hb hv
    refine ⟨two_ok (by omega) (by omega) (ha.mono hm) (hb.mono hm), by rw [exec_two, hv, hx], ?_⟩
    have h1 := ha.hi
    have h3 := hb.hi
    have e1 : wt kk = 2 := by unfold wt; rw [if_neg (by omega), if_neg (by omega), if_neg (by omega)]
    have e2 := wt_pos x.k
    rw [mu_two, mu_of h2, e1, if_neg (by omega : ¬ (a.r = 3 ∨ b.r = 3)), if_pos (Or.inl a3 : x.a.r = 3 ∨ x.b.r = 3)]
    split <;> omega
  unfold n16
  split
  · rename_i h
    refine key 12 _ _ (by omega) ya yb ?_
    rw [bin12, q1 h]; rfl
  · split
    · rename_i h
      refine key 11 _ _ (by omega) ya yb ?_
      rw [bin11, q2 h]; simp [bne]
    · split
      · rename_i h
        refine key 14 _ _ (by omega) yb ya ?_
        rw [bin14, q3 h, not_lt]
      · rename_i h1 h3 h4
        refine key 13 _ _ (by omega) yb ya ?_
        rw [bin13, q4 (by omega), not_le]
end Go.Proofs.YtgoccionghehoaaGreatDoor.Pn
namespace Go.Proofs.YtgoccionghehoaaGreatDoor.Pn
open Go

theorem pow_nat {n : Nat} (h0 : 1 ≤ n) (h : n &&& (n - 1) = 0) : n = 2 ^ n.log2 := by
  have h1 : 2 ^ n.log2 ≤ n := Nat.log2_self_le (by omega)
  have h2 : n < 2 ^ (n.log2 + 1) := Nat.lt_log2_self
  rw [Nat.pow_succ] at h2
  rcases Nat.lt_or_ge (n - 1) (2 ^ n.log2) with q | q
  · omega
  · have b1 : n.testBit n.log2 = true := by
      rw [Nat.testBit_eq_decide_div_mod_eq]
      have : n / 2 ^ n.log2 = 1 := Nat.div_eq_of_lt_le (by omega) (by omega)
      simp [this]
    have b2 : (n - 1).testBit n.log2 = true := by
      rw [Nat.testBit_eq_decide_div_mod_eq]
      have : (n - 1) / 2 ^ n.log2 = 1 := Nat.div_eq_of_lt_le (by omega) (by omega)
      simp [this]
    have b3 : (n &&& (n - 1)).testBit n.log2 = true := by rw [Nat.testBit_and, b1, b2]; rfl
    rw [h] at b3
    simp at b3
theorem pow_ok {c : Int} (hR : R c) (h : 0 < pow c) : ∃ n : Nat, 1 ≤ n ∧ n < 63 ∧ c = 2 ^ n ∧ pow c = n := by
  unfold pow at h
  split at h
  · omega
  rename_i h1
  split at h
  · omega
  rename_i h2
  have h2 : (B c &&& B (c - 1)).toInt = 0 := by simpa using h2
  have h2 : B c &&& B (c - 1) = 0#64 := by
    have := B_toInt (B c &&& B (c - 1))
    rw [h2] at this
    rw [← this]; rfl
  have hc : c = (c.toNat : Int) := by omega
  have e1 : (B c).toNat = c.toNat := by
    unfold B
    rw [BitVec.toNat_ofInt]
    rw [R] at hR
    have : ((2 ^ 64 : Nat) : Int) = 18446744073709551616 := by decide
    rw [this]
    omega
  have e2 : (B (c - 1)).toNat = c.toNat - 1 := by
    unfold B
    rw [BitVec.toNat_ofInt]
    rw [R] at hR
    have : ((2 ^ 64 : Nat) : Int) = 18446744073709551616 := by decide
    rw [this]
    omega
  have h3 := congrArg BitVec.toNat h2
  rw [BitVec.toNat_and, e1, e2] at h3
  have h4 := pow_nat (n := c.toNat) (by omega) (by simpa using h3)
  refine ⟨c.toNat.log2, ?_, ?_, ?_, ?_⟩
  · rcases Nat.eq_zero_or_pos c.toNat.log2 with q | q
    · rw [q] at h4; omega
    · exact q
  · have : c.toNat.log2 < 63 := by
      rw [Nat.log2_lt (by omega)]
      rw [R] at hR
      omega
    exact this
  · generalize c.toNat = k at hc h4
    subst hc
    have := congrArg (fun n : Nat => (n : Int)) h4
    simpa using this
  · unfold pow
    rw [if_neg h1, if_neg (by rw [h2]; decide)]
variable {ρ : Int → Int} {m : Int} {x y : In}
theorem good8 (h2 : x.op = 2) (ix : IOk m x) (hm : -1 ≤ m) (t : t8 x = true) : Good ρ m x (n8 x) := by
  obtain ⟨t, t3⟩ := and2 t
  obtain ⟨t1, t2⟩ := and2 t
  simp only [beq_iff_eq] at t2
  have t1' := isC_iff.1 t1
  obtain ⟨n, p1, p2, p3, p4⟩ := pow_ok (ix.k1 h2).2.2.i (of_decide_eq_true t3)
  have hR : R (pow x.b.i) := by rw [p4]; exact R_small (by omega) (by omega)
  refine ⟨two_ok (by decide) (by decide) ix.a (con_ok hm hR), ?_, ?_⟩
  · unfold n8
    rw [exec_two, exec_of h2, val_con, val_isC t1, t2, p4, p3]
    exact (shifted (by omega)).symm
  · unfold n8
    rw [mu_two, mu_of h2, t2]
    have h1 : (con (pow x.b.i)).r = -1 := rfl
    have w3 : wt 3 = 3 := rfl
    have w9 : wt 9 = 2 := rfl
    rw [h1, w3, w9]
    split <;> split <;> split <;> split <;> omega
/-- The first rule that can be applied. -/
def step (y x : In) : Option (Nat × In) :=
  if t1 x then some (1, n1 x) else if t2 x then some (2, n2 x) else if t3 x then some (3, n3 x) else if t4 x then some (4, n4 x) else if t5 x then some (5, n5 x) else if t6 x then some (6, n6 x) else if t7 x then some (7, n7 x) else if t8 x then some (8, n8 x) else if t9 x then some (9, n9 x)
  else if t10 y x then some (10, n10 y x) else if t11 y x then some (11, n11 y x) else if t12 y x then some (12, n12 y x) else if t13 y x then some (13, n13 y x) else if t14 y x then some (14, n14 y x) else if t15 y x then some (15, n15 y x) else if t16 y x then some (16, n16 y x) else none
theorem step_good (e : EOk ρ) (yk : YOk ρ y) (h2 : x.op = 2) (ix : IOk m x) (hm : 2 ≤ m) {r : Nat} {x' : In} (h : step y x = some (r, x')) : Good ρ m x x' := by
  unfold step at h
  by_cases c1 : t1 x = true
  · rw [if_pos c1] at h
    simp only [Option.some.injEq, Prod.mk.injEq] at h
    obtain ⟨_, rfl⟩ := h
    exact good1 h2 ix (by omega) c1
  rw [if_neg c1] at h
  by_cases c2 : t2 x = true
  · rw [if_pos c2] at h
    simp only [Option.some.injEq, Prod.mk.injEq] at h
    obtain ⟨_, rfl⟩ := h
    exact good2 h2 ix c2
  rw [if_neg c2] at h
  by_cases c3 : t3 x = true
  · rw [if_pos c3] at h
    simp only [Option.some.injEq, Prod.mk.injEq] at h
    obtain ⟨_, rfl⟩ := h
    exact good3 e h2 ix c3
  rw [if_neg c3] at h
  by_cases c4 : t4 x = true
  · rw [if_pos c4] at h
    simp only [Option.some.injEq, Prod.mk.injEq] at h
    obtain ⟨_, rfl⟩ := h
    exact good4 h2 ix (by omega) c4
  rw [if_neg c4] at h
  by_cases c5 : t5 x = true
  · rw [if_pos c5] at h
    simp only [Option.some.injEq, Prod.mk.injEq] at h
    obtain ⟨_, rfl⟩ := h
    exact good5 h2 ix (by omega) c5
  rw [if_neg c5] at h
  by_cases c6 : t6 x = true
  · rw [if_pos c6] at h
    simp only [Option.some.injEq, Prod.mk.injEq] at h
    obtain ⟨_, rfl⟩ := h
    exact good6 e h2 ix (by omega) c6
  rw [if_neg c6] at h
  by_cases c7 : t7 x = true
  · rw [if_pos c7] at h
    simp only [Option.some.injEq, Prod.mk.injEq] at h
    obtain ⟨_, rfl⟩ := h
    exact good7 h2 ix (by omega) c7
  rw [if_neg c7] at h
  by_cases c8 : t8 x = true
  · rw [if_pos c8] at h
    simp only [Option.some.injEq, Prod.mk.injEq] at h
    obtain ⟨_, rfl⟩ := h
    exact good8 h2 ix (by omega) c8
  rw [if_neg c8] at h
  by_cases c9 : t9 x = true
  · rw [if_pos c9] at h
    simp only [Option.some.injEq, Prod.mk.injEq] at h
    obtain ⟨_, rfl⟩ := h
    exact good9 h2 ix (by omega) c9
  rw [if_neg c9] at h
  by_cases c10 : t10 y x = true
  · rw [if_pos c10] at h
    simp only [Option.some.injEq, Prod.mk.injEq] at h
    obtain ⟨_, rfl⟩ := h
    exact good10 yk h2 ix hm c10
  rw [if_neg c10] at h
  by_cases c11 : t11 y x = true
  · rw [if_pos c11] at h
    simp only [Option.some.injEq, Prod.mk.injEq] at h
    obtain ⟨_, rfl⟩ := h
    exact good11 yk h2 ix hm c11
  rw [if_neg c11] at h
  by_cases c12 : t12 y x = true
  · rw [if_pos c12] at h
    simp only [Option.some.injEq, Prod.mk.injEq] at h
    obtain ⟨_, rfl⟩ := h
    exact good12 yk h2 ix hm c12
  rw [if_neg c12] at h
  by_cases c13 : t13 y x = true
  · rw [if_pos c13] at h
    simp only [Option.some.injEq, Prod.mk.injEq] at h
    obtain ⟨_, rfl⟩ := h
    exact good13 yk h2 ix hm c13
  rw [if_neg c13] at h
  by_cases c14 : t14 y x = true
  · rw [if_pos c14] at h
    simp only [Option.some.injEq, Prod.mk.injEq] at h
    obtain ⟨_, rfl⟩ := h
    exact good14 e yk h2 ix hm c14
  rw [if_neg c14] at h
  by_cases c15 : t15 y x = true
  · rw [if_pos c15] at h
    simp only [Option.some.injEq, Prod.mk.injEq] at h
    obtain ⟨_, rfl⟩ := h
    exact good15 yk h2 ix c15
  rw [if_neg c15] at h
  by_cases c16 : t16 y x = true
  · rw [if_pos c16] at h
    simp only [Option.some.injEq, Prod.mk.injEq] at h
    obtain ⟨_, rfl⟩ := h
    exact good16 yk h2 ix hm c16
  rw [if_neg c16] at h
  cases h
end Go.Proofs.YtgoccionghehoaaGreatDoor.Pn
namespace Go.Proofs.YtgoccionghehoaaGreatDoor.Pn
open Go

/-- The registers at the third operation: what the cells hold. -/
def rho (A B C : Int) (r : Int) : Int := if r = 0 then A else if r = 1 then B else if r = 2 then C else 0
def upd (ρ : Int → Int) (v : Int) (r : Int) : Int := if r = 3 then v else ρ r
/-- What the two operations come to; none: a trap. -/
def run2 (A B C : Int) (x y : In) : Option Int := (exec (rho A B C) x).bind fun v => exec (upd (rho A B C) v) y
theorem rho_ok {A B C : Int} (hA : R A) (hB : R B) (hC : R C) : EOk (rho A B C) := ⟨fun r => by
  unfold rho; split; exact hA; split; exact hB; split; exact hC; rw [R]; omega⟩
theorem upd_ok {ρ : Int → Int} {v : Int} (h : EOk ρ) (hv : R v) : EOk (upd ρ v) := ⟨fun r => by
  unfold upd; split; exact hv; exact h.R r⟩
theorem val_upd {ρ : Int → Int} {v : Int} {o : Op} (h : OOk 2 o) : val (upd ρ v) o = val ρ o := by
  have := h.hi
  unfold val upd
  split
  · rfl
  · rw [if_neg (by omega)]
theorem exec_upd {ρ : Int → Int} {v : Int} {x : In} (h : IOk 2 x) : exec (upd ρ v) x = exec ρ x := by
  rcases h.op with q | q
  · simp only [exec, q, if_true]; rw [val_upd h.a]
  · rw [exec_of q, exec_of q, val_upd h.a, val_upd (h.k1 q).2.2]
theorem exec_R {ρ : Int → Int} {m : Int} {x : In} {v : Int} (e : EOk ρ) (h : IOk m x) (hv : exec ρ x = some v) : R v := by
  rcases h.op with q | q
  · simp only [exec, q, if_true, Option.some.injEq] at hv
    rw [← hv]; exact val_R e h.a
  · rw [exec_of q] at hv
    exact bin_R (h.k1 q).1 (h.k1 q).2.1 (val_R e h.a) hv
theorem none_kind {a b k : Int} (h1 : 1 ≤ k) (h2 : k ≤ 14) (h : bin k a b = none) : k = 4 ∨ k = 5 := by
  rcases kinds h1 h2 with rfl | rfl | rfl | rfl | rfl | rfl | rfl | rfl | rfl | rfl | rfl | rfl | rfl | rfl
  · cases h
  · cases h
  · cases h
  · exact .inl rfl
  · exact .inr rfl
  · cases h
  · cases h
  · cases h
  · cases h
  · cases h
  · cases h
  · cases h
  · cases h
  · cases h
/-- The state of the two operations. -/
structure JOk (A B C : Int) (x y : In) : Prop where
  x : IOk 2 x
  y : IOk 3 y
def next (y x : In) : Option (Nat × In) := if x.op = 2 then step y x else none
theorem step_irr {x y y' : In} (h : IOk 2 x) (h2 : x.op = 2) : step y x = step y' x := by
  have ha : hasY y x.a = false := by have := h.a.hi; simp [hasY]; omega
  have ha' : hasY y' x.a = false := by have := h.a.hi; simp [hasY]; omega
  have hb : hasY y x.b = false := by have := (h.k1 h2).2.2.hi; simp [hasY]; omega
  have hb' : hasY y' x.b = false := by have := (h.k1 h2).2.2.hi; simp [hasY]; omega
  unfold step
  simp only [t10, t11, t12, t13, t14, t15, t16, sameY, compY, ha, ha', hb, hb', Bool.false_and, Bool.and_false, Bool.false_eq_true, if_false]
variable {A B C : Int} {x y x' y' : In} {r : Nat}
theorem yok_x (e : EOk (rho A B C)) : YOk (rho A B C) ⟨1, 0, con 0, ⟨0, 0⟩⟩ := ⟨copy_ok (con_ok (by decide) (by rw [R]; omega)), fun h => by cases h⟩
/-- An application at the first one. -/
theorem next_x (hA : R A) (hB : R B) (hC : R C) (j : JOk A B C x y) {z : In} (h : next z x = some (r, x')) : JOk A B C x' y ∧ run2 A B C x' y = run2 A B C x y ∧ mu x' < mu x := by
  unfold next at h
  split at h
  case isFalse => cases h
  rename_i h2
  have e := rho_ok hA hB hC
  rw [step_irr (y' := ⟨1, 0, con 0, ⟨0, 0⟩⟩) j.x h2] at h
  have g := step_good e (yok_x e) h2 j.x (by decide) h
  refine ⟨⟨g.ok, j.y⟩, ?_, g.mu⟩
  unfold run2
  rw [g.v]
/-- An application at the second one. -/
theorem next_y (hA : R A) (hB : R B) (hC : R C) (j : JOk A B C x y) (h : next x y = some (r, y')) : JOk A B C x y' ∧ run2 A B C x y' = run2 A B C x y ∧ mu y' < mu y := by
  unfold next at h
  split at h
  case isFalse => cases h
  rename_i h2
  have e := rho_ok hA hB hC
  cases hx : exec (rho A B C) x with
  | some v =>
    have hv := exec_R e j.x hx
    have g := step_good (upd_ok e hv) (y := x) ⟨j.x, fun _ _ _ => by rw [exec_upd j.x, hx]; rfl⟩ h2 j.y (by decide) h
    refine ⟨⟨j.x, g.ok⟩, ?_, g.mu⟩
    unfold run2
    rw [hx, Option.bind_some, Option.bind_some, g.v]
  | none =>
    have g := step_good e (y := x) ⟨j.x, fun q q4 q5 => by
      rw [exec_of q] at hx
      have := none_kind (j.x.k1 q).1 (j.x.k1 q).2.1 hx
      omega⟩ h2 j.y (by decide) h
    refine ⟨⟨j.x, g.ok⟩, ?_, g.mu⟩
    unfold run2
    rw [hx, Option.bind_none, Option.bind_none]
theorem mu_le (h : IOk 3 x) : mu x ≤ 17 := by
  unfold mu
  split
  · omega
  · have : wt x.k ≤ 6 := by unfold wt; split; omega; split; omega; split <;> omega
    split <;> split <;> omega
theorem IOk.mono {m n : Int} (h : IOk m x) (hm : m ≤ n) : IOk n x := ⟨h.op, h.k0, fun q => ⟨(h.k1 q).1, (h.k1 q).2.1, (h.k1 q).2.2.mono hm⟩, h.a.mono hm⟩
end Go.Proofs.YtgoccionghehoaaGreatDoor.Pn
namespace Go.Proofs.YtgoccionghehoaaGreatDoor.Pn
open Go

/-- The count of applications. -/
def cnt : Option Nat → Nat
  | none => 0
  | some n => n
def inc (u : Option Nat) : Option Nat := some (cnt u + 1)
/-- As long as a rule can be applied. -/
def it (g : In → Option (Nat × In)) : Nat → In → Option Nat → In × Option Nat
  | 0, x, u => (x, u)
  | n + 1, x, u => match g x with
    | some p => it g n p.2 (inc u)
    | none => (x, u)
def gX (x : In) : Option (Nat × In) := next x x
def gY (x : In) (y : In) : Option (Nat × In) := next x y
theorem it_none {g : In → Option (Nat × In)} {x : In} (h : g x = none) (n : Nat) (u : Option Nat) : it g n x u = (x, u) := by
  cases n with
  | zero => rfl
  | succ n => simp only [it, h]
theorem it_some {g : In → Option (Nat × In)} {x x' : In} {r : Nat} (h : g x = some (r, x')) (n : Nat) (u : Option Nat) : it g (n + 1) x u = it g n x' (inc u) := by
  simp only [it, h]
variable {A B C : Int} {x y : In}
theorem next_mu {z : In} (h : mu x ≤ 0) : next z x = none := by
  unfold next
  split
  · rename_i q; have := mu_pos q; omega
  · rfl
structure XDone (A B C : Int) (x : In) (y : In) (u : Option Nat) (f : Nat) (p : In × Option Nat) : Prop where
  j : JOk A B C p.1 y
  n : next p.1 p.1 = none
  r : run2 A B C p.1 y = run2 A B C x y
  c : cnt p.2 ≤ cnt u + f
theorem it_x (hA : R A) (hB : R B) (hC : R C) : ∀ (f : Nat) (x : In) (u : Option Nat), JOk A B C x y → mu x ≤ f → XDone A B C x y u f (it gX f x u)
  | 0, x, u, j, h => ⟨j, next_mu h, rfl, Nat.le_refl _⟩
  | f + 1, x, u, j, h => by
    cases e : gX x with
    | none =>
      rw [it_none e]
      exact ⟨j, e, rfl, by show cnt u ≤ _; omega⟩
    | some p =>
      obtain ⟨r, x'⟩ := p
      rw [it_some e]
      obtain ⟨j', r', m'⟩ := next_x hA hB hC j e
      have := it_x hA hB hC f x' (inc u) j' (by omega)
      exact ⟨this.j, this.n, this.r.trans r', by have := this.c; simp only [inc, cnt] at this ⊢; omega⟩
structure YDone (A B C : Int) (x : In) (y : In) (u : Option Nat) (f : Nat) (p : In × Option Nat) : Prop where
  j : JOk A B C x p.1
  n : next x p.1 = none
  r : run2 A B C x p.1 = run2 A B C x y
  c : cnt p.2 ≤ cnt u + f
theorem it_y (hA : R A) (hB : R B) (hC : R C) : ∀ (f : Nat) (y : In) (u : Option Nat), JOk A B C x y → mu y ≤ f → YDone A B C x y u f (it (gY x) f y u)
  | 0, x, u, j, h => ⟨j, next_mu h, rfl, Nat.le_refl _⟩
  | f + 1, y, u, j, h => by
    cases e : gY x y with
    | none =>
      rw [it_none e]
      exact ⟨j, e, rfl, by show cnt u ≤ _; omega⟩
    | some p =>
      obtain ⟨r, y'⟩ := p
      rw [it_some e]
      obtain ⟨j', r', m'⟩ := next_y hA hB hC j e
      have := it_y hA hB hC f y' (inc u) j' (by omega)
      exact ⟨this.j, this.n, this.r.trans r', by have := this.c; simp only [inc, cnt] at this ⊢; omega⟩
structure St where
  x : In
  y : In
  u : Option Nat
/-- What is left of a pass comes to, from an index on. -/
def tot (i : Int) (f g : Nat) (s : St) : St :=
  if i ≤ 3 then
    (let p := it gX f s.x s.u; let q := it (gY p.1) g s.y p.2; ⟨p.1, q.1, q.2⟩)
  else if i ≤ 4 then (let q := it (gY s.x) g s.y s.u; ⟨s.x, q.1, q.2⟩) else s
/-- One pass. -/
def pass (s : St) : St := tot 0 20 20 s
structure SOk (A B C : Int) (s : St) : Prop where
  j : JOk A B C s.x s.y
structure Fin (A B C : Int) (s t : St) : Prop where
  j : JOk A B C t.x t.y
  nx : next t.x t.x = none
  ny : next t.x t.y = none
  r : run2 A B C t.x t.y = run2 A B C s.x s.y
  c : cnt t.u ≤ cnt s.u + 40
theorem pass_fin (hA : R A) (hB : R B) (hC : R C) {s : St} (j : JOk A B C s.x s.y) : Fin A B C s (pass s) := by
  have m3 := mu_le (j.x.mono (by decide : (2 : Int) ≤ 3))
  have m4 := mu_le j.y
  have a := it_x hA hB hC 20 s.x s.u j (by omega)
  have b := it_y hA hB hC 20 s.y (it gX 20 s.x s.u).2 a.j (by omega)
  exact ⟨b.j, a.n, b.n, b.r.trans a.r, by have := a.c; have := b.c; show cnt (it (gY (it gX 20 s.x s.u).1) 20 s.y (it gX 20 s.x s.u).2).2 ≤ _; omega⟩
theorem tot_id {s : St} {f g : Nat} (nx : next s.x s.x = none) (ny : next s.x s.y = none) (i : Int) : tot i f g s = s := by
  unfold tot
  have e : it gX f s.x s.u = (s.x, s.u) := it_none (g := gX) nx f s.u
  have e' : it (gY s.x) g s.y s.u = (s.y, s.u) := it_none (g := gY s.x) ny g s.u
  split
  · simp only [e, e']
  split
  · simp only [e']
  · rfl
theorem tot_n {s : St} {f g : Nat} {i : Int} (n3 : i = 3 → next s.x s.x = none) (n4 : i = 4 → next s.x s.y = none) : tot (i + 1) f g s = tot i f g s := by
  unfold tot
  by_cases h3 : i = 3
  · subst h3
    rw [if_neg (by omega), if_pos (by omega), if_pos (by omega)]
    have e : it gX f s.x s.u = (s.x, s.u) := it_none (g := gX) (n3 rfl) f s.u
    simp only [e]
  by_cases h4 : i = 4
  · subst h4
    rw [if_neg (by omega), if_neg (by omega), if_neg (by omega), if_pos (by omega)]
    have e' : it (gY s.x) g s.y s.u = (s.y, s.u) := it_none (g := gY s.x) (n4 rfl) g s.u
    simp only [e']
  by_cases hl : i ≤ 3
  · rw [if_pos (by omega), if_pos hl]
  · rw [if_neg (by omega), if_neg (by omega), if_neg (by omega), if_neg (by omega)]
theorem tot_3 {s : St} {f g r : Nat} {x' : In} (h : next s.x s.x = some (r, x')) : tot 3 f g ⟨x', s.y, inc s.u⟩ = tot 3 (f + 1) g s := by
  unfold tot
  rw [if_pos (by omega), if_pos (by omega)]
  have e : it gX (f + 1) s.x s.u = it gX f x' (inc s.u) := it_some (g := gX) h f s.u
  simp only [e]
theorem tot_4 {s : St} {f g r : Nat} {y' : In} (h : next s.x s.y = some (r, y')) : tot 4 f g ⟨s.x, y', inc s.u⟩ = tot 4 f (g + 1) s := by
  unfold tot
  rw [if_neg (by omega), if_pos (by omega), if_neg (by omega), if_pos (by omega)]
  have e : it (gY s.x) (g + 1) s.y s.u = it (gY s.x) g y' (inc s.u) := it_some (g := gY s.x) h g s.u
  simp only [e]
end Go.Proofs.YtgoccionghehoaaGreatDoor.Pn
