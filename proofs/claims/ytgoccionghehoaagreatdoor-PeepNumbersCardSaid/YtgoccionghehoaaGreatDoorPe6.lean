/- The reference's arithmetic, operands and registers. -/
import Derived.Test.YtgoccionghehoaaGreatDoorPe2
import Derived.Test.YtgoccionghehoaaGreatDoorEv6
set_option linter.unusedSimpArgs false
set_option linter.unusedVariables false
set_option linter.unusedSectionVars false
namespace Go.Proofs.YtgoccionghehoaaGreatDoor.Ev
open Go Go.Proofs

variable {W0 : World} [GOk W0]
theorem seen_pure {f : FuncId} {call : CallK} (hc : CallSound Tryz.prog W0 call) {l : List SV} {g : Tr SO} {sv : SV} (hb : hasBody Tryz.prog f = true)
    (H : ∀ (ne : Nat) (q : SV → Bool → Nat → Bool), q sv true ne = true → fnRunJ Tryz.prog f 100 call l ⟨g, 60, ne, 60⟩ (fun s h' => q s (Nat.ble h'.nx 200) h'.ne) = true) (ne : Nat) : CallOk Tryz.prog W0 f l ⟨g, 60, ne, 60⟩ ⟨.e, 200, ne, 60⟩ sv := by
  classical
  obtain ⟨sv', h', k1, g, c⟩ := fnRunJ_ok (W0 := W0) hc mixed hb (H ne (fun s b a => decide (s = sv ∧ b = true ∧ a = ne)) (by simp))
  obtain ⟨rfl, e2, e3⟩ := of_decide_eq_true k1
  have c2 := c.less (h'' := ⟨.e, 200, h'.ne, h'.bar⟩) (fun id o e => by cases e) (Nat.le_of_ble_eq_true e2) (Nat.le_refl _) g.nx (by rw [e3]; exact Nat.le_refl _)
  rw [e3, g.bar] at c2
  exact c2
noncomputable abbrev cN (W0 : World) [GOk W0] : CallK := callG Tryz.prog W0 [] 100 30
theorem cN_ok : CallSound Tryz.prog W0 (cN W0) := callG_ok mixed 30
theorem bif_i {c a b : Bool} (h1 : c = true → a = true) (h2 : c = false → b = true) : (bif c then a else b) = true := by
  cases c
  · exact h2 rfl
  · exact h1 rfl
theorem pure0 {f : FuncId} {l : List SV} {sv : SV} (hb : hasBody Tryz.prog f = true)
    (H : ∀ (ne : Nat) (q : SV → Bool → Nat → Bool), q sv true ne = true → fnRunJ Tryz.prog f 100 (cN W0) l ⟨.e, 60, ne, 60⟩ (fun s h' => q s (Nat.ble h'.nx 200) h'.ne) = true) (hl : svsPl (fun _ => false) l = true) (hs : svPl (fun _ => false) sv = true) (h : HS) : CallOk Tryz.prog W0 f l h h sv :=
  CallOk.pureAt (τ := fun i => i) (p0 := fun _ => false) (l := l) (seen_pure cN_ok hb H) ⟨fun id o e => (by cases e), fun id o e => (by cases e), fun id id' e => (by cases e)⟩ (fun id e => by cases e) (svsMap_id _) hl hs
/-- What the reference's arithmetic hands back. -/
noncomputable def binR (k a b : Int) : SV := .tup [I ((Pn.bin k a b).getD 0), .bool (Pn.bin k a b).isNone, I 0]
theorem shB (b : Int) : IntKind.u64.wrap (IntKind.i64.wrap ((BitVec.ofInt IntKind.i64.bits b &&& BitVec.ofInt IntKind.i64.bits 63).toNat : Int)) = (Pn.sh b : Int) := by
  rw [shW]
  have e : IntKind.u64.wrap (Pn.sh b : Int) = (Pn.sh b : Int) % 18446744073709551616 := by simp [IntKind.wrap, IntKind.signed, IntKind.bits]
  have := Pn.sh_lt b
  rw [e]
  omega
theorem andN (a b : Int) : IntKind.i64.wrap ((BitVec.ofInt IntKind.i64.bits a &&& BitVec.ofInt IntKind.i64.bits b).toNat : Int) = (Pn.B a &&& Pn.B b).toInt := by rw [← Pn.W_toNat]; rfl
theorem orN (a b : Int) : IntKind.i64.wrap ((BitVec.ofInt IntKind.i64.bits a ||| BitVec.ofInt IntKind.i64.bits b).toNat : Int) = (Pn.B a ||| Pn.B b).toInt := by rw [← Pn.W_toNat]; rfl
theorem xorN (a b : Int) : IntKind.i64.wrap ((BitVec.ofInt IntKind.i64.bits a ^^^ BitVec.ofInt IntKind.i64.bits b).toNat : Int) = (Pn.B a ^^^ Pn.B b).toInt := by rw [← Pn.W_toNat]; rfl
theorem trB1 (a b : Int) (ne : Nat) (q : SV → Bool → Nat → Bool) : fnRunJ Tryz.prog 226 100 (cN W0) [I 1, I a, I b] ⟨.e, 60, ne, 60⟩ (fun s h' => q s (Nat.ble h'.nx 200) h'.ne) = (fun Q : SV → Bool => Q (.tup [I (IntKind.i64.wrap (a + b)), .bool false, I 0])) (fun s => q s true ne) := by kernel_rfl
theorem bin1_ok (a b : Int) (h : HS) : CallOk Tryz.prog W0 226 [I 1, I a, I b] h h (binR 1 a b) := by
  refine pure0 (by kernel_rfl) (fun ne q hq => (trB1 a b ne q).trans ?_) rfl rfl h
  have hq : (fun s => q s true ne) (binR 1 a b) = true := hq
  generalize (fun s => q s true ne) = Q at hq ⊢
  simp only [binR] at hq ⊢
  exact hq
theorem trB2 (a b : Int) (ne : Nat) (q : SV → Bool → Nat → Bool) : fnRunJ Tryz.prog 226 100 (cN W0) [I 2, I a, I b] ⟨.e, 60, ne, 60⟩ (fun s h' => q s (Nat.ble h'.nx 200) h'.ne) = (fun Q : SV → Bool => Q (.tup [I (IntKind.i64.wrap (a - b)), .bool false, I 0])) (fun s => q s true ne) := by kernel_rfl
theorem bin2_ok (a b : Int) (h : HS) : CallOk Tryz.prog W0 226 [I 2, I a, I b] h h (binR 2 a b) := by
  refine pure0 (by kernel_rfl) (fun ne q hq => (trB2 a b ne q).trans ?_) rfl rfl h
  have hq : (fun s => q s true ne) (binR 2 a b) = true := hq
  generalize (fun s => q s true ne) = Q at hq ⊢
  simp only [binR] at hq ⊢
  exact hq
theorem trB3 (a b : Int) (ne : Nat) (q : SV → Bool → Nat → Bool) : fnRunJ Tryz.prog 226 100 (cN W0) [I 3, I a, I b] ⟨.e, 60, ne, 60⟩ (fun s h' => q s (Nat.ble h'.nx 200) h'.ne) = (fun Q : SV → Bool => Q (.tup [I (IntKind.i64.wrap (a * b)), .bool false, I 0])) (fun s => q s true ne) := by kernel_rfl
theorem bin3_ok (a b : Int) (h : HS) : CallOk Tryz.prog W0 226 [I 3, I a, I b] h h (binR 3 a b) := by
  refine pure0 (by kernel_rfl) (fun ne q hq => (trB3 a b ne q).trans ?_) rfl rfl h
  have hq : (fun s => q s true ne) (binR 3 a b) = true := hq
  generalize (fun s => q s true ne) = Q at hq ⊢
  simp only [binR] at hq ⊢
  exact hq
theorem trB4 (a b : Int) (ne : Nat) (q : SV → Bool → Nat → Bool) : fnRunJ Tryz.prog 226 100 (cN W0) [I 4, I a, I b] ⟨.e, 60, ne, 60⟩ (fun s h' => q s (Nat.ble h'.nx 200) h'.ne) = (fun Q : SV → Bool => bif b == 0 then Q (.tup [I 0, .bool true, I 0]) else bif b == -1 then Q (.tup [I (IntKind.i64.wrap (0 - a)), .bool false, I 0]) else bif b == 0 then false else Q (.tup [I (IntKind.i64.wrap (a.tdiv b)), .bool false, I 0])) (fun s => q s true ne) := by kernel_rfl
theorem bin4_ok (a b : Int) (h : HS) : CallOk Tryz.prog W0 226 [I 4, I a, I b] h h (binR 4 a b) := by
  refine pure0 (by kernel_rfl) (fun ne q hq => (trB4 a b ne q).trans ?_) rfl rfl h
  have hq : (fun s => q s true ne) (binR 4 a b) = true := hq
  generalize (fun s => q s true ne) = Q at hq ⊢
  simp only [binR] at hq ⊢
  rw [Pn.bin4] at hq
  by_cases h0 : b = 0
  · subst h0; exact hq
  rw [if_neg h0] at hq
  have e0 : (b == 0) = false := by simpa using h0
  by_cases h1 : b = -1
  · subst h1
    rw [if_pos rfl] at hq
    rw [e0]
    show Q _ = true
    rw [Int.zero_sub]
    exact hq
  rw [if_neg h1] at hq
  rw [e0, show (b == -1) = false by simpa using h1]
  exact hq
theorem trB5 (a b : Int) (ne : Nat) (q : SV → Bool → Nat → Bool) : fnRunJ Tryz.prog 226 100 (cN W0) [I 5, I a, I b] ⟨.e, 60, ne, 60⟩ (fun s h' => q s (Nat.ble h'.nx 200) h'.ne) = (fun Q : SV → Bool => bif b == 0 then Q (.tup [I 0, .bool true, I 0]) else bif b == -1 then Q (.tup [I (0), .bool false, I 0]) else bif b == 0 then false else Q (.tup [I (a.tmod b), .bool false, I 0])) (fun s => q s true ne) := by kernel_rfl
theorem bin5_ok (a b : Int) (h : HS) : CallOk Tryz.prog W0 226 [I 5, I a, I b] h h (binR 5 a b) := by
  refine pure0 (by kernel_rfl) (fun ne q hq => (trB5 a b ne q).trans ?_) rfl rfl h
  have hq : (fun s => q s true ne) (binR 5 a b) = true := hq
  generalize (fun s => q s true ne) = Q at hq ⊢
  simp only [binR] at hq ⊢
  rw [Pn.bin5] at hq
  by_cases h0 : b = 0
  · subst h0; exact hq
  rw [if_neg h0] at hq
  have e0 : (b == 0) = false := by simpa using h0
  by_cases h1 : b = -1
  · subst h1
    rw [if_pos rfl] at hq
    rw [e0]
    exact hq
  rw [if_neg h1] at hq
  rw [e0, show (b == -1) = false by simpa using h1]
  exact hq
theorem trB6 (a b : Int) (ne : Nat) (q : SV → Bool → Nat → Bool) : fnRunJ Tryz.prog 226 100 (cN W0) [I 6, I a, I b] ⟨.e, 60, ne, 60⟩ (fun s h' => q s (Nat.ble h'.nx 200) h'.ne) = (fun Q : SV → Bool => Q (.tup [I (IntKind.i64.wrap ((BitVec.ofInt IntKind.i64.bits a &&& BitVec.ofInt IntKind.i64.bits b).toNat : Int)), .bool false, I 0])) (fun s => q s true ne) := by kernel_rfl
theorem bin6_ok (a b : Int) (h : HS) : CallOk Tryz.prog W0 226 [I 6, I a, I b] h h (binR 6 a b) := by
  refine pure0 (by kernel_rfl) (fun ne q hq => (trB6 a b ne q).trans ?_) rfl rfl h
  have hq : (fun s => q s true ne) (binR 6 a b) = true := hq
  generalize (fun s => q s true ne) = Q at hq ⊢
  simp only [binR] at hq ⊢
  rw [andN]; exact hq
theorem trB7 (a b : Int) (ne : Nat) (q : SV → Bool → Nat → Bool) : fnRunJ Tryz.prog 226 100 (cN W0) [I 7, I a, I b] ⟨.e, 60, ne, 60⟩ (fun s h' => q s (Nat.ble h'.nx 200) h'.ne) = (fun Q : SV → Bool => Q (.tup [I (IntKind.i64.wrap ((BitVec.ofInt IntKind.i64.bits a ||| BitVec.ofInt IntKind.i64.bits b).toNat : Int)), .bool false, I 0])) (fun s => q s true ne) := by kernel_rfl
theorem bin7_ok (a b : Int) (h : HS) : CallOk Tryz.prog W0 226 [I 7, I a, I b] h h (binR 7 a b) := by
  refine pure0 (by kernel_rfl) (fun ne q hq => (trB7 a b ne q).trans ?_) rfl rfl h
  have hq : (fun s => q s true ne) (binR 7 a b) = true := hq
  generalize (fun s => q s true ne) = Q at hq ⊢
  simp only [binR] at hq ⊢
  rw [orN]; exact hq
theorem trB8 (a b : Int) (ne : Nat) (q : SV → Bool → Nat → Bool) : fnRunJ Tryz.prog 226 100 (cN W0) [I 8, I a, I b] ⟨.e, 60, ne, 60⟩ (fun s h' => q s (Nat.ble h'.nx 200) h'.ne) = (fun Q : SV → Bool => Q (.tup [I (IntKind.i64.wrap ((BitVec.ofInt IntKind.i64.bits a ^^^ BitVec.ofInt IntKind.i64.bits b).toNat : Int)), .bool false, I 0])) (fun s => q s true ne) := by kernel_rfl
theorem bin8_ok (a b : Int) (h : HS) : CallOk Tryz.prog W0 226 [I 8, I a, I b] h h (binR 8 a b) := by
  refine pure0 (by kernel_rfl) (fun ne q hq => (trB8 a b ne q).trans ?_) rfl rfl h
  have hq : (fun s => q s true ne) (binR 8 a b) = true := hq
  generalize (fun s => q s true ne) = Q at hq ⊢
  simp only [binR] at hq ⊢
  rw [xorN]; exact hq
theorem trB9 (a b : Int) (ne : Nat) (q : SV → Bool → Nat → Bool) : fnRunJ Tryz.prog 226 100 (cN W0) [I 9, I a, I b] ⟨.e, 60, ne, 60⟩ (fun s h' => q s (Nat.ble h'.nx 200) h'.ne) = (fun Q : SV → Bool => bif decide ((IntKind.u64.wrap (IntKind.i64.wrap ((BitVec.ofInt IntKind.i64.bits b &&& BitVec.ofInt IntKind.i64.bits 63).toNat : Int))) < 0) then false else Q (.tup [I (IntKind.i64.wrap (a * 2 ^ min ((IntKind.u64.wrap (IntKind.i64.wrap ((BitVec.ofInt IntKind.i64.bits b &&& BitVec.ofInt IntKind.i64.bits 63).toNat : Int)))).toNat IntKind.i64.bits)), .bool false, I 0])) (fun s => q s true ne) := by kernel_rfl
theorem bin9_ok (a b : Int) (h : HS) : CallOk Tryz.prog W0 226 [I 9, I a, I b] h h (binR 9 a b) := by
  refine pure0 (by kernel_rfl) (fun ne q hq => (trB9 a b ne q).trans ?_) rfl rfl h
  have hq : (fun s => q s true ne) (binR 9 a b) = true := hq
  generalize (fun s => q s true ne) = Q at hq ⊢
  simp only [binR] at hq ⊢
  rw [shB, decide_eq_false (by omega), cond_false, Int.toNat_natCast, Nat.min_eq_left (by have := Pn.sh_lt b; show Pn.sh b ≤ 64; omega)]
  exact hq
theorem trB10 (a b : Int) (ne : Nat) (q : SV → Bool → Nat → Bool) : fnRunJ Tryz.prog 226 100 (cN W0) [I 10, I a, I b] ⟨.e, 60, ne, 60⟩ (fun s h' => q s (Nat.ble h'.nx 200) h'.ne) = (fun Q : SV → Bool => bif decide ((IntKind.u64.wrap (IntKind.i64.wrap ((BitVec.ofInt IntKind.i64.bits b &&& BitVec.ofInt IntKind.i64.bits 63).toNat : Int))) < 0) then false else Q (.tup [I (a.fdiv (2 ^ min ((IntKind.u64.wrap (IntKind.i64.wrap ((BitVec.ofInt IntKind.i64.bits b &&& BitVec.ofInt IntKind.i64.bits 63).toNat : Int)))).toNat IntKind.i64.bits)), .bool false, I 0])) (fun s => q s true ne) := by kernel_rfl
theorem bin10_ok (a b : Int) (h : HS) : CallOk Tryz.prog W0 226 [I 10, I a, I b] h h (binR 10 a b) := by
  refine pure0 (by kernel_rfl) (fun ne q hq => (trB10 a b ne q).trans ?_) rfl rfl h
  have hq : (fun s => q s true ne) (binR 10 a b) = true := hq
  generalize (fun s => q s true ne) = Q at hq ⊢
  simp only [binR] at hq ⊢
  rw [shB, decide_eq_false (by omega), cond_false, Int.toNat_natCast, Nat.min_eq_left (by have := Pn.sh_lt b; show Pn.sh b ≤ 64; omega)]
  exact hq
theorem trB11 (a b : Int) (ne : Nat) (q : SV → Bool → Nat → Bool) : fnRunJ Tryz.prog 226 100 (cN W0) [I 11, I a, I b] ⟨.e, 60, ne, 60⟩ (fun s h' => q s (Nat.ble h'.nx 200) h'.ne) = (fun Q : SV → Bool => bif a == b then Q (.tup [I (1), .bool false, I 0]) else Q (.tup [I (0), .bool false, I 0])) (fun s => q s true ne) := by kernel_rfl
theorem bin11_ok (a b : Int) (h : HS) : CallOk Tryz.prog W0 226 [I 11, I a, I b] h h (binR 11 a b) := by
  refine pure0 (by kernel_rfl) (fun ne q hq => (trB11 a b ne q).trans ?_) rfl rfl h
  have hq : (fun s => q s true ne) (binR 11 a b) = true := hq
  generalize (fun s => q s true ne) = Q at hq ⊢
  simp only [binR] at hq ⊢
  rw [Pn.bin11] at hq; cases h : (a == b) <;> rw [h] at hq <;> exact hq
theorem trB12 (a b : Int) (ne : Nat) (q : SV → Bool → Nat → Bool) : fnRunJ Tryz.prog 226 100 (cN W0) [I 12, I a, I b] ⟨.e, 60, ne, 60⟩ (fun s h' => q s (Nat.ble h'.nx 200) h'.ne) = (fun Q : SV → Bool => bif a != b then Q (.tup [I (1), .bool false, I 0]) else Q (.tup [I (0), .bool false, I 0])) (fun s => q s true ne) := by kernel_rfl
theorem bin12_ok (a b : Int) (h : HS) : CallOk Tryz.prog W0 226 [I 12, I a, I b] h h (binR 12 a b) := by
  refine pure0 (by kernel_rfl) (fun ne q hq => (trB12 a b ne q).trans ?_) rfl rfl h
  have hq : (fun s => q s true ne) (binR 12 a b) = true := hq
  generalize (fun s => q s true ne) = Q at hq ⊢
  simp only [binR] at hq ⊢
  rw [Pn.bin12] at hq; cases h : (a != b) <;> rw [h] at hq <;> exact hq
theorem trB13 (a b : Int) (ne : Nat) (q : SV → Bool → Nat → Bool) : fnRunJ Tryz.prog 226 100 (cN W0) [I 13, I a, I b] ⟨.e, 60, ne, 60⟩ (fun s h' => q s (Nat.ble h'.nx 200) h'.ne) = (fun Q : SV → Bool => bif decide (a < b) then Q (.tup [I (1), .bool false, I 0]) else Q (.tup [I (0), .bool false, I 0])) (fun s => q s true ne) := by kernel_rfl
theorem bin13_ok (a b : Int) (h : HS) : CallOk Tryz.prog W0 226 [I 13, I a, I b] h h (binR 13 a b) := by
  refine pure0 (by kernel_rfl) (fun ne q hq => (trB13 a b ne q).trans ?_) rfl rfl h
  have hq : (fun s => q s true ne) (binR 13 a b) = true := hq
  generalize (fun s => q s true ne) = Q at hq ⊢
  simp only [binR] at hq ⊢
  rw [Pn.bin13] at hq; cases h : decide (a < b) <;> rw [h] at hq <;> exact hq
theorem trB14 (a b : Int) (ne : Nat) (q : SV → Bool → Nat → Bool) : fnRunJ Tryz.prog 226 100 (cN W0) [I 14, I a, I b] ⟨.e, 60, ne, 60⟩ (fun s h' => q s (Nat.ble h'.nx 200) h'.ne) = (fun Q : SV → Bool => bif decide (a ≤ b) then Q (.tup [I (1), .bool false, I 0]) else Q (.tup [I (0), .bool false, I 0])) (fun s => q s true ne) := by kernel_rfl
theorem bin14_ok (a b : Int) (h : HS) : CallOk Tryz.prog W0 226 [I 14, I a, I b] h h (binR 14 a b) := by
  refine pure0 (by kernel_rfl) (fun ne q hq => (trB14 a b ne q).trans ?_) rfl rfl h
  have hq : (fun s => q s true ne) (binR 14 a b) = true := hq
  generalize (fun s => q s true ne) = Q at hq ⊢
  simp only [binR] at hq ⊢
  rw [Pn.bin14] at hq; cases h : decide (a ≤ b) <;> rw [h] at hq <;> exact hq
theorem bin_ok {k : Int} (h1 : 1 ≤ k) (h2 : k ≤ 14) (a b : Int) (h : HS) : CallOk Tryz.prog W0 226 [I k, I a, I b] h h (binR k a b) := by
  rcases Pn.kinds h1 h2 with rfl | rfl | rfl | rfl | rfl | rfl | rfl | rfl | rfl | rfl | rfl | rfl | rfl | rfl
  · exact bin1_ok a b h
  · exact bin2_ok a b h
  · exact bin3_ok a b h
  · exact bin4_ok a b h
  · exact bin5_ok a b h
  · exact bin6_ok a b h
  · exact bin7_ok a b h
  · exact bin8_ok a b h
  · exact bin9_ok a b h
  · exact bin10_ok a b h
  · exact bin11_ok a b h
  · exact bin12_ok a b h
  · exact bin13_ok a b h
  · exact bin14_ok a b h
/-- The register's number and the immediate. -/
theorem CallOk.rngs {f : FuncId} {h h' : HS} {sv : SV} {lo hi r i : Int} {a : SV} (c : lo ≤ r → r ≤ hi → CallOk Tryz.prog W0 f [a, .agg [I r, I i]] h h' sv) : CallOk Tryz.prog W0 f [a, .agg [.rng lo hi r, .int .i64 i]] h h' sv := by
  intro E w vl rel fe hv R hR
  by_cases q : lo ≤ r ∧ r ≤ hi
  · have e : vals E [a, .agg [.rng lo hi r, .int .i64 i]] = vals E [a, .agg [I r, I i]] := by
      simp only [vals, val, I, if_pos q]
    rw [e] at hv
    exact c q.1 q.2 E w vl rel fe hv R hR
  · simp only [vals, val, if_neg q, Option.bind_none, Option.map_none, Option.bind_fun_none] at hv
    cases hv
/-- An operand is right. -/
noncomputable def opdR (r i : Int) : SV := .bool (decide (r < 0) || i == 0)
theorem trOsm (s : ByteArray) (p i : Int) (e : Bool) (ne : Nat) (q : SV → Bool → Nat → Bool) : fnRunJ Tryz.prog 220 100 (cN W0) [.agg [.lit (.string s), I p, I 5, .bool e, nilS, .sl 43 0 1 1], .agg [I (-1), I i]] ⟨.e, 60, ne, 60⟩ (fun s h' => q s (Nat.ble h'.nx 200) h'.ne) = q (.bool true) true ne := by kernel_rfl
theorem trOs0 (s : ByteArray) (p i : Int) (e : Bool) (ne : Nat) (q : SV → Bool → Nat → Bool) : fnRunJ Tryz.prog 220 100 (cN W0) [.agg [.lit (.string s), I p, I 5, .bool e, nilS, .sl 43 0 1 1], .agg [I (0), I i]] ⟨.e, 60, ne, 60⟩ (fun s h' => q s (Nat.ble h'.nx 200) h'.ne) = bif i == 0 then q (.bool true) true ne else q (.bool false) true ne := by kernel_rfl
theorem trOs1 (s : ByteArray) (p i : Int) (e : Bool) (ne : Nat) (q : SV → Bool → Nat → Bool) : fnRunJ Tryz.prog 220 100 (cN W0) [.agg [.lit (.string s), I p, I 5, .bool e, nilS, .sl 43 0 1 1], .agg [I (1), I i]] ⟨.e, 60, ne, 60⟩ (fun s h' => q s (Nat.ble h'.nx 200) h'.ne) = bif i == 0 then q (.bool true) true ne else q (.bool false) true ne := by kernel_rfl
theorem trOs2 (s : ByteArray) (p i : Int) (e : Bool) (ne : Nat) (q : SV → Bool → Nat → Bool) : fnRunJ Tryz.prog 220 100 (cN W0) [.agg [.lit (.string s), I p, I 5, .bool e, nilS, .sl 43 0 1 1], .agg [I (2), I i]] ⟨.e, 60, ne, 60⟩ (fun s h' => q s (Nat.ble h'.nx 200) h'.ne) = bif i == 0 then q (.bool true) true ne else q (.bool false) true ne := by kernel_rfl
theorem trOs3 (s : ByteArray) (p i : Int) (e : Bool) (ne : Nat) (q : SV → Bool → Nat → Bool) : fnRunJ Tryz.prog 220 100 (cN W0) [.agg [.lit (.string s), I p, I 5, .bool e, nilS, .sl 43 0 1 1], .agg [I (3), I i]] ⟨.e, 60, ne, 60⟩ (fun s h' => q s (Nat.ble h'.nx 200) h'.ne) = bif i == 0 then q (.bool true) true ne else q (.bool false) true ne := by kernel_rfl
theorem trOrm (s : ByteArray) (p i : Int) (e : Bool) (ne : Nat) (q : SV → Bool → Nat → Bool) : fnRunJ Tryz.prog 220 100 (cN W0) [.agg [.lit (.string s), I p, I 5, .bool e, nilS, .slr 43 0 1 0], .agg [I (-1), I i]] ⟨.e, 60, ne, 60⟩ (fun s h' => q s (Nat.ble h'.nx 200) h'.ne) = q (.bool true) true ne := by kernel_rfl
theorem trOr0 (s : ByteArray) (p i : Int) (e : Bool) (ne : Nat) (q : SV → Bool → Nat → Bool) : fnRunJ Tryz.prog 220 100 (cN W0) [.agg [.lit (.string s), I p, I 5, .bool e, nilS, .slr 43 0 1 0], .agg [I (0), I i]] ⟨.e, 60, ne, 60⟩ (fun s h' => q s (Nat.ble h'.nx 200) h'.ne) = bif i == 0 then q (.bool true) true ne else q (.bool false) true ne := by kernel_rfl
theorem trOr1 (s : ByteArray) (p i : Int) (e : Bool) (ne : Nat) (q : SV → Bool → Nat → Bool) : fnRunJ Tryz.prog 220 100 (cN W0) [.agg [.lit (.string s), I p, I 5, .bool e, nilS, .slr 43 0 1 0], .agg [I (1), I i]] ⟨.e, 60, ne, 60⟩ (fun s h' => q s (Nat.ble h'.nx 200) h'.ne) = bif i == 0 then q (.bool true) true ne else q (.bool false) true ne := by kernel_rfl
theorem trOr2 (s : ByteArray) (p i : Int) (e : Bool) (ne : Nat) (q : SV → Bool → Nat → Bool) : fnRunJ Tryz.prog 220 100 (cN W0) [.agg [.lit (.string s), I p, I 5, .bool e, nilS, .slr 43 0 1 0], .agg [I (2), I i]] ⟨.e, 60, ne, 60⟩ (fun s h' => q s (Nat.ble h'.nx 200) h'.ne) = bif i == 0 then q (.bool true) true ne else q (.bool false) true ne := by kernel_rfl
theorem trOr3 (s : ByteArray) (p i : Int) (e : Bool) (ne : Nat) (q : SV → Bool → Nat → Bool) : fnRunJ Tryz.prog 220 100 (cN W0) [.agg [.lit (.string s), I p, I 5, .bool e, nilS, .slr 43 0 1 0], .agg [I (3), I i]] ⟨.e, 60, ne, 60⟩ (fun s h' => q s (Nat.ble h'.nx 200) h'.ne) = bif i == 0 then q (.bool true) true ne else q (.bool false) true ne := by kernel_rfl
theorem bif_q (c : Bool) (q : SV → Bool → Nat → Bool) (t : Bool) (n : Nat) : (bif c then q (.bool true) t n else q (.bool false) t n) = q (.bool c) t n := by cases c <;> rfl
theorem bif_someS {c : Bool} {x y : SV} (h : (bif c then some x else none) = some y) : c = true ∧ x = y := by
  cases c
  · cases h
  · exact ⟨rfl, Option.some.inj h⟩
def τ1 (b : Nat) (i : Nat) : Nat := bif Nat.beq i 43 then b else i
noncomputable def opdE : List SV → HS → Option SV := fun l h => match l with
  | [.agg [.lit (.string s), .int .i64 p, .int .i64 n, .bool e, .lit (.slice none 0 0), bl], .agg [.rng lo hi r, .int .i64 i]] => (match bl with
    | .sl b 0 1 1 => bif n == 5 && (lo == -1 && hi == 3) then some (opdR r i) else none
    | .slr b 0 1 0 => bif n == 5 && (lo == -1 && hi == 3) then some (opdR r i) else none
    | _ => none)
  | _ => none
theorem r_cases {r : Int} (h1 : -1 ≤ r) (h2 : r ≤ 3) : r = -1 ∨ r = 0 ∨ r = 1 ∨ r = 2 ∨ r = 3 := by omega
theorem one43 {id id' : Nat} (h : Nat.beq id 43 = true) (h' : Nat.beq id' 43 = true) : id = id' := by rw [Nat.eq_of_beq_eq_true h, Nat.eq_of_beq_eq_true h']
theorem opdS_ok (s : ByteArray) (p i r : Int) (e : Bool) (b : Nat) (h : HS) : CallOk Tryz.prog W0 220 [.agg [.lit (.string s), .int .i64 p, .int .i64 5, .bool e, .lit (.slice none 0 0), .sl b 0 1 1], .agg [.rng (-1) 3 r, .int .i64 i]] h h (opdR r i) := by
  refine CallOk.rngs fun h1 h2 => ?_
  rcases r_cases h1 h2 with rfl | rfl | rfl | rfl | rfl
  · exact CallOk.pureAt (τ := τ1 b) (p0 := fun i => Nat.beq i 43) (l := [.agg [.lit (.string s), I p, I 5, .bool e, nilS, .sl 43 0 1 1], .agg [I (-1), I i]]) (seen_pure cN_ok (by kernel_rfl) fun ne q hq => (trOsm s p i e ne q).trans hq) ⟨fun id o e => (by cases e), fun id o e => (by cases e), fun id id' e e' _ => one43 e e'⟩ (fun id e => by rw [Nat.eq_of_beq_eq_true e]; decide) rfl rfl rfl
  · exact CallOk.pureAt (τ := τ1 b) (p0 := fun i => Nat.beq i 43) (l := [.agg [.lit (.string s), I p, I 5, .bool e, nilS, .sl 43 0 1 1], .agg [I (0), I i]]) (seen_pure cN_ok (by kernel_rfl) fun ne q hq => (trOs0 s p i e ne q).trans ((bif_q _ _ _ _).trans hq)) ⟨fun id o e => (by cases e), fun id o e => (by cases e), fun id id' e e' _ => one43 e e'⟩ (fun id e => by rw [Nat.eq_of_beq_eq_true e]; decide) rfl rfl rfl
  · exact CallOk.pureAt (τ := τ1 b) (p0 := fun i => Nat.beq i 43) (l := [.agg [.lit (.string s), I p, I 5, .bool e, nilS, .sl 43 0 1 1], .agg [I (1), I i]]) (seen_pure cN_ok (by kernel_rfl) fun ne q hq => (trOs1 s p i e ne q).trans ((bif_q _ _ _ _).trans hq)) ⟨fun id o e => (by cases e), fun id o e => (by cases e), fun id id' e e' _ => one43 e e'⟩ (fun id e => by rw [Nat.eq_of_beq_eq_true e]; decide) rfl rfl rfl
  · exact CallOk.pureAt (τ := τ1 b) (p0 := fun i => Nat.beq i 43) (l := [.agg [.lit (.string s), I p, I 5, .bool e, nilS, .sl 43 0 1 1], .agg [I (2), I i]]) (seen_pure cN_ok (by kernel_rfl) fun ne q hq => (trOs2 s p i e ne q).trans ((bif_q _ _ _ _).trans hq)) ⟨fun id o e => (by cases e), fun id o e => (by cases e), fun id id' e e' _ => one43 e e'⟩ (fun id e => by rw [Nat.eq_of_beq_eq_true e]; decide) rfl rfl rfl
  · exact CallOk.pureAt (τ := τ1 b) (p0 := fun i => Nat.beq i 43) (l := [.agg [.lit (.string s), I p, I 5, .bool e, nilS, .sl 43 0 1 1], .agg [I (3), I i]]) (seen_pure cN_ok (by kernel_rfl) fun ne q hq => (trOs3 s p i e ne q).trans ((bif_q _ _ _ _).trans hq)) ⟨fun id o e => (by cases e), fun id o e => (by cases e), fun id id' e e' _ => one43 e e'⟩ (fun id e => by rw [Nat.eq_of_beq_eq_true e]; decide) rfl rfl rfl
theorem opdR_ok (s : ByteArray) (p i r : Int) (e : Bool) (b : Nat) (h : HS) : CallOk Tryz.prog W0 220 [.agg [.lit (.string s), .int .i64 p, .int .i64 5, .bool e, .lit (.slice none 0 0), .slr b 0 1 0], .agg [.rng (-1) 3 r, .int .i64 i]] h h (opdR r i) := by
  refine CallOk.rngs fun h1 h2 => ?_
  rcases r_cases h1 h2 with rfl | rfl | rfl | rfl | rfl
  · exact CallOk.pureAt (τ := τ1 b) (p0 := fun i => Nat.beq i 43) (l := [.agg [.lit (.string s), I p, I 5, .bool e, nilS, .slr 43 0 1 0], .agg [I (-1), I i]]) (seen_pure cN_ok (by kernel_rfl) fun ne q hq => (trOrm s p i e ne q).trans hq) ⟨fun id o e => (by cases e), fun id o e => (by cases e), fun id id' e e' _ => one43 e e'⟩ (fun id e => by rw [Nat.eq_of_beq_eq_true e]; decide) rfl rfl rfl
  · exact CallOk.pureAt (τ := τ1 b) (p0 := fun i => Nat.beq i 43) (l := [.agg [.lit (.string s), I p, I 5, .bool e, nilS, .slr 43 0 1 0], .agg [I (0), I i]]) (seen_pure cN_ok (by kernel_rfl) fun ne q hq => (trOr0 s p i e ne q).trans ((bif_q _ _ _ _).trans hq)) ⟨fun id o e => (by cases e), fun id o e => (by cases e), fun id id' e e' _ => one43 e e'⟩ (fun id e => by rw [Nat.eq_of_beq_eq_true e]; decide) rfl rfl rfl
  · exact CallOk.pureAt (τ := τ1 b) (p0 := fun i => Nat.beq i 43) (l := [.agg [.lit (.string s), I p, I 5, .bool e, nilS, .slr 43 0 1 0], .agg [I (1), I i]]) (seen_pure cN_ok (by kernel_rfl) fun ne q hq => (trOr1 s p i e ne q).trans ((bif_q _ _ _ _).trans hq)) ⟨fun id o e => (by cases e), fun id o e => (by cases e), fun id id' e e' _ => one43 e e'⟩ (fun id e => by rw [Nat.eq_of_beq_eq_true e]; decide) rfl rfl rfl
  · exact CallOk.pureAt (τ := τ1 b) (p0 := fun i => Nat.beq i 43) (l := [.agg [.lit (.string s), I p, I 5, .bool e, nilS, .slr 43 0 1 0], .agg [I (2), I i]]) (seen_pure cN_ok (by kernel_rfl) fun ne q hq => (trOr2 s p i e ne q).trans ((bif_q _ _ _ _).trans hq)) ⟨fun id o e => (by cases e), fun id o e => (by cases e), fun id id' e e' _ => one43 e e'⟩ (fun id e => by rw [Nat.eq_of_beq_eq_true e]; decide) rfl rfl rfl
  · exact CallOk.pureAt (τ := τ1 b) (p0 := fun i => Nat.beq i 43) (l := [.agg [.lit (.string s), I p, I 5, .bool e, nilS, .slr 43 0 1 0], .agg [I (3), I i]]) (seen_pure cN_ok (by kernel_rfl) fun ne q hq => (trOr3 s p i e ne q).trans ((bif_q _ _ _ _).trans hq)) ⟨fun id o e => (by cases e), fun id o e => (by cases e), fun id id' e e' _ => one43 e e'⟩ (fun id e => by rw [Nat.eq_of_beq_eq_true e]; decide) rfl rfl rfl
theorem opdE_ok (l : List SV) (h : HS) (sv : SV) (e : opdE l h = some sv) : CallOk Tryz.prog W0 220 l h h sv := by
  unfold opdE at e
  split at e
  case h_2 => cases e
  split at e
  · obtain ⟨hq, rfl⟩ := bif_someS e
    simp only [Bool.and_eq_true, beq_iff_eq] at hq
    obtain ⟨rfl, rfl, rfl⟩ := hq
    exact opdS_ok _ _ _ _ _ _ h
  · obtain ⟨hq, rfl⟩ := bif_someS e
    simp only [Bool.and_eq_true, beq_iff_eq] at hq
    obtain ⟨rfl, rfl, rfl⟩ := hq
    exact opdR_ok _ _ _ _ _ _ h
  · cases e
/-- A register's value. -/
def rhoL (l : List Int) (r : Int) : Int := l.getD r.toNat 0
def valR (l : List Int) (r i : Int) : SV := .int .i64 (bif decide (r < 0) then i else rhoL l r)
def blId : SV → Option Nat
  | .sl b 0 1 1 => some b
  | .slr b 0 1 0 => some b
  | _ => none
noncomputable def valE : List SV → HS → Option SV := fun l h => match l with
  | [.ptr x 0, .agg [.rng lo hi r, .int .i64 i]] => (match rowL (h.hp.get x) with
    | some (0, [.lit s, .int .i64 p, .int .i64 n, .bool e, .lit a, bl, .sl g 0 5 5, .lit z]) => (match rowL (h.hp.get g) with
      | some (0, [.int .i64 a0, .int .i64 a1, .int .i64 a2, .int .i64 a3, .int .i64 a4]) => (match blId bl with
        | some b => bif (lo == -1 && hi == 3) && (!(Nat.beq x g) && (!(Nat.beq x b) && !(Nat.beq g b))) then some (valR [a0, a1, a2, a3, a4] r i) else none
        | none => none)
      | _ => none)
    | _ => none)
  | _ => none
noncomputable def HV (s : Value) (p n : Int) (e : Bool) (a : Value) (bl : SV) (z : Value) (a0 a1 a2 a3 a4 : Int) : Tr SO := (Tr.e.put 41 (rowO 0 [.lit s, I p, I n, .bool e, .lit a, bl, .sl 42 0 5 5, .lit z])).put 42 (rowO 0 [I a0, I a1, I a2, I a3, I a4])
theorem trVm (s : Value) (p n : Int) (e : Bool) (a : Value) (bl : SV) (z : Value) (a0 a1 a2 a3 a4 i : Int) (ne : Nat) (q : SV → Bool → Nat → Bool) : fnRunJ Tryz.prog 135 100 (cN W0) [.ptr 41 0, .agg [I (-1), I i]] ⟨HV s p n e a bl z a0 a1 a2 a3 a4, 60, ne, 60⟩ (fun s h' => q s (Nat.ble h'.nx 200) h'.ne) = q (I i) true ne := by kernel_rfl
theorem trV0 (s : Value) (p n : Int) (e : Bool) (a : Value) (bl : SV) (z : Value) (a0 a1 a2 a3 a4 i : Int) (ne : Nat) (q : SV → Bool → Nat → Bool) : fnRunJ Tryz.prog 135 100 (cN W0) [.ptr 41 0, .agg [I (0), I i]] ⟨HV s p n e a bl z a0 a1 a2 a3 a4, 60, ne, 60⟩ (fun s h' => q s (Nat.ble h'.nx 200) h'.ne) = q (I a0) true ne := by kernel_rfl
theorem trV1 (s : Value) (p n : Int) (e : Bool) (a : Value) (bl : SV) (z : Value) (a0 a1 a2 a3 a4 i : Int) (ne : Nat) (q : SV → Bool → Nat → Bool) : fnRunJ Tryz.prog 135 100 (cN W0) [.ptr 41 0, .agg [I (1), I i]] ⟨HV s p n e a bl z a0 a1 a2 a3 a4, 60, ne, 60⟩ (fun s h' => q s (Nat.ble h'.nx 200) h'.ne) = q (I a1) true ne := by kernel_rfl
theorem trV2 (s : Value) (p n : Int) (e : Bool) (a : Value) (bl : SV) (z : Value) (a0 a1 a2 a3 a4 i : Int) (ne : Nat) (q : SV → Bool → Nat → Bool) : fnRunJ Tryz.prog 135 100 (cN W0) [.ptr 41 0, .agg [I (2), I i]] ⟨HV s p n e a bl z a0 a1 a2 a3 a4, 60, ne, 60⟩ (fun s h' => q s (Nat.ble h'.nx 200) h'.ne) = q (I a2) true ne := by kernel_rfl
theorem trV3 (s : Value) (p n : Int) (e : Bool) (a : Value) (bl : SV) (z : Value) (a0 a1 a2 a3 a4 i : Int) (ne : Nat) (q : SV → Bool → Nat → Bool) : fnRunJ Tryz.prog 135 100 (cN W0) [.ptr 41 0, .agg [I (3), I i]] ⟨HV s p n e a bl z a0 a1 a2 a3 a4, 60, ne, 60⟩ (fun s h' => q s (Nat.ble h'.nx 200) h'.ne) = q (I a3) true ne := by kernel_rfl
def τ3 (x g b : Nat) (i : Nat) : Nat := bif Nat.beq i 41 then x else bif Nat.beq i 42 then g else b
def p3 (i : Nat) : Bool := Nat.beq i 41 || (Nat.beq i 42 || Nat.beq i 43)
theorem p3_iff {i : Nat} : p3 i = true ↔ i = 41 ∨ i = 42 ∨ i = 43 := by simp [p3]
theorem HV_ren {s : Value} {p n : Int} {e : Bool} {a : Value} {bl bl' : SV} {z : Value} {a0 a1 a2 a3 a4 : Int} {hp : Tr SO} {x g b : Nat} (h1 : rowL (hp.get x) = some (0, [.lit s, .int .i64 p, .int .i64 n, .bool e, .lit a, bl, .sl g 0 5 5, .lit z])) (h2 : rowL (hp.get g) = some (0, [.int .i64 a0, .int .i64 a1, .int .i64 a2, .int .i64 a3, .int .i64 a4])) (hb : svMap (τ3 x g b) bl' = bl) (hb2 : svPl p3 bl' = true) (n1 : x ≠ g) (n2 : x ≠ b) (n3 : g ≠ b) : HpRen (τ3 x g b) p3 hp (HV s p n e a bl' z a0 a1 a2 a3 a4) := by
  refine ⟨fun id o2 h => ?_, fun id o2 h => ?_, fun id id' q q' h => ?_⟩
  · rw [HV, Tr.get_put] at h
    by_cases q : id = 42
    · subst q
      rw [if_pos rfl] at h
      obtain rfl := Option.some.inj h
      exact rowL_ren (l := [I a0, I a1, I a2, I a3, I a4]) (show rowL (hp.get g) = _ from h2) rfl
    rw [if_neg q, Tr.get_put] at h
    by_cases q2 : id = 41
    · subst q2
      rw [if_pos rfl] at h
      obtain rfl := Option.some.inj h
      refine rowL_ren (l := [.lit s, I p, I n, .bool e, .lit a, bl', .sl 42 0 5 5, .lit z]) (show rowL (hp.get x) = _ from h1.trans ?_) ?_
      · rw [← hb]; rfl
      · simp only [svsPl, hb2, svPl, I, Bool.true_and, Bool.and_true]; rfl
    rw [if_neg q2] at h
    cases h
  · rw [HV, Tr.get_put] at h
    by_cases q : id = 42
    · subst q; rfl
    rw [if_neg q, Tr.get_put] at h
    by_cases q2 : id = 41
    · subst q2; rfl
    rw [if_neg q2] at h
    cases h
  · rcases p3_iff.1 q with rfl | rfl | rfl <;> rcases p3_iff.1 q' with rfl | rfl | rfl
    · rfl
    · exact absurd (show x = g from h) n1
    · exact absurd (show x = b from h) n2
    · exact absurd (show g = x from h) (Ne.symm n1)
    · rfl
    · exact absurd (show g = b from h) n3
    · exact absurd (show b = x from h) (Ne.symm n2)
    · exact absurd (show b = g from h) (Ne.symm n3)
    · rfl
theorem val_at {s : Value} {p n : Int} {e : Bool} {a : Value} {bl bl' : SV} {z : Value} {a0 a1 a2 a3 a4 r i : Int} {h : HS} {x g b : Nat} (h1 : rowL (h.hp.get x) = some (0, [.lit s, .int .i64 p, .int .i64 n, .bool e, .lit a, bl, .sl g 0 5 5, .lit z])) (h2 : rowL (h.hp.get g) = some (0, [.int .i64 a0, .int .i64 a1, .int .i64 a2, .int .i64 a3, .int .i64 a4])) (hb : svMap (τ3 x g b) bl' = bl) (hb2 : svPl p3 bl' = true) (n1 : x ≠ g) (n2 : x ≠ b) (n3 : g ≠ b) : CallOk Tryz.prog W0 135 [.ptr x 0, .agg [.rng (-1) 3 r, .int .i64 i]] h h (valR [a0, a1, a2, a3, a4] r i) := by
  refine CallOk.rngs fun q1 q2 => ?_
  have ren := HV_ren h1 h2 hb hb2 n1 n2 n3
  rcases r_cases q1 q2 with rfl | rfl | rfl | rfl | rfl
  · exact CallOk.pureAt (τ := τ3 x g b) (p0 := p3) (l := [.ptr 41 0, .agg [I (-1), I i]]) (seen_pure cN_ok (by kernel_rfl) fun ne q hq => (trVm s p n e a bl' z a0 a1 a2 a3 a4 i ne q).trans hq) ren (fun id q => by have := p3_iff.1 q; omega) rfl rfl rfl
  · exact CallOk.pureAt (τ := τ3 x g b) (p0 := p3) (l := [.ptr 41 0, .agg [I (0), I i]]) (seen_pure cN_ok (by kernel_rfl) fun ne q hq => (trV0 s p n e a bl' z a0 a1 a2 a3 a4 i ne q).trans hq) ren (fun id q => by have := p3_iff.1 q; omega) rfl rfl rfl
  · exact CallOk.pureAt (τ := τ3 x g b) (p0 := p3) (l := [.ptr 41 0, .agg [I (1), I i]]) (seen_pure cN_ok (by kernel_rfl) fun ne q hq => (trV1 s p n e a bl' z a0 a1 a2 a3 a4 i ne q).trans hq) ren (fun id q => by have := p3_iff.1 q; omega) rfl rfl rfl
  · exact CallOk.pureAt (τ := τ3 x g b) (p0 := p3) (l := [.ptr 41 0, .agg [I (2), I i]]) (seen_pure cN_ok (by kernel_rfl) fun ne q hq => (trV2 s p n e a bl' z a0 a1 a2 a3 a4 i ne q).trans hq) ren (fun id q => by have := p3_iff.1 q; omega) rfl rfl rfl
  · exact CallOk.pureAt (τ := τ3 x g b) (p0 := p3) (l := [.ptr 41 0, .agg [I (3), I i]]) (seen_pure cN_ok (by kernel_rfl) fun ne q hq => (trV3 s p n e a bl' z a0 a1 a2 a3 a4 i ne q).trans hq) ren (fun id q => by have := p3_iff.1 q; omega) rfl rfl rfl
theorem valE_ok (l : List SV) (h : HS) (sv : SV) (e : valE l h = some sv) : CallOk Tryz.prog W0 135 l h h sv := by
  unfold valE at e
  split at e
  case h_2 => cases e
  split at e
  case h_2 => cases e
  rename_i h1
  split at e
  case h_2 => cases e
  rename_i h2
  split at e
  case h_2 => cases e
  rename_i b hb
  obtain ⟨hq, rfl⟩ := bif_someS e
  simp only [Bool.and_eq_true, beq_iff_eq, Bool.not_eq_true'] at hq
  obtain ⟨⟨rfl, rfl⟩, n1, n2, n3⟩ := hq
  have nb : ∀ {a b : Nat}, Nat.beq a b = false → a ≠ b := fun h q => by subst q; rw [Nat.beq_refl] at h; cases h
  unfold blId at hb
  split at hb
  · obtain rfl := Option.some.inj hb
    exact val_at (bl' := .sl 43 0 1 1) h1 h2 rfl rfl (nb n1) (nb n2) (nb n3)
  · obtain rfl := Option.some.inj hb
    exact val_at (bl' := .slr 43 0 1 0) h1 h2 rfl rfl (nb n1) (nb n2) (nb n3)
  · cases hb
noncomputable def binE : List SV → HS → Option SV := fun l h => match l with
  | [.rng lo hi k, .int .i64 a, .int .i64 b] => bif lo == 1 && hi == 14 then some (binR k a b) else none
  | _ => none
theorem binE_ok (l : List SV) (h : HS) (sv : SV) (e : binE l h = some sv) : CallOk Tryz.prog W0 226 l h h sv := by
  unfold binE at e
  split at e
  case h_2 => cases e
  rename_i lo hi k a b
  obtain ⟨hq, rfl⟩ := bif_someS e
  simp only [Bool.and_eq_true, beq_iff_eq] at hq
  obtain ⟨rfl, rfl⟩ := hq
  intro E w vl rel fe hv R hR
  by_cases q : 1 ≤ k ∧ k ≤ 14
  · have e : vals E [.rng 1 14 k, .int .i64 a, .int .i64 b] = vals E [I k, I a, I b] := by
      simp only [vals, val, I, if_pos q]
    rw [e] at hv
    exact bin_ok q.1 q.2 a b h E w vl rel fe hv R hR
  · simp only [vals, val, if_neg q, Option.bind_none] at hv
    cases hv
noncomputable def agT : MTab := [(226, binE), (220, opdE), (135, valE)]
theorem agT_ok : MTabOk Tryz.prog W0 agT := fun e he => by
  simp only [agT, List.mem_cons, List.not_mem_nil, or_false] at he
  rcases he with rfl | rfl | rfl
  · exact binE_ok
  · exact opdE_ok
  · exact valE_ok
end Go.Proofs.YtgoccionghehoaaGreatDoor.Ev
