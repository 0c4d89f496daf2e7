/- Rule 1: both operands numbers. -/
import Derived.Test.YtgoccionghehoaaGreatDoorPe2
set_option linter.unusedSimpArgs false
set_option linter.unusedVariables false
set_option linter.unusedSectionVars false
namespace Go.Proofs.YtgoccionghehoaaGreatDoor.Ev
open Go Go.Proofs

variable {W0 : World} [GOk W0]
theorem shU (b : Int) : min ((IntKind.u64.wrap b).tmod 64).toNat IntKind.i64.bits = Pn.sh b := by
  have e : IntKind.u64.wrap b = b % 18446744073709551616 := by simp [IntKind.wrap, IntKind.signed, IntKind.bits]
  have e2 : IntKind.i64.bits = 64 := rfl
  rw [e, e2, Int.tmod_eq_emod_of_nonneg (by omega)]
  unfold Pn.sh
  omega
theorem tmE (b : Int) : decide ((IntKind.u64.wrap b).tmod 64 < 0) = false := by
  have e : IntKind.u64.wrap b = b % 18446744073709551616 := by simp [IntKind.wrap, IntKind.signed, IntKind.bits]
  rw [e, Int.tmod_eq_emod_of_nonneg (by omega)]
  exact decide_eq_false (by omega)
/-- What is handed back: a copy of the number. -/
noncomputable def r1V (to v : Int) : SV := .tup [.agg [I 1, I 0, I to, I (-1), I v, I 0, I 0, I 0, I 0, I 0, nilS, nilS, nilS], .bool true]
theorem tr1k1 (o3 o4 to : Int) (x x3 x4 : Pn.In) (u : Option Nat) (ne : Nat) (q : SV → List (Option SO) → Bool → Nat → Bool) : fnRunJ Tryz.prog 38 100 (cP W0) [.ptr 41 0, .agg (cI (I 2) (.rng 0 14 (1)) (I to) (rg (x.a.r)) (I x.a.i) (rg x.b.r) (I x.b.i))] ⟨HR o3 o4 x3 x4 (outS u), 60, ne, 60⟩ (seen q) = (fun Q : SV → Bool => (bif decide (x.a.r ≥ 0) then Q zeroV else (bif decide (x.b.r ≥ 0) then Q zeroV else Q (.tup [.agg [I (1), I (0), I (to), I (-1), I (IntKind.i64.wrap (x.a.i + x.b.i)), I (0), I (0), I 0, I 0, I 0, nilS, nilS, nilS], .bool true])))) (Qof q o3 o4 x3 x4 u ne) := by kernel_rfl
theorem rule1k1_t {o3 o4 to : Int} {x x3 x4 : Pn.In} {u : Option Nat} {h : HS} (ht : Pn.t1 ⟨2, 1, x.a, x.b⟩ = true) (hbar : True) (hh : ∀ id o, (HR o3 o4 x3 x4 (outS u)).get id = some o → h.hp.get id = some o) : CallOk Tryz.prog W0 38 [.ptr 41 0, .agg (cI (I 2) (.rng 0 14 (1)) (I to) (rg (x.a.r)) (I x.a.i) (rg x.b.r) (I x.b.i))] h h (r1V to ((Pn.bin 1 x.a.i x.b.i).getD 0)) := by
  refine reader (callH_ok (LP := pwT) (L := []) (m := 100) mixed 30) (by kernel_rfl) hbar (fun ne q hq => (tr1k1 o3 o4 to x x3 x4 u ne q).trans ?_) (HR_in _ _ _ _ _) rfl rfl hh
  have hq : Qof q o3 o4 x3 x4 u ne (r1V to ((Pn.bin 1 x.a.i x.b.i).getD 0)) = true := hq
  generalize Qof q o3 o4 x3 x4 u ne = Q at hq ⊢
  simp only
  simp only [Pn.bin1, Option.getD_some, Pn.W] at hq
  simp only [Pn.t1, Pn.isC, Pn.bin1] at ht
  repeat' (first | exact hq | refine cond_i (fun _ => ?_) (fun _ => ?_))
  all_goals (exfalso; simp_all <;> omega)
theorem rule1k1_f {o3 o4 to : Int} {x x3 x4 : Pn.In} {u : Option Nat} {h : HS} (ht : Pn.t1 ⟨2, 1, x.a, x.b⟩ = false) (hbar : True) (hh : ∀ id o, (HR o3 o4 x3 x4 (outS u)).get id = some o → h.hp.get id = some o) : CallOk Tryz.prog W0 38 [.ptr 41 0, .agg (cI (I 2) (.rng 0 14 (1)) (I to) (rg (x.a.r)) (I x.a.i) (rg x.b.r) (I x.b.i))] h h (zeroV) := by
  refine reader (callH_ok (LP := pwT) (L := []) (m := 100) mixed 30) (by kernel_rfl) hbar (fun ne q hq => (tr1k1 o3 o4 to x x3 x4 u ne q).trans ?_) (HR_in _ _ _ _ _) rfl rfl hh
  have hq : Qof q o3 o4 x3 x4 u ne (zeroV) = true := hq
  generalize Qof q o3 o4 x3 x4 u ne = Q at hq ⊢
  simp only
  simp only [Pn.t1, Pn.isC, Pn.bin1] at ht
  repeat' (first | exact hq | refine cond_i (fun _ => ?_) (fun _ => ?_))
  all_goals (exfalso; simp_all <;> omega)
theorem tr1k2 (o3 o4 to : Int) (x x3 x4 : Pn.In) (u : Option Nat) (ne : Nat) (q : SV → List (Option SO) → Bool → Nat → Bool) : fnRunJ Tryz.prog 38 100 (cP W0) [.ptr 41 0, .agg (cI (I 2) (.rng 0 14 (2)) (I to) (rg (x.a.r)) (I x.a.i) (rg x.b.r) (I x.b.i))] ⟨HR o3 o4 x3 x4 (outS u), 60, ne, 60⟩ (seen q) = (fun Q : SV → Bool => (bif decide (x.a.r ≥ 0) then Q zeroV else (bif decide (x.b.r ≥ 0) then Q zeroV else Q (.tup [.agg [I (1), I (0), I (to), I (-1), I (IntKind.i64.wrap (x.a.i - x.b.i)), I (0), I (0), I 0, I 0, I 0, nilS, nilS, nilS], .bool true])))) (Qof q o3 o4 x3 x4 u ne) := by kernel_rfl
theorem rule1k2_t {o3 o4 to : Int} {x x3 x4 : Pn.In} {u : Option Nat} {h : HS} (ht : Pn.t1 ⟨2, 2, x.a, x.b⟩ = true) (hbar : True) (hh : ∀ id o, (HR o3 o4 x3 x4 (outS u)).get id = some o → h.hp.get id = some o) : CallOk Tryz.prog W0 38 [.ptr 41 0, .agg (cI (I 2) (.rng 0 14 (2)) (I to) (rg (x.a.r)) (I x.a.i) (rg x.b.r) (I x.b.i))] h h (r1V to ((Pn.bin 2 x.a.i x.b.i).getD 0)) := by
  refine reader (callH_ok (LP := pwT) (L := []) (m := 100) mixed 30) (by kernel_rfl) hbar (fun ne q hq => (tr1k2 o3 o4 to x x3 x4 u ne q).trans ?_) (HR_in _ _ _ _ _) rfl rfl hh
  have hq : Qof q o3 o4 x3 x4 u ne (r1V to ((Pn.bin 2 x.a.i x.b.i).getD 0)) = true := hq
  generalize Qof q o3 o4 x3 x4 u ne = Q at hq ⊢
  simp only
  simp only [Pn.bin2, Option.getD_some, Pn.W] at hq
  simp only [Pn.t1, Pn.isC, Pn.bin2] at ht
  repeat' (first | exact hq | refine cond_i (fun _ => ?_) (fun _ => ?_))
  all_goals (exfalso; simp_all <;> omega)
theorem rule1k2_f {o3 o4 to : Int} {x x3 x4 : Pn.In} {u : Option Nat} {h : HS} (ht : Pn.t1 ⟨2, 2, x.a, x.b⟩ = false) (hbar : True) (hh : ∀ id o, (HR o3 o4 x3 x4 (outS u)).get id = some o → h.hp.get id = some o) : CallOk Tryz.prog W0 38 [.ptr 41 0, .agg (cI (I 2) (.rng 0 14 (2)) (I to) (rg (x.a.r)) (I x.a.i) (rg x.b.r) (I x.b.i))] h h (zeroV) := by
  refine reader (callH_ok (LP := pwT) (L := []) (m := 100) mixed 30) (by kernel_rfl) hbar (fun ne q hq => (tr1k2 o3 o4 to x x3 x4 u ne q).trans ?_) (HR_in _ _ _ _ _) rfl rfl hh
  have hq : Qof q o3 o4 x3 x4 u ne (zeroV) = true := hq
  generalize Qof q o3 o4 x3 x4 u ne = Q at hq ⊢
  simp only
  simp only [Pn.t1, Pn.isC, Pn.bin2] at ht
  repeat' (first | exact hq | refine cond_i (fun _ => ?_) (fun _ => ?_))
  all_goals (exfalso; simp_all <;> omega)
theorem tr1k3 (o3 o4 to : Int) (x x3 x4 : Pn.In) (u : Option Nat) (ne : Nat) (q : SV → List (Option SO) → Bool → Nat → Bool) : fnRunJ Tryz.prog 38 100 (cP W0) [.ptr 41 0, .agg (cI (I 2) (.rng 0 14 (3)) (I to) (rg (x.a.r)) (I x.a.i) (rg x.b.r) (I x.b.i))] ⟨HR o3 o4 x3 x4 (outS u), 60, ne, 60⟩ (seen q) = (fun Q : SV → Bool => (bif decide (x.a.r ≥ 0) then Q zeroV else (bif decide (x.b.r ≥ 0) then Q zeroV else Q (.tup [.agg [I (1), I (0), I (to), I (-1), I (IntKind.i64.wrap (x.a.i * x.b.i)), I (0), I (0), I 0, I 0, I 0, nilS, nilS, nilS], .bool true])))) (Qof q o3 o4 x3 x4 u ne) := by kernel_rfl
theorem rule1k3_t {o3 o4 to : Int} {x x3 x4 : Pn.In} {u : Option Nat} {h : HS} (ht : Pn.t1 ⟨2, 3, x.a, x.b⟩ = true) (hbar : True) (hh : ∀ id o, (HR o3 o4 x3 x4 (outS u)).get id = some o → h.hp.get id = some o) : CallOk Tryz.prog W0 38 [.ptr 41 0, .agg (cI (I 2) (.rng 0 14 (3)) (I to) (rg (x.a.r)) (I x.a.i) (rg x.b.r) (I x.b.i))] h h (r1V to ((Pn.bin 3 x.a.i x.b.i).getD 0)) := by
  refine reader (callH_ok (LP := pwT) (L := []) (m := 100) mixed 30) (by kernel_rfl) hbar (fun ne q hq => (tr1k3 o3 o4 to x x3 x4 u ne q).trans ?_) (HR_in _ _ _ _ _) rfl rfl hh
  have hq : Qof q o3 o4 x3 x4 u ne (r1V to ((Pn.bin 3 x.a.i x.b.i).getD 0)) = true := hq
  generalize Qof q o3 o4 x3 x4 u ne = Q at hq ⊢
  simp only
  simp only [Pn.bin3, Option.getD_some, Pn.W] at hq
  simp only [Pn.t1, Pn.isC, Pn.bin3] at ht
  repeat' (first | exact hq | refine cond_i (fun _ => ?_) (fun _ => ?_))
  all_goals (exfalso; simp_all <;> omega)
theorem rule1k3_f {o3 o4 to : Int} {x x3 x4 : Pn.In} {u : Option Nat} {h : HS} (ht : Pn.t1 ⟨2, 3, x.a, x.b⟩ = false) (hbar : True) (hh : ∀ id o, (HR o3 o4 x3 x4 (outS u)).get id = some o → h.hp.get id = some o) : CallOk Tryz.prog W0 38 [.ptr 41 0, .agg (cI (I 2) (.rng 0 14 (3)) (I to) (rg (x.a.r)) (I x.a.i) (rg x.b.r) (I x.b.i))] h h (zeroV) := by
  refine reader (callH_ok (LP := pwT) (L := []) (m := 100) mixed 30) (by kernel_rfl) hbar (fun ne q hq => (tr1k3 o3 o4 to x x3 x4 u ne q).trans ?_) (HR_in _ _ _ _ _) rfl rfl hh
  have hq : Qof q o3 o4 x3 x4 u ne (zeroV) = true := hq
  generalize Qof q o3 o4 x3 x4 u ne = Q at hq ⊢
  simp only
  simp only [Pn.t1, Pn.isC, Pn.bin3] at ht
  repeat' (first | exact hq | refine cond_i (fun _ => ?_) (fun _ => ?_))
  all_goals (exfalso; simp_all <;> omega)
theorem tr1k4 (o3 o4 to : Int) (x x3 x4 : Pn.In) (u : Option Nat) (ne : Nat) (q : SV → List (Option SO) → Bool → Nat → Bool) : fnRunJ Tryz.prog 38 100 (cP W0) [.ptr 41 0, .agg (cI (I 2) (.rng 0 14 (4)) (I to) (rg (x.a.r)) (I x.a.i) (rg x.b.r) (I x.b.i))] ⟨HR o3 o4 x3 x4 (outS u), 60, ne, 60⟩ (seen q) = (fun Q : SV → Bool => (bif x.b.i == 0 then (bif decide (x.a.r ≥ 0) then Q zeroV else (bif decide (x.b.r ≥ 0) then Q zeroV else Q zeroV)) else (bif x.b.i == -1 then (bif decide (x.a.r ≥ 0) then Q zeroV else (bif decide (x.b.r ≥ 0) then Q zeroV else Q (.tup [.agg [I (1), I (0), I (to), I (-1), I (IntKind.i64.wrap (0 - x.a.i)), I (0), I (0), I 0, I 0, I 0, nilS, nilS, nilS], .bool true]))) else (bif x.b.i == -1 then (bif decide (x.a.r ≥ 0) then Q zeroV else (bif decide (x.b.r ≥ 0) then Q zeroV else Q (.tup [.agg [I (1), I (0), I (to), I (-1), I (0), I (0), I (0), I 0, I 0, I 0, nilS, nilS, nilS], .bool true]))) else (bif x.b.i == 0 then false else (bif decide (x.a.r ≥ 0) then Q zeroV else (bif decide (x.b.r ≥ 0) then Q zeroV else Q (.tup [.agg [I (1), I (0), I (to), I (-1), I (IntKind.i64.wrap (x.a.i.tdiv x.b.i)), I (0), I (0), I 0, I 0, I 0, nilS, nilS, nilS], .bool true])))))))) (Qof q o3 o4 x3 x4 u ne) := by kernel_rfl
theorem rule1k4_t {o3 o4 to : Int} {x x3 x4 : Pn.In} {u : Option Nat} {h : HS} (ht : Pn.t1 ⟨2, 4, x.a, x.b⟩ = true) (hbar : True) (hh : ∀ id o, (HR o3 o4 x3 x4 (outS u)).get id = some o → h.hp.get id = some o) : CallOk Tryz.prog W0 38 [.ptr 41 0, .agg (cI (I 2) (.rng 0 14 (4)) (I to) (rg (x.a.r)) (I x.a.i) (rg x.b.r) (I x.b.i))] h h (r1V to ((Pn.bin 4 x.a.i x.b.i).getD 0)) := by
  refine reader (callH_ok (LP := pwT) (L := []) (m := 100) mixed 30) (by kernel_rfl) hbar (fun ne q hq => (tr1k4 o3 o4 to x x3 x4 u ne q).trans ?_) (HR_in _ _ _ _ _) rfl rfl hh
  have hq : Qof q o3 o4 x3 x4 u ne (r1V to ((Pn.bin 4 x.a.i x.b.i).getD 0)) = true := hq
  generalize Qof q o3 o4 x3 x4 u ne = Q at hq ⊢
  simp only
  simp only [Pn.t1, Pn.isC, Pn.bin4] at ht hq
  by_cases h0 : x.b.i = 0
  · have e0 : (x.b.i == 0) = true := by simpa using h0
    simp only [e0, cond_true]
    exfalso; simp [h0] at ht
  have e0 : (x.b.i == 0) = false := by simpa using h0
  by_cases h1 : x.b.i = -1
  · have e1 : (x.b.i == -1) = true := by simpa using h1
    simp only [e0, e1, cond_true, cond_false]
    rw [if_neg h0, if_pos h1] at hq
    simp only [Option.getD_some, Pn.W, ← Int.zero_sub] at hq
    repeat' (first | exact hq | refine cond_i (fun _ => ?_) (fun _ => ?_))
    all_goals (exfalso; simp_all <;> omega)
  · have e1 : (x.b.i == -1) = false := by simpa using h1
    simp only [e0, e1, cond_true, cond_false]
    simp only [if_neg h0, if_neg h1, Option.getD_some, Pn.W] at hq
    repeat' (first | exact hq | refine cond_i (fun _ => ?_) (fun _ => ?_))
    all_goals (exfalso; simp_all <;> omega)
theorem rule1k4_f {o3 o4 to : Int} {x x3 x4 : Pn.In} {u : Option Nat} {h : HS} (ht : Pn.t1 ⟨2, 4, x.a, x.b⟩ = false) (hbar : True) (hh : ∀ id o, (HR o3 o4 x3 x4 (outS u)).get id = some o → h.hp.get id = some o) : CallOk Tryz.prog W0 38 [.ptr 41 0, .agg (cI (I 2) (.rng 0 14 (4)) (I to) (rg (x.a.r)) (I x.a.i) (rg x.b.r) (I x.b.i))] h h (zeroV) := by
  refine reader (callH_ok (LP := pwT) (L := []) (m := 100) mixed 30) (by kernel_rfl) hbar (fun ne q hq => (tr1k4 o3 o4 to x x3 x4 u ne q).trans ?_) (HR_in _ _ _ _ _) rfl rfl hh
  have hq : Qof q o3 o4 x3 x4 u ne (zeroV) = true := hq
  generalize Qof q o3 o4 x3 x4 u ne = Q at hq ⊢
  simp only
  simp only [Pn.t1, Pn.isC, Pn.bin4] at ht
  by_cases h0 : x.b.i = 0
  · have e0 : (x.b.i == 0) = true := by simpa using h0
    simp only [e0, cond_true]
    repeat' (first | exact hq | refine cond_i (fun _ => ?_) (fun _ => ?_))
    all_goals (exfalso; simp_all <;> omega)
  have e0 : (x.b.i == 0) = false := by simpa using h0
  by_cases h1 : x.b.i = -1
  · have e1 : (x.b.i == -1) = true := by simpa using h1
    simp only [e0, e1, cond_true, cond_false]
    simp only [if_neg h0, if_pos h1, Option.isSome_some, Bool.and_true] at ht
    repeat' (first | exact hq | refine cond_i (fun _ => ?_) (fun _ => ?_))
    all_goals (exfalso; simp_all <;> omega)
  · have e1 : (x.b.i == -1) = false := by simpa using h1
    simp only [e0, e1, cond_true, cond_false]
    simp only [if_neg h0, if_neg h1, Option.isSome_some, Bool.and_true] at ht
    repeat' (first | exact hq | refine cond_i (fun _ => ?_) (fun _ => ?_))
    all_goals (exfalso; simp_all <;> omega)
theorem tr1k5 (o3 o4 to : Int) (x x3 x4 : Pn.In) (u : Option Nat) (ne : Nat) (q : SV → List (Option SO) → Bool → Nat → Bool) : fnRunJ Tryz.prog 38 100 (cP W0) [.ptr 41 0, .agg (cI (I 2) (.rng 0 14 (5)) (I to) (rg (x.a.r)) (I x.a.i) (rg x.b.r) (I x.b.i))] ⟨HR o3 o4 x3 x4 (outS u), 60, ne, 60⟩ (seen q) = (fun Q : SV → Bool => (bif x.b.i == 0 then (bif decide (x.a.r ≥ 0) then Q zeroV else (bif decide (x.b.r ≥ 0) then Q zeroV else Q zeroV)) else (bif x.b.i == -1 then (bif x.b.i == -1 then (bif decide (x.a.r ≥ 0) then Q zeroV else (bif decide (x.b.r ≥ 0) then Q zeroV else Q (.tup [.agg [I (1), I (0), I (to), I (-1), I (0), I (0), I (0), I 0, I 0, I 0, nilS, nilS, nilS], .bool true]))) else (bif x.b.i == 0 then false else (bif decide (x.a.r ≥ 0) then Q zeroV else (bif decide (x.b.r ≥ 0) then Q zeroV else Q (.tup [.agg [I (1), I (0), I (to), I (-1), I (x.a.i.tmod x.b.i), I (0), I (0), I 0, I 0, I 0, nilS, nilS, nilS], .bool true]))))) else (bif x.b.i == -1 then (bif decide (x.a.r ≥ 0) then Q zeroV else (bif decide (x.b.r ≥ 0) then Q zeroV else Q (.tup [.agg [I (1), I (0), I (to), I (-1), I (0), I (0), I (0), I 0, I 0, I 0, nilS, nilS, nilS], .bool true]))) else (bif x.b.i == 0 then false else (bif decide (x.a.r ≥ 0) then Q zeroV else (bif decide (x.b.r ≥ 0) then Q zeroV else Q (.tup [.agg [I (1), I (0), I (to), I (-1), I (x.a.i.tmod x.b.i), I (0), I (0), I 0, I 0, I 0, nilS, nilS, nilS], .bool true])))))))) (Qof q o3 o4 x3 x4 u ne) := by kernel_rfl
theorem rule1k5_t {o3 o4 to : Int} {x x3 x4 : Pn.In} {u : Option Nat} {h : HS} (ht : Pn.t1 ⟨2, 5, x.a, x.b⟩ = true) (hbar : True) (hh : ∀ id o, (HR o3 o4 x3 x4 (outS u)).get id = some o → h.hp.get id = some o) : CallOk Tryz.prog W0 38 [.ptr 41 0, .agg (cI (I 2) (.rng 0 14 (5)) (I to) (rg (x.a.r)) (I x.a.i) (rg x.b.r) (I x.b.i))] h h (r1V to ((Pn.bin 5 x.a.i x.b.i).getD 0)) := by
  refine reader (callH_ok (LP := pwT) (L := []) (m := 100) mixed 30) (by kernel_rfl) hbar (fun ne q hq => (tr1k5 o3 o4 to x x3 x4 u ne q).trans ?_) (HR_in _ _ _ _ _) rfl rfl hh
  have hq : Qof q o3 o4 x3 x4 u ne (r1V to ((Pn.bin 5 x.a.i x.b.i).getD 0)) = true := hq
  generalize Qof q o3 o4 x3 x4 u ne = Q at hq ⊢
  simp only
  simp only [Pn.t1, Pn.isC, Pn.bin5] at ht hq
  by_cases h0 : x.b.i = 0
  · have e0 : (x.b.i == 0) = true := by simpa using h0
    simp only [e0, cond_true]
    exfalso; simp [h0] at ht
  have e0 : (x.b.i == 0) = false := by simpa using h0
  by_cases h1 : x.b.i = -1
  · have e1 : (x.b.i == -1) = true := by simpa using h1
    simp only [e0, e1, cond_true, cond_false]
    rw [if_neg h0, if_pos h1] at hq
    simp only [Option.getD_some, Pn.W] at hq
    repeat' (first | exact hq | refine cond_i (fun _ => ?_) (fun _ => ?_))
    all_goals (exfalso; simp_all <;> omega)
  · have e1 : (x.b.i == -1) = false := by simpa using h1
    simp only [e0, e1, cond_true, cond_false]
    simp only [if_neg h0, if_neg h1, Option.getD_some, Pn.W] at hq
    repeat' (first | exact hq | refine cond_i (fun _ => ?_) (fun _ => ?_))
    all_goals (exfalso; simp_all <;> omega)
theorem rule1k5_f {o3 o4 to : Int} {x x3 x4 : Pn.In} {u : Option Nat} {h : HS} (ht : Pn.t1 ⟨2, 5, x.a, x.b⟩ = false) (hbar : True) (hh : ∀ id o, (HR o3 o4 x3 x4 (outS u)).get id = some o → h.hp.get id = some o) : CallOk Tryz.prog W0 38 [.ptr 41 0, .agg (cI (I 2) (.rng 0 14 (5)) (I to) (rg (x.a.r)) (I x.a.i) (rg x.b.r) (I x.b.i))] h h (zeroV) := by
  refine reader (callH_ok (LP := pwT) (L := []) (m := 100) mixed 30) (by kernel_rfl) hbar (fun ne q hq => (tr1k5 o3 o4 to x x3 x4 u ne q).trans ?_) (HR_in _ _ _ _ _) rfl rfl hh
  have hq : Qof q o3 o4 x3 x4 u ne (zeroV) = true := hq
  generalize Qof q o3 o4 x3 x4 u ne = Q at hq ⊢
  simp only
  simp only [Pn.t1, Pn.isC, Pn.bin5] at ht
  by_cases h0 : x.b.i = 0
  · have e0 : (x.b.i == 0) = true := by simpa using h0
    simp only [e0, cond_true]
    repeat' (first | exact hq | refine cond_i (fun _ => ?_) (fun _ => ?_))
    all_goals (exfalso; simp_all <;> omega)
  have e0 : (x.b.i == 0) = false := by simpa using h0
  by_cases h1 : x.b.i = -1
  · have e1 : (x.b.i == -1) = true := by simpa using h1
    simp only [e0, e1, cond_true, cond_false]
    simp only [if_neg h0, if_pos h1, Option.isSome_some, Bool.and_true] at ht
    repeat' (first | exact hq | refine cond_i (fun _ => ?_) (fun _ => ?_))
    all_goals (exfalso; simp_all <;> omega)
  · have e1 : (x.b.i == -1) = false := by simpa using h1
    simp only [e0, e1, cond_true, cond_false]
    simp only [if_neg h0, if_neg h1, Option.isSome_some, Bool.and_true] at ht
    repeat' (first | exact hq | refine cond_i (fun _ => ?_) (fun _ => ?_))
    all_goals (exfalso; simp_all <;> omega)
theorem tr1k6 (o3 o4 to : Int) (x x3 x4 : Pn.In) (u : Option Nat) (ne : Nat) (q : SV → List (Option SO) → Bool → Nat → Bool) : fnRunJ Tryz.prog 38 100 (cP W0) [.ptr 41 0, .agg (cI (I 2) (.rng 0 14 (6)) (I to) (rg (x.a.r)) (I x.a.i) (rg x.b.r) (I x.b.i))] ⟨HR o3 o4 x3 x4 (outS u), 60, ne, 60⟩ (seen q) = (fun Q : SV → Bool => (bif decide (x.a.r ≥ 0) then Q zeroV else (bif decide (x.b.r ≥ 0) then Q zeroV else Q (.tup [.agg [I (1), I (0), I (to), I (-1), I (IntKind.i64.wrap ↑(BitVec.ofInt IntKind.i64.bits x.a.i &&& BitVec.ofInt IntKind.i64.bits x.b.i).toNat), I (0), I (0), I 0, I 0, I 0, nilS, nilS, nilS], .bool true])))) (Qof q o3 o4 x3 x4 u ne) := by kernel_rfl
theorem rule1k6_t {o3 o4 to : Int} {x x3 x4 : Pn.In} {u : Option Nat} {h : HS} (ht : Pn.t1 ⟨2, 6, x.a, x.b⟩ = true) (hbar : True) (hh : ∀ id o, (HR o3 o4 x3 x4 (outS u)).get id = some o → h.hp.get id = some o) : CallOk Tryz.prog W0 38 [.ptr 41 0, .agg (cI (I 2) (.rng 0 14 (6)) (I to) (rg (x.a.r)) (I x.a.i) (rg x.b.r) (I x.b.i))] h h (r1V to ((Pn.bin 6 x.a.i x.b.i).getD 0)) := by
  refine reader (callH_ok (LP := pwT) (L := []) (m := 100) mixed 30) (by kernel_rfl) hbar (fun ne q hq => (tr1k6 o3 o4 to x x3 x4 u ne q).trans ?_) (HR_in _ _ _ _ _) rfl rfl hh
  have hq : Qof q o3 o4 x3 x4 u ne (r1V to ((Pn.bin 6 x.a.i x.b.i).getD 0)) = true := hq
  generalize Qof q o3 o4 x3 x4 u ne = Q at hq ⊢
  simp only
  rw [Pn.bin6, Option.getD_some, ← Pn.W_toNat] at hq
  simp only [Pn.t1, Pn.isC, Pn.bin6] at ht
  repeat' (first | exact hq | refine cond_i (fun _ => ?_) (fun _ => ?_))
  all_goals (exfalso; simp_all <;> omega)
theorem rule1k6_f {o3 o4 to : Int} {x x3 x4 : Pn.In} {u : Option Nat} {h : HS} (ht : Pn.t1 ⟨2, 6, x.a, x.b⟩ = false) (hbar : True) (hh : ∀ id o, (HR o3 o4 x3 x4 (outS u)).get id = some o → h.hp.get id = some o) : CallOk Tryz.prog W0 38 [.ptr 41 0, .agg (cI (I 2) (.rng 0 14 (6)) (I to) (rg (x.a.r)) (I x.a.i) (rg x.b.r) (I x.b.i))] h h (zeroV) := by
  refine reader (callH_ok (LP := pwT) (L := []) (m := 100) mixed 30) (by kernel_rfl) hbar (fun ne q hq => (tr1k6 o3 o4 to x x3 x4 u ne q).trans ?_) (HR_in _ _ _ _ _) rfl rfl hh
  have hq : Qof q o3 o4 x3 x4 u ne (zeroV) = true := hq
  generalize Qof q o3 o4 x3 x4 u ne = Q at hq ⊢
  simp only
  simp only [Pn.t1, Pn.isC, Pn.bin6] at ht
  repeat' (first | exact hq | refine cond_i (fun _ => ?_) (fun _ => ?_))
  all_goals (exfalso; simp_all <;> omega)
theorem tr1k7 (o3 o4 to : Int) (x x3 x4 : Pn.In) (u : Option Nat) (ne : Nat) (q : SV → List (Option SO) → Bool → Nat → Bool) : fnRunJ Tryz.prog 38 100 (cP W0) [.ptr 41 0, .agg (cI (I 2) (.rng 0 14 (7)) (I to) (rg (x.a.r)) (I x.a.i) (rg x.b.r) (I x.b.i))] ⟨HR o3 o4 x3 x4 (outS u), 60, ne, 60⟩ (seen q) = (fun Q : SV → Bool => (bif decide (x.a.r ≥ 0) then Q zeroV else (bif decide (x.b.r ≥ 0) then Q zeroV else Q (.tup [.agg [I (1), I (0), I (to), I (-1), I (IntKind.i64.wrap ↑(BitVec.ofInt IntKind.i64.bits x.a.i ||| BitVec.ofInt IntKind.i64.bits x.b.i).toNat), I (0), I (0), I 0, I 0, I 0, nilS, nilS, nilS], .bool true])))) (Qof q o3 o4 x3 x4 u ne) := by kernel_rfl
theorem rule1k7_t {o3 o4 to : Int} {x x3 x4 : Pn.In} {u : Option Nat} {h : HS} (ht : Pn.t1 ⟨2, 7, x.a, x.b⟩ = true) (hbar : True) (hh : ∀ id o, (HR o3 o4 x3 x4 (outS u)).get id = some o → h.hp.get id = some o) : CallOk Tryz.prog W0 38 [.ptr 41 0, .agg (cI (I 2) (.rng 0 14 (7)) (I to) (rg (x.a.r)) (I x.a.i) (rg x.b.r) (I x.b.i))] h h (r1V to ((Pn.bin 7 x.a.i x.b.i).getD 0)) := by
  refine reader (callH_ok (LP := pwT) (L := []) (m := 100) mixed 30) (by kernel_rfl) hbar (fun ne q hq => (tr1k7 o3 o4 to x x3 x4 u ne q).trans ?_) (HR_in _ _ _ _ _) rfl rfl hh
  have hq : Qof q o3 o4 x3 x4 u ne (r1V to ((Pn.bin 7 x.a.i x.b.i).getD 0)) = true := hq
  generalize Qof q o3 o4 x3 x4 u ne = Q at hq ⊢
  simp only
  rw [Pn.bin7, Option.getD_some, ← Pn.W_toNat] at hq
  simp only [Pn.t1, Pn.isC, Pn.bin7] at ht
  repeat' (first | exact hq | refine cond_i (fun _ => ?_) (fun _ => ?_))
  all_goals (exfalso; simp_all <;> omega)
theorem rule1k7_f {o3 o4 to : Int} {x x3 x4 : Pn.In} {u : Option Nat} {h : HS} (ht : Pn.t1 ⟨2, 7, x.a, x.b⟩ = false) (hbar : True) (hh : ∀ id o, (HR o3 o4 x3 x4 (outS u)).get id = some o → h.hp.get id = some o) : CallOk Tryz.prog W0 38 [.ptr 41 0, .agg (cI (I 2) (.rng 0 14 (7)) (I to) (rg (x.a.r)) (I x.a.i) (rg x.b.r) (I x.b.i))] h h (zeroV) := by
  refine reader (callH_ok (LP := pwT) (L := []) (m := 100) mixed 30) (by kernel_rfl) hbar (fun ne q hq => (tr1k7 o3 o4 to x x3 x4 u ne q).trans ?_) (HR_in _ _ _ _ _) rfl rfl hh
  have hq : Qof q o3 o4 x3 x4 u ne (zeroV) = true := hq
  generalize Qof q o3 o4 x3 x4 u ne = Q at hq ⊢
  simp only
  simp only [Pn.t1, Pn.isC, Pn.bin7] at ht
  repeat' (first | exact hq | refine cond_i (fun _ => ?_) (fun _ => ?_))
  all_goals (exfalso; simp_all <;> omega)
theorem tr1k8 (o3 o4 to : Int) (x x3 x4 : Pn.In) (u : Option Nat) (ne : Nat) (q : SV → List (Option SO) → Bool → Nat → Bool) : fnRunJ Tryz.prog 38 100 (cP W0) [.ptr 41 0, .agg (cI (I 2) (.rng 0 14 (8)) (I to) (rg (x.a.r)) (I x.a.i) (rg x.b.r) (I x.b.i))] ⟨HR o3 o4 x3 x4 (outS u), 60, ne, 60⟩ (seen q) = (fun Q : SV → Bool => (bif decide (x.a.r ≥ 0) then Q zeroV else (bif decide (x.b.r ≥ 0) then Q zeroV else Q (.tup [.agg [I (1), I (0), I (to), I (-1), I (IntKind.i64.wrap ↑(BitVec.ofInt IntKind.i64.bits x.a.i ^^^ BitVec.ofInt IntKind.i64.bits x.b.i).toNat), I (0), I (0), I 0, I 0, I 0, nilS, nilS, nilS], .bool true])))) (Qof q o3 o4 x3 x4 u ne) := by kernel_rfl
theorem rule1k8_t {o3 o4 to : Int} {x x3 x4 : Pn.In} {u : Option Nat} {h : HS} (ht : Pn.t1 ⟨2, 8, x.a, x.b⟩ = true) (hbar : True) (hh : ∀ id o, (HR o3 o4 x3 x4 (outS u)).get id = some o → h.hp.get id = some o) : CallOk Tryz.prog W0 38 [.ptr 41 0, .agg (cI (I 2) (.rng 0 14 (8)) (I to) (rg (x.a.r)) (I x.a.i) (rg x.b.r) (I x.b.i))] h h (r1V to ((Pn.bin 8 x.a.i x.b.i).getD 0)) := by
  refine reader (callH_ok (LP := pwT) (L := []) (m := 100) mixed 30) (by kernel_rfl) hbar (fun ne q hq => (tr1k8 o3 o4 to x x3 x4 u ne q).trans ?_) (HR_in _ _ _ _ _) rfl rfl hh
  have hq : Qof q o3 o4 x3 x4 u ne (r1V to ((Pn.bin 8 x.a.i x.b.i).getD 0)) = true := hq
  generalize Qof q o3 o4 x3 x4 u ne = Q at hq ⊢
  simp only
  rw [Pn.bin8, Option.getD_some, ← Pn.W_toNat] at hq
  simp only [Pn.t1, Pn.isC, Pn.bin8] at ht
  repeat' (first | exact hq | refine cond_i (fun _ => ?_) (fun _ => ?_))
  all_goals (exfalso; simp_all <;> omega)
theorem rule1k8_f {o3 o4 to : Int} {x x3 x4 : Pn.In} {u : Option Nat} {h : HS} (ht : Pn.t1 ⟨2, 8, x.a, x.b⟩ = false) (hbar : True) (hh : ∀ id o, (HR o3 o4 x3 x4 (outS u)).get id = some o → h.hp.get id = some o) : CallOk Tryz.prog W0 38 [.ptr 41 0, .agg (cI (I 2) (.rng 0 14 (8)) (I to) (rg (x.a.r)) (I x.a.i) (rg x.b.r) (I x.b.i))] h h (zeroV) := by
  refine reader (callH_ok (LP := pwT) (L := []) (m := 100) mixed 30) (by kernel_rfl) hbar (fun ne q hq => (tr1k8 o3 o4 to x x3 x4 u ne q).trans ?_) (HR_in _ _ _ _ _) rfl rfl hh
  have hq : Qof q o3 o4 x3 x4 u ne (zeroV) = true := hq
  generalize Qof q o3 o4 x3 x4 u ne = Q at hq ⊢
  simp only
  simp only [Pn.t1, Pn.isC, Pn.bin8] at ht
  repeat' (first | exact hq | refine cond_i (fun _ => ?_) (fun _ => ?_))
  all_goals (exfalso; simp_all <;> omega)
theorem tr1k9 (o3 o4 to : Int) (x x3 x4 : Pn.In) (u : Option Nat) (ne : Nat) (q : SV → List (Option SO) → Bool → Nat → Bool) : fnRunJ Tryz.prog 38 100 (cP W0) [.ptr 41 0, .agg (cI (I 2) (.rng 0 14 (9)) (I to) (rg (x.a.r)) (I x.a.i) (rg x.b.r) (I x.b.i))] ⟨HR o3 o4 x3 x4 (outS u), 60, ne, 60⟩ (seen q) = (fun Q : SV → Bool => (bif decide ((IntKind.u64.wrap x.b.i).tmod 64 < 0) then false else (bif decide (x.a.r ≥ 0) then Q zeroV else (bif decide (x.b.r ≥ 0) then Q zeroV else Q (.tup [.agg [I (1), I (0), I (to), I (-1), I (IntKind.i64.wrap (x.a.i * 2 ^ min ((IntKind.u64.wrap x.b.i).tmod 64).toNat IntKind.i64.bits)), I (0), I (0), I 0, I 0, I 0, nilS, nilS, nilS], .bool true]))))) (Qof q o3 o4 x3 x4 u ne) := by kernel_rfl
theorem rule1k9_t {o3 o4 to : Int} {x x3 x4 : Pn.In} {u : Option Nat} {h : HS} (ht : Pn.t1 ⟨2, 9, x.a, x.b⟩ = true) (hbar : True) (hh : ∀ id o, (HR o3 o4 x3 x4 (outS u)).get id = some o → h.hp.get id = some o) : CallOk Tryz.prog W0 38 [.ptr 41 0, .agg (cI (I 2) (.rng 0 14 (9)) (I to) (rg (x.a.r)) (I x.a.i) (rg x.b.r) (I x.b.i))] h h (r1V to ((Pn.bin 9 x.a.i x.b.i).getD 0)) := by
  refine reader (callH_ok (LP := pwT) (L := []) (m := 100) mixed 30) (by kernel_rfl) hbar (fun ne q hq => (tr1k9 o3 o4 to x x3 x4 u ne q).trans ?_) (HR_in _ _ _ _ _) rfl rfl hh
  have hq : Qof q o3 o4 x3 x4 u ne (r1V to ((Pn.bin 9 x.a.i x.b.i).getD 0)) = true := hq
  generalize Qof q o3 o4 x3 x4 u ne = Q at hq ⊢
  simp only
  simp only [tmE, cond_false]
  rw [Pn.bin9, Option.getD_some, ← shU] at hq
  simp only [Pn.t1, Pn.isC, Pn.bin9] at ht
  repeat' (first | exact hq | refine cond_i (fun _ => ?_) (fun _ => ?_))
  all_goals (exfalso; simp_all <;> omega)
theorem rule1k9_f {o3 o4 to : Int} {x x3 x4 : Pn.In} {u : Option Nat} {h : HS} (ht : Pn.t1 ⟨2, 9, x.a, x.b⟩ = false) (hbar : True) (hh : ∀ id o, (HR o3 o4 x3 x4 (outS u)).get id = some o → h.hp.get id = some o) : CallOk Tryz.prog W0 38 [.ptr 41 0, .agg (cI (I 2) (.rng 0 14 (9)) (I to) (rg (x.a.r)) (I x.a.i) (rg x.b.r) (I x.b.i))] h h (zeroV) := by
  refine reader (callH_ok (LP := pwT) (L := []) (m := 100) mixed 30) (by kernel_rfl) hbar (fun ne q hq => (tr1k9 o3 o4 to x x3 x4 u ne q).trans ?_) (HR_in _ _ _ _ _) rfl rfl hh
  have hq : Qof q o3 o4 x3 x4 u ne (zeroV) = true := hq
  generalize Qof q o3 o4 x3 x4 u ne = Q at hq ⊢
  simp only
  simp only [tmE, cond_false]
  simp only [Pn.t1, Pn.isC, Pn.bin9] at ht
  repeat' (first | exact hq | refine cond_i (fun _ => ?_) (fun _ => ?_))
  all_goals (exfalso; simp_all <;> omega)
theorem tr1k10 (o3 o4 to : Int) (x x3 x4 : Pn.In) (u : Option Nat) (ne : Nat) (q : SV → List (Option SO) → Bool → Nat → Bool) : fnRunJ Tryz.prog 38 100 (cP W0) [.ptr 41 0, .agg (cI (I 2) (.rng 0 14 (10)) (I to) (rg (x.a.r)) (I x.a.i) (rg x.b.r) (I x.b.i))] ⟨HR o3 o4 x3 x4 (outS u), 60, ne, 60⟩ (seen q) = (fun Q : SV → Bool => (bif decide ((IntKind.u64.wrap x.b.i).tmod 64 < 0) then false else (bif decide (x.a.r ≥ 0) then Q zeroV else (bif decide (x.b.r ≥ 0) then Q zeroV else Q (.tup [.agg [I (1), I (0), I (to), I (-1), I (x.a.i.fdiv (2 ^ min ((IntKind.u64.wrap x.b.i).tmod 64).toNat IntKind.i64.bits)), I (0), I (0), I 0, I 0, I 0, nilS, nilS, nilS], .bool true]))))) (Qof q o3 o4 x3 x4 u ne) := by kernel_rfl
theorem rule1k10_t {o3 o4 to : Int} {x x3 x4 : Pn.In} {u : Option Nat} {h : HS} (ht : Pn.t1 ⟨2, 10, x.a, x.b⟩ = true) (hbar : True) (hh : ∀ id o, (HR o3 o4 x3 x4 (outS u)).get id = some o → h.hp.get id = some o) : CallOk Tryz.prog W0 38 [.ptr 41 0, .agg (cI (I 2) (.rng 0 14 (10)) (I to) (rg (x.a.r)) (I x.a.i) (rg x.b.r) (I x.b.i))] h h (r1V to ((Pn.bin 10 x.a.i x.b.i).getD 0)) := by
  refine reader (callH_ok (LP := pwT) (L := []) (m := 100) mixed 30) (by kernel_rfl) hbar (fun ne q hq => (tr1k10 o3 o4 to x x3 x4 u ne q).trans ?_) (HR_in _ _ _ _ _) rfl rfl hh
  have hq : Qof q o3 o4 x3 x4 u ne (r1V to ((Pn.bin 10 x.a.i x.b.i).getD 0)) = true := hq
  generalize Qof q o3 o4 x3 x4 u ne = Q at hq ⊢
  simp only
  simp only [tmE, cond_false]
  rw [Pn.bin10, Option.getD_some, ← shU] at hq
  simp only [Pn.t1, Pn.isC, Pn.bin10] at ht
  repeat' (first | exact hq | refine cond_i (fun _ => ?_) (fun _ => ?_))
  all_goals (exfalso; simp_all <;> omega)
theorem rule1k10_f {o3 o4 to : Int} {x x3 x4 : Pn.In} {u : Option Nat} {h : HS} (ht : Pn.t1 ⟨2, 10, x.a, x.b⟩ = false) (hbar : True) (hh : ∀ id o, (HR o3 o4 x3 x4 (outS u)).get id = some o → h.hp.get id = some o) : CallOk Tryz.prog W0 38 [.ptr 41 0, .agg (cI (I 2) (.rng 0 14 (10)) (I to) (rg (x.a.r)) (I x.a.i) (rg x.b.r) (I x.b.i))] h h (zeroV) := by
  refine reader (callH_ok (LP := pwT) (L := []) (m := 100) mixed 30) (by kernel_rfl) hbar (fun ne q hq => (tr1k10 o3 o4 to x x3 x4 u ne q).trans ?_) (HR_in _ _ _ _ _) rfl rfl hh
  have hq : Qof q o3 o4 x3 x4 u ne (zeroV) = true := hq
  generalize Qof q o3 o4 x3 x4 u ne = Q at hq ⊢
  simp only
  simp only [tmE, cond_false]
  simp only [Pn.t1, Pn.isC, Pn.bin10] at ht
  repeat' (first | exact hq | refine cond_i (fun _ => ?_) (fun _ => ?_))
  all_goals (exfalso; simp_all <;> omega)
theorem tr1k11 (o3 o4 to : Int) (x x3 x4 : Pn.In) (u : Option Nat) (ne : Nat) (q : SV → List (Option SO) → Bool → Nat → Bool) : fnRunJ Tryz.prog 38 100 (cP W0) [.ptr 41 0, .agg (cI (I 2) (.rng 0 14 (11)) (I to) (rg (x.a.r)) (I x.a.i) (rg x.b.r) (I x.b.i))] ⟨HR o3 o4 x3 x4 (outS u), 60, ne, 60⟩ (seen q) = (fun Q : SV → Bool => (bif x.a.i == x.b.i then (bif decide (x.a.r ≥ 0) then Q zeroV else (bif decide (x.b.r ≥ 0) then Q zeroV else Q (.tup [.agg [I (1), I (0), I (to), I (-1), I (1), I (0), I (0), I 0, I 0, I 0, nilS, nilS, nilS], .bool true]))) else (bif decide (x.a.r ≥ 0) then Q zeroV else (bif decide (x.b.r ≥ 0) then Q zeroV else Q (.tup [.agg [I (1), I (0), I (to), I (-1), I (0), I (0), I (0), I 0, I 0, I 0, nilS, nilS, nilS], .bool true]))))) (Qof q o3 o4 x3 x4 u ne) := by kernel_rfl
theorem rule1k11_t {o3 o4 to : Int} {x x3 x4 : Pn.In} {u : Option Nat} {h : HS} (ht : Pn.t1 ⟨2, 11, x.a, x.b⟩ = true) (hbar : True) (hh : ∀ id o, (HR o3 o4 x3 x4 (outS u)).get id = some o → h.hp.get id = some o) : CallOk Tryz.prog W0 38 [.ptr 41 0, .agg (cI (I 2) (.rng 0 14 (11)) (I to) (rg (x.a.r)) (I x.a.i) (rg x.b.r) (I x.b.i))] h h (r1V to ((Pn.bin 11 x.a.i x.b.i).getD 0)) := by
  refine reader (callH_ok (LP := pwT) (L := []) (m := 100) mixed 30) (by kernel_rfl) hbar (fun ne q hq => (tr1k11 o3 o4 to x x3 x4 u ne q).trans ?_) (HR_in _ _ _ _ _) rfl rfl hh
  have hq : Qof q o3 o4 x3 x4 u ne (r1V to ((Pn.bin 11 x.a.i x.b.i).getD 0)) = true := hq
  generalize Qof q o3 o4 x3 x4 u ne = Q at hq ⊢
  simp only
  rw [Pn.bin11, Option.getD_some] at hq
  simp only [Pn.t1, Pn.isC, Pn.bin11] at ht
  repeat' (refine cond_i (fun _ => ?_) (fun _ => ?_))
  all_goals first | (exfalso; simp_all; done) | (simp_all [Pn.T, r1V]; done) | (simp_all [Pn.T, r1V, bne]; done) | (exfalso; simp_all <;> omega)
theorem rule1k11_f {o3 o4 to : Int} {x x3 x4 : Pn.In} {u : Option Nat} {h : HS} (ht : Pn.t1 ⟨2, 11, x.a, x.b⟩ = false) (hbar : True) (hh : ∀ id o, (HR o3 o4 x3 x4 (outS u)).get id = some o → h.hp.get id = some o) : CallOk Tryz.prog W0 38 [.ptr 41 0, .agg (cI (I 2) (.rng 0 14 (11)) (I to) (rg (x.a.r)) (I x.a.i) (rg x.b.r) (I x.b.i))] h h (zeroV) := by
  refine reader (callH_ok (LP := pwT) (L := []) (m := 100) mixed 30) (by kernel_rfl) hbar (fun ne q hq => (tr1k11 o3 o4 to x x3 x4 u ne q).trans ?_) (HR_in _ _ _ _ _) rfl rfl hh
  have hq : Qof q o3 o4 x3 x4 u ne (zeroV) = true := hq
  generalize Qof q o3 o4 x3 x4 u ne = Q at hq ⊢
  simp only
  simp only [Pn.t1, Pn.isC, Pn.bin11] at ht
  repeat' (first | exact hq | refine cond_i (fun _ => ?_) (fun _ => ?_))
  all_goals (exfalso; simp_all <;> omega)
theorem tr1k12 (o3 o4 to : Int) (x x3 x4 : Pn.In) (u : Option Nat) (ne : Nat) (q : SV → List (Option SO) → Bool → Nat → Bool) : fnRunJ Tryz.prog 38 100 (cP W0) [.ptr 41 0, .agg (cI (I 2) (.rng 0 14 (12)) (I to) (rg (x.a.r)) (I x.a.i) (rg x.b.r) (I x.b.i))] ⟨HR o3 o4 x3 x4 (outS u), 60, ne, 60⟩ (seen q) = (fun Q : SV → Bool => (bif x.a.i != x.b.i then (bif decide (x.a.r ≥ 0) then Q zeroV else (bif decide (x.b.r ≥ 0) then Q zeroV else Q (.tup [.agg [I (1), I (0), I (to), I (-1), I (1), I (0), I (0), I 0, I 0, I 0, nilS, nilS, nilS], .bool true]))) else (bif decide (x.a.r ≥ 0) then Q zeroV else (bif decide (x.b.r ≥ 0) then Q zeroV else Q (.tup [.agg [I (1), I (0), I (to), I (-1), I (0), I (0), I (0), I 0, I 0, I 0, nilS, nilS, nilS], .bool true]))))) (Qof q o3 o4 x3 x4 u ne) := by kernel_rfl
theorem rule1k12_t {o3 o4 to : Int} {x x3 x4 : Pn.In} {u : Option Nat} {h : HS} (ht : Pn.t1 ⟨2, 12, x.a, x.b⟩ = true) (hbar : True) (hh : ∀ id o, (HR o3 o4 x3 x4 (outS u)).get id = some o → h.hp.get id = some o) : CallOk Tryz.prog W0 38 [.ptr 41 0, .agg (cI (I 2) (.rng 0 14 (12)) (I to) (rg (x.a.r)) (I x.a.i) (rg x.b.r) (I x.b.i))] h h (r1V to ((Pn.bin 12 x.a.i x.b.i).getD 0)) := by
  refine reader (callH_ok (LP := pwT) (L := []) (m := 100) mixed 30) (by kernel_rfl) hbar (fun ne q hq => (tr1k12 o3 o4 to x x3 x4 u ne q).trans ?_) (HR_in _ _ _ _ _) rfl rfl hh
  have hq : Qof q o3 o4 x3 x4 u ne (r1V to ((Pn.bin 12 x.a.i x.b.i).getD 0)) = true := hq
  generalize Qof q o3 o4 x3 x4 u ne = Q at hq ⊢
  simp only
  rw [Pn.bin12, Option.getD_some] at hq
  simp only [Pn.t1, Pn.isC, Pn.bin12] at ht
  repeat' (refine cond_i (fun _ => ?_) (fun _ => ?_))
  all_goals first | (exfalso; simp_all; done) | (simp_all [Pn.T, r1V]; done) | (simp_all [Pn.T, r1V, bne]; done) | (exfalso; simp_all <;> omega)
theorem rule1k12_f {o3 o4 to : Int} {x x3 x4 : Pn.In} {u : Option Nat} {h : HS} (ht : Pn.t1 ⟨2, 12, x.a, x.b⟩ = false) (hbar : True) (hh : ∀ id o, (HR o3 o4 x3 x4 (outS u)).get id = some o → h.hp.get id = some o) : CallOk Tryz.prog W0 38 [.ptr 41 0, .agg (cI (I 2) (.rng 0 14 (12)) (I to) (rg (x.a.r)) (I x.a.i) (rg x.b.r) (I x.b.i))] h h (zeroV) := by
  refine reader (callH_ok (LP := pwT) (L := []) (m := 100) mixed 30) (by kernel_rfl) hbar (fun ne q hq => (tr1k12 o3 o4 to x x3 x4 u ne q).trans ?_) (HR_in _ _ _ _ _) rfl rfl hh
  have hq : Qof q o3 o4 x3 x4 u ne (zeroV) = true := hq
  generalize Qof q o3 o4 x3 x4 u ne = Q at hq ⊢
  simp only
  simp only [Pn.t1, Pn.isC, Pn.bin12] at ht
  repeat' (first | exact hq | refine cond_i (fun _ => ?_) (fun _ => ?_))
  all_goals (exfalso; simp_all <;> omega)
theorem tr1k13 (o3 o4 to : Int) (x x3 x4 : Pn.In) (u : Option Nat) (ne : Nat) (q : SV → List (Option SO) → Bool → Nat → Bool) : fnRunJ Tryz.prog 38 100 (cP W0) [.ptr 41 0, .agg (cI (I 2) (.rng 0 14 (13)) (I to) (rg (x.a.r)) (I x.a.i) (rg x.b.r) (I x.b.i))] ⟨HR o3 o4 x3 x4 (outS u), 60, ne, 60⟩ (seen q) = (fun Q : SV → Bool => (bif decide (x.a.i < x.b.i) then (bif decide (x.a.r ≥ 0) then Q zeroV else (bif decide (x.b.r ≥ 0) then Q zeroV else Q (.tup [.agg [I (1), I (0), I (to), I (-1), I (1), I (0), I (0), I 0, I 0, I 0, nilS, nilS, nilS], .bool true]))) else (bif decide (x.a.r ≥ 0) then Q zeroV else (bif decide (x.b.r ≥ 0) then Q zeroV else Q (.tup [.agg [I (1), I (0), I (to), I (-1), I (0), I (0), I (0), I 0, I 0, I 0, nilS, nilS, nilS], .bool true]))))) (Qof q o3 o4 x3 x4 u ne) := by kernel_rfl
theorem rule1k13_t {o3 o4 to : Int} {x x3 x4 : Pn.In} {u : Option Nat} {h : HS} (ht : Pn.t1 ⟨2, 13, x.a, x.b⟩ = true) (hbar : True) (hh : ∀ id o, (HR o3 o4 x3 x4 (outS u)).get id = some o → h.hp.get id = some o) : CallOk Tryz.prog W0 38 [.ptr 41 0, .agg (cI (I 2) (.rng 0 14 (13)) (I to) (rg (x.a.r)) (I x.a.i) (rg x.b.r) (I x.b.i))] h h (r1V to ((Pn.bin 13 x.a.i x.b.i).getD 0)) := by
  refine reader (callH_ok (LP := pwT) (L := []) (m := 100) mixed 30) (by kernel_rfl) hbar (fun ne q hq => (tr1k13 o3 o4 to x x3 x4 u ne q).trans ?_) (HR_in _ _ _ _ _) rfl rfl hh
  have hq : Qof q o3 o4 x3 x4 u ne (r1V to ((Pn.bin 13 x.a.i x.b.i).getD 0)) = true := hq
  generalize Qof q o3 o4 x3 x4 u ne = Q at hq ⊢
  simp only
  rw [Pn.bin13, Option.getD_some] at hq
  simp only [Pn.t1, Pn.isC, Pn.bin13] at ht
  repeat' (refine cond_i (fun _ => ?_) (fun _ => ?_))
  all_goals first | (exfalso; simp_all; done) | (simp_all [Pn.T, r1V]; done) | (simp_all [Pn.T, r1V, bne]; done) | (exfalso; simp_all <;> omega)
theorem rule1k13_f {o3 o4 to : Int} {x x3 x4 : Pn.In} {u : Option Nat} {h : HS} (ht : Pn.t1 ⟨2, 13, x.a, x.b⟩ = false) (hbar : True) (hh : ∀ id o, (HR o3 o4 x3 x4 (outS u)).get id = some o → h.hp.get id = some o) : CallOk Tryz.prog W0 38 [.ptr 41 0, .agg (cI (I 2) (.rng 0 14 (13)) (I to) (rg (x.a.r)) (I x.a.i) (rg x.b.r) (I x.b.i))] h h (zeroV) := by
  refine reader (callH_ok (LP := pwT) (L := []) (m := 100) mixed 30) (by kernel_rfl) hbar (fun ne q hq => (tr1k13 o3 o4 to x x3 x4 u ne q).trans ?_) (HR_in _ _ _ _ _) rfl rfl hh
  have hq : Qof q o3 o4 x3 x4 u ne (zeroV) = true := hq
  generalize Qof q o3 o4 x3 x4 u ne = Q at hq ⊢
  simp only
  simp only [Pn.t1, Pn.isC, Pn.bin13] at ht
  repeat' (first | exact hq | refine cond_i (fun _ => ?_) (fun _ => ?_))
  all_goals (exfalso; simp_all <;> omega)
theorem tr1k14 (o3 o4 to : Int) (x x3 x4 : Pn.In) (u : Option Nat) (ne : Nat) (q : SV → List (Option SO) → Bool → Nat → Bool) : fnRunJ Tryz.prog 38 100 (cP W0) [.ptr 41 0, .agg (cI (I 2) (.rng 0 14 (14)) (I to) (rg (x.a.r)) (I x.a.i) (rg x.b.r) (I x.b.i))] ⟨HR o3 o4 x3 x4 (outS u), 60, ne, 60⟩ (seen q) = (fun Q : SV → Bool => (bif decide (x.a.i ≤ x.b.i) then (bif decide (x.a.r ≥ 0) then Q zeroV else (bif decide (x.b.r ≥ 0) then Q zeroV else Q (.tup [.agg [I (1), I (0), I (to), I (-1), I (1), I (0), I (0), I 0, I 0, I 0, nilS, nilS, nilS], .bool true]))) else (bif decide (x.a.r ≥ 0) then Q zeroV else (bif decide (x.b.r ≥ 0) then Q zeroV else Q (.tup [.agg [I (1), I (0), I (to), I (-1), I (0), I (0), I (0), I 0, I 0, I 0, nilS, nilS, nilS], .bool true]))))) (Qof q o3 o4 x3 x4 u ne) := by kernel_rfl
theorem rule1k14_t {o3 o4 to : Int} {x x3 x4 : Pn.In} {u : Option Nat} {h : HS} (ht : Pn.t1 ⟨2, 14, x.a, x.b⟩ = true) (hbar : True) (hh : ∀ id o, (HR o3 o4 x3 x4 (outS u)).get id = some o → h.hp.get id = some o) : CallOk Tryz.prog W0 38 [.ptr 41 0, .agg (cI (I 2) (.rng 0 14 (14)) (I to) (rg (x.a.r)) (I x.a.i) (rg x.b.r) (I x.b.i))] h h (r1V to ((Pn.bin 14 x.a.i x.b.i).getD 0)) := by
  refine reader (callH_ok (LP := pwT) (L := []) (m := 100) mixed 30) (by kernel_rfl) hbar (fun ne q hq => (tr1k14 o3 o4 to x x3 x4 u ne q).trans ?_) (HR_in _ _ _ _ _) rfl rfl hh
  have hq : Qof q o3 o4 x3 x4 u ne (r1V to ((Pn.bin 14 x.a.i x.b.i).getD 0)) = true := hq
  generalize Qof q o3 o4 x3 x4 u ne = Q at hq ⊢
  simp only
  rw [Pn.bin14, Option.getD_some] at hq
  simp only [Pn.t1, Pn.isC, Pn.bin14] at ht
  repeat' (refine cond_i (fun _ => ?_) (fun _ => ?_))
  all_goals first | (exfalso; simp_all; done) | (simp_all [Pn.T, r1V]; done) | (simp_all [Pn.T, r1V, bne]; done) | (exfalso; simp_all <;> omega)
theorem rule1k14_f {o3 o4 to : Int} {x x3 x4 : Pn.In} {u : Option Nat} {h : HS} (ht : Pn.t1 ⟨2, 14, x.a, x.b⟩ = false) (hbar : True) (hh : ∀ id o, (HR o3 o4 x3 x4 (outS u)).get id = some o → h.hp.get id = some o) : CallOk Tryz.prog W0 38 [.ptr 41 0, .agg (cI (I 2) (.rng 0 14 (14)) (I to) (rg (x.a.r)) (I x.a.i) (rg x.b.r) (I x.b.i))] h h (zeroV) := by
  refine reader (callH_ok (LP := pwT) (L := []) (m := 100) mixed 30) (by kernel_rfl) hbar (fun ne q hq => (tr1k14 o3 o4 to x x3 x4 u ne q).trans ?_) (HR_in _ _ _ _ _) rfl rfl hh
  have hq : Qof q o3 o4 x3 x4 u ne (zeroV) = true := hq
  generalize Qof q o3 o4 x3 x4 u ne = Q at hq ⊢
  simp only
  simp only [Pn.t1, Pn.isC, Pn.bin14] at ht
  repeat' (first | exact hq | refine cond_i (fun _ => ?_) (fun _ => ?_))
  all_goals (exfalso; simp_all <;> omega)
end Go.Proofs.YtgoccionghehoaaGreatDoor.Ev
