/- The rules that ask of which operation an operand is the result. The rules 6, 8 and 17. -/
import Derived.Test.YtgoccionghehoaaGreatDoorPe1
set_option linter.unusedSimpArgs false
set_option linter.unusedVariables false
set_option linter.unusedSectionVars false
namespace Go.Proofs.YtgoccionghehoaaGreatDoor.Ev
open Go Go.Proofs

variable {W0 : World} [GOk W0]
theorem shW (c : Int) : IntKind.i64.wrap ((BitVec.ofInt IntKind.i64.bits c &&& BitVec.ofInt IntKind.i64.bits 63).toNat : Int) = (Pn.sh c : Int) := by
  have h1 : (BitVec.ofInt IntKind.i64.bits c &&& BitVec.ofInt IntKind.i64.bits 63).toNat = Pn.sh c := by
    show (BitVec.ofInt 64 c &&& BitVec.ofInt 64 63).toNat = _
    rw [BitVec.toNat_and, BitVec.toNat_ofInt, BitVec.toNat_ofInt]
    have h2 : ((63 : Int) % ((2 ^ 64 : Nat) : Int)).toNat = 2 ^ 6 - 1 := by decide
    rw [h2, Nat.and_two_pow_sub_one_eq_mod]
    unfold Pn.sh
    have : ((2 ^ 64 : Nat) : Int) = 18446744073709551616 := by decide
    rw [this]
    omega
  rw [h1]
  have := Pn.sh_lt c
  rw [IntKind.wrap_i64]
  omega
theorem shS (c b : Int) : IntKind.i64.wrap (IntKind.i64.wrap ((BitVec.ofInt IntKind.i64.bits c &&& BitVec.ofInt IntKind.i64.bits 63).toNat : Int) + IntKind.i64.wrap ((BitVec.ofInt IntKind.i64.bits b &&& BitVec.ofInt IntKind.i64.bits 63).toNat : Int)) = ((Pn.sh c + Pn.sh b : Nat) : Int) := by
  rw [shW, shW]
  have := Pn.sh_lt c
  have := Pn.sh_lt b
  rw [IntKind.wrap_i64]
  omega
theorem shL (c b : Int) : decide (Pn.sh c + Pn.sh b < 64) = decide (IntKind.i64.wrap (IntKind.i64.wrap ((BitVec.ofInt IntKind.i64.bits c &&& BitVec.ofInt IntKind.i64.bits 63).toNat : Int) + IntKind.i64.wrap ((BitVec.ofInt IntKind.i64.bits b &&& BitVec.ofInt IntKind.i64.bits 63).toNat : Int)) < 64) := by
  rw [shS, decide_eq_decide]
  omega
theorem te10o2rm (o4 to : Int) (x x3 x4 : Pn.In) (u : Option Nat) (ne : Nat) (q : SV → List (Option SO) → Bool → Nat → Bool) : fnRunJ Tryz.prog 47 100 (cP W0) [.ptr 41 0, .agg (cI (I 2) (.rng 0 14 x.k) (I to) (rg (-1)) (I x.a.i) (rg x.b.r) (I x.b.i))] ⟨HR 2 o4 x3 x4 (outS u), 60, ne, 60⟩ (seen q) = (fun Q : SV → Bool => (bif decide (x.b.r < 0) then (bif x.k == 1 then Q zeroV else Q zeroV) else Q zeroV)) (Qof q 2 o4 x3 x4 u ne) := by kernel_rfl
theorem e10o2rm {o4 to : Int} {x x3 x4 : Pn.In} {u : Option Nat} {h : HS} (hbar : True) (hh : ∀ id o, (HR 2 o4 x3 x4 (outS u)).get id = some o → h.hp.get id = some o) : CallOk Tryz.prog W0 47 [.ptr 41 0, .agg (cI (I 2) (.rng 0 14 x.k) (I to) (rg (-1)) (I x.a.i) (rg x.b.r) (I x.b.i))] h h (zeroV) := by
  refine reader (callH_ok (LP := pwT) (L := []) (m := 100) mixed 30) (by kernel_rfl) hbar (fun ne q hq => (te10o2rm o4 to x x3 x4 u ne q).trans ?_) (HR_in _ _ _ _ _) rfl rfl hh
  have hq : Qof q 2 o4 x3 x4 u ne (zeroV) = true := hq
  generalize Qof q 2 o4 x3 x4 u ne = Q at hq ⊢
  simp only
  repeat' (first | exact hq | refine cond_i (fun _ => ?_) (fun _ => ?_))
theorem te10o2r0 (o4 to : Int) (x x3 x4 : Pn.In) (u : Option Nat) (ne : Nat) (q : SV → List (Option SO) → Bool → Nat → Bool) : fnRunJ Tryz.prog 47 100 (cP W0) [.ptr 41 0, .agg (cI (I 2) (.rng 0 14 x.k) (I to) (rg (0)) (I x.a.i) (rg x.b.r) (I x.b.i))] ⟨HR 2 o4 x3 x4 (outS u), 60, ne, 60⟩ (seen q) = (fun Q : SV → Bool => (bif decide (x.b.r < 0) then (bif x.k == 1 then Q zeroV else Q zeroV) else Q zeroV)) (Qof q 2 o4 x3 x4 u ne) := by kernel_rfl
theorem e10o2r0 {o4 to : Int} {x x3 x4 : Pn.In} {u : Option Nat} {h : HS} (hbar : True) (hh : ∀ id o, (HR 2 o4 x3 x4 (outS u)).get id = some o → h.hp.get id = some o) : CallOk Tryz.prog W0 47 [.ptr 41 0, .agg (cI (I 2) (.rng 0 14 x.k) (I to) (rg (0)) (I x.a.i) (rg x.b.r) (I x.b.i))] h h (zeroV) := by
  refine reader (callH_ok (LP := pwT) (L := []) (m := 100) mixed 30) (by kernel_rfl) hbar (fun ne q hq => (te10o2r0 o4 to x x3 x4 u ne q).trans ?_) (HR_in _ _ _ _ _) rfl rfl hh
  have hq : Qof q 2 o4 x3 x4 u ne (zeroV) = true := hq
  generalize Qof q 2 o4 x3 x4 u ne = Q at hq ⊢
  simp only
  repeat' (first | exact hq | refine cond_i (fun _ => ?_) (fun _ => ?_))
theorem te10o2r1 (o4 to : Int) (x x3 x4 : Pn.In) (u : Option Nat) (ne : Nat) (q : SV → List (Option SO) → Bool → Nat → Bool) : fnRunJ Tryz.prog 47 100 (cP W0) [.ptr 41 0, .agg (cI (I 2) (.rng 0 14 x.k) (I to) (rg (1)) (I x.a.i) (rg x.b.r) (I x.b.i))] ⟨HR 2 o4 x3 x4 (outS u), 60, ne, 60⟩ (seen q) = (fun Q : SV → Bool => (bif decide (x.b.r < 0) then (bif x.k == 1 then Q zeroV else Q zeroV) else Q zeroV)) (Qof q 2 o4 x3 x4 u ne) := by kernel_rfl
theorem e10o2r1 {o4 to : Int} {x x3 x4 : Pn.In} {u : Option Nat} {h : HS} (hbar : True) (hh : ∀ id o, (HR 2 o4 x3 x4 (outS u)).get id = some o → h.hp.get id = some o) : CallOk Tryz.prog W0 47 [.ptr 41 0, .agg (cI (I 2) (.rng 0 14 x.k) (I to) (rg (1)) (I x.a.i) (rg x.b.r) (I x.b.i))] h h (zeroV) := by
  refine reader (callH_ok (LP := pwT) (L := []) (m := 100) mixed 30) (by kernel_rfl) hbar (fun ne q hq => (te10o2r1 o4 to x x3 x4 u ne q).trans ?_) (HR_in _ _ _ _ _) rfl rfl hh
  have hq : Qof q 2 o4 x3 x4 u ne (zeroV) = true := hq
  generalize Qof q 2 o4 x3 x4 u ne = Q at hq ⊢
  simp only
  repeat' (first | exact hq | refine cond_i (fun _ => ?_) (fun _ => ?_))
theorem te10o2r2 (o4 to : Int) (x x3 x4 : Pn.In) (u : Option Nat) (ne : Nat) (q : SV → List (Option SO) → Bool → Nat → Bool) : fnRunJ Tryz.prog 47 100 (cP W0) [.ptr 41 0, .agg (cI (I 2) (.rng 0 14 x.k) (I to) (rg (2)) (I x.a.i) (rg x.b.r) (I x.b.i))] ⟨HR 2 o4 x3 x4 (outS u), 60, ne, 60⟩ (seen q) = (fun Q : SV → Bool => (bif decide (x.b.r < 0) then (bif x.k == 1 then Q zeroV else Q zeroV) else Q zeroV)) (Qof q 2 o4 x3 x4 u ne) := by kernel_rfl
theorem e10o2r2 {o4 to : Int} {x x3 x4 : Pn.In} {u : Option Nat} {h : HS} (hbar : True) (hh : ∀ id o, (HR 2 o4 x3 x4 (outS u)).get id = some o → h.hp.get id = some o) : CallOk Tryz.prog W0 47 [.ptr 41 0, .agg (cI (I 2) (.rng 0 14 x.k) (I to) (rg (2)) (I x.a.i) (rg x.b.r) (I x.b.i))] h h (zeroV) := by
  refine reader (callH_ok (LP := pwT) (L := []) (m := 100) mixed 30) (by kernel_rfl) hbar (fun ne q hq => (te10o2r2 o4 to x x3 x4 u ne q).trans ?_) (HR_in _ _ _ _ _) rfl rfl hh
  have hq : Qof q 2 o4 x3 x4 u ne (zeroV) = true := hq
  generalize Qof q 2 o4 x3 x4 u ne = Q at hq ⊢
  simp only
  repeat' (first | exact hq | refine cond_i (fun _ => ?_) (fun _ => ?_))
theorem te10o2r3 (o4 to : Int) (x x3 x4 : Pn.In) (u : Option Nat) (ne : Nat) (q : SV → List (Option SO) → Bool → Nat → Bool) : fnRunJ Tryz.prog 47 100 (cP W0) [.ptr 41 0, .agg (cI (I 2) (.rng 0 14 x.k) (I to) (rg (3)) (I x.a.i) (rg x.b.r) (I x.b.i))] ⟨HR 2 o4 x3 x4 (outS u), 60, ne, 60⟩ (seen q) = (fun Q : SV → Bool => (bif decide (x.b.r < 0) then (bif decide (x3.a.r ≥ 0) then (bif decide (x3.b.r ≥ 0) then (bif x3.k == x.k then (bif decide (x3.b.r < 0) then (bif x.k == 1 then Q (.tup [.agg [I (2), .rng 0 14 x.k, I (to), rg x3.a.r, I (x3.a.i), I (-1), I (IntKind.i64.wrap (x3.b.i + x.b.i)), I 0, I 0, I 0, nilS, nilS, nilS], .bool true]) else Q zeroV) else (bif x.k == 1 then Q zeroV else Q zeroV)) else (bif x.k == 1 then Q zeroV else Q zeroV)) else (bif x3.k == x.k then (bif decide (x3.b.r < 0) then (bif x.k == 1 then Q (.tup [.agg [I (2), .rng 0 14 x.k, I (to), rg x3.a.r, I (x3.a.i), I (-1), I (IntKind.i64.wrap (x3.b.i + x.b.i)), I 0, I 0, I 0, nilS, nilS, nilS], .bool true]) else Q zeroV) else (bif x.k == 1 then Q zeroV else Q zeroV)) else (bif x.k == 1 then Q zeroV else Q zeroV))) else (bif decide (x3.b.r ≥ 0) then (bif x3.k == x.k then (bif decide (x3.b.r < 0) then (bif x.k == 1 then Q (.tup [.agg [I (2), .rng 0 14 x.k, I (to), rg x3.a.r, I (x3.a.i), I (-1), I (IntKind.i64.wrap (x3.b.i + x.b.i)), I 0, I 0, I 0, nilS, nilS, nilS], .bool true]) else Q zeroV) else (bif x.k == 1 then Q zeroV else Q zeroV)) else (bif x.k == 1 then Q zeroV else Q zeroV)) else (bif x3.k == x.k then (bif decide (x3.b.r < 0) then (bif x.k == 1 then Q (.tup [.agg [I (2), .rng 0 14 x.k, I (to), rg x3.a.r, I (x3.a.i), I (-1), I (IntKind.i64.wrap (x3.b.i + x.b.i)), I 0, I 0, I 0, nilS, nilS, nilS], .bool true]) else Q zeroV) else (bif x.k == 1 then Q zeroV else Q zeroV)) else (bif x.k == 1 then Q zeroV else Q zeroV)))) else (bif decide (x3.a.r ≥ 0) then (bif decide (x3.b.r ≥ 0) then (bif x3.k == x.k then (bif decide (x3.b.r < 0) then Q zeroV else Q zeroV) else Q zeroV) else (bif x3.k == x.k then (bif decide (x3.b.r < 0) then Q zeroV else Q zeroV) else Q zeroV)) else (bif decide (x3.b.r ≥ 0) then (bif x3.k == x.k then (bif decide (x3.b.r < 0) then Q zeroV else Q zeroV) else Q zeroV) else (bif x3.k == x.k then (bif decide (x3.b.r < 0) then Q zeroV else Q zeroV) else Q zeroV))))) (Qof q 2 o4 x3 x4 u ne) := by kernel_rfl
theorem e10o2r3_f {o4 to : Int} {x x3 x4 : Pn.In} {u : Option Nat} {h : HS} (ht : Pn.t10 ⟨2, x3.k, x3.a, x3.b⟩ ⟨2, x.k, ⟨3, x.a.i⟩, x.b⟩ = false) (hbar : True) (hh : ∀ id o, (HR 2 o4 x3 x4 (outS u)).get id = some o → h.hp.get id = some o) : CallOk Tryz.prog W0 47 [.ptr 41 0, .agg (cI (I 2) (.rng 0 14 x.k) (I to) (rg (3)) (I x.a.i) (rg x.b.r) (I x.b.i))] h h (zeroV) := by
  refine reader (callH_ok (LP := pwT) (L := []) (m := 100) mixed 30) (by kernel_rfl) hbar (fun ne q hq => (te10o2r3 o4 to x x3 x4 u ne q).trans ?_) (HR_in _ _ _ _ _) rfl rfl hh
  have hq : Qof q 2 o4 x3 x4 u ne (zeroV) = true := hq
  generalize Qof q 2 o4 x3 x4 u ne = Q at hq ⊢
  simp only
  simp only [Pn.t10, Pn.sameY, Pn.compY, Pn.hasY, Pn.isC, Pn.amid, shL] at ht
  repeat' (first | exact hq | refine cond_i (fun _ => ?_) (fun _ => ?_))
  all_goals (exfalso; simp_all <;> omega)
theorem e10o2r3_t {o4 to : Int} {x x3 x4 : Pn.In} {u : Option Nat} {h : HS} (ht : Pn.t10 ⟨2, x3.k, x3.a, x3.b⟩ ⟨2, x.k, ⟨3, x.a.i⟩, x.b⟩ = true) (hbar : True) (hh : ∀ id o, (HR 2 o4 x3 x4 (outS u)).get id = some o → h.hp.get id = some o) : CallOk Tryz.prog W0 47 [.ptr 41 0, .agg (cI (I 2) (.rng 0 14 x.k) (I to) (rg (3)) (I x.a.i) (rg x.b.r) (I x.b.i))] h h (.tup [.agg [I (2), .rng 0 14 x.k, I (to), rg x3.a.r, I (x3.a.i), I (-1), I (IntKind.i64.wrap (x3.b.i + x.b.i)), I 0, I 0, I 0, nilS, nilS, nilS], .bool true]) := by
  refine reader (callH_ok (LP := pwT) (L := []) (m := 100) mixed 30) (by kernel_rfl) hbar (fun ne q hq => (te10o2r3 o4 to x x3 x4 u ne q).trans ?_) (HR_in _ _ _ _ _) rfl rfl hh
  have hq : Qof q 2 o4 x3 x4 u ne (.tup [.agg [I (2), .rng 0 14 x.k, I (to), rg x3.a.r, I (x3.a.i), I (-1), I (IntKind.i64.wrap (x3.b.i + x.b.i)), I 0, I 0, I 0, nilS, nilS, nilS], .bool true]) = true := hq
  generalize Qof q 2 o4 x3 x4 u ne = Q at hq ⊢
  simp only
  simp only [Pn.t10, Pn.sameY, Pn.compY, Pn.hasY, Pn.isC, Pn.amid, shL] at ht
  repeat' (first | exact hq | refine cond_i (fun _ => ?_) (fun _ => ?_))
  all_goals (exfalso; simp_all <;> omega)
theorem te10o1rm (o4 to : Int) (x x3 x4 : Pn.In) (u : Option Nat) (ne : Nat) (q : SV → List (Option SO) → Bool → Nat → Bool) : fnRunJ Tryz.prog 47 100 (cP W0) [.ptr 41 0, .agg (cI (I 2) (.rng 0 14 x.k) (I to) (rg (-1)) (I x.a.i) (rg x.b.r) (I x.b.i))] ⟨HR 1 o4 x3 x4 (outS u), 60, ne, 60⟩ (seen q) = (fun Q : SV → Bool => (bif decide (x.b.r < 0) then (bif x.k == 1 then Q zeroV else Q zeroV) else Q zeroV)) (Qof q 1 o4 x3 x4 u ne) := by kernel_rfl
theorem e10o1rm {o4 to : Int} {x x3 x4 : Pn.In} {u : Option Nat} {h : HS} (hbar : True) (hh : ∀ id o, (HR 1 o4 x3 x4 (outS u)).get id = some o → h.hp.get id = some o) : CallOk Tryz.prog W0 47 [.ptr 41 0, .agg (cI (I 2) (.rng 0 14 x.k) (I to) (rg (-1)) (I x.a.i) (rg x.b.r) (I x.b.i))] h h (zeroV) := by
  refine reader (callH_ok (LP := pwT) (L := []) (m := 100) mixed 30) (by kernel_rfl) hbar (fun ne q hq => (te10o1rm o4 to x x3 x4 u ne q).trans ?_) (HR_in _ _ _ _ _) rfl rfl hh
  have hq : Qof q 1 o4 x3 x4 u ne (zeroV) = true := hq
  generalize Qof q 1 o4 x3 x4 u ne = Q at hq ⊢
  simp only
  repeat' (first | exact hq | refine cond_i (fun _ => ?_) (fun _ => ?_))
theorem te10o1r0 (o4 to : Int) (x x3 x4 : Pn.In) (u : Option Nat) (ne : Nat) (q : SV → List (Option SO) → Bool → Nat → Bool) : fnRunJ Tryz.prog 47 100 (cP W0) [.ptr 41 0, .agg (cI (I 2) (.rng 0 14 x.k) (I to) (rg (0)) (I x.a.i) (rg x.b.r) (I x.b.i))] ⟨HR 1 o4 x3 x4 (outS u), 60, ne, 60⟩ (seen q) = (fun Q : SV → Bool => (bif decide (x.b.r < 0) then (bif x.k == 1 then Q zeroV else Q zeroV) else Q zeroV)) (Qof q 1 o4 x3 x4 u ne) := by kernel_rfl
theorem e10o1r0 {o4 to : Int} {x x3 x4 : Pn.In} {u : Option Nat} {h : HS} (hbar : True) (hh : ∀ id o, (HR 1 o4 x3 x4 (outS u)).get id = some o → h.hp.get id = some o) : CallOk Tryz.prog W0 47 [.ptr 41 0, .agg (cI (I 2) (.rng 0 14 x.k) (I to) (rg (0)) (I x.a.i) (rg x.b.r) (I x.b.i))] h h (zeroV) := by
  refine reader (callH_ok (LP := pwT) (L := []) (m := 100) mixed 30) (by kernel_rfl) hbar (fun ne q hq => (te10o1r0 o4 to x x3 x4 u ne q).trans ?_) (HR_in _ _ _ _ _) rfl rfl hh
  have hq : Qof q 1 o4 x3 x4 u ne (zeroV) = true := hq
  generalize Qof q 1 o4 x3 x4 u ne = Q at hq ⊢
  simp only
  repeat' (first | exact hq | refine cond_i (fun _ => ?_) (fun _ => ?_))
theorem te10o1r1 (o4 to : Int) (x x3 x4 : Pn.In) (u : Option Nat) (ne : Nat) (q : SV → List (Option SO) → Bool → Nat → Bool) : fnRunJ Tryz.prog 47 100 (cP W0) [.ptr 41 0, .agg (cI (I 2) (.rng 0 14 x.k) (I to) (rg (1)) (I x.a.i) (rg x.b.r) (I x.b.i))] ⟨HR 1 o4 x3 x4 (outS u), 60, ne, 60⟩ (seen q) = (fun Q : SV → Bool => (bif decide (x.b.r < 0) then (bif x.k == 1 then Q zeroV else Q zeroV) else Q zeroV)) (Qof q 1 o4 x3 x4 u ne) := by kernel_rfl
theorem e10o1r1 {o4 to : Int} {x x3 x4 : Pn.In} {u : Option Nat} {h : HS} (hbar : True) (hh : ∀ id o, (HR 1 o4 x3 x4 (outS u)).get id = some o → h.hp.get id = some o) : CallOk Tryz.prog W0 47 [.ptr 41 0, .agg (cI (I 2) (.rng 0 14 x.k) (I to) (rg (1)) (I x.a.i) (rg x.b.r) (I x.b.i))] h h (zeroV) := by
  refine reader (callH_ok (LP := pwT) (L := []) (m := 100) mixed 30) (by kernel_rfl) hbar (fun ne q hq => (te10o1r1 o4 to x x3 x4 u ne q).trans ?_) (HR_in _ _ _ _ _) rfl rfl hh
  have hq : Qof q 1 o4 x3 x4 u ne (zeroV) = true := hq
  generalize Qof q 1 o4 x3 x4 u ne = Q at hq ⊢
  simp only
  repeat' (first | exact hq | refine cond_i (fun _ => ?_) (fun _ => ?_))
theorem te10o1r2 (o4 to : Int) (x x3 x4 : Pn.In) (u : Option Nat) (ne : Nat) (q : SV → List (Option SO) → Bool → Nat → Bool) : fnRunJ Tryz.prog 47 100 (cP W0) [.ptr 41 0, .agg (cI (I 2) (.rng 0 14 x.k) (I to) (rg (2)) (I x.a.i) (rg x.b.r) (I x.b.i))] ⟨HR 1 o4 x3 x4 (outS u), 60, ne, 60⟩ (seen q) = (fun Q : SV → Bool => (bif decide (x.b.r < 0) then (bif x.k == 1 then Q zeroV else Q zeroV) else Q zeroV)) (Qof q 1 o4 x3 x4 u ne) := by kernel_rfl
theorem e10o1r2 {o4 to : Int} {x x3 x4 : Pn.In} {u : Option Nat} {h : HS} (hbar : True) (hh : ∀ id o, (HR 1 o4 x3 x4 (outS u)).get id = some o → h.hp.get id = some o) : CallOk Tryz.prog W0 47 [.ptr 41 0, .agg (cI (I 2) (.rng 0 14 x.k) (I to) (rg (2)) (I x.a.i) (rg x.b.r) (I x.b.i))] h h (zeroV) := by
  refine reader (callH_ok (LP := pwT) (L := []) (m := 100) mixed 30) (by kernel_rfl) hbar (fun ne q hq => (te10o1r2 o4 to x x3 x4 u ne q).trans ?_) (HR_in _ _ _ _ _) rfl rfl hh
  have hq : Qof q 1 o4 x3 x4 u ne (zeroV) = true := hq
  generalize Qof q 1 o4 x3 x4 u ne = Q at hq ⊢
  simp only
  repeat' (first | exact hq | refine cond_i (fun _ => ?_) (fun _ => ?_))
theorem te10o1r3 (o4 to : Int) (x x3 x4 : Pn.In) (u : Option Nat) (ne : Nat) (q : SV → List (Option SO) → Bool → Nat → Bool) : fnRunJ Tryz.prog 47 100 (cP W0) [.ptr 41 0, .agg (cI (I 2) (.rng 0 14 x.k) (I to) (rg (3)) (I x.a.i) (rg x.b.r) (I x.b.i))] ⟨HR 1 o4 x3 x4 (outS u), 60, ne, 60⟩ (seen q) = (fun Q : SV → Bool => (bif decide (x.b.r < 0) then (bif decide (x3.a.r ≥ 0) then (bif x.k == 1 then Q zeroV else Q zeroV) else (bif x.k == 1 then Q zeroV else Q zeroV)) else (bif decide (x3.a.r ≥ 0) then Q zeroV else Q zeroV))) (Qof q 1 o4 x3 x4 u ne) := by kernel_rfl
theorem e10o1r3 {o4 to : Int} {x x3 x4 : Pn.In} {u : Option Nat} {h : HS} (hbar : True) (hh : ∀ id o, (HR 1 o4 x3 x4 (outS u)).get id = some o → h.hp.get id = some o) : CallOk Tryz.prog W0 47 [.ptr 41 0, .agg (cI (I 2) (.rng 0 14 x.k) (I to) (rg (3)) (I x.a.i) (rg x.b.r) (I x.b.i))] h h (zeroV) := by
  refine reader (callH_ok (LP := pwT) (L := []) (m := 100) mixed 30) (by kernel_rfl) hbar (fun ne q hq => (te10o1r3 o4 to x x3 x4 u ne q).trans ?_) (HR_in _ _ _ _ _) rfl rfl hh
  have hq : Qof q 1 o4 x3 x4 u ne (zeroV) = true := hq
  generalize Qof q 1 o4 x3 x4 u ne = Q at hq ⊢
  simp only
  repeat' (first | exact hq | refine cond_i (fun _ => ?_) (fun _ => ?_))
theorem te11o2rm (o4 to : Int) (x x3 x4 : Pn.In) (u : Option Nat) (ne : Nat) (q : SV → List (Option SO) → Bool → Nat → Bool) : fnRunJ Tryz.prog 48 100 (cP W0) [.ptr 41 0, .agg (cI (I 2) (.rng 0 14 x.k) (I to) (rg (-1)) (I x.a.i) (rg x.b.r) (I x.b.i))] ⟨HR 2 o4 x3 x4 (outS u), 60, ne, 60⟩ (seen q) = (fun Q : SV → Bool => (bif decide (x.b.r < 0) then (bif x.k == 6 then Q zeroV else (bif x.k == 7 then Q zeroV else (bif x.k == 8 then Q zeroV else Q zeroV))) else Q zeroV)) (Qof q 2 o4 x3 x4 u ne) := by kernel_rfl
theorem e11o2rm {o4 to : Int} {x x3 x4 : Pn.In} {u : Option Nat} {h : HS} (hbar : True) (hh : ∀ id o, (HR 2 o4 x3 x4 (outS u)).get id = some o → h.hp.get id = some o) : CallOk Tryz.prog W0 48 [.ptr 41 0, .agg (cI (I 2) (.rng 0 14 x.k) (I to) (rg (-1)) (I x.a.i) (rg x.b.r) (I x.b.i))] h h (zeroV) := by
  refine reader (callH_ok (LP := pwT) (L := []) (m := 100) mixed 30) (by kernel_rfl) hbar (fun ne q hq => (te11o2rm o4 to x x3 x4 u ne q).trans ?_) (HR_in _ _ _ _ _) rfl rfl hh
  have hq : Qof q 2 o4 x3 x4 u ne (zeroV) = true := hq
  generalize Qof q 2 o4 x3 x4 u ne = Q at hq ⊢
  simp only
  repeat' (first | exact hq | refine cond_i (fun _ => ?_) (fun _ => ?_))
theorem te11o2r0 (o4 to : Int) (x x3 x4 : Pn.In) (u : Option Nat) (ne : Nat) (q : SV → List (Option SO) → Bool → Nat → Bool) : fnRunJ Tryz.prog 48 100 (cP W0) [.ptr 41 0, .agg (cI (I 2) (.rng 0 14 x.k) (I to) (rg (0)) (I x.a.i) (rg x.b.r) (I x.b.i))] ⟨HR 2 o4 x3 x4 (outS u), 60, ne, 60⟩ (seen q) = (fun Q : SV → Bool => (bif decide (x.b.r < 0) then (bif x.k == 6 then Q zeroV else (bif x.k == 7 then Q zeroV else (bif x.k == 8 then Q zeroV else Q zeroV))) else Q zeroV)) (Qof q 2 o4 x3 x4 u ne) := by kernel_rfl
theorem e11o2r0 {o4 to : Int} {x x3 x4 : Pn.In} {u : Option Nat} {h : HS} (hbar : True) (hh : ∀ id o, (HR 2 o4 x3 x4 (outS u)).get id = some o → h.hp.get id = some o) : CallOk Tryz.prog W0 48 [.ptr 41 0, .agg (cI (I 2) (.rng 0 14 x.k) (I to) (rg (0)) (I x.a.i) (rg x.b.r) (I x.b.i))] h h (zeroV) := by
  refine reader (callH_ok (LP := pwT) (L := []) (m := 100) mixed 30) (by kernel_rfl) hbar (fun ne q hq => (te11o2r0 o4 to x x3 x4 u ne q).trans ?_) (HR_in _ _ _ _ _) rfl rfl hh
  have hq : Qof q 2 o4 x3 x4 u ne (zeroV) = true := hq
  generalize Qof q 2 o4 x3 x4 u ne = Q at hq ⊢
  simp only
  repeat' (first | exact hq | refine cond_i (fun _ => ?_) (fun _ => ?_))
theorem te11o2r1 (o4 to : Int) (x x3 x4 : Pn.In) (u : Option Nat) (ne : Nat) (q : SV → List (Option SO) → Bool → Nat → Bool) : fnRunJ Tryz.prog 48 100 (cP W0) [.ptr 41 0, .agg (cI (I 2) (.rng 0 14 x.k) (I to) (rg (1)) (I x.a.i) (rg x.b.r) (I x.b.i))] ⟨HR 2 o4 x3 x4 (outS u), 60, ne, 60⟩ (seen q) = (fun Q : SV → Bool => (bif decide (x.b.r < 0) then (bif x.k == 6 then Q zeroV else (bif x.k == 7 then Q zeroV else (bif x.k == 8 then Q zeroV else Q zeroV))) else Q zeroV)) (Qof q 2 o4 x3 x4 u ne) := by kernel_rfl
theorem e11o2r1 {o4 to : Int} {x x3 x4 : Pn.In} {u : Option Nat} {h : HS} (hbar : True) (hh : ∀ id o, (HR 2 o4 x3 x4 (outS u)).get id = some o → h.hp.get id = some o) : CallOk Tryz.prog W0 48 [.ptr 41 0, .agg (cI (I 2) (.rng 0 14 x.k) (I to) (rg (1)) (I x.a.i) (rg x.b.r) (I x.b.i))] h h (zeroV) := by
  refine reader (callH_ok (LP := pwT) (L := []) (m := 100) mixed 30) (by kernel_rfl) hbar (fun ne q hq => (te11o2r1 o4 to x x3 x4 u ne q).trans ?_) (HR_in _ _ _ _ _) rfl rfl hh
  have hq : Qof q 2 o4 x3 x4 u ne (zeroV) = true := hq
  generalize Qof q 2 o4 x3 x4 u ne = Q at hq ⊢
  simp only
  repeat' (first | exact hq | refine cond_i (fun _ => ?_) (fun _ => ?_))
theorem te11o2r2 (o4 to : Int) (x x3 x4 : Pn.In) (u : Option Nat) (ne : Nat) (q : SV → List (Option SO) → Bool → Nat → Bool) : fnRunJ Tryz.prog 48 100 (cP W0) [.ptr 41 0, .agg (cI (I 2) (.rng 0 14 x.k) (I to) (rg (2)) (I x.a.i) (rg x.b.r) (I x.b.i))] ⟨HR 2 o4 x3 x4 (outS u), 60, ne, 60⟩ (seen q) = (fun Q : SV → Bool => (bif decide (x.b.r < 0) then (bif x.k == 6 then Q zeroV else (bif x.k == 7 then Q zeroV else (bif x.k == 8 then Q zeroV else Q zeroV))) else Q zeroV)) (Qof q 2 o4 x3 x4 u ne) := by kernel_rfl
theorem e11o2r2 {o4 to : Int} {x x3 x4 : Pn.In} {u : Option Nat} {h : HS} (hbar : True) (hh : ∀ id o, (HR 2 o4 x3 x4 (outS u)).get id = some o → h.hp.get id = some o) : CallOk Tryz.prog W0 48 [.ptr 41 0, .agg (cI (I 2) (.rng 0 14 x.k) (I to) (rg (2)) (I x.a.i) (rg x.b.r) (I x.b.i))] h h (zeroV) := by
  refine reader (callH_ok (LP := pwT) (L := []) (m := 100) mixed 30) (by kernel_rfl) hbar (fun ne q hq => (te11o2r2 o4 to x x3 x4 u ne q).trans ?_) (HR_in _ _ _ _ _) rfl rfl hh
  have hq : Qof q 2 o4 x3 x4 u ne (zeroV) = true := hq
  generalize Qof q 2 o4 x3 x4 u ne = Q at hq ⊢
  simp only
  repeat' (first | exact hq | refine cond_i (fun _ => ?_) (fun _ => ?_))
theorem te11o1rm (o4 to : Int) (x x3 x4 : Pn.In) (u : Option Nat) (ne : Nat) (q : SV → List (Option SO) → Bool → Nat → Bool) : fnRunJ Tryz.prog 48 100 (cP W0) [.ptr 41 0, .agg (cI (I 2) (.rng 0 14 x.k) (I to) (rg (-1)) (I x.a.i) (rg x.b.r) (I x.b.i))] ⟨HR 1 o4 x3 x4 (outS u), 60, ne, 60⟩ (seen q) = (fun Q : SV → Bool => (bif decide (x.b.r < 0) then (bif x.k == 6 then Q zeroV else (bif x.k == 7 then Q zeroV else (bif x.k == 8 then Q zeroV else Q zeroV))) else Q zeroV)) (Qof q 1 o4 x3 x4 u ne) := by kernel_rfl
theorem e11o1rm {o4 to : Int} {x x3 x4 : Pn.In} {u : Option Nat} {h : HS} (hbar : True) (hh : ∀ id o, (HR 1 o4 x3 x4 (outS u)).get id = some o → h.hp.get id = some o) : CallOk Tryz.prog W0 48 [.ptr 41 0, .agg (cI (I 2) (.rng 0 14 x.k) (I to) (rg (-1)) (I x.a.i) (rg x.b.r) (I x.b.i))] h h (zeroV) := by
  refine reader (callH_ok (LP := pwT) (L := []) (m := 100) mixed 30) (by kernel_rfl) hbar (fun ne q hq => (te11o1rm o4 to x x3 x4 u ne q).trans ?_) (HR_in _ _ _ _ _) rfl rfl hh
  have hq : Qof q 1 o4 x3 x4 u ne (zeroV) = true := hq
  generalize Qof q 1 o4 x3 x4 u ne = Q at hq ⊢
  simp only
  repeat' (first | exact hq | refine cond_i (fun _ => ?_) (fun _ => ?_))
theorem te11o1r0 (o4 to : Int) (x x3 x4 : Pn.In) (u : Option Nat) (ne : Nat) (q : SV → List (Option SO) → Bool → Nat → Bool) : fnRunJ Tryz.prog 48 100 (cP W0) [.ptr 41 0, .agg (cI (I 2) (.rng 0 14 x.k) (I to) (rg (0)) (I x.a.i) (rg x.b.r) (I x.b.i))] ⟨HR 1 o4 x3 x4 (outS u), 60, ne, 60⟩ (seen q) = (fun Q : SV → Bool => (bif decide (x.b.r < 0) then (bif x.k == 6 then Q zeroV else (bif x.k == 7 then Q zeroV else (bif x.k == 8 then Q zeroV else Q zeroV))) else Q zeroV)) (Qof q 1 o4 x3 x4 u ne) := by kernel_rfl
theorem e11o1r0 {o4 to : Int} {x x3 x4 : Pn.In} {u : Option Nat} {h : HS} (hbar : True) (hh : ∀ id o, (HR 1 o4 x3 x4 (outS u)).get id = some o → h.hp.get id = some o) : CallOk Tryz.prog W0 48 [.ptr 41 0, .agg (cI (I 2) (.rng 0 14 x.k) (I to) (rg (0)) (I x.a.i) (rg x.b.r) (I x.b.i))] h h (zeroV) := by
  refine reader (callH_ok (LP := pwT) (L := []) (m := 100) mixed 30) (by kernel_rfl) hbar (fun ne q hq => (te11o1r0 o4 to x x3 x4 u ne q).trans ?_) (HR_in _ _ _ _ _) rfl rfl hh
  have hq : Qof q 1 o4 x3 x4 u ne (zeroV) = true := hq
  generalize Qof q 1 o4 x3 x4 u ne = Q at hq ⊢
  simp only
  repeat' (first | exact hq | refine cond_i (fun _ => ?_) (fun _ => ?_))
theorem te11o1r1 (o4 to : Int) (x x3 x4 : Pn.In) (u : Option Nat) (ne : Nat) (q : SV → List (Option SO) → Bool → Nat → Bool) : fnRunJ Tryz.prog 48 100 (cP W0) [.ptr 41 0, .agg (cI (I 2) (.rng 0 14 x.k) (I to) (rg (1)) (I x.a.i) (rg x.b.r) (I x.b.i))] ⟨HR 1 o4 x3 x4 (outS u), 60, ne, 60⟩ (seen q) = (fun Q : SV → Bool => (bif decide (x.b.r < 0) then (bif x.k == 6 then Q zeroV else (bif x.k == 7 then Q zeroV else (bif x.k == 8 then Q zeroV else Q zeroV))) else Q zeroV)) (Qof q 1 o4 x3 x4 u ne) := by kernel_rfl
theorem e11o1r1 {o4 to : Int} {x x3 x4 : Pn.In} {u : Option Nat} {h : HS} (hbar : True) (hh : ∀ id o, (HR 1 o4 x3 x4 (outS u)).get id = some o → h.hp.get id = some o) : CallOk Tryz.prog W0 48 [.ptr 41 0, .agg (cI (I 2) (.rng 0 14 x.k) (I to) (rg (1)) (I x.a.i) (rg x.b.r) (I x.b.i))] h h (zeroV) := by
  refine reader (callH_ok (LP := pwT) (L := []) (m := 100) mixed 30) (by kernel_rfl) hbar (fun ne q hq => (te11o1r1 o4 to x x3 x4 u ne q).trans ?_) (HR_in _ _ _ _ _) rfl rfl hh
  have hq : Qof q 1 o4 x3 x4 u ne (zeroV) = true := hq
  generalize Qof q 1 o4 x3 x4 u ne = Q at hq ⊢
  simp only
  repeat' (first | exact hq | refine cond_i (fun _ => ?_) (fun _ => ?_))
theorem te11o1r2 (o4 to : Int) (x x3 x4 : Pn.In) (u : Option Nat) (ne : Nat) (q : SV → List (Option SO) → Bool → Nat → Bool) : fnRunJ Tryz.prog 48 100 (cP W0) [.ptr 41 0, .agg (cI (I 2) (.rng 0 14 x.k) (I to) (rg (2)) (I x.a.i) (rg x.b.r) (I x.b.i))] ⟨HR 1 o4 x3 x4 (outS u), 60, ne, 60⟩ (seen q) = (fun Q : SV → Bool => (bif decide (x.b.r < 0) then (bif x.k == 6 then Q zeroV else (bif x.k == 7 then Q zeroV else (bif x.k == 8 then Q zeroV else Q zeroV))) else Q zeroV)) (Qof q 1 o4 x3 x4 u ne) := by kernel_rfl
theorem e11o1r2 {o4 to : Int} {x x3 x4 : Pn.In} {u : Option Nat} {h : HS} (hbar : True) (hh : ∀ id o, (HR 1 o4 x3 x4 (outS u)).get id = some o → h.hp.get id = some o) : CallOk Tryz.prog W0 48 [.ptr 41 0, .agg (cI (I 2) (.rng 0 14 x.k) (I to) (rg (2)) (I x.a.i) (rg x.b.r) (I x.b.i))] h h (zeroV) := by
  refine reader (callH_ok (LP := pwT) (L := []) (m := 100) mixed 30) (by kernel_rfl) hbar (fun ne q hq => (te11o1r2 o4 to x x3 x4 u ne q).trans ?_) (HR_in _ _ _ _ _) rfl rfl hh
  have hq : Qof q 1 o4 x3 x4 u ne (zeroV) = true := hq
  generalize Qof q 1 o4 x3 x4 u ne = Q at hq ⊢
  simp only
  repeat' (first | exact hq | refine cond_i (fun _ => ?_) (fun _ => ?_))
theorem te11o1r3 (o4 to : Int) (x x3 x4 : Pn.In) (u : Option Nat) (ne : Nat) (q : SV → List (Option SO) → Bool → Nat → Bool) : fnRunJ Tryz.prog 48 100 (cP W0) [.ptr 41 0, .agg (cI (I 2) (.rng 0 14 x.k) (I to) (rg (3)) (I x.a.i) (rg x.b.r) (I x.b.i))] ⟨HR 1 o4 x3 x4 (outS u), 60, ne, 60⟩ (seen q) = (fun Q : SV → Bool => (bif decide (x.b.r < 0) then (bif decide (x3.a.r ≥ 0) then (bif x.k == 6 then Q zeroV else (bif x.k == 7 then Q zeroV else (bif x.k == 8 then Q zeroV else Q zeroV))) else (bif x.k == 6 then Q zeroV else (bif x.k == 7 then Q zeroV else (bif x.k == 8 then Q zeroV else Q zeroV)))) else (bif decide (x3.a.r ≥ 0) then Q zeroV else Q zeroV))) (Qof q 1 o4 x3 x4 u ne) := by kernel_rfl
theorem e11o1r3 {o4 to : Int} {x x3 x4 : Pn.In} {u : Option Nat} {h : HS} (hbar : True) (hh : ∀ id o, (HR 1 o4 x3 x4 (outS u)).get id = some o → h.hp.get id = some o) : CallOk Tryz.prog W0 48 [.ptr 41 0, .agg (cI (I 2) (.rng 0 14 x.k) (I to) (rg (3)) (I x.a.i) (rg x.b.r) (I x.b.i))] h h (zeroV) := by
  refine reader (callH_ok (LP := pwT) (L := []) (m := 100) mixed 30) (by kernel_rfl) hbar (fun ne q hq => (te11o1r3 o4 to x x3 x4 u ne q).trans ?_) (HR_in _ _ _ _ _) rfl rfl hh
  have hq : Qof q 1 o4 x3 x4 u ne (zeroV) = true := hq
  generalize Qof q 1 o4 x3 x4 u ne = Q at hq ⊢
  simp only
  repeat' (first | exact hq | refine cond_i (fun _ => ?_) (fun _ => ?_))
theorem te12o2rm (o4 to : Int) (x x3 x4 : Pn.In) (u : Option Nat) (ne : Nat) (q : SV → List (Option SO) → Bool → Nat → Bool) : fnRunJ Tryz.prog 49 100 (cP W0) [.ptr 41 0, .agg (cI (I 2) (.rng 0 14 x.k) (I to) (rg (-1)) (I x.a.i) (rg x.b.r) (I x.b.i))] ⟨HR 2 o4 x3 x4 (outS u), 60, ne, 60⟩ (seen q) = (fun Q : SV → Bool => (bif decide (x.b.r < 0) then (bif x.k == 3 then Q zeroV else Q zeroV) else Q zeroV)) (Qof q 2 o4 x3 x4 u ne) := by kernel_rfl
theorem e12o2rm {o4 to : Int} {x x3 x4 : Pn.In} {u : Option Nat} {h : HS} (hbar : True) (hh : ∀ id o, (HR 2 o4 x3 x4 (outS u)).get id = some o → h.hp.get id = some o) : CallOk Tryz.prog W0 49 [.ptr 41 0, .agg (cI (I 2) (.rng 0 14 x.k) (I to) (rg (-1)) (I x.a.i) (rg x.b.r) (I x.b.i))] h h (zeroV) := by
  refine reader (callH_ok (LP := pwT) (L := []) (m := 100) mixed 30) (by kernel_rfl) hbar (fun ne q hq => (te12o2rm o4 to x x3 x4 u ne q).trans ?_) (HR_in _ _ _ _ _) rfl rfl hh
  have hq : Qof q 2 o4 x3 x4 u ne (zeroV) = true := hq
  generalize Qof q 2 o4 x3 x4 u ne = Q at hq ⊢
  simp only
  repeat' (first | exact hq | refine cond_i (fun _ => ?_) (fun _ => ?_))
theorem te12o2r0 (o4 to : Int) (x x3 x4 : Pn.In) (u : Option Nat) (ne : Nat) (q : SV → List (Option SO) → Bool → Nat → Bool) : fnRunJ Tryz.prog 49 100 (cP W0) [.ptr 41 0, .agg (cI (I 2) (.rng 0 14 x.k) (I to) (rg (0)) (I x.a.i) (rg x.b.r) (I x.b.i))] ⟨HR 2 o4 x3 x4 (outS u), 60, ne, 60⟩ (seen q) = (fun Q : SV → Bool => (bif decide (x.b.r < 0) then (bif x.k == 3 then Q zeroV else Q zeroV) else Q zeroV)) (Qof q 2 o4 x3 x4 u ne) := by kernel_rfl
theorem e12o2r0 {o4 to : Int} {x x3 x4 : Pn.In} {u : Option Nat} {h : HS} (hbar : True) (hh : ∀ id o, (HR 2 o4 x3 x4 (outS u)).get id = some o → h.hp.get id = some o) : CallOk Tryz.prog W0 49 [.ptr 41 0, .agg (cI (I 2) (.rng 0 14 x.k) (I to) (rg (0)) (I x.a.i) (rg x.b.r) (I x.b.i))] h h (zeroV) := by
  refine reader (callH_ok (LP := pwT) (L := []) (m := 100) mixed 30) (by kernel_rfl) hbar (fun ne q hq => (te12o2r0 o4 to x x3 x4 u ne q).trans ?_) (HR_in _ _ _ _ _) rfl rfl hh
  have hq : Qof q 2 o4 x3 x4 u ne (zeroV) = true := hq
  generalize Qof q 2 o4 x3 x4 u ne = Q at hq ⊢
  simp only
  repeat' (first | exact hq | refine cond_i (fun _ => ?_) (fun _ => ?_))
theorem te12o2r1 (o4 to : Int) (x x3 x4 : Pn.In) (u : Option Nat) (ne : Nat) (q : SV → List (Option SO) → Bool → Nat → Bool) : fnRunJ Tryz.prog 49 100 (cP W0) [.ptr 41 0, .agg (cI (I 2) (.rng 0 14 x.k) (I to) (rg (1)) (I x.a.i) (rg x.b.r) (I x.b.i))] ⟨HR 2 o4 x3 x4 (outS u), 60, ne, 60⟩ (seen q) = (fun Q : SV → Bool => (bif decide (x.b.r < 0) then (bif x.k == 3 then Q zeroV else Q zeroV) else Q zeroV)) (Qof q 2 o4 x3 x4 u ne) := by kernel_rfl
theorem e12o2r1 {o4 to : Int} {x x3 x4 : Pn.In} {u : Option Nat} {h : HS} (hbar : True) (hh : ∀ id o, (HR 2 o4 x3 x4 (outS u)).get id = some o → h.hp.get id = some o) : CallOk Tryz.prog W0 49 [.ptr 41 0, .agg (cI (I 2) (.rng 0 14 x.k) (I to) (rg (1)) (I x.a.i) (rg x.b.r) (I x.b.i))] h h (zeroV) := by
  refine reader (callH_ok (LP := pwT) (L := []) (m := 100) mixed 30) (by kernel_rfl) hbar (fun ne q hq => (te12o2r1 o4 to x x3 x4 u ne q).trans ?_) (HR_in _ _ _ _ _) rfl rfl hh
  have hq : Qof q 2 o4 x3 x4 u ne (zeroV) = true := hq
  generalize Qof q 2 o4 x3 x4 u ne = Q at hq ⊢
  simp only
  repeat' (first | exact hq | refine cond_i (fun _ => ?_) (fun _ => ?_))
theorem te12o2r2 (o4 to : Int) (x x3 x4 : Pn.In) (u : Option Nat) (ne : Nat) (q : SV → List (Option SO) → Bool → Nat → Bool) : fnRunJ Tryz.prog 49 100 (cP W0) [.ptr 41 0, .agg (cI (I 2) (.rng 0 14 x.k) (I to) (rg (2)) (I x.a.i) (rg x.b.r) (I x.b.i))] ⟨HR 2 o4 x3 x4 (outS u), 60, ne, 60⟩ (seen q) = (fun Q : SV → Bool => (bif decide (x.b.r < 0) then (bif x.k == 3 then Q zeroV else Q zeroV) else Q zeroV)) (Qof q 2 o4 x3 x4 u ne) := by kernel_rfl
theorem e12o2r2 {o4 to : Int} {x x3 x4 : Pn.In} {u : Option Nat} {h : HS} (hbar : True) (hh : ∀ id o, (HR 2 o4 x3 x4 (outS u)).get id = some o → h.hp.get id = some o) : CallOk Tryz.prog W0 49 [.ptr 41 0, .agg (cI (I 2) (.rng 0 14 x.k) (I to) (rg (2)) (I x.a.i) (rg x.b.r) (I x.b.i))] h h (zeroV) := by
  refine reader (callH_ok (LP := pwT) (L := []) (m := 100) mixed 30) (by kernel_rfl) hbar (fun ne q hq => (te12o2r2 o4 to x x3 x4 u ne q).trans ?_) (HR_in _ _ _ _ _) rfl rfl hh
  have hq : Qof q 2 o4 x3 x4 u ne (zeroV) = true := hq
  generalize Qof q 2 o4 x3 x4 u ne = Q at hq ⊢
  simp only
  repeat' (first | exact hq | refine cond_i (fun _ => ?_) (fun _ => ?_))
theorem te12o2r3 (o4 to : Int) (x x3 x4 : Pn.In) (u : Option Nat) (ne : Nat) (q : SV → List (Option SO) → Bool → Nat → Bool) : fnRunJ Tryz.prog 49 100 (cP W0) [.ptr 41 0, .agg (cI (I 2) (.rng 0 14 x.k) (I to) (rg (3)) (I x.a.i) (rg x.b.r) (I x.b.i))] ⟨HR 2 o4 x3 x4 (outS u), 60, ne, 60⟩ (seen q) = (fun Q : SV → Bool => (bif decide (x.b.r < 0) then (bif decide (x3.a.r ≥ 0) then (bif decide (x3.b.r ≥ 0) then (bif x3.k == x.k then (bif decide (x3.b.r < 0) then (bif x.k == 3 then Q (.tup [.agg [I (2), .rng 0 14 x.k, I (to), rg x3.a.r, I (x3.a.i), I (-1), I (IntKind.i64.wrap (x3.b.i * x.b.i)), I 0, I 0, I 0, nilS, nilS, nilS], .bool true]) else Q zeroV) else (bif x.k == 3 then Q zeroV else Q zeroV)) else (bif x.k == 3 then Q zeroV else Q zeroV)) else (bif x3.k == x.k then (bif decide (x3.b.r < 0) then (bif x.k == 3 then Q (.tup [.agg [I (2), .rng 0 14 x.k, I (to), rg x3.a.r, I (x3.a.i), I (-1), I (IntKind.i64.wrap (x3.b.i * x.b.i)), I 0, I 0, I 0, nilS, nilS, nilS], .bool true]) else Q zeroV) else (bif x.k == 3 then Q zeroV else Q zeroV)) else (bif x.k == 3 then Q zeroV else Q zeroV))) else (bif decide (x3.b.r ≥ 0) then (bif x3.k == x.k then (bif decide (x3.b.r < 0) then (bif x.k == 3 then Q (.tup [.agg [I (2), .rng 0 14 x.k, I (to), rg x3.a.r, I (x3.a.i), I (-1), I (IntKind.i64.wrap (x3.b.i * x.b.i)), I 0, I 0, I 0, nilS, nilS, nilS], .bool true]) else Q zeroV) else (bif x.k == 3 then Q zeroV else Q zeroV)) else (bif x.k == 3 then Q zeroV else Q zeroV)) else (bif x3.k == x.k then (bif decide (x3.b.r < 0) then (bif x.k == 3 then Q (.tup [.agg [I (2), .rng 0 14 x.k, I (to), rg x3.a.r, I (x3.a.i), I (-1), I (IntKind.i64.wrap (x3.b.i * x.b.i)), I 0, I 0, I 0, nilS, nilS, nilS], .bool true]) else Q zeroV) else (bif x.k == 3 then Q zeroV else Q zeroV)) else (bif x.k == 3 then Q zeroV else Q zeroV)))) else (bif decide (x3.a.r ≥ 0) then (bif decide (x3.b.r ≥ 0) then (bif x3.k == x.k then (bif decide (x3.b.r < 0) then Q zeroV else Q zeroV) else Q zeroV) else (bif x3.k == x.k then (bif decide (x3.b.r < 0) then Q zeroV else Q zeroV) else Q zeroV)) else (bif decide (x3.b.r ≥ 0) then (bif x3.k == x.k then (bif decide (x3.b.r < 0) then Q zeroV else Q zeroV) else Q zeroV) else (bif x3.k == x.k then (bif decide (x3.b.r < 0) then Q zeroV else Q zeroV) else Q zeroV))))) (Qof q 2 o4 x3 x4 u ne) := by kernel_rfl
theorem e12o2r3_f {o4 to : Int} {x x3 x4 : Pn.In} {u : Option Nat} {h : HS} (ht : Pn.t12 ⟨2, x3.k, x3.a, x3.b⟩ ⟨2, x.k, ⟨3, x.a.i⟩, x.b⟩ = false) (hbar : True) (hh : ∀ id o, (HR 2 o4 x3 x4 (outS u)).get id = some o → h.hp.get id = some o) : CallOk Tryz.prog W0 49 [.ptr 41 0, .agg (cI (I 2) (.rng 0 14 x.k) (I to) (rg (3)) (I x.a.i) (rg x.b.r) (I x.b.i))] h h (zeroV) := by
  refine reader (callH_ok (LP := pwT) (L := []) (m := 100) mixed 30) (by kernel_rfl) hbar (fun ne q hq => (te12o2r3 o4 to x x3 x4 u ne q).trans ?_) (HR_in _ _ _ _ _) rfl rfl hh
  have hq : Qof q 2 o4 x3 x4 u ne (zeroV) = true := hq
  generalize Qof q 2 o4 x3 x4 u ne = Q at hq ⊢
  simp only
  simp only [Pn.t12, Pn.sameY, Pn.compY, Pn.hasY, Pn.isC, Pn.amid, shL] at ht
  repeat' (first | exact hq | refine cond_i (fun _ => ?_) (fun _ => ?_))
  all_goals (exfalso; simp_all <;> omega)
theorem e12o2r3_t {o4 to : Int} {x x3 x4 : Pn.In} {u : Option Nat} {h : HS} (ht : Pn.t12 ⟨2, x3.k, x3.a, x3.b⟩ ⟨2, x.k, ⟨3, x.a.i⟩, x.b⟩ = true) (hbar : True) (hh : ∀ id o, (HR 2 o4 x3 x4 (outS u)).get id = some o → h.hp.get id = some o) : CallOk Tryz.prog W0 49 [.ptr 41 0, .agg (cI (I 2) (.rng 0 14 x.k) (I to) (rg (3)) (I x.a.i) (rg x.b.r) (I x.b.i))] h h (.tup [.agg [I (2), .rng 0 14 x.k, I (to), rg x3.a.r, I (x3.a.i), I (-1), I (IntKind.i64.wrap (x3.b.i * x.b.i)), I 0, I 0, I 0, nilS, nilS, nilS], .bool true]) := by
  refine reader (callH_ok (LP := pwT) (L := []) (m := 100) mixed 30) (by kernel_rfl) hbar (fun ne q hq => (te12o2r3 o4 to x x3 x4 u ne q).trans ?_) (HR_in _ _ _ _ _) rfl rfl hh
  have hq : Qof q 2 o4 x3 x4 u ne (.tup [.agg [I (2), .rng 0 14 x.k, I (to), rg x3.a.r, I (x3.a.i), I (-1), I (IntKind.i64.wrap (x3.b.i * x.b.i)), I 0, I 0, I 0, nilS, nilS, nilS], .bool true]) = true := hq
  generalize Qof q 2 o4 x3 x4 u ne = Q at hq ⊢
  simp only
  simp only [Pn.t12, Pn.sameY, Pn.compY, Pn.hasY, Pn.isC, Pn.amid, shL] at ht
  repeat' (first | exact hq | refine cond_i (fun _ => ?_) (fun _ => ?_))
  all_goals (exfalso; simp_all <;> omega)
theorem te12o1rm (o4 to : Int) (x x3 x4 : Pn.In) (u : Option Nat) (ne : Nat) (q : SV → List (Option SO) → Bool → Nat → Bool) : fnRunJ Tryz.prog 49 100 (cP W0) [.ptr 41 0, .agg (cI (I 2) (.rng 0 14 x.k) (I to) (rg (-1)) (I x.a.i) (rg x.b.r) (I x.b.i))] ⟨HR 1 o4 x3 x4 (outS u), 60, ne, 60⟩ (seen q) = (fun Q : SV → Bool => (bif decide (x.b.r < 0) then (bif x.k == 3 then Q zeroV else Q zeroV) else Q zeroV)) (Qof q 1 o4 x3 x4 u ne) := by kernel_rfl
theorem e12o1rm {o4 to : Int} {x x3 x4 : Pn.In} {u : Option Nat} {h : HS} (hbar : True) (hh : ∀ id o, (HR 1 o4 x3 x4 (outS u)).get id = some o → h.hp.get id = some o) : CallOk Tryz.prog W0 49 [.ptr 41 0, .agg (cI (I 2) (.rng 0 14 x.k) (I to) (rg (-1)) (I x.a.i) (rg x.b.r) (I x.b.i))] h h (zeroV) := by
  refine reader (callH_ok (LP := pwT) (L := []) (m := 100) mixed 30) (by kernel_rfl) hbar (fun ne q hq => (te12o1rm o4 to x x3 x4 u ne q).trans ?_) (HR_in _ _ _ _ _) rfl rfl hh
  have hq : Qof q 1 o4 x3 x4 u ne (zeroV) = true := hq
  generalize Qof q 1 o4 x3 x4 u ne = Q at hq ⊢
  simp only
  repeat' (first | exact hq | refine cond_i (fun _ => ?_) (fun _ => ?_))
theorem te12o1r0 (o4 to : Int) (x x3 x4 : Pn.In) (u : Option Nat) (ne : Nat) (q : SV → List (Option SO) → Bool → Nat → Bool) : fnRunJ Tryz.prog 49 100 (cP W0) [.ptr 41 0, .agg (cI (I 2) (.rng 0 14 x.k) (I to) (rg (0)) (I x.a.i) (rg x.b.r) (I x.b.i))] ⟨HR 1 o4 x3 x4 (outS u), 60, ne, 60⟩ (seen q) = (fun Q : SV → Bool => (bif decide (x.b.r < 0) then (bif x.k == 3 then Q zeroV else Q zeroV) else Q zeroV)) (Qof q 1 o4 x3 x4 u ne) := by kernel_rfl
theorem e12o1r0 {o4 to : Int} {x x3 x4 : Pn.In} {u : Option Nat} {h : HS} (hbar : True) (hh : ∀ id o, (HR 1 o4 x3 x4 (outS u)).get id = some o → h.hp.get id = some o) : CallOk Tryz.prog W0 49 [.ptr 41 0, .agg (cI (I 2) (.rng 0 14 x.k) (I to) (rg (0)) (I x.a.i) (rg x.b.r) (I x.b.i))] h h (zeroV) := by
  refine reader (callH_ok (LP := pwT) (L := []) (m := 100) mixed 30) (by kernel_rfl) hbar (fun ne q hq => (te12o1r0 o4 to x x3 x4 u ne q).trans ?_) (HR_in _ _ _ _ _) rfl rfl hh
  have hq : Qof q 1 o4 x3 x4 u ne (zeroV) = true := hq
  generalize Qof q 1 o4 x3 x4 u ne = Q at hq ⊢
  simp only
  repeat' (first | exact hq | refine cond_i (fun _ => ?_) (fun _ => ?_))
theorem te12o1r1 (o4 to : Int) (x x3 x4 : Pn.In) (u : Option Nat) (ne : Nat) (q : SV → List (Option SO) → Bool → Nat → Bool) : fnRunJ Tryz.prog 49 100 (cP W0) [.ptr 41 0, .agg (cI (I 2) (.rng 0 14 x.k) (I to) (rg (1)) (I x.a.i) (rg x.b.r) (I x.b.i))] ⟨HR 1 o4 x3 x4 (outS u), 60, ne, 60⟩ (seen q) = (fun Q : SV → Bool => (bif decide (x.b.r < 0) then (bif x.k == 3 then Q zeroV else Q zeroV) else Q zeroV)) (Qof q 1 o4 x3 x4 u ne) := by kernel_rfl
theorem e12o1r1 {o4 to : Int} {x x3 x4 : Pn.In} {u : Option Nat} {h : HS} (hbar : True) (hh : ∀ id o, (HR 1 o4 x3 x4 (outS u)).get id = some o → h.hp.get id = some o) : CallOk Tryz.prog W0 49 [.ptr 41 0, .agg (cI (I 2) (.rng 0 14 x.k) (I to) (rg (1)) (I x.a.i) (rg x.b.r) (I x.b.i))] h h (zeroV) := by
  refine reader (callH_ok (LP := pwT) (L := []) (m := 100) mixed 30) (by kernel_rfl) hbar (fun ne q hq => (te12o1r1 o4 to x x3 x4 u ne q).trans ?_) (HR_in _ _ _ _ _) rfl rfl hh
  have hq : Qof q 1 o4 x3 x4 u ne (zeroV) = true := hq
  generalize Qof q 1 o4 x3 x4 u ne = Q at hq ⊢
  simp only
  repeat' (first | exact hq | refine cond_i (fun _ => ?_) (fun _ => ?_))
theorem te12o1r2 (o4 to : Int) (x x3 x4 : Pn.In) (u : Option Nat) (ne : Nat) (q : SV → List (Option SO) → Bool → Nat → Bool) : fnRunJ Tryz.prog 49 100 (cP W0) [.ptr 41 0, .agg (cI (I 2) (.rng 0 14 x.k) (I to) (rg (2)) (I x.a.i) (rg x.b.r) (I x.b.i))] ⟨HR 1 o4 x3 x4 (outS u), 60, ne, 60⟩ (seen q) = (fun Q : SV → Bool => (bif decide (x.b.r < 0) then (bif x.k == 3 then Q zeroV else Q zeroV) else Q zeroV)) (Qof q 1 o4 x3 x4 u ne) := by kernel_rfl
theorem e12o1r2 {o4 to : Int} {x x3 x4 : Pn.In} {u : Option Nat} {h : HS} (hbar : True) (hh : ∀ id o, (HR 1 o4 x3 x4 (outS u)).get id = some o → h.hp.get id = some o) : CallOk Tryz.prog W0 49 [.ptr 41 0, .agg (cI (I 2) (.rng 0 14 x.k) (I to) (rg (2)) (I x.a.i) (rg x.b.r) (I x.b.i))] h h (zeroV) := by
  refine reader (callH_ok (LP := pwT) (L := []) (m := 100) mixed 30) (by kernel_rfl) hbar (fun ne q hq => (te12o1r2 o4 to x x3 x4 u ne q).trans ?_) (HR_in _ _ _ _ _) rfl rfl hh
  have hq : Qof q 1 o4 x3 x4 u ne (zeroV) = true := hq
  generalize Qof q 1 o4 x3 x4 u ne = Q at hq ⊢
  simp only
  repeat' (first | exact hq | refine cond_i (fun _ => ?_) (fun _ => ?_))
theorem te12o1r3 (o4 to : Int) (x x3 x4 : Pn.In) (u : Option Nat) (ne : Nat) (q : SV → List (Option SO) → Bool → Nat → Bool) : fnRunJ Tryz.prog 49 100 (cP W0) [.ptr 41 0, .agg (cI (I 2) (.rng 0 14 x.k) (I to) (rg (3)) (I x.a.i) (rg x.b.r) (I x.b.i))] ⟨HR 1 o4 x3 x4 (outS u), 60, ne, 60⟩ (seen q) = (fun Q : SV → Bool => (bif decide (x.b.r < 0) then (bif decide (x3.a.r ≥ 0) then (bif x.k == 3 then Q zeroV else Q zeroV) else (bif x.k == 3 then Q zeroV else Q zeroV)) else (bif decide (x3.a.r ≥ 0) then Q zeroV else Q zeroV))) (Qof q 1 o4 x3 x4 u ne) := by kernel_rfl
theorem e12o1r3 {o4 to : Int} {x x3 x4 : Pn.In} {u : Option Nat} {h : HS} (hbar : True) (hh : ∀ id o, (HR 1 o4 x3 x4 (outS u)).get id = some o → h.hp.get id = some o) : CallOk Tryz.prog W0 49 [.ptr 41 0, .agg (cI (I 2) (.rng 0 14 x.k) (I to) (rg (3)) (I x.a.i) (rg x.b.r) (I x.b.i))] h h (zeroV) := by
  refine reader (callH_ok (LP := pwT) (L := []) (m := 100) mixed 30) (by kernel_rfl) hbar (fun ne q hq => (te12o1r3 o4 to x x3 x4 u ne q).trans ?_) (HR_in _ _ _ _ _) rfl rfl hh
  have hq : Qof q 1 o4 x3 x4 u ne (zeroV) = true := hq
  generalize Qof q 1 o4 x3 x4 u ne = Q at hq ⊢
  simp only
  repeat' (first | exact hq | refine cond_i (fun _ => ?_) (fun _ => ?_))
theorem te13o2rm (o4 to : Int) (x x3 x4 : Pn.In) (u : Option Nat) (ne : Nat) (q : SV → List (Option SO) → Bool → Nat → Bool) : fnRunJ Tryz.prog 50 100 (cP W0) [.ptr 41 0, .agg (cI (I 2) (.rng 0 14 x.k) (I to) (rg (-1)) (I x.a.i) (rg x.b.r) (I x.b.i))] ⟨HR 2 o4 x3 x4 (outS u), 60, ne, 60⟩ (seen q) = (fun Q : SV → Bool => (bif decide (x.b.r < 0) then (bif x.k == 9 then Q zeroV else Q zeroV) else Q zeroV)) (Qof q 2 o4 x3 x4 u ne) := by kernel_rfl
theorem e13o2rm {o4 to : Int} {x x3 x4 : Pn.In} {u : Option Nat} {h : HS} (hbar : True) (hh : ∀ id o, (HR 2 o4 x3 x4 (outS u)).get id = some o → h.hp.get id = some o) : CallOk Tryz.prog W0 50 [.ptr 41 0, .agg (cI (I 2) (.rng 0 14 x.k) (I to) (rg (-1)) (I x.a.i) (rg x.b.r) (I x.b.i))] h h (zeroV) := by
  refine reader (callH_ok (LP := pwT) (L := []) (m := 100) mixed 30) (by kernel_rfl) hbar (fun ne q hq => (te13o2rm o4 to x x3 x4 u ne q).trans ?_) (HR_in _ _ _ _ _) rfl rfl hh
  have hq : Qof q 2 o4 x3 x4 u ne (zeroV) = true := hq
  generalize Qof q 2 o4 x3 x4 u ne = Q at hq ⊢
  simp only
  repeat' (first | exact hq | refine cond_i (fun _ => ?_) (fun _ => ?_))
theorem te13o2r0 (o4 to : Int) (x x3 x4 : Pn.In) (u : Option Nat) (ne : Nat) (q : SV → List (Option SO) → Bool → Nat → Bool) : fnRunJ Tryz.prog 50 100 (cP W0) [.ptr 41 0, .agg (cI (I 2) (.rng 0 14 x.k) (I to) (rg (0)) (I x.a.i) (rg x.b.r) (I x.b.i))] ⟨HR 2 o4 x3 x4 (outS u), 60, ne, 60⟩ (seen q) = (fun Q : SV → Bool => (bif decide (x.b.r < 0) then (bif x.k == 9 then Q zeroV else Q zeroV) else Q zeroV)) (Qof q 2 o4 x3 x4 u ne) := by kernel_rfl
theorem e13o2r0 {o4 to : Int} {x x3 x4 : Pn.In} {u : Option Nat} {h : HS} (hbar : True) (hh : ∀ id o, (HR 2 o4 x3 x4 (outS u)).get id = some o → h.hp.get id = some o) : CallOk Tryz.prog W0 50 [.ptr 41 0, .agg (cI (I 2) (.rng 0 14 x.k) (I to) (rg (0)) (I x.a.i) (rg x.b.r) (I x.b.i))] h h (zeroV) := by
  refine reader (callH_ok (LP := pwT) (L := []) (m := 100) mixed 30) (by kernel_rfl) hbar (fun ne q hq => (te13o2r0 o4 to x x3 x4 u ne q).trans ?_) (HR_in _ _ _ _ _) rfl rfl hh
  have hq : Qof q 2 o4 x3 x4 u ne (zeroV) = true := hq
  generalize Qof q 2 o4 x3 x4 u ne = Q at hq ⊢
  simp only
  repeat' (first | exact hq | refine cond_i (fun _ => ?_) (fun _ => ?_))
theorem te13o2r1 (o4 to : Int) (x x3 x4 : Pn.In) (u : Option Nat) (ne : Nat) (q : SV → List (Option SO) → Bool → Nat → Bool) : fnRunJ Tryz.prog 50 100 (cP W0) [.ptr 41 0, .agg (cI (I 2) (.rng 0 14 x.k) (I to) (rg (1)) (I x.a.i) (rg x.b.r) (I x.b.i))] ⟨HR 2 o4 x3 x4 (outS u), 60, ne, 60⟩ (seen q) = (fun Q : SV → Bool => (bif decide (x.b.r < 0) then (bif x.k == 9 then Q zeroV else Q zeroV) else Q zeroV)) (Qof q 2 o4 x3 x4 u ne) := by kernel_rfl
theorem e13o2r1 {o4 to : Int} {x x3 x4 : Pn.In} {u : Option Nat} {h : HS} (hbar : True) (hh : ∀ id o, (HR 2 o4 x3 x4 (outS u)).get id = some o → h.hp.get id = some o) : CallOk Tryz.prog W0 50 [.ptr 41 0, .agg (cI (I 2) (.rng 0 14 x.k) (I to) (rg (1)) (I x.a.i) (rg x.b.r) (I x.b.i))] h h (zeroV) := by
  refine reader (callH_ok (LP := pwT) (L := []) (m := 100) mixed 30) (by kernel_rfl) hbar (fun ne q hq => (te13o2r1 o4 to x x3 x4 u ne q).trans ?_) (HR_in _ _ _ _ _) rfl rfl hh
  have hq : Qof q 2 o4 x3 x4 u ne (zeroV) = true := hq
  generalize Qof q 2 o4 x3 x4 u ne = Q at hq ⊢
  simp only
  repeat' (first | exact hq | refine cond_i (fun _ => ?_) (fun _ => ?_))
theorem te13o2r2 (o4 to : Int) (x x3 x4 : Pn.In) (u : Option Nat) (ne : Nat) (q : SV → List (Option SO) → Bool → Nat → Bool) : fnRunJ Tryz.prog 50 100 (cP W0) [.ptr 41 0, .agg (cI (I 2) (.rng 0 14 x.k) (I to) (rg (2)) (I x.a.i) (rg x.b.r) (I x.b.i))] ⟨HR 2 o4 x3 x4 (outS u), 60, ne, 60⟩ (seen q) = (fun Q : SV → Bool => (bif decide (x.b.r < 0) then (bif x.k == 9 then Q zeroV else Q zeroV) else Q zeroV)) (Qof q 2 o4 x3 x4 u ne) := by kernel_rfl
theorem e13o2r2 {o4 to : Int} {x x3 x4 : Pn.In} {u : Option Nat} {h : HS} (hbar : True) (hh : ∀ id o, (HR 2 o4 x3 x4 (outS u)).get id = some o → h.hp.get id = some o) : CallOk Tryz.prog W0 50 [.ptr 41 0, .agg (cI (I 2) (.rng 0 14 x.k) (I to) (rg (2)) (I x.a.i) (rg x.b.r) (I x.b.i))] h h (zeroV) := by
  refine reader (callH_ok (LP := pwT) (L := []) (m := 100) mixed 30) (by kernel_rfl) hbar (fun ne q hq => (te13o2r2 o4 to x x3 x4 u ne q).trans ?_) (HR_in _ _ _ _ _) rfl rfl hh
  have hq : Qof q 2 o4 x3 x4 u ne (zeroV) = true := hq
  generalize Qof q 2 o4 x3 x4 u ne = Q at hq ⊢
  simp only
  repeat' (first | exact hq | refine cond_i (fun _ => ?_) (fun _ => ?_))
theorem te13o2r3 (o4 to : Int) (x x3 x4 : Pn.In) (u : Option Nat) (ne : Nat) (q : SV → List (Option SO) → Bool → Nat → Bool) : fnRunJ Tryz.prog 50 100 (cP W0) [.ptr 41 0, .agg (cI (I 2) (.rng 0 14 x.k) (I to) (rg (3)) (I x.a.i) (rg x.b.r) (I x.b.i))] ⟨HR 2 o4 x3 x4 (outS u), 60, ne, 60⟩ (seen q) = (fun Q : SV → Bool => (bif decide (x.b.r < 0) then (bif decide (x3.a.r ≥ 0) then (bif decide (x3.b.r ≥ 0) then (bif x3.k == x.k then (bif decide (x3.b.r < 0) then (bif x.k == 9 then (bif decide (IntKind.i64.wrap (IntKind.i64.wrap ↑(BitVec.ofInt IntKind.i64.bits x.b.i &&& BitVec.ofInt IntKind.i64.bits 63).toNat + IntKind.i64.wrap ↑(BitVec.ofInt IntKind.i64.bits x3.b.i &&& BitVec.ofInt IntKind.i64.bits 63).toNat) < 64) then Q (.tup [.agg [I (2), .rng 0 14 x.k, I (to), rg x3.a.r, I (x3.a.i), I (-1), I (IntKind.i64.wrap (IntKind.i64.wrap ↑(BitVec.ofInt IntKind.i64.bits x.b.i &&& BitVec.ofInt IntKind.i64.bits 63).toNat + IntKind.i64.wrap ↑(BitVec.ofInt IntKind.i64.bits x3.b.i &&& BitVec.ofInt IntKind.i64.bits 63).toNat)), I 0, I 0, I 0, nilS, nilS, nilS], .bool true]) else Q zeroV) else Q zeroV) else (bif x.k == 9 then Q zeroV else Q zeroV)) else (bif x.k == 9 then Q zeroV else Q zeroV)) else (bif x3.k == x.k then (bif decide (x3.b.r < 0) then (bif x.k == 9 then (bif decide (IntKind.i64.wrap (IntKind.i64.wrap ↑(BitVec.ofInt IntKind.i64.bits x.b.i &&& BitVec.ofInt IntKind.i64.bits 63).toNat + IntKind.i64.wrap ↑(BitVec.ofInt IntKind.i64.bits x3.b.i &&& BitVec.ofInt IntKind.i64.bits 63).toNat) < 64) then Q (.tup [.agg [I (2), .rng 0 14 x.k, I (to), rg x3.a.r, I (x3.a.i), I (-1), I (IntKind.i64.wrap (IntKind.i64.wrap ↑(BitVec.ofInt IntKind.i64.bits x.b.i &&& BitVec.ofInt IntKind.i64.bits 63).toNat + IntKind.i64.wrap ↑(BitVec.ofInt IntKind.i64.bits x3.b.i &&& BitVec.ofInt IntKind.i64.bits 63).toNat)), I 0, I 0, I 0, nilS, nilS, nilS], .bool true]) else Q zeroV) else Q zeroV) else (bif x.k == 9 then Q zeroV else Q zeroV)) else (bif x.k == 9 then Q zeroV else Q zeroV))) else (bif decide (x3.b.r ≥ 0) then (bif x3.k == x.k then (bif decide (x3.b.r < 0) then (bif x.k == 9 then (bif decide (IntKind.i64.wrap (IntKind.i64.wrap ↑(BitVec.ofInt IntKind.i64.bits x.b.i &&& BitVec.ofInt IntKind.i64.bits 63).toNat + IntKind.i64.wrap ↑(BitVec.ofInt IntKind.i64.bits x3.b.i &&& BitVec.ofInt IntKind.i64.bits 63).toNat) < 64) then Q (.tup [.agg [I (2), .rng 0 14 x.k, I (to), rg x3.a.r, I (x3.a.i), I (-1), I (IntKind.i64.wrap (IntKind.i64.wrap ↑(BitVec.ofInt IntKind.i64.bits x.b.i &&& BitVec.ofInt IntKind.i64.bits 63).toNat + IntKind.i64.wrap ↑(BitVec.ofInt IntKind.i64.bits x3.b.i &&& BitVec.ofInt IntKind.i64.bits 63).toNat)), I 0, I 0, I 0, nilS, nilS, nilS], .bool true]) else Q zeroV) else Q zeroV) else (bif x.k == 9 then Q zeroV else Q zeroV)) else (bif x.k == 9 then Q zeroV else Q zeroV)) else (bif x3.k == x.k then (bif decide (x3.b.r < 0) then (bif x.k == 9 then (bif decide (IntKind.i64.wrap (IntKind.i64.wrap ↑(BitVec.ofInt IntKind.i64.bits x.b.i &&& BitVec.ofInt IntKind.i64.bits 63).toNat + IntKind.i64.wrap ↑(BitVec.ofInt IntKind.i64.bits x3.b.i &&& BitVec.ofInt IntKind.i64.bits 63).toNat) < 64) then Q (.tup [.agg [I (2), .rng 0 14 x.k, I (to), rg x3.a.r, I (x3.a.i), I (-1), I (IntKind.i64.wrap (IntKind.i64.wrap ↑(BitVec.ofInt IntKind.i64.bits x.b.i &&& BitVec.ofInt IntKind.i64.bits 63).toNat + IntKind.i64.wrap ↑(BitVec.ofInt IntKind.i64.bits x3.b.i &&& BitVec.ofInt IntKind.i64.bits 63).toNat)), I 0, I 0, I 0, nilS, nilS, nilS], .bool true]) else Q zeroV) else Q zeroV) else (bif x.k == 9 then Q zeroV else Q zeroV)) else (bif x.k == 9 then Q zeroV else Q zeroV)))) else (bif decide (x3.a.r ≥ 0) then (bif decide (x3.b.r ≥ 0) then (bif x3.k == x.k then (bif decide (x3.b.r < 0) then Q zeroV else Q zeroV) else Q zeroV) else (bif x3.k == x.k then (bif decide (x3.b.r < 0) then Q zeroV else Q zeroV) else Q zeroV)) else (bif decide (x3.b.r ≥ 0) then (bif x3.k == x.k then (bif decide (x3.b.r < 0) then Q zeroV else Q zeroV) else Q zeroV) else (bif x3.k == x.k then (bif decide (x3.b.r < 0) then Q zeroV else Q zeroV) else Q zeroV))))) (Qof q 2 o4 x3 x4 u ne) := by kernel_rfl
theorem e13o2r3_f {o4 to : Int} {x x3 x4 : Pn.In} {u : Option Nat} {h : HS} (ht : Pn.t13 ⟨2, x3.k, x3.a, x3.b⟩ ⟨2, x.k, ⟨3, x.a.i⟩, x.b⟩ = false) (hbar : True) (hh : ∀ id o, (HR 2 o4 x3 x4 (outS u)).get id = some o → h.hp.get id = some o) : CallOk Tryz.prog W0 50 [.ptr 41 0, .agg (cI (I 2) (.rng 0 14 x.k) (I to) (rg (3)) (I x.a.i) (rg x.b.r) (I x.b.i))] h h (zeroV) := by
  refine reader (callH_ok (LP := pwT) (L := []) (m := 100) mixed 30) (by kernel_rfl) hbar (fun ne q hq => (te13o2r3 o4 to x x3 x4 u ne q).trans ?_) (HR_in _ _ _ _ _) rfl rfl hh
  have hq : Qof q 2 o4 x3 x4 u ne (zeroV) = true := hq
  generalize Qof q 2 o4 x3 x4 u ne = Q at hq ⊢
  simp only
  simp only [Pn.t13, Pn.sameY, Pn.compY, Pn.hasY, Pn.isC, Pn.amid, shL] at ht
  repeat' (first | exact hq | refine cond_i (fun _ => ?_) (fun _ => ?_))
  all_goals (exfalso; simp_all <;> omega)
theorem e13o2r3_t {o4 to : Int} {x x3 x4 : Pn.In} {u : Option Nat} {h : HS} (ht : Pn.t13 ⟨2, x3.k, x3.a, x3.b⟩ ⟨2, x.k, ⟨3, x.a.i⟩, x.b⟩ = true) (hbar : True) (hh : ∀ id o, (HR 2 o4 x3 x4 (outS u)).get id = some o → h.hp.get id = some o) : CallOk Tryz.prog W0 50 [.ptr 41 0, .agg (cI (I 2) (.rng 0 14 x.k) (I to) (rg (3)) (I x.a.i) (rg x.b.r) (I x.b.i))] h h (.tup [.agg [I (2), .rng 0 14 x.k, I (to), rg x3.a.r, I (x3.a.i), I (-1), I (IntKind.i64.wrap (IntKind.i64.wrap ↑(BitVec.ofInt IntKind.i64.bits x.b.i &&& BitVec.ofInt IntKind.i64.bits 63).toNat + IntKind.i64.wrap ↑(BitVec.ofInt IntKind.i64.bits x3.b.i &&& BitVec.ofInt IntKind.i64.bits 63).toNat)), I 0, I 0, I 0, nilS, nilS, nilS], .bool true]) := by
  refine reader (callH_ok (LP := pwT) (L := []) (m := 100) mixed 30) (by kernel_rfl) hbar (fun ne q hq => (te13o2r3 o4 to x x3 x4 u ne q).trans ?_) (HR_in _ _ _ _ _) rfl rfl hh
  have hq : Qof q 2 o4 x3 x4 u ne (.tup [.agg [I (2), .rng 0 14 x.k, I (to), rg x3.a.r, I (x3.a.i), I (-1), I (IntKind.i64.wrap (IntKind.i64.wrap ↑(BitVec.ofInt IntKind.i64.bits x.b.i &&& BitVec.ofInt IntKind.i64.bits 63).toNat + IntKind.i64.wrap ↑(BitVec.ofInt IntKind.i64.bits x3.b.i &&& BitVec.ofInt IntKind.i64.bits 63).toNat)), I 0, I 0, I 0, nilS, nilS, nilS], .bool true]) = true := hq
  generalize Qof q 2 o4 x3 x4 u ne = Q at hq ⊢
  simp only
  simp only [Pn.t13, Pn.sameY, Pn.compY, Pn.hasY, Pn.isC, Pn.amid, shL] at ht
  repeat' (first | exact hq | refine cond_i (fun _ => ?_) (fun _ => ?_))
  all_goals (exfalso; simp_all <;> omega)
theorem te13o1rm (o4 to : Int) (x x3 x4 : Pn.In) (u : Option Nat) (ne : Nat) (q : SV → List (Option SO) → Bool → Nat → Bool) : fnRunJ Tryz.prog 50 100 (cP W0) [.ptr 41 0, .agg (cI (I 2) (.rng 0 14 x.k) (I to) (rg (-1)) (I x.a.i) (rg x.b.r) (I x.b.i))] ⟨HR 1 o4 x3 x4 (outS u), 60, ne, 60⟩ (seen q) = (fun Q : SV → Bool => (bif decide (x.b.r < 0) then (bif x.k == 9 then Q zeroV else Q zeroV) else Q zeroV)) (Qof q 1 o4 x3 x4 u ne) := by kernel_rfl
theorem e13o1rm {o4 to : Int} {x x3 x4 : Pn.In} {u : Option Nat} {h : HS} (hbar : True) (hh : ∀ id o, (HR 1 o4 x3 x4 (outS u)).get id = some o → h.hp.get id = some o) : CallOk Tryz.prog W0 50 [.ptr 41 0, .agg (cI (I 2) (.rng 0 14 x.k) (I to) (rg (-1)) (I x.a.i) (rg x.b.r) (I x.b.i))] h h (zeroV) := by
  refine reader (callH_ok (LP := pwT) (L := []) (m := 100) mixed 30) (by kernel_rfl) hbar (fun ne q hq => (te13o1rm o4 to x x3 x4 u ne q).trans ?_) (HR_in _ _ _ _ _) rfl rfl hh
  have hq : Qof q 1 o4 x3 x4 u ne (zeroV) = true := hq
  generalize Qof q 1 o4 x3 x4 u ne = Q at hq ⊢
  simp only
  repeat' (first | exact hq | refine cond_i (fun _ => ?_) (fun _ => ?_))
theorem te13o1r0 (o4 to : Int) (x x3 x4 : Pn.In) (u : Option Nat) (ne : Nat) (q : SV → List (Option SO) → Bool → Nat → Bool) : fnRunJ Tryz.prog 50 100 (cP W0) [.ptr 41 0, .agg (cI (I 2) (.rng 0 14 x.k) (I to) (rg (0)) (I x.a.i) (rg x.b.r) (I x.b.i))] ⟨HR 1 o4 x3 x4 (outS u), 60, ne, 60⟩ (seen q) = (fun Q : SV → Bool => (bif decide (x.b.r < 0) then (bif x.k == 9 then Q zeroV else Q zeroV) else Q zeroV)) (Qof q 1 o4 x3 x4 u ne) := by kernel_rfl
theorem e13o1r0 {o4 to : Int} {x x3 x4 : Pn.In} {u : Option Nat} {h : HS} (hbar : True) (hh : ∀ id o, (HR 1 o4 x3 x4 (outS u)).get id = some o → h.hp.get id = some o) : CallOk Tryz.prog W0 50 [.ptr 41 0, .agg (cI (I 2) (.rng 0 14 x.k) (I to) (rg (0)) (I x.a.i) (rg x.b.r) (I x.b.i))] h h (zeroV) := by
  refine reader (callH_ok (LP := pwT) (L := []) (m := 100) mixed 30) (by kernel_rfl) hbar (fun ne q hq => (te13o1r0 o4 to x x3 x4 u ne q).trans ?_) (HR_in _ _ _ _ _) rfl rfl hh
  have hq : Qof q 1 o4 x3 x4 u ne (zeroV) = true := hq
  generalize Qof q 1 o4 x3 x4 u ne = Q at hq ⊢
  simp only
  repeat' (first | exact hq | refine cond_i (fun _ => ?_) (fun _ => ?_))
theorem te13o1r1 (o4 to : Int) (x x3 x4 : Pn.In) (u : Option Nat) (ne : Nat) (q : SV → List (Option SO) → Bool → Nat → Bool) : fnRunJ Tryz.prog 50 100 (cP W0) [.ptr 41 0, .agg (cI (I 2) (.rng 0 14 x.k) (I to) (rg (1)) (I x.a.i) (rg x.b.r) (I x.b.i))] ⟨HR 1 o4 x3 x4 (outS u), 60, ne, 60⟩ (seen q) = (fun Q : SV → Bool => (bif decide (x.b.r < 0) then (bif x.k == 9 then Q zeroV else Q zeroV) else Q zeroV)) (Qof q 1 o4 x3 x4 u ne) := by kernel_rfl
theorem e13o1r1 {o4 to : Int} {x x3 x4 : Pn.In} {u : Option Nat} {h : HS} (hbar : True) (hh : ∀ id o, (HR 1 o4 x3 x4 (outS u)).get id = some o → h.hp.get id = some o) : CallOk Tryz.prog W0 50 [.ptr 41 0, .agg (cI (I 2) (.rng 0 14 x.k) (I to) (rg (1)) (I x.a.i) (rg x.b.r) (I x.b.i))] h h (zeroV) := by
  refine reader (callH_ok (LP := pwT) (L := []) (m := 100) mixed 30) (by kernel_rfl) hbar (fun ne q hq => (te13o1r1 o4 to x x3 x4 u ne q).trans ?_) (HR_in _ _ _ _ _) rfl rfl hh
  have hq : Qof q 1 o4 x3 x4 u ne (zeroV) = true := hq
  generalize Qof q 1 o4 x3 x4 u ne = Q at hq ⊢
  simp only
  repeat' (first | exact hq | refine cond_i (fun _ => ?_) (fun _ => ?_))
theorem te13o1r2 (o4 to : Int) (x x3 x4 : Pn.In) (u : Option Nat) (ne : Nat) (q : SV → List (Option SO) → Bool → Nat → Bool) : fnRunJ Tryz.prog 50 100 (cP W0) [.ptr 41 0, .agg (cI (I 2) (.rng 0 14 x.k) (I to) (rg (2)) (I x.a.i) (rg x.b.r) (I x.b.i))] ⟨HR 1 o4 x3 x4 (outS u), 60, ne, 60⟩ (seen q) = (fun Q : SV → Bool => (bif decide (x.b.r < 0) then (bif x.k == 9 then Q zeroV else Q zeroV) else Q zeroV)) (Qof q 1 o4 x3 x4 u ne) := by kernel_rfl
theorem e13o1r2 {o4 to : Int} {x x3 x4 : Pn.In} {u : Option Nat} {h : HS} (hbar : True) (hh : ∀ id o, (HR 1 o4 x3 x4 (outS u)).get id = some o → h.hp.get id = some o) : CallOk Tryz.prog W0 50 [.ptr 41 0, .agg (cI (I 2) (.rng 0 14 x.k) (I to) (rg (2)) (I x.a.i) (rg x.b.r) (I x.b.i))] h h (zeroV) := by
  refine reader (callH_ok (LP := pwT) (L := []) (m := 100) mixed 30) (by kernel_rfl) hbar (fun ne q hq => (te13o1r2 o4 to x x3 x4 u ne q).trans ?_) (HR_in _ _ _ _ _) rfl rfl hh
  have hq : Qof q 1 o4 x3 x4 u ne (zeroV) = true := hq
  generalize Qof q 1 o4 x3 x4 u ne = Q at hq ⊢
  simp only
  repeat' (first | exact hq | refine cond_i (fun _ => ?_) (fun _ => ?_))
theorem te13o1r3 (o4 to : Int) (x x3 x4 : Pn.In) (u : Option Nat) (ne : Nat) (q : SV → List (Option SO) → Bool → Nat → Bool) : fnRunJ Tryz.prog 50 100 (cP W0) [.ptr 41 0, .agg (cI (I 2) (.rng 0 14 x.k) (I to) (rg (3)) (I x.a.i) (rg x.b.r) (I x.b.i))] ⟨HR 1 o4 x3 x4 (outS u), 60, ne, 60⟩ (seen q) = (fun Q : SV → Bool => (bif decide (x.b.r < 0) then (bif decide (x3.a.r ≥ 0) then (bif x.k == 9 then Q zeroV else Q zeroV) else (bif x.k == 9 then Q zeroV else Q zeroV)) else (bif decide (x3.a.r ≥ 0) then Q zeroV else Q zeroV))) (Qof q 1 o4 x3 x4 u ne) := by kernel_rfl
theorem e13o1r3 {o4 to : Int} {x x3 x4 : Pn.In} {u : Option Nat} {h : HS} (hbar : True) (hh : ∀ id o, (HR 1 o4 x3 x4 (outS u)).get id = some o → h.hp.get id = some o) : CallOk Tryz.prog W0 50 [.ptr 41 0, .agg (cI (I 2) (.rng 0 14 x.k) (I to) (rg (3)) (I x.a.i) (rg x.b.r) (I x.b.i))] h h (zeroV) := by
  refine reader (callH_ok (LP := pwT) (L := []) (m := 100) mixed 30) (by kernel_rfl) hbar (fun ne q hq => (te13o1r3 o4 to x x3 x4 u ne q).trans ?_) (HR_in _ _ _ _ _) rfl rfl hh
  have hq : Qof q 1 o4 x3 x4 u ne (zeroV) = true := hq
  generalize Qof q 1 o4 x3 x4 u ne = Q at hq ⊢
  simp only
  repeat' (first | exact hq | refine cond_i (fun _ => ?_) (fun _ => ?_))
theorem te14o2rm (o4 to : Int) (x x3 x4 : Pn.In) (u : Option Nat) (ne : Nat) (q : SV → List (Option SO) → Bool → Nat → Bool) : fnRunJ Tryz.prog 51 100 (cP W0) [.ptr 41 0, .agg (cI (I 2) (.rng 0 14 x.k) (I to) (rg x.a.r) (I x.a.i) (rg (-1)) (I x.b.i))] ⟨HR 2 o4 x3 x4 (outS u), 60, ne, 60⟩ (seen q) = (fun Q : SV → Bool => (bif x.k == 2 then (bif x.a.r == -1 && (x.a.i == 0 && true) then Q zeroV else Q zeroV) else Q zeroV)) (Qof q 2 o4 x3 x4 u ne) := by kernel_rfl
theorem e14o2rm {o4 to : Int} {x x3 x4 : Pn.In} {u : Option Nat} {h : HS} (hbar : True) (hh : ∀ id o, (HR 2 o4 x3 x4 (outS u)).get id = some o → h.hp.get id = some o) : CallOk Tryz.prog W0 51 [.ptr 41 0, .agg (cI (I 2) (.rng 0 14 x.k) (I to) (rg x.a.r) (I x.a.i) (rg (-1)) (I x.b.i))] h h (zeroV) := by
  refine reader (callH_ok (LP := pwT) (L := []) (m := 100) mixed 30) (by kernel_rfl) hbar (fun ne q hq => (te14o2rm o4 to x x3 x4 u ne q).trans ?_) (HR_in _ _ _ _ _) rfl rfl hh
  have hq : Qof q 2 o4 x3 x4 u ne (zeroV) = true := hq
  generalize Qof q 2 o4 x3 x4 u ne = Q at hq ⊢
  simp only
  repeat' (first | exact hq | refine cond_i (fun _ => ?_) (fun _ => ?_))
theorem te14o2r0 (o4 to : Int) (x x3 x4 : Pn.In) (u : Option Nat) (ne : Nat) (q : SV → List (Option SO) → Bool → Nat → Bool) : fnRunJ Tryz.prog 51 100 (cP W0) [.ptr 41 0, .agg (cI (I 2) (.rng 0 14 x.k) (I to) (rg x.a.r) (I x.a.i) (rg (0)) (I x.b.i))] ⟨HR 2 o4 x3 x4 (outS u), 60, ne, 60⟩ (seen q) = (fun Q : SV → Bool => (bif x.k == 2 then (bif x.a.r == -1 && (x.a.i == 0 && true) then Q zeroV else Q zeroV) else Q zeroV)) (Qof q 2 o4 x3 x4 u ne) := by kernel_rfl
theorem e14o2r0 {o4 to : Int} {x x3 x4 : Pn.In} {u : Option Nat} {h : HS} (hbar : True) (hh : ∀ id o, (HR 2 o4 x3 x4 (outS u)).get id = some o → h.hp.get id = some o) : CallOk Tryz.prog W0 51 [.ptr 41 0, .agg (cI (I 2) (.rng 0 14 x.k) (I to) (rg x.a.r) (I x.a.i) (rg (0)) (I x.b.i))] h h (zeroV) := by
  refine reader (callH_ok (LP := pwT) (L := []) (m := 100) mixed 30) (by kernel_rfl) hbar (fun ne q hq => (te14o2r0 o4 to x x3 x4 u ne q).trans ?_) (HR_in _ _ _ _ _) rfl rfl hh
  have hq : Qof q 2 o4 x3 x4 u ne (zeroV) = true := hq
  generalize Qof q 2 o4 x3 x4 u ne = Q at hq ⊢
  simp only
  repeat' (first | exact hq | refine cond_i (fun _ => ?_) (fun _ => ?_))
theorem te14o2r1 (o4 to : Int) (x x3 x4 : Pn.In) (u : Option Nat) (ne : Nat) (q : SV → List (Option SO) → Bool → Nat → Bool) : fnRunJ Tryz.prog 51 100 (cP W0) [.ptr 41 0, .agg (cI (I 2) (.rng 0 14 x.k) (I to) (rg x.a.r) (I x.a.i) (rg (1)) (I x.b.i))] ⟨HR 2 o4 x3 x4 (outS u), 60, ne, 60⟩ (seen q) = (fun Q : SV → Bool => (bif x.k == 2 then (bif x.a.r == -1 && (x.a.i == 0 && true) then Q zeroV else Q zeroV) else Q zeroV)) (Qof q 2 o4 x3 x4 u ne) := by kernel_rfl
theorem e14o2r1 {o4 to : Int} {x x3 x4 : Pn.In} {u : Option Nat} {h : HS} (hbar : True) (hh : ∀ id o, (HR 2 o4 x3 x4 (outS u)).get id = some o → h.hp.get id = some o) : CallOk Tryz.prog W0 51 [.ptr 41 0, .agg (cI (I 2) (.rng 0 14 x.k) (I to) (rg x.a.r) (I x.a.i) (rg (1)) (I x.b.i))] h h (zeroV) := by
  refine reader (callH_ok (LP := pwT) (L := []) (m := 100) mixed 30) (by kernel_rfl) hbar (fun ne q hq => (te14o2r1 o4 to x x3 x4 u ne q).trans ?_) (HR_in _ _ _ _ _) rfl rfl hh
  have hq : Qof q 2 o4 x3 x4 u ne (zeroV) = true := hq
  generalize Qof q 2 o4 x3 x4 u ne = Q at hq ⊢
  simp only
  repeat' (first | exact hq | refine cond_i (fun _ => ?_) (fun _ => ?_))
theorem te14o2r2 (o4 to : Int) (x x3 x4 : Pn.In) (u : Option Nat) (ne : Nat) (q : SV → List (Option SO) → Bool → Nat → Bool) : fnRunJ Tryz.prog 51 100 (cP W0) [.ptr 41 0, .agg (cI (I 2) (.rng 0 14 x.k) (I to) (rg x.a.r) (I x.a.i) (rg (2)) (I x.b.i))] ⟨HR 2 o4 x3 x4 (outS u), 60, ne, 60⟩ (seen q) = (fun Q : SV → Bool => (bif x.k == 2 then (bif x.a.r == -1 && (x.a.i == 0 && true) then Q zeroV else Q zeroV) else Q zeroV)) (Qof q 2 o4 x3 x4 u ne) := by kernel_rfl
theorem e14o2r2 {o4 to : Int} {x x3 x4 : Pn.In} {u : Option Nat} {h : HS} (hbar : True) (hh : ∀ id o, (HR 2 o4 x3 x4 (outS u)).get id = some o → h.hp.get id = some o) : CallOk Tryz.prog W0 51 [.ptr 41 0, .agg (cI (I 2) (.rng 0 14 x.k) (I to) (rg x.a.r) (I x.a.i) (rg (2)) (I x.b.i))] h h (zeroV) := by
  refine reader (callH_ok (LP := pwT) (L := []) (m := 100) mixed 30) (by kernel_rfl) hbar (fun ne q hq => (te14o2r2 o4 to x x3 x4 u ne q).trans ?_) (HR_in _ _ _ _ _) rfl rfl hh
  have hq : Qof q 2 o4 x3 x4 u ne (zeroV) = true := hq
  generalize Qof q 2 o4 x3 x4 u ne = Q at hq ⊢
  simp only
  repeat' (first | exact hq | refine cond_i (fun _ => ?_) (fun _ => ?_))
theorem te14o2r3 (o4 to : Int) (x x3 x4 : Pn.In) (u : Option Nat) (ne : Nat) (q : SV → List (Option SO) → Bool → Nat → Bool) : fnRunJ Tryz.prog 51 100 (cP W0) [.ptr 41 0, .agg (cI (I 2) (.rng 0 14 x.k) (I to) (rg x.a.r) (I x.a.i) (rg (3)) (I x.b.i))] ⟨HR 2 o4 x3 x4 (outS u), 60, ne, 60⟩ (seen q) = (fun Q : SV → Bool => (bif decide (x3.a.r ≥ 0) then (bif decide (x3.b.r ≥ 0) then (bif x.k == 2 then (bif x.a.r == -1 && (x.a.i == 0 && true) then (bif x3.k == 2 then (bif x3.a.r == -1 && (x3.a.i == 0 && true) then Q (.tup [.agg [I (1), I (0), I (to), rg x3.b.r, I (x3.b.i), I (0), I (0), I 0, I 0, I 0, nilS, nilS, nilS], .bool true]) else Q zeroV) else Q zeroV) else Q zeroV) else Q zeroV) else (bif x.k == 2 then (bif x.a.r == -1 && (x.a.i == 0 && true) then (bif x3.k == 2 then (bif x3.a.r == -1 && (x3.a.i == 0 && true) then Q (.tup [.agg [I (1), I (0), I (to), rg x3.b.r, I (x3.b.i), I (0), I (0), I 0, I 0, I 0, nilS, nilS, nilS], .bool true]) else Q zeroV) else Q zeroV) else Q zeroV) else Q zeroV)) else (bif decide (x3.b.r ≥ 0) then (bif x.k == 2 then (bif x.a.r == -1 && (x.a.i == 0 && true) then (bif x3.k == 2 then (bif x3.a.r == -1 && (x3.a.i == 0 && true) then Q (.tup [.agg [I (1), I (0), I (to), rg x3.b.r, I (x3.b.i), I (0), I (0), I 0, I 0, I 0, nilS, nilS, nilS], .bool true]) else Q zeroV) else Q zeroV) else Q zeroV) else Q zeroV) else (bif x.k == 2 then (bif x.a.r == -1 && (x.a.i == 0 && true) then (bif x3.k == 2 then (bif x3.a.r == -1 && (x3.a.i == 0 && true) then Q (.tup [.agg [I (1), I (0), I (to), rg x3.b.r, I (x3.b.i), I (0), I (0), I 0, I 0, I 0, nilS, nilS, nilS], .bool true]) else Q zeroV) else Q zeroV) else Q zeroV) else Q zeroV)))) (Qof q 2 o4 x3 x4 u ne) := by kernel_rfl
theorem e14o2r3_f {o4 to : Int} {x x3 x4 : Pn.In} {u : Option Nat} {h : HS} (ht : Pn.t14 ⟨2, x3.k, x3.a, x3.b⟩ ⟨2, x.k, ⟨x.a.r, x.a.i⟩, ⟨3, x.b.i⟩⟩ = false) (hbar : True) (hh : ∀ id o, (HR 2 o4 x3 x4 (outS u)).get id = some o → h.hp.get id = some o) : CallOk Tryz.prog W0 51 [.ptr 41 0, .agg (cI (I 2) (.rng 0 14 x.k) (I to) (rg x.a.r) (I x.a.i) (rg (3)) (I x.b.i))] h h (zeroV) := by
  refine reader (callH_ok (LP := pwT) (L := []) (m := 100) mixed 30) (by kernel_rfl) hbar (fun ne q hq => (te14o2r3 o4 to x x3 x4 u ne q).trans ?_) (HR_in _ _ _ _ _) rfl rfl hh
  have hq : Qof q 2 o4 x3 x4 u ne (zeroV) = true := hq
  generalize Qof q 2 o4 x3 x4 u ne = Q at hq ⊢
  simp only
  simp only [Pn.t14, Pn.sameY, Pn.compY, Pn.hasY, Pn.isC, Pn.amid, shL] at ht
  repeat' (first | exact hq | refine cond_i (fun _ => ?_) (fun _ => ?_))
  all_goals (exfalso; simp_all <;> omega)
theorem e14o2r3_t {o4 to : Int} {x x3 x4 : Pn.In} {u : Option Nat} {h : HS} (ht : Pn.t14 ⟨2, x3.k, x3.a, x3.b⟩ ⟨2, x.k, ⟨x.a.r, x.a.i⟩, ⟨3, x.b.i⟩⟩ = true) (hbar : True) (hh : ∀ id o, (HR 2 o4 x3 x4 (outS u)).get id = some o → h.hp.get id = some o) : CallOk Tryz.prog W0 51 [.ptr 41 0, .agg (cI (I 2) (.rng 0 14 x.k) (I to) (rg x.a.r) (I x.a.i) (rg (3)) (I x.b.i))] h h (.tup [.agg [I (1), I (0), I (to), rg x3.b.r, I (x3.b.i), I (0), I (0), I 0, I 0, I 0, nilS, nilS, nilS], .bool true]) := by
  refine reader (callH_ok (LP := pwT) (L := []) (m := 100) mixed 30) (by kernel_rfl) hbar (fun ne q hq => (te14o2r3 o4 to x x3 x4 u ne q).trans ?_) (HR_in _ _ _ _ _) rfl rfl hh
  have hq : Qof q 2 o4 x3 x4 u ne (.tup [.agg [I (1), I (0), I (to), rg x3.b.r, I (x3.b.i), I (0), I (0), I 0, I 0, I 0, nilS, nilS, nilS], .bool true]) = true := hq
  generalize Qof q 2 o4 x3 x4 u ne = Q at hq ⊢
  simp only
  simp only [Pn.t14, Pn.sameY, Pn.compY, Pn.hasY, Pn.isC, Pn.amid, shL] at ht
  repeat' (first | exact hq | refine cond_i (fun _ => ?_) (fun _ => ?_))
  all_goals (exfalso; simp_all <;> omega)
theorem te14o1rm (o4 to : Int) (x x3 x4 : Pn.In) (u : Option Nat) (ne : Nat) (q : SV → List (Option SO) → Bool → Nat → Bool) : fnRunJ Tryz.prog 51 100 (cP W0) [.ptr 41 0, .agg (cI (I 2) (.rng 0 14 x.k) (I to) (rg x.a.r) (I x.a.i) (rg (-1)) (I x.b.i))] ⟨HR 1 o4 x3 x4 (outS u), 60, ne, 60⟩ (seen q) = (fun Q : SV → Bool => (bif x.k == 2 then (bif x.a.r == -1 && (x.a.i == 0 && true) then Q zeroV else Q zeroV) else Q zeroV)) (Qof q 1 o4 x3 x4 u ne) := by kernel_rfl
theorem e14o1rm {o4 to : Int} {x x3 x4 : Pn.In} {u : Option Nat} {h : HS} (hbar : True) (hh : ∀ id o, (HR 1 o4 x3 x4 (outS u)).get id = some o → h.hp.get id = some o) : CallOk Tryz.prog W0 51 [.ptr 41 0, .agg (cI (I 2) (.rng 0 14 x.k) (I to) (rg x.a.r) (I x.a.i) (rg (-1)) (I x.b.i))] h h (zeroV) := by
  refine reader (callH_ok (LP := pwT) (L := []) (m := 100) mixed 30) (by kernel_rfl) hbar (fun ne q hq => (te14o1rm o4 to x x3 x4 u ne q).trans ?_) (HR_in _ _ _ _ _) rfl rfl hh
  have hq : Qof q 1 o4 x3 x4 u ne (zeroV) = true := hq
  generalize Qof q 1 o4 x3 x4 u ne = Q at hq ⊢
  simp only
  repeat' (first | exact hq | refine cond_i (fun _ => ?_) (fun _ => ?_))
theorem te14o1r0 (o4 to : Int) (x x3 x4 : Pn.In) (u : Option Nat) (ne : Nat) (q : SV → List (Option SO) → Bool → Nat → Bool) : fnRunJ Tryz.prog 51 100 (cP W0) [.ptr 41 0, .agg (cI (I 2) (.rng 0 14 x.k) (I to) (rg x.a.r) (I x.a.i) (rg (0)) (I x.b.i))] ⟨HR 1 o4 x3 x4 (outS u), 60, ne, 60⟩ (seen q) = (fun Q : SV → Bool => (bif x.k == 2 then (bif x.a.r == -1 && (x.a.i == 0 && true) then Q zeroV else Q zeroV) else Q zeroV)) (Qof q 1 o4 x3 x4 u ne) := by kernel_rfl
theorem e14o1r0 {o4 to : Int} {x x3 x4 : Pn.In} {u : Option Nat} {h : HS} (hbar : True) (hh : ∀ id o, (HR 1 o4 x3 x4 (outS u)).get id = some o → h.hp.get id = some o) : CallOk Tryz.prog W0 51 [.ptr 41 0, .agg (cI (I 2) (.rng 0 14 x.k) (I to) (rg x.a.r) (I x.a.i) (rg (0)) (I x.b.i))] h h (zeroV) := by
  refine reader (callH_ok (LP := pwT) (L := []) (m := 100) mixed 30) (by kernel_rfl) hbar (fun ne q hq => (te14o1r0 o4 to x x3 x4 u ne q).trans ?_) (HR_in _ _ _ _ _) rfl rfl hh
  have hq : Qof q 1 o4 x3 x4 u ne (zeroV) = true := hq
  generalize Qof q 1 o4 x3 x4 u ne = Q at hq ⊢
  simp only
  repeat' (first | exact hq | refine cond_i (fun _ => ?_) (fun _ => ?_))
theorem te14o1r1 (o4 to : Int) (x x3 x4 : Pn.In) (u : Option Nat) (ne : Nat) (q : SV → List (Option SO) → Bool → Nat → Bool) : fnRunJ Tryz.prog 51 100 (cP W0) [.ptr 41 0, .agg (cI (I 2) (.rng 0 14 x.k) (I to) (rg x.a.r) (I x.a.i) (rg (1)) (I x.b.i))] ⟨HR 1 o4 x3 x4 (outS u), 60, ne, 60⟩ (seen q) = (fun Q : SV → Bool => (bif x.k == 2 then (bif x.a.r == -1 && (x.a.i == 0 && true) then Q zeroV else Q zeroV) else Q zeroV)) (Qof q 1 o4 x3 x4 u ne) := by kernel_rfl
theorem e14o1r1 {o4 to : Int} {x x3 x4 : Pn.In} {u : Option Nat} {h : HS} (hbar : True) (hh : ∀ id o, (HR 1 o4 x3 x4 (outS u)).get id = some o → h.hp.get id = some o) : CallOk Tryz.prog W0 51 [.ptr 41 0, .agg (cI (I 2) (.rng 0 14 x.k) (I to) (rg x.a.r) (I x.a.i) (rg (1)) (I x.b.i))] h h (zeroV) := by
  refine reader (callH_ok (LP := pwT) (L := []) (m := 100) mixed 30) (by kernel_rfl) hbar (fun ne q hq => (te14o1r1 o4 to x x3 x4 u ne q).trans ?_) (HR_in _ _ _ _ _) rfl rfl hh
  have hq : Qof q 1 o4 x3 x4 u ne (zeroV) = true := hq
  generalize Qof q 1 o4 x3 x4 u ne = Q at hq ⊢
  simp only
  repeat' (first | exact hq | refine cond_i (fun _ => ?_) (fun _ => ?_))
theorem te14o1r2 (o4 to : Int) (x x3 x4 : Pn.In) (u : Option Nat) (ne : Nat) (q : SV → List (Option SO) → Bool → Nat → Bool) : fnRunJ Tryz.prog 51 100 (cP W0) [.ptr 41 0, .agg (cI (I 2) (.rng 0 14 x.k) (I to) (rg x.a.r) (I x.a.i) (rg (2)) (I x.b.i))] ⟨HR 1 o4 x3 x4 (outS u), 60, ne, 60⟩ (seen q) = (fun Q : SV → Bool => (bif x.k == 2 then (bif x.a.r == -1 && (x.a.i == 0 && true) then Q zeroV else Q zeroV) else Q zeroV)) (Qof q 1 o4 x3 x4 u ne) := by kernel_rfl
theorem e14o1r2 {o4 to : Int} {x x3 x4 : Pn.In} {u : Option Nat} {h : HS} (hbar : True) (hh : ∀ id o, (HR 1 o4 x3 x4 (outS u)).get id = some o → h.hp.get id = some o) : CallOk Tryz.prog W0 51 [.ptr 41 0, .agg (cI (I 2) (.rng 0 14 x.k) (I to) (rg x.a.r) (I x.a.i) (rg (2)) (I x.b.i))] h h (zeroV) := by
  refine reader (callH_ok (LP := pwT) (L := []) (m := 100) mixed 30) (by kernel_rfl) hbar (fun ne q hq => (te14o1r2 o4 to x x3 x4 u ne q).trans ?_) (HR_in _ _ _ _ _) rfl rfl hh
  have hq : Qof q 1 o4 x3 x4 u ne (zeroV) = true := hq
  generalize Qof q 1 o4 x3 x4 u ne = Q at hq ⊢
  simp only
  repeat' (first | exact hq | refine cond_i (fun _ => ?_) (fun _ => ?_))
theorem te14o1r3 (o4 to : Int) (x x3 x4 : Pn.In) (u : Option Nat) (ne : Nat) (q : SV → List (Option SO) → Bool → Nat → Bool) : fnRunJ Tryz.prog 51 100 (cP W0) [.ptr 41 0, .agg (cI (I 2) (.rng 0 14 x.k) (I to) (rg x.a.r) (I x.a.i) (rg (3)) (I x.b.i))] ⟨HR 1 o4 x3 x4 (outS u), 60, ne, 60⟩ (seen q) = (fun Q : SV → Bool => (bif decide (x3.a.r ≥ 0) then (bif x.k == 2 then (bif x.a.r == -1 && (x.a.i == 0 && true) then Q zeroV else Q zeroV) else Q zeroV) else (bif x.k == 2 then (bif x.a.r == -1 && (x.a.i == 0 && true) then Q zeroV else Q zeroV) else Q zeroV))) (Qof q 1 o4 x3 x4 u ne) := by kernel_rfl
theorem e14o1r3 {o4 to : Int} {x x3 x4 : Pn.In} {u : Option Nat} {h : HS} (hbar : True) (hh : ∀ id o, (HR 1 o4 x3 x4 (outS u)).get id = some o → h.hp.get id = some o) : CallOk Tryz.prog W0 51 [.ptr 41 0, .agg (cI (I 2) (.rng 0 14 x.k) (I to) (rg x.a.r) (I x.a.i) (rg (3)) (I x.b.i))] h h (zeroV) := by
  refine reader (callH_ok (LP := pwT) (L := []) (m := 100) mixed 30) (by kernel_rfl) hbar (fun ne q hq => (te14o1r3 o4 to x x3 x4 u ne q).trans ?_) (HR_in _ _ _ _ _) rfl rfl hh
  have hq : Qof q 1 o4 x3 x4 u ne (zeroV) = true := hq
  generalize Qof q 1 o4 x3 x4 u ne = Q at hq ⊢
  simp only
  repeat' (first | exact hq | refine cond_i (fun _ => ?_) (fun _ => ?_))
theorem te15o2rm (o4 to : Int) (x x3 x4 : Pn.In) (u : Option Nat) (ne : Nat) (q : SV → List (Option SO) → Bool → Nat → Bool) : fnRunJ Tryz.prog 52 100 (cP W0) [.ptr 41 0, .agg (cI (I 2) (.rng 0 14 x.k) (I to) (rg (-1)) (I x.a.i) (rg x.b.r) (I x.b.i))] ⟨HR 2 o4 x3 x4 (outS u), 60, ne, 60⟩ (seen q) = (fun Q : SV → Bool => (bif decide (x.b.r < 0) then (bif x.b.i == 0 then (bif x.k == 12 then Q zeroV else Q zeroV) else Q zeroV) else Q zeroV)) (Qof q 2 o4 x3 x4 u ne) := by kernel_rfl
theorem e15o2rm {o4 to : Int} {x x3 x4 : Pn.In} {u : Option Nat} {h : HS} (hbar : True) (hh : ∀ id o, (HR 2 o4 x3 x4 (outS u)).get id = some o → h.hp.get id = some o) : CallOk Tryz.prog W0 52 [.ptr 41 0, .agg (cI (I 2) (.rng 0 14 x.k) (I to) (rg (-1)) (I x.a.i) (rg x.b.r) (I x.b.i))] h h (zeroV) := by
  refine reader (callH_ok (LP := pwT) (L := []) (m := 100) mixed 30) (by kernel_rfl) hbar (fun ne q hq => (te15o2rm o4 to x x3 x4 u ne q).trans ?_) (HR_in _ _ _ _ _) rfl rfl hh
  have hq : Qof q 2 o4 x3 x4 u ne (zeroV) = true := hq
  generalize Qof q 2 o4 x3 x4 u ne = Q at hq ⊢
  simp only
  repeat' (first | exact hq | refine cond_i (fun _ => ?_) (fun _ => ?_))
theorem te15o2r0 (o4 to : Int) (x x3 x4 : Pn.In) (u : Option Nat) (ne : Nat) (q : SV → List (Option SO) → Bool → Nat → Bool) : fnRunJ Tryz.prog 52 100 (cP W0) [.ptr 41 0, .agg (cI (I 2) (.rng 0 14 x.k) (I to) (rg (0)) (I x.a.i) (rg x.b.r) (I x.b.i))] ⟨HR 2 o4 x3 x4 (outS u), 60, ne, 60⟩ (seen q) = (fun Q : SV → Bool => (bif decide (x.b.r < 0) then (bif x.b.i == 0 then (bif x.k == 12 then Q zeroV else Q zeroV) else Q zeroV) else Q zeroV)) (Qof q 2 o4 x3 x4 u ne) := by kernel_rfl
theorem e15o2r0 {o4 to : Int} {x x3 x4 : Pn.In} {u : Option Nat} {h : HS} (hbar : True) (hh : ∀ id o, (HR 2 o4 x3 x4 (outS u)).get id = some o → h.hp.get id = some o) : CallOk Tryz.prog W0 52 [.ptr 41 0, .agg (cI (I 2) (.rng 0 14 x.k) (I to) (rg (0)) (I x.a.i) (rg x.b.r) (I x.b.i))] h h (zeroV) := by
  refine reader (callH_ok (LP := pwT) (L := []) (m := 100) mixed 30) (by kernel_rfl) hbar (fun ne q hq => (te15o2r0 o4 to x x3 x4 u ne q).trans ?_) (HR_in _ _ _ _ _) rfl rfl hh
  have hq : Qof q 2 o4 x3 x4 u ne (zeroV) = true := hq
  generalize Qof q 2 o4 x3 x4 u ne = Q at hq ⊢
  simp only
  repeat' (first | exact hq | refine cond_i (fun _ => ?_) (fun _ => ?_))
theorem te15o2r1 (o4 to : Int) (x x3 x4 : Pn.In) (u : Option Nat) (ne : Nat) (q : SV → List (Option SO) → Bool → Nat → Bool) : fnRunJ Tryz.prog 52 100 (cP W0) [.ptr 41 0, .agg (cI (I 2) (.rng 0 14 x.k) (I to) (rg (1)) (I x.a.i) (rg x.b.r) (I x.b.i))] ⟨HR 2 o4 x3 x4 (outS u), 60, ne, 60⟩ (seen q) = (fun Q : SV → Bool => (bif decide (x.b.r < 0) then (bif x.b.i == 0 then (bif x.k == 12 then Q zeroV else Q zeroV) else Q zeroV) else Q zeroV)) (Qof q 2 o4 x3 x4 u ne) := by kernel_rfl
theorem e15o2r1 {o4 to : Int} {x x3 x4 : Pn.In} {u : Option Nat} {h : HS} (hbar : True) (hh : ∀ id o, (HR 2 o4 x3 x4 (outS u)).get id = some o → h.hp.get id = some o) : CallOk Tryz.prog W0 52 [.ptr 41 0, .agg (cI (I 2) (.rng 0 14 x.k) (I to) (rg (1)) (I x.a.i) (rg x.b.r) (I x.b.i))] h h (zeroV) := by
  refine reader (callH_ok (LP := pwT) (L := []) (m := 100) mixed 30) (by kernel_rfl) hbar (fun ne q hq => (te15o2r1 o4 to x x3 x4 u ne q).trans ?_) (HR_in _ _ _ _ _) rfl rfl hh
  have hq : Qof q 2 o4 x3 x4 u ne (zeroV) = true := hq
  generalize Qof q 2 o4 x3 x4 u ne = Q at hq ⊢
  simp only
  repeat' (first | exact hq | refine cond_i (fun _ => ?_) (fun _ => ?_))
theorem te15o2r2 (o4 to : Int) (x x3 x4 : Pn.In) (u : Option Nat) (ne : Nat) (q : SV → List (Option SO) → Bool → Nat → Bool) : fnRunJ Tryz.prog 52 100 (cP W0) [.ptr 41 0, .agg (cI (I 2) (.rng 0 14 x.k) (I to) (rg (2)) (I x.a.i) (rg x.b.r) (I x.b.i))] ⟨HR 2 o4 x3 x4 (outS u), 60, ne, 60⟩ (seen q) = (fun Q : SV → Bool => (bif decide (x.b.r < 0) then (bif x.b.i == 0 then (bif x.k == 12 then Q zeroV else Q zeroV) else Q zeroV) else Q zeroV)) (Qof q 2 o4 x3 x4 u ne) := by kernel_rfl
theorem e15o2r2 {o4 to : Int} {x x3 x4 : Pn.In} {u : Option Nat} {h : HS} (hbar : True) (hh : ∀ id o, (HR 2 o4 x3 x4 (outS u)).get id = some o → h.hp.get id = some o) : CallOk Tryz.prog W0 52 [.ptr 41 0, .agg (cI (I 2) (.rng 0 14 x.k) (I to) (rg (2)) (I x.a.i) (rg x.b.r) (I x.b.i))] h h (zeroV) := by
  refine reader (callH_ok (LP := pwT) (L := []) (m := 100) mixed 30) (by kernel_rfl) hbar (fun ne q hq => (te15o2r2 o4 to x x3 x4 u ne q).trans ?_) (HR_in _ _ _ _ _) rfl rfl hh
  have hq : Qof q 2 o4 x3 x4 u ne (zeroV) = true := hq
  generalize Qof q 2 o4 x3 x4 u ne = Q at hq ⊢
  simp only
  repeat' (first | exact hq | refine cond_i (fun _ => ?_) (fun _ => ?_))
theorem te15o2r3 (o4 to : Int) (x x3 x4 : Pn.In) (u : Option Nat) (ne : Nat) (q : SV → List (Option SO) → Bool → Nat → Bool) : fnRunJ Tryz.prog 52 100 (cP W0) [.ptr 41 0, .agg (cI (I 2) (.rng 0 14 x.k) (I to) (rg (3)) (I x.a.i) (rg x.b.r) (I x.b.i))] ⟨HR 2 o4 x3 x4 (outS u), 60, ne, 60⟩ (seen q) = (fun Q : SV → Bool => (bif decide (x.b.r < 0) then (bif x.b.i == 0 then (bif x.k == 12 then (bif decide (x3.a.r ≥ 0) then (bif decide (x3.b.r ≥ 0) then (bif x3.k == 11 then Q (.tup [.agg [I (1), I (0), I (to), rg 3, I (x.a.i), I (0), I (0), I 0, I 0, I 0, nilS, nilS, nilS], .bool true]) else (bif x3.k == 12 then Q (.tup [.agg [I (1), I (0), I (to), rg 3, I (x.a.i), I (0), I (0), I 0, I 0, I 0, nilS, nilS, nilS], .bool true]) else (bif x3.k == 13 then Q (.tup [.agg [I (1), I (0), I (to), rg 3, I (x.a.i), I (0), I (0), I 0, I 0, I 0, nilS, nilS, nilS], .bool true]) else (bif x3.k == 14 then Q (.tup [.agg [I (1), I (0), I (to), rg 3, I (x.a.i), I (0), I (0), I 0, I 0, I 0, nilS, nilS, nilS], .bool true]) else Q zeroV)))) else (bif x3.k == 11 then Q (.tup [.agg [I (1), I (0), I (to), rg 3, I (x.a.i), I (0), I (0), I 0, I 0, I 0, nilS, nilS, nilS], .bool true]) else (bif x3.k == 12 then Q (.tup [.agg [I (1), I (0), I (to), rg 3, I (x.a.i), I (0), I (0), I 0, I 0, I 0, nilS, nilS, nilS], .bool true]) else (bif x3.k == 13 then Q (.tup [.agg [I (1), I (0), I (to), rg 3, I (x.a.i), I (0), I (0), I 0, I 0, I 0, nilS, nilS, nilS], .bool true]) else (bif x3.k == 14 then Q (.tup [.agg [I (1), I (0), I (to), rg 3, I (x.a.i), I (0), I (0), I 0, I 0, I 0, nilS, nilS, nilS], .bool true]) else Q zeroV))))) else (bif decide (x3.b.r ≥ 0) then (bif x3.k == 11 then Q (.tup [.agg [I (1), I (0), I (to), rg 3, I (x.a.i), I (0), I (0), I 0, I 0, I 0, nilS, nilS, nilS], .bool true]) else (bif x3.k == 12 then Q (.tup [.agg [I (1), I (0), I (to), rg 3, I (x.a.i), I (0), I (0), I 0, I 0, I 0, nilS, nilS, nilS], .bool true]) else (bif x3.k == 13 then Q (.tup [.agg [I (1), I (0), I (to), rg 3, I (x.a.i), I (0), I (0), I 0, I 0, I 0, nilS, nilS, nilS], .bool true]) else (bif x3.k == 14 then Q (.tup [.agg [I (1), I (0), I (to), rg 3, I (x.a.i), I (0), I (0), I 0, I 0, I 0, nilS, nilS, nilS], .bool true]) else Q zeroV)))) else (bif x3.k == 11 then Q (.tup [.agg [I (1), I (0), I (to), rg 3, I (x.a.i), I (0), I (0), I 0, I 0, I 0, nilS, nilS, nilS], .bool true]) else (bif x3.k == 12 then Q (.tup [.agg [I (1), I (0), I (to), rg 3, I (x.a.i), I (0), I (0), I 0, I 0, I 0, nilS, nilS, nilS], .bool true]) else (bif x3.k == 13 then Q (.tup [.agg [I (1), I (0), I (to), rg 3, I (x.a.i), I (0), I (0), I 0, I 0, I 0, nilS, nilS, nilS], .bool true]) else (bif x3.k == 14 then Q (.tup [.agg [I (1), I (0), I (to), rg 3, I (x.a.i), I (0), I (0), I 0, I 0, I 0, nilS, nilS, nilS], .bool true]) else Q zeroV)))))) else Q zeroV) else Q zeroV) else Q zeroV)) (Qof q 2 o4 x3 x4 u ne) := by kernel_rfl
theorem e15o2r3_f {o4 to : Int} {x x3 x4 : Pn.In} {u : Option Nat} {h : HS} (ht : Pn.t15 ⟨2, x3.k, x3.a, x3.b⟩ ⟨2, x.k, ⟨3, x.a.i⟩, x.b⟩ = false) (hbar : True) (hh : ∀ id o, (HR 2 o4 x3 x4 (outS u)).get id = some o → h.hp.get id = some o) : CallOk Tryz.prog W0 52 [.ptr 41 0, .agg (cI (I 2) (.rng 0 14 x.k) (I to) (rg (3)) (I x.a.i) (rg x.b.r) (I x.b.i))] h h (zeroV) := by
  refine reader (callH_ok (LP := pwT) (L := []) (m := 100) mixed 30) (by kernel_rfl) hbar (fun ne q hq => (te15o2r3 o4 to x x3 x4 u ne q).trans ?_) (HR_in _ _ _ _ _) rfl rfl hh
  have hq : Qof q 2 o4 x3 x4 u ne (zeroV) = true := hq
  generalize Qof q 2 o4 x3 x4 u ne = Q at hq ⊢
  simp only
  simp only [Pn.t15, Pn.sameY, Pn.compY, Pn.hasY, Pn.isC, Pn.amid, shL] at ht
  repeat' (first | exact hq | refine cond_i (fun _ => ?_) (fun _ => ?_))
  all_goals (exfalso; simp_all <;> omega)
theorem e15o2r3_t {o4 to : Int} {x x3 x4 : Pn.In} {u : Option Nat} {h : HS} (ht : Pn.t15 ⟨2, x3.k, x3.a, x3.b⟩ ⟨2, x.k, ⟨3, x.a.i⟩, x.b⟩ = true) (hbar : True) (hh : ∀ id o, (HR 2 o4 x3 x4 (outS u)).get id = some o → h.hp.get id = some o) : CallOk Tryz.prog W0 52 [.ptr 41 0, .agg (cI (I 2) (.rng 0 14 x.k) (I to) (rg (3)) (I x.a.i) (rg x.b.r) (I x.b.i))] h h (.tup [.agg [I (1), I (0), I (to), rg 3, I (x.a.i), I (0), I (0), I 0, I 0, I 0, nilS, nilS, nilS], .bool true]) := by
  refine reader (callH_ok (LP := pwT) (L := []) (m := 100) mixed 30) (by kernel_rfl) hbar (fun ne q hq => (te15o2r3 o4 to x x3 x4 u ne q).trans ?_) (HR_in _ _ _ _ _) rfl rfl hh
  have hq : Qof q 2 o4 x3 x4 u ne (.tup [.agg [I (1), I (0), I (to), rg 3, I (x.a.i), I (0), I (0), I 0, I 0, I 0, nilS, nilS, nilS], .bool true]) = true := hq
  generalize Qof q 2 o4 x3 x4 u ne = Q at hq ⊢
  simp only
  simp only [Pn.t15, Pn.sameY, Pn.compY, Pn.hasY, Pn.isC, Pn.amid, shL] at ht
  repeat' (first | exact hq | refine cond_i (fun _ => ?_) (fun _ => ?_))
  all_goals (exfalso; simp_all <;> omega)
theorem te15o1rm (o4 to : Int) (x x3 x4 : Pn.In) (u : Option Nat) (ne : Nat) (q : SV → List (Option SO) → Bool → Nat → Bool) : fnRunJ Tryz.prog 52 100 (cP W0) [.ptr 41 0, .agg (cI (I 2) (.rng 0 14 x.k) (I to) (rg (-1)) (I x.a.i) (rg x.b.r) (I x.b.i))] ⟨HR 1 o4 x3 x4 (outS u), 60, ne, 60⟩ (seen q) = (fun Q : SV → Bool => (bif decide (x.b.r < 0) then (bif x.b.i == 0 then (bif x.k == 12 then Q zeroV else Q zeroV) else Q zeroV) else Q zeroV)) (Qof q 1 o4 x3 x4 u ne) := by kernel_rfl
theorem e15o1rm {o4 to : Int} {x x3 x4 : Pn.In} {u : Option Nat} {h : HS} (hbar : True) (hh : ∀ id o, (HR 1 o4 x3 x4 (outS u)).get id = some o → h.hp.get id = some o) : CallOk Tryz.prog W0 52 [.ptr 41 0, .agg (cI (I 2) (.rng 0 14 x.k) (I to) (rg (-1)) (I x.a.i) (rg x.b.r) (I x.b.i))] h h (zeroV) := by
  refine reader (callH_ok (LP := pwT) (L := []) (m := 100) mixed 30) (by kernel_rfl) hbar (fun ne q hq => (te15o1rm o4 to x x3 x4 u ne q).trans ?_) (HR_in _ _ _ _ _) rfl rfl hh
  have hq : Qof q 1 o4 x3 x4 u ne (zeroV) = true := hq
  generalize Qof q 1 o4 x3 x4 u ne = Q at hq ⊢
  simp only
  repeat' (first | exact hq | refine cond_i (fun _ => ?_) (fun _ => ?_))
theorem te15o1r0 (o4 to : Int) (x x3 x4 : Pn.In) (u : Option Nat) (ne : Nat) (q : SV → List (Option SO) → Bool → Nat → Bool) : fnRunJ Tryz.prog 52 100 (cP W0) [.ptr 41 0, .agg (cI (I 2) (.rng 0 14 x.k) (I to) (rg (0)) (I x.a.i) (rg x.b.r) (I x.b.i))] ⟨HR 1 o4 x3 x4 (outS u), 60, ne, 60⟩ (seen q) = (fun Q : SV → Bool => (bif decide (x.b.r < 0) then (bif x.b.i == 0 then (bif x.k == 12 then Q zeroV else Q zeroV) else Q zeroV) else Q zeroV)) (Qof q 1 o4 x3 x4 u ne) := by kernel_rfl
theorem e15o1r0 {o4 to : Int} {x x3 x4 : Pn.In} {u : Option Nat} {h : HS} (hbar : True) (hh : ∀ id o, (HR 1 o4 x3 x4 (outS u)).get id = some o → h.hp.get id = some o) : CallOk Tryz.prog W0 52 [.ptr 41 0, .agg (cI (I 2) (.rng 0 14 x.k) (I to) (rg (0)) (I x.a.i) (rg x.b.r) (I x.b.i))] h h (zeroV) := by
  refine reader (callH_ok (LP := pwT) (L := []) (m := 100) mixed 30) (by kernel_rfl) hbar (fun ne q hq => (te15o1r0 o4 to x x3 x4 u ne q).trans ?_) (HR_in _ _ _ _ _) rfl rfl hh
  have hq : Qof q 1 o4 x3 x4 u ne (zeroV) = true := hq
  generalize Qof q 1 o4 x3 x4 u ne = Q at hq ⊢
  simp only
  repeat' (first | exact hq | refine cond_i (fun _ => ?_) (fun _ => ?_))
theorem te15o1r1 (o4 to : Int) (x x3 x4 : Pn.In) (u : Option Nat) (ne : Nat) (q : SV → List (Option SO) → Bool → Nat → Bool) : fnRunJ Tryz.prog 52 100 (cP W0) [.ptr 41 0, .agg (cI (I 2) (.rng 0 14 x.k) (I to) (rg (1)) (I x.a.i) (rg x.b.r) (I x.b.i))] ⟨HR 1 o4 x3 x4 (outS u), 60, ne, 60⟩ (seen q) = (fun Q : SV → Bool => (bif decide (x.b.r < 0) then (bif x.b.i == 0 then (bif x.k == 12 then Q zeroV else Q zeroV) else Q zeroV) else Q zeroV)) (Qof q 1 o4 x3 x4 u ne) := by kernel_rfl
theorem e15o1r1 {o4 to : Int} {x x3 x4 : Pn.In} {u : Option Nat} {h : HS} (hbar : True) (hh : ∀ id o, (HR 1 o4 x3 x4 (outS u)).get id = some o → h.hp.get id = some o) : CallOk Tryz.prog W0 52 [.ptr 41 0, .agg (cI (I 2) (.rng 0 14 x.k) (I to) (rg (1)) (I x.a.i) (rg x.b.r) (I x.b.i))] h h (zeroV) := by
  refine reader (callH_ok (LP := pwT) (L := []) (m := 100) mixed 30) (by kernel_rfl) hbar (fun ne q hq => (te15o1r1 o4 to x x3 x4 u ne q).trans ?_) (HR_in _ _ _ _ _) rfl rfl hh
  have hq : Qof q 1 o4 x3 x4 u ne (zeroV) = true := hq
  generalize Qof q 1 o4 x3 x4 u ne = Q at hq ⊢
  simp only
  repeat' (first | exact hq | refine cond_i (fun _ => ?_) (fun _ => ?_))
theorem te15o1r2 (o4 to : Int) (x x3 x4 : Pn.In) (u : Option Nat) (ne : Nat) (q : SV → List (Option SO) → Bool → Nat → Bool) : fnRunJ Tryz.prog 52 100 (cP W0) [.ptr 41 0, .agg (cI (I 2) (.rng 0 14 x.k) (I to) (rg (2)) (I x.a.i) (rg x.b.r) (I x.b.i))] ⟨HR 1 o4 x3 x4 (outS u), 60, ne, 60⟩ (seen q) = (fun Q : SV → Bool => (bif decide (x.b.r < 0) then (bif x.b.i == 0 then (bif x.k == 12 then Q zeroV else Q zeroV) else Q zeroV) else Q zeroV)) (Qof q 1 o4 x3 x4 u ne) := by kernel_rfl
theorem e15o1r2 {o4 to : Int} {x x3 x4 : Pn.In} {u : Option Nat} {h : HS} (hbar : True) (hh : ∀ id o, (HR 1 o4 x3 x4 (outS u)).get id = some o → h.hp.get id = some o) : CallOk Tryz.prog W0 52 [.ptr 41 0, .agg (cI (I 2) (.rng 0 14 x.k) (I to) (rg (2)) (I x.a.i) (rg x.b.r) (I x.b.i))] h h (zeroV) := by
  refine reader (callH_ok (LP := pwT) (L := []) (m := 100) mixed 30) (by kernel_rfl) hbar (fun ne q hq => (te15o1r2 o4 to x x3 x4 u ne q).trans ?_) (HR_in _ _ _ _ _) rfl rfl hh
  have hq : Qof q 1 o4 x3 x4 u ne (zeroV) = true := hq
  generalize Qof q 1 o4 x3 x4 u ne = Q at hq ⊢
  simp only
  repeat' (first | exact hq | refine cond_i (fun _ => ?_) (fun _ => ?_))
theorem te15o1r3 (o4 to : Int) (x x3 x4 : Pn.In) (u : Option Nat) (ne : Nat) (q : SV → List (Option SO) → Bool → Nat → Bool) : fnRunJ Tryz.prog 52 100 (cP W0) [.ptr 41 0, .agg (cI (I 2) (.rng 0 14 x.k) (I to) (rg (3)) (I x.a.i) (rg x.b.r) (I x.b.i))] ⟨HR 1 o4 x3 x4 (outS u), 60, ne, 60⟩ (seen q) = (fun Q : SV → Bool => (bif decide (x.b.r < 0) then (bif x.b.i == 0 then (bif x.k == 12 then (bif decide (x3.a.r ≥ 0) then Q zeroV else Q zeroV) else Q zeroV) else Q zeroV) else Q zeroV)) (Qof q 1 o4 x3 x4 u ne) := by kernel_rfl
theorem e15o1r3 {o4 to : Int} {x x3 x4 : Pn.In} {u : Option Nat} {h : HS} (hbar : True) (hh : ∀ id o, (HR 1 o4 x3 x4 (outS u)).get id = some o → h.hp.get id = some o) : CallOk Tryz.prog W0 52 [.ptr 41 0, .agg (cI (I 2) (.rng 0 14 x.k) (I to) (rg (3)) (I x.a.i) (rg x.b.r) (I x.b.i))] h h (zeroV) := by
  refine reader (callH_ok (LP := pwT) (L := []) (m := 100) mixed 30) (by kernel_rfl) hbar (fun ne q hq => (te15o1r3 o4 to x x3 x4 u ne q).trans ?_) (HR_in _ _ _ _ _) rfl rfl hh
  have hq : Qof q 1 o4 x3 x4 u ne (zeroV) = true := hq
  generalize Qof q 1 o4 x3 x4 u ne = Q at hq ⊢
  simp only
  repeat' (first | exact hq | refine cond_i (fun _ => ?_) (fun _ => ?_))
theorem te16o2rm (o4 to : Int) (x x3 x4 : Pn.In) (u : Option Nat) (ne : Nat) (q : SV → List (Option SO) → Bool → Nat → Bool) : fnRunJ Tryz.prog 53 100 (cP W0) [.ptr 41 0, .agg (cI (I 2) (.rng 0 14 x.k) (I to) (rg (-1)) (I x.a.i) (rg x.b.r) (I x.b.i))] ⟨HR 2 o4 x3 x4 (outS u), 60, ne, 60⟩ (seen q) = (fun Q : SV → Bool => (bif decide (x.b.r < 0) then (bif x.b.i != 0 then Q zeroV else (bif x.k != 11 then Q zeroV else Q zeroV)) else Q zeroV)) (Qof q 2 o4 x3 x4 u ne) := by kernel_rfl
theorem e16o2rm {o4 to : Int} {x x3 x4 : Pn.In} {u : Option Nat} {h : HS} (hbar : True) (hh : ∀ id o, (HR 2 o4 x3 x4 (outS u)).get id = some o → h.hp.get id = some o) : CallOk Tryz.prog W0 53 [.ptr 41 0, .agg (cI (I 2) (.rng 0 14 x.k) (I to) (rg (-1)) (I x.a.i) (rg x.b.r) (I x.b.i))] h h (zeroV) := by
  refine reader (callH_ok (LP := pwT) (L := []) (m := 100) mixed 30) (by kernel_rfl) hbar (fun ne q hq => (te16o2rm o4 to x x3 x4 u ne q).trans ?_) (HR_in _ _ _ _ _) rfl rfl hh
  have hq : Qof q 2 o4 x3 x4 u ne (zeroV) = true := hq
  generalize Qof q 2 o4 x3 x4 u ne = Q at hq ⊢
  simp only
  repeat' (first | exact hq | refine cond_i (fun _ => ?_) (fun _ => ?_))
theorem te16o2r0 (o4 to : Int) (x x3 x4 : Pn.In) (u : Option Nat) (ne : Nat) (q : SV → List (Option SO) → Bool → Nat → Bool) : fnRunJ Tryz.prog 53 100 (cP W0) [.ptr 41 0, .agg (cI (I 2) (.rng 0 14 x.k) (I to) (rg (0)) (I x.a.i) (rg x.b.r) (I x.b.i))] ⟨HR 2 o4 x3 x4 (outS u), 60, ne, 60⟩ (seen q) = (fun Q : SV → Bool => (bif decide (x.b.r < 0) then (bif x.b.i != 0 then Q zeroV else (bif x.k != 11 then Q zeroV else Q zeroV)) else Q zeroV)) (Qof q 2 o4 x3 x4 u ne) := by kernel_rfl
theorem e16o2r0 {o4 to : Int} {x x3 x4 : Pn.In} {u : Option Nat} {h : HS} (hbar : True) (hh : ∀ id o, (HR 2 o4 x3 x4 (outS u)).get id = some o → h.hp.get id = some o) : CallOk Tryz.prog W0 53 [.ptr 41 0, .agg (cI (I 2) (.rng 0 14 x.k) (I to) (rg (0)) (I x.a.i) (rg x.b.r) (I x.b.i))] h h (zeroV) := by
  refine reader (callH_ok (LP := pwT) (L := []) (m := 100) mixed 30) (by kernel_rfl) hbar (fun ne q hq => (te16o2r0 o4 to x x3 x4 u ne q).trans ?_) (HR_in _ _ _ _ _) rfl rfl hh
  have hq : Qof q 2 o4 x3 x4 u ne (zeroV) = true := hq
  generalize Qof q 2 o4 x3 x4 u ne = Q at hq ⊢
  simp only
  repeat' (first | exact hq | refine cond_i (fun _ => ?_) (fun _ => ?_))
theorem te16o2r1 (o4 to : Int) (x x3 x4 : Pn.In) (u : Option Nat) (ne : Nat) (q : SV → List (Option SO) → Bool → Nat → Bool) : fnRunJ Tryz.prog 53 100 (cP W0) [.ptr 41 0, .agg (cI (I 2) (.rng 0 14 x.k) (I to) (rg (1)) (I x.a.i) (rg x.b.r) (I x.b.i))] ⟨HR 2 o4 x3 x4 (outS u), 60, ne, 60⟩ (seen q) = (fun Q : SV → Bool => (bif decide (x.b.r < 0) then (bif x.b.i != 0 then Q zeroV else (bif x.k != 11 then Q zeroV else Q zeroV)) else Q zeroV)) (Qof q 2 o4 x3 x4 u ne) := by kernel_rfl
theorem e16o2r1 {o4 to : Int} {x x3 x4 : Pn.In} {u : Option Nat} {h : HS} (hbar : True) (hh : ∀ id o, (HR 2 o4 x3 x4 (outS u)).get id = some o → h.hp.get id = some o) : CallOk Tryz.prog W0 53 [.ptr 41 0, .agg (cI (I 2) (.rng 0 14 x.k) (I to) (rg (1)) (I x.a.i) (rg x.b.r) (I x.b.i))] h h (zeroV) := by
  refine reader (callH_ok (LP := pwT) (L := []) (m := 100) mixed 30) (by kernel_rfl) hbar (fun ne q hq => (te16o2r1 o4 to x x3 x4 u ne q).trans ?_) (HR_in _ _ _ _ _) rfl rfl hh
  have hq : Qof q 2 o4 x3 x4 u ne (zeroV) = true := hq
  generalize Qof q 2 o4 x3 x4 u ne = Q at hq ⊢
  simp only
  repeat' (first | exact hq | refine cond_i (fun _ => ?_) (fun _ => ?_))
theorem te16o2r2 (o4 to : Int) (x x3 x4 : Pn.In) (u : Option Nat) (ne : Nat) (q : SV → List (Option SO) → Bool → Nat → Bool) : fnRunJ Tryz.prog 53 100 (cP W0) [.ptr 41 0, .agg (cI (I 2) (.rng 0 14 x.k) (I to) (rg (2)) (I x.a.i) (rg x.b.r) (I x.b.i))] ⟨HR 2 o4 x3 x4 (outS u), 60, ne, 60⟩ (seen q) = (fun Q : SV → Bool => (bif decide (x.b.r < 0) then (bif x.b.i != 0 then Q zeroV else (bif x.k != 11 then Q zeroV else Q zeroV)) else Q zeroV)) (Qof q 2 o4 x3 x4 u ne) := by kernel_rfl
theorem e16o2r2 {o4 to : Int} {x x3 x4 : Pn.In} {u : Option Nat} {h : HS} (hbar : True) (hh : ∀ id o, (HR 2 o4 x3 x4 (outS u)).get id = some o → h.hp.get id = some o) : CallOk Tryz.prog W0 53 [.ptr 41 0, .agg (cI (I 2) (.rng 0 14 x.k) (I to) (rg (2)) (I x.a.i) (rg x.b.r) (I x.b.i))] h h (zeroV) := by
  refine reader (callH_ok (LP := pwT) (L := []) (m := 100) mixed 30) (by kernel_rfl) hbar (fun ne q hq => (te16o2r2 o4 to x x3 x4 u ne q).trans ?_) (HR_in _ _ _ _ _) rfl rfl hh
  have hq : Qof q 2 o4 x3 x4 u ne (zeroV) = true := hq
  generalize Qof q 2 o4 x3 x4 u ne = Q at hq ⊢
  simp only
  repeat' (first | exact hq | refine cond_i (fun _ => ?_) (fun _ => ?_))
theorem te16o2r3 (o4 to : Int) (x x3 x4 : Pn.In) (u : Option Nat) (ne : Nat) (q : SV → List (Option SO) → Bool → Nat → Bool) : fnRunJ Tryz.prog 53 100 (cP W0) [.ptr 41 0, .agg (cI (I 2) (.rng 0 14 x.k) (I to) (rg (3)) (I x.a.i) (rg x.b.r) (I x.b.i))] ⟨HR 2 o4 x3 x4 (outS u), 60, ne, 60⟩ (seen q) = (fun Q : SV → Bool => (bif decide (x.b.r < 0) then (bif decide (x3.a.r ≥ 0) then (bif decide (x3.b.r ≥ 0) then (bif x3.k == 11 then (bif x.b.i != 0 then Q zeroV else (bif x.k != 11 then Q zeroV else (bif x3.k == 11 then Q (.tup [.agg [I (2), I (12), I (to), rg x3.a.r, I (x3.a.i), rg x3.b.r, I (x3.b.i), I 0, I 0, I 0, nilS, nilS, nilS], .bool true]) else (bif x3.k == 12 then Q (.tup [.agg [I (2), I (11), I (to), rg x3.a.r, I (x3.a.i), rg x3.b.r, I (x3.b.i), I 0, I 0, I 0, nilS, nilS, nilS], .bool true]) else (bif x3.k == 13 then Q (.tup [.agg [I (2), I (14), I (to), rg x3.b.r, I (x3.b.i), rg x3.a.r, I (x3.a.i), I 0, I 0, I 0, nilS, nilS, nilS], .bool true]) else Q (.tup [.agg [I (2), I (13), I (to), rg x3.b.r, I (x3.b.i), rg x3.a.r, I (x3.a.i), I 0, I 0, I 0, nilS, nilS, nilS], .bool true])))))) else (bif x3.k == 12 then (bif x.b.i != 0 then Q zeroV else (bif x.k != 11 then Q zeroV else (bif x3.k == 11 then Q (.tup [.agg [I (2), I (12), I (to), rg x3.a.r, I (x3.a.i), rg x3.b.r, I (x3.b.i), I 0, I 0, I 0, nilS, nilS, nilS], .bool true]) else (bif x3.k == 12 then Q (.tup [.agg [I (2), I (11), I (to), rg x3.a.r, I (x3.a.i), rg x3.b.r, I (x3.b.i), I 0, I 0, I 0, nilS, nilS, nilS], .bool true]) else (bif x3.k == 13 then Q (.tup [.agg [I (2), I (14), I (to), rg x3.b.r, I (x3.b.i), rg x3.a.r, I (x3.a.i), I 0, I 0, I 0, nilS, nilS, nilS], .bool true]) else Q (.tup [.agg [I (2), I (13), I (to), rg x3.b.r, I (x3.b.i), rg x3.a.r, I (x3.a.i), I 0, I 0, I 0, nilS, nilS, nilS], .bool true])))))) else (bif x3.k == 13 then (bif x.b.i != 0 then Q zeroV else (bif x.k != 11 then Q zeroV else (bif x3.k == 11 then Q (.tup [.agg [I (2), I (12), I (to), rg x3.a.r, I (x3.a.i), rg x3.b.r, I (x3.b.i), I 0, I 0, I 0, nilS, nilS, nilS], .bool true]) else (bif x3.k == 12 then Q (.tup [.agg [I (2), I (11), I (to), rg x3.a.r, I (x3.a.i), rg x3.b.r, I (x3.b.i), I 0, I 0, I 0, nilS, nilS, nilS], .bool true]) else (bif x3.k == 13 then Q (.tup [.agg [I (2), I (14), I (to), rg x3.b.r, I (x3.b.i), rg x3.a.r, I (x3.a.i), I 0, I 0, I 0, nilS, nilS, nilS], .bool true]) else Q (.tup [.agg [I (2), I (13), I (to), rg x3.b.r, I (x3.b.i), rg x3.a.r, I (x3.a.i), I 0, I 0, I 0, nilS, nilS, nilS], .bool true])))))) else (bif x3.k == 14 then (bif x.b.i != 0 then Q zeroV else (bif x.k != 11 then Q zeroV else (bif x3.k == 11 then Q (.tup [.agg [I (2), I (12), I (to), rg x3.a.r, I (x3.a.i), rg x3.b.r, I (x3.b.i), I 0, I 0, I 0, nilS, nilS, nilS], .bool true]) else (bif x3.k == 12 then Q (.tup [.agg [I (2), I (11), I (to), rg x3.a.r, I (x3.a.i), rg x3.b.r, I (x3.b.i), I 0, I 0, I 0, nilS, nilS, nilS], .bool true]) else (bif x3.k == 13 then Q (.tup [.agg [I (2), I (14), I (to), rg x3.b.r, I (x3.b.i), rg x3.a.r, I (x3.a.i), I 0, I 0, I 0, nilS, nilS, nilS], .bool true]) else Q (.tup [.agg [I (2), I (13), I (to), rg x3.b.r, I (x3.b.i), rg x3.a.r, I (x3.a.i), I 0, I 0, I 0, nilS, nilS, nilS], .bool true])))))) else (bif x.b.i != 0 then Q zeroV else (bif x.k != 11 then Q zeroV else Q zeroV)))))) else (bif x3.k == 11 then (bif x.b.i != 0 then Q zeroV else (bif x.k != 11 then Q zeroV else (bif x3.k == 11 then Q (.tup [.agg [I (2), I (12), I (to), rg x3.a.r, I (x3.a.i), rg x3.b.r, I (x3.b.i), I 0, I 0, I 0, nilS, nilS, nilS], .bool true]) else (bif x3.k == 12 then Q (.tup [.agg [I (2), I (11), I (to), rg x3.a.r, I (x3.a.i), rg x3.b.r, I (x3.b.i), I 0, I 0, I 0, nilS, nilS, nilS], .bool true]) else (bif x3.k == 13 then Q (.tup [.agg [I (2), I (14), I (to), rg x3.b.r, I (x3.b.i), rg x3.a.r, I (x3.a.i), I 0, I 0, I 0, nilS, nilS, nilS], .bool true]) else Q (.tup [.agg [I (2), I (13), I (to), rg x3.b.r, I (x3.b.i), rg x3.a.r, I (x3.a.i), I 0, I 0, I 0, nilS, nilS, nilS], .bool true])))))) else (bif x3.k == 12 then (bif x.b.i != 0 then Q zeroV else (bif x.k != 11 then Q zeroV else (bif x3.k == 11 then Q (.tup [.agg [I (2), I (12), I (to), rg x3.a.r, I (x3.a.i), rg x3.b.r, I (x3.b.i), I 0, I 0, I 0, nilS, nilS, nilS], .bool true]) else (bif x3.k == 12 then Q (.tup [.agg [I (2), I (11), I (to), rg x3.a.r, I (x3.a.i), rg x3.b.r, I (x3.b.i), I 0, I 0, I 0, nilS, nilS, nilS], .bool true]) else (bif x3.k == 13 then Q (.tup [.agg [I (2), I (14), I (to), rg x3.b.r, I (x3.b.i), rg x3.a.r, I (x3.a.i), I 0, I 0, I 0, nilS, nilS, nilS], .bool true]) else Q (.tup [.agg [I (2), I (13), I (to), rg x3.b.r, I (x3.b.i), rg x3.a.r, I (x3.a.i), I 0, I 0, I 0, nilS, nilS, nilS], .bool true])))))) else (bif x3.k == 13 then (bif x.b.i != 0 then Q zeroV else (bif x.k != 11 then Q zeroV else (bif x3.k == 11 then Q (.tup [.agg [I (2), I (12), I (to), rg x3.a.r, I (x3.a.i), rg x3.b.r, I (x3.b.i), I 0, I 0, I 0, nilS, nilS, nilS], .bool true]) else (bif x3.k == 12 then Q (.tup [.agg [I (2), I (11), I (to), rg x3.a.r, I (x3.a.i), rg x3.b.r, I (x3.b.i), I 0, I 0, I 0, nilS, nilS, nilS], .bool true]) else (bif x3.k == 13 then Q (.tup [.agg [I (2), I (14), I (to), rg x3.b.r, I (x3.b.i), rg x3.a.r, I (x3.a.i), I 0, I 0, I 0, nilS, nilS, nilS], .bool true]) else Q (.tup [.agg [I (2), I (13), I (to), rg x3.b.r, I (x3.b.i), rg x3.a.r, I (x3.a.i), I 0, I 0, I 0, nilS, nilS, nilS], .bool true])))))) else (bif x3.k == 14 then (bif x.b.i != 0 then Q zeroV else (bif x.k != 11 then Q zeroV else (bif x3.k == 11 then Q (.tup [.agg [I (2), I (12), I (to), rg x3.a.r, I (x3.a.i), rg x3.b.r, I (x3.b.i), I 0, I 0, I 0, nilS, nilS, nilS], .bool true]) else (bif x3.k == 12 then Q (.tup [.agg [I (2), I (11), I (to), rg x3.a.r, I (x3.a.i), rg x3.b.r, I (x3.b.i), I 0, I 0, I 0, nilS, nilS, nilS], .bool true]) else (bif x3.k == 13 then Q (.tup [.agg [I (2), I (14), I (to), rg x3.b.r, I (x3.b.i), rg x3.a.r, I (x3.a.i), I 0, I 0, I 0, nilS, nilS, nilS], .bool true]) else Q (.tup [.agg [I (2), I (13), I (to), rg x3.b.r, I (x3.b.i), rg x3.a.r, I (x3.a.i), I 0, I 0, I 0, nilS, nilS, nilS], .bool true])))))) else (bif x.b.i != 0 then Q zeroV else (bif x.k != 11 then Q zeroV else Q zeroV))))))) else (bif decide (x3.b.r ≥ 0) then (bif x3.k == 11 then (bif x.b.i != 0 then Q zeroV else (bif x.k != 11 then Q zeroV else (bif x3.k == 11 then Q (.tup [.agg [I (2), I (12), I (to), rg x3.a.r, I (x3.a.i), rg x3.b.r, I (x3.b.i), I 0, I 0, I 0, nilS, nilS, nilS], .bool true]) else (bif x3.k == 12 then Q (.tup [.agg [I (2), I (11), I (to), rg x3.a.r, I (x3.a.i), rg x3.b.r, I (x3.b.i), I 0, I 0, I 0, nilS, nilS, nilS], .bool true]) else (bif x3.k == 13 then Q (.tup [.agg [I (2), I (14), I (to), rg x3.b.r, I (x3.b.i), rg x3.a.r, I (x3.a.i), I 0, I 0, I 0, nilS, nilS, nilS], .bool true]) else Q (.tup [.agg [I (2), I (13), I (to), rg x3.b.r, I (x3.b.i), rg x3.a.r, I (x3.a.i), I 0, I 0, I 0, nilS, nilS, nilS], .bool true])))))) else (bif x3.k == 12 then (bif x.b.i != 0 then Q zeroV else (bif x.k != 11 then Q zeroV else (bif x3.k == 11 then Q (.tup [.agg [I (2), I (12), I (to), rg x3.a.r, I (x3.a.i), rg x3.b.r, I (x3.b.i), I 0, I 0, I 0, nilS, nilS, nilS], .bool true]) else (bif x3.k == 12 then Q (.tup [.agg [I (2), I (11), I (to), rg x3.a.r, I (x3.a.i), rg x3.b.r, I (x3.b.i), I 0, I 0, I 0, nilS, nilS, nilS], .bool true]) else (bif x3.k == 13 then Q (.tup [.agg [I (2), I (14), I (to), rg x3.b.r, I (x3.b.i), rg x3.a.r, I (x3.a.i), I 0, I 0, I 0, nilS, nilS, nilS], .bool true]) else Q (.tup [.agg [I (2), I (13), I (to), rg x3.b.r, I (x3.b.i), rg x3.a.r, I (x3.a.i), I 0, I 0, I 0, nilS, nilS, nilS], .bool true])))))) else (bif x3.k == 13 then (bif x.b.i != 0 then Q zeroV else (bif x.k != 11 then Q zeroV else (bif x3.k == 11 then Q (.tup [.agg [I (2), I (12), I (to), rg x3.a.r, I (x3.a.i), rg x3.b.r, I (x3.b.i), I 0, I 0, I 0, nilS, nilS, nilS], .bool true]) else (bif x3.k == 12 then Q (.tup [.agg [I (2), I (11), I (to), rg x3.a.r, I (x3.a.i), rg x3.b.r, I (x3.b.i), I 0, I 0, I 0, nilS, nilS, nilS], .bool true]) else (bif x3.k == 13 then Q (.tup [.agg [I (2), I (14), I (to), rg x3.b.r, I (x3.b.i), rg x3.a.r, I (x3.a.i), I 0, I 0, I 0, nilS, nilS, nilS], .bool true]) else Q (.tup [.agg [I (2), I (13), I (to), rg x3.b.r, I (x3.b.i), rg x3.a.r, I (x3.a.i), I 0, I 0, I 0, nilS, nilS, nilS], .bool true])))))) else (bif x3.k == 14 then (bif x.b.i != 0 then Q zeroV else (bif x.k != 11 then Q zeroV else (bif x3.k == 11 then Q (.tup [.agg [I (2), I (12), I (to), rg x3.a.r, I (x3.a.i), rg x3.b.r, I (x3.b.i), I 0, I 0, I 0, nilS, nilS, nilS], .bool true]) else (bif x3.k == 12 then Q (.tup [.agg [I (2), I (11), I (to), rg x3.a.r, I (x3.a.i), rg x3.b.r, I (x3.b.i), I 0, I 0, I 0, nilS, nilS, nilS], .bool true]) else (bif x3.k == 13 then Q (.tup [.agg [I (2), I (14), I (to), rg x3.b.r, I (x3.b.i), rg x3.a.r, I (x3.a.i), I 0, I 0, I 0, nilS, nilS, nilS], .bool true]) else Q (.tup [.agg [I (2), I (13), I (to), rg x3.b.r, I (x3.b.i), rg x3.a.r, I (x3.a.i), I 0, I 0, I 0, nilS, nilS, nilS], .bool true])))))) else (bif x.b.i != 0 then Q zeroV else (bif x.k != 11 then Q zeroV else Q zeroV)))))) else (bif x3.k == 11 then (bif x.b.i != 0 then Q zeroV else (bif x.k != 11 then Q zeroV else (bif x3.k == 11 then Q (.tup [.agg [I (2), I (12), I (to), rg x3.a.r, I (x3.a.i), rg x3.b.r, I (x3.b.i), I 0, I 0, I 0, nilS, nilS, nilS], .bool true]) else (bif x3.k == 12 then Q (.tup [.agg [I (2), I (11), I (to), rg x3.a.r, I (x3.a.i), rg x3.b.r, I (x3.b.i), I 0, I 0, I 0, nilS, nilS, nilS], .bool true]) else (bif x3.k == 13 then Q (.tup [.agg [I (2), I (14), I (to), rg x3.b.r, I (x3.b.i), rg x3.a.r, I (x3.a.i), I 0, I 0, I 0, nilS, nilS, nilS], .bool true]) else Q (.tup [.agg [I (2), I (13), I (to), rg x3.b.r, I (x3.b.i), rg x3.a.r, I (x3.a.i), I 0, I 0, I 0, nilS, nilS, nilS], .bool true])))))) else (bif x3.k == 12 then (bif x.b.i != 0 then Q zeroV else (bif x.k != 11 then Q zeroV else (bif x3.k == 11 then Q (.tup [.agg [I (2), I (12), I (to), rg x3.a.r, I (x3.a.i), rg x3.b.r, I (x3.b.i), I 0, I 0, I 0, nilS, nilS, nilS], .bool true]) else (bif x3.k == 12 then Q (.tup [.agg [I (2), I (11), I (to), rg x3.a.r, I (x3.a.i), rg x3.b.r, I (x3.b.i), I 0, I 0, I 0, nilS, nilS, nilS], .bool true]) else (bif x3.k == 13 then Q (.tup [.agg [I (2), I (14), I (to), rg x3.b.r, I (x3.b.i), rg x3.a.r, I (x3.a.i), I 0, I 0, I 0, nilS, nilS, nilS], .bool true]) else Q (.tup [.agg [I (2), I (13), I (to), rg x3.b.r, I (x3.b.i), rg x3.a.r, I (x3.a.i), I 0, I 0, I 0, nilS, nilS, nilS], .bool true])))))) else (bif x3.k == 13 then (bif x.b.i != 0 then Q zeroV else (bif x.k != 11 then Q zeroV else (bif x3.k == 11 then Q (.tup [.agg [I (2), I (12), I (to), rg x3.a.r, I (x3.a.i), rg x3.b.r, I (x3.b.i), I 0, I 0, I 0, nilS, nilS, nilS], .bool true]) else (bif x3.k == 12 then Q (.tup [.agg [I (2), I (11), I (to), rg x3.a.r, I (x3.a.i), rg x3.b.r, I (x3.b.i), I 0, I 0, I 0, nilS, nilS, nilS], .bool true]) else (bif x3.k == 13 then Q (.tup [.agg [I (2), I (14), I (to), rg x3.b.r, I (x3.b.i), rg x3.a.r, I (x3.a.i), I 0, I 0, I 0, nilS, nilS, nilS], .bool true]) else Q (.tup [.agg [I (2), I (13), I (to), rg x3.b.r, I (x3.b.i), rg x3.a.r, I (x3.a.i), I 0, I 0, I 0, nilS, nilS, nilS], .bool true])))))) else (bif x3.k == 14 then (bif x.b.i != 0 then Q zeroV else (bif x.k != 11 then Q zeroV else (bif x3.k == 11 then Q (.tup [.agg [I (2), I (12), I (to), rg x3.a.r, I (x3.a.i), rg x3.b.r, I (x3.b.i), I 0, I 0, I 0, nilS, nilS, nilS], .bool true]) else (bif x3.k == 12 then Q (.tup [.agg [I (2), I (11), I (to), rg x3.a.r, I (x3.a.i), rg x3.b.r, I (x3.b.i), I 0, I 0, I 0, nilS, nilS, nilS], .bool true]) else (bif x3.k == 13 then Q (.tup [.agg [I (2), I (14), I (to), rg x3.b.r, I (x3.b.i), rg x3.a.r, I (x3.a.i), I 0, I 0, I 0, nilS, nilS, nilS], .bool true]) else Q (.tup [.agg [I (2), I (13), I (to), rg x3.b.r, I (x3.b.i), rg x3.a.r, I (x3.a.i), I 0, I 0, I 0, nilS, nilS, nilS], .bool true])))))) else (bif x.b.i != 0 then Q zeroV else (bif x.k != 11 then Q zeroV else Q zeroV)))))))) else (bif decide (x3.a.r ≥ 0) then (bif decide (x3.b.r ≥ 0) then (bif x3.k == 11 then Q zeroV else (bif x3.k == 12 then Q zeroV else (bif x3.k == 13 then Q zeroV else (bif x3.k == 14 then Q zeroV else Q zeroV)))) else (bif x3.k == 11 then Q zeroV else (bif x3.k == 12 then Q zeroV else (bif x3.k == 13 then Q zeroV else (bif x3.k == 14 then Q zeroV else Q zeroV))))) else (bif decide (x3.b.r ≥ 0) then (bif x3.k == 11 then Q zeroV else (bif x3.k == 12 then Q zeroV else (bif x3.k == 13 then Q zeroV else (bif x3.k == 14 then Q zeroV else Q zeroV)))) else (bif x3.k == 11 then Q zeroV else (bif x3.k == 12 then Q zeroV else (bif x3.k == 13 then Q zeroV else (bif x3.k == 14 then Q zeroV else Q zeroV)))))))) (Qof q 2 o4 x3 x4 u ne) := by kernel_rfl
theorem e16o2r3_f {o4 to : Int} {x x3 x4 : Pn.In} {u : Option Nat} {h : HS} (ht : Pn.t16 ⟨2, x3.k, x3.a, x3.b⟩ ⟨2, x.k, ⟨3, x.a.i⟩, x.b⟩ = false) (hbar : True) (hh : ∀ id o, (HR 2 o4 x3 x4 (outS u)).get id = some o → h.hp.get id = some o) : CallOk Tryz.prog W0 53 [.ptr 41 0, .agg (cI (I 2) (.rng 0 14 x.k) (I to) (rg (3)) (I x.a.i) (rg x.b.r) (I x.b.i))] h h (zeroV) := by
  refine reader (callH_ok (LP := pwT) (L := []) (m := 100) mixed 30) (by kernel_rfl) hbar (fun ne q hq => (te16o2r3 o4 to x x3 x4 u ne q).trans ?_) (HR_in _ _ _ _ _) rfl rfl hh
  have hq : Qof q 2 o4 x3 x4 u ne (zeroV) = true := hq
  generalize Qof q 2 o4 x3 x4 u ne = Q at hq ⊢
  simp only
  simp only [Pn.t16, Pn.sameY, Pn.compY, Pn.hasY, Pn.isC, Pn.amid, shL] at ht
  repeat' (first | exact hq | refine cond_i (fun _ => ?_) (fun _ => ?_))
  all_goals (exfalso; simp_all <;> omega)
theorem e16o2r3_t12 {o4 to : Int} {x x3 x4 : Pn.In} {u : Option Nat} {h : HS} (ht : Pn.t16 ⟨2, x3.k, x3.a, x3.b⟩ ⟨2, x.k, ⟨3, x.a.i⟩, x.b⟩ = true) (hk : x3.k = 12) (hbar : True) (hh : ∀ id o, (HR 2 o4 x3 x4 (outS u)).get id = some o → h.hp.get id = some o) : CallOk Tryz.prog W0 53 [.ptr 41 0, .agg (cI (I 2) (.rng 0 14 x.k) (I to) (rg (3)) (I x.a.i) (rg x.b.r) (I x.b.i))] h h (.tup [.agg [I (2), I (11), I (to), rg x3.a.r, I (x3.a.i), rg x3.b.r, I (x3.b.i), I 0, I 0, I 0, nilS, nilS, nilS], .bool true]) := by
  refine reader (callH_ok (LP := pwT) (L := []) (m := 100) mixed 30) (by kernel_rfl) hbar (fun ne q hq => (te16o2r3 o4 to x x3 x4 u ne q).trans ?_) (HR_in _ _ _ _ _) rfl rfl hh
  have hq : Qof q 2 o4 x3 x4 u ne (.tup [.agg [I (2), I (11), I (to), rg x3.a.r, I (x3.a.i), rg x3.b.r, I (x3.b.i), I 0, I 0, I 0, nilS, nilS, nilS], .bool true]) = true := hq
  generalize Qof q 2 o4 x3 x4 u ne = Q at hq ⊢
  simp only
  simp only [Pn.t16, Pn.sameY, Pn.compY, Pn.hasY, Pn.isC, Pn.amid, shL] at ht
  repeat' (first | exact hq | refine cond_i (fun _ => ?_) (fun _ => ?_))
  all_goals (exfalso; simp_all <;> omega)
theorem e16o2r3_t11 {o4 to : Int} {x x3 x4 : Pn.In} {u : Option Nat} {h : HS} (ht : Pn.t16 ⟨2, x3.k, x3.a, x3.b⟩ ⟨2, x.k, ⟨3, x.a.i⟩, x.b⟩ = true) (hk : x3.k = 11) (hbar : True) (hh : ∀ id o, (HR 2 o4 x3 x4 (outS u)).get id = some o → h.hp.get id = some o) : CallOk Tryz.prog W0 53 [.ptr 41 0, .agg (cI (I 2) (.rng 0 14 x.k) (I to) (rg (3)) (I x.a.i) (rg x.b.r) (I x.b.i))] h h (.tup [.agg [I (2), I (12), I (to), rg x3.a.r, I (x3.a.i), rg x3.b.r, I (x3.b.i), I 0, I 0, I 0, nilS, nilS, nilS], .bool true]) := by
  refine reader (callH_ok (LP := pwT) (L := []) (m := 100) mixed 30) (by kernel_rfl) hbar (fun ne q hq => (te16o2r3 o4 to x x3 x4 u ne q).trans ?_) (HR_in _ _ _ _ _) rfl rfl hh
  have hq : Qof q 2 o4 x3 x4 u ne (.tup [.agg [I (2), I (12), I (to), rg x3.a.r, I (x3.a.i), rg x3.b.r, I (x3.b.i), I 0, I 0, I 0, nilS, nilS, nilS], .bool true]) = true := hq
  generalize Qof q 2 o4 x3 x4 u ne = Q at hq ⊢
  simp only
  simp only [Pn.t16, Pn.sameY, Pn.compY, Pn.hasY, Pn.isC, Pn.amid, shL] at ht
  repeat' (first | exact hq | refine cond_i (fun _ => ?_) (fun _ => ?_))
  all_goals (exfalso; simp_all <;> omega)
theorem e16o2r3_t14 {o4 to : Int} {x x3 x4 : Pn.In} {u : Option Nat} {h : HS} (ht : Pn.t16 ⟨2, x3.k, x3.a, x3.b⟩ ⟨2, x.k, ⟨3, x.a.i⟩, x.b⟩ = true) (hk : x3.k = 14) (hbar : True) (hh : ∀ id o, (HR 2 o4 x3 x4 (outS u)).get id = some o → h.hp.get id = some o) : CallOk Tryz.prog W0 53 [.ptr 41 0, .agg (cI (I 2) (.rng 0 14 x.k) (I to) (rg (3)) (I x.a.i) (rg x.b.r) (I x.b.i))] h h (.tup [.agg [I (2), I (13), I (to), rg x3.b.r, I (x3.b.i), rg x3.a.r, I (x3.a.i), I 0, I 0, I 0, nilS, nilS, nilS], .bool true]) := by
  refine reader (callH_ok (LP := pwT) (L := []) (m := 100) mixed 30) (by kernel_rfl) hbar (fun ne q hq => (te16o2r3 o4 to x x3 x4 u ne q).trans ?_) (HR_in _ _ _ _ _) rfl rfl hh
  have hq : Qof q 2 o4 x3 x4 u ne (.tup [.agg [I (2), I (13), I (to), rg x3.b.r, I (x3.b.i), rg x3.a.r, I (x3.a.i), I 0, I 0, I 0, nilS, nilS, nilS], .bool true]) = true := hq
  generalize Qof q 2 o4 x3 x4 u ne = Q at hq ⊢
  simp only
  simp only [Pn.t16, Pn.sameY, Pn.compY, Pn.hasY, Pn.isC, Pn.amid, shL] at ht
  repeat' (first | exact hq | refine cond_i (fun _ => ?_) (fun _ => ?_))
  all_goals (exfalso; simp_all <;> omega)
theorem e16o2r3_t13 {o4 to : Int} {x x3 x4 : Pn.In} {u : Option Nat} {h : HS} (ht : Pn.t16 ⟨2, x3.k, x3.a, x3.b⟩ ⟨2, x.k, ⟨3, x.a.i⟩, x.b⟩ = true) (hk : x3.k = 13) (hbar : True) (hh : ∀ id o, (HR 2 o4 x3 x4 (outS u)).get id = some o → h.hp.get id = some o) : CallOk Tryz.prog W0 53 [.ptr 41 0, .agg (cI (I 2) (.rng 0 14 x.k) (I to) (rg (3)) (I x.a.i) (rg x.b.r) (I x.b.i))] h h (.tup [.agg [I (2), I (14), I (to), rg x3.b.r, I (x3.b.i), rg x3.a.r, I (x3.a.i), I 0, I 0, I 0, nilS, nilS, nilS], .bool true]) := by
  refine reader (callH_ok (LP := pwT) (L := []) (m := 100) mixed 30) (by kernel_rfl) hbar (fun ne q hq => (te16o2r3 o4 to x x3 x4 u ne q).trans ?_) (HR_in _ _ _ _ _) rfl rfl hh
  have hq : Qof q 2 o4 x3 x4 u ne (.tup [.agg [I (2), I (14), I (to), rg x3.b.r, I (x3.b.i), rg x3.a.r, I (x3.a.i), I 0, I 0, I 0, nilS, nilS, nilS], .bool true]) = true := hq
  generalize Qof q 2 o4 x3 x4 u ne = Q at hq ⊢
  simp only
  simp only [Pn.t16, Pn.sameY, Pn.compY, Pn.hasY, Pn.isC, Pn.amid, shL] at ht
  repeat' (first | exact hq | refine cond_i (fun _ => ?_) (fun _ => ?_))
  all_goals (exfalso; simp_all <;> omega)
theorem te16o1rm (o4 to : Int) (x x3 x4 : Pn.In) (u : Option Nat) (ne : Nat) (q : SV → List (Option SO) → Bool → Nat → Bool) : fnRunJ Tryz.prog 53 100 (cP W0) [.ptr 41 0, .agg (cI (I 2) (.rng 0 14 x.k) (I to) (rg (-1)) (I x.a.i) (rg x.b.r) (I x.b.i))] ⟨HR 1 o4 x3 x4 (outS u), 60, ne, 60⟩ (seen q) = (fun Q : SV → Bool => (bif decide (x.b.r < 0) then (bif x.b.i != 0 then Q zeroV else (bif x.k != 11 then Q zeroV else Q zeroV)) else Q zeroV)) (Qof q 1 o4 x3 x4 u ne) := by kernel_rfl
theorem e16o1rm {o4 to : Int} {x x3 x4 : Pn.In} {u : Option Nat} {h : HS} (hbar : True) (hh : ∀ id o, (HR 1 o4 x3 x4 (outS u)).get id = some o → h.hp.get id = some o) : CallOk Tryz.prog W0 53 [.ptr 41 0, .agg (cI (I 2) (.rng 0 14 x.k) (I to) (rg (-1)) (I x.a.i) (rg x.b.r) (I x.b.i))] h h (zeroV) := by
  refine reader (callH_ok (LP := pwT) (L := []) (m := 100) mixed 30) (by kernel_rfl) hbar (fun ne q hq => (te16o1rm o4 to x x3 x4 u ne q).trans ?_) (HR_in _ _ _ _ _) rfl rfl hh
  have hq : Qof q 1 o4 x3 x4 u ne (zeroV) = true := hq
  generalize Qof q 1 o4 x3 x4 u ne = Q at hq ⊢
  simp only
  repeat' (first | exact hq | refine cond_i (fun _ => ?_) (fun _ => ?_))
theorem te16o1r0 (o4 to : Int) (x x3 x4 : Pn.In) (u : Option Nat) (ne : Nat) (q : SV → List (Option SO) → Bool → Nat → Bool) : fnRunJ Tryz.prog 53 100 (cP W0) [.ptr 41 0, .agg (cI (I 2) (.rng 0 14 x.k) (I to) (rg (0)) (I x.a.i) (rg x.b.r) (I x.b.i))] ⟨HR 1 o4 x3 x4 (outS u), 60, ne, 60⟩ (seen q) = (fun Q : SV → Bool => (bif decide (x.b.r < 0) then (bif x.b.i != 0 then Q zeroV else (bif x.k != 11 then Q zeroV else Q zeroV)) else Q zeroV)) (Qof q 1 o4 x3 x4 u ne) := by kernel_rfl
theorem e16o1r0 {o4 to : Int} {x x3 x4 : Pn.In} {u : Option Nat} {h : HS} (hbar : True) (hh : ∀ id o, (HR 1 o4 x3 x4 (outS u)).get id = some o → h.hp.get id = some o) : CallOk Tryz.prog W0 53 [.ptr 41 0, .agg (cI (I 2) (.rng 0 14 x.k) (I to) (rg (0)) (I x.a.i) (rg x.b.r) (I x.b.i))] h h (zeroV) := by
  refine reader (callH_ok (LP := pwT) (L := []) (m := 100) mixed 30) (by kernel_rfl) hbar (fun ne q hq => (te16o1r0 o4 to x x3 x4 u ne q).trans ?_) (HR_in _ _ _ _ _) rfl rfl hh
  have hq : Qof q 1 o4 x3 x4 u ne (zeroV) = true := hq
  generalize Qof q 1 o4 x3 x4 u ne = Q at hq ⊢
  simp only
  repeat' (first | exact hq | refine cond_i (fun _ => ?_) (fun _ => ?_))
theorem te16o1r1 (o4 to : Int) (x x3 x4 : Pn.In) (u : Option Nat) (ne : Nat) (q : SV → List (Option SO) → Bool → Nat → Bool) : fnRunJ Tryz.prog 53 100 (cP W0) [.ptr 41 0, .agg (cI (I 2) (.rng 0 14 x.k) (I to) (rg (1)) (I x.a.i) (rg x.b.r) (I x.b.i))] ⟨HR 1 o4 x3 x4 (outS u), 60, ne, 60⟩ (seen q) = (fun Q : SV → Bool => (bif decide (x.b.r < 0) then (bif x.b.i != 0 then Q zeroV else (bif x.k != 11 then Q zeroV else Q zeroV)) else Q zeroV)) (Qof q 1 o4 x3 x4 u ne) := by kernel_rfl
theorem e16o1r1 {o4 to : Int} {x x3 x4 : Pn.In} {u : Option Nat} {h : HS} (hbar : True) (hh : ∀ id o, (HR 1 o4 x3 x4 (outS u)).get id = some o → h.hp.get id = some o) : CallOk Tryz.prog W0 53 [.ptr 41 0, .agg (cI (I 2) (.rng 0 14 x.k) (I to) (rg (1)) (I x.a.i) (rg x.b.r) (I x.b.i))] h h (zeroV) := by
  refine reader (callH_ok (LP := pwT) (L := []) (m := 100) mixed 30) (by kernel_rfl) hbar (fun ne q hq => (te16o1r1 o4 to x x3 x4 u ne q).trans ?_) (HR_in _ _ _ _ _) rfl rfl hh
  have hq : Qof q 1 o4 x3 x4 u ne (zeroV) = true := hq
  generalize Qof q 1 o4 x3 x4 u ne = Q at hq ⊢
  simp only
  repeat' (first | exact hq | refine cond_i (fun _ => ?_) (fun _ => ?_))
theorem te16o1r2 (o4 to : Int) (x x3 x4 : Pn.In) (u : Option Nat) (ne : Nat) (q : SV → List (Option SO) → Bool → Nat → Bool) : fnRunJ Tryz.prog 53 100 (cP W0) [.ptr 41 0, .agg (cI (I 2) (.rng 0 14 x.k) (I to) (rg (2)) (I x.a.i) (rg x.b.r) (I x.b.i))] ⟨HR 1 o4 x3 x4 (outS u), 60, ne, 60⟩ (seen q) = (fun Q : SV → Bool => (bif decide (x.b.r < 0) then (bif x.b.i != 0 then Q zeroV else (bif x.k != 11 then Q zeroV else Q zeroV)) else Q zeroV)) (Qof q 1 o4 x3 x4 u ne) := by kernel_rfl
theorem e16o1r2 {o4 to : Int} {x x3 x4 : Pn.In} {u : Option Nat} {h : HS} (hbar : True) (hh : ∀ id o, (HR 1 o4 x3 x4 (outS u)).get id = some o → h.hp.get id = some o) : CallOk Tryz.prog W0 53 [.ptr 41 0, .agg (cI (I 2) (.rng 0 14 x.k) (I to) (rg (2)) (I x.a.i) (rg x.b.r) (I x.b.i))] h h (zeroV) := by
  refine reader (callH_ok (LP := pwT) (L := []) (m := 100) mixed 30) (by kernel_rfl) hbar (fun ne q hq => (te16o1r2 o4 to x x3 x4 u ne q).trans ?_) (HR_in _ _ _ _ _) rfl rfl hh
  have hq : Qof q 1 o4 x3 x4 u ne (zeroV) = true := hq
  generalize Qof q 1 o4 x3 x4 u ne = Q at hq ⊢
  simp only
  repeat' (first | exact hq | refine cond_i (fun _ => ?_) (fun _ => ?_))
theorem te16o1r3 (o4 to : Int) (x x3 x4 : Pn.In) (u : Option Nat) (ne : Nat) (q : SV → List (Option SO) → Bool → Nat → Bool) : fnRunJ Tryz.prog 53 100 (cP W0) [.ptr 41 0, .agg (cI (I 2) (.rng 0 14 x.k) (I to) (rg (3)) (I x.a.i) (rg x.b.r) (I x.b.i))] ⟨HR 1 o4 x3 x4 (outS u), 60, ne, 60⟩ (seen q) = (fun Q : SV → Bool => (bif decide (x.b.r < 0) then (bif decide (x3.a.r ≥ 0) then (bif x.b.i != 0 then Q zeroV else (bif x.k != 11 then Q zeroV else Q zeroV)) else (bif x.b.i != 0 then Q zeroV else (bif x.k != 11 then Q zeroV else Q zeroV))) else (bif decide (x3.a.r ≥ 0) then Q zeroV else Q zeroV))) (Qof q 1 o4 x3 x4 u ne) := by kernel_rfl
theorem e16o1r3 {o4 to : Int} {x x3 x4 : Pn.In} {u : Option Nat} {h : HS} (hbar : True) (hh : ∀ id o, (HR 1 o4 x3 x4 (outS u)).get id = some o → h.hp.get id = some o) : CallOk Tryz.prog W0 53 [.ptr 41 0, .agg (cI (I 2) (.rng 0 14 x.k) (I to) (rg (3)) (I x.a.i) (rg x.b.r) (I x.b.i))] h h (zeroV) := by
  refine reader (callH_ok (LP := pwT) (L := []) (m := 100) mixed 30) (by kernel_rfl) hbar (fun ne q hq => (te16o1r3 o4 to x x3 x4 u ne q).trans ?_) (HR_in _ _ _ _ _) rfl rfl hh
  have hq : Qof q 1 o4 x3 x4 u ne (zeroV) = true := hq
  generalize Qof q 1 o4 x3 x4 u ne = Q at hq ⊢
  simp only
  repeat' (first | exact hq | refine cond_i (fun _ => ?_) (fun _ => ?_))
end Go.Proofs.YtgoccionghehoaaGreatDoor.Ev
namespace Go.Proofs.YtgoccionghehoaaGreatDoor.Ev
open Go Go.Proofs

variable {W0 : World} [GOk W0]
theorem andR_t (a : Bool) : andR a true = a := by cases a <;> rfl
theorem tr6 (o3 o4 to : Int) (x x3 x4 : Pn.In) (u : Option Nat) (ne : Nat) (q : SV → List (Option SO) → Bool → Nat → Bool) : fnRunJ Tryz.prog 43 100 (cP W0) [.ptr 41 0, .agg (enc 2 to x)] ⟨HR o3 o4 x3 x4 (outS u), 60, ne, 60⟩ (seen q) = (fun Q : SV → Bool => (bif decide (x.a.r < 0) then Q zeroV else (bif !(x.a.r == x.b.r && (x.a.i == x.b.i && true)) then Q zeroV else (bif x.k == 2 then Q (.tup [.agg [I (1), I (0), I (to), I (-1), I (0), I (0), I (0), I 0, I 0, I 0, nilS, nilS, nilS], .bool true]) else (bif x.k == 8 then Q (.tup [.agg [I (1), I (0), I (to), I (-1), I (0), I (0), I (0), I 0, I 0, I 0, nilS, nilS, nilS], .bool true]) else (bif x.k == 12 then Q (.tup [.agg [I (1), I (0), I (to), I (-1), I (0), I (0), I (0), I 0, I 0, I 0, nilS, nilS, nilS], .bool true]) else (bif x.k == 13 then Q (.tup [.agg [I (1), I (0), I (to), I (-1), I (0), I (0), I (0), I 0, I 0, I 0, nilS, nilS, nilS], .bool true]) else (bif x.k == 6 then Q (.tup [.agg [I (1), I (0), I (to), rg x.a.r, I (x.a.i), I (0), I (0), I 0, I 0, I 0, nilS, nilS, nilS], .bool true]) else (bif x.k == 7 then Q (.tup [.agg [I (1), I (0), I (to), rg x.a.r, I (x.a.i), I (0), I (0), I 0, I 0, I 0, nilS, nilS, nilS], .bool true]) else (bif x.k == 11 then Q (.tup [.agg [I (1), I (0), I (to), I (-1), I (1), I (0), I (0), I 0, I 0, I 0, nilS, nilS, nilS], .bool true]) else (bif x.k == 14 then Q (.tup [.agg [I (1), I (0), I (to), I (-1), I (1), I (0), I (0), I 0, I 0, I 0, nilS, nilS, nilS], .bool true]) else Q zeroV))))))))))) (Qof q o3 o4 x3 x4 u ne) := by kernel_rfl
theorem rule6_t0 {o3 o4 to : Int} {x x3 x4 : Pn.In} {u : Option Nat} {h : HS} (ht : Pn.t6 x = true) (hk : Pn.amid x.k [2, 8, 12, 13] = true) (hbar : True) (hh : ∀ id o, (HR o3 o4 x3 x4 (outS u)).get id = some o → h.hp.get id = some o) : CallOk Tryz.prog W0 43 [.ptr 41 0, .agg (enc 2 to x)] h h (.tup [.agg [I (1), I (0), I (to), I (-1), I (0), I (0), I (0), I 0, I 0, I 0, nilS, nilS, nilS], .bool true]) := by
  refine reader (callH_ok (LP := pwT) (L := []) (m := 100) mixed 30) (by kernel_rfl) hbar (fun ne q hq => (tr6 o3 o4 to x x3 x4 u ne q).trans ?_) (HR_in _ _ _ _ _) rfl rfl hh
  have hq : Qof q o3 o4 x3 x4 u ne (.tup [.agg [I (1), I (0), I (to), I (-1), I (0), I (0), I (0), I 0, I 0, I 0, nilS, nilS, nilS], .bool true]) = true := hq
  generalize Qof q o3 o4 x3 x4 u ne = Q at hq ⊢
  simp only
  simp only [Pn.t6, Pn.isC, Pn.amid, shE] at ht hk
  repeat' (first | exact hq | refine cond_i (fun _ => ?_) (fun _ => ?_))
  all_goals (exfalso; simp_all <;> omega)
theorem rule6_t1 {o3 o4 to : Int} {x x3 x4 : Pn.In} {u : Option Nat} {h : HS} (ht : Pn.t6 x = true) (hk : Pn.amid x.k [11, 14] = true) (hbar : True) (hh : ∀ id o, (HR o3 o4 x3 x4 (outS u)).get id = some o → h.hp.get id = some o) : CallOk Tryz.prog W0 43 [.ptr 41 0, .agg (enc 2 to x)] h h (.tup [.agg [I (1), I (0), I (to), I (-1), I (1), I (0), I (0), I 0, I 0, I 0, nilS, nilS, nilS], .bool true]) := by
  refine reader (callH_ok (LP := pwT) (L := []) (m := 100) mixed 30) (by kernel_rfl) hbar (fun ne q hq => (tr6 o3 o4 to x x3 x4 u ne q).trans ?_) (HR_in _ _ _ _ _) rfl rfl hh
  have hq : Qof q o3 o4 x3 x4 u ne (.tup [.agg [I (1), I (0), I (to), I (-1), I (1), I (0), I (0), I 0, I 0, I 0, nilS, nilS, nilS], .bool true]) = true := hq
  generalize Qof q o3 o4 x3 x4 u ne = Q at hq ⊢
  simp only
  simp only [Pn.t6, Pn.isC, Pn.amid, shE] at ht hk
  repeat' (first | exact hq | refine cond_i (fun _ => ?_) (fun _ => ?_))
  all_goals (exfalso; simp_all <;> omega)
theorem rule6_ta {o3 o4 to : Int} {x x3 x4 : Pn.In} {u : Option Nat} {h : HS} (ht : Pn.t6 x = true) (hk : Pn.amid x.k [6, 7] = true) (hbar : True) (hh : ∀ id o, (HR o3 o4 x3 x4 (outS u)).get id = some o → h.hp.get id = some o) : CallOk Tryz.prog W0 43 [.ptr 41 0, .agg (enc 2 to x)] h h (.tup [.agg [I (1), I (0), I (to), rg x.a.r, I (x.a.i), I (0), I (0), I 0, I 0, I 0, nilS, nilS, nilS], .bool true]) := by
  refine reader (callH_ok (LP := pwT) (L := []) (m := 100) mixed 30) (by kernel_rfl) hbar (fun ne q hq => (tr6 o3 o4 to x x3 x4 u ne q).trans ?_) (HR_in _ _ _ _ _) rfl rfl hh
  have hq : Qof q o3 o4 x3 x4 u ne (.tup [.agg [I (1), I (0), I (to), rg x.a.r, I (x.a.i), I (0), I (0), I 0, I 0, I 0, nilS, nilS, nilS], .bool true]) = true := hq
  generalize Qof q o3 o4 x3 x4 u ne = Q at hq ⊢
  simp only
  simp only [Pn.t6, Pn.isC, Pn.amid, shE] at ht hk
  repeat' (first | exact hq | refine cond_i (fun _ => ?_) (fun _ => ?_))
  all_goals (exfalso; simp_all <;> omega)
theorem rule6_f {o3 o4 to : Int} {x x3 x4 : Pn.In} {u : Option Nat} {h : HS} (ht : Pn.t6 x = false) (hbar : True) (hh : ∀ id o, (HR o3 o4 x3 x4 (outS u)).get id = some o → h.hp.get id = some o) : CallOk Tryz.prog W0 43 [.ptr 41 0, .agg (enc 2 to x)] h h (zeroV) := by
  refine reader (callH_ok (LP := pwT) (L := []) (m := 100) mixed 30) (by kernel_rfl) hbar (fun ne q hq => (tr6 o3 o4 to x x3 x4 u ne q).trans ?_) (HR_in _ _ _ _ _) rfl rfl hh
  have hq : Qof q o3 o4 x3 x4 u ne (zeroV) = true := hq
  generalize Qof q o3 o4 x3 x4 u ne = Q at hq ⊢
  simp only
  simp only [Pn.t6, Pn.isC, Pn.amid, shE] at ht
  repeat' (first | exact hq | refine cond_i (fun _ => ?_) (fun _ => ?_))
  all_goals (exfalso; simp_all <;> omega)
theorem tr8 (o3 o4 to : Int) (x x3 x4 : Pn.In) (u : Option Nat) (ne : Nat) (q : SV → List (Option SO) → Bool → Nat → Bool) : fnRunJ Tryz.prog 45 100 (cP W0) [.ptr 41 0, .agg (enc 2 to x)] ⟨HR o3 o4 x3 x4 (outS u), 60, ne, 60⟩ (seen q) = (fun Q : SV → Bool => (bif decide (x.b.r < 0) then (bif x.k == 3 then andR (bif decide (Pn.pow x.b.i > 0) then andR (Q (.tup [.agg [I (2), I (9), I (to), rg x.a.r, I (x.a.i), I (-1), I (Pn.pow x.b.i), I 0, I 0, I 0, nilS, nilS, nilS], .bool true])) (grdA Tryz.prog W0 94 [I x.b.i] (I (Pn.pow x.b.i))) else Q zeroV) (grdA Tryz.prog W0 94 [I x.b.i] (I (Pn.pow x.b.i))) else Q zeroV) else Q zeroV)) (Qof q o3 o4 x3 x4 u ne) := by kernel_rfl
theorem tr17 (o3 o4 to : Int) (x x3 x4 : Pn.In) (u : Option Nat) (ne : Nat) (q : SV → List (Option SO) → Bool → Nat → Bool) : fnRunJ Tryz.prog 54 100 (cP W0) [.ptr 41 0, .agg (enc 2 to x)] ⟨HR o3 o4 x3 x4 (outS u), 60, ne, 60⟩ (seen q) = (fun Q : SV → Bool => (bif decide (x.b.r < 0) then (bif x.k == 4 then andR (bif decide (Pn.pow x.b.i > 0) then Q zeroV else Q zeroV) (grdA Tryz.prog W0 94 [I x.b.i] (I (Pn.pow x.b.i))) else Q zeroV) else Q zeroV)) (Qof q o3 o4 x3 x4 u ne) := by kernel_rfl
theorem rule8_t {o3 o4 to : Int} {x x3 x4 : Pn.In} {u : Option Nat} {h : HS} (hR : Pn.R x.b.i) (ht : Pn.t8 x = true) (hbar : True) (hh : ∀ id o, (HR o3 o4 x3 x4 (outS u)).get id = some o → h.hp.get id = some o) : CallOk Tryz.prog W0 45 [.ptr 41 0, .agg (enc 2 to x)] h h (.tup [.agg [I (2), I (9), I (to), rg x.a.r, I (x.a.i), I (-1), I (Pn.pow x.b.i), I 0, I 0, I 0, nilS, nilS, nilS], .bool true]) := by
  refine reader (callH_ok (LP := pwT) (L := []) (m := 100) mixed 30) (by kernel_rfl) hbar (fun ne q hq => (tr8 o3 o4 to x x3 x4 u ne q).trans ?_) (HR_in _ _ _ _ _) rfl rfl hh
  have hq : Qof q o3 o4 x3 x4 u ne (.tup [.agg [I (2), I (9), I (to), rg x.a.r, I (x.a.i), I (-1), I (Pn.pow x.b.i), I 0, I 0, I 0, nilS, nilS, nilS], .bool true]) = true := hq
  generalize Qof q o3 o4 x3 x4 u ne = Q at hq ⊢
  simp only
  have hG : grdA Tryz.prog W0 94 [I x.b.i] (I (Pn.pow x.b.i)) = true := grdA_of fun h => power_ok hR h
  simp only [hG, andR_t]
  simp only [Pn.t8, Pn.isC, Pn.amid, shE] at ht
  repeat' (first | exact hq | refine cond_i (fun _ => ?_) (fun _ => ?_))
  all_goals (exfalso; simp_all <;> omega)
theorem rule8_f {o3 o4 to : Int} {x x3 x4 : Pn.In} {u : Option Nat} {h : HS} (hR : Pn.R x.b.i) (ht : Pn.t8 x = false) (hbar : True) (hh : ∀ id o, (HR o3 o4 x3 x4 (outS u)).get id = some o → h.hp.get id = some o) : CallOk Tryz.prog W0 45 [.ptr 41 0, .agg (enc 2 to x)] h h (zeroV) := by
  refine reader (callH_ok (LP := pwT) (L := []) (m := 100) mixed 30) (by kernel_rfl) hbar (fun ne q hq => (tr8 o3 o4 to x x3 x4 u ne q).trans ?_) (HR_in _ _ _ _ _) rfl rfl hh
  have hq : Qof q o3 o4 x3 x4 u ne (zeroV) = true := hq
  generalize Qof q o3 o4 x3 x4 u ne = Q at hq ⊢
  simp only
  have hG : grdA Tryz.prog W0 94 [I x.b.i] (I (Pn.pow x.b.i)) = true := grdA_of fun h => power_ok hR h
  simp only [hG, andR_t]
  simp only [Pn.t8, Pn.isC, Pn.amid, shE] at ht
  repeat' (first | exact hq | refine cond_i (fun _ => ?_) (fun _ => ?_))
  all_goals (exfalso; simp_all <;> omega)
theorem rule17 {o3 o4 to : Int} {x x3 x4 : Pn.In} {u : Option Nat} {h : HS} (hR : Pn.R x.b.i) (hbar : True) (hh : ∀ id o, (HR o3 o4 x3 x4 (outS u)).get id = some o → h.hp.get id = some o) : CallOk Tryz.prog W0 54 [.ptr 41 0, .agg (enc 2 to x)] h h (zeroV) := by
  refine reader (callH_ok (LP := pwT) (L := []) (m := 100) mixed 30) (by kernel_rfl) hbar (fun ne q hq => (tr17 o3 o4 to x x3 x4 u ne q).trans ?_) (HR_in _ _ _ _ _) rfl rfl hh
  have hq : Qof q o3 o4 x3 x4 u ne (zeroV) = true := hq
  generalize Qof q o3 o4 x3 x4 u ne = Q at hq ⊢
  simp only
  have hG : grdA Tryz.prog W0 94 [I x.b.i] (I (Pn.pow x.b.i)) = true := grdA_of fun h => power_ok hR h
  simp only [hG, andR_t]
  repeat' (first | exact hq | refine cond_i (fun _ => ?_) (fun _ => ?_))
end Go.Proofs.YtgoccionghehoaaGreatDoor.Ev
