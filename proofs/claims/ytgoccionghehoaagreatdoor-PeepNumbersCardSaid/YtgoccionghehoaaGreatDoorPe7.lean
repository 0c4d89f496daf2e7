/- Both modules' runs agree. -/
import Derived.Test.YtgoccionghehoaaGreatDoorPe6
import Derived.Test.YtgoccionghehoaaGreatDoorPe5
set_option linter.unusedSimpArgs false
set_option linter.unusedVariables false
set_option linter.unusedSectionVars false
namespace Go.Proofs.YtgoccionghehoaaGreatDoor.Ev
open Go Go.Proofs

variable {W0 : World} [GOk W0]
noncomputable def enc2 (to : Int) (x : Pn.In) : List SV := cI (I 2) (knd x.k) (I to) (rg x.a.r) (I x.a.i) (rg x.b.r) (I x.b.i)
noncomputable def enc1 (to : Int) (x : Pn.In) : List SV := cI (I 1) (I 0) (I to) (rg x.a.r) (I x.a.i) (I 0) (I 0)
noncomputable def codeG (c3 c4 : List SV) : Option SO := rowO 13 (gI 0 ++ (gI 1 ++ (gI 2 ++ (c3 ++ (c4 ++ pI)))))
noncomputable def cellsG (A B C : Int) : Option SO := rowO 2 [str [97], I A, str [98], I B, str [99], I C]
noncomputable def HG (A B C : Int) (c3 c4 d3 d4 : List SV) : Tr SO := (((((((Tr.e.put 1 (rowO 0 [.slr 26 0 6 0, I 3, I 0, I 0, I 0, I 0])).put 17 (cellsG A B C)).put 26 (codeG c3 c4)).put 27 (rowO 0 [str [102], I 0, I 5, .bool false, nilS, .sl 1 0 1 1])).put 45 (cellsG A B C)).put 44 (codeG d3 d4)).put 43 (rowO 6 [.slr 44 0 6 0, I 3, I 0, I 0, I 0, I 0])).put 42 (rowO 6 [str [102], I 0, I 5, .bool false, nilS, .slr 43 0 1 0])
noncomputable def A8 : List SV := [.agg [.slr 17 0 3 0, nilS, .sl 27 0 1 1, I 0], .agg [.slr 45 0 3 0, nilS, .slr 42 0 1 0, I 0], I 50]

def okO (o : Pn.Op) : Bool := decide (o.r < 0) || o.i == 0
def vL (l : List Int) (o : Pn.Op) : Int := bif decide (o.r < 0) then o.i else rhoL l o.r
section
variable (A B C : Int) (x y : Pn.In) (kT : Bool) (kV : Int → Bool) (kE : Bool)
def b1v : Option Int := Pn.bin x.k (vL [A, B, C, 0, 0] x.a) (vL [A, B, C, 0, 0] x.b)
def b2v (v : Int) : Option Int := Pn.bin y.k (vL [A, B, C, v, 0] y.a) (vL [A, B, C, v, 0] y.b)
def N11 : Bool := bif okO x.a then bif okO y.a then (bif false then kT else kV (vL [A, B, C, vL [A, B, C, 0, 0] x.a, 0] y.a)) else kE else kE
def N12 : Bool := bif okO x.a then bif okO y.a then bif okO y.b then (bif (b2v A B C y (vL [A, B, C, 0, 0] x.a)).isNone then kT else kV ((b2v A B C y (vL [A, B, C, 0, 0] x.a)).getD 0)) else kE else kE else kE
def N21 : Bool := bif okO x.a then bif okO x.b then bif okO y.a then (bif (b1v A B C x).isNone then kT else kV (vL [A, B, C, (b1v A B C x).getD 0, 0] y.a)) else kE else kE else kE
def N22 : Bool := bif okO x.a then bif okO x.b then bif okO y.a then bif okO y.b then (bif (b1v A B C x).isNone then kT else bif (b2v A B C y ((b1v A B C x).getD 0)).isNone then kT else kV ((b2v A B C y ((b1v A B C x).getD 0)).getD 0)) else kE else kE else kE else kE
end
noncomputable abbrev cA : CallK := callM Tryz.prog agT 100 40
theorem cA_ok : CallSound Tryz.prog W0 cA := callM_ok agT_ok mixed 40
theorem trA11 (A B C : Int) (x y x2 y2 : Pn.In) (q : SV → List (Option SO) → Bool → Nat → Bool) : fnRunJ Tryz.prog 8 100 cA A8 ⟨HG A B C (enc2 3 x) (enc2 4 y) (enc1 3 x2) (enc1 4 y2), 60, 0, 0⟩ (fun s h' => q s (([] : List Nat).map h'.hp.get) (Nat.ble h'.nx 400) h'.ne) =
    (fun E : Bool → Bool => N22 A B C x y (N11 A B C x2 y2 (E true) (fun _ => E false) (E false)) (fun v => N11 A B C x2 y2 (E false) (fun w => bif !(eqI v w) then E false else E true) (E false)) (N11 A B C x2 y2 (E false) (fun _ => E false) (E false))) (fun b => q (.bool b) [] true 0) := by kernel_rfl
theorem trA12 (A B C : Int) (x y x2 y2 : Pn.In) (q : SV → List (Option SO) → Bool → Nat → Bool) : fnRunJ Tryz.prog 8 100 cA A8 ⟨HG A B C (enc2 3 x) (enc2 4 y) (enc1 3 x2) (enc2 4 y2), 60, 0, 0⟩ (fun s h' => q s (([] : List Nat).map h'.hp.get) (Nat.ble h'.nx 400) h'.ne) =
    (fun E : Bool → Bool => N22 A B C x y (N12 A B C x2 y2 (E true) (fun _ => E false) (E false)) (fun v => N12 A B C x2 y2 (E false) (fun w => bif !(eqI v w) then E false else E true) (E false)) (N12 A B C x2 y2 (E false) (fun _ => E false) (E false))) (fun b => q (.bool b) [] true 0) := by kernel_rfl
theorem trA21 (A B C : Int) (x y x2 y2 : Pn.In) (q : SV → List (Option SO) → Bool → Nat → Bool) : fnRunJ Tryz.prog 8 100 cA A8 ⟨HG A B C (enc2 3 x) (enc2 4 y) (enc2 3 x2) (enc1 4 y2), 60, 0, 0⟩ (fun s h' => q s (([] : List Nat).map h'.hp.get) (Nat.ble h'.nx 400) h'.ne) =
    (fun E : Bool → Bool => N22 A B C x y (N21 A B C x2 y2 (E true) (fun _ => E false) (E false)) (fun v => N21 A B C x2 y2 (E false) (fun w => bif !(eqI v w) then E false else E true) (E false)) (N21 A B C x2 y2 (E false) (fun _ => E false) (E false))) (fun b => q (.bool b) [] true 0) := by kernel_rfl
theorem trA22 (A B C : Int) (x y x2 y2 : Pn.In) (q : SV → List (Option SO) → Bool → Nat → Bool) : fnRunJ Tryz.prog 8 100 cA A8 ⟨HG A B C (enc2 3 x) (enc2 4 y) (enc2 3 x2) (enc2 4 y2), 60, 0, 0⟩ (fun s h' => q s (([] : List Nat).map h'.hp.get) (Nat.ble h'.nx 400) h'.ne) =
    (fun E : Bool → Bool => N22 A B C x y (N22 A B C x2 y2 (E true) (fun _ => E false) (E false)) (fun v => N22 A B C x2 y2 (E false) (fun w => bif !(eqI v w) then E false else E true) (E false)) (N22 A B C x2 y2 (E false) (fun _ => E false) (E false))) (fun b => q (.bool b) [] true 0) := by kernel_rfl
end Go.Proofs.YtgoccionghehoaaGreatDoor.Ev
