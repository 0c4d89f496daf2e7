/- The loops' heap, and the calls in it that leave the objects as they are. The operation of which an operand is the result. Powers of two: the function power. The rules that look at the operation alone. -/
import Derived.Test.YtgoccionghehoaaGreatDoorEv5
import Derived.Test.YtgoccionghehoaaGreatDoorPn1
import Derived.Test.YtgoccionghehoaaGreatDoorProg
import Derived.KernelRfl
set_option linter.unusedSimpArgs false
set_option linter.unusedVariables false
set_option linter.unusedSectionVars false
namespace Go.Proofs.YtgoccionghehoaaGreatDoor.Ev
open Go Go.Proofs

def debs : List Int := [0, 1, 56, 2, 57, 49, 28, 3, 61, 58, 42, 50, 38, 29, 17, 4, 62, 47, 59, 36, 45, 43, 51, 22, 53, 39, 33, 30, 24, 18, 12, 5, 63, 55, 48, 27, 60, 41, 37, 16, 46, 35, 44, 21, 52, 32, 23, 11, 54, 26, 40, 15, 34, 20, 31, 10, 25, 14, 19, 9, 13, 8, 7, 6]
@[instance_reducible] noncomputable def G0 : GTab := ⟨fun b o => bif Nat.beq b 0 then (debs[o]?).map fun z => Value.int .u8 z else none, fun _ _ => False, fun g => !(Nat.beq g 6)⟩
noncomputable instance : GTab := G0
theorem mixed : Tryz.prog.follows .mixedOrders = true := by kernel_rfl
noncomputable def I (n : Int) : SV := .int .i64 n
noncomputable def nilS : SV := .lit (.slice none 0 0)
noncomputable def nilP : SV := .lit (.pointer none)
noncomputable def str (l : List UInt8) : SV := .lit (.string ⟨⟨l⟩⟩)
noncomputable def knd (k : Int) : SV := .rng 1 14 k
noncomputable def rg (k : Int) : SV := .rng (-1) 3 k
noncomputable def gI (i : Int) : List SV := [I 6, I 0, I i, I 0, I 0, I 0, I 0, I 0, I i, I 0, nilS, nilS, nilS]
noncomputable def cI (op k to ra ia rb ib : SV) : List SV := [op, k, to, ra, ia, rb, ib, I 0, I 0, I 0, nilS, nilS, nilS]
noncomputable def pI : List SV := [I 8, I 0, I (-1), I 4, I 0, I 0, I 0, I 0, I 0, I 0, nilS, nilS, nilS]
noncomputable def rowO (sz : Nat) (l : List SV) : Option SO := some (.row l.length sz (trOf l 0 .e))
noncomputable def tab : List SV := [I 1, .fn (.func 38) [] [], I 2, .fn (.func 39) [] [], I 3, .fn (.func 40) [] [], I 4, .fn (.func 41) [] [], I 5, .fn (.func 42) [] [], I 6, .fn (.func 43) [] [], I 7, .fn (.func 44) [] [], I 8, .fn (.func 45) [] [], I 9, .fn (.func 46) [] [], I 10, .fn (.func 47) [] [], I 11, .fn (.func 48) [] [], I 12, .fn (.func 49) [] [], I 13, .fn (.func 50) [] [], I 14, .fn (.func 51) [] [], I 15, .fn (.func 52) [] [], I 16, .fn (.func 53) [] [], I 17, .fn (.func 54) [] []]
/-- The number. -/
def numI : SV → Int
  | .int _ n => n
  | .rng _ _ n => n
  | _ => 0
/-- An operation's cells. -/
noncomputable def enc (op : Int) (to : Int) (x : Pn.In) : List SV := cI (I op) (.rng 0 14 x.k) (I to) (rg x.a.r) (I x.a.i) (rg x.b.r) (I x.b.i)
/-- The objects that are read: p 1, f 2, blocks 3, code 4, table 6, p's box 7. -/
noncomputable def HR (o3 o4 : Int) (x3 x4 : Pn.In) (out : SV) : Tr SO :=
  (((((Tr.e.put 41 (rowO 0 [.ptr 42 0, I 0, I (-1), nilS, .fn (.func 14) [] [.ptr 47 0], .sl 46 0 17 17, out, .bool false])).put 42 (rowO 6 [str [102], I 0, I 5, .bool false, nilS, .slr 43 0 1 0])).put 43 (rowO 6 [.slr 44 0 6 0, I 3, I 0, I 0, I 0, I 0])).put 44 (rowO 13 (gI 0 ++ (gI 1 ++ (gI 2 ++ (enc o3 3 x3 ++ (enc o4 4 x4 ++ pI))))))).put 46 (rowO 0 tab)).put 47 (rowO 0 [.ptr 41 0])
def ids : List Nat := [41, 42, 43, 44, 46, 47]
theorem HR_ids {o3 o4 : Int} {x3 x4 : Pn.In} {out : SV} {id : Nat} {o : SO} (h : (HR o3 o4 x3 x4 out).get id = some o) : id ∈ ids := by
  unfold HR at h
  simp only [Tr.get_put] at h
  simp only [ids, List.mem_cons, List.not_mem_nil, or_false]
  repeat' (split at h)
  all_goals first | omega | (rw [Tr.get_e] at h; cases h)
/-- The applications so far: none, or n + 1. -/
noncomputable def outS : Option Nat → SV
  | none => nilS
  | some n => .sla 51 n
theorem HR_in (o3 o4 : Int) (x3 x4 : Pn.In) (u : Option Nat) : trAll (soIn 60) (HR o3 o4 x3 x4 (outS u)) = true := by
  cases u with
  | none => kernel_rfl
  | some n => kernel_rfl
/-- A call that is seen to leave the objects that are read. -/
theorem reader {W0 : World} [GOk W0] {f : FuncId} {call : CallK} (hc : CallSound Tryz.prog W0 call) {l : List SV} {sv : SV} {o3 o4 : Int} {x3 x4 : Pn.In} {out : SV} {h : HS} (hb : hasBody Tryz.prog f = true) (hbar : True)
    (H : ∀ (ne : Nat) (q : SV → List (Option SO) → Bool → Nat → Bool), q sv (ids.map (HR o3 o4 x3 x4 out).get) true ne = true → fnRunJ Tryz.prog f 100 call l ⟨HR o3 o4 x3 x4 out, 60, ne, 60⟩ (fun s h' => q s (ids.map h'.hp.get) (Nat.ble h'.nx 1000) h'.ne) = true)
    (hcl : trAll (soIn 60) (HR o3 o4 x3 x4 out) = true) (hl : svsIn 60 l = true) (hs : svIn 60 sv = true) (hh : ∀ id o, (HR o3 o4 x3 x4 out).get id = some o → h.hp.get id = some o) : CallOk Tryz.prog W0 f l h h sv := by
  have hm0 : ∀ id o, (HR o3 o4 x3 x4 out).get id = some o → 41 ≤ id ∧ id < 60 := fun id o e => by
    have hm := HR_ids e
    simp only [ids, List.mem_cons, List.not_mem_nil, or_false] at hm
    omega
  refine pure_frame (hp := HR o3 o4 x3 x4 out) (n := 60) (n1 := 1000) (fun ne => ?_) hcl (fun id o e => ?_) hl hs hh
  · classical
    obtain ⟨sv', h', k1, g, c⟩ := fnRunJ_ok (W0 := W0) hc mixed hb (H ne (fun s o b a => decide (s = sv ∧ o = ids.map (HR o3 o4 x3 x4 out).get ∧ b = true ∧ a = ne)) (by simp))
    obtain ⟨rfl, e1, e2, e3⟩ := of_decide_eq_true k1
    have e2 := Nat.le_of_ble_eq_true e2
    have gn : 60 ≤ h'.nx := g.nx
    have c2 := c.less (h'' := ⟨HR o3 o4 x3 x4 out, 1000, h'.ne, h'.bar⟩) (fun id o e => by
      have hm := HR_ids e
      have : h'.hp.get id = (HR o3 o4 x3 x4 out).get id := by
        have := List.map_inj_left.1 e1 id hm
        exact this
      rw [this]; exact e) e2 (Nat.le_refl _) gn (by rw [e3]; exact Nat.le_refl _)
    rw [e3, g.bar] at c2
    exact c2
  · have hm := HR_ids e
    simp only [ids, List.mem_cons, List.not_mem_nil, or_false] at hm
    omega
/-- What is looked at behind a call. -/
noncomputable def seen (q : SV → List (Option SO) → Bool → Nat → Bool) : SV → HS → Bool := fun s h' => q s (ids.map h'.hp.get) (Nat.ble h'.nx 1000) h'.ne
noncomputable def Qof (q : SV → List (Option SO) → Bool → Nat → Bool) (o3 o4 : Int) (x3 x4 : Pn.In) (u : Option Nat) (ne : Nat) : SV → Bool := fun s => q s (ids.map (HR o3 o4 x3 x4 (outS u)).get) true ne
noncomputable def zeroV : SV := .tup [.agg (cI (I 0) (I 0) (I 0) (I 0) (I 0) (I 0) (I 0)), .bool false]
noncomputable def someV (l : List SV) : SV := .tup [.agg l, .bool true]
theorem cond_i {c a b : Bool} (h1 : c = true → a = true) (h2 : c = false → b = true) : (bif c then a else b) = true := by
  cases c
  · exact h2 rfl
  · exact h1 rfl
noncomputable def pwT : PdT := [(94, fun l => I (Pn.pow (numI (l.headD nilS))))]
end Go.Proofs.YtgoccionghehoaaGreatDoor.Ev
namespace Go.Proofs.YtgoccionghehoaaGreatDoor.Ev
open Go Go.Proofs

variable {W0 : World} [GOk W0]
theorem val_rng {E : Env} {lo hi n : Int} {v : Value} (h : val E (.rng lo hi n) = some v) : lo ≤ n ∧ n ≤ hi := by
  simp only [val] at h
  split at h
  · assumption
  · cases h
theorem vals_cons {E : Env} {s : SV} {r : List SV} {v : List Value} (h : vals E (s :: r) = some v) : ∃ a b, val E s = some a ∧ vals E r = some b := by
  simp only [vals, Option.bind_eq_some_iff, Option.map_eq_some_iff] at h
  obtain ⟨a, ha, b, hb, _⟩ := h
  exact ⟨a, b, ha, hb⟩
theorem val_agg {E : Env} {l : List SV} {v : Value} (h : val E (.agg l) = some v) : ∃ b, vals E l = some b := by
  simp only [val, Option.map_eq_some_iff] at h
  obtain ⟨b, hb, _⟩ := h
  exact ⟨b, hb⟩
theorem rcases_r {r : Int} (h : -1 ≤ r ∧ r ≤ 3) : r = -1 ∨ r = 0 ∨ r = 1 ∨ r = 2 ∨ r = 3 := by omega
noncomputable abbrev cG (W0 : World) [GOk W0] (L : GdT) : CallK := callG Tryz.prog W0 L 100 30
/-- What the arguments alone say may be taken for granted. -/
theorem call_args {f : FuncId} {l : List SV} {h h' : HS} {sv : SV} {p : Prop} (hm : ∀ E vl, vals E l = some vl → p) (c : p → CallOk Tryz.prog W0 f l h h' sv) : CallOk Tryz.prog W0 f l h h' sv := fun E w vl rel fe hv => c (hm E vl hv) E w vl rel fe hv
theorem rng_args {E : Env} {r i : Int} {x : SV} {vl : List Value} (hv : vals E [.agg [rg r, I i], x] = some vl) : -1 ≤ r ∧ r ≤ 3 := by
  obtain ⟨a, b, h1, _⟩ := vals_cons hv
  obtain ⟨c, h1⟩ := val_agg h1
  obtain ⟨d, e, h1, _⟩ := vals_cons h1
  exact val_rng h1
theorem res1_m {o4 : Int} {x3 x4 : Pn.In} {u : Option Nat} {i : Int} {h : HS} (hbar : True) (hh : ∀ id o, (HR 1 o4 x3 x4 (outS u)).get id = some o → h.hp.get id = some o) : CallOk Tryz.prog W0 14 [.agg [rg (-1), I i], .ptr 47 0] h h (nilP) :=
  reader (callG_ok (L := []) mixed 30) (by kernel_rfl) hbar (fun ne q hq => (show fnRunJ Tryz.prog 14 100 (cG W0 []) [.agg [rg (-1), I i], .ptr 47 0] ⟨HR 1 o4 x3 x4 (outS u), 60, ne, 60⟩ (fun s h' => q s (ids.map h'.hp.get) (Nat.ble h'.nx 1000) h'.ne) = q (nilP) (ids.map (HR 1 o4 x3 x4 (outS u)).get) true ne by kernel_rfl).trans hq) (HR_in _ _ _ _ _) rfl rfl hh
theorem res1_0 {o4 : Int} {x3 x4 : Pn.In} {u : Option Nat} {i : Int} {h : HS} (hbar : True) (hh : ∀ id o, (HR 1 o4 x3 x4 (outS u)).get id = some o → h.hp.get id = some o) : CallOk Tryz.prog W0 14 [.agg [rg (0), I i], .ptr 47 0] h h (nilP) :=
  reader (callG_ok (L := []) mixed 30) (by kernel_rfl) hbar (fun ne q hq => (show fnRunJ Tryz.prog 14 100 (cG W0 []) [.agg [rg (0), I i], .ptr 47 0] ⟨HR 1 o4 x3 x4 (outS u), 60, ne, 60⟩ (fun s h' => q s (ids.map h'.hp.get) (Nat.ble h'.nx 1000) h'.ne) = q (nilP) (ids.map (HR 1 o4 x3 x4 (outS u)).get) true ne by kernel_rfl).trans hq) (HR_in _ _ _ _ _) rfl rfl hh
theorem res1_1 {o4 : Int} {x3 x4 : Pn.In} {u : Option Nat} {i : Int} {h : HS} (hbar : True) (hh : ∀ id o, (HR 1 o4 x3 x4 (outS u)).get id = some o → h.hp.get id = some o) : CallOk Tryz.prog W0 14 [.agg [rg (1), I i], .ptr 47 0] h h (nilP) :=
  reader (callG_ok (L := []) mixed 30) (by kernel_rfl) hbar (fun ne q hq => (show fnRunJ Tryz.prog 14 100 (cG W0 []) [.agg [rg (1), I i], .ptr 47 0] ⟨HR 1 o4 x3 x4 (outS u), 60, ne, 60⟩ (fun s h' => q s (ids.map h'.hp.get) (Nat.ble h'.nx 1000) h'.ne) = q (nilP) (ids.map (HR 1 o4 x3 x4 (outS u)).get) true ne by kernel_rfl).trans hq) (HR_in _ _ _ _ _) rfl rfl hh
theorem res1_2 {o4 : Int} {x3 x4 : Pn.In} {u : Option Nat} {i : Int} {h : HS} (hbar : True) (hh : ∀ id o, (HR 1 o4 x3 x4 (outS u)).get id = some o → h.hp.get id = some o) : CallOk Tryz.prog W0 14 [.agg [rg (2), I i], .ptr 47 0] h h (nilP) :=
  reader (callG_ok (L := []) mixed 30) (by kernel_rfl) hbar (fun ne q hq => (show fnRunJ Tryz.prog 14 100 (cG W0 []) [.agg [rg (2), I i], .ptr 47 0] ⟨HR 1 o4 x3 x4 (outS u), 60, ne, 60⟩ (fun s h' => q s (ids.map h'.hp.get) (Nat.ble h'.nx 1000) h'.ne) = q (nilP) (ids.map (HR 1 o4 x3 x4 (outS u)).get) true ne by kernel_rfl).trans hq) (HR_in _ _ _ _ _) rfl rfl hh
theorem res1_3 {o4 : Int} {x3 x4 : Pn.In} {u : Option Nat} {i : Int} {h : HS} (hbar : True) (hh : ∀ id o, (HR 1 o4 x3 x4 (outS u)).get id = some o → h.hp.get id = some o) : CallOk Tryz.prog W0 14 [.agg [rg (3), I i], .ptr 47 0] h h (nilP) :=
  reader (callG_ok (L := []) mixed 30) (by kernel_rfl) hbar (fun ne q hq => ((show fnRunJ Tryz.prog 14 100 (cG W0 []) [.agg [rg (3), I i], .ptr 47 0] ⟨HR 1 o4 x3 x4 (outS u), 60, ne, 60⟩ (fun s h' => q s (ids.map h'.hp.get) (Nat.ble h'.nx 1000) h'.ne) = (bif decide (x3.a.r ≥ 0) then q (nilP) (ids.map (HR 1 o4 x3 x4 (outS u)).get) true ne else q (nilP) (ids.map (HR 1 o4 x3 x4 (outS u)).get) true ne) by kernel_rfl).trans (by cases decide (x3.a.r ≥ 0) <;> rfl)).trans hq) (HR_in _ _ _ _ _) rfl rfl hh
theorem res2_m {o4 : Int} {x3 x4 : Pn.In} {u : Option Nat} {i : Int} {h : HS} (hbar : True) (hh : ∀ id o, (HR 2 o4 x3 x4 (outS u)).get id = some o → h.hp.get id = some o) : CallOk Tryz.prog W0 14 [.agg [rg (-1), I i], .ptr 47 0] h h (nilP) :=
  reader (callG_ok (L := []) mixed 30) (by kernel_rfl) hbar (fun ne q hq => (show fnRunJ Tryz.prog 14 100 (cG W0 []) [.agg [rg (-1), I i], .ptr 47 0] ⟨HR 2 o4 x3 x4 (outS u), 60, ne, 60⟩ (fun s h' => q s (ids.map h'.hp.get) (Nat.ble h'.nx 1000) h'.ne) = q (nilP) (ids.map (HR 2 o4 x3 x4 (outS u)).get) true ne by kernel_rfl).trans hq) (HR_in _ _ _ _ _) rfl rfl hh
theorem res2_0 {o4 : Int} {x3 x4 : Pn.In} {u : Option Nat} {i : Int} {h : HS} (hbar : True) (hh : ∀ id o, (HR 2 o4 x3 x4 (outS u)).get id = some o → h.hp.get id = some o) : CallOk Tryz.prog W0 14 [.agg [rg (0), I i], .ptr 47 0] h h (nilP) :=
  reader (callG_ok (L := []) mixed 30) (by kernel_rfl) hbar (fun ne q hq => (show fnRunJ Tryz.prog 14 100 (cG W0 []) [.agg [rg (0), I i], .ptr 47 0] ⟨HR 2 o4 x3 x4 (outS u), 60, ne, 60⟩ (fun s h' => q s (ids.map h'.hp.get) (Nat.ble h'.nx 1000) h'.ne) = q (nilP) (ids.map (HR 2 o4 x3 x4 (outS u)).get) true ne by kernel_rfl).trans hq) (HR_in _ _ _ _ _) rfl rfl hh
theorem res2_1 {o4 : Int} {x3 x4 : Pn.In} {u : Option Nat} {i : Int} {h : HS} (hbar : True) (hh : ∀ id o, (HR 2 o4 x3 x4 (outS u)).get id = some o → h.hp.get id = some o) : CallOk Tryz.prog W0 14 [.agg [rg (1), I i], .ptr 47 0] h h (nilP) :=
  reader (callG_ok (L := []) mixed 30) (by kernel_rfl) hbar (fun ne q hq => (show fnRunJ Tryz.prog 14 100 (cG W0 []) [.agg [rg (1), I i], .ptr 47 0] ⟨HR 2 o4 x3 x4 (outS u), 60, ne, 60⟩ (fun s h' => q s (ids.map h'.hp.get) (Nat.ble h'.nx 1000) h'.ne) = q (nilP) (ids.map (HR 2 o4 x3 x4 (outS u)).get) true ne by kernel_rfl).trans hq) (HR_in _ _ _ _ _) rfl rfl hh
theorem res2_2 {o4 : Int} {x3 x4 : Pn.In} {u : Option Nat} {i : Int} {h : HS} (hbar : True) (hh : ∀ id o, (HR 2 o4 x3 x4 (outS u)).get id = some o → h.hp.get id = some o) : CallOk Tryz.prog W0 14 [.agg [rg (2), I i], .ptr 47 0] h h (nilP) :=
  reader (callG_ok (L := []) mixed 30) (by kernel_rfl) hbar (fun ne q hq => (show fnRunJ Tryz.prog 14 100 (cG W0 []) [.agg [rg (2), I i], .ptr 47 0] ⟨HR 2 o4 x3 x4 (outS u), 60, ne, 60⟩ (fun s h' => q s (ids.map h'.hp.get) (Nat.ble h'.nx 1000) h'.ne) = q (nilP) (ids.map (HR 2 o4 x3 x4 (outS u)).get) true ne by kernel_rfl).trans hq) (HR_in _ _ _ _ _) rfl rfl hh
theorem res2_3 {o4 : Int} {x3 x4 : Pn.In} {u : Option Nat} {i : Int} {h : HS} (hbar : True) (hh : ∀ id o, (HR 2 o4 x3 x4 (outS u)).get id = some o → h.hp.get id = some o) : CallOk Tryz.prog W0 14 [.agg [rg (3), I i], .ptr 47 0] h h (.ptr 44 39) :=
  reader (callG_ok (L := []) mixed 30) (by kernel_rfl) hbar (fun ne q hq => ((show fnRunJ Tryz.prog 14 100 (cG W0 []) [.agg [rg (3), I i], .ptr 47 0] ⟨HR 2 o4 x3 x4 (outS u), 60, ne, 60⟩ (fun s h' => q s (ids.map h'.hp.get) (Nat.ble h'.nx 1000) h'.ne) = (bif decide (x3.a.r ≥ 0) then (bif decide (x3.b.r ≥ 0) then q (.ptr 44 39) (ids.map (HR 2 o4 x3 x4 (outS u)).get) true ne else q (.ptr 44 39) (ids.map (HR 2 o4 x3 x4 (outS u)).get) true ne) else (bif decide (x3.b.r ≥ 0) then q (.ptr 44 39) (ids.map (HR 2 o4 x3 x4 (outS u)).get) true ne else q (.ptr 44 39) (ids.map (HR 2 o4 x3 x4 (outS u)).get) true ne)) by kernel_rfl).trans (by cases decide (x3.a.r ≥ 0) <;> cases decide (x3.b.r ≥ 0) <;> rfl)).trans hq) (HR_in _ _ _ _ _) rfl rfl hh
theorem result1 {o4 : Int} {x3 x4 : Pn.In} {u : Option Nat} {r i : Int} {h : HS} (hbar : True) (hh : ∀ id o, (HR 1 o4 x3 x4 (outS u)).get id = some o → h.hp.get id = some o) : CallOk Tryz.prog W0 14 [.agg [rg r, I i], .ptr 47 0] h h (.lit (.pointer none)) := by
  refine call_args (fun E vl => rng_args) fun hr => ?_
  rcases rcases_r hr with rfl | rfl | rfl | rfl | rfl
  · exact res1_m hbar hh
  · exact res1_0 hbar hh
  · exact res1_1 hbar hh
  · exact res1_2 hbar hh
  · exact res1_3 hbar hh
theorem result2 {o4 : Int} {x3 x4 : Pn.In} {u : Option Nat} {r i : Int} {h : HS} (hbar : True) (hh : ∀ id o, (HR 2 o4 x3 x4 (outS u)).get id = some o → h.hp.get id = some o) : (r = 3 → CallOk Tryz.prog W0 14 [.agg [rg r, I i], .ptr 47 0] h h (.ptr 44 39)) ∧ (r ≠ 3 → CallOk Tryz.prog W0 14 [.agg [rg r, I i], .ptr 47 0] h h nilP) := by
  refine ⟨fun e => by subst e; exact res2_3 hbar hh, fun e => call_args (fun E vl => rng_args) fun hr => ?_⟩
  rcases rcases_r hr with rfl | rfl | rfl | rfl | rfl
  · exact res2_m hbar hh
  · exact res2_0 hbar hh
  · exact res2_1 hbar hh
  · exact res2_2 hbar hh
  · exact absurd rfl e
end Go.Proofs.YtgoccionghehoaaGreatDoor.Ev
namespace Go.Proofs.YtgoccionghehoaaGreatDoor.Ev
open Go Go.Proofs

variable {W0 : World} [GOk W0]
/-- A call that makes nothing and looks at nothing but its arguments. -/
theorem plain {f : FuncId} {call : CallK} (hc : CallSound Tryz.prog W0 call) {l : List SV} {sv : SV} (hb : hasBody Tryz.prog f = true) (hl : own0s l = true) (hs : own0 sv = true)
    (H : ∀ (ne : Nat) (q : SV → Nat → Nat → Bool), q sv ne 0 = true → fnRunJ Tryz.prog f 100 call l ⟨.e, 0, ne, 0⟩ (fun s h' => q s h'.ne h'.bar) = true) (h : HS) : CallOk Tryz.prog W0 f l h h sv :=
  call_pure hl hs (fun ne q hq => fnRunJ_ok hc mixed hb (H ne q hq)) h
theorem pw1 (h : HS) : CallOk Tryz.prog W0 94 [I 2] h h (I 1) :=
  plain (callG_ok (L := []) mixed 30) (by kernel_rfl) rfl rfl (fun ne q hq => (show fnRunJ Tryz.prog 94 100 (cG W0 []) [I 2] ⟨.e, 0, ne, 0⟩ (fun s h' => q s h'.ne h'.bar) = q (I 1) ne 0 by kernel_rfl).trans hq) h
theorem pw2 (h : HS) : CallOk Tryz.prog W0 94 [I 4] h h (I 2) :=
  plain (callG_ok (L := []) mixed 30) (by kernel_rfl) rfl rfl (fun ne q hq => (show fnRunJ Tryz.prog 94 100 (cG W0 []) [I 4] ⟨.e, 0, ne, 0⟩ (fun s h' => q s h'.ne h'.bar) = q (I 2) ne 0 by kernel_rfl).trans hq) h
theorem pw3 (h : HS) : CallOk Tryz.prog W0 94 [I 8] h h (I 3) :=
  plain (callG_ok (L := []) mixed 30) (by kernel_rfl) rfl rfl (fun ne q hq => (show fnRunJ Tryz.prog 94 100 (cG W0 []) [I 8] ⟨.e, 0, ne, 0⟩ (fun s h' => q s h'.ne h'.bar) = q (I 3) ne 0 by kernel_rfl).trans hq) h
theorem pw4 (h : HS) : CallOk Tryz.prog W0 94 [I 16] h h (I 4) :=
  plain (callG_ok (L := []) mixed 30) (by kernel_rfl) rfl rfl (fun ne q hq => (show fnRunJ Tryz.prog 94 100 (cG W0 []) [I 16] ⟨.e, 0, ne, 0⟩ (fun s h' => q s h'.ne h'.bar) = q (I 4) ne 0 by kernel_rfl).trans hq) h
theorem pw5 (h : HS) : CallOk Tryz.prog W0 94 [I 32] h h (I 5) :=
  plain (callG_ok (L := []) mixed 30) (by kernel_rfl) rfl rfl (fun ne q hq => (show fnRunJ Tryz.prog 94 100 (cG W0 []) [I 32] ⟨.e, 0, ne, 0⟩ (fun s h' => q s h'.ne h'.bar) = q (I 5) ne 0 by kernel_rfl).trans hq) h
theorem pw6 (h : HS) : CallOk Tryz.prog W0 94 [I 64] h h (I 6) :=
  plain (callG_ok (L := []) mixed 30) (by kernel_rfl) rfl rfl (fun ne q hq => (show fnRunJ Tryz.prog 94 100 (cG W0 []) [I 64] ⟨.e, 0, ne, 0⟩ (fun s h' => q s h'.ne h'.bar) = q (I 6) ne 0 by kernel_rfl).trans hq) h
theorem pw7 (h : HS) : CallOk Tryz.prog W0 94 [I 128] h h (I 7) :=
  plain (callG_ok (L := []) mixed 30) (by kernel_rfl) rfl rfl (fun ne q hq => (show fnRunJ Tryz.prog 94 100 (cG W0 []) [I 128] ⟨.e, 0, ne, 0⟩ (fun s h' => q s h'.ne h'.bar) = q (I 7) ne 0 by kernel_rfl).trans hq) h
theorem pw8 (h : HS) : CallOk Tryz.prog W0 94 [I 256] h h (I 8) :=
  plain (callG_ok (L := []) mixed 30) (by kernel_rfl) rfl rfl (fun ne q hq => (show fnRunJ Tryz.prog 94 100 (cG W0 []) [I 256] ⟨.e, 0, ne, 0⟩ (fun s h' => q s h'.ne h'.bar) = q (I 8) ne 0 by kernel_rfl).trans hq) h
theorem pw9 (h : HS) : CallOk Tryz.prog W0 94 [I 512] h h (I 9) :=
  plain (callG_ok (L := []) mixed 30) (by kernel_rfl) rfl rfl (fun ne q hq => (show fnRunJ Tryz.prog 94 100 (cG W0 []) [I 512] ⟨.e, 0, ne, 0⟩ (fun s h' => q s h'.ne h'.bar) = q (I 9) ne 0 by kernel_rfl).trans hq) h
theorem pw10 (h : HS) : CallOk Tryz.prog W0 94 [I 1024] h h (I 10) :=
  plain (callG_ok (L := []) mixed 30) (by kernel_rfl) rfl rfl (fun ne q hq => (show fnRunJ Tryz.prog 94 100 (cG W0 []) [I 1024] ⟨.e, 0, ne, 0⟩ (fun s h' => q s h'.ne h'.bar) = q (I 10) ne 0 by kernel_rfl).trans hq) h
theorem pw11 (h : HS) : CallOk Tryz.prog W0 94 [I 2048] h h (I 11) :=
  plain (callG_ok (L := []) mixed 30) (by kernel_rfl) rfl rfl (fun ne q hq => (show fnRunJ Tryz.prog 94 100 (cG W0 []) [I 2048] ⟨.e, 0, ne, 0⟩ (fun s h' => q s h'.ne h'.bar) = q (I 11) ne 0 by kernel_rfl).trans hq) h
theorem pw12 (h : HS) : CallOk Tryz.prog W0 94 [I 4096] h h (I 12) :=
  plain (callG_ok (L := []) mixed 30) (by kernel_rfl) rfl rfl (fun ne q hq => (show fnRunJ Tryz.prog 94 100 (cG W0 []) [I 4096] ⟨.e, 0, ne, 0⟩ (fun s h' => q s h'.ne h'.bar) = q (I 12) ne 0 by kernel_rfl).trans hq) h
theorem pw13 (h : HS) : CallOk Tryz.prog W0 94 [I 8192] h h (I 13) :=
  plain (callG_ok (L := []) mixed 30) (by kernel_rfl) rfl rfl (fun ne q hq => (show fnRunJ Tryz.prog 94 100 (cG W0 []) [I 8192] ⟨.e, 0, ne, 0⟩ (fun s h' => q s h'.ne h'.bar) = q (I 13) ne 0 by kernel_rfl).trans hq) h
theorem pw14 (h : HS) : CallOk Tryz.prog W0 94 [I 16384] h h (I 14) :=
  plain (callG_ok (L := []) mixed 30) (by kernel_rfl) rfl rfl (fun ne q hq => (show fnRunJ Tryz.prog 94 100 (cG W0 []) [I 16384] ⟨.e, 0, ne, 0⟩ (fun s h' => q s h'.ne h'.bar) = q (I 14) ne 0 by kernel_rfl).trans hq) h
theorem pw15 (h : HS) : CallOk Tryz.prog W0 94 [I 32768] h h (I 15) :=
  plain (callG_ok (L := []) mixed 30) (by kernel_rfl) rfl rfl (fun ne q hq => (show fnRunJ Tryz.prog 94 100 (cG W0 []) [I 32768] ⟨.e, 0, ne, 0⟩ (fun s h' => q s h'.ne h'.bar) = q (I 15) ne 0 by kernel_rfl).trans hq) h
theorem pw16 (h : HS) : CallOk Tryz.prog W0 94 [I 65536] h h (I 16) :=
  plain (callG_ok (L := []) mixed 30) (by kernel_rfl) rfl rfl (fun ne q hq => (show fnRunJ Tryz.prog 94 100 (cG W0 []) [I 65536] ⟨.e, 0, ne, 0⟩ (fun s h' => q s h'.ne h'.bar) = q (I 16) ne 0 by kernel_rfl).trans hq) h
theorem pw17 (h : HS) : CallOk Tryz.prog W0 94 [I 131072] h h (I 17) :=
  plain (callG_ok (L := []) mixed 30) (by kernel_rfl) rfl rfl (fun ne q hq => (show fnRunJ Tryz.prog 94 100 (cG W0 []) [I 131072] ⟨.e, 0, ne, 0⟩ (fun s h' => q s h'.ne h'.bar) = q (I 17) ne 0 by kernel_rfl).trans hq) h
theorem pw18 (h : HS) : CallOk Tryz.prog W0 94 [I 262144] h h (I 18) :=
  plain (callG_ok (L := []) mixed 30) (by kernel_rfl) rfl rfl (fun ne q hq => (show fnRunJ Tryz.prog 94 100 (cG W0 []) [I 262144] ⟨.e, 0, ne, 0⟩ (fun s h' => q s h'.ne h'.bar) = q (I 18) ne 0 by kernel_rfl).trans hq) h
theorem pw19 (h : HS) : CallOk Tryz.prog W0 94 [I 524288] h h (I 19) :=
  plain (callG_ok (L := []) mixed 30) (by kernel_rfl) rfl rfl (fun ne q hq => (show fnRunJ Tryz.prog 94 100 (cG W0 []) [I 524288] ⟨.e, 0, ne, 0⟩ (fun s h' => q s h'.ne h'.bar) = q (I 19) ne 0 by kernel_rfl).trans hq) h
theorem pw20 (h : HS) : CallOk Tryz.prog W0 94 [I 1048576] h h (I 20) :=
  plain (callG_ok (L := []) mixed 30) (by kernel_rfl) rfl rfl (fun ne q hq => (show fnRunJ Tryz.prog 94 100 (cG W0 []) [I 1048576] ⟨.e, 0, ne, 0⟩ (fun s h' => q s h'.ne h'.bar) = q (I 20) ne 0 by kernel_rfl).trans hq) h
theorem pw21 (h : HS) : CallOk Tryz.prog W0 94 [I 2097152] h h (I 21) :=
  plain (callG_ok (L := []) mixed 30) (by kernel_rfl) rfl rfl (fun ne q hq => (show fnRunJ Tryz.prog 94 100 (cG W0 []) [I 2097152] ⟨.e, 0, ne, 0⟩ (fun s h' => q s h'.ne h'.bar) = q (I 21) ne 0 by kernel_rfl).trans hq) h
theorem pw22 (h : HS) : CallOk Tryz.prog W0 94 [I 4194304] h h (I 22) :=
  plain (callG_ok (L := []) mixed 30) (by kernel_rfl) rfl rfl (fun ne q hq => (show fnRunJ Tryz.prog 94 100 (cG W0 []) [I 4194304] ⟨.e, 0, ne, 0⟩ (fun s h' => q s h'.ne h'.bar) = q (I 22) ne 0 by kernel_rfl).trans hq) h
theorem pw23 (h : HS) : CallOk Tryz.prog W0 94 [I 8388608] h h (I 23) :=
  plain (callG_ok (L := []) mixed 30) (by kernel_rfl) rfl rfl (fun ne q hq => (show fnRunJ Tryz.prog 94 100 (cG W0 []) [I 8388608] ⟨.e, 0, ne, 0⟩ (fun s h' => q s h'.ne h'.bar) = q (I 23) ne 0 by kernel_rfl).trans hq) h
theorem pw24 (h : HS) : CallOk Tryz.prog W0 94 [I 16777216] h h (I 24) :=
  plain (callG_ok (L := []) mixed 30) (by kernel_rfl) rfl rfl (fun ne q hq => (show fnRunJ Tryz.prog 94 100 (cG W0 []) [I 16777216] ⟨.e, 0, ne, 0⟩ (fun s h' => q s h'.ne h'.bar) = q (I 24) ne 0 by kernel_rfl).trans hq) h
theorem pw25 (h : HS) : CallOk Tryz.prog W0 94 [I 33554432] h h (I 25) :=
  plain (callG_ok (L := []) mixed 30) (by kernel_rfl) rfl rfl (fun ne q hq => (show fnRunJ Tryz.prog 94 100 (cG W0 []) [I 33554432] ⟨.e, 0, ne, 0⟩ (fun s h' => q s h'.ne h'.bar) = q (I 25) ne 0 by kernel_rfl).trans hq) h
theorem pw26 (h : HS) : CallOk Tryz.prog W0 94 [I 67108864] h h (I 26) :=
  plain (callG_ok (L := []) mixed 30) (by kernel_rfl) rfl rfl (fun ne q hq => (show fnRunJ Tryz.prog 94 100 (cG W0 []) [I 67108864] ⟨.e, 0, ne, 0⟩ (fun s h' => q s h'.ne h'.bar) = q (I 26) ne 0 by kernel_rfl).trans hq) h
theorem pw27 (h : HS) : CallOk Tryz.prog W0 94 [I 134217728] h h (I 27) :=
  plain (callG_ok (L := []) mixed 30) (by kernel_rfl) rfl rfl (fun ne q hq => (show fnRunJ Tryz.prog 94 100 (cG W0 []) [I 134217728] ⟨.e, 0, ne, 0⟩ (fun s h' => q s h'.ne h'.bar) = q (I 27) ne 0 by kernel_rfl).trans hq) h
theorem pw28 (h : HS) : CallOk Tryz.prog W0 94 [I 268435456] h h (I 28) :=
  plain (callG_ok (L := []) mixed 30) (by kernel_rfl) rfl rfl (fun ne q hq => (show fnRunJ Tryz.prog 94 100 (cG W0 []) [I 268435456] ⟨.e, 0, ne, 0⟩ (fun s h' => q s h'.ne h'.bar) = q (I 28) ne 0 by kernel_rfl).trans hq) h
theorem pw29 (h : HS) : CallOk Tryz.prog W0 94 [I 536870912] h h (I 29) :=
  plain (callG_ok (L := []) mixed 30) (by kernel_rfl) rfl rfl (fun ne q hq => (show fnRunJ Tryz.prog 94 100 (cG W0 []) [I 536870912] ⟨.e, 0, ne, 0⟩ (fun s h' => q s h'.ne h'.bar) = q (I 29) ne 0 by kernel_rfl).trans hq) h
theorem pw30 (h : HS) : CallOk Tryz.prog W0 94 [I 1073741824] h h (I 30) :=
  plain (callG_ok (L := []) mixed 30) (by kernel_rfl) rfl rfl (fun ne q hq => (show fnRunJ Tryz.prog 94 100 (cG W0 []) [I 1073741824] ⟨.e, 0, ne, 0⟩ (fun s h' => q s h'.ne h'.bar) = q (I 30) ne 0 by kernel_rfl).trans hq) h
theorem pw31 (h : HS) : CallOk Tryz.prog W0 94 [I 2147483648] h h (I 31) :=
  plain (callG_ok (L := []) mixed 30) (by kernel_rfl) rfl rfl (fun ne q hq => (show fnRunJ Tryz.prog 94 100 (cG W0 []) [I 2147483648] ⟨.e, 0, ne, 0⟩ (fun s h' => q s h'.ne h'.bar) = q (I 31) ne 0 by kernel_rfl).trans hq) h
theorem pw32 (h : HS) : CallOk Tryz.prog W0 94 [I 4294967296] h h (I 32) :=
  plain (callG_ok (L := []) mixed 30) (by kernel_rfl) rfl rfl (fun ne q hq => (show fnRunJ Tryz.prog 94 100 (cG W0 []) [I 4294967296] ⟨.e, 0, ne, 0⟩ (fun s h' => q s h'.ne h'.bar) = q (I 32) ne 0 by kernel_rfl).trans hq) h
theorem pw33 (h : HS) : CallOk Tryz.prog W0 94 [I 8589934592] h h (I 33) :=
  plain (callG_ok (L := []) mixed 30) (by kernel_rfl) rfl rfl (fun ne q hq => (show fnRunJ Tryz.prog 94 100 (cG W0 []) [I 8589934592] ⟨.e, 0, ne, 0⟩ (fun s h' => q s h'.ne h'.bar) = q (I 33) ne 0 by kernel_rfl).trans hq) h
theorem pw34 (h : HS) : CallOk Tryz.prog W0 94 [I 17179869184] h h (I 34) :=
  plain (callG_ok (L := []) mixed 30) (by kernel_rfl) rfl rfl (fun ne q hq => (show fnRunJ Tryz.prog 94 100 (cG W0 []) [I 17179869184] ⟨.e, 0, ne, 0⟩ (fun s h' => q s h'.ne h'.bar) = q (I 34) ne 0 by kernel_rfl).trans hq) h
theorem pw35 (h : HS) : CallOk Tryz.prog W0 94 [I 34359738368] h h (I 35) :=
  plain (callG_ok (L := []) mixed 30) (by kernel_rfl) rfl rfl (fun ne q hq => (show fnRunJ Tryz.prog 94 100 (cG W0 []) [I 34359738368] ⟨.e, 0, ne, 0⟩ (fun s h' => q s h'.ne h'.bar) = q (I 35) ne 0 by kernel_rfl).trans hq) h
theorem pw36 (h : HS) : CallOk Tryz.prog W0 94 [I 68719476736] h h (I 36) :=
  plain (callG_ok (L := []) mixed 30) (by kernel_rfl) rfl rfl (fun ne q hq => (show fnRunJ Tryz.prog 94 100 (cG W0 []) [I 68719476736] ⟨.e, 0, ne, 0⟩ (fun s h' => q s h'.ne h'.bar) = q (I 36) ne 0 by kernel_rfl).trans hq) h
theorem pw37 (h : HS) : CallOk Tryz.prog W0 94 [I 137438953472] h h (I 37) :=
  plain (callG_ok (L := []) mixed 30) (by kernel_rfl) rfl rfl (fun ne q hq => (show fnRunJ Tryz.prog 94 100 (cG W0 []) [I 137438953472] ⟨.e, 0, ne, 0⟩ (fun s h' => q s h'.ne h'.bar) = q (I 37) ne 0 by kernel_rfl).trans hq) h
theorem pw38 (h : HS) : CallOk Tryz.prog W0 94 [I 274877906944] h h (I 38) :=
  plain (callG_ok (L := []) mixed 30) (by kernel_rfl) rfl rfl (fun ne q hq => (show fnRunJ Tryz.prog 94 100 (cG W0 []) [I 274877906944] ⟨.e, 0, ne, 0⟩ (fun s h' => q s h'.ne h'.bar) = q (I 38) ne 0 by kernel_rfl).trans hq) h
theorem pw39 (h : HS) : CallOk Tryz.prog W0 94 [I 549755813888] h h (I 39) :=
  plain (callG_ok (L := []) mixed 30) (by kernel_rfl) rfl rfl (fun ne q hq => (show fnRunJ Tryz.prog 94 100 (cG W0 []) [I 549755813888] ⟨.e, 0, ne, 0⟩ (fun s h' => q s h'.ne h'.bar) = q (I 39) ne 0 by kernel_rfl).trans hq) h
theorem pw40 (h : HS) : CallOk Tryz.prog W0 94 [I 1099511627776] h h (I 40) :=
  plain (callG_ok (L := []) mixed 30) (by kernel_rfl) rfl rfl (fun ne q hq => (show fnRunJ Tryz.prog 94 100 (cG W0 []) [I 1099511627776] ⟨.e, 0, ne, 0⟩ (fun s h' => q s h'.ne h'.bar) = q (I 40) ne 0 by kernel_rfl).trans hq) h
theorem pw41 (h : HS) : CallOk Tryz.prog W0 94 [I 2199023255552] h h (I 41) :=
  plain (callG_ok (L := []) mixed 30) (by kernel_rfl) rfl rfl (fun ne q hq => (show fnRunJ Tryz.prog 94 100 (cG W0 []) [I 2199023255552] ⟨.e, 0, ne, 0⟩ (fun s h' => q s h'.ne h'.bar) = q (I 41) ne 0 by kernel_rfl).trans hq) h
theorem pw42 (h : HS) : CallOk Tryz.prog W0 94 [I 4398046511104] h h (I 42) :=
  plain (callG_ok (L := []) mixed 30) (by kernel_rfl) rfl rfl (fun ne q hq => (show fnRunJ Tryz.prog 94 100 (cG W0 []) [I 4398046511104] ⟨.e, 0, ne, 0⟩ (fun s h' => q s h'.ne h'.bar) = q (I 42) ne 0 by kernel_rfl).trans hq) h
theorem pw43 (h : HS) : CallOk Tryz.prog W0 94 [I 8796093022208] h h (I 43) :=
  plain (callG_ok (L := []) mixed 30) (by kernel_rfl) rfl rfl (fun ne q hq => (show fnRunJ Tryz.prog 94 100 (cG W0 []) [I 8796093022208] ⟨.e, 0, ne, 0⟩ (fun s h' => q s h'.ne h'.bar) = q (I 43) ne 0 by kernel_rfl).trans hq) h
theorem pw44 (h : HS) : CallOk Tryz.prog W0 94 [I 17592186044416] h h (I 44) :=
  plain (callG_ok (L := []) mixed 30) (by kernel_rfl) rfl rfl (fun ne q hq => (show fnRunJ Tryz.prog 94 100 (cG W0 []) [I 17592186044416] ⟨.e, 0, ne, 0⟩ (fun s h' => q s h'.ne h'.bar) = q (I 44) ne 0 by kernel_rfl).trans hq) h
theorem pw45 (h : HS) : CallOk Tryz.prog W0 94 [I 35184372088832] h h (I 45) :=
  plain (callG_ok (L := []) mixed 30) (by kernel_rfl) rfl rfl (fun ne q hq => (show fnRunJ Tryz.prog 94 100 (cG W0 []) [I 35184372088832] ⟨.e, 0, ne, 0⟩ (fun s h' => q s h'.ne h'.bar) = q (I 45) ne 0 by kernel_rfl).trans hq) h
theorem pw46 (h : HS) : CallOk Tryz.prog W0 94 [I 70368744177664] h h (I 46) :=
  plain (callG_ok (L := []) mixed 30) (by kernel_rfl) rfl rfl (fun ne q hq => (show fnRunJ Tryz.prog 94 100 (cG W0 []) [I 70368744177664] ⟨.e, 0, ne, 0⟩ (fun s h' => q s h'.ne h'.bar) = q (I 46) ne 0 by kernel_rfl).trans hq) h
theorem pw47 (h : HS) : CallOk Tryz.prog W0 94 [I 140737488355328] h h (I 47) :=
  plain (callG_ok (L := []) mixed 30) (by kernel_rfl) rfl rfl (fun ne q hq => (show fnRunJ Tryz.prog 94 100 (cG W0 []) [I 140737488355328] ⟨.e, 0, ne, 0⟩ (fun s h' => q s h'.ne h'.bar) = q (I 47) ne 0 by kernel_rfl).trans hq) h
theorem pw48 (h : HS) : CallOk Tryz.prog W0 94 [I 281474976710656] h h (I 48) :=
  plain (callG_ok (L := []) mixed 30) (by kernel_rfl) rfl rfl (fun ne q hq => (show fnRunJ Tryz.prog 94 100 (cG W0 []) [I 281474976710656] ⟨.e, 0, ne, 0⟩ (fun s h' => q s h'.ne h'.bar) = q (I 48) ne 0 by kernel_rfl).trans hq) h
theorem pw49 (h : HS) : CallOk Tryz.prog W0 94 [I 562949953421312] h h (I 49) :=
  plain (callG_ok (L := []) mixed 30) (by kernel_rfl) rfl rfl (fun ne q hq => (show fnRunJ Tryz.prog 94 100 (cG W0 []) [I 562949953421312] ⟨.e, 0, ne, 0⟩ (fun s h' => q s h'.ne h'.bar) = q (I 49) ne 0 by kernel_rfl).trans hq) h
theorem pw50 (h : HS) : CallOk Tryz.prog W0 94 [I 1125899906842624] h h (I 50) :=
  plain (callG_ok (L := []) mixed 30) (by kernel_rfl) rfl rfl (fun ne q hq => (show fnRunJ Tryz.prog 94 100 (cG W0 []) [I 1125899906842624] ⟨.e, 0, ne, 0⟩ (fun s h' => q s h'.ne h'.bar) = q (I 50) ne 0 by kernel_rfl).trans hq) h
theorem pw51 (h : HS) : CallOk Tryz.prog W0 94 [I 2251799813685248] h h (I 51) :=
  plain (callG_ok (L := []) mixed 30) (by kernel_rfl) rfl rfl (fun ne q hq => (show fnRunJ Tryz.prog 94 100 (cG W0 []) [I 2251799813685248] ⟨.e, 0, ne, 0⟩ (fun s h' => q s h'.ne h'.bar) = q (I 51) ne 0 by kernel_rfl).trans hq) h
theorem pw52 (h : HS) : CallOk Tryz.prog W0 94 [I 4503599627370496] h h (I 52) :=
  plain (callG_ok (L := []) mixed 30) (by kernel_rfl) rfl rfl (fun ne q hq => (show fnRunJ Tryz.prog 94 100 (cG W0 []) [I 4503599627370496] ⟨.e, 0, ne, 0⟩ (fun s h' => q s h'.ne h'.bar) = q (I 52) ne 0 by kernel_rfl).trans hq) h
theorem pw53 (h : HS) : CallOk Tryz.prog W0 94 [I 9007199254740992] h h (I 53) :=
  plain (callG_ok (L := []) mixed 30) (by kernel_rfl) rfl rfl (fun ne q hq => (show fnRunJ Tryz.prog 94 100 (cG W0 []) [I 9007199254740992] ⟨.e, 0, ne, 0⟩ (fun s h' => q s h'.ne h'.bar) = q (I 53) ne 0 by kernel_rfl).trans hq) h
theorem pw54 (h : HS) : CallOk Tryz.prog W0 94 [I 18014398509481984] h h (I 54) :=
  plain (callG_ok (L := []) mixed 30) (by kernel_rfl) rfl rfl (fun ne q hq => (show fnRunJ Tryz.prog 94 100 (cG W0 []) [I 18014398509481984] ⟨.e, 0, ne, 0⟩ (fun s h' => q s h'.ne h'.bar) = q (I 54) ne 0 by kernel_rfl).trans hq) h
theorem pw55 (h : HS) : CallOk Tryz.prog W0 94 [I 36028797018963968] h h (I 55) :=
  plain (callG_ok (L := []) mixed 30) (by kernel_rfl) rfl rfl (fun ne q hq => (show fnRunJ Tryz.prog 94 100 (cG W0 []) [I 36028797018963968] ⟨.e, 0, ne, 0⟩ (fun s h' => q s h'.ne h'.bar) = q (I 55) ne 0 by kernel_rfl).trans hq) h
theorem pw56 (h : HS) : CallOk Tryz.prog W0 94 [I 72057594037927936] h h (I 56) :=
  plain (callG_ok (L := []) mixed 30) (by kernel_rfl) rfl rfl (fun ne q hq => (show fnRunJ Tryz.prog 94 100 (cG W0 []) [I 72057594037927936] ⟨.e, 0, ne, 0⟩ (fun s h' => q s h'.ne h'.bar) = q (I 56) ne 0 by kernel_rfl).trans hq) h
theorem pw57 (h : HS) : CallOk Tryz.prog W0 94 [I 144115188075855872] h h (I 57) :=
  plain (callG_ok (L := []) mixed 30) (by kernel_rfl) rfl rfl (fun ne q hq => (show fnRunJ Tryz.prog 94 100 (cG W0 []) [I 144115188075855872] ⟨.e, 0, ne, 0⟩ (fun s h' => q s h'.ne h'.bar) = q (I 57) ne 0 by kernel_rfl).trans hq) h
theorem pw58 (h : HS) : CallOk Tryz.prog W0 94 [I 288230376151711744] h h (I 58) :=
  plain (callG_ok (L := []) mixed 30) (by kernel_rfl) rfl rfl (fun ne q hq => (show fnRunJ Tryz.prog 94 100 (cG W0 []) [I 288230376151711744] ⟨.e, 0, ne, 0⟩ (fun s h' => q s h'.ne h'.bar) = q (I 58) ne 0 by kernel_rfl).trans hq) h
theorem pw59 (h : HS) : CallOk Tryz.prog W0 94 [I 576460752303423488] h h (I 59) :=
  plain (callG_ok (L := []) mixed 30) (by kernel_rfl) rfl rfl (fun ne q hq => (show fnRunJ Tryz.prog 94 100 (cG W0 []) [I 576460752303423488] ⟨.e, 0, ne, 0⟩ (fun s h' => q s h'.ne h'.bar) = q (I 59) ne 0 by kernel_rfl).trans hq) h
theorem pw60 (h : HS) : CallOk Tryz.prog W0 94 [I 1152921504606846976] h h (I 60) :=
  plain (callG_ok (L := []) mixed 30) (by kernel_rfl) rfl rfl (fun ne q hq => (show fnRunJ Tryz.prog 94 100 (cG W0 []) [I 1152921504606846976] ⟨.e, 0, ne, 0⟩ (fun s h' => q s h'.ne h'.bar) = q (I 60) ne 0 by kernel_rfl).trans hq) h
theorem pw61 (h : HS) : CallOk Tryz.prog W0 94 [I 2305843009213693952] h h (I 61) :=
  plain (callG_ok (L := []) mixed 30) (by kernel_rfl) rfl rfl (fun ne q hq => (show fnRunJ Tryz.prog 94 100 (cG W0 []) [I 2305843009213693952] ⟨.e, 0, ne, 0⟩ (fun s h' => q s h'.ne h'.bar) = q (I 61) ne 0 by kernel_rfl).trans hq) h
theorem pw62 (h : HS) : CallOk Tryz.prog W0 94 [I 4611686018427387904] h h (I 62) :=
  plain (callG_ok (L := []) mixed 30) (by kernel_rfl) rfl rfl (fun ne q hq => (show fnRunJ Tryz.prog 94 100 (cG W0 []) [I 4611686018427387904] ⟨.e, 0, ne, 0⟩ (fun s h' => q s h'.ne h'.bar) = q (I 62) ne 0 by kernel_rfl).trans hq) h
theorem pw (n : Nat) (h1 : 1 ≤ n) (h2 : n < 63) (h : HS) : CallOk Tryz.prog W0 94 [I (2 ^ n)] h h (I n) := by
  match n, h1, h2 with
  | 1, _, _ => exact pw1 h
  | 2, _, _ => exact pw2 h
  | 3, _, _ => exact pw3 h
  | 4, _, _ => exact pw4 h
  | 5, _, _ => exact pw5 h
  | 6, _, _ => exact pw6 h
  | 7, _, _ => exact pw7 h
  | 8, _, _ => exact pw8 h
  | 9, _, _ => exact pw9 h
  | 10, _, _ => exact pw10 h
  | 11, _, _ => exact pw11 h
  | 12, _, _ => exact pw12 h
  | 13, _, _ => exact pw13 h
  | 14, _, _ => exact pw14 h
  | 15, _, _ => exact pw15 h
  | 16, _, _ => exact pw16 h
  | 17, _, _ => exact pw17 h
  | 18, _, _ => exact pw18 h
  | 19, _, _ => exact pw19 h
  | 20, _, _ => exact pw20 h
  | 21, _, _ => exact pw21 h
  | 22, _, _ => exact pw22 h
  | 23, _, _ => exact pw23 h
  | 24, _, _ => exact pw24 h
  | 25, _, _ => exact pw25 h
  | 26, _, _ => exact pw26 h
  | 27, _, _ => exact pw27 h
  | 28, _, _ => exact pw28 h
  | 29, _, _ => exact pw29 h
  | 30, _, _ => exact pw30 h
  | 31, _, _ => exact pw31 h
  | 32, _, _ => exact pw32 h
  | 33, _, _ => exact pw33 h
  | 34, _, _ => exact pw34 h
  | 35, _, _ => exact pw35 h
  | 36, _, _ => exact pw36 h
  | 37, _, _ => exact pw37 h
  | 38, _, _ => exact pw38 h
  | 39, _, _ => exact pw39 h
  | 40, _, _ => exact pw40 h
  | 41, _, _ => exact pw41 h
  | 42, _, _ => exact pw42 h
  | 43, _, _ => exact pw43 h
  | 44, _, _ => exact pw44 h
  | 45, _, _ => exact pw45 h
  | 46, _, _ => exact pw46 h
  | 47, _, _ => exact pw47 h
  | 48, _, _ => exact pw48 h
  | 49, _, _ => exact pw49 h
  | 50, _, _ => exact pw50 h
  | 51, _, _ => exact pw51 h
  | 52, _, _ => exact pw52 h
  | 53, _, _ => exact pw53 h
  | 54, _, _ => exact pw54 h
  | 55, _, _ => exact pw55 h
  | 56, _, _ => exact pw56 h
  | 57, _, _ => exact pw57 h
  | 58, _, _ => exact pw58 h
  | 59, _, _ => exact pw59 h
  | 60, _, _ => exact pw60 h
  | 61, _, _ => exact pw61 h
  | 62, _, _ => exact pw62 h
  | 0, h, _ => omega
  | n + 63, _, h => omega
noncomputable def tz0 : GdT := [(130, fun _ h => ⟨true, I 0, I 0, h⟩)]
theorem pw_tree (c : Int) (ne : Nat) (q : SV → Nat → Nat → Bool) : fnRunJ Tryz.prog 94 100 (cG W0 tz0) [I c] ⟨.e, 0, ne, 0⟩ (fun s h' => q s h'.ne h'.bar) =
    bif decide (c ≤ 1) then q (I 0) ne 0 else bif IntKind.i64.wrap ((BitVec.ofInt IntKind.i64.bits c &&& BitVec.ofInt IntKind.i64.bits (IntKind.i64.wrap (c - 1))).toNat : Int) != 0 then q (I 0) ne 0 else andR (q (I (IntKind.i64.wrap 0)) ne 0) (grd Tryz.prog W0 130 [.int .u64 (IntKind.u64.wrap c)] ⟨.e, 0, ne, 0⟩ (I 0, ⟨.e, 0, ne, 0⟩)) := by kernel_rfl
theorem power_ok {c : Int} (hR : Pn.R c) (h : HS) : CallOk Tryz.prog W0 94 [I c] h h (I (Pn.pow c)) := by
  by_cases hp : 0 < Pn.pow c
  · obtain ⟨n, h1, h2, h3, h4⟩ := Pn.pow_ok hR hp
    rw [h4, h3]
    exact pw n h1 h2 h
  · have h0 : Pn.pow c = 0 := by
      unfold Pn.pow at hp ⊢
      split
      · rfl
      · rename_i h1
        rw [if_neg h1] at hp
        split
        · rfl
        · rename_i h2
          rw [if_neg h2] at hp
          omega
    rw [h0]
    refine plain (callG_ok (L := tz0) (m := 100) mixed 30) (by kernel_rfl) rfl rfl (fun ne q hq => ?_) h
    refine (pw_tree c ne q).trans ?_
    by_cases h1 : c ≤ 1
    · rw [decide_eq_true h1]; exact hq
    · rw [decide_eq_false h1]
      have e : IntKind.i64.wrap ((BitVec.ofInt IntKind.i64.bits c &&& BitVec.ofInt IntKind.i64.bits (IntKind.i64.wrap (c - 1))).toNat : Int) = (Pn.B c &&& Pn.B (c - 1)).toInt := by
        have := Pn.W_toNat (Pn.B c &&& Pn.B (Pn.W (c - 1)))
        exact this.trans (by rw [Pn.B_W])
      rw [e]
      have h2 : (Pn.B c &&& Pn.B (c - 1)).toInt ≠ 0 := by
        intro h2
        unfold Pn.pow at hp
        rw [if_neg h1, if_neg (by simpa using h2)] at hp
        have h0' := h0
        unfold Pn.pow at h0'
        rw [if_neg h1, if_neg (by simpa using h2)] at h0'
        have h3 : c.toNat.log2 = 0 := by omega
        have h4 : c.toNat < 2 := by
          have := Nat.lt_log2_self (n := c.toNat)
          rw [h3] at this
          omega
        omega
      rw [show ((Pn.B c &&& Pn.B (c - 1)).toInt != 0) = true from by simpa using h2]
      exact hq
end Go.Proofs.YtgoccionghehoaaGreatDoor.Ev
namespace Go.Proofs.YtgoccionghehoaaGreatDoor.Ev
open Go Go.Proofs

variable {W0 : World} [GOk W0]
/-- The place of a shift, as the program reckons it. -/
theorem shE (c : Int) : (Pn.sh c == 0) = (IntKind.i64.wrap ((BitVec.ofInt IntKind.i64.bits c &&& BitVec.ofInt IntKind.i64.bits 63).toNat : Int) == 0) := by
  have e : IntKind.i64.wrap ((BitVec.ofInt IntKind.i64.bits c &&& BitVec.ofInt IntKind.i64.bits 63).toNat : Int) = (Pn.sh c : Int) := by
    have h1 : (BitVec.ofInt IntKind.i64.bits c &&& BitVec.ofInt IntKind.i64.bits 63).toNat = Pn.sh c := by
      show (BitVec.ofInt 64 c &&& BitVec.ofInt 64 63).toNat = _
      rw [BitVec.toNat_and, BitVec.toNat_ofInt, BitVec.toNat_ofInt]
      have h2 : ((63 : Int) % ((2 ^ 64 : Nat) : Int)).toNat = 2 ^ 6 - 1 := by decide
      rw [h2, Nat.and_two_pow_sub_one_eq_mod]
      unfold Pn.sh
      have : ((2 ^ 64 : Nat) : Int) = 18446744073709551616 := by decide
      rw [this]
      omega
    rw [h1]
    have := Pn.sh_lt c
    rw [IntKind.wrap_i64]
    omega
  rw [e, Bool.eq_iff_iff]
  simp only [beq_iff_eq]
  omega
noncomputable abbrev cP (W0 : World) [GOk W0] : CallK := callH Tryz.prog W0 pwT [] 100 30
theorem tr2 (o3 o4 to : Int) (x x3 x4 : Pn.In) (u : Option Nat) (ne : Nat) (q : SV → List (Option SO) → Bool → Nat → Bool) : fnRunJ Tryz.prog 39 100 (cP W0) [.ptr 41 0, .agg (enc 2 to x)] ⟨HR o3 o4 x3 x4 (outS u), 60, ne, 60⟩ (seen q) = (fun Q : SV → Bool => (bif decide (x.a.r ≥ 0) then Q zeroV else (bif decide (x.b.r < 0) then Q zeroV else (bif x.k == 1 then Q (.tup [.agg [I (2), .rng 0 14 x.k, I (to), rg x.b.r, I (x.b.i), rg x.a.r, I (x.a.i), I 0, I 0, I 0, nilS, nilS, nilS], .bool true]) else (bif x.k == 3 then Q (.tup [.agg [I (2), .rng 0 14 x.k, I (to), rg x.b.r, I (x.b.i), rg x.a.r, I (x.a.i), I 0, I 0, I 0, nilS, nilS, nilS], .bool true]) else (bif x.k == 6 then Q (.tup [.agg [I (2), .rng 0 14 x.k, I (to), rg x.b.r, I (x.b.i), rg x.a.r, I (x.a.i), I 0, I 0, I 0, nilS, nilS, nilS], .bool true]) else (bif x.k == 7 then Q (.tup [.agg [I (2), .rng 0 14 x.k, I (to), rg x.b.r, I (x.b.i), rg x.a.r, I (x.a.i), I 0, I 0, I 0, nilS, nilS, nilS], .bool true]) else (bif x.k == 8 then Q (.tup [.agg [I (2), .rng 0 14 x.k, I (to), rg x.b.r, I (x.b.i), rg x.a.r, I (x.a.i), I 0, I 0, I 0, nilS, nilS, nilS], .bool true]) else (bif x.k == 11 then Q (.tup [.agg [I (2), .rng 0 14 x.k, I (to), rg x.b.r, I (x.b.i), rg x.a.r, I (x.a.i), I 0, I 0, I 0, nilS, nilS, nilS], .bool true]) else (bif x.k == 12 then Q (.tup [.agg [I (2), .rng 0 14 x.k, I (to), rg x.b.r, I (x.b.i), rg x.a.r, I (x.a.i), I 0, I 0, I 0, nilS, nilS, nilS], .bool true]) else Q zeroV)))))))))) (Qof q o3 o4 x3 x4 u ne) := by kernel_rfl
theorem rule2_t {o3 o4 to : Int} {x x3 x4 : Pn.In} {u : Option Nat} {h : HS} (ht : Pn.t2 x = true) (hbar : True) (hh : ∀ id o, (HR o3 o4 x3 x4 (outS u)).get id = some o → h.hp.get id = some o) : CallOk Tryz.prog W0 39 [.ptr 41 0, .agg (enc 2 to x)] h h (.tup [.agg [I (2), .rng 0 14 x.k, I (to), rg x.b.r, I (x.b.i), rg x.a.r, I (x.a.i), I 0, I 0, I 0, nilS, nilS, nilS], .bool true]) := by
  refine reader (callH_ok (LP := pwT) (L := []) (m := 100) mixed 30) (by kernel_rfl) hbar (fun ne q hq => (tr2 o3 o4 to x x3 x4 u ne q).trans ?_) (HR_in _ _ _ _ _) rfl rfl hh
  have hq : Qof q o3 o4 x3 x4 u ne (.tup [.agg [I (2), .rng 0 14 x.k, I (to), rg x.b.r, I (x.b.i), rg x.a.r, I (x.a.i), I 0, I 0, I 0, nilS, nilS, nilS], .bool true]) = true := hq
  generalize Qof q o3 o4 x3 x4 u ne = Q at hq ⊢
  simp only [Pn.t2, Pn.isC, Pn.amid, shE] at ht
  simp only
  repeat' (first | exact hq | refine cond_i (fun _ => ?_) (fun _ => ?_))
  all_goals (exfalso; simp_all <;> omega)
theorem rule2_f {o3 o4 to : Int} {x x3 x4 : Pn.In} {u : Option Nat} {h : HS} (ht : Pn.t2 x = false) (hbar : True) (hh : ∀ id o, (HR o3 o4 x3 x4 (outS u)).get id = some o → h.hp.get id = some o) : CallOk Tryz.prog W0 39 [.ptr 41 0, .agg (enc 2 to x)] h h zeroV := by
  refine reader (callH_ok (LP := pwT) (L := []) (m := 100) mixed 30) (by kernel_rfl) hbar (fun ne q hq => (tr2 o3 o4 to x x3 x4 u ne q).trans ?_) (HR_in _ _ _ _ _) rfl rfl hh
  have hq : Qof q o3 o4 x3 x4 u ne zeroV = true := hq
  generalize Qof q o3 o4 x3 x4 u ne = Q at hq ⊢
  simp only [Pn.t2, Pn.isC, Pn.amid, shE] at ht
  simp only
  repeat' (first | exact hq | refine cond_i (fun _ => ?_) (fun _ => ?_))
  all_goals (exfalso; simp_all <;> omega)
theorem tr3 (o3 o4 to : Int) (x x3 x4 : Pn.In) (u : Option Nat) (ne : Nat) (q : SV → List (Option SO) → Bool → Nat → Bool) : fnRunJ Tryz.prog 40 100 (cP W0) [.ptr 41 0, .agg (enc 2 to x)] ⟨HR o3 o4 x3 x4 (outS u), 60, ne, 60⟩ (seen q) = (fun Q : SV → Bool => (bif decide (x.b.r < 0) then (bif x.b.i == 0 then (bif x.k == 1 then Q (.tup [.agg [I (1), I (0), I (to), rg x.a.r, I (x.a.i), I (0), I (0), I 0, I 0, I 0, nilS, nilS, nilS], .bool true]) else (bif x.k == 2 then Q (.tup [.agg [I (1), I (0), I (to), rg x.a.r, I (x.a.i), I (0), I (0), I 0, I 0, I 0, nilS, nilS, nilS], .bool true]) else (bif x.k == 7 then Q (.tup [.agg [I (1), I (0), I (to), rg x.a.r, I (x.a.i), I (0), I (0), I 0, I 0, I 0, nilS, nilS, nilS], .bool true]) else (bif x.k == 8 then Q (.tup [.agg [I (1), I (0), I (to), rg x.a.r, I (x.a.i), I (0), I (0), I 0, I 0, I 0, nilS, nilS, nilS], .bool true]) else (bif IntKind.i64.wrap ↑(BitVec.ofInt IntKind.i64.bits x.b.i &&& BitVec.ofInt IntKind.i64.bits 63).toNat == 0 then (bif x.k == 9 then Q (.tup [.agg [I (1), I (0), I (to), rg x.a.r, I (x.a.i), I (0), I (0), I 0, I 0, I 0, nilS, nilS, nilS], .bool true]) else (bif x.k == 10 then Q (.tup [.agg [I (1), I (0), I (to), rg x.a.r, I (x.a.i), I (0), I (0), I 0, I 0, I 0, nilS, nilS, nilS], .bool true]) else (bif x.b.i == 1 then (bif x.k == 3 then Q (.tup [.agg [I (1), I (0), I (to), rg x.a.r, I (x.a.i), I (0), I (0), I 0, I 0, I 0, nilS, nilS, nilS], .bool true]) else (bif x.k == 4 then Q (.tup [.agg [I (1), I (0), I (to), rg x.a.r, I (x.a.i), I (0), I (0), I 0, I 0, I 0, nilS, nilS, nilS], .bool true]) else (bif x.b.i == -1 then (bif x.k == 6 then Q (.tup [.agg [I (1), I (0), I (to), rg x.a.r, I (x.a.i), I (0), I (0), I 0, I 0, I 0, nilS, nilS, nilS], .bool true]) else Q zeroV) else Q zeroV))) else (bif x.b.i == -1 then (bif x.k == 6 then Q (.tup [.agg [I (1), I (0), I (to), rg x.a.r, I (x.a.i), I (0), I (0), I 0, I 0, I 0, nilS, nilS, nilS], .bool true]) else Q zeroV) else Q zeroV)))) else (bif x.b.i == 1 then (bif x.k == 3 then Q (.tup [.agg [I (1), I (0), I (to), rg x.a.r, I (x.a.i), I (0), I (0), I 0, I 0, I 0, nilS, nilS, nilS], .bool true]) else (bif x.k == 4 then Q (.tup [.agg [I (1), I (0), I (to), rg x.a.r, I (x.a.i), I (0), I (0), I 0, I 0, I 0, nilS, nilS, nilS], .bool true]) else (bif x.b.i == -1 then (bif x.k == 6 then Q (.tup [.agg [I (1), I (0), I (to), rg x.a.r, I (x.a.i), I (0), I (0), I 0, I 0, I 0, nilS, nilS, nilS], .bool true]) else Q zeroV) else Q zeroV))) else (bif x.b.i == -1 then (bif x.k == 6 then Q (.tup [.agg [I (1), I (0), I (to), rg x.a.r, I (x.a.i), I (0), I (0), I 0, I 0, I 0, nilS, nilS, nilS], .bool true]) else Q zeroV) else Q zeroV))))))) else (bif IntKind.i64.wrap ↑(BitVec.ofInt IntKind.i64.bits x.b.i &&& BitVec.ofInt IntKind.i64.bits 63).toNat == 0 then (bif x.k == 9 then Q (.tup [.agg [I (1), I (0), I (to), rg x.a.r, I (x.a.i), I (0), I (0), I 0, I 0, I 0, nilS, nilS, nilS], .bool true]) else (bif x.k == 10 then Q (.tup [.agg [I (1), I (0), I (to), rg x.a.r, I (x.a.i), I (0), I (0), I 0, I 0, I 0, nilS, nilS, nilS], .bool true]) else (bif x.b.i == 1 then (bif x.k == 3 then Q (.tup [.agg [I (1), I (0), I (to), rg x.a.r, I (x.a.i), I (0), I (0), I 0, I 0, I 0, nilS, nilS, nilS], .bool true]) else (bif x.k == 4 then Q (.tup [.agg [I (1), I (0), I (to), rg x.a.r, I (x.a.i), I (0), I (0), I 0, I 0, I 0, nilS, nilS, nilS], .bool true]) else (bif x.b.i == -1 then (bif x.k == 6 then Q (.tup [.agg [I (1), I (0), I (to), rg x.a.r, I (x.a.i), I (0), I (0), I 0, I 0, I 0, nilS, nilS, nilS], .bool true]) else Q zeroV) else Q zeroV))) else (bif x.b.i == -1 then (bif x.k == 6 then Q (.tup [.agg [I (1), I (0), I (to), rg x.a.r, I (x.a.i), I (0), I (0), I 0, I 0, I 0, nilS, nilS, nilS], .bool true]) else Q zeroV) else Q zeroV)))) else (bif x.b.i == 1 then (bif x.k == 3 then Q (.tup [.agg [I (1), I (0), I (to), rg x.a.r, I (x.a.i), I (0), I (0), I 0, I 0, I 0, nilS, nilS, nilS], .bool true]) else (bif x.k == 4 then Q (.tup [.agg [I (1), I (0), I (to), rg x.a.r, I (x.a.i), I (0), I (0), I 0, I 0, I 0, nilS, nilS, nilS], .bool true]) else (bif x.b.i == -1 then (bif x.k == 6 then Q (.tup [.agg [I (1), I (0), I (to), rg x.a.r, I (x.a.i), I (0), I (0), I 0, I 0, I 0, nilS, nilS, nilS], .bool true]) else Q zeroV) else Q zeroV))) else (bif x.b.i == -1 then (bif x.k == 6 then Q (.tup [.agg [I (1), I (0), I (to), rg x.a.r, I (x.a.i), I (0), I (0), I 0, I 0, I 0, nilS, nilS, nilS], .bool true]) else Q zeroV) else Q zeroV)))) else Q zeroV)) (Qof q o3 o4 x3 x4 u ne) := by kernel_rfl
theorem rule3_t {o3 o4 to : Int} {x x3 x4 : Pn.In} {u : Option Nat} {h : HS} (ht : Pn.t3 x = true) (hbar : True) (hh : ∀ id o, (HR o3 o4 x3 x4 (outS u)).get id = some o → h.hp.get id = some o) : CallOk Tryz.prog W0 40 [.ptr 41 0, .agg (enc 2 to x)] h h (.tup [.agg [I (1), I (0), I (to), rg x.a.r, I (x.a.i), I (0), I (0), I 0, I 0, I 0, nilS, nilS, nilS], .bool true]) := by
  refine reader (callH_ok (LP := pwT) (L := []) (m := 100) mixed 30) (by kernel_rfl) hbar (fun ne q hq => (tr3 o3 o4 to x x3 x4 u ne q).trans ?_) (HR_in _ _ _ _ _) rfl rfl hh
  have hq : Qof q o3 o4 x3 x4 u ne (.tup [.agg [I (1), I (0), I (to), rg x.a.r, I (x.a.i), I (0), I (0), I 0, I 0, I 0, nilS, nilS, nilS], .bool true]) = true := hq
  generalize Qof q o3 o4 x3 x4 u ne = Q at hq ⊢
  simp only [Pn.t3, Pn.isC, Pn.amid, shE] at ht
  simp only
  repeat' (first | exact hq | refine cond_i (fun _ => ?_) (fun _ => ?_))
  all_goals (exfalso; simp_all <;> omega)
theorem rule3_f {o3 o4 to : Int} {x x3 x4 : Pn.In} {u : Option Nat} {h : HS} (ht : Pn.t3 x = false) (hbar : True) (hh : ∀ id o, (HR o3 o4 x3 x4 (outS u)).get id = some o → h.hp.get id = some o) : CallOk Tryz.prog W0 40 [.ptr 41 0, .agg (enc 2 to x)] h h zeroV := by
  refine reader (callH_ok (LP := pwT) (L := []) (m := 100) mixed 30) (by kernel_rfl) hbar (fun ne q hq => (tr3 o3 o4 to x x3 x4 u ne q).trans ?_) (HR_in _ _ _ _ _) rfl rfl hh
  have hq : Qof q o3 o4 x3 x4 u ne zeroV = true := hq
  generalize Qof q o3 o4 x3 x4 u ne = Q at hq ⊢
  simp only [Pn.t3, Pn.isC, Pn.amid, shE] at ht
  simp only
  repeat' (first | exact hq | refine cond_i (fun _ => ?_) (fun _ => ?_))
  all_goals (exfalso; simp_all <;> omega)
theorem tr4 (o3 o4 to : Int) (x x3 x4 : Pn.In) (u : Option Nat) (ne : Nat) (q : SV → List (Option SO) → Bool → Nat → Bool) : fnRunJ Tryz.prog 41 100 (cP W0) [.ptr 41 0, .agg (enc 2 to x)] ⟨HR o3 o4 x3 x4 (outS u), 60, ne, 60⟩ (seen q) = (fun Q : SV → Bool => (bif decide (x.b.r < 0) then (bif x.b.i == 0 then (bif x.k == 3 then Q (.tup [.agg [I (1), I (0), I (to), I (-1), I (0), I (0), I (0), I 0, I 0, I 0, nilS, nilS, nilS], .bool true]) else (bif x.k == 6 then Q (.tup [.agg [I (1), I (0), I (to), I (-1), I (0), I (0), I (0), I 0, I 0, I 0, nilS, nilS, nilS], .bool true]) else (bif x.b.i == 1 then (bif x.k == 5 then Q (.tup [.agg [I (1), I (0), I (to), I (-1), I (0), I (0), I (0), I 0, I 0, I 0, nilS, nilS, nilS], .bool true]) else Q zeroV) else (bif x.b.i == -1 then (bif x.k == 5 then Q (.tup [.agg [I (1), I (0), I (to), I (-1), I (0), I (0), I (0), I 0, I 0, I 0, nilS, nilS, nilS], .bool true]) else Q zeroV) else Q zeroV)))) else (bif x.b.i == 1 then (bif x.k == 5 then Q (.tup [.agg [I (1), I (0), I (to), I (-1), I (0), I (0), I (0), I 0, I 0, I 0, nilS, nilS, nilS], .bool true]) else Q zeroV) else (bif x.b.i == -1 then (bif x.k == 5 then Q (.tup [.agg [I (1), I (0), I (to), I (-1), I (0), I (0), I (0), I 0, I 0, I 0, nilS, nilS, nilS], .bool true]) else Q zeroV) else Q zeroV))) else Q zeroV)) (Qof q o3 o4 x3 x4 u ne) := by kernel_rfl
theorem rule4_t {o3 o4 to : Int} {x x3 x4 : Pn.In} {u : Option Nat} {h : HS} (ht : Pn.t4 x = true) (hbar : True) (hh : ∀ id o, (HR o3 o4 x3 x4 (outS u)).get id = some o → h.hp.get id = some o) : CallOk Tryz.prog W0 41 [.ptr 41 0, .agg (enc 2 to x)] h h (.tup [.agg [I (1), I (0), I (to), I (-1), I (0), I (0), I (0), I 0, I 0, I 0, nilS, nilS, nilS], .bool true]) := by
  refine reader (callH_ok (LP := pwT) (L := []) (m := 100) mixed 30) (by kernel_rfl) hbar (fun ne q hq => (tr4 o3 o4 to x x3 x4 u ne q).trans ?_) (HR_in _ _ _ _ _) rfl rfl hh
  have hq : Qof q o3 o4 x3 x4 u ne (.tup [.agg [I (1), I (0), I (to), I (-1), I (0), I (0), I (0), I 0, I 0, I 0, nilS, nilS, nilS], .bool true]) = true := hq
  generalize Qof q o3 o4 x3 x4 u ne = Q at hq ⊢
  simp only [Pn.t4, Pn.isC, Pn.amid, shE] at ht
  simp only
  repeat' (first | exact hq | refine cond_i (fun _ => ?_) (fun _ => ?_))
  all_goals (exfalso; simp_all <;> omega)
theorem rule4_f {o3 o4 to : Int} {x x3 x4 : Pn.In} {u : Option Nat} {h : HS} (ht : Pn.t4 x = false) (hbar : True) (hh : ∀ id o, (HR o3 o4 x3 x4 (outS u)).get id = some o → h.hp.get id = some o) : CallOk Tryz.prog W0 41 [.ptr 41 0, .agg (enc 2 to x)] h h zeroV := by
  refine reader (callH_ok (LP := pwT) (L := []) (m := 100) mixed 30) (by kernel_rfl) hbar (fun ne q hq => (tr4 o3 o4 to x x3 x4 u ne q).trans ?_) (HR_in _ _ _ _ _) rfl rfl hh
  have hq : Qof q o3 o4 x3 x4 u ne zeroV = true := hq
  generalize Qof q o3 o4 x3 x4 u ne = Q at hq ⊢
  simp only [Pn.t4, Pn.isC, Pn.amid, shE] at ht
  simp only
  repeat' (first | exact hq | refine cond_i (fun _ => ?_) (fun _ => ?_))
  all_goals (exfalso; simp_all <;> omega)
theorem tr5 (o3 o4 to : Int) (x x3 x4 : Pn.In) (u : Option Nat) (ne : Nat) (q : SV → List (Option SO) → Bool → Nat → Bool) : fnRunJ Tryz.prog 42 100 (cP W0) [.ptr 41 0, .agg (enc 2 to x)] ⟨HR o3 o4 x3 x4 (outS u), 60, ne, 60⟩ (seen q) = (fun Q : SV → Bool => (bif decide (x.b.r < 0) then (bif x.b.i == -1 then (bif x.k == 7 then Q (.tup [.agg [I (1), I (0), I (to), I (-1), I (-1), I (0), I (0), I 0, I 0, I 0, nilS, nilS, nilS], .bool true]) else Q zeroV) else Q zeroV) else Q zeroV)) (Qof q o3 o4 x3 x4 u ne) := by kernel_rfl
theorem rule5_t {o3 o4 to : Int} {x x3 x4 : Pn.In} {u : Option Nat} {h : HS} (ht : Pn.t5 x = true) (hbar : True) (hh : ∀ id o, (HR o3 o4 x3 x4 (outS u)).get id = some o → h.hp.get id = some o) : CallOk Tryz.prog W0 42 [.ptr 41 0, .agg (enc 2 to x)] h h (.tup [.agg [I (1), I (0), I (to), I (-1), I (-1), I (0), I (0), I 0, I 0, I 0, nilS, nilS, nilS], .bool true]) := by
  refine reader (callH_ok (LP := pwT) (L := []) (m := 100) mixed 30) (by kernel_rfl) hbar (fun ne q hq => (tr5 o3 o4 to x x3 x4 u ne q).trans ?_) (HR_in _ _ _ _ _) rfl rfl hh
  have hq : Qof q o3 o4 x3 x4 u ne (.tup [.agg [I (1), I (0), I (to), I (-1), I (-1), I (0), I (0), I 0, I 0, I 0, nilS, nilS, nilS], .bool true]) = true := hq
  generalize Qof q o3 o4 x3 x4 u ne = Q at hq ⊢
  simp only [Pn.t5, Pn.isC, Pn.amid, shE] at ht
  simp only
  repeat' (first | exact hq | refine cond_i (fun _ => ?_) (fun _ => ?_))
  all_goals (exfalso; simp_all <;> omega)
theorem rule5_f {o3 o4 to : Int} {x x3 x4 : Pn.In} {u : Option Nat} {h : HS} (ht : Pn.t5 x = false) (hbar : True) (hh : ∀ id o, (HR o3 o4 x3 x4 (outS u)).get id = some o → h.hp.get id = some o) : CallOk Tryz.prog W0 42 [.ptr 41 0, .agg (enc 2 to x)] h h zeroV := by
  refine reader (callH_ok (LP := pwT) (L := []) (m := 100) mixed 30) (by kernel_rfl) hbar (fun ne q hq => (tr5 o3 o4 to x x3 x4 u ne q).trans ?_) (HR_in _ _ _ _ _) rfl rfl hh
  have hq : Qof q o3 o4 x3 x4 u ne zeroV = true := hq
  generalize Qof q o3 o4 x3 x4 u ne = Q at hq ⊢
  simp only [Pn.t5, Pn.isC, Pn.amid, shE] at ht
  simp only
  repeat' (first | exact hq | refine cond_i (fun _ => ?_) (fun _ => ?_))
  all_goals (exfalso; simp_all <;> omega)
theorem tr7 (o3 o4 to : Int) (x x3 x4 : Pn.In) (u : Option Nat) (ne : Nat) (q : SV → List (Option SO) → Bool → Nat → Bool) : fnRunJ Tryz.prog 44 100 (cP W0) [.ptr 41 0, .agg (enc 2 to x)] ⟨HR o3 o4 x3 x4 (outS u), 60, ne, 60⟩ (seen q) = (fun Q : SV → Bool => (bif decide (x.b.r < 0) then (bif x.b.i == -1 then (bif x.k == 4 then Q (.tup [.agg [I (2), I (2), I (to), I (-1), I (0), rg x.a.r, I (x.a.i), I 0, I 0, I 0, nilS, nilS, nilS], .bool true]) else Q zeroV) else Q zeroV) else Q zeroV)) (Qof q o3 o4 x3 x4 u ne) := by kernel_rfl
theorem rule7_t {o3 o4 to : Int} {x x3 x4 : Pn.In} {u : Option Nat} {h : HS} (ht : Pn.t7 x = true) (hbar : True) (hh : ∀ id o, (HR o3 o4 x3 x4 (outS u)).get id = some o → h.hp.get id = some o) : CallOk Tryz.prog W0 44 [.ptr 41 0, .agg (enc 2 to x)] h h (.tup [.agg [I (2), I (2), I (to), I (-1), I (0), rg x.a.r, I (x.a.i), I 0, I 0, I 0, nilS, nilS, nilS], .bool true]) := by
  refine reader (callH_ok (LP := pwT) (L := []) (m := 100) mixed 30) (by kernel_rfl) hbar (fun ne q hq => (tr7 o3 o4 to x x3 x4 u ne q).trans ?_) (HR_in _ _ _ _ _) rfl rfl hh
  have hq : Qof q o3 o4 x3 x4 u ne (.tup [.agg [I (2), I (2), I (to), I (-1), I (0), rg x.a.r, I (x.a.i), I 0, I 0, I 0, nilS, nilS, nilS], .bool true]) = true := hq
  generalize Qof q o3 o4 x3 x4 u ne = Q at hq ⊢
  simp only [Pn.t7, Pn.isC, Pn.amid, shE] at ht
  simp only
  repeat' (first | exact hq | refine cond_i (fun _ => ?_) (fun _ => ?_))
  all_goals (exfalso; simp_all <;> omega)
theorem rule7_f {o3 o4 to : Int} {x x3 x4 : Pn.In} {u : Option Nat} {h : HS} (ht : Pn.t7 x = false) (hbar : True) (hh : ∀ id o, (HR o3 o4 x3 x4 (outS u)).get id = some o → h.hp.get id = some o) : CallOk Tryz.prog W0 44 [.ptr 41 0, .agg (enc 2 to x)] h h zeroV := by
  refine reader (callH_ok (LP := pwT) (L := []) (m := 100) mixed 30) (by kernel_rfl) hbar (fun ne q hq => (tr7 o3 o4 to x x3 x4 u ne q).trans ?_) (HR_in _ _ _ _ _) rfl rfl hh
  have hq : Qof q o3 o4 x3 x4 u ne zeroV = true := hq
  generalize Qof q o3 o4 x3 x4 u ne = Q at hq ⊢
  simp only [Pn.t7, Pn.isC, Pn.amid, shE] at ht
  simp only
  repeat' (first | exact hq | refine cond_i (fun _ => ?_) (fun _ => ?_))
  all_goals (exfalso; simp_all <;> omega)
theorem tr9 (o3 o4 to : Int) (x x3 x4 : Pn.In) (u : Option Nat) (ne : Nat) (q : SV → List (Option SO) → Bool → Nat → Bool) : fnRunJ Tryz.prog 46 100 (cP W0) [.ptr 41 0, .agg (enc 2 to x)] ⟨HR o3 o4 x3 x4 (outS u), 60, ne, 60⟩ (seen q) = (fun Q : SV → Bool => (bif decide (x.b.r < 0) then (bif x.k == 2 then Q (.tup [.agg [I (2), I (1), I (to), rg x.a.r, I (x.a.i), I (-1), I (IntKind.i64.wrap (0 - x.b.i)), I 0, I 0, I 0, nilS, nilS, nilS], .bool true]) else Q zeroV) else Q zeroV)) (Qof q o3 o4 x3 x4 u ne) := by kernel_rfl
theorem rule9_t {o3 o4 to : Int} {x x3 x4 : Pn.In} {u : Option Nat} {h : HS} (ht : Pn.t9 x = true) (hbar : True) (hh : ∀ id o, (HR o3 o4 x3 x4 (outS u)).get id = some o → h.hp.get id = some o) : CallOk Tryz.prog W0 46 [.ptr 41 0, .agg (enc 2 to x)] h h (.tup [.agg [I (2), I (1), I (to), rg x.a.r, I (x.a.i), I (-1), I (IntKind.i64.wrap (0 - x.b.i)), I 0, I 0, I 0, nilS, nilS, nilS], .bool true]) := by
  refine reader (callH_ok (LP := pwT) (L := []) (m := 100) mixed 30) (by kernel_rfl) hbar (fun ne q hq => (tr9 o3 o4 to x x3 x4 u ne q).trans ?_) (HR_in _ _ _ _ _) rfl rfl hh
  have hq : Qof q o3 o4 x3 x4 u ne (.tup [.agg [I (2), I (1), I (to), rg x.a.r, I (x.a.i), I (-1), I (IntKind.i64.wrap (0 - x.b.i)), I 0, I 0, I 0, nilS, nilS, nilS], .bool true]) = true := hq
  generalize Qof q o3 o4 x3 x4 u ne = Q at hq ⊢
  simp only [Pn.t9, Pn.isC, Pn.amid, shE] at ht
  simp only
  repeat' (first | exact hq | refine cond_i (fun _ => ?_) (fun _ => ?_))
  all_goals (exfalso; simp_all <;> omega)
theorem rule9_f {o3 o4 to : Int} {x x3 x4 : Pn.In} {u : Option Nat} {h : HS} (ht : Pn.t9 x = false) (hbar : True) (hh : ∀ id o, (HR o3 o4 x3 x4 (outS u)).get id = some o → h.hp.get id = some o) : CallOk Tryz.prog W0 46 [.ptr 41 0, .agg (enc 2 to x)] h h zeroV := by
  refine reader (callH_ok (LP := pwT) (L := []) (m := 100) mixed 30) (by kernel_rfl) hbar (fun ne q hq => (tr9 o3 o4 to x x3 x4 u ne q).trans ?_) (HR_in _ _ _ _ _) rfl rfl hh
  have hq : Qof q o3 o4 x3 x4 u ne zeroV = true := hq
  generalize Qof q o3 o4 x3 x4 u ne = Q at hq ⊢
  simp only [Pn.t9, Pn.isC, Pn.amid, shE] at ht
  simp only
  repeat' (first | exact hq | refine cond_i (fun _ => ?_) (fun _ => ?_))
  all_goals (exfalso; simp_all <;> omega)
end Go.Proofs.YtgoccionghehoaaGreatDoor.Ev
