/- What the reference's runs come to. The law's run. -/
import Derived.Test.YtgoccionghehoaaGreatDoorPe7
import Derived.Test.YtgoccionghehoaaGreatDoorPe5
import Derived.Test.YtgoccionghehoaaGreatDoorEv6
set_option linter.unusedSimpArgs false
set_option linter.unusedVariables false
set_option linter.unusedSectionVars false
namespace Go.Proofs.YtgoccionghehoaaGreatDoor.Ev
open Go Go.Proofs

variable {W0 : World} [GOk W0]
variable {A B C : Int} {x y : Pn.In}
theorem okO_of {m : Int} {o : Pn.Op} (h : Pn.OOk m o) : okO o = true := by
  unfold okO
  by_cases q : o.r < 0
  · simp [q]
  · have := h.z (by omega)
    simp [this]
theorem vL_0 {o : Pn.Op} (h : Pn.OOk 3 o) : vL [A, B, C, 0, 0] o = Pn.val (Pn.rho A B C) o := by
  unfold vL Pn.val
  by_cases q : o.r < 0
  · simp [q]
  · rw [if_neg q, decide_eq_false q, cond_false]
    have h1 := h.hi
    have : o.r = 0 ∨ o.r = 1 ∨ o.r = 2 ∨ o.r = 3 := by omega
    rcases this with e | e | e | e <;> rw [e] <;> rfl
theorem vL_v {o : Pn.Op} {v : Int} (h : Pn.OOk 3 o) : vL [A, B, C, v, 0] o = Pn.val (Pn.upd (Pn.rho A B C) v) o := by
  unfold vL Pn.val
  by_cases q : o.r < 0
  · simp [q]
  · rw [if_neg q, decide_eq_false q, cond_false]
    have h1 := h.hi
    have : o.r = 0 ∨ o.r = 1 ∨ o.r = 2 ∨ o.r = 3 := by omega
    rcases this with e | e | e | e <;> rw [e] <;> rfl
/-- By the outcome. -/
def by2 (kT : Bool) (kV : Int → Bool) : Option Int → Bool
  | none => kT
  | some v => kV v
variable {kT : Bool} {kV : Int → Bool} {kE : Bool}
theorem bif_by (o : Option Int) (f : Int → Bool) : (bif o.isNone then kT else f (o.getD 0)) = by2 kT f o := by cases o <;> rfl
theorem by2_bind (o : Option Int) (f : Int → Option Int) : by2 kT kV (o.bind f) = by2 kT (fun v => by2 kT kV (f v)) o := by cases o <;> rfl
theorem e1v (hx : x.op = 1) (ix : Pn.IOk 3 x) : Pn.exec (Pn.rho A B C) x = some (vL [A, B, C, 0, 0] x.a) := by
  rw [vL_0 ix.a]; simp only [Pn.exec, hx, if_true]
theorem e2v (hx : x.op = 2) (ix : Pn.IOk 3 x) : Pn.exec (Pn.rho A B C) x = b1v A B C x := by
  rw [Pn.exec_of hx, b1v, vL_0 ix.a, vL_0 (ix.k1 hx).2.2]
theorem f1v (hy : y.op = 1) (iy : Pn.IOk 3 y) (v : Int) : Pn.exec (Pn.upd (Pn.rho A B C) v) y = some (vL [A, B, C, v, 0] y.a) := by
  rw [vL_v iy.a]; simp only [Pn.exec, hy, if_true]
theorem f2v (hy : y.op = 2) (iy : Pn.IOk 3 y) (v : Int) : Pn.exec (Pn.upd (Pn.rho A B C) v) y = b2v A B C y v := by
  rw [Pn.exec_of hy, b2v, vL_v iy.a, vL_v (iy.k1 hy).2.2]
theorem N11_eq (hx : x.op = 1) (hy : y.op = 1) (ix : Pn.IOk 3 x) (iy : Pn.IOk 3 y) : N11 A B C x y kT kV kE = by2 kT kV (Pn.run2 A B C x y) := by
  rw [N11, okO_of ix.a, okO_of iy.a, Pn.run2, e1v hx ix, Option.bind_some, f1v hy iy]; rfl
theorem N12_eq (hx : x.op = 1) (hy : y.op = 2) (ix : Pn.IOk 3 x) (iy : Pn.IOk 3 y) : N12 A B C x y kT kV kE = by2 kT kV (Pn.run2 A B C x y) := by
  rw [N12, okO_of ix.a, okO_of iy.a, okO_of (iy.k1 hy).2.2, Pn.run2, e1v hx ix, Option.bind_some, f2v hy iy]
  exact bif_by _ _
theorem N21_eq (hx : x.op = 2) (hy : y.op = 1) (ix : Pn.IOk 3 x) (iy : Pn.IOk 3 y) : N21 A B C x y kT kV kE = by2 kT kV (Pn.run2 A B C x y) := by
  rw [N21, okO_of ix.a, okO_of iy.a, okO_of (ix.k1 hx).2.2, Pn.run2, e2v hx ix, by2_bind]
  refine (bif_by _ fun v => kV (vL [A, B, C, v, 0] y.a)).trans ?_
  congr 1
  funext v
  rw [f1v hy iy]; rfl
theorem N22_eq (hx : x.op = 2) (hy : y.op = 2) (ix : Pn.IOk 3 x) (iy : Pn.IOk 3 y) : N22 A B C x y kT kV kE = by2 kT kV (Pn.run2 A B C x y) := by
  rw [N22, okO_of ix.a, okO_of iy.a, okO_of (ix.k1 hx).2.2, okO_of (iy.k1 hy).2.2, Pn.run2, e2v hx ix, by2_bind]
  refine (bif_by _ fun v => bif (b2v A B C y v).isNone then kT else kV ((b2v A B C y v).getD 0)).trans ?_
  congr 1
  funext v
  rw [f2v hy iy]
  exact bif_by _ _
theorem agree_leaf {o : Option Int} (E : Bool → Bool) (h : E true = true) : by2 (by2 (E true) (fun _ => E false) o) (fun v => by2 (E false) (fun w => bif !(eqI v w) then E false else E true) o) o = true := by
  cases o with
  | none => exact h
  | some v =>
    show (bif !(eqI v v) then E false else E true) = true
    rw [eqI_eq, decide_eq_true rfl]
    exact h
noncomputable def encG (to : Int) (x : Pn.In) : List SV := if x.op = 1 then enc1 to x else enc2 to x
/-- The two modules agree, whatever the operations are. -/
theorem agree_ok {x0 y0 x y : Pn.In} (hx0 : x0.op = 2) (hy0 : y0.op = 2) (ix0 : Pn.IOk 3 x0) (iy0 : Pn.IOk 3 y0) (ix : Pn.IOk 3 x) (iy : Pn.IOk 3 y) (hr : Pn.run2 A B C x y = Pn.run2 A B C x0 y0) :
    CallOk Tryz.prog W0 8 A8 ⟨HG A B C (enc2 3 x0) (enc2 4 y0) (encG 3 x) (encG 4 y), 60, 0, 0⟩ ⟨.e, 400, 0, 0⟩ (.bool true) := by
  rcases ix.op with hx | hx <;> rcases iy.op with hy | hy
  · rw [encG, encG, if_pos hx, if_pos hy]
    refine (call_to (W0 := W0) (h := ⟨HG A B C (enc2 3 x0) (enc2 4 y0) (enc1 3 x) (enc1 4 y), 60, 0, 0⟩) (ids := []) (g1 := .e) cA_ok (by kernel_rfl) (fun q hq => (trA11 A B C x0 y0 x y q).trans ?_) (fun id o e => by cases e)).1
    simp only [N22_eq hx0 hy0 ix0 iy0, N11_eq hx hy ix iy, hr]
    exact agree_leaf (fun b => q (.bool b) [] true 0) hq
  · rw [encG, encG, if_pos hx, if_neg (by omega)]
    refine (call_to (W0 := W0) (h := ⟨HG A B C (enc2 3 x0) (enc2 4 y0) (enc1 3 x) (enc2 4 y), 60, 0, 0⟩) (ids := []) (g1 := .e) cA_ok (by kernel_rfl) (fun q hq => (trA12 A B C x0 y0 x y q).trans ?_) (fun id o e => by cases e)).1
    simp only [N22_eq hx0 hy0 ix0 iy0, N12_eq hx hy ix iy, hr]
    exact agree_leaf (fun b => q (.bool b) [] true 0) hq
  · rw [encG, encG, if_neg (by omega), if_pos hy]
    refine (call_to (W0 := W0) (h := ⟨HG A B C (enc2 3 x0) (enc2 4 y0) (enc2 3 x) (enc1 4 y), 60, 0, 0⟩) (ids := []) (g1 := .e) cA_ok (by kernel_rfl) (fun q hq => (trA21 A B C x0 y0 x y q).trans ?_) (fun id o e => by cases e)).1
    simp only [N22_eq hx0 hy0 ix0 iy0, N21_eq hx hy ix iy, hr]
    exact agree_leaf (fun b => q (.bool b) [] true 0) hq
  · rw [encG, encG, if_neg (by omega), if_neg (by omega)]
    refine (call_to (W0 := W0) (h := ⟨HG A B C (enc2 3 x0) (enc2 4 y0) (enc2 3 x) (enc2 4 y), 60, 0, 0⟩) (ids := []) (g1 := .e) cA_ok (by kernel_rfl) (fun q hq => (trA22 A B C x0 y0 x y q).trans ?_) (fun id o e => by cases e)).1
    simp only [N22_eq hx0 hy0 ix0 iy0, N22_eq hx hy ix iy, hr]
    exact agree_leaf (fun b => q (.bool b) [] true 0) hq
/-- More is known at the start. -/
theorem CallOk.pre {f : FuncId} {l : List SV} {g g2 : Tr SO} {nx ne b : Nat} {h' : HS} {sv : SV} (c : CallOk Tryz.prog W0 f l ⟨g, nx, ne, b⟩ h' sv) (hr : ∀ E w, Rel W0 E g2.get w → Rel W0 E g.get w) (hd : ∀ id o, g.get id = some o → ∃ o2, g2.get id = some o2) : CallOk Tryz.prog W0 f l ⟨g2, nx, ne, b⟩ h' sv := by
  intro E w vl rel fe hv R hR
  refine c E w vl (hr E w rel) fe hv R fun E' v w' e r st => hR E' v w' e r ?_
  have st : Step b g.get nx h'.nx ne h'.ne E E' w w' := st
  exact ⟨st.le, st.dom, st.dome, st.size, fun k hk ho => st.touch k hk fun id s o q a d => by
    obtain ⟨o2, h2⟩ := hd id o a
    exact ho id s o2 q h2 d, fun id s x y q => (st.fresh id s x y q).imp (fun q => q) fun ⟨i0, s0, o, q1, q2, q3, q4⟩ => by
    obtain ⟨o2, h2⟩ := hd i0 o q2
    exact ⟨i0, s0, o2, q1, h2, q3, q4⟩, fun j a z x y q => (st.fzn j a z x y q).imp (fun q => q) fun ⟨i0, s0, o, q1, q2, q3, q4⟩ => by
    obtain ⟨o2, h2⟩ := hd i0 o q2
    exact ⟨i0, s0, o2, q1, h2, q3, q4⟩⟩
/-- Objects told cell by cell. -/
theorem rel_le {g g2 : Tr SO} (ho : ∀ id o, g.get id = some o → ∃ o2, g2.get id = some o2 ∧ ∀ (E : Env) (s : Spot) (w : World), objOk E s w o2 → objOk E s w o) {E : Env} {w : World} (r : Rel W0 E g2.get w) : Rel W0 E g.get w := by
  refine ⟨r.below, fun id o h => ?_, fun id id' o o' s s' h h' => ?_, r.fz, fun j a z id o s e h => ?_⟩
  · obtain ⟨o2, h2, k⟩ := ho id o h
    obtain ⟨s, a, b, c⟩ := r.obj id o2 h2
    exact ⟨s, a, b, k E s w c⟩
  · obtain ⟨o2, h2, _⟩ := ho id o h
    obtain ⟨o2', h2', _⟩ := ho id' o' h'
    exact r.inj id id' o2 o2' s s' h2 h2'
  · obtain ⟨o2, h2, _⟩ := ho id o h
    exact r.frz j a z id o2 s e h2
def hgL : List Nat := [1, 17, 26, 27, 42, 43, 44, 45]
theorem HG_ids {c3 c4 d3 d4 : List SV} {id : Nat} {o : SO} (h : (HG A B C c3 c4 d3 d4).get id = some o) : id ∈ hgL := by
  unfold HG at h
  simp only [Tr.get_put] at h
  simp only [hgL, List.mem_cons, List.not_mem_nil, or_false]
  repeat' (split at h)
  all_goals first | omega | (rw [Tr.get_e] at h; cases h)
theorem code_le {c3 c4 c3' c4' : List SV} (h3 : LeL c3 c3') (h4 : LeL c4 c4') {o2 : SO} (e : codeG c3' c4' = some o2) : ∃ o, codeG c3 c4 = some o ∧ ∀ (E : Env) (s : Spot) (w : World), objOk E s w o → objOk E s w o2 := by
  obtain rfl := Option.some.inj e
  exact ⟨_, rfl, fun E s w k => row_le (.append .rfl (.append .rfl (.append .rfl (.append h3 (.append h4 .rfl))))) k⟩
theorem HG_le {c3 c4 d3 d4 c3' c4' d3' d4' : List SV} (h3 : LeL c3 c3') (h4 : LeL c4 c4') (k3 : LeL d3 d3') (k4 : LeL d4 d4') : ∀ id o, (HG A B C c3' c4' d3' d4').get id = some o → ∃ o2, (HG A B C c3 c4 d3 d4).get id = some o2 ∧ ∀ (E : Env) (s : Spot) (w : World), objOk E s w o2 → objOk E s w o := fun id o h => by
  have m := HG_ids h
  simp only [hgL, List.mem_cons, List.not_mem_nil, or_false] at m
  by_cases q : id = 26
  · subst q
    exact code_le h3 h4 (show codeG c3' c4' = some o from h)
  by_cases q2 : id = 44
  · subst q2
    exact code_le k3 k4 (show codeG d3' d4' = some o from h)
  refine ⟨o, ?_, fun _ _ _ k => k⟩
  rw [← h]
  unfold HG
  simp only [Tr.get_put, if_neg q, if_neg q2]
theorem le_encG {to : Int} {m : Int} {x : Pn.In} (h : Pn.IOk m x) : LeL (enc x.op to x) (encG to x) := by
  unfold encG
  rcases h.op with q | q
  · rw [if_pos q]
    obtain ⟨k0, b0⟩ := h.k0 q
    have e1 : Le (.rng 0 14 x.k) (I 0) := fun E v e => by
      simp only [val, k0] at e ⊢
      simpa [I, val] using e
    have e2 : Le (rg x.b.r) (I 0) := fun E v e => by
      simp only [rg, val, b0] at e ⊢
      simpa [I, val] using e
    have e3 : I x.b.i = I 0 := by rw [b0]
    have e4 : I x.op = I 1 := by rw [q]
    unfold enc enc1 cI
    rw [e3, e4]
    exact .cons Le.rfl (.cons e1 (.cons Le.rfl (.cons Le.rfl (.cons Le.rfl (.cons e2 LeL.rfl)))))
  · rw [if_neg (by omega)]
    obtain ⟨k1, k2, _⟩ := h.k1 q
    have e1 : Le (.rng 0 14 x.k) (knd x.k) := fun E v e => by
      simp only [knd, val] at e ⊢
      rw [if_pos ⟨by omega, k2⟩] at e
      rw [if_pos ⟨k1, k2⟩]
      exact e
    have e4 : I x.op = I 2 := by rw [q]
    unfold enc enc2 cI
    rw [e4]
    exact .cons Le.rfl (.cons e1 LeL.rfl)
/-- Agree, from the cells as they lie. -/
theorem agree_at {x0 y0 x y : Pn.In} {c3 c4 : List SV} (hx0 : x0.op = 2) (hy0 : y0.op = 2) (ix0 : Pn.IOk 3 x0) (iy0 : Pn.IOk 3 y0) (ix : Pn.IOk 3 x) (iy : Pn.IOk 3 y) (hr : Pn.run2 A B C x y = Pn.run2 A B C x0 y0) (h3 : LeL c3 (enc2 3 x0)) (h4 : LeL c4 (enc2 4 y0)) :
    CallOk Tryz.prog W0 8 A8 ⟨HG A B C c3 c4 (enc x.op 3 x) (enc y.op 4 y), 60, 0, 0⟩ ⟨.e, 400, 0, 0⟩ (.bool true) := by
  have le := HG_le (A := A) (B := B) (C := C) h3 h4 (le_encG (to := 3) ix) (le_encG (to := 4) iy)
  exact (agree_ok hx0 hy0 ix0 iy0 ix iy hr).pre (fun E w r => rel_le le r) fun id o h => by
    obtain ⟨o2, h2, _⟩ := le id o h
    exact ⟨o2, h2⟩
end Go.Proofs.YtgoccionghehoaaGreatDoor.Ev
namespace Go.Proofs.YtgoccionghehoaaGreatDoor.Ev
open Go Go.Proofs

variable {W0 : World} [GOk W0]
noncomputable def cellsOf (hp : Tr SO) (id : Nat) : List SV := match rowL (hp.get id) with
  | some (_, l) => l
  | none => []
/-- An operation's numbers. -/
def inOf (l : List SV) : Pn.In := ⟨2, numI (l.getD 1 nilV), ⟨numI (l.getD 3 nilV), numI (l.getD 4 nilV)⟩, ⟨numI (l.getD 5 nilV), numI (l.getD 6 nilV)⟩⟩
where nilV : SV := .bool false
/-- The kind with its bounds. -/
noncomputable def kndL (l : List SV) : List SV := I 2 :: knd (inOf l).k :: l.drop 2
noncomputable def sv6n : SV := .tup [.agg [.slr 45 0 3 0, nilS, .slr 42 0 1 0, I 0], nilS, I 0]
noncomputable def sv6s (n : Nat) : SV := .tup [.agg [.slr 45 0 3 0, nilS, .slr 42 0 1 0, I 0], .sla 51 n, I 0]
noncomputable def g6 (A B C : Int) (c3 c4 : List SV) (F : Pn.St) : Tr SO := HG A B C c3 c4 (enc F.x.op 3 F.x) (enc F.y.op 4 F.y)
def cl6 : List Nat := [1, 17, 26, 27]
def nw6 : List Nat := [42, 43, 44, 45, 51]
def ro6 : List Nat := [1, 17, 26, 27, 42, 43, 44, 45]
noncomputable def H6 (W0 : World) [GOk W0] (l : List SV) (h : HS) (k : SV → HS → Bool) : Bool := match l with
  | .agg (s17 :: _ :: s27 :: _) :: _ => (fun cc ff => (fun bl => (fun co => (fun cs => (fun c3 c4 A B C => (fun F : Pn.St =>
      bif F.u.isNone then callC Tryz.prog W0 6 [bl, cc, co, ff] cl6 nw6 ro6 [5] (g6 A B C (kndL c3) (kndL c4) F) sv6n 29 60 29 60 l h k
      else callC Tryz.prog W0 6 [bl, cc, co, ff] cl6 nw6 ro6 [5] (g6 A B C (kndL c3) (kndL c4) F) (sv6s (Pn.cnt F.u)) 29 60 29 60 l h k)
      (Pn.pass ⟨inOf c3, inOf c4, none⟩)) ((cs.drop 39).take 13) ((cs.drop 52).take 13) (numI (cellOf h.hp cc 1)) (numI (cellOf h.hp cc 3)) (numI (cellOf h.hp cc 5))) (cellsOf h.hp co)) (idOf (cellOf h.hp bl 0))) (idOf (cellOf h.hp ff 5))) (idOf s17) (idOf s27)
  | _ => false
noncomputable def H8 (W0 : World) [GOk W0] (l : List SV) (h : HS) (k : SV → HS → Bool) : Bool := match l with
  | .agg (s17 :: _ :: s27 :: _) :: .agg (s45 :: _ :: s42 :: _) :: _ => (fun cc ff dd gg => (fun bl bn => (fun co cn =>
      callC Tryz.prog W0 8 [bl, cc, co, ff, gg, bn, cn, dd] hgL [] [] [] .e (.bool true) 60 400 0 h.nx l h k) (idOf (cellOf h.hp bl 0)) (idOf (cellOf h.hp bn 0))) (idOf (cellOf h.hp ff 5)) (idOf (cellOf h.hp gg 5))) (idOf s17) (idOf s27) (idOf s45) (idOf s42)
  | _ => false
noncomputable def H9 (W0 : World) [GOk W0] (l : List SV) (h : HS) (k : SV → HS → Bool) : Bool := match l with
  | [] => andR (k (.bool true) h) (grdA Tryz.prog W0 9 [] (.bool true))
  | _ => false
noncomputable def cF (W0 : World) [GOk W0] : CallK := fun t l h k => match t with
  | .fn f => bif Nat.beq f 6 then H6 W0 l h k else bif Nat.beq f 8 then H8 W0 l h k else bif Nat.beq f 9 then H9 W0 l h k else bif hasBody Tryz.prog f then fnRunJ Tryz.prog f 100 (callG Tryz.prog W0 [] 100 30) l h k else false
  | .yl _ => false
theorem H6_ok {l : List SV} {h : HS} {k : SV → HS → Bool} (hk : H6 W0 l h k = true) : ∃ sv h', k sv h' = true ∧ Goes h h' ∧ CallOk Tryz.prog W0 6 l h h' sv := by
  unfold H6 at hk
  split at hk
  case h_2 => cases hk
  rename_i s17 x1 s27 x2 x3
  generalize idOf s17 = cc at hk
  generalize idOf s27 = ff at hk
  generalize idOf (cellOf h.hp ff 5) = bl at hk
  generalize idOf (cellOf h.hp bl 0) = co at hk
  generalize cellsOf h.hp co = cs at hk
  generalize (cs.drop 39).take 13 = c3 at hk
  generalize (cs.drop 52).take 13 = c4 at hk
  generalize Pn.pass ⟨inOf c3, inOf c4, none⟩ = F at hk
  rcases bif_cases hk with ⟨_, k1⟩ | ⟨_, k1⟩
  · exact callC_ok k1
  · exact callC_ok k1
theorem H8_ok {l : List SV} {h : HS} {k : SV → HS → Bool} (hk : H8 W0 l h k = true) : ∃ sv h', k sv h' = true ∧ Goes h h' ∧ CallOk Tryz.prog W0 8 l h h' sv := by
  unfold H8 at hk
  split at hk
  case h_2 => cases hk
  exact callC_ok hk
theorem H9_ok {l : List SV} {h : HS} {k : SV → HS → Bool} (hk : H9 W0 l h k = true) : ∃ sv h', k sv h' = true ∧ Goes h h' ∧ CallOk Tryz.prog W0 9 l h h' sv := by
  unfold H9 at hk
  split at hk
  case h_2 => cases hk
  obtain ⟨k1, k2⟩ := andR_true.1 hk
  exact ⟨_, h, k1, Goes.refl h, grdA_ok k2 h⟩
theorem cF_ok : CallSound Tryz.prog W0 (cF W0) := by
  intro t l h k hk
  cases t with
  | yl id => cases hk
  | fn f =>
    unfold cF at hk
    rcases bif_cases hk with ⟨e, k1⟩ | ⟨_, k1⟩
    · obtain rfl := Nat.eq_of_beq_eq_true e
      exact H6_ok k1
    rcases bif_cases k1 with ⟨e, k2⟩ | ⟨_, k2⟩
    · obtain rfl := Nat.eq_of_beq_eq_true e
      exact H8_ok k2
    rcases bif_cases k2 with ⟨e, k3⟩ | ⟨_, k3⟩
    · obtain rfl := Nat.eq_of_beq_eq_true e
      exact H9_ok k3
    obtain ⟨e, k4⟩ := bif_true k3
    exact fnRunJ_ok (cN_ok (W0 := W0)) mixed e k4
section
variable (W0 : World) [GOk W0] (A B C : Int)
noncomputable def D6 (c3 c4 : List SV) (F : Pn.St) (sv : SV) : Bool := dec (CallOk Tryz.prog W0 6 A6 ⟨oldH (Old6 A B C c3 c4), 29, 0, 29⟩ ⟨g6 A B C (kndL c3) (kndL c4) F, 60, 0, 29⟩ sv)
noncomputable def D8 (c3 c4 : List SV) (F : Pn.St) : Bool := dec (CallOk Tryz.prog W0 8 A8 ⟨g6 A B C (kndL c3) (kndL c4) F, 60, 0, 0⟩ ⟨.e, 400, 0, 0⟩ (.bool true))
noncomputable def leaf (Q : Bool) (c3 c4 : List SV) : Bool := (fun F : Pn.St =>
  bif F.u.isNone then andR (andR (andR Q (grdA Tryz.prog W0 9 [] (.bool true))) (D8 W0 A B C c3 c4 F)) (D6 W0 A B C c3 c4 F sv6n)
  else andR (andR (andR Q (grdA Tryz.prog W0 9 [] (.bool true))) (D8 W0 A B C c3 c4 F)) (D6 W0 A B C c3 c4 F (sv6s (Pn.cnt F.u)))) (Pn.pass ⟨inOf c3, inOf c4, none⟩)
end
/-- A bit of the last argument. -/
def bitK (kn : Int) (s : Nat) : Bool := IntKind.u8.wrap ((BitVec.ofInt IntKind.u8.bits (kn.fdiv (2 ^ min s IntKind.u8.bits)) &&& BitVec.ofInt IntKind.u8.bits 1).toNat : Int) == 1
noncomputable def kK (K : Int) : Int := IntKind.i64.wrap (1 + (IntKind.i64.wrap K).tmod 14)
noncomputable def binL (k : SV) (to : Int) (a b : SV × SV) : List SV := [I 2, k, I to, a.1, a.2, b.1, b.2, I 0, I 0, I 0, nilS, nilS, nilS]
noncomputable def tree3 (W0 : World) [GOk W0] (K N A B C kn : Int) (Q : Bool) : Bool := (bif bitK kn 0 then (bif bitK kn 1 then (bif bitK kn 2 then (bif bitK kn 3 then (bif bitK kn 4 then leaf W0 A B C Q (binL (I (kK K)) 3 (I (-1), I A) (I (-1), I B)) (binL (I (kK N)) 4 (I (-1), I C) (I (-1), I C)) else leaf W0 A B C Q (binL (I (kK K)) 3 (I (-1), I A) (I (-1), I B)) (binL (I (kK N)) 4 (I (-1), I C) (I 3, I 0))) else (bif bitK kn 4 then leaf W0 A B C Q (binL (I (kK K)) 3 (I (-1), I A) (I (-1), I B)) (binL (I (kK N)) 4 (I 3, I 0) (I 3, I 0)) else leaf W0 A B C Q (binL (I (kK K)) 3 (I (-1), I A) (I (-1), I B)) (binL (I (kK N)) 4 (I 3, I 0) (I (-1), I C)))) else (bif bitK kn 3 then (bif bitK kn 4 then leaf W0 A B C Q (binL (I (kK K)) 3 (I (-1), I A) (I (-1), I B)) (binL (I (kK N)) 4 (I 2, I 0) (I 2, I 0)) else leaf W0 A B C Q (binL (I (kK K)) 3 (I (-1), I A) (I (-1), I B)) (binL (I (kK N)) 4 (I 2, I 0) (I 3, I 0))) else (bif bitK kn 4 then leaf W0 A B C Q (binL (I (kK K)) 3 (I (-1), I A) (I (-1), I B)) (binL (I (kK N)) 4 (I 3, I 0) (I 3, I 0)) else leaf W0 A B C Q (binL (I (kK K)) 3 (I (-1), I A) (I (-1), I B)) (binL (I (kK N)) 4 (I 3, I 0) (I 2, I 0))))) else (bif bitK kn 2 then (bif bitK kn 3 then (bif bitK kn 4 then leaf W0 A B C Q (binL (I (kK K)) 3 (I (-1), I A) (I 1, I 0)) (binL (I (kK N)) 4 (I (-1), I C) (I (-1), I C)) else leaf W0 A B C Q (binL (I (kK K)) 3 (I (-1), I A) (I 1, I 0)) (binL (I (kK N)) 4 (I (-1), I C) (I 3, I 0))) else (bif bitK kn 4 then leaf W0 A B C Q (binL (I (kK K)) 3 (I (-1), I A) (I 1, I 0)) (binL (I (kK N)) 4 (I 3, I 0) (I 3, I 0)) else leaf W0 A B C Q (binL (I (kK K)) 3 (I (-1), I A) (I 1, I 0)) (binL (I (kK N)) 4 (I 3, I 0) (I (-1), I C)))) else (bif bitK kn 3 then (bif bitK kn 4 then leaf W0 A B C Q (binL (I (kK K)) 3 (I (-1), I A) (I 1, I 0)) (binL (I (kK N)) 4 (I 2, I 0) (I 2, I 0)) else leaf W0 A B C Q (binL (I (kK K)) 3 (I (-1), I A) (I 1, I 0)) (binL (I (kK N)) 4 (I 2, I 0) (I 3, I 0))) else (bif bitK kn 4 then leaf W0 A B C Q (binL (I (kK K)) 3 (I (-1), I A) (I 1, I 0)) (binL (I (kK N)) 4 (I 3, I 0) (I 3, I 0)) else leaf W0 A B C Q (binL (I (kK K)) 3 (I (-1), I A) (I 1, I 0)) (binL (I (kK N)) 4 (I 3, I 0) (I 2, I 0)))))) else (bif bitK kn 1 then (bif bitK kn 2 then (bif bitK kn 3 then (bif bitK kn 4 then leaf W0 A B C Q (binL (I (kK K)) 3 (I 0, I 0) (I (-1), I B)) (binL (I (kK N)) 4 (I (-1), I C) (I (-1), I C)) else leaf W0 A B C Q (binL (I (kK K)) 3 (I 0, I 0) (I (-1), I B)) (binL (I (kK N)) 4 (I (-1), I C) (I 3, I 0))) else (bif bitK kn 4 then leaf W0 A B C Q (binL (I (kK K)) 3 (I 0, I 0) (I (-1), I B)) (binL (I (kK N)) 4 (I 3, I 0) (I 3, I 0)) else leaf W0 A B C Q (binL (I (kK K)) 3 (I 0, I 0) (I (-1), I B)) (binL (I (kK N)) 4 (I 3, I 0) (I (-1), I C)))) else (bif bitK kn 3 then (bif bitK kn 4 then leaf W0 A B C Q (binL (I (kK K)) 3 (I 0, I 0) (I (-1), I B)) (binL (I (kK N)) 4 (I 2, I 0) (I 2, I 0)) else leaf W0 A B C Q (binL (I (kK K)) 3 (I 0, I 0) (I (-1), I B)) (binL (I (kK N)) 4 (I 2, I 0) (I 3, I 0))) else (bif bitK kn 4 then leaf W0 A B C Q (binL (I (kK K)) 3 (I 0, I 0) (I (-1), I B)) (binL (I (kK N)) 4 (I 3, I 0) (I 3, I 0)) else leaf W0 A B C Q (binL (I (kK K)) 3 (I 0, I 0) (I (-1), I B)) (binL (I (kK N)) 4 (I 3, I 0) (I 2, I 0))))) else (bif bitK kn 2 then (bif bitK kn 3 then (bif bitK kn 4 then leaf W0 A B C Q (binL (I (kK K)) 3 (I 0, I 0) (I 1, I 0)) (binL (I (kK N)) 4 (I (-1), I C) (I (-1), I C)) else leaf W0 A B C Q (binL (I (kK K)) 3 (I 0, I 0) (I 1, I 0)) (binL (I (kK N)) 4 (I (-1), I C) (I 3, I 0))) else (bif bitK kn 4 then leaf W0 A B C Q (binL (I (kK K)) 3 (I 0, I 0) (I 1, I 0)) (binL (I (kK N)) 4 (I 3, I 0) (I 3, I 0)) else leaf W0 A B C Q (binL (I (kK K)) 3 (I 0, I 0) (I 1, I 0)) (binL (I (kK N)) 4 (I 3, I 0) (I (-1), I C)))) else (bif bitK kn 3 then (bif bitK kn 4 then leaf W0 A B C Q (binL (I (kK K)) 3 (I 0, I 0) (I 1, I 0)) (binL (I (kK N)) 4 (I 2, I 0) (I 2, I 0)) else leaf W0 A B C Q (binL (I (kK K)) 3 (I 0, I 0) (I 1, I 0)) (binL (I (kK N)) 4 (I 2, I 0) (I 3, I 0))) else (bif bitK kn 4 then leaf W0 A B C Q (binL (I (kK K)) 3 (I 0, I 0) (I 1, I 0)) (binL (I (kK N)) 4 (I 3, I 0) (I 3, I 0)) else leaf W0 A B C Q (binL (I (kK K)) 3 (I 0, I 0) (I 1, I 0)) (binL (I (kK N)) 4 (I 3, I 0) (I 2, I 0)))))))
theorem run3 (K N A B C kn : Int) (q : SV → Bool) : fnRunJ Tryz.prog 3 100 (cF W0) [.agg [.int .u8 K, .int .u8 N, I A, I B, I C], .int .u8 kn] ⟨.e, 0, 0, 0⟩ (fun s h' => q s) = tree3 W0 K N A B C kn (q (.bool true)) := by kernel_rfl
end Go.Proofs.YtgoccionghehoaaGreatDoor.Ev
