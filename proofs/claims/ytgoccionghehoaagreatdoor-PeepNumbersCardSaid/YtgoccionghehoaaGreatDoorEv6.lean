/- Objects numbered anew; calls whose ends are found as they run; calls looked at with fewer objects. Loops: one of them by those who know it, the others unrolled. Calls of functions that leave everything as it is: known by their arguments and some objects. Calls told under numbers of one's own choice. Closed calls: what they lay, placed wherever they are called. -/
import Derived.Test.YtgoccionghehoaaGreatDoorEv5
set_option linter.unusedSimpArgs false
set_option linter.unusedVariables false
set_option linter.unusedSectionVars false
namespace Go.Proofs.YtgoccionghehoaaGreatDoor.Ev
open Go

variable [GTab] {P : Program} {W0 : World} [GOk W0]
mutual
/-- Under other numbers. -/
def svMap (σ : Nat → Nat) : SV → SV
  | .ptr id off => .ptr (σ id) off
  | .sl id off len cap => .sl (σ id) off len cap
  | .slr id off len skip => .slr (σ id) off len skip
  | .sla id len => .sla (σ id) len
  | .emp j id off skip => .emp j (σ id) off skip
  | .map id => .map (σ id)
  | .yld id => .yld (σ id)
  | .fn f a b => .fn f (svsMap σ a) (svsMap σ b)
  | .iface t v => .iface t (svMap σ v)
  | .agg l => .agg (svsMap σ l)
  | .tup l => .tup (svsMap σ l)
  | s => s
def svsMap (σ : Nat → Nat) : List SV → List SV
  | [] => []
  | s :: r => svMap σ s :: svsMap σ r
end
mutual
/-- Its objects are among these; nothing frozen. -/
def svPl (p : Nat → Bool) : SV → Bool
  | .ptr id _ => p id
  | .sl id _ _ _ => p id
  | .slr id _ _ _ => p id
  | .sla id _ => p id
  | .emp _ _ _ _ => false
  | .esl _ _ _ _ => false
  | .epl _ _ _ _ => false
  | .map id => p id
  | .yld id => p id
  | .fn _ a b => svsPl p a && svsPl p b
  | .iface _ v => svPl p v
  | .agg l => svsPl p l
  | .tup l => svsPl p l
  | _ => true
def svsPl (p : Nat → Bool) : List SV → Bool
  | [] => true
  | s :: r => svPl p s && svsPl p r
end
section
variable {E E2 : Env} {p : Nat → Bool} {σ : Nat → Nat} (h : ∀ id, p id = true → E2.at_ id = E.at_ (σ id))
include h
mutual
theorem val_ren : ∀ (s : SV), svPl p s = true → val E2 s = val E (svMap σ s)
  | .bool _, _ => rfl
  | .int _ _, _ => rfl
  | .lit _, _ => rfl
  | .mks _, _ => rfl
  | .rng _ _ _, _ => rfl
  | .ptr id off, e => by simp only [val, svMap, h id e]
  | .sl id _ _ _, e => by simp only [val, svMap, h id e]
  | .slr id _ _ _, e => by simp only [val, svMap, h id e]
  | .sla id _, e => by simp only [val, svMap, h id e]
  | .map id, e => by simp only [val, svMap, h id e]
  | .yld id, e => by simp only [val, svMap, h id e]
  | .fn f a b, e => by
    simp only [svPl, Bool.and_eq_true] at e
    simp only [val, svMap, vals_ren a e.1, vals_ren b e.2]
  | .iface t v, e => by
    simp only [svPl] at e
    simp only [val, svMap, val_ren v e]
  | .agg l, e => by
    simp only [svPl] at e
    simp only [val, svMap, vals_ren l e]
  | .tup l, e => by
    simp only [svPl] at e
    simp only [val, svMap, vals_ren l e]
theorem vals_ren : ∀ (l : List SV), svsPl p l = true → vals E2 l = vals E (svsMap σ l)
  | [], _ => rfl
  | s :: r, e => by
    simp only [svsPl, Bool.and_eq_true] at e
    simp only [vals, svsMap, val_ren s e.1, vals_ren r e.2]
end
end
mutual
theorem svMap_id : ∀ (s : SV), svMap (fun i => i) s = s
  | .bool _ => rfl
  | .int _ _ => rfl
  | .lit _ => rfl
  | .mks _ => rfl
  | .rng _ _ _ => rfl
  | .ptr _ _ => rfl
  | .sl _ _ _ _ => rfl
  | .slr _ _ _ _ => rfl
  | .sla _ _ => rfl
  | .emp _ _ _ _ => rfl
  | .esl _ _ _ _ => rfl
  | .epl _ _ _ _ => rfl
  | .map _ => rfl
  | .yld _ => rfl
  | .fn f a b => by simp only [svMap, svsMap_id a, svsMap_id b]
  | .iface t v => by simp only [svMap, svMap_id v]
  | .agg l => by simp only [svMap, svsMap_id l]
  | .tup l => by simp only [svMap, svsMap_id l]
theorem svsMap_id : ∀ (l : List SV), svsMap (fun i => i) l = l
  | [] => rfl
  | s :: r => by simp only [svsMap, svMap_id s, svsMap_id r]
end
/-- Plain: the same under environments that agree. -/
theorem val_pl {E E2 : Env} {p : Nat → Bool} (h : ∀ id, p id = true → E2.at_ id = E.at_ id) {s : SV} (e : svPl p s = true) : val E2 s = val E s := by
  rw [val_ren (E := E) (E2 := E2) (σ := fun i => i) h s e, svMap_id]
theorem vals_pl {E E2 : Env} {p : Nat → Bool} (h : ∀ id, p id = true → E2.at_ id = E.at_ id) {s : List SV} (e : svsPl p s = true) : vals E2 s = vals E s := by
  rw [vals_ren (E := E) (E2 := E2) (σ := fun i => i) h s e, svsMap_id]
/-- An object under other numbers. -/
def SoRen (σ : Nat → Nat) (p : Nat → Bool) : SO → SO → Prop
  | .row n sz t, .row n2 sz2 t2 => n = n2 ∧ sz = sz2 ∧ trAll (svPl p) t2 = true ∧ (List.range n).map t.get = (List.range n).map fun i => (t2.get i).map (svMap σ)
  | .any sz, .any sz2 => sz = sz2
  | _, _ => False
theorem obj_ren {E E2 : Env} {p : Nat → Bool} {σ : Nat → Nat} (h : ∀ id, p id = true → E2.at_ id = E.at_ (σ id)) {s : Spot} {w : World} {o o2 : SO} (r : SoRen σ p o o2) (k : objOk E s w o) : objOk E2 s w o2 := by
  cases o <;> cases o2 <;> try exact r.elim
  case row.row n sz t n2 sz2 t2 =>
    obtain ⟨rfl, rfl, h3, h4⟩ := r
    obtain ⟨c, ty, a, b, d, e⟩ := k
    refine ⟨c, ty, a, b, d, fun i hi => ?_⟩
    obtain ⟨sv, v, e1, e2, e3, e4⟩ := e i hi
    have h4 := List.map_inj_left.1 h4 i (List.mem_range.2 hi)
    rw [e1] at h4
    cases ht : t2.get i with
    | none => rw [ht] at h4; cases h4
    | some sv2 =>
      rw [ht, Option.map_some, Option.some.injEq] at h4
      refine ⟨sv2, v, ht, ?_, e3, e4⟩
      rw [val_ren h sv2 (trAll_get h3 ht), ← h4]
      exact e2
  case any.any sz sz2 =>
    have r : sz = sz2 := r
    subst r
    exact k
/-- Objects under other numbers: some of them. -/
structure HpRen (σ : Nat → Nat) (p : Nat → Bool) (g g2 : Tr SO) : Prop where
  obj : ∀ id o2, g2.get id = some o2 → ∃ o, g.get (σ id) = some o ∧ SoRen σ p o o2
  dom : ∀ id o2, g2.get id = some o2 → p id = true
  inj : ∀ id id', p id = true → p id' = true → σ id = σ id' → id = id'
theorem Rel.ren {E E2 : Env} {p : Nat → Bool} {σ : Nat → Nat} {g g2 : Tr SO} {w : World} (r : Rel W0 E g.get w) (k : HpRen σ p g g2) (h : ∀ id, p id = true → E2.at_ id = E.at_ (σ id)) (hz : ∀ j A z, E2.emp j = some (A, some z) → FzOk E2 A z w) (hf : ∀ j a z id o s, E2.emp j = some (some a, some z) → g2.get id = some o → E2.at_ id = some s → s.blk ≠ a.block) : Rel W0 E2 g2.get w := by
  refine ⟨r.below, fun id o e => ?_, fun id id' o o' s s' e e' a a' b => ?_, hz, hf⟩
  · obtain ⟨o1, e1, e2⟩ := k.obj id o e
    obtain ⟨s, a, b, c⟩ := r.obj _ _ e1
    exact ⟨s, by rw [h id (k.dom id o e)]; exact a, b, obj_ren h e2 c⟩
  · obtain ⟨o1, e1, e2⟩ := k.obj id o e
    obtain ⟨o1', e1', e2'⟩ := k.obj id' o' e'
    rw [h id (k.dom id o e)] at a
    rw [h id' (k.dom id' o' e')] at a'
    exact k.inj id id' (k.dom id o e) (k.dom id' o' e') (r.inj _ _ _ _ _ _ e1 e1' a a' b)
/-- A call's end under other numbers. -/
theorem CallOk.ren {f : FuncId} {l : List SV} {h h1 h2 : HS} {sv sv2 : SV} {σ : Nat → Nat} {p : Nat → Bool} (c : CallOk P W0 f l h h1 sv) (g1 : Goes h h1) (k : HpRen σ p h1.hp h2.hp) (hnx : h1.nx ≤ h2.nx) (hne : h1.ne ≤ h2.ne)
    (hp : ∀ id, p id = true → (id < h.nx ∧ σ id = id) ∨ (h.nx ≤ id ∧ id < h2.nx ∧ h.nx ≤ σ id ∧ σ id < h1.nx)) (hs : svMap σ sv2 = sv) (hpl : svPl p sv2 = true) (hd : ∀ id o, h2.hp.get id = some o → ∃ o', h1.hp.get (σ id) = some o') : CallOk P W0 f l h h2 sv2 := by
  intro E w vl rel fe hv R hR
  refine c E w vl rel ⟨fun id a b => fe.at_ id a (by omega), fun j a b => fe.emp j a (by omega)⟩ hv R fun E' v w' e r st => ?_
  let E2 : Env := ⟨fun id => if id < h.nx then E.at_ id else if id < h2.nx then (if h.nx ≤ σ id ∧ σ id < h1.nx then E'.at_ (σ id) else none) else E.at_ id, E'.emp⟩
  have e2 : ∀ id, p id = true → E2.at_ id = E'.at_ (σ id) := fun id hid => by
    show (if id < h.nx then E.at_ id else if id < h2.nx then (if h.nx ≤ σ id ∧ σ id < h1.nx then E'.at_ (σ id) else none) else E.at_ id) = _
    rcases hp id hid with ⟨a, b⟩ | ⟨a, b, c, d⟩
    · rw [if_pos a, b, st.dom id (by omega)]
    · rw [if_neg (by omega), if_pos b, if_pos ⟨c, d⟩]
  have el : E.le E2 := by
    refine ⟨fun id s a => ?_, fun j q a => st.le.2 j q a⟩
    show (if id < h.nx then E.at_ id else if id < h2.nx then (if h.nx ≤ σ id ∧ σ id < h1.nx then E'.at_ (σ id) else none) else E.at_ id) = _
    split
    · exact a
    split
    · rw [fe.at_ id (by omega) (by omega)] at a; cases a
    · exact a
  refine hR E2 v w' (by rw [val_ren e2 sv2 hpl, hs]; exact e) (r.ren k e2 (fun j A z a => ?_) fun j a z id o s b c d => ?_) ⟨el, fun id hid => ?_, fun j hj => st.dome j (by omega), st.size, st.touch, fun id s a b q => ?_, fun j a z q1 q2 q => ?_⟩
  · have q := r.fz j A z a
    refine ⟨q.1, q.2.1, fun i r hi hr => ?_⟩
    obtain ⟨a, v, p, q, u, x⟩ := q.2.2 i r hi hr
    exact ⟨a, v, p, by rw [val_own0 (E := E') (E' := E2) (fun j => rfl) _ (own0_cell _ _ _)]; exact q, u, x⟩
  · rw [e2 id (k.dom id o c)] at d
    obtain ⟨o', q⟩ := hd id o c
    exact r.frz j a z _ o' s b q d
  · show (if id < h.nx then E.at_ id else if id < h2.nx then (if h.nx ≤ σ id ∧ σ id < h1.nx then E'.at_ (σ id) else none) else E.at_ id) = _
    split
    · rfl
    · rw [if_neg (by omega)]
  · have q : (if id < h.nx then E.at_ id else if id < h2.nx then (if h.nx ≤ σ id ∧ σ id < h1.nx then E'.at_ (σ id) else none) else E.at_ id) = some s := q
    rw [if_neg (by omega), if_pos b] at q
    split at q
    · rename_i c; exact st.fresh (σ id) s c.1 c.2 q
    · cases q
  · by_cases q' : j < h1.ne
    · exact st.fzn j a z q1 q' q
    · have q : E'.emp j = some (some a, some z) := q
      rw [st.dome j (by omega), fe.emp j q1 q2] at q; cases q
/-- More objects are known at the start than are looked at. -/
theorem CallOk.more {f : FuncId} {l : List SV} {g : Tr SO} {nx ne b b' : Nat} {h h' : HS} {sv : SV} (c : CallOk P W0 f l ⟨g, nx, ne, b⟩ h' sv) (hg : ∀ id o, g.get id = some o → h.hp.get id = some o) (hb : ∀ id o, b ≤ id → g.get id = some o → h.bar ≤ id) (hn : h.nx = nx) (hm : h.ne = ne) : CallOk P W0 f l h h' sv := by
  intro E w vl rel fe hv R hR
  refine c E w vl ⟨rel.below, fun id o e => rel.obj id o (hg id o e), fun id id' o o' s s' a b => rel.inj id id' o o' s s' (hg _ _ a) (hg _ _ b), rel.fz, fun j a z id o s e b => rel.frz j a z id o s e (hg _ _ b)⟩ (by rw [← hn, ← hm]; exact fe) hv R fun E' v w' e r st => hR E' v w' e r ?_
  have st : Step b g.get nx h'.nx ne h'.ne E E' w w' := st
  rw [hn, hm]
  exact ⟨st.le, st.dom, st.dome, st.size, fun k hk ho => st.touch k hk fun id s o q a d => ho id s o (hb id o q a) (hg _ _ a) d, fun id s x y q => (st.fresh id s x y q).imp (fun q => q) fun ⟨i0, s0, o, q1, q2, q3, q4⟩ => ⟨i0, s0, o, hb i0 o q1 q2, hg _ _ q2, q3, q4⟩, fun j a z x y q => (st.fzn j a z x y q).imp (fun q => q) fun ⟨i0, s0, o, q1, q2, q3, q4⟩ => ⟨i0, s0, o, hb i0 o q1 q2, hg _ _ q2, q3, q4⟩⟩
/-- All that is held refers to numbers below n, and to nothing frozen. -/
noncomputable def soPl (p : Nat → Bool) : SO → Bool
  | .row _ _ t => trAll (svPl p) t
  | .any _ => true
  | _ => false
theorem obj_pl {E E2 : Env} {p : Nat → Bool} (h : ∀ id, p id = true → E2.at_ id = E.at_ id) {s : Spot} {w : World} {o : SO} (ho : soPl p o = true) (k : objOk E s w o) : objOk E2 s w o := by
  cases o with
  | row m sz t =>
    obtain ⟨c, ty, a, b, d, e⟩ := k
    refine ⟨c, ty, a, b, d, fun i hi => ?_⟩
    obtain ⟨sv, v, e1, e2, e3, e4⟩ := e i hi
    exact ⟨sv, v, e1, by rw [val_pl h (trAll_get ho e1)]; exact e2, e3, e4⟩
  | any sz => exact k
  | mp _ _ => cases ho
  | lp _ _ _ _ _ _ _ _ => cases ho
  | df => cases ho
  | ml _ => cases ho
structure Shut (p : Nat → Bool) (n : Nat) (g : Tr SO) : Prop where
  all : ∀ id o, g.get id = some o → soPl p o = true ∧ p id = true
  lt : ∀ id, p id = true → id < n
/-- A function whose end is found as it runs. -/
theorem call_of_HT {f : FuncId} {l : List SV} {h h' : HS} {sv : SV} {p p' : Nat → Bool} (hb : hasBody P f = true) (he : h.ne = 0) (he' : h'.ne = 0) (sh : Shut p h.nx h.hp) (sh' : Shut p' h'.nx h'.hp) (hl : svsPl p l = true) (hs : svPl p' sv = true) (g : Goes h h')
    (hr : ∀ E0 w0, HT P W0 h E0 w0 (nSl P f l.length) (bodyOf P f) (slots (l ++ undefs P f l.length)) h fun x fr' h1 => ∃ k : SV → HS → Bool, fnEnd P f (nSl P f l.length) k x fr' h1 = true ∧ (∀ s h2, k s h2 = true → s = sv) ∧ h1 = h') : CallOk P W0 f l h h' sv := by
  intro E w vl rel fe hv R hR
  have hb : (match P.funcs[f]? with | some fn => fn.body.isSome | none => false) = true := hb
  cases hfn : P.funcs[f]? with
  | none => rw [hfn] at hb; cases hb
  | some fn =>
  rw [hfn] at hb
  simp only at hb
  obtain ⟨c, hc⟩ := Option.isSome_iff_exists.1 hb
  have e1 : nSl P f l.length = l.length + (fn.ntmps - l.length) := by unfold nSl; rw [hfn]
  have e2 : bodyOf P f = c := by unfold bodyOf; rw [hfn]; simp [hc]
  have e3 : undefs P f l.length = List.replicate (fn.ntmps - l.length) (.lit undef) := by unfold undefs; rw [hfn]
  rw [e1, e2, e3] at hr
  let E0 : Env := ⟨fun id => if id < h.nx then E.at_ id else none, fun _ => none⟩
  have e0 : ∀ id, p id = true → E0.at_ id = E.at_ id := fun id hid => if_pos (sh.lt id hid)
  have rel0 : Rel W0 E0 h.hp.get w := ⟨rel.below, fun id o e => by
    obtain ⟨s, a, b, k⟩ := rel.obj id o e
    obtain ⟨q1, q2⟩ := sh.all id o e
    exact ⟨s, by rw [e0 id q2]; exact a, b, obj_pl e0 q1 k⟩, fun id id' o o' s s' a b p q => by
    rw [e0 id (sh.all id o a).2] at p
    rw [e0 id' (sh.all id' o' b).2] at q
    exact rel.inj id id' o o' s s' a b p q, fun j A z e => (by cases e), fun j a z id o s e => (by cases e)⟩
  have ff : FreeF E0 h := ⟨fun id a => if_neg (by omega), fun _ _ => rfl⟩
  have hv0 : vals E0 l = some vl := by rw [vals_pl e0 hl]; exact hv
  have hr := HT.frame (opd_start l (fn.ntmps - l.length)) (hr E0 w)
  refine (callsIn_wide (n := 0)).1 (callsIn_of_wp_marks hfn hc trivial (hr (Goes.refl h) E0 _ w rel0 ff (get_args l E0 vl hv0 fn.ntmps) (Anc.refl w ff) _ fun x fr' h1 E' a' w' q g1 r1 ff' fo' A e he1 => ?_))
  obtain ⟨k, hk, hks, rfl⟩ := q
  unfold fnEnd at hk
  rw [hfn] at hk
  simp only at hk
  obtain ⟨hx, hk⟩ := bif_true hk
  obtain ⟨hmk, hk⟩ := bif_false hk
  obtain ⟨r, k2, k3⟩ := resK_ok (W0 := W0) _ hk
  have hrs : oneSV r = sv := hks _ _ k2
  have hd : a'.defers = [] := by
    have := fo'.defers
    unfold DefOk at this
    split at this
    · rename_i l' hl'
      rw [show opd fr' (.tmp (l.length + (fn.ntmps - l.length))) = .mks l' from hl'] at hmk
      cases hmk
    · exact this
  obtain ⟨ul, u1, u2⟩ := k3 E' _ a' w' r1 fo'
  have hsv : val E' (oneSV r) = some (oneOf ul) := by
    match r, u1 with
    | [s], u1 =>
      simp only [vals, Option.bind_eq_some_iff, Option.map_eq_some_iff] at u1
      obtain ⟨x, hx, y, hy, rfl⟩ := u1
      simp only [Option.some.injEq] at hy
      subst hy
      exact hx
    | [], u1 =>
      simp only [vals, Option.some.injEq] at u1
      subst u1
      rfl
    | s :: u :: q, u1 =>
      have e' := u1
      simp only [vals, Option.bind_eq_some_iff, Option.map_eq_some_iff] at u1
      obtain ⟨x, hx, y, ⟨z, hz, t, ht, rfl⟩, rfl⟩ := u1
      simp only [oneSV, val, e', Option.map_some, oneOf]
  rw [hrs] at hsv
  let E2 : Env := ⟨fun id => if id < h1.nx then E'.at_ id else E.at_ id, E.emp⟩
  have n1 := g1.nx
  have q2 : ∀ id, p' id = true → E2.at_ id = E'.at_ id := fun id hid => if_pos (sh'.lt id hid)
  have old : ∀ id, id < h.nx → E'.at_ id = E.at_ id := fun id hid => by rw [A.at_ id hid]; exact if_pos hid
  have own : ∀ k, Own0 h E0 k → ∃ id s o, h.bar ≤ id ∧ h.hp.get id = some o ∧ E.at_ id = some s ∧ s.blk = k := fun k ⟨id, s, o, a, b, c, d⟩ => ⟨id, s, o, a, b, by rw [← e0 id (sh.all id o b).2]; exact c, d⟩
  have tch : ∀ k, k < w.heap.size → (∀ id s o, h.bar ≤ id → h.hp.get id = some o → E.at_ id = some s → s.blk ≠ k) → w'.heap[k]? = w.heap[k]? := fun k hk ho => A.touch k hk fun q => by
    obtain ⟨id, s, o, a, b, c, d⟩ := own k q
    exact ho id s o a b c d
  have el : E.le E2 := ⟨fun id s a => by
    show (if id < h1.nx then E'.at_ id else E.at_ id) = _
    split
    · by_cases q : id < h.nx
      · rw [old id q]; exact a
      · rw [fe.at_ id (by omega) (by omega)] at a; cases a
    · exact a, fun _ _ a => a⟩
  have main : LeavesInM Fence.wide 0 P fn a'.tmps R a'.defers .returning w' := by
    rw [hd]
    refine ⟨_, results_run u2, hR E2 _ w' (by rw [val_pl q2 hs]; exact hsv) ⟨r1.below, fun id o e => ?_, fun id id' o o' s s' a b p q => ?_, fun j A' z e => ?_, fun j a z id o s e b d => ?_⟩ ⟨el, fun id hid => ?_, fun j hj => rfl, A.size, tch, fun id s a b q => ?_, fun j a z b d q => ?_⟩⟩
    · obtain ⟨s, a, b, k⟩ := r1.obj id o e
      obtain ⟨z1, z2⟩ := sh'.all id o e
      exact ⟨s, by rw [q2 id z2]; exact a, b, obj_pl q2 z1 k⟩
    · rw [q2 id (sh'.all id o a).2] at p
      rw [q2 id' (sh'.all id' o' b).2] at q
      exact r1.inj id id' o o' s s' a b p q
    · have q := rel.fz j A' z e
      have q' : FzOk E A' z w' := q.of_heap fun a ha => tch _ (q.1 a ha) fun id s o x y u => by
        subst ha
        exact rel.frz j a z id o s e y u
      refine ⟨q'.1, q'.2.1, fun i r hi hr => ?_⟩
      obtain ⟨a, v, p, q, u, x⟩ := q'.2.2 i r hi hr
      exact ⟨a, v, p, by rw [val_own0 (E := E) (E' := E2) (fun j => rfl) _ (own0_cell _ _ _)]; exact q, u, x⟩
    · rw [q2 id (sh'.all id o b).2] at d
      have fz := rel.fz j _ z e
      have lt := fz.1 a rfl
      intro eq
      have lk : h.bar ≤ id ∨ id < h.bar := by omega
      by_cases hn : h.nx ≤ id
      · rcases A.own id s hn d with x | x
        · omega
        · obtain ⟨i0, s0, o0, x1, x2, x3, x4⟩ := own _ x
          exact rel.frz j a z i0 o0 s0 e x2 x3 (by rw [x4, eq])
      · rcases g1.live id o b with x | ⟨o0, x⟩
        · exact absurd x.1 hn
        · rw [old id (by omega)] at d
          exact rel.frz j a z id o0 s e x d eq
    · show (if id < h1.nx then E'.at_ id else E.at_ id) = _
      split
      · exact old id (by omega)
      · rfl
    · have q : (if id < h1.nx then E'.at_ id else E.at_ id) = some s := q
      rw [if_pos b] at q
      rcases A.own id s a q with x | x
      · exact .inl x
      · obtain ⟨i0, s0, o0, x1, x2, x3, x4⟩ := own _ x
        exact .inr ⟨i0, s0, o0, x1, x2, x3, x4⟩
    · omega
  cases x with
  | normal =>
    have he : e = .normal := he1
    subst he
    exact main
  | ret =>
    have he : e = .ret := he1
    subst he
    exact main
  | exit id => cases hx
  | panic s => cases hx
/-- What is known is told under other numbers. -/
theorem re_ren {h0 h1 h2 : HS} {E0 E : Env} {w0 w : World} {σ : Nat → Nat} {p : Nat → Bool} (rel : Rel W0 E h1.hp.get w) (A : Anc h0 E0 w0 E w) (k : HpRen σ p h1.hp h2.hp) (hz : h0.ne = 0)
    (hp : ∀ id, p id = true → (id < h0.nx ∧ σ id = id) ∨ (h0.nx ≤ id ∧ id < h2.nx ∧ h0.nx ≤ σ id)) (hn : h0.nx ≤ h2.nx) :
    ∃ E2, (∀ id, p id = true → E2.at_ id = E.at_ (σ id)) ∧ Rel W0 E2 h2.hp.get w ∧ FreeF E2 h2 ∧ Anc h0 E0 w0 E2 w := by
  refine ⟨⟨fun id => if id < h0.nx then E.at_ id else if p id = true then E.at_ (σ id) else none, fun _ => none⟩, fun id hid => ?_, ?_, ⟨fun id a => ?_, fun _ _ => rfl⟩, ?_⟩
  · show (if id < h0.nx then E.at_ id else if p id = true then E.at_ (σ id) else none) = _
    rcases hp id hid with ⟨a, b⟩ | ⟨a, b, c⟩
    · rw [if_pos a, b]
    · rw [if_neg (by omega), if_pos hid]
  · refine rel.ren k (fun id hid => ?_) (fun j A z a => by cases a) (fun j a z id o s b => by cases b)
    show (if id < h0.nx then E.at_ id else if p id = true then E.at_ (σ id) else none) = _
    rcases hp id hid with ⟨a, b⟩ | ⟨a, b, c⟩
    · rw [if_pos a, b]
    · rw [if_neg (by omega), if_pos hid]
  · show (if id < h0.nx then E.at_ id else if p id = true then E.at_ (σ id) else none) = none
    rw [if_neg (by omega)]
    split
    · rename_i q; rcases hp id q with ⟨x, y⟩ | ⟨x, y, z⟩ <;> omega
    · rfl
  · refine ⟨fun id hid => ?_, fun j hj => by omega, A.size, A.touch, fun id s a e => ?_, fun j a z _ e => by cases e⟩
    · show (if id < h0.nx then E.at_ id else if p id = true then E.at_ (σ id) else none) = _
      rw [if_pos hid]
      exact A.at_ id hid
    · have e : (if id < h0.nx then E.at_ id else if p id = true then E.at_ (σ id) else none) = some s := e
      rw [if_neg (by omega)] at e
      split at e
      · rename_i q
        rcases hp id q with ⟨x, y⟩ | ⟨x, y, z⟩
        · omega
        · exact A.own _ s z e
      · cases e
/-- A frame told anew: some slots under other numbers, the others by their values. -/
theorem FrOk.ren {E E2 : Env} {fr fr2 : Tr SV} {N : Nat} {a : Act} {σ : Nat → Nat} {p : Nat → Bool} (fo : FrOk E fr N a) (h : ∀ id, p id = true → E2.at_ id = E.at_ (σ id)) (hN : fr.get N = none) (hN2 : fr2.get N = none)
    (hf : ∀ t, (svPl p ((fr2.get t).getD (.lit undef)) = true ∧ svMap σ ((fr2.get t).getD (.lit undef)) = (fr.get t).getD (.lit undef)) ∨ (fr2.get t).getD (.lit undef) = .lit (a.tmps.getD t undef)) : FrOk E2 fr2 N a := by
  refine ⟨fo.size, ?_, fun t => ?_⟩
  · have := fo.defers
    rw [hN] at this
    rw [hN2]
    exact this
  · rcases hf t with ⟨q1, q2⟩ | q
    · rw [val_ren h _ q1, q2]; exact fo.get t
    · rw [q]; rfl
/-- A call seen at some objects, placed at others: told under other numbers, with more objects, the new ones wherever one likes. -/
theorem CallOk.place {f : FuncId} {l l2 : List SV} {g g1 : Tr SO} {n n1 b : Nat} {h h' : HS} {sv sv2 : SV} {τ ρ : Nat → Nat} {p0 p : Nat → Bool}
    (c : ∀ ne, CallOk P W0 f l ⟨g, n, ne, b⟩ ⟨g1, n1, ne, b⟩ sv) (gl : ∀ id o, g1.get id = some o → id < n → ∃ o0, g.get id = some o0)
    (k0 : HpRen τ p0 h.hp g) (hp0 : ∀ id, p0 id = true → id < n) (hl : svsMap τ l = l2) (hlp : svsPl p0 l = true)
    (hbar : ∀ id o, b ≤ id → g.get id = some o → h.bar ≤ τ id)
    (hp : ∀ id, p id = true → (id < h.nx ∧ ρ id < n ∧ τ (ρ id) = id) ∨ (h.nx ≤ id ∧ id < h'.nx ∧ n ≤ ρ id ∧ ρ id < n1))
    (k1 : ∀ id o, h'.hp.get id = some o → (p id = true ∧ ∃ o1, g1.get (ρ id) = some o1 ∧ SoRen ρ p o1 o) ∨ ((∀ i o, g.get i = some o → τ i ≠ id) ∧ id < h.nx ∧ h.hp.get id = some o))
    (inj : ∀ id id', p id = true → p id' = true → ρ id = ρ id' → id = id')
    (hs : svMap ρ sv2 = sv) (hsp : svPl p sv2 = true) (hnx : h.nx ≤ h'.nx) (hne : h'.ne = h.ne) : CallOk P W0 f l2 h h' sv2 := by
  intro E w vl rel fe hv R hR
  let E0 : Env := ⟨fun id => if id < n then E.at_ (τ id) else none, E.emp⟩
  have e0 : ∀ id, id < n → E0.at_ id = E.at_ (τ id) := fun id hid => if_pos hid
  have ep : ∀ id, p0 id = true → E0.at_ id = E.at_ (τ id) := fun id hid => e0 id (hp0 id hid)
  have gn : ∀ id o, g.get id = some o → id < n := fun id o e => hp0 id (k0.dom id o e)
  have rel0 : Rel W0 E0 g.get w := rel.ren k0 ep (fun j A z e => by
      have k := rel.fz j A z e
      refine ⟨k.1, k.2.1, fun i r hi hr => ?_⟩
      obtain ⟨a, v, p, q, u, x⟩ := k.2.2 i r hi hr
      exact ⟨a, v, p, by rw [val_own0 (E := E) (E' := E0) (fun _ => rfl) _ (own0_cell _ _ _)]; exact q, u, x⟩) fun j a z id o s e b d => by
      rw [e0 id (gn id o b)] at d
      obtain ⟨o', q, _⟩ := k0.obj id o b
      exact rel.frz j a z _ o' s e q d
  refine c h.ne E0 w vl rel0 ⟨fun id a _ => if_neg (by have a : n ≤ id := a; omega), fun j a b => absurd b (by have a : h.ne ≤ j := a; show ¬ j < h.ne; omega)⟩ (by rw [vals_ren (E := E) ep l hlp, hl]; exact hv) R fun E' v w' e r st => ?_
  have st : Step b g.get n n1 h.ne h.ne E0 E' w w' := st
  have r : Rel W0 E' g1.get w' := r
  have em : ∀ j, E'.emp j = E.emp j := fun j => st.dome j (by omega)
  have ed : ∀ id, id < n → E'.at_ id = E.at_ (τ id) := fun id hid => by rw [st.dom id (by omega)]; exact e0 id hid
  let E2 : Env := ⟨fun id => if id < h.nx then E.at_ id else if p id = true ∧ id < h'.nx then E'.at_ (ρ id) else E.at_ id, E.emp⟩
  have lo : ∀ id, id < h.nx → E2.at_ id = E.at_ id := fun id hid => if_pos hid
  have e2 : ∀ id, p id = true → E2.at_ id = E'.at_ (ρ id) := fun id hid => by
    rcases hp id hid with ⟨a, b, c⟩ | ⟨a, b, c, d⟩
    · rw [lo id a, ed _ b, c]
    · show (if id < h.nx then E.at_ id else if p id = true ∧ id < h'.nx then E'.at_ (ρ id) else E.at_ id) = _
      rw [if_neg (by omega), if_pos ⟨hid, b⟩]
  have back : ∀ i s o, g.get i = some o → E0.at_ i = some s → E.at_ (τ i) = some s ∧ ∃ o', h.hp.get (τ i) = some o' := fun i s o a d => by
    rw [e0 i (gn i o a)] at d
    obtain ⟨o', q, _⟩ := k0.obj i o a
    exact ⟨d, o', q⟩
  have tch : ∀ k, k < w.heap.size → (∀ id s o, h.bar ≤ id → h.hp.get id = some o → E.at_ id = some s → s.blk ≠ k) → w'.heap[k]? = w.heap[k]? := fun k hk ho => st.touch k hk fun id s o q a d => by
    obtain ⟨d', o', q'⟩ := back id s o a d
    exact ho _ s o' (hbar id o q a) q' d'
  have kept : ∀ id o s, (∀ i o, g.get i = some o → τ i ≠ id) → h.hp.get id = some o → E.at_ id = some s → s.blk < w.heap.size ∧ w'.heap[s.blk]? = w.heap[s.blk]? := fun id o s hk ho hs => by
    obtain ⟨s', a, _, k⟩ := rel.obj id o ho
    obtain rfl := Option.some.inj (a.symm.trans hs)
    refine ⟨k.lt, st.touch _ k.lt fun i s2 o' _ ho' hs' eq => ?_⟩
    obtain ⟨d', o2, q'⟩ := back i s2 o' ho' hs'
    exact hk i o' ho' (rel.inj _ _ _ _ _ _ q' ho d' hs eq)
  have el : E.le E2 := ⟨fun id s a => by
    by_cases q : id < h.nx
    · rw [lo id q]; exact a
    · show (if id < h.nx then E.at_ id else if p id = true ∧ id < h'.nx then E'.at_ (ρ id) else E.at_ id) = _
      rw [if_neg q]
      split
      · rename_i q2; rw [fe.at_ id (by omega) q2.2] at a; cases a
      · exact a, fun _ _ a => a⟩
  have cross : ∀ id o s id' o' s', p id = true → g1.get (ρ id) = some o → E'.at_ (ρ id) = some s → (∀ i o, g.get i = some o → τ i ≠ id') → h.hp.get id' = some o' → E.at_ id' = some s' → s.blk ≠ s'.blk := fun id o s id' o' s' a b d hk ho' hs' eq => by
    have ol := (kept id' o' s' hk ho' hs').1
    by_cases q : ρ id < n
    · obtain ⟨o0, q0⟩ := gl _ _ b q
      rw [ed _ q] at d
      obtain ⟨o2, q2, _⟩ := k0.obj _ _ q0
      exact hk _ _ q0 (rel.inj _ _ _ _ _ _ q2 ho' d hs' eq)
    · have lt : ρ id < n1 := by
        rcases hp id a with ⟨x, y, z⟩ | ⟨x, y, z, t⟩
        · omega
        · exact t
      rcases st.fresh _ s (by omega) lt d with x | ⟨i0, s0, o0, q1, q2, q3, q4⟩
      · omega
      · obtain ⟨d', o2, q'⟩ := back i0 s0 o0 q2 q3
        exact hk _ _ q2 (rel.inj _ _ _ _ _ _ q' ho' d' hs' (by rw [q4, eq]))
  refine hR E2 v w' (by rw [val_ren e2 sv2 hsp, hs]; exact e) ⟨r.below, fun id o ho => ?_, fun id id' o o' s s' a a' d d' eq => ?_, fun j A z e => ?_, fun j a z id o s e b d => ?_⟩ ⟨el, fun id hid => ?_, fun j hj => rfl, st.size, tch, fun id s a b q => ?_, fun j a z q1 q2 q => by omega⟩
  · rcases k1 id o ho with ⟨a, o1, b, d⟩ | ⟨a, b, d⟩
    · obtain ⟨s, x, y, z⟩ := r.obj _ _ b
      exact ⟨s, by rw [e2 id a]; exact x, y, obj_ren e2 d z⟩
    · obtain ⟨s, x, y, z⟩ := rel.obj id o d
      exact ⟨s, by rw [lo id b]; exact x, y, (z.of_heap (kept id o s a d x).2).le el⟩
  · rcases k1 id o a with ⟨x, o1, y, z⟩ | ⟨x, y, z⟩ <;> rcases k1 id' o' a' with ⟨x', o1', y', z'⟩ | ⟨x', y', z'⟩
    · rw [e2 id x] at d
      rw [e2 id' x'] at d'
      exact inj id id' x x' (r.inj _ _ _ _ _ _ y y' d d' eq)
    · rw [e2 id x] at d
      rw [lo id' y'] at d'
      exact absurd eq (cross id o1 s id' o' s' x y d x' z' d')
    · rw [e2 id' x'] at d'
      rw [lo id y] at d
      exact absurd eq.symm (cross id' o1' s' id o s x' y' d' x z d)
    · rw [lo id y] at d
      rw [lo id' y'] at d'
      exact rel.inj _ _ _ _ _ _ z z' d d' eq
  · have k := r.fz j A z (by rw [em j]; exact e)
    refine ⟨k.1, k.2.1, fun i r hi hr => ?_⟩
    obtain ⟨a, v, p, q, u, x⟩ := k.2.2 i r hi hr
    exact ⟨a, v, p, by rw [val_own0 (E := E') (E' := E2) (fun j => (em j).symm) _ (own0_cell _ _ _)]; exact q, u, x⟩
  · rcases k1 id o b with ⟨x, o1, y, t⟩ | ⟨x, y, t⟩
    · rw [e2 id x] at d
      exact r.frz j a z _ o1 s (by rw [em j]; exact e) y d
    · rw [lo id y] at d
      exact rel.frz j a z id o s e t d
  · by_cases q : id < h.nx
    · exact lo id q
    · show (if id < h.nx then E.at_ id else if p id = true ∧ id < h'.nx then E'.at_ (ρ id) else E.at_ id) = _
      rw [if_neg q, if_neg (by omega)]
  · have q : (if id < h.nx then E.at_ id else if p id = true ∧ id < h'.nx then E'.at_ (ρ id) else E.at_ id) = some s := q
    rw [if_neg (by omega)] at q
    split at q
    · rename_i x
      rcases hp id x.1 with ⟨y, _, _⟩ | ⟨_, _, y, z⟩
      · omega
      · rcases st.fresh _ s y z q with x | ⟨i0, s0, o0, q1, q2, q3, q4⟩
        · exact .inl x
        · obtain ⟨d', o2, q'⟩ := back i0 s0 o0 q2 q3
          exact .inr ⟨_, s0, o2, hbar i0 o0 q1 q2, q', d', q4⟩
    · rw [fe.at_ id a b] at q; cases q
section
variable {p p' : Nat → Bool} {σ : Nat → Nat} (h : ∀ id, p' id = true → σ id = id)
include h
mutual
theorem svMap_on : ∀ (s : SV), svPl p' s = true → svMap σ s = s
  | .bool _, _ => rfl
  | .int _ _, _ => rfl
  | .lit _, _ => rfl
  | .mks _, _ => rfl
  | .rng _ _ _, _ => rfl
  | .ptr id off, e => by simp only [svMap, h id e]
  | .sl id _ _ _, e => by simp only [svMap, h id e]
  | .slr id _ _ _, e => by simp only [svMap, h id e]
  | .sla id _, e => by simp only [svMap, h id e]
  | .map id, e => by simp only [svMap, h id e]
  | .yld id, e => by simp only [svMap, h id e]
  | .fn f a b, e => by
    simp only [svPl, Bool.and_eq_true] at e
    simp only [svMap, svsMap_on a e.1, svsMap_on b e.2]
  | .iface t v, e => by
    simp only [svPl] at e
    simp only [svMap, svMap_on v e]
  | .agg l, e => by
    simp only [svPl] at e
    simp only [svMap, svsMap_on l e]
  | .tup l, e => by
    simp only [svPl] at e
    simp only [svMap, svsMap_on l e]
theorem svsMap_on : ∀ (l : List SV), svsPl p' l = true → svsMap σ l = l
  | [], _ => rfl
  | s :: r, e => by
    simp only [svsPl, Bool.and_eq_true] at e
    simp only [svsMap, svMap_on s e.1, svsMap_on r e.2]
end
end
section
variable {p p' : Nat → Bool} (h : ∀ id, p' id = true → p id = true)
include h
mutual
theorem svPl_mono : ∀ (s : SV), svPl p' s = true → svPl p s = true
  | .bool _, _ => rfl
  | .int _ _, _ => rfl
  | .lit _, _ => rfl
  | .mks _, _ => rfl
  | .rng _ _ _, _ => rfl
  | .ptr id off, e => h id e
  | .sl id _ _ _, e => h id e
  | .slr id _ _ _, e => h id e
  | .sla id _, e => h id e
  | .map id, e => h id e
  | .yld id, e => h id e
  | .fn f a b, e => by
    simp only [svPl, Bool.and_eq_true] at e ⊢
    exact ⟨svsPl_mono a e.1, svsPl_mono b e.2⟩
  | .iface t v, e => by
    simp only [svPl] at e ⊢
    exact svPl_mono v e
  | .agg l, e => by
    simp only [svPl] at e ⊢
    exact svsPl_mono l e
  | .tup l, e => by
    simp only [svPl] at e ⊢
    exact svsPl_mono l e
theorem svsPl_mono : ∀ (l : List SV), svsPl p' l = true → svsPl p l = true
  | [], _ => rfl
  | s :: r, e => by
    simp only [svsPl, Bool.and_eq_true] at e ⊢
    exact ⟨svPl_mono s e.1, svsPl_mono r e.2⟩
end
end
theorem trAll_mono {α : Type} {p q : α → Bool} (h : ∀ v, p v = true → q v = true) : ∀ (t : Tr α), trAll p t = true → trAll q t = true
  | .e, _ => rfl
  | .n x a b c d, e => by
    have e : (optAll p x && (trAll p a && (trAll p b && (trAll p c && trAll p d)))) = true := e
    show (optAll q x && (trAll q a && (trAll q b && (trAll q c && trAll q d)))) = true
    simp only [Bool.and_eq_true] at e ⊢
    obtain ⟨h0, h1, h2, h3, h4⟩ := e
    refine ⟨?_, trAll_mono h a h1, trAll_mono h b h2, trAll_mono h c h3, trAll_mono h d h4⟩
    cases x with
    | none => rfl
    | some v => exact h v h0
theorem soPl_mono {p p' : Nat → Bool} (h : ∀ id, p' id = true → p id = true) : ∀ {o : SO}, soPl p' o = true → soPl p o = true
  | .row _ _ t, e => trAll_mono (fun v => svPl_mono h v) t e
  | .any _, _ => rfl
theorem SoRen.rfl_on {p p' : Nat → Bool} {σ : Nat → Nat} {o : SO} (h : soPl p' o = true) (hs : ∀ id, p' id = true → σ id = id) (hp : ∀ id, p' id = true → p id = true) : SoRen σ p o o := by
  cases o with
  | row n sz t =>
    refine ⟨rfl, rfl, trAll_mono (fun v => svPl_mono hp v) t h, ?_⟩
    refine List.map_congr_left fun i _ => ?_
    cases e : t.get i with
    | none => rfl
    | some s => rw [Option.map_some, svMap_on hs s (trAll_get h e)]
  | any sz => exact rfl
  | mp _ _ => cases h
  | lp _ _ _ _ _ _ _ _ => cases h
  | df => cases h
  | ml _ => cases h
end Go.Proofs.YtgoccionghehoaaGreatDoor.Ev
namespace Go.Proofs.YtgoccionghehoaaGreatDoor.Ev
open Go

variable [GTab] {P : Program} {W0 : World} [GOk W0] {h0 : HS} {E0 : Env} {w0 : World}
def RoundsH (P : Program) (W0 : World) [GOk W0] (h0 : HS) (E0 : Env) (w0 : World) (N : Nat) (b : Code) (Q : X → Tr SV → HS → Prop) : Nat → Tr SV → HS → Prop
  | 0, _, _ => False
  | n + 1, fr, h => HT P W0 h0 E0 w0 N b fr h fun x fr' h' => match x with
    | .normal => RoundsH P W0 h0 E0 w0 N b Q n fr' h'
    | x => Q x fr' h'
theorem RoundsH.loop {N : Nat} {b : Code} {Q : X → Tr SV → HS → Prop} {n : Nat} {fr : Tr SV} {h : HS} (r : RoundsH P W0 h0 E0 w0 N b Q n fr h) : HT P W0 h0 E0 w0 N (.loop b) fr h Q := by
  refine HT.loop (α := Nat) (I := fun n fr h => RoundsH P W0 h0 E0 w0 N b Q n fr h) (m := fun n => n) (Q := Q) (fun n fr h r => ?_) n r
  cases n with
  | zero => exact r.elim
  | succ n =>
    have r : HT P W0 h0 E0 w0 N b fr h _ := r
    refine r.mono fun x fr' h' q => ?_
    cases x with
    | normal => exact ⟨n, Nat.lt_succ_self n, q⟩
    | exit id => exact q
    | ret => exact q
    | panic s => exact q
/-- The first region's number. -/
noncomputable def rid (c : Code) : Nat := Code.rec (motive := fun _ => Nat) 0 (fun id _ _ => id) (fun _ _ ia _ => ia) (fun _ _ _ _ _ => 0) (fun _ _ ib => ib) (fun _ _ => 0) (fun _ _ _ _ _ _ => 0) (fun _ => 0) (fun _ ib => ib) (fun _ => 0) (fun _ => 0) 0 (fun _ => 0) c
noncomputable def lpX (P : Program) (call : CallK) (N id : Nat) (lpS : LoopK) (n : Nat) : LoopK :=
  Nat.rec (motive := fun _ => LoopK) noLp (fun _ lp b fr h k => bif Nat.beq (rid b) id then lpS b fr h k else dCode P call N lp b fr h fun x fr' h' => X.rec (lp b fr' h' k) (fun id => k (.exit id) fr' h') (k .ret fr' h') (fun v => k (.panic v) fr' h') x) n
theorem lpX_both {call : CallK} (hc : CallSound P W0 call) (hm : P.follows .mixedOrders = true) {N id : Nat} {lpS : LoopK} (hS : LoopSoundH P W0 h0 E0 w0 N lpS) : ∀ n, (∀ b fr h k, Nat.beq (rid b) id = false → lpX P call N id lpS n b fr h k = true → RoundsH P W0 h0 E0 w0 N b (fun x fr' h' => k x fr' h' = true) n fr h) ∧ LoopSoundH P W0 h0 E0 w0 N (lpX P call N id lpS n)
  | 0 => ⟨fun b fr h k _ e => (by cases e), fun b fr h k e => (by cases e)⟩
  | n + 1 => by
    obtain ⟨i1, i2⟩ := lpX_both hc hm hS n
    have key : ∀ b fr h k, Nat.beq (rid b) id = false → lpX P call N id lpS (n + 1) b fr h k = true → RoundsH P W0 h0 E0 w0 N b (fun x fr' h' => k x fr' h' = true) (n + 1) fr h := fun b fr h k hb hk => by
      have hk : (bif Nat.beq (rid b) id then lpS b fr h k else dCode P call N (lpX P call N id lpS n) b fr h fun x fr' h' => X.rec (lpX P call N id lpS n b fr' h' k) (fun id => k (.exit id) fr' h') (k .ret fr' h') (fun v => k (.panic v) fr' h') x) = true := hk
      rw [hb, cond_false] at hk
      refine (dCodeH_ok (W0 := W0) hc hm i2 b fr h _ hk).mono fun x fr' h' q => ?_
      cases x with
      | normal => exact i1 b fr' h' k hb q
      | exit id => exact q
      | ret => exact q
      | panic s => exact q
    refine ⟨key, fun b fr h k hk => ?_⟩
    cases hb : Nat.beq (rid b) id with
    | true =>
      have hk : (bif Nat.beq (rid b) id then lpS b fr h k else dCode P call N (lpX P call N id lpS n) b fr h fun x fr' h' => X.rec (lpX P call N id lpS n b fr' h' k) (fun id => k (.exit id) fr' h') (k .ret fr' h') (fun v => k (.panic v) fr' h') x) = true := hk
      rw [hb, cond_true] at hk
      exact hS b fr h k hk
    | false => exact (key b fr h k hb hk).loop
theorem lpX_ok {call : CallK} (hc : CallSound P W0 call) (hm : P.follows .mixedOrders = true) {N id : Nat} {lpS : LoopK} (hS : LoopSoundH P W0 h0 E0 w0 N lpS) (n : Nat) : LoopSoundH P W0 h0 E0 w0 N (lpX P call N id lpS n) := (lpX_both hc hm hS n).2
/-- A proposition as a truth value. -/
noncomputable def dec (p : Prop) : Bool := @decide p (Classical.propDecidable p)
theorem dec_true {p : Prop} : dec p = true ↔ p := @decide_eq_true_iff p (Classical.propDecidable p)
end Go.Proofs.YtgoccionghehoaaGreatDoor.Ev
namespace Go.Proofs.YtgoccionghehoaaGreatDoor.Ev
open Go

variable [GTab] {P : Program} {W0 : World} [GOk W0]
/-- A call that is seen to touch nothing: at other objects. -/
theorem CallOk.pureAt {f : FuncId} {l l2 : List SV} {g g1 : Tr SO} {n n1 : Nat} {h : HS} {sv : SV} {τ : Nat → Nat} {p0 : Nat → Bool}
    (c : ∀ ne, CallOk P W0 f l ⟨g, n, ne, n⟩ ⟨g1, n1, ne, n⟩ sv) (k0 : HpRen τ p0 h.hp g) (hp0 : ∀ id, p0 id = true → id < n) (hl : svsMap τ l = l2) (hlp : svsPl p0 l = true) (hs : svPl (fun _ => false) sv = true) : CallOk P W0 f l2 h h sv := by
  intro E w vl rel fe hv R hR
  let E0 : Env := ⟨fun id => if id < n then E.at_ (τ id) else none, E.emp⟩
  have ep : ∀ id, p0 id = true → E0.at_ id = E.at_ (τ id) := fun id hid => if_pos (hp0 id hid)
  have gn : ∀ id o, g.get id = some o → id < n := fun id o e => hp0 id (k0.dom id o e)
  have rel0 : Rel W0 E0 g.get w := rel.ren k0 ep (fun j A z e => by
      have k := rel.fz j A z e
      refine ⟨k.1, k.2.1, fun i r hi hr => ?_⟩
      obtain ⟨a, v, p, q, u, x⟩ := k.2.2 i r hi hr
      exact ⟨a, v, p, by rw [val_own0 (E := E) (E' := E0) (fun _ => rfl) _ (own0_cell _ _ _)]; exact q, u, x⟩) fun j a z id o s e b d => by
      rw [ep id (k0.dom id o b)] at d
      obtain ⟨o', q, _⟩ := k0.obj id o b
      exact rel.frz j a z _ o' s e q d
  refine c h.ne E0 w vl rel0 ⟨fun id a _ => if_neg (by have a : n ≤ id := a; omega), fun j a b => absurd b (by have a : h.ne ≤ j := a; show ¬ j < h.ne; omega)⟩ (by rw [vals_ren (E := E) ep l hlp, hl]; exact hv) R fun E' v w' e r st => ?_
  have st : Step n g.get n n1 h.ne h.ne E0 E' w w' := st
  have r : Rel W0 E' g1.get w' := r
  have all : ∀ k, k < w.heap.size → w'.heap[k]? = w.heap[k]? := fun k hk => st.touch k hk fun id s o hb ho => absurd (gn id o ho) (by omega)
  refine hR E v w' (by rw [val_pl (E := E') (E2 := E) (p := fun _ => false) (fun _ q => by cases q) hs]; exact e) ⟨r.below, fun id o ho => ?_, rel.inj, fun j A z e => ?_, rel.frz⟩ ⟨E.le_refl, fun _ _ => rfl, fun _ _ => rfl, st.size, fun k hk _ => all k hk, fun id s a b => absurd b (by omega), fun j a z p q => absurd q (by omega)⟩
  · obtain ⟨s, a, b, k⟩ := rel.obj id o ho
    exact ⟨s, a, b, k.of_heap (all _ k.lt)⟩
  · have k := rel.fz j A z e
    exact k.of_heap fun a ha => all _ (k.1 a ha)
/-- Other arguments of the same values. -/
theorem CallOk.args {f : FuncId} {l l' : List SV} {h h' : HS} {sv : SV} (hv : ∀ E vl, vals E l' = some vl → vals E l = some vl) (c : CallOk P W0 f l h h' sv) : CallOk P W0 f l' h h' sv := fun E w vl rel fe e R hR => c E w vl rel fe (hv E vl e) R hR
abbrev MTab := List (Nat × (List SV → HS → Option SV))
def MTabOk (P : Program) (W0 : World) (L : MTab) : Prop := ∀ e ∈ L, ∀ l h sv, e.2 l h = some sv → CallOk P W0 e.1 l h h sv
noncomputable def callM (P : Program) (L : MTab) (m : Nat) : Nat → CallK
  | 0 => fun _ _ _ _ => false
  | n + 1 => fun t l h k => match t with
    | .fn f => (match L.find? fun e => Nat.beq e.1 f with
      | some e => (match e.2 l h with
        | some sv => k sv h
        | none => bif hasBody P f then fnRunJ P f m (callM P L m n) l h k else false)
      | none => bif hasBody P f then fnRunJ P f m (callM P L m n) l h k else false)
    | .yl _ => false
theorem callM_ok {L : MTab} (hL : MTabOk P W0 L) (hm : P.follows .mixedOrders = true) {m : Nat} : ∀ n, CallSound P W0 (callM P L m n)
  | 0 => fun t l h k hk => by cases hk
  | n + 1 => by
    intro t l h k hk
    cases t with
    | yl id => cases hk
    | fn f =>
      unfold callM at hk
      simp only at hk
      split at hk
      case h_2 =>
        obtain ⟨hb, hk⟩ := bif_true hk
        exact fnRunJ_ok (callM_ok hL hm n) hm hb hk
      rename_i e he
      split at hk
      case h_2 =>
        obtain ⟨hb, hk⟩ := bif_true hk
        exact fnRunJ_ok (callM_ok hL hm n) hm hb hk
      rename_i sv hsv
      have h1 := List.mem_of_find?_eq_some he
      have h2 : e.1 = f := Nat.eq_of_beq_eq_true (by simpa using List.find?_some he)
      exact ⟨sv, h, hk, Goes.refl h, by rw [← h2]; exact hL e h1 l h sv hsv⟩
/-- A row's cells. -/
noncomputable def getAll (t : Tr SV) : Nat → Nat → Option (List SV)
  | 0, _ => some []
  | n + 1, i => (t.get i).bind fun s => (getAll t n (i + 1)).map fun l => s :: l
noncomputable def rowL : Option SO → Option (Nat × List SV)
  | some (.row n sz t) => (getAll t n 0).map fun l => (sz, l)
  | _ => none
theorem getAll_at {t : Tr SV} : ∀ {n i : Nat} {l : List SV}, getAll t n i = some l → l.length = n ∧ ∀ j, j < n → t.get (i + j) = l[j]?
  | 0, i, l, h => by
    simp only [getAll, Option.some.injEq] at h
    subst h
    exact ⟨rfl, fun j hj => absurd hj (by omega)⟩
  | n + 1, i, l, h => by
    simp only [getAll, Option.bind_eq_some_iff, Option.map_eq_some_iff] at h
    obtain ⟨s, h1, r, h2, rfl⟩ := h
    obtain ⟨h3, h4⟩ := getAll_at h2
    refine ⟨by simp [h3], fun j hj => ?_⟩
    cases j with
    | zero => simpa using h1
    | succ j =>
      have := h4 j (by omega)
      rw [show i + (j + 1) = i + 1 + j by omega, this]
      rfl
theorem trAll_n {α : Type} {p : α → Bool} {x : Option α} {a b c d : Tr α} : trAll p (.n x a b c d) = (optAll p x && (trAll p a && (trAll p b && (trAll p c && trAll p d)))) := rfl
theorem trAll_onep {α : Type} {p : α → Bool} {v : α} (h : p v = true) (q : Pa) : trAll p (onep q (some v)) = true := by
  have e : trAll p (.e : Tr α) = true := rfl
  induction q with
  | z => show trAll p (.n (some v) .e .e .e .e) = true; rw [trAll_n, e]; simp [optAll, h]
  | a q ih => show trAll p (.n none (onep q (some v)) .e .e .e) = true; rw [trAll_n, ih, e]; rfl
  | b q ih => show trAll p (.n none .e (onep q (some v)) .e .e) = true; rw [trAll_n, ih, e]; rfl
  | c q ih => show trAll p (.n none .e .e (onep q (some v)) .e) = true; rw [trAll_n, ih, e]; rfl
  | d q ih => show trAll p (.n none .e .e .e (onep q (some v))) = true; rw [trAll_n, ih, e]; rfl
theorem trAll_putp {α : Type} {p : α → Bool} {v : α} (h : p v = true) (t : Tr α) : trAll p t = true → ∀ q, trAll p (putp t q (some v)) = true := by
  induction t with
  | e => exact fun _ q => trAll_onep h q
  | n x a b c d ia ib ic id =>
    intro k q
    rw [trAll_n] at k
    simp only [Bool.and_eq_true] at k
    obtain ⟨k0, k1, k2, k3, k4⟩ := k
    cases q with
    | z => show trAll p (.n (some v) a b c d) = true; rw [trAll_n]; simp [optAll, h, k1, k2, k3, k4]
    | a q => show trAll p (.n x (putp a q (some v)) b c d) = true; rw [trAll_n]; simp [k0, ia k1 q, k2, k3, k4]
    | b q => show trAll p (.n x a (putp b q (some v)) c d) = true; rw [trAll_n]; simp [k0, k1, ib k2 q, k3, k4]
    | c q => show trAll p (.n x a b (putp c q (some v)) d) = true; rw [trAll_n]; simp [k0, k1, k2, ic k3 q, k4]
    | d q => show trAll p (.n x a b c (putp d q (some v))) = true; rw [trAll_n]; simp [k0, k1, k2, k3, id k4 q]
theorem trAll_trOf {p : Nat → Bool} : ∀ (l : List SV) (i : Nat) (t : Tr SV), svsPl p l = true → trAll (svPl p) t = true → trAll (svPl p) (trOf l i t) = true
  | [], i, t, _, ht => ht
  | s :: r, i, t, hl, ht => by
    simp only [svsPl, Bool.and_eq_true] at hl
    exact trAll_trOf r (i + 1) (t.put i (some s)) hl.2 (trAll_putp hl.1 t ht _)
theorem rowL_ren {σ : Nat → Nat} {p : Nat → Bool} {o : Option SO} {sz : Nat} {l : List SV} (h : rowL o = some (sz, svsMap σ l)) (hp : svsPl p l = true) : ∃ o1, o = some o1 ∧ SoRen σ p o1 (.row l.length sz (trOf l 0 .e)) := by
  match o, h with
  | some (.row n z t), h =>
    simp only [rowL, Option.map_eq_some_iff, Prod.mk.injEq] at h
    obtain ⟨l', h1, rfl, rfl⟩ := h
    obtain ⟨h2, h3⟩ := getAll_at h1
    have hlen : ∀ (l : List SV), (svsMap σ l).length = l.length := by
      intro l
      induction l with
      | nil => rfl
      | cons s r ih => simp [svsMap, ih]
    have hat : ∀ (l : List SV) (i : Nat), (svsMap σ l)[i]? = (l[i]?).map (svMap σ) := by
      intro l
      induction l with
      | nil => intro i; simp [svsMap]
      | cons s r ih =>
        intro i
        cases i with
        | zero => rfl
        | succ i => simpa [svsMap] using ih i
    rw [hlen] at h2
    refine ⟨_, rfl, h2.symm, rfl, ?_, ?_⟩
    · exact trAll_trOf l 0 .e hp rfl
    · refine List.map_congr_left fun i hi => ?_
      have hi := List.mem_range.1 hi
      have := h3 i hi
      rw [Nat.zero_add, hat] at this
      rw [this, get_trOf, if_pos ⟨Nat.zero_le _, by omega⟩, Nat.sub_zero]
  | none, h => cases h
end Go.Proofs.YtgoccionghehoaaGreatDoor.Ev
namespace Go.Proofs.YtgoccionghehoaaGreatDoor.Ev
open Go

variable [GTab] {P : Program} {W0 : World} [GOk W0]
/-- The like in the other list. -/
def lkN : List Nat → List Nat → Nat → Nat
  | a :: l, b :: r, i => bif Nat.beq i a then b else lkN l r i
  | _, _, i => i
def inL (l : List Nat) (i : Nat) : Bool := l.any (Nat.beq i)
theorem inL_iff {l : List Nat} {i : Nat} : inL l i = true ↔ i ∈ l := by
  unfold inL
  rw [List.any_eq_true]
  constructor
  · rintro ⟨a, ha, e⟩
    rw [Nat.eq_of_beq_eq_true e]; exact ha
  · intro h
    exact ⟨i, h, Nat.beq_refl i⟩
noncomputable def mapRow (f : Nat → Nat) (o : Option SO) : Option SO := match rowL o with
  | some (sz, l) => some (.row (svsMap f l).length sz (trOf (svsMap f l) 0 .e))
  | none => none
noncomputable def gOf (f g : Nat → Nat) (hp : Tr SO) : List Nat → Tr SO
  | [] => .e
  | c :: r => (gOf f g hp r).put c (mapRow f (hp.get (g c)))
theorem gOf_get {f g : Nat → Nat} {hp : Tr SO} : ∀ (l : List Nat) (id : Nat), (gOf f g hp l).get id = if id ∈ l then mapRow f (hp.get (g id)) else none
  | [], id => by rw [if_neg (by simp)]; rfl
  | c :: r, id => by
    rw [gOf, Tr.get_put, gOf_get r id]
    by_cases e : id = c
    · subst e; rw [if_pos rfl, if_pos (by simp)]
    · rw [if_neg e]
      by_cases q : id ∈ r
      · rw [if_pos q, if_pos (List.mem_cons_of_mem _ q)]
      · rw [if_neg q, if_neg (by simp [e, q])]
noncomputable def rowIs (p : Nat → Bool) (o : Option SO) : Bool := match rowL o with
  | some (_, l) => svsPl p l
  | none => false
mutual
theorem svPl_map {p q : Nat → Bool} {f : Nat → Nat} (h : ∀ i, p i = true → q (f i) = true) : ∀ (s : SV), svPl p s = true → svPl q (svMap f s) = true
  | .bool _, _ => rfl
  | .int _ _, _ => rfl
  | .lit _, _ => rfl
  | .mks _, _ => rfl
  | .rng _ _ _, _ => rfl
  | .ptr id off, e => h id e
  | .sl id _ _ _, e => h id e
  | .slr id _ _ _, e => h id e
  | .sla id _, e => h id e
  | .map id, e => h id e
  | .yld id, e => h id e
  | .fn f a b, e => by
    simp only [svPl, svMap, Bool.and_eq_true] at e ⊢
    exact ⟨svsPl_map h a e.1, svsPl_map h b e.2⟩
  | .iface t v, e => by
    simp only [svPl, svMap] at e ⊢
    exact svPl_map h v e
  | .agg l, e => by
    simp only [svPl, svMap] at e ⊢
    exact svsPl_map h l e
  | .tup l, e => by
    simp only [svPl, svMap] at e ⊢
    exact svsPl_map h l e
theorem svsPl_map {p q : Nat → Bool} {f : Nat → Nat} (h : ∀ i, p i = true → q (f i) = true) : ∀ (l : List SV), svsPl p l = true → svsPl q (svsMap f l) = true
  | [], _ => rfl
  | s :: r, e => by
    simp only [svsPl, svsMap, Bool.and_eq_true] at e ⊢
    exact ⟨svPl_map h s e.1, svsPl_map h r e.2⟩
end
mutual
theorem svMap_comp2 {f g : Nat → Nat} : ∀ (s : SV), svMap f (svMap g s) = svMap (fun i => f (g i)) s
  | .bool _ => rfl
  | .int _ _ => rfl
  | .lit _ => rfl
  | .mks _ => rfl
  | .rng _ _ _ => rfl
  | .ptr _ _ => rfl
  | .sl _ _ _ _ => rfl
  | .slr _ _ _ _ => rfl
  | .sla _ _ => rfl
  | .emp _ _ _ _ => rfl
  | .esl _ _ _ _ => rfl
  | .epl _ _ _ _ => rfl
  | .map _ => rfl
  | .yld _ => rfl
  | .fn f a b => by simp only [svMap, svsMap_comp2 a, svsMap_comp2 b]
  | .iface t v => by simp only [svMap, svMap_comp2 v]
  | .agg l => by simp only [svMap, svsMap_comp2 l]
  | .tup l => by simp only [svMap, svsMap_comp2 l]
theorem svsMap_comp2 {f g : Nat → Nat} : ∀ (l : List SV), svsMap f (svsMap g l) = svsMap (fun i => f (g i)) l
  | [] => rfl
  | s :: r => by simp only [svsMap, svMap_comp2 s, svsMap_comp2 r]
end
/-- Mapped rows, told back. -/
theorem mapRow_ren {f g : Nat → Nat} {p q : Nat → Bool} {o : Option SO} {o2 : SO} (h : mapRow f o = some o2) (hp : rowIs p o = true) (hfg : ∀ i, p i = true → g (f i) = i ∧ q (f i) = true) : ∃ o1, o = some o1 ∧ SoRen g q o1 o2 := by
  unfold mapRow at h
  unfold rowIs at hp
  cases e : rowL o with
  | none => rw [e] at hp; cases hp
  | some x =>
    obtain ⟨sz, l⟩ := x
    rw [e] at h hp
    simp only [Option.some.injEq] at h hp
    subst h
    have hl : svsMap g (svsMap f l) = l := by rw [svsMap_comp2]; exact svsMap_on (fun i hi => (hfg i hi).1) l hp
    exact rowL_ren (l := svsMap f l) (by rw [hl]; exact e) (svsPl_map (fun i hi => (hfg i hi).2) l hp)
/-- A call seen at some objects, placed at others: told under other numbers, with more objects, the new ones wherever one likes. -/
theorem CallOk.placeN {f : FuncId} {l l2 : List SV} {g g1 : Tr SO} {n n1 b : Nat} {h h' : HS} {sv sv2 : SV} {τ ρ : Nat → Nat} {p0 p : Nat → Bool}
    (c : CallOk P W0 f l ⟨g, n, h.ne, b⟩ ⟨g1, n1, h.ne, b⟩ sv) (gc : List Nat) (gl : ∀ id o, g1.get id = some o → (id < n ∧ id ∈ gc) → ∃ o0, g.get id = some o0)
    (k0 : HpRen τ p0 h.hp g) (hp0 : ∀ id, p0 id = true → id < n) (hl : svsMap τ l = l2) (hlp : svsPl p0 l = true)
    (hbar : ∀ id o, b ≤ id → g.get id = some o → h.bar ≤ τ id)
    (hp : ∀ id, p id = true → (id < h.nx ∧ ρ id < n ∧ τ (ρ id) = id) ∨ (h.nx ≤ id ∧ id < h'.nx ∧ n ≤ ρ id ∧ ρ id < n1))
    (k1 : ∀ id o, h'.hp.get id = some o → (p id = true ∧ ρ id ∈ gc ∧ ∃ o1, g1.get (ρ id) = some o1 ∧ SoRen ρ p o1 o) ∨ ((∀ i o, g.get i = some o → τ i ≠ id) ∧ id < h.nx ∧ h.hp.get id = some o))
    (inj : ∀ id id', p id = true → p id' = true → ρ id = ρ id' → id = id')
    (hs : svMap ρ sv2 = sv) (hsp : svPl p sv2 = true) (hnx : h.nx ≤ h'.nx) (hne : h'.ne = h.ne) : CallOk P W0 f l2 h h' sv2 := by
  intro E w vl rel fe hv R hR
  let E0 : Env := ⟨fun id => if id < n then E.at_ (τ id) else none, E.emp⟩
  have e0 : ∀ id, id < n → E0.at_ id = E.at_ (τ id) := fun id hid => if_pos hid
  have ep : ∀ id, p0 id = true → E0.at_ id = E.at_ (τ id) := fun id hid => e0 id (hp0 id hid)
  have gn : ∀ id o, g.get id = some o → id < n := fun id o e => hp0 id (k0.dom id o e)
  have rel0 : Rel W0 E0 g.get w := rel.ren k0 ep (fun j A z e => by
      have k := rel.fz j A z e
      refine ⟨k.1, k.2.1, fun i r hi hr => ?_⟩
      obtain ⟨a, v, p, q, u, x⟩ := k.2.2 i r hi hr
      exact ⟨a, v, p, by rw [val_own0 (E := E) (E' := E0) (fun _ => rfl) _ (own0_cell _ _ _)]; exact q, u, x⟩) fun j a z id o s e b d => by
      rw [e0 id (gn id o b)] at d
      obtain ⟨o', q, _⟩ := k0.obj id o b
      exact rel.frz j a z _ o' s e q d
  refine c E0 w vl rel0 ⟨fun id a _ => if_neg (by have a : n ≤ id := a; omega), fun j a b => absurd b (by have a : h.ne ≤ j := a; show ¬ j < h.ne; omega)⟩ (by rw [vals_ren (E := E) ep l hlp, hl]; exact hv) R fun E' v w' e r st => ?_
  have st : Step b g.get n n1 h.ne h.ne E0 E' w w' := st
  have r : Rel W0 E' g1.get w' := r
  have em : ∀ j, E'.emp j = E.emp j := fun j => st.dome j (by omega)
  have ed : ∀ id, id < n → E'.at_ id = E.at_ (τ id) := fun id hid => by rw [st.dom id (by omega)]; exact e0 id hid
  let E2 : Env := ⟨fun id => if id < h.nx then E.at_ id else if p id = true ∧ id < h'.nx then E'.at_ (ρ id) else E.at_ id, E.emp⟩
  have lo : ∀ id, id < h.nx → E2.at_ id = E.at_ id := fun id hid => if_pos hid
  have e2 : ∀ id, p id = true → E2.at_ id = E'.at_ (ρ id) := fun id hid => by
    rcases hp id hid with ⟨a, b, c⟩ | ⟨a, b, c, d⟩
    · rw [lo id a, ed _ b, c]
    · show (if id < h.nx then E.at_ id else if p id = true ∧ id < h'.nx then E'.at_ (ρ id) else E.at_ id) = _
      rw [if_neg (by omega), if_pos ⟨hid, b⟩]
  have back : ∀ i s o, g.get i = some o → E0.at_ i = some s → E.at_ (τ i) = some s ∧ ∃ o', h.hp.get (τ i) = some o' := fun i s o a d => by
    rw [e0 i (gn i o a)] at d
    obtain ⟨o', q, _⟩ := k0.obj i o a
    exact ⟨d, o', q⟩
  have tch : ∀ k, k < w.heap.size → (∀ id s o, h.bar ≤ id → h.hp.get id = some o → E.at_ id = some s → s.blk ≠ k) → w'.heap[k]? = w.heap[k]? := fun k hk ho => st.touch k hk fun id s o q a d => by
    obtain ⟨d', o', q'⟩ := back id s o a d
    exact ho _ s o' (hbar id o q a) q' d'
  have kept : ∀ id o s, (∀ i o, g.get i = some o → τ i ≠ id) → h.hp.get id = some o → E.at_ id = some s → s.blk < w.heap.size ∧ w'.heap[s.blk]? = w.heap[s.blk]? := fun id o s hk ho hs => by
    obtain ⟨s', a, _, k⟩ := rel.obj id o ho
    obtain rfl := Option.some.inj (a.symm.trans hs)
    refine ⟨k.lt, st.touch _ k.lt fun i s2 o' _ ho' hs' eq => ?_⟩
    obtain ⟨d', o2, q'⟩ := back i s2 o' ho' hs'
    exact hk i o' ho' (rel.inj _ _ _ _ _ _ q' ho d' hs eq)
  have el : E.le E2 := ⟨fun id s a => by
    by_cases q : id < h.nx
    · rw [lo id q]; exact a
    · show (if id < h.nx then E.at_ id else if p id = true ∧ id < h'.nx then E'.at_ (ρ id) else E.at_ id) = _
      rw [if_neg q]
      split
      · rename_i q2; rw [fe.at_ id (by omega) q2.2] at a; cases a
      · exact a, fun _ _ a => a⟩
  have cross : ∀ id o s id' o' s', p id = true → ρ id ∈ gc → g1.get (ρ id) = some o → E'.at_ (ρ id) = some s → (∀ i o, g.get i = some o → τ i ≠ id') → h.hp.get id' = some o' → E.at_ id' = some s' → s.blk ≠ s'.blk := fun id o s id' o' s' a agc b d hk ho' hs' eq => by
    have ol := (kept id' o' s' hk ho' hs').1
    by_cases q : ρ id < n
    · obtain ⟨o0, q0⟩ := gl _ _ b ⟨q, agc⟩
      rw [ed _ q] at d
      obtain ⟨o2, q2, _⟩ := k0.obj _ _ q0
      exact hk _ _ q0 (rel.inj _ _ _ _ _ _ q2 ho' d hs' eq)
    · have lt : ρ id < n1 := by
        rcases hp id a with ⟨x, y, z⟩ | ⟨x, y, z, t⟩
        · omega
        · exact t
      rcases st.fresh _ s (by omega) lt d with x | ⟨i0, s0, o0, q1, q2, q3, q4⟩
      · omega
      · obtain ⟨d', o2, q'⟩ := back i0 s0 o0 q2 q3
        exact hk _ _ q2 (rel.inj _ _ _ _ _ _ q' ho' d' hs' (by rw [q4, eq]))
  refine hR E2 v w' (by rw [val_ren e2 sv2 hsp, hs]; exact e) ⟨r.below, fun id o ho => ?_, fun id id' o o' s s' a a' d d' eq => ?_, fun j A z e => ?_, fun j a z id o s e b d => ?_⟩ ⟨el, fun id hid => ?_, fun j hj => rfl, st.size, tch, fun id s a b q => ?_, fun j a z q1 q2 q => by omega⟩
  · rcases k1 id o ho with ⟨a, _, o1, b, d⟩ | ⟨a, b, d⟩
    · obtain ⟨s, x, y, z⟩ := r.obj _ _ b
      exact ⟨s, by rw [e2 id a]; exact x, y, obj_ren e2 d z⟩
    · obtain ⟨s, x, y, z⟩ := rel.obj id o d
      exact ⟨s, by rw [lo id b]; exact x, y, (z.of_heap (kept id o s a d x).2).le el⟩
  · rcases k1 id o a with ⟨x, xg, o1, y, z⟩ | ⟨x, y, z⟩ <;> rcases k1 id' o' a' with ⟨x', xg', o1', y', z'⟩ | ⟨x', y', z'⟩
    · rw [e2 id x] at d
      rw [e2 id' x'] at d'
      exact inj id id' x x' (r.inj _ _ _ _ _ _ y y' d d' eq)
    · rw [e2 id x] at d
      rw [lo id' y'] at d'
      exact absurd eq (cross id o1 s id' o' s' x xg y d x' z' d')
    · rw [e2 id' x'] at d'
      rw [lo id y] at d
      exact absurd eq.symm (cross id' o1' s' id o s x' xg' y' d' x z d)
    · rw [lo id y] at d
      rw [lo id' y'] at d'
      exact rel.inj _ _ _ _ _ _ z z' d d' eq
  · have k := r.fz j A z (by rw [em j]; exact e)
    refine ⟨k.1, k.2.1, fun i r hi hr => ?_⟩
    obtain ⟨a, v, p, q, u, x⟩ := k.2.2 i r hi hr
    exact ⟨a, v, p, by rw [val_own0 (E := E') (E' := E2) (fun j => (em j).symm) _ (own0_cell _ _ _)]; exact q, u, x⟩
  · rcases k1 id o b with ⟨x, _, o1, y, t⟩ | ⟨x, y, t⟩
    · rw [e2 id x] at d
      exact r.frz j a z _ o1 s (by rw [em j]; exact e) y d
    · rw [lo id y] at d
      exact rel.frz j a z id o s e t d
  · by_cases q : id < h.nx
    · exact lo id q
    · show (if id < h.nx then E.at_ id else if p id = true ∧ id < h'.nx then E'.at_ (ρ id) else E.at_ id) = _
      rw [if_neg q, if_neg (by omega)]
  · have q : (if id < h.nx then E.at_ id else if p id = true ∧ id < h'.nx then E'.at_ (ρ id) else E.at_ id) = some s := q
    rw [if_neg (by omega)] at q
    split at q
    · rename_i x
      rcases hp id x.1 with ⟨y, _, _⟩ | ⟨_, _, y, z⟩
      · omega
      · rcases st.fresh _ s y z q with x | ⟨i0, s0, o0, q1, q2, q3, q4⟩
        · exact .inl x
        · obtain ⟨d', o2, q'⟩ := back i0 s0 o0 q2 q3
          exact .inr ⟨_, s0, o2, hbar i0 o0 q1 q2, q', d', q4⟩
    · rw [fe.at_ id a b] at q; cases q
/-- Objects that stay as they are. -/
noncomputable def keepG (h : Tr SO) (g : Tr SO) : List Nat → Tr SO
  | [] => g
  | i :: r => (keepG h g r).put i (h.get i)
theorem keepG_get {h g : Tr SO} : ∀ (l : List Nat) (id : Nat), (keepG h g l).get id = if id ∈ l then h.get id else g.get id
  | [], id => by rw [if_neg (by simp)]; rfl
  | c :: r, id => by
    rw [keepG, Tr.get_put, keepG_get r id]
    by_cases e : id = c
    · subst e; rw [if_pos rfl, if_pos (by simp)]
    · rw [if_neg e]
      by_cases q : id ∈ r
      · rw [if_pos q, if_pos (List.mem_cons_of_mem _ q)]
      · rw [if_neg q, if_neg (by simp [e, q])]
/-- What the kernel looks at: the actual numbers, those of one's choice, the new ones, the objects that are told behind, those that stay. -/
noncomputable def canonB (σ cl nw ro kp : List Nat) (l : List SV) (h : HS) (g1 : Tr SO) (sv : SV) (n n1 nx' : Nat) : Bool :=
  (σ.all fun i => Nat.beq (lkN cl σ (lkN σ cl i)) i && (inL cl (lkN σ cl i) && Nat.blt i h.nx)) &&
  ((cl.all fun c => Nat.beq (lkN σ cl (lkN cl σ c)) c && (inL σ (lkN cl σ c) && (Nat.blt c n && rowIs (inL σ) (h.hp.get (lkN cl σ c))))) &&
  (svsPl (inL σ) l &&
  ((nw.all fun c => Nat.ble h.nx c && (Nat.blt c nx' && (Nat.ble n c && (Nat.blt c n1 && (Nat.beq (lkN σ cl c) c && Nat.beq (lkN cl σ c) c))))) &&
  ((ro.all fun c => inL (cl ++ nw) c && rowIs (inL (cl ++ nw)) (g1.get c)) &&
  ((kp.all fun i => Nat.blt i h.nx && !(inL σ i)) &&
  (svPl (inL (cl ++ nw)) sv && (Nat.ble h.nx nx' && (Nat.beq h.bar 0 && Nat.beq h.ne 0))))))))
/-- The heap behind the call. -/
noncomputable def canonH (σ cl ro kp : List Nat) (h : HS) (g1 : Tr SO) (nx' : Nat) : HS := ⟨keepG h.hp (gOf (lkN cl σ) (lkN σ cl) g1 (ro.map (lkN cl σ))) kp, nx', h.ne, h.bar⟩
theorem beqN {a b : Nat} (h : Nat.beq a b = true) : a = b := Nat.eq_of_beq_eq_true h
theorem canon_ok {f : FuncId} {l : List SV} {h : HS} {σ cl nw ro kp : List Nat} {g1 : Tr SO} {sv : SV} {n n1 nx' b : Nat} (hb : canonB σ cl nw ro kp l h g1 sv n n1 nx' = true) (c : CallOk P W0 f (svsMap (lkN σ cl) l) ⟨gOf (lkN σ cl) (lkN cl σ) h.hp cl, n, 0, b⟩ ⟨g1, n1, 0, b⟩ sv) :
    Goes h (canonH σ cl ro kp h g1 nx') ∧ CallOk P W0 f l h (canonH σ cl ro kp h g1 nx') (svMap (lkN cl σ) sv) := by
  simp only [canonB, Bool.and_eq_true] at hb
  obtain ⟨b1, b2, b3, b4, b5, b5k, b6, b7, b8, b9⟩ := hb
  have c1 : ∀ i, i ∈ σ → lkN cl σ (lkN σ cl i) = i ∧ lkN σ cl i ∈ cl ∧ i < h.nx := fun i hi => by
    have := List.all_eq_true.1 b1 i hi
    simp only [Bool.and_eq_true] at this
    exact ⟨beqN this.1, inL_iff.1 this.2.1, blt_lt this.2.2⟩
  have c2 : ∀ i, i ∈ cl → lkN σ cl (lkN cl σ i) = i ∧ lkN cl σ i ∈ σ ∧ i < n ∧ rowIs (inL σ) (h.hp.get (lkN cl σ i)) = true := fun i hi => by
    have := List.all_eq_true.1 b2 i hi
    simp only [Bool.and_eq_true] at this
    exact ⟨beqN this.1, inL_iff.1 this.2.1, blt_lt this.2.2.1, this.2.2.2⟩
  have c4 : ∀ i, i ∈ nw → h.nx ≤ i ∧ i < nx' ∧ n ≤ i ∧ i < n1 ∧ lkN σ cl i = i ∧ lkN cl σ i = i := fun i hi => by
    have := List.all_eq_true.1 b4 i hi
    simp only [Bool.and_eq_true] at this
    obtain ⟨d1, d2, d3, d4, d5, d6⟩ := this
    exact ⟨Nat.le_of_ble_eq_true d1, blt_lt d2, Nat.le_of_ble_eq_true d3, blt_lt d4, beqN d5, beqN d6⟩
  have c5 : ∀ i, i ∈ ro → (i ∈ cl ∨ i ∈ nw) ∧ rowIs (inL (cl ++ nw)) (g1.get i) = true := fun i hi => by
    have := List.all_eq_true.1 b5 i hi
    simp only [Bool.and_eq_true] at this
    exact ⟨List.mem_append.1 (inL_iff.1 this.1), this.2⟩
  have ck : ∀ i, i ∈ kp → i < h.nx ∧ i ∉ σ := fun i hi => by
    have := List.all_eq_true.1 b5k i hi
    simp only [Bool.and_eq_true, Bool.not_eq_true'] at this
    refine ⟨blt_lt this.1, fun q => ?_⟩
    rw [inL_iff.2 q] at this
    cases this.2
  have e8 : h.bar = 0 := beqN b8
  have e9 : h.ne = 0 := beqN b9
  have e7 : h.nx ≤ nx' := Nat.le_of_ble_eq_true b7
  have hgc : ∀ id o, (gOf (lkN σ cl) (lkN cl σ) h.hp cl).get id = some o → id ∈ cl ∧ mapRow (lkN σ cl) (h.hp.get (lkN cl σ id)) = some o := fun id o e => by
    rw [gOf_get] at e
    by_cases q : id ∈ cl
    · rw [if_pos q] at e; exact ⟨q, e⟩
    · rw [if_neg q] at e; cases e
  have rs : ∀ {p : Nat → Bool} {o : Option SO}, rowIs p o = true → ∃ x, o = some x := fun {p o} q => by
    cases o with
    | none => cases q
    | some x => exact ⟨x, rfl⟩
  have ms : ∀ {p : Nat → Bool} {f : Nat → Nat} {o : Option SO}, rowIs p o = true → ∃ x, mapRow f o = some x := fun {p f o} q => by
    unfold rowIs at q
    unfold mapRow
    cases e : rowL o with
    | none => rw [e] at q; cases q
    | some x => exact ⟨_, rfl⟩
  have back : ∀ i, inL (cl ++ nw) i = true → lkN σ cl (lkN cl σ i) = i ∧ inL (σ ++ nw) (lkN cl σ i) = true := fun i hi => by
    rcases List.mem_append.1 (inL_iff.1 hi) with q | q
    · exact ⟨(c2 i q).1, inL_iff.2 (List.mem_append.2 (.inl (c2 i q).2.1))⟩
    · obtain ⟨_, _, _, _, d5, d6⟩ := c4 i q
      rw [d6]
      exact ⟨d5, inL_iff.2 (List.mem_append.2 (.inr q))⟩
  -- what lies behind the call
  have hout : ∀ id o, (canonH σ cl ro kp h g1 nx').hp.get id = some o → (id ∈ kp ∧ h.hp.get id = some o) ∨ ∃ c, c ∈ ro ∧ lkN cl σ c = id ∧ lkN σ cl id = c ∧ mapRow (lkN cl σ) (g1.get c) = some o := fun id o e => by
    have e : (keepG h.hp (gOf (lkN cl σ) (lkN σ cl) g1 (ro.map (lkN cl σ))) kp).get id = some o := e
    rw [keepG_get] at e
    by_cases q : id ∈ kp
    · rw [if_pos q] at e; exact .inl ⟨q, e⟩
    · rw [if_neg q, gOf_get] at e
      by_cases q2 : id ∈ ro.map (lkN cl σ)
      · rw [if_pos q2] at e
        obtain ⟨c, hc, rfl⟩ := List.mem_map.1 q2
        have := (back c (inL_iff.2 (List.mem_append.2 (c5 c hc).1))).1
        rw [this] at e
        exact .inr ⟨c, hc, rfl, this, e⟩
      · rw [if_neg q2] at e; cases e
  have pf : ∀ i, inL (σ ++ nw) i = true ↔ i ∈ σ ∨ i ∈ nw := fun i => inL_iff.trans List.mem_append
  have fwdp : ∀ i, inL σ i = true → lkN cl σ (lkN σ cl i) = i ∧ inL cl (lkN σ cl i) = true := fun i hi => by
    have q := inL_iff.1 hi
    exact ⟨(c1 i q).1, inL_iff.2 (c1 i q).2.1⟩
  refine ⟨⟨fun id hid => by omega, rfl, e7, Nat.le_refl _, fun id o e => ?_⟩, ?_⟩
  · rcases hout id o e with ⟨q1, q2⟩ | ⟨c, q1, q2, q3, q4⟩
    · exact .inr ⟨o, q2⟩
    · rcases (c5 c q1).1 with q | q
      · obtain ⟨x, hx⟩ := rs (c2 c q).2.2.2
        rw [q2] at hx
        exact .inr ⟨x, hx⟩
      · obtain ⟨d1, d2, d3, d4, d5, d6⟩ := c4 c q
        rw [d6] at q2
        subst q2
        exact .inl ⟨d1, d2⟩
  refine CallOk.placeN (τ := lkN cl σ) (ρ := lkN σ cl) (p0 := inL cl) (p := inL (σ ++ nw)) (g := gOf (lkN σ cl) (lkN cl σ) h.hp cl) (g1 := g1) (n := n) (n1 := n1) (b := b) (l := svsMap (lkN σ cl) l) (sv := sv) (by rw [e9]; exact c) (gc := cl ++ nw) (fun id o e hid => ?_) ⟨fun id o2 e => ?_, fun id o2 e => inL_iff.2 (hgc id o2 e).1, fun id id' q q' e => ?_⟩ (fun id q => (c2 id (inL_iff.1 q)).2.2.1) ?_ (svsPl_map (fun i hi => (fwdp i hi).2) l b3) (fun id o _ e => by omega) (fun id e => ?_) (fun id o e => ?_) (fun id id' e e' q => ?_) ?_ (svPl_map (fun i hi => (back i hi).2) sv b6) e7 rfl
  · rcases List.mem_append.1 hid.2 with q | q
    · obtain ⟨x, hx⟩ := ms (f := lkN σ cl) (c2 id q).2.2.2
      exact ⟨x, by rw [gOf_get, if_pos q]; exact hx⟩
    · have := (c4 id q).2.2.1
      omega
  · obtain ⟨q, e⟩ := hgc id o2 e
    exact mapRow_ren e (c2 id q).2.2.2 fwdp
  · rw [← (c2 id (inL_iff.1 q)).1, ← (c2 id' (inL_iff.1 q')).1, e]
  · rw [svsMap_comp2]
    exact svsMap_on (p' := inL σ) (fun i hi => (fwdp i hi).1) l b3
  · rcases (pf id).1 e with q | q
    · obtain ⟨q1, q2, q3⟩ := c1 id q
      exact .inl ⟨q3, (c2 _ q2).2.2.1, q1⟩
    · obtain ⟨d1, d2, d3, d4, d5, d6⟩ := c4 id q
      refine .inr ⟨d1, d2, ?_, ?_⟩
      · rw [d5]; exact d3
      · rw [d5]; exact d4
  · rcases hout id o e with ⟨q1, q2⟩ | ⟨c, q1, q2, q3, q4⟩
    · refine .inr ⟨fun i o' e' q => ?_, (ck id q1).1, q2⟩
      have := (c2 i (hgc i o' e').1).2.1
      rw [q] at this
      exact (ck id q1).2 this
    · refine .inl ⟨?_, ?_⟩
      · rw [← q2]
        exact (back c (inL_iff.2 (List.mem_append.2 (c5 c q1).1))).2
      · rw [q3]
        exact ⟨List.mem_append.2 (c5 c q1).1, mapRow_ren q4 (c5 c q1).2 back⟩
  · have inv : ∀ i, inL (σ ++ nw) i = true → lkN cl σ (lkN σ cl i) = i := fun i hi => by
      rcases (pf i).1 hi with q | q
      · exact (c1 i q).1
      · obtain ⟨_, _, _, _, d5, d6⟩ := c4 i q
        rw [d5, d6]
    rw [← inv id e, ← inv id' e', q]
  · rw [svMap_comp2]
    exact svMap_on (p' := inL (cl ++ nw)) (fun i hi => (back i hi).1) sv b6
/-- A call told under other numbers. -/
noncomputable def callC (P : Program) (W0 : World) [GOk W0] (f : Nat) (σ cl nw ro kp : List Nat) (g1 : Tr SO) (sv : SV) (n n1 b nx' : Nat) (l : List SV) (h : HS) (k : SV → HS → Bool) : Bool :=
  bif canonB σ cl nw ro kp l h g1 sv n n1 nx' then andR (k (svMap (lkN cl σ) sv) (canonH σ cl ro kp h g1 nx')) (dec (CallOk P W0 f (svsMap (lkN σ cl) l) ⟨gOf (lkN σ cl) (lkN cl σ) h.hp cl, n, 0, b⟩ ⟨g1, n1, 0, b⟩ sv)) else false
theorem callC_ok {f : Nat} {σ cl nw ro kp : List Nat} {g1 : Tr SO} {sv : SV} {n n1 b nx' : Nat} {l : List SV} {h : HS} {k : SV → HS → Bool} (hk : callC P W0 f σ cl nw ro kp g1 sv n n1 b nx' l h k = true) : ∃ sv h', k sv h' = true ∧ Goes h h' ∧ CallOk P W0 f l h h' sv := by
  unfold callC at hk
  obtain ⟨h1, hk⟩ := bif_true hk
  obtain ⟨k1, k2⟩ := andR_true.1 hk
  obtain ⟨g, c⟩ := canon_ok h1 (dec_true.1 k2)
  exact ⟨_, _, k1, g, c⟩
end Go.Proofs.YtgoccionghehoaaGreatDoor.Ev
namespace Go.Proofs.YtgoccionghehoaaGreatDoor.Ev
open Go

variable [GTab] {P : Program} {W0 : World} [GOk W0]
theorem rel_none {E : Env} {g : Tr SO} {w : World} (r : Rel W0 E g.get w) : Rel W0 ⟨fun _ => none, fun _ => none⟩ (Tr.e : Tr SO).get w :=
  ⟨r.below, fun id o e => (by cases e), fun id id' o o' s s' a => (by cases a), fun j A z e => (by cases e), fun j a z id o s e => (by cases e)⟩
/-- A closed call of a closed value. -/
theorem CallOk.closed {f : FuncId} {l : List SV} {h' : HS} {sv : SV} (c : CallOk P W0 f l ⟨.e, 0, 0, 0⟩ h' sv) (hl : svsPl (fun _ => false) l = true) (hs : svPl (fun _ => false) sv = true) (h : HS) : CallOk P W0 f l h h sv := by
  intro E w vl rel fe hv R hR
  refine c ⟨fun _ => none, fun _ => none⟩ w vl (rel_none rel) ⟨fun _ _ _ => rfl, fun _ _ _ => rfl⟩ (by rw [vals_pl (E := E) (p := fun _ => false) (fun _ q => by cases q) hl]; exact hv) R fun E' v w' e r st => ?_
  have st : Step 0 (Tr.e : Tr SO).get 0 h'.nx 0 h'.ne _ E' w w' := st
  have all : ∀ k, k < w.heap.size → w'.heap[k]? = w.heap[k]? := fun k hk => st.touch k hk fun id s o hb ho => by cases ho
  refine hR E v w' (by rw [val_pl (E := E') (E2 := E) (p := fun _ => false) (fun _ q => by cases q) hs]; exact e) ⟨r.below, fun id o ho => ?_, rel.inj, fun j A z e => ?_, rel.frz⟩ ⟨E.le_refl, fun _ _ => rfl, fun _ _ => rfl, st.size, fun k hk _ => all k hk, fun id s a b => absurd b (by omega), fun j a z p q => absurd q (by omega)⟩
  · obtain ⟨s, a, b, k⟩ := rel.obj id o ho
    exact ⟨s, a, b, k.of_heap (all _ k.lt)⟩
  · have k := rel.fz j A z e
    exact k.of_heap fun a ha => all _ (k.1 a ha)
/-- Rows added, their numbers moved. -/
noncomputable def addG (off : Nat) (g1 : Tr SO) (hp : Tr SO) : List Nat → Tr SO
  | [] => hp
  | c :: r => (addG off g1 hp r).put (off + c) (mapRow (fun i => off + i) (g1.get c))
theorem addG_get {off : Nat} {g1 hp : Tr SO} : ∀ (l : List Nat) (id : Nat), (addG off g1 hp l).get id = if off ≤ id ∧ id - off ∈ l then mapRow (fun i => off + i) (g1.get (id - off)) else hp.get id
  | [], id => by rw [if_neg (by simp)]; rfl
  | c :: r, id => by
    rw [addG, Tr.get_put, addG_get r id]
    by_cases e : id = off + c
    · subst e
      rw [if_pos rfl, if_pos ⟨by omega, by rw [show off + c - off = c by omega]; simp⟩, show off + c - off = c by omega]
    · rw [if_neg e]
      by_cases q : off ≤ id ∧ id - off ∈ r
      · rw [if_pos q, if_pos ⟨q.1, List.mem_cons_of_mem _ q.2⟩]
      · rw [if_neg q, if_neg]
        rintro ⟨q1, q2⟩
        rcases List.mem_cons.1 q2 with q2 | q2
        · omega
        · exact q ⟨q1, q2⟩
/-- A closed call's rows, wherever it is called. -/
theorem CallOk.entry {f : FuncId} {l : List SV} {g1 : Tr SO} {ids : List Nat} {n1 ne1 : Nat} {sv : SV} (c : CallOk P W0 f l ⟨.e, 0, 0, 0⟩ ⟨g1, n1, ne1, 0⟩ sv) (hl : svsPl (fun _ => false) l = true) (hs : svPl (fun i => Nat.blt i n1) sv = true) (hi : (ids.all fun c => Nat.blt c n1 && rowIs (fun i => Nat.blt i n1) (g1.get c)) = true) (h : HS) (hfree : True) :
    CallOk P W0 f l h ⟨addG h.nx g1 h.hp ids, h.nx + n1, h.ne, h.bar⟩ (svMap (fun i => h.nx + i) sv) := by
  intro E w vl rel fe hv R hR
  have hi' : ∀ c, c ∈ ids → c < n1 ∧ rowIs (fun i => Nat.blt i n1) (g1.get c) = true := fun c hc => by
    have := List.all_eq_true.1 hi c hc
    simp only [Bool.and_eq_true] at this
    exact ⟨blt_lt this.1, this.2⟩
  refine c ⟨fun _ => none, fun _ => none⟩ w vl (rel_none rel) ⟨fun _ _ _ => rfl, fun _ _ _ => rfl⟩ (by rw [vals_pl (E := E) (p := fun _ => false) (fun _ q => by cases q) hl]; exact hv) R fun E' v w' e r st => ?_
  have st : Step 0 (Tr.e : Tr SO).get 0 n1 0 ne1 ⟨fun _ => none, fun _ => none⟩ E' w w' := st
  have r : Rel W0 E' g1.get w' := r
  have fe : Free E h.nx (h.nx + n1) h.ne h.ne := fe
  have all : ∀ k, k < w.heap.size → w'.heap[k]? = w.heap[k]? := fun k hk => st.touch k hk fun id s o hb ho => by cases ho
  let E2 : Env := ⟨fun id => if h.nx ≤ id ∧ id < h.nx + n1 then E'.at_ (id - h.nx) else E.at_ id, E.emp⟩
  have e2 : ∀ id, h.nx ≤ id → id < h.nx + n1 → E2.at_ id = E'.at_ (id - h.nx) := fun id a b => if_pos ⟨a, b⟩
  have eo : ∀ id s, E.at_ id = some s → E2.at_ id = some s := fun id s a => by
    show (if h.nx ≤ id ∧ id < h.nx + n1 then E'.at_ (id - h.nx) else E.at_ id) = _
    split
    · rename_i q; rw [fe.at_ id q.1 q.2] at a; cases a
    · exact a
  have el : E.le E2 := ⟨eo, fun _ _ a => a⟩
  have fresh : ∀ i s, i < n1 → E'.at_ i = some s → w.heap.size ≤ s.blk := fun i s a b => by
    rcases st.fresh i s (Nat.zero_le _) a b with q | ⟨i0, s0, o, _, q, _⟩
    · exact q
    · cases q
  have bk : ∀ i, Nat.blt i n1 = true → E'.at_ i = E2.at_ (h.nx + i) := fun i hi => by
    have := blt_lt hi
    rw [e2 _ (by omega) (by omega), show h.nx + i - h.nx = i by omega]
  have cases' : ∀ id o, (addG h.nx g1 h.hp ids).get id = some o → (h.nx ≤ id ∧ id < h.nx + n1 ∧ ∃ o1, g1.get (id - h.nx) = some o1 ∧ SoRen (fun i => i - h.nx) (fun i => Nat.ble h.nx i && Nat.blt i (h.nx + n1)) o1 o) ∨ h.hp.get id = some o := fun id o ho => by
    rw [addG_get] at ho
    by_cases q : h.nx ≤ id ∧ id - h.nx ∈ ids
    · rw [if_pos q] at ho
      obtain ⟨q1, q2⟩ := hi' _ q.2
      refine .inl ⟨q.1, by omega, mapRow_ren ho q2 fun i hi => ?_⟩
      have := blt_lt hi
      refine ⟨by omega, ?_⟩
      simp only [Bool.and_eq_true, Nat.blt_eq, Nat.ble_eq]
      omega
    · rw [if_neg q] at ho; exact .inr ho
  have ren : ∀ i, (Nat.ble h.nx i && Nat.blt i (h.nx + n1)) = true → E2.at_ i = E'.at_ (i - h.nx) := fun i hi => by
    simp only [Bool.and_eq_true, Nat.blt_eq, Nat.ble_eq] at hi
    exact e2 i hi.1 hi.2
  refine hR E2 v w' ?_ ⟨r.below, fun id o ho => ?_, fun id id' o o' s s' a a' d d' eq => ?_, fun j A z e => ?_, fun j a z id o s e b d => ?_⟩ ⟨el, fun id hid => ?_, fun j hj => rfl, st.size, fun k hk _ => all k hk, fun id s a b q => ?_, fun j a z q1 q2 q => absurd (show j < h.ne from q2) (by omega)⟩
  · rw [val_ren ren (svMap (fun i => h.nx + i) sv) (svPl_map (p := fun i => Nat.blt i n1) (fun i hi => by
      have := blt_lt hi
      simp only [Bool.and_eq_true, Nat.blt_eq, Nat.ble_eq]
      omega) sv hs), svMap_comp2, svMap_on (p' := fun i => Nat.blt i n1) (fun i hi => by omega) sv hs]
    exact e
  · rcases cases' id o ho with ⟨q1, q2, o1, q3, q4⟩ | q
    · obtain ⟨s, x, y, z⟩ := r.obj _ _ q3
      exact ⟨s, by rw [e2 id q1 q2]; exact x, y, obj_ren ren q4 z⟩
    · obtain ⟨s, x, y, z⟩ := rel.obj id o q
      exact ⟨s, eo id s x, y, (z.of_heap (all _ z.lt)).le el⟩
  · rcases cases' id o a with ⟨q1, q2, o1, q3, q4⟩ | q <;> rcases cases' id' o' a' with ⟨q1', q2', o1', q3', q4'⟩ | q'
    · rw [e2 id q1 q2] at d
      rw [e2 id' q1' q2'] at d'
      have := r.inj _ _ _ _ _ _ q3 q3' d d' eq
      omega
    · rw [e2 id q1 q2] at d
      obtain ⟨s0, x, y, z⟩ := rel.obj id' o' q'
      rw [eo id' s0 x] at d'
      obtain rfl := Option.some.inj d'
      have := fresh _ s (by omega) d
      have := z.lt
      omega
    · rw [e2 id' q1' q2'] at d'
      obtain ⟨s0, x, y, z⟩ := rel.obj id o q
      rw [eo id s0 x] at d
      obtain rfl := Option.some.inj d
      have := fresh _ s' (by omega) d'
      have := z.lt
      omega
    · obtain ⟨s0, x, _⟩ := rel.obj id o q
      obtain ⟨s0', x', _⟩ := rel.obj id' o' q'
      rw [eo id s0 x] at d
      rw [eo id' s0' x'] at d'
      obtain rfl := Option.some.inj d
      obtain rfl := Option.some.inj d'
      exact rel.inj _ _ _ _ _ _ q q' x x' eq
  · have k := rel.fz j A z e
    have k := k.of_heap (w' := w') fun a ha => all _ (k.1 a ha)
    refine ⟨k.1, k.2.1, fun i r hi hr => ?_⟩
    obtain ⟨a, v, p, q, u, x⟩ := k.2.2 i r hi hr
    exact ⟨a, v, p, by rw [val_own0 (E := E) (E' := E2) (fun _ => rfl) _ (own0_cell _ _ _)]; exact q, u, x⟩
  · have k := rel.fz j _ z e
    have lt := k.1 a rfl
    rcases cases' id o b with ⟨q1, q2, o1, q3, q4⟩ | q
    · rw [e2 id q1 q2] at d
      have := fresh _ s (by omega) d
      omega
    · obtain ⟨s0, x, _⟩ := rel.obj id o q
      rw [eo id s0 x] at d
      obtain rfl := Option.some.inj d
      exact rel.frz j a z id o s0 e q x
  · show (if h.nx ≤ id ∧ id < h.nx + n1 then E'.at_ (id - h.nx) else E.at_ id) = _
    rw [if_neg hid]
  · rw [e2 id a b] at q
    exact .inl (fresh _ s (by have : id < h.nx + n1 := b; omega) q)
/-- A closed call, told. -/
structure Ent5 where
  f : Nat
  text : ByteArray
  ids : List Nat
  g1 : Tr SO
  n1 : Nat
  sv : SV
def Ent5Ok (P : Program) (W0 : World) [GOk W0] (e : Ent5) : Prop := (∃ ne1, CallOk P W0 e.f [.lit (.string e.text)] ⟨.e, 0, 0, 0⟩ ⟨e.g1, e.n1, ne1, 0⟩ e.sv) ∧ svPl (fun i => Nat.blt i e.n1) e.sv = true ∧ (e.ids.all fun c => Nat.blt c e.n1 && rowIs (fun i => Nat.blt i e.n1) (e.g1.get c)) = true
def eqU8 : List UInt8 → List UInt8 → Bool
  | [], [] => true
  | a :: l, b :: r => Nat.beq a.toNat b.toNat && eqU8 l r
  | _, _ => false
theorem eqU8_eq : ∀ {a b : List UInt8}, eqU8 a b = true → a = b
  | [], [], _ => rfl
  | x :: l, y :: r, h => by
    simp only [eqU8, Bool.and_eq_true] at h
    rw [UInt8.toNat_inj.1 (Nat.eq_of_beq_eq_true h.1), eqU8_eq h.2]
  | [], _ :: _, h => by cases h
  | _ :: _, [], h => by cases h
def isText (b : ByteArray) : List SV → Bool
  | [.lit (.string a)] => eqU8 b.data.toList a.data.toList
  | _ => false
theorem isText_eq {b : ByteArray} {l : List SV} (h : isText b l = true) : l = [.lit (.string b)] := by
  unfold isText at h
  split at h
  case h_2 => cases h
  rename_i a
  have := eqU8_eq h
  obtain ⟨⟨x⟩⟩ := a
  obtain ⟨⟨y⟩⟩ := b
  have : y = x := this
  rw [this]
noncomputable def callE (P : Program) (T : List Ent5) (m : Nat) : Nat → CallK
  | 0 => fun _ _ _ _ => false
  | n + 1 => fun t l h k => match t with
    | .fn f => (match T.find? fun e => Nat.beq e.f f && isText e.text l with
      | some e => bif Nat.ble h.bar h.nx then k (svMap (fun i => h.nx + i) e.sv) ⟨addG h.nx e.g1 h.hp e.ids, h.nx + e.n1, h.ne, h.bar⟩ else false
      | none => bif hasBody P f then fnRunJ P f m (callE P T m n) l h k else false)
    | .yl _ => false
theorem callE_ok {T : List Ent5} (hT : ∀ e ∈ T, Ent5Ok P W0 e) (hm : P.follows .mixedOrders = true) {m : Nat} : ∀ n, CallSound P W0 (callE P T m n)
  | 0 => fun t l h k hk => by cases hk
  | n + 1 => by
    intro t l h k hk
    cases t with
    | yl id => cases hk
    | fn f =>
      unfold callE at hk
      simp only at hk
      split at hk
      case h_2 =>
        obtain ⟨hb, hk⟩ := bif_true hk
        exact fnRunJ_ok (callE_ok hT hm n) hm hb hk
      rename_i e he
      obtain ⟨hbn, hk⟩ := bif_true hk
      have hbn := Nat.le_of_ble_eq_true hbn
      have h1 := List.mem_of_find?_eq_some he
      have h2 := List.find?_some he
      simp only [Bool.and_eq_true] at h2
      have h3 : e.f = f := Nat.eq_of_beq_eq_true h2.1
      obtain ⟨⟨ne1, c⟩, hs, hi⟩ := hT e h1
      have c2 := CallOk.entry c rfl hs hi h trivial
      rw [h3, ← isText_eq h2.2] at c2
      refine ⟨_, _, hk, ⟨fun id hid => ?_, rfl, Nat.le_add_right _ _, Nat.le_refl _, fun id o e' => ?_⟩, c2⟩
      · show (addG h.nx e.g1 h.hp e.ids).get id = _
        rw [addG_get, if_neg (by omega)]
      · have e' : (addG h.nx e.g1 h.hp e.ids).get id = some o := e'
        rw [addG_get] at e'
        by_cases q : h.nx ≤ id ∧ id - h.nx ∈ e.ids
        · have := List.all_eq_true.1 hi _ q.2
          simp only [Bool.and_eq_true] at this
          have := blt_lt this.1
          exact .inl ⟨q.1, by show id < h.nx + e.n1; omega⟩
        · rw [if_neg q] at e'
          exact .inr ⟨o, e'⟩
end Go.Proofs.YtgoccionghehoaaGreatDoor.Ev
