/- The marks among a frame's deferred calls are taken at its end. A range over a function: the loop's record, and the statement itself. Control: rows of code, loops, calls. A round of a range over a function: what a call of yield does. Calls whose end is known: what they hand back, and the rows that they lay, numbered from nought. Calls. Calls whose end is known, of arguments that lie in the caller's heap. -/
import Derived.Test.YtbkgehknhjkaoaaGreatDoorEvM4
import Derived.RangeFuncLeaves
import Derived.RangeFuncRecord
import Derived.RangeFuncIn
import Derived.LoopNIn
import Derived.Scope
set_option linter.unusedSimpArgs false
set_option linter.unusedVariables false
set_option linter.unusedSectionVars false
namespace Go.Proofs.YtbkgehknhjkaoaaGreatDoor.Ev
open Go Go.RowKit

variable [GTab] {P : Program} {W0 : World} [GOk W0]
noncomputable def asDf (so : SO) (d : Bool) : Bool := SO.rec (fun _ _ _ => false) (fun _ _ => false) (fun _ _ _ _ _ _ _ _ => false) d (fun _ => false) so
theorem asDf_ok {so : SO} {d : Bool} (h : asDf so d = true) : so = .df ∧ d = true := by
  cases so with
  | df => exact ⟨rfl, h⟩
  | row => cases h
  | mp => cases h
  | lp => cases h
  | ml => cases h
/-- The blocks of the marks are taken away. -/
noncomputable def dropK (l : List Nat) : HS → (HS → Bool) → Bool :=
  List.rec (fun h k => k h) (fun D _ ih h k => HS.rec (fun hp nx ne bar => getQ hp D fun so => asDf so (Bool.rec false (hp.putK D none fun hp' => ih ⟨hp', nx, ne, bar⟩ k) (Nat.ble bar D))) h) l
theorem Rel.taken {E : Env} {g : Tr SO} {w : World} (r : Rel W0 E g.get w) {D : Nat} {so : SO} (hD : g.get D = some so) {s : Spot} (hs : E.at_ D = some s) (ob : Obj) : Rel W0 E (g.put D none).get (w.putObj s.blk ob) := by
  obtain ⟨s', a, b, c⟩ := r.obj D _ hD
  obtain rfl := Option.some.inj (a.symm.trans hs)
  have hoth : ∀ j, j ≠ s'.blk → (w.putObj s'.blk ob).heap[j]? = w.heap[j]? := fun j hj => World.putObj_heap_other hj
  have hb := r.below.size
  refine ⟨⟨r.below.os, r.below.tape, r.below.output, by simpa using hb, fun j hj => (hoth j (by omega)).trans (r.below.block j hj)⟩, fun j o' e => ?_, fun j j' o1 o2 p1 p2 g1 g2 g3 g4 g5 => ?_⟩
  · rw [Tr.get_put] at e
    by_cases hj : j = D
    · rw [if_pos hj] at e; cases e
    · rw [if_neg hj] at e
      obtain ⟨sj, k1, k2, k3⟩ := r.obj j o' e
      exact ⟨sj, k1, k2, k3.of_heap (hoth _ fun eq => hj (r.inj j D o' _ sj s' e hD k1 a eq))⟩
  · rw [Tr.get_put] at g1 g2
    split at g1
    · cases g1
    · split at g2
      · cases g2
      · exact r.inj j j' o1 o2 p1 p2 g1 g2 g3 g4 g5
theorem dropK_ok (l : List Nat) : ∀ (h : HS) (k : HS → Bool), dropK l h k = true → ∃ h', k h' = true ∧ Goes h h' ∧ (h'.nx = h.nx ∧ h'.ne = h.ne) ∧ ∀ (E : Env) (w : World) (ds : List Deferred) (fn : Func) (tmps : Array Value) (R : Ending → World → Prop), Rel W0 E h.hp.get w → Marks E l ds →
    (∀ w', Rel W0 E h'.hp.get w' → Step h.bar h.hp.get h.nx h'.nx h.ne h'.ne E E w w' → LeavesInM Fence.wide 0 P fn tmps R [] .returning w') → LeavesInM Fence.wide 0 P fn tmps R ds .returning w := by
  induction l with
  | nil =>
    intro h k hk
    refine ⟨h, hk, Goes.refl h, ⟨rfl, rfl⟩, fun E w ds fn tmps R r hm hR => ?_⟩
    have hm : ds = [] := hm
    subst hm
    exact hR w r (Step.refl _ _ _ _ _ _)
  | cons D l ih =>
    intro h k hk
    obtain ⟨hp, nx, ne, bar⟩ := h
    have hk : (getQ hp D fun so => asDf so (Bool.rec false (hp.putK D none fun hp' => dropK l ⟨hp', nx, ne, bar⟩ k) (Nat.ble bar D))) = true := hk
    rw [getQ_eq] at hk
    split at hk
    case h_2 => cases hk
    rename_i so hso
    obtain ⟨rfl, hk⟩ := asDf_ok hk
    obtain ⟨hb, hk⟩ := rec_true hk
    have hb := Nat.le_of_ble_eq_true hb
    rw [Tr.putK_eq] at hk
    obtain ⟨h', k1, g, ⟨n1, n2⟩, ok⟩ := ih _ _ hk
    have g0 : Goes ⟨hp, nx, ne, bar⟩ ⟨hp.put D none, nx, ne, bar⟩ := by
      refine ⟨fun j hj => ?_, rfl, Nat.le_refl _, Nat.le_refl _, fun j x e => ?_⟩
      · have hj : j < bar := hj
        show (hp.put D none).get j = _
        rw [Tr.get_put, if_neg (by omega)]
      · have e : (hp.put D none).get j = some x := e
        rw [Tr.get_put] at e
        split at e
        · cases e
        · exact .inr ⟨x, e⟩
    refine ⟨h', k1, g0.trans g, ⟨n1, n2⟩, fun E w ds fn tmps R r hm hR => ?_⟩
    obtain ⟨s, ds', hs, rfl, hm⟩ := hm
    obtain ⟨s', a, b, c⟩ := r.obj D _ hso
    obtain rfl := Option.some.inj (a.symm.trans hs)
    have c : w.heap[s'.blk]? = some (.deferred (some [])) := c
    refine ⟨by simp, .inl ⟨s'.blk, _, rfl, run_takeDeferred c, ok E _ ds' fn tmps R (r.taken hso a _) hm fun w' r' st => hR w' r' ?_⟩⟩
    have st0 : Step bar hp.get nx nx ne ne E E w (w.putObj s'.blk (.deferred none)) := Step.upd hso hb a (by simp) (fun j hj => World.putObj_heap_other hj)
    exact Step.trans g0 g st0 st
noncomputable def asMks (s : SV) : (List Nat → Bool) → Bool → Bool :=
  SV.rec (motive_1 := fun _ => (List Nat → Bool) → Bool → Bool) (motive_2 := fun _ => Unit) (fun _ _ d => d) (fun _ _ _ d => d) (fun _ _ d => d) (fun _ _ _ d => d) (fun _ _ _ _ _ d => d) (fun _ _ _ _ _ d => d) (fun _ _ _ _ _ d => d) (fun _ _ d => d) (fun _ _ _ _ _ _ d => d) (fun _ _ _ _ d => d) (fun _ _ _ d => d) (fun _ _ _ d => d) (fun _ _ d => d) (fun l k _ => k l) () (fun _ _ _ _ => ()) s
theorem asMks_ok {s : SV} {k : List Nat → Bool} {d : Bool} (h : asMks s k d = true) : (∃ l, s = .mks l ∧ k l = true) ∨ ((∀ l, s ≠ .mks l) ∧ d = true) := by
  cases s <;> first | exact .inl ⟨_, rfl, h⟩ | exact .inr ⟨(fun l e => by cases e), h⟩
/-- The frame's end: the marks that it holds. -/
noncomputable def endK (p : Pa) (fr : Tr SV) (h : HS) (k : HS → Bool) : Bool := getP fr p fun v => asMks v (fun l => dropK l h k) (k h)
theorem endK_ok {N : Nat} {fr : Tr SV} {h : HS} {k : HS → Bool} (hk : endK (pa N) fr h k = true) : ∃ h', k h' = true ∧ Goes h h' ∧ (h'.nx = h.nx ∧ h'.ne = h.ne) ∧ ∀ (E : Env) (w : World) (ds : List Deferred) (fn : Func) (tmps : Array Value) (R : Ending → World → Prop), Rel W0 E h.hp.get w → DefOk E (opd fr (.tmp N)) ds →
    (∀ w', Rel W0 E h'.hp.get w' → Step h.bar h.hp.get h.nx h'.nx h.ne h'.ne E E w w' → LeavesInM Fence.wide 0 P fn tmps R [] .returning w') → LeavesInM Fence.wide 0 P fn tmps R ds .returning w := by
  unfold endK at hk
  rw [getP_eq, opdK_eq] at hk
  rcases asMks_ok hk with ⟨l, e, q⟩ | ⟨e, q⟩
  · obtain ⟨h', k1, g, n, ok⟩ := dropK_ok (W0 := W0) (P := P) l h k q
    refine ⟨h', k1, g, n, fun E w ds fn tmps R r hd hR => ok E w ds fn tmps R r ?_ hR⟩
    rw [e] at hd
    exact hd
  · refine ⟨h, q, Goes.refl h, ⟨rfl, rfl⟩, fun E w ds fn tmps R r hd hR => ?_⟩
    have : ds = [] := by
      unfold DefOk at hd
      split at hd
      · rename_i l hl; exact absurd hl (e l)
      · exact hd
    subst this
    exact hR w r (Step.refl _ _ _ _ _ _)
end Go.Proofs.YtbkgehknhjkaoaaGreatDoor.Ev
namespace Go.Proofs.YtbkgehknhjkaoaaGreatDoor.Ev
open Go Go.RowKit

variable [GTab] {P : Program} {W0 : World} [GOk W0]
inductive X where
  | normal
  | exit (id : Nat)
  | ret
def X.to : X → Exit
  | .normal => .normal
  | .exit id => .exit id
  | .ret => .ret
abbrev KX := X → Tr SV → HS → Bool
abbrev CodeF := CallK → Nat → Tr SV → HS → KX → Bool
/-- The frame says what the full frame says of the slots that are kept. -/
def Ag (K : Nat) (fr frT : Tr SV) : Prop := ∀ t, Nat.testBit K t = true → opd fr (.tmp t) = opd frT (.tmp t)
theorem opd_ag {K : Nat} {fr frT : Tr SV} (ag : Ag K fr frT) {c : Operand} (h : resolved K [] [] c = true) : opd fr c = opd frT c := by
  cases c with
  | tmp t => exact ag t (by simpa [resolved, idx, alias] using h)
  | const v => cases v <;> rfl
  | global g => rfl
  | func f => rfl
/-! ### the record -/
noncomputable def asLp (so : SO) (k : LoopState → Option Code → Tr SV → Nat → Array Tmp → Code → Code → Nat → Bool) : Bool :=
  SO.rec (fun _ _ _ => false) (fun _ _ => false) (fun st pend fr N ps as bd D => k st pend fr N ps as bd D) false (fun _ => false) so
theorem asLp_ok {so : SO} {k : LoopState → Option Code → Tr SV → Nat → Array Tmp → Code → Code → Nat → Bool} (h : asLp so k = true) : ∃ st pend fr N ps as bd D, so = .lp st pend fr N ps as bd D ∧ k st pend fr N ps as bd D = true := by
  cases so with
  | lp st pend fr N ps as bd D => exact ⟨_, _, _, _, _, _, _, _, rfl, h⟩
  | row => cases h
  | mp => cases h
  | df => cases h
  | ml => cases h
noncomputable def isReady (st : LoopState) : Bool := LoopState.rec (motive := fun _ => Bool) true false false false st
noncomputable def notBusy (st : LoopState) : Bool := LoopState.rec (motive := fun _ => Bool) true false true true st
theorem isReady_ok {st : LoopState} (h : isReady st = true) : st = .ready := by cases st <;> first | rfl | cases h
theorem notBusy_ok {st : LoopState} (h : notBusy st = true) : st ≠ .busy := by cases st <;> first | (intro e; cases e; done) | cases h
noncomputable def jumpK (p : Option Code) (k : X → Bool) : Bool :=
  Option.rec (k .normal) (fun c => Code.rec (motive := fun _ => Bool) false (fun _ _ _ => false) (fun _ _ _ _ => false) (fun _ _ _ _ _ => false) (fun _ _ _ => false) (fun _ _ => false) (fun _ _ _ _ _ _ => false) (fun id => k (.exit id)) (fun _ _ => false) (fun _ => false) (fun _ => false) (k .ret) (fun _ => false) c) p
theorem jumpK_ok {p : Option Code} {k : X → Bool} (h : jumpK p k = true) : (p = none ∧ k .normal = true) ∨ (∃ id, p = some (.exit id) ∧ k (.exit id) = true) ∨ (p = some .ret ∧ k .ret = true) := by
  cases p with
  | none => exact .inl ⟨rfl, h⟩
  | some c =>
    cases c with
    | exit id => exact .inr (.inl ⟨id, rfl, h⟩)
    | ret => exact .inr (.inr ⟨rfl, h⟩)
    | skip => cases h
    | region _ _ _ => cases h
    | seq _ _ => cases h
    | cond _ _ _ => cases h
    | block _ _ => cases h
    | loop _ => cases h
    | rangeFunc _ _ _ _ => cases h
    | scope _ => cases h
    | label _ => cases h
    | goto _ => cases h
    | refuse _ => cases h
theorem Rel.setLp {E : Env} {g : Tr SO} {w : World} (r : Rel W0 E g.get w) {id : Nat} {st st' : LoopState} {pend pend' : Option Code} {fr : Tr SV} {N : Nat} {ps : Array Tmp} {as bd : Code} {D : Nat} {s sD : Spot} {fn : FuncId} {tmps : Array Value}
    (h : g.get id = some (.lp st pend fr N ps as bd D)) (hs : E.at_ id = some s) (hw : w.heap[s.blk]? = some (.loop { state := st, pending := pend, fn, tmps, params := ps, assign := as, body := bd, defers := sD.blk }))
    (hD : E.at_ D = some sD) (ht : TmpsOk E fr N tmps) :
    Rel W0 E (g.put id (some (.lp st' pend' fr N ps as bd D))).get (w.putObj s.blk (.loop { state := st', pending := pend', fn, tmps, params := ps, assign := as, body := bd, defers := sD.blk })) :=
  r.upd (o' := .lp st' pend' fr N ps as bd D) h hs rfl rfl rfl (by simp) (fun j hj => World.putObj_heap_other hj) ⟨fn, tmps, sD, World.putObj_heap_same (Array.getElem?_eq_some_iff.1 hw).1, hD, ht⟩ (fun j => Tr.get_put _ _ _ _)
theorem Goes.take {h : HS} {id : Nat} (hb : h.bar ≤ id) : Goes h ⟨h.hp.put id none, h.nx, h.ne, h.bar⟩ := by
  refine ⟨fun j hj => ?_, rfl, Nat.le_refl _, Nat.le_refl _, fun j x e => ?_⟩
  · show (h.hp.put id none).get j = _
    rw [Tr.get_put, if_neg (by omega)]
  · have e : (h.hp.put id none).get j = some x := e
    rw [Tr.get_put] at e
    by_cases hj : j = id
    · rw [if_pos hj] at e; cases e
    · rw [if_neg hj] at e; exact .inr ⟨x, e⟩
/-! ### the statement -/
noncomputable def asMk (s : SV) (k : List Nat → Bool) : Bool := asMks s k (k [])
theorem asMk_ok {s : SV} {k : List Nat → Bool} (h : asMk s k = true) : ∃ l, k l = true ∧ ∀ E ds, DefOk E s ds → Marks E l ds := by
  rcases asMks_ok h with ⟨l, rfl, q⟩ | ⟨e, q⟩
  · exact ⟨l, q, fun E ds hd => hd⟩
  · refine ⟨[], q, fun E ds hd => ?_⟩
    unfold DefOk at hd
    split at hd
    · rename_i l; exact absurd rfl (e l)
    · exact hd
/-- All slots up to the place N. -/
noncomputable def fullM (N : Nat) : Nat := Nat.sub (Nat.shiftLeft 1 (Nat.succ N)) 1
theorem fullM_bit (N t : Nat) : Nat.testBit (fullM N) t = decide (t ≤ N) := by
  have : fullM N = 2 ^ (N + 1) - 1 := by
    unfold fullM
    show 1 <<< (N + 1) - 1 = _
    rw [Nat.one_shiftLeft]
  rw [this, Nat.testBit_two_pow_sub_one]
  exact decide_eq_decide.2 (by omega)
theorem full_of {K N : Nat} (h : Nat.beq (Nat.land K (fullM N)) (fullM N) = true) {t : Nat} (ht : t ≤ N) : Nat.testBit K t = true := by
  have e : K &&& fullM N = fullM N := Nat.eq_of_beq_eq_true h
  have := congrArg (fun x => Nat.testBit x t) e
  simp only [Nat.testBit_and, fullM_bit, decide_eq_true ht, Bool.and_true] at this
  exact this
noncomputable def clRange (P : Program) (N K : Nat) (g : Operand) (ps : Array Tmp) (assign body : Code) : Cl CodeF :=
  bif resolved K [] [] g && Nat.beq (Nat.land K (fullM N)) (fullM N) then (opdC g).then fun gg => paC N fun pN =>
    ⟨fun call F fr h k => gg fr fun fv => match fnOf fv with
      | some (.func f, first, cap) => bif fineFn P f && Nat.ble h.bar h.nx then newK h .df fun h1 => newK h1 (.lp .ready none fr N ps assign body h.nx) fun h2 =>
          listK (first ++ (.yld h1.nx :: cap)) fun l => call (.fn f) l h2 fun _ h3 => getQ h3.hp h1.nx fun so => asLp so fun st pend _ _ _ _ _ _ =>
            bif notBusy st then h3.hp.putK h1.nx none fun hp4 => getP fr pN fun mk => asMk mk fun l => putP fr pN (.mks (h.nx :: l)) fun fr' => jumpK pend fun x => k x fr' ⟨hp4, h3.nx, h3.ne, h3.bar⟩ else false
        else false
      | _ => false⟩
  else ⟨fun _ _ _ _ _ => false⟩
theorem clRange_ok {call : CallK} (hc : CallSound P W0 call) {N K F : Nat} {g : Operand} {ps : Array Tmp} {assign body : Code} {fr frT : Tr SV} {h : HS} {k : KX} (ag : Ag K fr frT) (hk : (clRange P N K g ps assign body).f call F fr h k = true) :
    ∃ x fr' frT' h', k x fr' h' = true ∧ Ag K fr' frT' ∧ Goes h h' ∧ ∀ E a w, Rel W0 E h.hp.get w → Free E h.nx h'.nx h.ne h'.ne → FrOk E frT N a → ∀ Q : Exit → Act → World → Prop,
      (∀ E' a' w', Rel W0 E' h'.hp.get w' → Step h.bar h.hp.get h.nx h'.nx h.ne h'.ne E E' w w' → FrOk E' frT' N a' → Q x.to a' w') → (Code.rangeFunc g ps assign body).wpIn (Fw none) 0 P Q a w := by
  unfold clRange at hk
  cases hr : (resolved K [] [] g && Nat.beq (Nat.land K (fullM N)) (fullM N)) with
  | false => rw [hr] at hk; cases hk
  | true =>
  rw [hr, cond_true] at hk
  simp only [Bool.and_eq_true] at hr
  obtain ⟨hr, hN⟩ := hr
  simp only [Cl.then_eq, paC_eq, opdC_at] at hk
  split at hk
  case h_2 => cases hk
  rename_i f first cap hfv
  obtain ⟨h1, hk⟩ := bif_true hk
  simp only [Bool.and_eq_true] at h1
  obtain ⟨hfine, hb⟩ := h1
  have hb := Nat.le_of_ble_eq_true hb
  rw [newK_eq, newK_eq, listK_eq] at hk
  obtain ⟨sv, h3, hk, g3, ok3⟩ := hc _ _ _ _ hk
  obtain ⟨h3hp, h3nx, h3ne, h3bar⟩ := h3
  simp only at hk
  rw [getQ_eq] at hk
  split at hk
  case h_2 => cases hk
  rename_i so hso
  obtain ⟨st, pend, fr2, N2, ps2, as2, bd2, D2, rfl, hk⟩ := asLp_ok hk
  obtain ⟨hst, hk⟩ := bif_true hk
  have hst := notBusy_ok hst
  rw [Tr.putK_eq, getP_eq, opdK_eq] at hk
  obtain ⟨l, hk, hmk⟩ := asMk_ok hk
  rw [putP_eq, Tr.putK_eq] at hk
  -- how the objects go on
  let h1 : HS := ⟨h.hp.put h.nx (some .df), h.nx + 1, h.ne, h.bar⟩
  let h2 : HS := ⟨h1.hp.put h1.nx (some (.lp .ready none fr N ps assign body h.nx)), h1.nx + 1, h1.ne, h1.bar⟩
  let h4 : HS := ⟨h3hp.put (h.nx + 1) none, h3nx, h3ne, h3bar⟩
  have e3b : h3bar = h.bar := g3.bar
  have G1 : Goes h h1 := Goes.new h hb _
  have G2 : Goes h1 h2 := Goes.new h1 (show h.bar ≤ h.nx + 1 by omega) _
  have G3 : Goes h2 ⟨h3hp, h3nx, h3ne, h3bar⟩ := g3
  have G4 : Goes ⟨h3hp, h3nx, h3ne, h3bar⟩ h4 := Goes.take (h := ⟨h3hp, h3nx, h3ne, h3bar⟩) (id := h.nx + 1) (show h3bar ≤ h.nx + 1 by omega)
  have ag' : Ag K (fr.put N (some (.mks (h.nx :: l)))) (frT.put N (some (.mks (h.nx :: l)))) := fun t ht => by
    have := ag t ht
    simp only [opd] at this ⊢
    rw [Tr.get_put, Tr.get_put]
    split
    · rfl
    · exact this
  have n3 : h.nx + 1 + 1 ≤ h3nx := G3.nx
  have m3 : h.ne ≤ h3ne := G3.ne
  have fin : ∀ x, (pend = none ∧ x = X.normal ∨ (∃ id, pend = some (.exit id) ∧ x = .exit id) ∨ pend = some .ret ∧ x = .ret) → ∀ E a w, Rel W0 E h.hp.get w → Free E h.nx h4.nx h.ne h4.ne → FrOk E frT N a → ∀ Q : Exit → Act → World → Prop,
      (∀ E' a' w', Rel W0 E' h4.hp.get w' → Step h.bar h.hp.get h.nx h4.nx h.ne h4.ne E E' w w' → FrOk E' (frT.put N (some (.mks (h.nx :: l)))) N a' → Q x.to a' w') → (Code.rangeFunc g ps assign body).wpIn (Fw none) 0 P Q a w := by
    intro x hx E a w r fe fo Q hQ
    refine wpIn_rangeFunc fun fn _ => ?_
    have eg := opd_ok fo g
    rw [← opd_ag ag hr] at eg
    obtain ⟨u, v, hu, hv, eg⟩ := fnOf_ok hfv eg
    -- the two blocks
    have fe : Free E h.nx h3nx h.ne h3ne := fe
    obtain ⟨S1, R1⟩ := new_rel (cap := 0) r (fe.left (nx1 := h.nx + 1) (ne1 := h.ne) (by omega) m3) (so := .df) (ob := .deferred (some [])) (fun w' hw' => hw')
    have f1 : Free (E.more h.nx ⟨w.heap.size, 0, 0⟩) h1.nx h3nx h1.ne h3ne := fe.right S1 (Nat.le_succ _) (Nat.le_refl _)
    generalize hE1 : E.more h.nx ⟨w.heap.size, 0, 0⟩ = E1 at S1 R1 f1
    have eD : E1.at_ h.nx = some ⟨w.heap.size, 0, 0⟩ := by rw [← hE1]; exact E.more_at _ _
    have sz1 : ({ w with heap := w.heap.push (.deferred (some [])) } : World).heap.size = w.heap.size + 1 := by simp
    generalize hw1 : ({ w with heap := w.heap.push (.deferred (some [])) } : World) = w1 at S1 R1 sz1
    have hn1 := f1.at_ (h.nx + 1) (Nat.le_refl _) (by omega)
    obtain ⟨S2, R2⟩ := new_rel (h := h1) (cap := 0) R1 (f1.left (nx1 := h1.nx + 1) (ne1 := h1.ne) (by show h.nx + 1 + 1 ≤ _; omega) m3) (so := .lp .ready none fr N ps assign body h.nx)
      (ob := .loop { state := .ready, pending := none, fn, tmps := a.tmps, params := ps, assign, body, defers := w.heap.size })
      (fun w' hw' => ⟨fn, a.tmps, ⟨w.heap.size, 0, 0⟩, hw', (E1.le_more _ _ hn1).1 _ _ eD, ⟨fo.size, fun t ht => by
        have e := ag t (full_of hN (Nat.le_of_lt ht))
        simp only [opd] at e
        rw [e]
        exact val_le (Env.le_trans S1.le (E1.le_more _ _ hn1)) _ _ (fo.get t)⟩⟩)
    have f2 : Free (E1.more h1.nx ⟨w1.heap.size, 0, 0⟩) h2.nx h3nx h2.ne h3ne := f1.right S2 (by show h.nx + 1 ≤ h.nx + 1 + 1; omega) (Nat.le_refl _)
    generalize hE2 : E1.more h1.nx ⟨w1.heap.size, 0, 0⟩ = E2 at S2 R2 f2
    have eL : E2.at_ (h.nx + 1) = some ⟨w1.heap.size, 0, 0⟩ := by rw [← hE2]; exact E1.more_at _ _
    generalize hw2 : ({ w1 with heap := w1.heap.push (.loop { state := .ready, pending := none, fn, tmps := a.tmps, params := ps, assign, body, defers := w.heap.size }) } : World) = w2 at S2 R2
    have S12 : Step h.bar h.hp.get h.nx h2.nx h.ne h2.ne E E2 w w2 := Step.trans G1 G2 S1 S2
    have hargs : vals E2 (first ++ (.yld (h.nx + 1) :: cap)) = some (u ++ (.func (.yield (w.heap.size + 1)) #[] #[] :: v)) := by
      refine vals_append (vals_le S12.le _ _ hu) ?_
      simp only [vals, val, eL, Option.map_some, Option.bind_some, sz1, vals_le S12.le _ _ hv]
    refine ⟨w.heap.size + 1, [{ target := .collected w.heap.size, args := #[] }], w2, { target := .fn (.func f) v.toArray, args := u.toArray ++ #[.func (.yield (w.heap.size + 1)) #[] #[]] }, w2, f,
      (u ++ (.func (.yield (w.heap.size + 1)) #[] #[] :: v)).toArray, w2, ?_, ?_, fun _ _ => trivial, ?_, fun e => (by cases e), ?_⟩
    · rw [← hw2, ← hw1]
      exact run_enterLoop_outer _ _ _ _ _
    · simp only [resolve, rangeCall, eg, Deferred.ofValue, Sem.run_bind, Sem.run_pure, Result.andThen]
      simp [Act.eval]
    · simp only [invoke, run_callFunc hfine]
      congr 2
      rw [← Array.toList_inj]; simp
    · refine callsIn_fw.2 (ok3 E2 w2 _ R2 f2 hargs _ fun E3 sv' w3 _ R3 S3 => ?_)
      have S23 := Step.trans (G1.trans G2) G3 S12 S3
      have eL3 : E3.at_ (h.nx + 1) = some ⟨w1.heap.size, 0, 0⟩ := S3.le.1 _ _ eL
      obtain ⟨sL, q1, q2, fn2, tmps2, sD2, q3, q4, q5⟩ := R3.obj _ _ hso
      rw [eL3] at q1
      obtain rfl := Option.some.inj q1
      change w3.heap[w1.heap.size]? = _ at q3
      rw [sz1] at q3
      have hend := run_endLoop (P := P) q3 hst
      have R4 : Rel W0 E3 h4.hp.get (w3.putObj (w.heap.size + 1) (.loop { state := .exhausted, pending := pend, fn := fn2, tmps := tmps2, params := ps2, assign := as2, body := bd2, defers := sD2.blk })) := by
        have := R3.taken hso eL3 (.loop { state := .exhausted, pending := pend, fn := fn2, tmps := tmps2, params := ps2, assign := as2, body := bd2, defers := sD2.blk })
        rw [sz1] at this
        exact this
      have S4 : Step h3bar h3hp.get h3nx h3nx h3ne h3ne E3 E3 w3 (w3.putObj (w.heap.size + 1) (.loop { state := .exhausted, pending := pend, fn := fn2, tmps := tmps2, params := ps2, assign := as2, body := bd2, defers := sD2.blk })) :=
        Step.upd hso (by omega) eL3 (by simp) (fun j hj => World.putObj_heap_other (by rw [sz1] at hj; exact hj))
      have S5 := Step.trans ((G1.trans G2).trans G3) G4 S23 S4
      have eD3 : E3.at_ h.nx = some ⟨w.heap.size, 0, 0⟩ := S3.le.1 _ _ (S2.le.1 _ _ eD)
      have fo' : FrOk E3 (frT.put N (some (.mks (h.nx :: l)))) N { a with defers := [{ target := .collected w.heap.size, args := #[] }] ++ a.defers } := by
        refine ⟨fo.size, ?_, fun t => ?_⟩
        · rw [Tr.get_put, if_pos rfl]
          refine ⟨_, _, eD3, rfl, hmk _ _ ?_⟩
          rw [ag N (full_of hN (Nat.le_refl _))]
          exact (fo.le S23.le).defers
        · rw [Tr.get_put]
          split
          · rename_i e
            have := fo.size
            simp [val, e, Array.getD, this]
          · exact (fo.le S23.le).get t
      have hq := hQ E3 _ _ R4 S5 fo'
      refine ⟨pend, _, hend, ?_⟩
      rcases hx with ⟨rfl, rfl⟩ | ⟨id, rfl, rfl⟩ | ⟨rfl, rfl⟩
      · exact hq
      · exact wpIn_exit hq
      · exact wpIn_ret hq
  have G : Goes h h4 := ((G1.trans G2).trans G3).trans G4
  rcases jumpK_ok hk with ⟨e, q⟩ | ⟨id, e, q⟩ | ⟨e, q⟩
  · exact ⟨_, _, _, h4, q, ag', G, fin _ (.inl ⟨e, rfl⟩)⟩
  · exact ⟨_, _, _, h4, q, ag', G, fin _ (.inr (.inl ⟨id, e, rfl⟩))⟩
  · exact ⟨_, _, _, h4, q, ag', G, fin _ (.inr (.inr ⟨e, rfl⟩))⟩
end Go.Proofs.YtbkgehknhjkaoaaGreatDoor.Ev
namespace Go.Proofs.YtbkgehknhjkaoaaGreatDoor.Ev
open Go

variable [GTab] {P : Program} {W0 : World} [GOk W0]
noncomputable def loopGo (body : Tr SV → HS → KX → Bool) (k : KX) (n : Nat) : Tr SV → HS → Bool :=
  Nat.rec (fun _ _ => false) (fun _ again fr h => body fr h fun x fr' h' => X.rec (again fr' h') (fun id => k (.exit id) fr' h') (k .ret fr' h') x) n
noncomputable def clSeq (ia ib : Cl CodeF) : Cl CodeF := ⟨fun call F fr h k => ia.f call F fr h fun x fr' h' => X.rec (ib.f call F fr' h' k) (fun id => k (.exit id) fr' h') (k .ret fr' h') x⟩
noncomputable def clCond (K : Nat) (c : Operand) (ia ib : Cl CodeF) : Cl CodeF := bif resolved K [] [] c then (opdC c).then fun g => ⟨fun call F fr h k => g fr fun v => asBool v (ia.f call F fr h k) (ib.f call F fr h k)⟩ else ⟨fun _ _ _ _ _ => false⟩
noncomputable def clBlock (id : Nat) (ib : Cl CodeF) : Cl CodeF := ⟨fun call F fr h k => ib.f call F fr h fun x fr' h' => X.rec (k .normal fr' h') (fun j => Bool.rec (k (.exit j) fr' h') (k .normal fr' h') (Nat.beq j id)) (k .ret fr' h') x⟩
noncomputable def clLoop (ib : Cl CodeF) : Cl CodeF := ⟨fun call F fr h k => loopGo (ib.f call F) k F fr h⟩
noncomputable def clRegion (P : Program) (N K : Nat) (ops : Array Oper) (draw : Bool) : Cl CodeF :=
  Bool.rec ((opsS P N K ops ops.toList [] []).then fun g => ⟨fun call _ fr h k => g call ⟨fr, []⟩ h (k .normal)⟩) (bif drawIn K ops ops.toList then (drawRC P N ops).then fun g => ⟨fun call _ fr h k => g call fr h (k .normal)⟩ else ⟨fun _ _ _ _ _ => false⟩) draw
noncomputable def codeC (P : Program) (N K : Nat) (fl : Bool) (c : Code) : Cl CodeF :=
  Code.rec (motive := fun _ => Cl CodeF)
    ⟨fun _ _ fr h k => k .normal fr h⟩
    (fun _ ops draw => clRegion P N K ops draw)
    (fun _ _ ia ib => clSeq ia ib)
    (fun c _ _ ia ib => clCond K c ia ib)
    (fun id _ ib => clBlock id ib)
    (fun _ ib => clLoop ib)
    (fun g ps as bd _ _ => Bool.rec (clRange P N K g ps as bd) ⟨fun _ _ _ _ _ => false⟩ fl)
    (fun id => ⟨fun _ _ fr h k => k (.exit id) fr h⟩)
    (fun _ ib => ib)
    (fun _ => ⟨fun _ _ fr h k => k .normal fr h⟩)
    (fun _ => ⟨fun _ _ _ _ _ => false⟩)
    ⟨fun _ _ fr h k => k .ret fr h⟩
    (fun _ => ⟨fun _ _ _ _ _ => false⟩) c
noncomputable def codeOk (c : Code) : Bool :=
  Code.rec (motive := fun _ => Bool) true (fun _ ops draw => bif draw then drawOk ops else true) (fun _ _ ia ib => bif ia then ib else false) (fun _ _ _ ia ib => bif ia then ib else false) (fun _ _ ib => ib) (fun _ ib => ib)
    (fun _ _ _ _ _ _ => true) (fun _ => true) (fun _ ib => ib) (fun _ => true) (fun _ => true) true (fun _ => true) c
section
variable {F : Fence} {n : Nat} {b : Frame} {a : Act} {k : List Item} {cs : List Frame} {w : World} {Q : Exit → Act → World → Prop}
theorem stepR_scope {c : Code} : step P (lone (b.atR a (.code (.scope c) :: k)) cs w) = .next (lone (b.atR a (.code c :: .inScope c :: k)) cs w) :=
  step_lone_go (by simp [stepG, stepG.exec, Frame.atR])
theorem stepR_inScope {c : Code} : step P (lone (b.atR a (.inScope c :: k)) cs w) = .next (lone (b.atR a k) cs w) :=
  step_lone_go (by simp [stepG, stepG.exec, Frame.atR])
theorem wpIn_scope_straight {c : Code} (h : c.wpIn F n P (Exit.noGoto Q) a w) : (Code.scope c).wpIn F n P Q a w := by
  intro b k cs hro hb hr
  obtain ⟨e, a₁, w₁, hq, harr⟩ := h b (.inScope c :: k) cs hro hb hr
  have s0 : StepsIn (Machine.fenced P F) P (lone (b.atR a (.code (.scope c) :: k)) cs w) (lone (b.atR a (.code c :: .inScope c :: k)) cs w) := .one (fenced_calm hb hr rfl) stepR_scope
  cases e with
  | normal => exact ⟨.normal, a₁, w₁, hq, StepsIn.trans s0 (StepsIn.trans harr (.one (fenced_calm hb hr rfl) stepR_inScope))⟩
  | exit id =>
    have hx : exitTo id (.inScope c :: k) = exitTo id k := by simp [exitTo]
    exact ⟨.exit id, a₁, w₁, hq, fun k' hk => StepsIn.trans s0 (harr.1 k' (by rw [hx]; exact hk)), fun hr' hk => let ⟨k₁, h1, h2⟩ := harr.2 hr' (by rw [hx]; exact hk); ⟨k₁, h1, StepsIn.trans s0 h2⟩⟩
  | goto l => exact hq.elim
  | ret => exact ⟨_, a₁, w₁, hq, .of_steps s0 harr⟩
  | panic ch => exact ⟨_, a₁, w₁, hq, .of_steps s0 harr⟩
  | outgrown => exact ⟨_, a₁, w₁, hq, .of_steps s0 harr⟩
end
/-- From every frame and world that are so, the code comes to what is given. -/
def CodeOk (P : Program) (W0 : World) (N : Nat) (fl : Bool) (c : Code) (fr : Tr SV) (h : HS) (x : X) (fr' : Tr SV) (h' : HS) : Prop :=
  ∀ (ro : { r : Option Nat // fl = true ∨ r = none }) E a w, Rel W0 E h.hp.get w → Free E h.nx h'.nx h.ne h'.ne → FrOk E fr N a → ∀ Q : Exit → Act → World → Prop,
    (∀ E' a' w', Rel W0 E' h'.hp.get w' → Step h.bar h.hp.get h.nx h'.nx h.ne h'.ne E E' w w' → FrOk E' fr' N a' → Q x.to a' w') → c.wpIn (Fw ro.1) 0 P Q a w
theorem codeC_ok {call : CallK} (hc : CallSound P W0 call) (hm : P.follows .mixedOrders = true) {N K F : Nat} {fl : Bool} (c : Code) : ∀ (fr frT : Tr SV) (h : HS) (k : KX), Ag K fr frT → codeOk c = true → (codeC P N K fl c).f call F fr h k = true →
    ∃ x fr' frT' h', k x fr' h' = true ∧ Ag K fr' frT' ∧ Goes h h' ∧ CodeOk P W0 N fl c frT h x frT' h' := by
  induction c with
  | skip => intro fr frT h k ag _ hk; exact ⟨.normal, fr, frT, h, hk, ag, Goes.refl h, fun ro E a w r _ fo Q hQ => wpIn_skip (hQ E a w r (Step.refl _ _ _ _ _ _) fo)⟩
  | label l => intro fr frT h k ag _ hk; exact ⟨.normal, fr, frT, h, hk, ag, Goes.refl h, fun ro E a w r _ fo Q hQ => wpIn_label (hQ E a w r (Step.refl _ _ _ _ _ _) fo)⟩
  | exit id => intro fr frT h k ag _ hk; exact ⟨.exit id, fr, frT, h, hk, ag, Goes.refl h, fun ro E a w r _ fo Q hQ => wpIn_exit (hQ E a w r (Step.refl _ _ _ _ _ _) fo)⟩
  | ret => intro fr frT h k ag _ hk; exact ⟨.ret, fr, frT, h, hk, ag, Goes.refl h, fun ro E a w r _ fo Q hQ => wpIn_ret (hQ E a w r (Step.refl _ _ _ _ _ _) fo)⟩
  | rangeFunc g ps as bd _ _ =>
    intro fr frT h k ag _ hk
    cases fl with
    | true => cases hk
    | false =>
      obtain ⟨x, fr', frT', h', k1, ag', g', ok⟩ := clRange_ok (W0 := W0) hc (F := F) ag (show (clRange P N K g ps as bd).f call F fr h k = true from hk)
      refine ⟨x, fr', frT', h', k1, ag', g', fun ro E a w r fe fo Q hQ => ?_⟩
      obtain ⟨ro, hro⟩ := ro
      rcases hro with e | rfl
      · cases e
      · exact ok E a w r fe fo Q hQ
  | scope b ib =>
    intro fr frT h k ag hok hk
    obtain ⟨x, fr', frT', h', k1, ag', g, ok⟩ := ib fr frT h k ag hok hk
    refine ⟨x, fr', frT', h', k1, ag', g, fun ro E a w r fe fo Q hQ => wpIn_scope_straight (ok ro E a w r fe fo _ fun E' a' w' r' st fo' => ?_)⟩
    have := hQ E' a' w' r' st fo'
    cases x with
    | normal => exact this
    | exit id => exact this
    | ret => exact this
  | goto l => intro fr frT h k _ _ hk; cases hk
  | refuse w => intro fr frT h k _ _ hk; cases hk
  | region id ops draw =>
    intro fr frT h k ag hok hk
    cases draw with
    | true =>
      have hk2 : (bif drawIn K ops ops.toList then (drawRC P N ops).then fun g => (⟨fun call _ fr h k => g call fr h (k .normal)⟩ : Cl CodeF) else ⟨fun _ _ _ _ _ => false⟩).f call F fr h k = true := hk
      cases hin : drawIn K ops ops.toList with
      | false => rw [hin] at hk2; cases hk2
      | true =>
        rw [hin, cond_true, Cl.then_eq] at hk2
        obtain ⟨fr', frT', h', k1, ag', g, ok⟩ := drawRC_ok (W0 := W0) hc hm (show drawOk ops = true from hok) hin ag hk2
        exact ⟨.normal, fr', frT', h', k1, ag', g, fun ro E a w r fe fo Q hQ => ok ro.1 id E a w r fe fo Q hQ⟩
    | false =>
      have hk2 : ((opsS P N K ops ops.toList [] []).then fun g => (⟨fun call _ fr h k => g call ⟨fr, []⟩ h (k .normal)⟩ : Cl CodeF)).f call F fr h k = true := hk
      rw [Cl.then_eq] at hk2
      obtain ⟨fr', frT', h', k1, ag', g, ok⟩ := opsS_ok (W0 := W0) hc ops.toList [] [] ⟨fr, []⟩ frT h (k .normal) ⟨ag, fun t i e => (by cases e), fun t x e => (by cases e)⟩ hk2
      exact ⟨.normal, fr', frT', h', k1, ag', g, fun ro E a w r fe fo Q hQ => wpIn_region_list (ok ro.1 E a w r fe fo Q hQ)⟩
  | seq x y ix iy =>
    intro fr frT h k ag hok hk
    obtain ⟨o1, o2⟩ := bif_true (show (bif codeOk x then codeOk y else false) = true from hok)
    change (codeC P N K fl x).f call F fr h (fun x fr' h' => X.rec ((codeC P N K fl y).f call F fr' h' k) (fun id => k (.exit id) fr' h') (k .ret fr' h') x) = true at hk
    obtain ⟨x1, fr1, frT1, h1, k1, ag1, g1, c1⟩ := ix _ _ _ _ ag o1 hk
    cases x1 with
    | normal =>
      obtain ⟨x2, fr2, frT2, h2, k2, ag2, g2, c2⟩ := iy _ _ _ _ ag1 o2 k1
      refine ⟨x2, fr2, frT2, h2, k2, ag2, g1.trans g2, fun ro E a w r fe fo Q hQ => wpIn_seq (c1 ro E a w r (fe.left g2.nx g2.ne) fo _ fun E' a' w' r' st fo' => ?_)⟩
      exact c2 ro E' a' w' r' (fe.right st g1.nx g1.ne) fo' Q fun E2 a2 w2 r2 st2 fo2 => hQ E2 a2 w2 r2 (Step.trans g1 g2 st st2) fo2
    | exit id => exact ⟨.exit id, fr1, frT1, h1, k1, ag1, g1, fun ro E a w r fe fo Q hQ => wpIn_seq (c1 ro E a w r fe fo _ fun E' a' w' r' st fo' => hQ E' a' w' r' st fo')⟩
    | ret => exact ⟨.ret, fr1, frT1, h1, k1, ag1, g1, fun ro E a w r fe fo Q hQ => wpIn_seq (c1 ro E a w r fe fo _ fun E' a' w' r' st fo' => hQ E' a' w' r' st fo')⟩
  | cond c x y ix iy =>
    intro fr frT h k ag hok hk
    obtain ⟨o1, o2⟩ := bif_true (show (bif codeOk x then codeOk y else false) = true from hok)
    have hk2 : (clCond K c (codeC P N K fl x) (codeC P N K fl y)).f call F fr h k = true := hk
    unfold clCond at hk2
    cases hr : resolved K [] [] c with
    | false => rw [hr] at hk2; cases hk2
    | true =>
    rw [hr, cond_true] at hk2
    simp only [Cl.then_eq, opdC_at] at hk2
    rw [opd_ag ag hr] at hk2
    obtain ⟨b, hb, hk⟩ := asBool_ok hk2
    cases b with
    | true =>
      obtain ⟨x1, fr1, frT1, h1, k1, ag1, g1, c1⟩ := ix _ _ _ _ ag o1 hk
      refine ⟨x1, fr1, frT1, h1, k1, ag1, g1, fun ro E a w r fe fo Q hQ => wpIn_cond_true ?_ (c1 ro E a w r fe fo Q hQ)⟩
      have := opd_ok fo c
      rw [hb] at this
      exact (Option.some.inj this).symm
    | false =>
      obtain ⟨x1, fr1, frT1, h1, k1, ag1, g1, c1⟩ := iy _ _ _ _ ag o2 hk
      refine ⟨x1, fr1, frT1, h1, k1, ag1, g1, fun ro E a w r fe fo Q hQ => wpIn_cond_false ?_ (c1 ro E a w r fe fo Q hQ)⟩
      have := opd_ok fo c
      rw [hb] at this
      exact (Option.some.inj this).symm
  | block id x ix =>
    intro fr frT h k ag hok hk
    change (codeC P N K fl x).f call F fr h (fun x fr' h' => X.rec (k .normal fr' h') (fun j => Bool.rec (k (.exit j) fr' h') (k .normal fr' h') (Nat.beq j id)) (k .ret fr' h') x) = true at hk
    obtain ⟨x1, fr1, frT1, h1, k1, ag1, g1, c1⟩ := ix _ _ _ _ ag hok hk
    cases x1 with
    | normal => exact ⟨.normal, fr1, frT1, h1, k1, ag1, g1, fun ro E a w r fe fo Q hQ => wpIn_block (c1 ro E a w r fe fo _ fun E' a' w' r' st fo' => hQ E' a' w' r' st fo')⟩
    | ret => exact ⟨.ret, fr1, frT1, h1, k1, ag1, g1, fun ro E a w r fe fo Q hQ => wpIn_block (c1 ro E a w r fe fo _ fun E' a' w' r' st fo' => hQ E' a' w' r' st fo')⟩
    | exit j =>
      have k1 : (bif Nat.beq j id then k .normal fr1 h1 else k (.exit j) fr1 h1) = true := by
        revert k1
        cases hb : Nat.beq j id <;> intro k1
        · have : (Bool.rec (k (.exit j) fr1 h1) (k .normal fr1 h1) (Nat.beq j id) : Bool) = true := k1
          rw [hb] at this
          exact this
        · have : (Bool.rec (k (.exit j) fr1 h1) (k .normal fr1 h1) (Nat.beq j id) : Bool) = true := k1
          rw [hb] at this
          exact this
      rw [Tr.bif_beq] at k1
      split at k1
      · rename_i e
        refine ⟨.normal, fr1, frT1, h1, k1, ag1, g1, fun ro E a w r fe fo Q hQ => wpIn_block (c1 ro E a w r fe fo _ fun E' a' w' r' st fo' => ?_)⟩
        show (if j = id then Q .normal a' w' else Q (.exit j) a' w')
        rw [if_pos e]
        exact hQ E' a' w' r' st fo'
      · rename_i e
        refine ⟨.exit j, fr1, frT1, h1, k1, ag1, g1, fun ro E a w r fe fo Q hQ => wpIn_block (c1 ro E a w r fe fo _ fun E' a' w' r' st fo' => ?_)⟩
        show (if j = id then Q .normal a' w' else Q (.exit j) a' w')
        rw [if_neg e]
        exact hQ E' a' w' r' st fo'
  | loop x ix =>
    intro fr frT h k ag hok hk
    change loopGo ((codeC P N K fl x).f call F) k F fr h = true at hk
    have key : ∀ (n : Nat) (fr frT : Tr SV) (h : HS), Ag K fr frT → loopGo ((codeC P N K fl x).f call F) k n fr h = true → ∃ x1 fr' frT' h', k x1 fr' h' = true ∧ Ag K fr' frT' ∧ Goes h h' ∧ ∀ (ro : { r : Option Nat // fl = true ∨ r = none }) E a w, Rel W0 E h.hp.get w → Free E h.nx h'.nx h.ne h'.ne → FrOk E frT N a → ∀ Q : Exit → Act → World → Prop,
        (∀ E' a' w', Rel W0 E' h'.hp.get w' → Step h.bar h.hp.get h.nx h'.nx h.ne h'.ne E E' w w' → FrOk E' frT' N a' → Q x1.to a' w') → Code.roundsIn (Fw ro.1) 0 P x Q n a w := by
      intro n
      induction n with
      | zero => intro fr frT h _ hk; cases hk
      | succ n ih =>
        intro fr frT h ag hk
        change (codeC P N K fl x).f call F fr h (fun x1 fr' h' => X.rec (loopGo ((codeC P N K fl x).f call F) k n fr' h') (fun id => k (.exit id) fr' h') (k .ret fr' h') x1) = true at hk
        obtain ⟨x1, fr1, frT1, h1, k1, ag1, g1, c1⟩ := ix _ _ _ _ ag hok hk
        cases x1 with
        | normal =>
          obtain ⟨x2, fr2, frT2, h2, k2, ag2, g2, c2⟩ := ih _ _ _ ag1 k1
          refine ⟨x2, fr2, frT2, h2, k2, ag2, g1.trans g2, fun ro E a w r fe fo Q hQ => ?_⟩
          rw [roundsIn_succ]
          exact c1 ro E a w r (fe.left g2.nx g2.ne) fo _ fun E' a' w' r' st fo' => c2 ro E' a' w' r' (fe.right st g1.nx g1.ne) fo' Q fun E2 a2 w2 r2 st2 fo2 => hQ E2 a2 w2 r2 (Step.trans g1 g2 st st2) fo2
        | exit id =>
          refine ⟨.exit id, fr1, frT1, h1, k1, ag1, g1, fun ro E a w r fe fo Q hQ => ?_⟩
          rw [roundsIn_succ]
          exact c1 ro E a w r fe fo _ fun E' a' w' r' st fo' => hQ E' a' w' r' st fo'
        | ret =>
          refine ⟨.ret, fr1, frT1, h1, k1, ag1, g1, fun ro E a w r fe fo Q hQ => ?_⟩
          rw [roundsIn_succ]
          exact c1 ro E a w r fe fo _ fun E' a' w' r' st fo' => hQ E' a' w' r' st fo'
    obtain ⟨x1, fr1, frT1, h1, k1, ag1, g1, c1⟩ := key F fr frT h ag hk
    exact ⟨x1, fr1, frT1, h1, k1, ag1, g1, fun ro E a w r fe fo Q hQ => wpIn_loop_rounds F (c1 ro E a w r fe fo Q hQ)⟩

/-! ### calls -/
noncomputable def resK (P : Program) (fr : Tr SV) (g : Tr SO) : List ResultVar → (List SV → Bool) → Bool
  | [], k => k []
  | v :: r, k => match v with
    | .tmp t => opdK fr (.tmp t) fun s => resK P fr g r fun l => k (s :: l)
    | .cell a t => rdLoad P t fr g (.tmp a) fun s => resK P fr g r fun l => k (s :: l)
noncomputable def resC (P : Program) (K : Nat) (rs : List ResultVar) : Cl (Tr SV → Tr SO → (List SV → Bool) → Bool) :=
  List.rec ⟨fun _ _ k => k []⟩ (fun v _ ih => match v with
    | .tmp t => bif Nat.testBit K t then (opdC (.tmp t)).then fun g => ⟨fun fr h k => g fr fun s => ih.f fr h fun l => k (s :: l)⟩ else ⟨fun _ _ _ => false⟩
    | .cell a t => bif Nat.testBit K a then ⟨fun fr h k => rdLoad P t fr h (.tmp a) fun s => ih.f fr h fun l => k (s :: l)⟩ else ⟨fun _ _ _ => false⟩) rs
theorem rdLoad_same {t : TypeId} {fr fr' : Tr SV} {g : Tr SO} {x : Operand} {k : SV → Bool} (e : opd fr x = opd fr' x) : rdLoad P t fr g x k = rdLoad P t fr' g x k := by
  unfold rdLoad
  rw [opdK_eq, opdK_eq, e]
theorem resC_ok (K : Nat) (rs : List ResultVar) : ∀ (fr frT : Tr SV) (h : Tr SO) (k : List SV → Bool), Ag K fr frT → (resC P K rs).f fr h k = true → resK P frT h rs k = true := by
  induction rs with
  | nil => intro fr frT h k _ hk; exact hk
  | cons v r ih =>
    intro fr frT h k ag hk
    cases v with
    | tmp t =>
      have hk2 : (bif Nat.testBit K t then (opdC (.tmp t)).then fun g => (⟨fun fr h k => g fr fun s => (resC P K r).f fr h fun l => k (s :: l)⟩ : Cl (Tr SV → Tr SO → (List SV → Bool) → Bool)) else ⟨fun _ _ _ => false⟩).f fr h k = true := hk
      cases ht : Nat.testBit K t with
      | false => rw [ht] at hk2; cases hk2
      | true =>
        rw [ht, cond_true, Cl.then_eq] at hk2
        simp only [opdC_at] at hk2
        simp only [resK, opdK_eq]
        rw [ag t ht] at hk2
        exact ih _ _ _ _ ag hk2
    | cell a t =>
      have hk2 : (bif Nat.testBit K a then (⟨fun fr h k => rdLoad P t fr h (.tmp a) fun s => (resC P K r).f fr h fun l => k (s :: l)⟩ : Cl (Tr SV → Tr SO → (List SV → Bool) → Bool)) else ⟨fun _ _ _ => false⟩).f fr h k = true := hk
      cases ht : Nat.testBit K a with
      | false => rw [ht] at hk2; cases hk2
      | true =>
        rw [ht, cond_true] at hk2
        simp only [resK]
        have hk2 : rdLoad P t fr h (.tmp a) (fun s => (resC P K r).f fr h fun l => k (s :: l)) = true := hk2
        rw [rdLoad_same (ag a ht)] at hk2
        refine rdLoad_mono ?_ hk2
        intro s hs
        exact ih _ _ _ _ ag hs
where
  rdLoad_mono {t : TypeId} {fr : Tr SV} {g : Tr SO} {x : Operand} {k k' : SV → Bool} (hm : ∀ s, k s = true → k' s = true) (hk : rdLoad P t fr g x k = true) : rdLoad P t fr g x k' = true := by
    unfold rdLoad at hk ⊢
    rw [opdK_eq] at hk ⊢
    split at hk
    · split at hk
      · split at hk
        · split at hk
          · obtain ⟨h1, h2⟩ := bif_true hk
            rw [h1, cond_true]
            exact cells_mono (fun l hl => hm _ hl) _ _ h2
          · cases hk
        · obtain ⟨h1, h2⟩ := bif_true hk
          rw [h1, cond_true]
          split at h2
          · exact hm _ h2
          · cases h2
        · cases hk
      · cases hk
    · split at hk
      · split at hk
        · obtain ⟨sv, q1, q2⟩ := normK_ok' hk
          rw [q2]
          exact hm _ q1
        · cases hk
      · split at hk
        · split at hk
          · exact hm _ hk
          · cases hk
        · cases hk
      · cases hk
    · cases hk
  cells_mono {tr : Tr SV} {k k' : List SV → Bool} (hm : ∀ l, k l = true → k' l = true) (m : Nat) : ∀ i, cellsK tr i m k = true → cellsK tr i m k' = true := by
    revert k k'
    induction m with
    | zero => intro k k' hm i h; exact hm _ h
    | succ m ih =>
      intro k k' hm i h
      rw [cellsK_succ] at h ⊢
      split at h
      · exact ih (fun l hl => hm _ hl) _ h
      · cases h
  normK_ok' {v : Value} {k : SV → Bool} (h : normK v k = true) : ∃ sv, k sv = true ∧ ∀ k' : SV → Bool, normK v k' = k' sv := by
    unfold normK at h
    split at h
    · rename_i b
      cases b
      · exact ⟨.bool false, h, fun _ => rfl⟩
      · exact ⟨.bool true, h, fun _ => rfl⟩
    · rename_i kd n
      rw [intK_eq] at h
      exact ⟨_, h, fun k' => intK_eq n fun n' => k' (.int kd n')⟩
    · rename_i n1 n2
      refine ⟨.lit v, h, fun k' => ?_⟩
      unfold normK
      split
      · exact absurd rfl (n1 _)
      · exact absurd rfl (n2 _ _)
      · rfl
abbrev FnF := CallK → Nat → List SV → HS → (SV → HS → Bool) → Bool
noncomputable def argsK (l : List SV) : Nat → Tr SV → (Tr SV → Bool) → Bool := List.rec (fun _ t k => k t) (fun s _ ih i t k => t.putK i (some s) fun t' => natK (i + 1) fun i' => ih i' t' k) l
theorem argsK_eq (l : List SV) : ∀ (i : Nat) (t : Tr SV) (k : Tr SV → Bool), argsK l i t k = k (trOf l i t) := by
  induction l with
  | nil => intro i t k; rfl
  | cons s r ih =>
    intro i t k
    show (t.putK i (some s) fun t' => natK (i + 1) fun i' => argsK r i' t' k) = _
    rw [Tr.putK_eq, natK_eq, ih]
    rfl
noncomputable def oneK2 (r : List SV) (k : SV → Bool) : Bool := List.rec (k (.tup [])) (fun s t _ => List.rec (k s) (fun u v _ => k (.tup (s :: u :: v))) t) r
theorem oneK2_eq (r : List SV) (k : SV → Bool) : oneK2 r k = k (match r with | [s] => s | r => .tup r) := by
  cases r with
  | nil => rfl
  | cons s t => cases t <;> rfl
/-- A function's body, worked out once. -/
noncomputable def fnC (P : Program) (M : Nat) (f : FuncId) : Cl FnF :=
  bif Nat.blt f M then
    (match P.funcs[f]? with
    | some fn => (match fn.body with
      | some c => natC (fn.params.size + fn.nfree) fun n => natC (n + (fn.ntmps - n)) fun N => natC (Nat.lor (Nat.lor (keepM c) (resM fn.results.toList)) (Nat.shiftLeft 1 N)) fun K => (codeC P N K false c).then fun g => (resC P K fn.results.toList).then fun rs => paC N fun pN =>
        ⟨fun call F l h k => Bool.rec false (argsK l 0 .e fun fr => g call F fr h fun x fr' h' => X.rec (endK pN fr' h' fun h2 => rs fr' h2.hp fun r => oneK2 r fun s => k s h2) (fun _ => false) (endK pN fr' h' fun h2 => rs fr' h2.hp fun r => oneK2 r fun s => k s h2) x) (Nat.beq l.length n)⟩
      | none => ⟨fun _ _ _ _ _ => false⟩)
    | none => ⟨fun _ _ _ _ _ => false⟩)
  else ⟨fun _ _ _ _ _ => false⟩
def FnsOk (P : Program) (M : Nat) : Prop := ∀ f fn c, f < M → P.funcs[f]? = some fn → fn.body = some c → codeOk c = true
end Go.Proofs.YtbkgehknhjkaoaaGreatDoor.Ev
namespace Go.Proofs.YtbkgehknhjkaoaaGreatDoor.Ev
open Go Go.RowKit

variable [GTab] {P : Program} {W0 : World} [GOk W0]
noncomputable def paramsK (N : Nat) (ps : List Nat) : List SV → Tr SV → (Tr SV → Bool) → Bool :=
  List.rec (fun l fr k => List.rec (k fr) (fun _ _ _ => false) l) (fun p _ ih l fr k => List.rec false (fun s r _ => Bool.rec false (fr.putK p (some s) fun fr' => ih r fr' k) (Nat.blt p N)) l) ps
noncomputable def paramsP : List Nat → List SV → Tr SV → Tr SV
  | p :: ps, s :: l, fr => paramsP ps l (fr.put p (some s))
  | _, _, fr => fr
theorem paramsK_ok {N : Nat} (ps : List Nat) : ∀ {l : List SV} {fr : Tr SV} {k : Tr SV → Bool}, paramsK N ps l fr k = true → l.length = ps.length ∧ (∀ p ∈ ps, p < N) ∧ k (paramsP ps l fr) = true := by
  induction ps with
  | nil =>
    intro l fr k hk
    cases l with
    | nil => exact ⟨rfl, fun p hp => (by cases hp), hk⟩
    | cons s r => cases hk
  | cons p ps ih =>
    intro l fr k hk
    cases l with
    | nil => cases hk
    | cons s r =>
      have hk : (Bool.rec false (fr.putK p (some s) fun fr' => paramsK N ps r fr' k) (Nat.blt p N) : Bool) = true := hk
      obtain ⟨h1, h2⟩ := rec_true hk
      rw [Tr.putK_eq] at h2
      obtain ⟨e1, e2, e3⟩ := ih h2
      refine ⟨by simp [e1], fun q hq => ?_, e3⟩
      rcases List.mem_cons.1 hq with e | e
      · rw [e]; exact Nat.le_of_ble_eq_true h1
      · exact e2 q e
theorem paramsP_ok {E : Env} {N : Nat} (ps : List Nat) : ∀ {l : List SV} {vl : List Value} {fr : Tr SV} {tmps : Array Value}, (∀ p ∈ ps, p < N) → l.length = ps.length → vals E l = some vl → TmpsOk E fr N tmps →
    TmpsOk E (paramsP ps l fr) N ((ps.zip vl).foldl (fun tmps x => tmps.setIfInBounds x.1 x.2) tmps) ∧ vl.length = ps.length := by
  induction ps with
  | nil =>
    intro l vl fr tmps _ hl hv ht
    cases l with
    | nil =>
      simp only [vals, Option.some.injEq] at hv
      subst hv
      exact ⟨ht, rfl⟩
    | cons s r => simp at hl
  | cons p ps ih =>
    intro l vl fr tmps hp hl hv ht
    cases l with
    | nil => simp at hl
    | cons s r =>
      simp only [vals, Option.bind_eq_some_iff, Option.map_eq_some_iff] at hv
      obtain ⟨x, hx, y, hy, rfl⟩ := hv
      have hpN := hp p List.mem_cons_self
      have h1 : TmpsOk E (fr.put p (some s)) N (tmps.setIfInBounds p x) := by
        refine ⟨by simp [ht.size], fun t htN => ?_⟩
        rw [Tr.get_put]
        by_cases e : t = p
        · subst e
          rw [if_pos rfl]
          have : t < tmps.size := by rw [ht.size]; exact hpN
          simp [Array.getD, this, hx]
        · rw [if_neg e, ht.get t htN]
          congr 1
          simp only [Array.getD_eq_getD_getElem?]
          rw [Array.getElem?_setIfInBounds_ne (Ne.symm e)]
      obtain ⟨k1, k2⟩ := ih (fun q hq => hp q (List.mem_cons_of_mem _ hq)) (by simpa using hl) hy h1
      exact ⟨by simpa [paramsP] using k1, by simp [k2]⟩
theorem getD_ge {a : Array Value} {t N : Nat} (h : a.size = N) (ht : N ≤ t) : a.getD t undef = undef := by
  rw [Array.getD_eq_getD_getElem?, Array.getElem?_eq_none (by omega)]
  rfl
/-- The table up to N. -/
theorem upTo (fr : Tr SV) (N : Nat) : ∃ f : Tr SV, ∀ t, (t < N → f.get t = fr.get t) ∧ (N ≤ t → f.get t = none) := by
  induction N with
  | zero => exact ⟨.e, fun t => ⟨fun h => absurd h (by omega), fun _ => rfl⟩⟩
  | succ N ih =>
    obtain ⟨f, hf⟩ := ih
    refine ⟨f.put N (fr.get N), fun t => ⟨fun h => ?_, fun h => ?_⟩⟩
    · rw [Tr.get_put]
      split
      · rename_i e; rw [e]
      · exact (hf t).1 (by omega)
    · rw [Tr.get_put, if_neg (by omega)]
      exact (hf t).2 (by omega)
noncomputable def setK (h : HS) (id : Nat) (ok : LoopState → Bool) (st' : LoopState) (pf : Option Code → Option Code) (k : HS → Bool) : Bool :=
  getQ h.hp id fun so => asLp so fun st pend fr N ps as bd D => bif ok st && Nat.ble h.bar id then h.hp.putK id (some (.lp st' (pf pend) fr N ps as bd D)) fun hp => k ⟨hp, h.nx, h.ne, h.bar⟩ else false
theorem setK_ok {h : HS} {id : Nat} {ok : LoopState → Bool} {st' : LoopState} {pf : Option Code → Option Code} {k : HS → Bool} (hk : setK h id ok st' pf k = true) :
    ∃ st h', ok st = true ∧ k h' = true ∧ Goes h h' ∧ (h'.nx = h.nx ∧ h'.ne = h.ne) ∧ ∀ E w s, Rel W0 E h.hp.get w → E.at_ id = some s → ∃ r : Loop, w.heap[s.blk]? = some (.loop r) ∧ r.state = st ∧
      Rel W0 E h'.hp.get (w.putObj s.blk (.loop { r with state := st', pending := pf r.pending })) ∧ Step h.bar h.hp.get h.nx h'.nx h.ne h'.ne E E w (w.putObj s.blk (.loop { r with state := st', pending := pf r.pending })) := by
  unfold setK at hk
  rw [getQ_eq] at hk
  split at hk
  case h_2 => cases hk
  rename_i so hso
  obtain ⟨st, pend, fr, N, ps, as, bd, D, rfl, hk⟩ := asLp_ok hk
  obtain ⟨h1, hk⟩ := bif_true hk
  simp only [Bool.and_eq_true] at h1
  have hb := Nat.le_of_ble_eq_true h1.2
  rw [Tr.putK_eq] at hk
  refine ⟨st, _, h1.1, hk, Goes.upd hso hb, ⟨rfl, rfl⟩, fun E w s r hs => ?_⟩
  obtain ⟨s', q1, q2, fn, tmps, sD, q3, q4, q5⟩ := r.obj _ _ hso
  rw [hs] at q1
  obtain rfl := Option.some.inj q1
  exact ⟨_, q3, rfl, r.setLp hso hs q3 q4 q5, Step.upd hso hb hs (by simp) (fun j hj => World.putObj_heap_other hj)⟩
noncomputable def ylK (P : Program) (call : CallK) (F id : Nat) (l : List SV) (h : HS) (k : SV → HS → Bool) : Bool :=
  getQ h.hp id fun so => asLp so fun st pend fr N ps as bd D =>
    bif isReady st && (codeOk as && codeOk bd) then paramsK N ps.toList l fr fun fr1 => fr1.putK N (some (.lit undef)) fun fr2 => natC (fullM N) fun KM =>
      (codeC P N KM true as).f call F fr2 h fun x fr3 h3 => X.rec
        (setK h3 id isReady .busy (fun p => p) fun h4 => (codeC P N KM true bd).f call F fr3 h4 fun x fr5 h5 => X.rec
          (setK h5 id (fun _ => true) .ready (fun _ => none) fun h6 => k (.bool true) h6)
          (fun j => setK h5 id (fun _ => true) .done (fun _ => some (.exit j)) fun h6 => k (.bool false) h6)
          (setK h5 id (fun _ => true) .done (fun _ => some .ret) fun h6 => k (.bool false) h6) x)
        (fun _ => false) false x
    else false
theorem ylK_ok {call : CallK} (hm : P.follows .mixedOrders = true) (hc : CallSound P W0 call) {F id : Nat} {l : List SV} {h : HS} {k : SV → HS → Bool} (hk : ylK P call F id l h k = true) :
    ∃ sv h', k sv h' = true ∧ Goes h h' ∧ YieldOk P W0 id l h h' sv := by
  unfold ylK at hk
  rw [getQ_eq] at hk
  split at hk
  case h_2 => cases hk
  rename_i so hso
  obtain ⟨st, pend, fr, N, ps, as, bd, D, rfl, hk⟩ := asLp_ok hk
  obtain ⟨h1, hk2⟩ := bif_true hk
  clear hk
  simp only [Bool.and_eq_true] at h1
  obtain ⟨hrd, hoa, hob⟩ := h1
  obtain rfl := isReady_ok hrd
  obtain ⟨hlen, hps, hk⟩ := paramsK_ok _ hk2
  clear hk2
  rw [Tr.putK_eq] at hk
  rw [natC_eq] at hk
  obtain ⟨frT, hfrT⟩ := upTo (paramsP ps.toList l fr) N
  have ag2 : Ag (fullM N) ((paramsP ps.toList l fr).put N (some (.lit undef))) frT := fun t ht => by
    rw [fullM_bit, decide_eq_true_eq] at ht
    simp only [opd]
    rw [Tr.get_put]
    rcases Nat.lt_or_ge t N with h1 | h1
    · rw [if_neg (by omega), (hfrT t).1 h1]
    · rw [if_pos (by omega), (hfrT t).2 h1]
      rfl
  obtain ⟨x, fr3, frT3, h3, k3, ag3, g3, ok3⟩ := codeC_ok (W0 := W0) hc hm (F := F) as _ _ _ _ ag2 hoa hk
  cases x with
  | exit j => cases k3
  | ret => cases k3
  | normal =>
  obtain ⟨st4, h4, hst4, k4, g4, ⟨n4, m4⟩, ok4⟩ := setK_ok (W0 := W0) k3
  obtain rfl := isReady_ok hst4
  obtain ⟨x, fr5, frT5, h5, k5, ag5, g5, ok5⟩ := codeC_ok (W0 := W0) hc hm (F := F) bd _ _ _ _ ag3 hob k4
  have fin : ∀ (jump : Option Code) (st6 : LoopState), (st6 = if jump.isNone then .ready else .done) → (jump = none ∧ x = .normal ∨ (∃ j, jump = some (.exit j) ∧ x = .exit j) ∨ (jump = some .ret ∧ x = .ret)) →
      setK h5 id (fun _ => true) st6 (fun _ => jump) (fun h6 => k (.bool jump.isNone) h6) = true → ∃ sv h', k sv h' = true ∧ Goes h h' ∧ YieldOk P W0 id l h h' sv := by
    intro jump st6 est hj hk6
    obtain ⟨st6', h6, _, k6, g6, ⟨n6, m6⟩, ok6⟩ := setK_ok (W0 := W0) hk6
    refine ⟨.bool jump.isNone, h6, k6, ((g3.trans g4).trans g5).trans g6, fun E w vl s r fe hv hs R hR => ?_⟩
    obtain ⟨s', q1, q2, fn, tmps, sD, hw, q4, ht⟩ := r.obj _ _ hso
    rw [hs] at q1
    obtain rfl := Option.some.inj q1
    obtain ⟨ht1, hvl⟩ := paramsP_ok ps.toList hps hlen hv ht
    have hy := run_yield (P := P) (args := vl.toArray) hw (by simpa using hvl)
    have q3 := g3.nx
    have q5 := g5.nx
    have p3 := g3.ne
    have p5 := g5.ne
    have hz : (ps.zip vl.toArray).foldl (fun tmps (x : Tmp × Value) => tmps.setIfInBounds x.1 x.2) tmps = (ps.toList.zip vl).foldl (fun tmps x => tmps.setIfInBounds x.1 x.2) tmps := by
      rw [← Array.foldl_toList, Array.toList_zip]
    refine ⟨fn, _, as, bd, hy, roundIn_of_wpIn trivial ?_⟩
    have fo : FrOk E frT N { tmps := (ps.zip vl.toArray).foldl (fun tmps (x : Tmp × Value) => tmps.setIfInBounds x.1 x.2) tmps, defers := [] } := by
      rw [hz]
      refine ⟨ht1.size, by rw [(hfrT N).2 (Nat.le_refl _)]; rfl, fun t => ?_⟩
      rcases Nat.lt_or_ge t N with h1 | h1
      · rw [(hfrT t).1 h1]
        exact ht1.get t h1
      · rw [(hfrT t).2 h1]
        simp only [Option.getD_none, val, Option.some.injEq]
        exact (getD_ge ht1.size h1).symm
    refine ok3 ⟨some s.blk, .inl rfl⟩ E _ w r (fe.left (by omega) (by omega)) fo _ fun E3 a3 w3 r3 s3 fo3 => ?_
    have hs3 := s3.le.1 _ _ hs
    obtain ⟨r4, hr4, hst, R4, S4⟩ := ok4 E3 w3 s r3 hs3
    refine ⟨_, run_beginRound hr4 hst, ?_⟩
    have S34 := Step.trans g3 g4 s3 S4
    have f4 : Free E3 h4.nx h6.nx h4.ne h6.ne := fe.right S34 (by omega) (by omega)
    refine ok5 ⟨some s.blk, .inl rfl⟩ E3 a3 _ R4 (f4.left (by omega) (by omega)) fo3 _ fun E5 a5 w5 r5 s5 fo5 => ?_
    have hs5 := s5.le.1 _ _ hs3
    obtain ⟨r6, hr6, _, R6, S6⟩ := ok6 E5 w5 s r5 hs5
    have S36 := Step.trans (g3.trans g4) g5 S34 s5
    have S37 := Step.trans ((g3.trans g4).trans g5) g6 S36 S6
    have hend := run_endRound (P := P) jump hr6
    rw [← est] at hend
    have hq := hR E5 _ _ (by simp [val] : val E5 (.bool jump.isNone) = some (.bool jump.isNone)) R6 S37
    rcases hj with ⟨rfl, rfl⟩ | ⟨j, rfl, rfl⟩ | ⟨rfl, rfl⟩
    · exact ⟨_, _, hend, hq⟩
    · exact ⟨_, _, hend, hq⟩
    · exact ⟨_, _, hend, hq⟩
  cases x with
  | normal => exact fin none .ready rfl (.inl ⟨rfl, rfl⟩) k5
  | exit j => exact fin (some (.exit j)) .done rfl (.inr (.inl ⟨j, rfl, rfl⟩)) k5
  | ret => exact fin (some .ret) .done rfl (.inr (.inr ⟨rfl, rfl⟩)) k5
end Go.Proofs.YtbkgehknhjkaoaaGreatDoor.Ev
namespace Go.Proofs.YtbkgehknhjkaoaaGreatDoor.Ev
open Go Go.RowKit
variable [GTab] {P : Program} {W0 : World} [GOk W0]

mutual
/-- The same, its objects numbered from a on, its empty slices from b on. -/
def shV (a b : Nat) : SV → SV
  | .bool x => .bool x
  | .int k n => .int k n
  | .lit v => .lit v
  | .ptr id off => .ptr (a + id) off
  | .sl id off len cap => .sl (a + id) off len cap
  | .slr id off len skip => .slr (a + id) off len skip
  | .emp j id off skip => .emp (b + j) (a + id) off skip
  | .map id => .map (a + id)
  | .yld id => .yld (a + id)
  | .mks l => .mks l
  | .fn f x y => .fn f (shL a b x) (shL a b y)
  | .iface t v => .iface t (shV a b v)
  | .agg l => .agg (shL a b l)
  | .tup l => .tup (shL a b l)
def shL (a b : Nat) : List SV → List SV
  | [] => []
  | s :: r => shV a b s :: shL a b r
end
section
variable {E1 E' : Env} {a b : Nat} (hE : ∀ id s, E1.at_ id = some s → E'.at_ (a + id) = some s) (hJ : ∀ j p, E1.emp j = some p → E'.emp (b + j) = some p)
include hE hJ
mutual
theorem val_sh : ∀ (s : SV) (v : Value), val E1 s = some v → val E' (shV a b s) = some v
  | .bool _, v, e => by simpa [val, shV] using e
  | .int _ _, v, e => by simpa [val, shV] using e
  | .lit _, v, e => by simpa [val, shV] using e
  | .ptr id off, v, e => by
    simp only [val, shV, Option.map_eq_some_iff] at e ⊢
    obtain ⟨s, q1, q2⟩ := e
    exact ⟨s, hE _ _ q1, q2⟩
  | .sl id off len cap, v, e => by
    simp only [val, shV, Option.map_eq_some_iff] at e ⊢
    obtain ⟨s, q1, q2⟩ := e
    exact ⟨s, hE _ _ q1, q2⟩
  | .slr id off len skip, v, e => by
    simp only [val, shV, Option.map_eq_some_iff] at e ⊢
    obtain ⟨s, q1, q2⟩ := e
    exact ⟨s, hE _ _ q1, q2⟩
  | .emp j id off skip, v, e => by
    simp only [val, shV, Option.bind_eq_some_iff, Option.map_eq_some_iff] at e ⊢
    obtain ⟨p, q1, A, q2, s, q3, q4⟩ := e
    exact ⟨p, hJ _ _ q1, A, q2, s, hE _ _ q3, q4⟩
  | .map id, v, e => by
    simp only [val, shV, Option.map_eq_some_iff] at e ⊢
    obtain ⟨s, q1, q2⟩ := e
    exact ⟨s, hE _ _ q1, q2⟩
  | .yld id, v, e => by
    simp only [val, shV, Option.map_eq_some_iff] at e ⊢
    obtain ⟨s, q1, q2⟩ := e
    exact ⟨s, hE _ _ q1, q2⟩
  | .mks l, v, e => by simpa [val, shV] using e
  | .fn f x y, v, e => by
    simp only [val, shV, Option.bind_eq_some_iff, Option.map_eq_some_iff] at e ⊢
    obtain ⟨p, hp, q, hq, r⟩ := e
    exact ⟨p, vals_sh x p hp, q, vals_sh y q hq, r⟩
  | .iface t s, v, e => by
    simp only [val, shV, Option.map_eq_some_iff] at e ⊢
    obtain ⟨p, hp, r⟩ := e
    exact ⟨p, val_sh s p hp, r⟩
  | .agg l, v, e => by
    simp only [val, shV, Option.map_eq_some_iff] at e ⊢
    obtain ⟨p, hp, r⟩ := e
    exact ⟨p, vals_sh l p hp, r⟩
  | .tup l, v, e => by
    simp only [val, shV, Option.map_eq_some_iff] at e ⊢
    obtain ⟨p, hp, r⟩ := e
    exact ⟨p, vals_sh l p hp, r⟩
theorem vals_sh : ∀ (l : List SV) (v : List Value), vals E1 l = some v → vals E' (shL a b l) = some v
  | [], v, e => by simpa [vals, shL] using e
  | s :: r, v, e => by
    simp only [vals, shL, Option.bind_eq_some_iff, Option.map_eq_some_iff] at e ⊢
    obtain ⟨x, hx, y, hy, q⟩ := e
    exact ⟨x, val_sh s x hx, y, vals_sh r y hy, q⟩
end
end
theorem length_shL (a b : Nat) : ∀ (l : List SV), (shL a b l).length = l.length
  | [] => rfl
  | s :: r => by simp [shL, length_shL a b r]
theorem get_shL (a b : Nat) : ∀ (l : List SV) (i : Nat), (shL a b l)[i]? = (l[i]?).map (shV a b)
  | [], i => by simp [shL]
  | s :: r, 0 => by simp [shL]
  | s :: r, i + 1 => by simp [shL, get_shL a b r i]

structure Row where
  id : Nat
  sz : Nat
  cs : List SV
noncomputable def Row.so (x : Row) : SO := .row x.cs.length x.sz (trOf x.cs 0 .e)
noncomputable def Row.sh (a b : Nat) (x : Row) : SO := .row x.cs.length x.sz (trOf (shL a b x.cs) 0 .e)
noncomputable def lastL : List Row → Nat → Option Row
  | [], _ => none
  | x :: r, j => match lastL r j with
    | some y => some y
    | none => if x.id = j then some x else none
theorem lastL_mem {L : List Row} {j : Nat} {x : Row} (h : lastL L j = some x) : x ∈ L ∧ x.id = j := by
  induction L with
  | nil => cases h
  | cons y r ih =>
    rw [lastL] at h
    split at h
    · rename_i z hz
      obtain rfl := Option.some.inj h
      obtain ⟨q1, q2⟩ := ih hz
      exact ⟨List.mem_cons_of_mem _ q1, q2⟩
    · split at h
      · obtain rfl := Option.some.inj h
        exact ⟨List.mem_cons_self, by assumption⟩
      · cases h
noncomputable def mergeP (a b : Nat) : List Row → Tr SO → Tr SO
  | [], hp => hp
  | x :: r, hp => mergeP a b r (hp.put (a + x.id) (some (x.sh a b)))
noncomputable def mergeKL (a b : Nat) (L : List Row) : Tr SO → (Tr SO → Bool) → Bool :=
  List.rec (fun hp k => k hp) (fun x _ ih hp k => natK x.cs.length fun n => argsT (shL a b x.cs) 0 .e fun t => natK (a + x.id) fun id => hp.putK id (some (.row n x.sz t)) fun hp' => ih hp' k) L
where
  argsT (l : List SV) : Nat → Tr SV → (Tr SV → Bool) → Bool := List.rec (fun _ t k => k t) (fun s _ ih i t k => t.putK i (some s) fun t' => natK (i + 1) fun i' => ih i' t' k) l
theorem argsT_eq (l : List SV) : ∀ (i : Nat) (t : Tr SV) (k : Tr SV → Bool), mergeKL.argsT l i t k = k (trOf l i t) := by
  induction l with
  | nil => intro i t k; rfl
  | cons s r ih =>
    intro i t k
    show (t.putK i (some s) fun t' => natK (i + 1) fun i' => mergeKL.argsT r i' t' k) = _
    rw [Tr.putK_eq, natK_eq, ih]
    rfl
theorem mergeKL_eq (a b : Nat) (L : List Row) : ∀ (hp : Tr SO) (k : Tr SO → Bool), mergeKL a b L hp k = k (mergeP a b L hp) := by
  induction L with
  | nil => intro hp k; rfl
  | cons x r ih =>
    intro hp k
    show (natK x.cs.length fun n => mergeKL.argsT (shL a b x.cs) 0 .e fun t => natK (a + x.id) fun id => hp.putK id (some (.row n x.sz t)) fun hp' => mergeKL a b r hp' k) = _
    rw [natK_eq, argsT_eq, natK_eq, Tr.putK_eq, ih]
    rfl
theorem get_mergeP (a b : Nat) (L : List Row) : ∀ (hp : Tr SO) (id : Nat), (mergeP a b L hp).get id = if a ≤ id then (match lastL L (id - a) with | some x => some (x.sh a b) | none => hp.get id) else hp.get id := by
  induction L with
  | nil => intro hp id; simp [mergeP, lastL]
  | cons x r ih =>
    intro hp id
    rw [mergeP, ih, Tr.get_put]
    by_cases ha : a ≤ id
    · rw [if_pos ha, if_pos ha, lastL]
      cases hl : lastL r (id - a) with
      | some y => rfl
      | none =>
        simp only
        by_cases e : x.id = id - a
        · rw [if_pos (by omega), if_pos e]
        · rw [if_neg (by omega), if_neg e]
    · rw [if_neg ha, if_neg ha, if_neg (by omega)]

/-- A call whose end is known. -/
structure Ent where
  f : FuncId
  l : List SV
  v : SV
  n : Nat
  m : Nat
  L : List Row
noncomputable def gOf (L : List Row) : Hp := fun j => (lastL L j).map Row.so
def EntOk (P : Program) (e : Ent) : Prop := ∃ vl, flats e.l = some vl ∧ ∀ w, GOk w → ∀ R : Ending → World → Prop,
  (∀ E1 v w', val E1 e.v = some v → Rel w E1 (gOf e.L) w' → (∀ id, e.n ≤ id → E1.at_ id = none) → (∀ j, e.m ≤ j → E1.emp j = none) → (∀ id s, E1.at_ id = some s → w.heap.size ≤ s.blk) → R (.returned v) w') → Calls P e.f vl.toArray w R
theorem objOk_sh {E1 E' : Env} {a b : Nat} (hE : ∀ id s, E1.at_ id = some s → E'.at_ (a + id) = some s) (hJ : ∀ j p, E1.emp j = some p → E'.emp (b + j) = some p) {x : Row} {s : Spot} {w : World} (h : objOk E1 s w x.so) : objOk E' s w (x.sh a b) := by
  obtain ⟨c, ty, h1, h2, h3, h4⟩ := h
  refine ⟨c, ty, h1, h2, h3, fun i hi => ?_⟩
  obtain ⟨sv, v, k1, k2, k3, k4⟩ := h4 i hi
  refine ⟨shV a b sv, v, ?_, val_sh hE hJ sv v k2, k3, k4⟩
  rw [get_trOf] at k1 ⊢
  rw [length_shL]
  by_cases q : 0 ≤ i ∧ i < 0 + x.cs.length
  · rw [if_pos q] at k1 ⊢
    rw [get_shL, k1]
    rfl
  · exact absurd ⟨Nat.zero_le _, by omega⟩ q
theorem ent_callOk {e : Ent} (he : EntOk P e) (h : HS) (hb : h.bar ≤ h.nx) (hL : ∀ x ∈ e.L, x.id < e.n) :
    Goes h ⟨mergeP h.nx h.ne e.L h.hp, h.nx + e.n, h.ne + e.m, h.bar⟩ ∧ CallOk P W0 e.f e.l h ⟨mergeP h.nx h.ne e.L h.hp, h.nx + e.n, h.ne + e.m, h.bar⟩ (shV h.nx h.ne e.v) := by
  have hlive : ∀ id o, (mergeP h.nx h.ne e.L h.hp).get id = some o → (∃ x, lastL e.L (id - h.nx) = some x ∧ h.nx ≤ id ∧ id < h.nx + e.n ∧ o = x.sh h.nx h.ne) ∨ h.hp.get id = some o := fun id o ho => by
    rw [get_mergeP] at ho
    split at ho
    · rename_i q
      split at ho
      · rename_i x hx
        have := hL x (lastL_mem hx).1
        have := (lastL_mem hx).2
        exact .inl ⟨x, hx, q, by omega, (Option.some.inj ho).symm⟩
      · exact .inr ho
    · exact .inr ho
  refine ⟨⟨fun id hid => ?_, rfl, Nat.le_add_right _ _, Nat.le_add_right _ _, fun id o ho => ?_⟩, ?_⟩
  · show (mergeP h.nx h.ne e.L h.hp).get id = _
    rw [get_mergeP, if_neg (by omega)]
  · rcases hlive id o ho with ⟨x, _, q1, q2, _⟩ | q
    · exact .inl ⟨q1, q2⟩
    · exact .inr ⟨o, q⟩
  intro E w ul r fe hu R hR
  obtain ⟨vl, e1, e2⟩ := he
  rw [vals_of_flats E _ _ e1] at hu
  obtain rfl := Option.some.inj hu
  refine e2 w (GOk.below ‹_› r.below) R fun E1 v w' k1 r' kn km kf => ?_
  let E' : Env := ⟨fun id => if h.nx ≤ id ∧ id < h.nx + e.n then E1.at_ (id - h.nx) else E.at_ id, fun j => if h.ne ≤ j ∧ j < h.ne + e.m then E1.emp (j - h.ne) else E.emp j⟩
  have at_new : ∀ id s, E1.at_ id = some s → E'.at_ (h.nx + id) = some s := fun id s q => by
    have : id < e.n := by
      rcases Nat.lt_or_ge id e.n with z | z
      · exact z
      · rw [kn id z] at q; cases q
    show (if _ then _ else _) = _
    rw [if_pos ⟨by omega, by omega⟩, show h.nx + id - h.nx = id by omega]
    exact q
  have emp_new : ∀ j p, E1.emp j = some p → E'.emp (h.ne + j) = some p := fun j p q => by
    have : j < e.m := by
      rcases Nat.lt_or_ge j e.m with z | z
      · exact z
      · rw [km j z] at q; cases q
    show (if _ then _ else _) = _
    rw [if_pos ⟨by omega, by omega⟩, show h.ne + j - h.ne = j by omega]
    exact q
  have at_old : ∀ id s, E.at_ id = some s → E'.at_ id = some s := fun id s q => by
    show (if _ then _ else _) = _
    split
    · rename_i z
      rw [fe.at_ id z.1 z.2] at q
      cases q
    · exact q
  have le : E.le E' := ⟨at_old, fun j p q => by
    show (if _ then _ else _) = _
    split
    · rename_i z
      rw [fe.emp j z.1 z.2] at q
      cases q
    · exact q⟩
  refine hR E' v w' (val_sh at_new emp_new _ _ k1) ⟨r.below.trans (r'.below.mono r.below.size), fun id o ho => ?_, fun id id' o o' s s' ho ho' hs hs' hbk => ?_⟩ ⟨le, fun id hid => if_neg hid, fun j hj => if_neg hj, r'.below.size, fun k hk _ => r'.below.block k hk, fun id s q1 q2 q3 => ?_⟩
  · rcases hlive id o ho with ⟨x, hx, q1, q2, rfl⟩ | q
    · obtain ⟨s, z1, z2, z3⟩ := r'.obj (id - h.nx) x.so (by unfold gOf; rw [hx]; rfl)
      refine ⟨s, ?_, Nat.le_trans r.below.size z2, objOk_sh at_new emp_new z3⟩
      have := at_new _ _ z1
      rwa [show h.nx + (id - h.nx) = id by omega] at this
    · obtain ⟨s, z1, z2, z3⟩ := r.obj id o q
      exact ⟨s, at_old _ _ z1, z2, (z3.of_heap (r'.below.block _ z3.lt)).le le⟩
  · have newS : ∀ id s (x : Row), lastL e.L (id - h.nx) = some x → h.nx ≤ id → id < h.nx + e.n → E'.at_ id = some s → E1.at_ (id - h.nx) = some s := fun id s x hx q1 q2 q3 => by
      have q3 : (if h.nx ≤ id ∧ id < h.nx + e.n then E1.at_ (id - h.nx) else E.at_ id) = some s := q3
      rwa [if_pos ⟨q1, q2⟩] at q3
    have oldS : ∀ id o s, h.hp.get id = some o → E'.at_ id = some s → E.at_ id = some s ∧ s.blk < w.heap.size := fun id o s q q3 => by
      obtain ⟨t, z1, _, z3⟩ := r.obj id o q
      have := at_old _ _ z1
      rw [this] at q3
      obtain rfl := Option.some.inj q3
      exact ⟨z1, z3.lt⟩
    rcases hlive id o ho with ⟨x, hx, q1, q2, rfl⟩ | q
    · have a1 := newS id s x hx q1 q2 hs
      rcases hlive id' o' ho' with ⟨y, hy, p1, p2, rfl⟩ | p
      · have a2 := newS id' s' y hy p1 p2 hs'
        have := r'.inj (id - h.nx) (id' - h.nx) x.so y.so s s' (by unfold gOf; rw [hx]; rfl) (by unfold gOf; rw [hy]; rfl) a1 a2 hbk
        omega
      · obtain ⟨_, p3⟩ := oldS id' _ s' p hs'
        have := kf _ _ a1
        omega
    · obtain ⟨b1, b2⟩ := oldS id _ s q hs
      rcases hlive id' o' ho' with ⟨y, hy, p1, p2, rfl⟩ | p
      · have a2 := newS id' s' y hy p1 p2 hs'
        have := kf _ _ a2
        omega
      · obtain ⟨c1, c2⟩ := oldS id' _ s' p hs'
        exact r.inj id id' o o' s s' q p b1 c1 hbk
  · have q3 : (if h.nx ≤ id ∧ id < h.nx + e.n then E1.at_ (id - h.nx) else E.at_ id) = some s := q3
    rw [if_pos ⟨q1, q2⟩] at q3
    exact .inl (kf _ _ q3)

/-! ### the table at work -/
abbrev Tab := List Ent
noncomputable def idsB (n : Nat) (L : List Row) : Bool := List.rec true (fun x _ ih => bif Nat.blt x.id n then ih else false) L
theorem idsB_ok {n : Nat} {L : List Row} (h : idsB n L = true) : ∀ x ∈ L, x.id < n := by
  induction L with
  | nil => intro x hx; cases hx
  | cons y r ih =>
    obtain ⟨h1, h2⟩ := bif_true (show (bif Nat.blt y.id n then idsB n r else false) = true from h)
    intro x hx
    rcases List.mem_cons.1 hx with e | e
    · rw [e]; exact Nat.le_of_ble_eq_true h1
    · exact ih h2 x e
noncomputable def entK (e : Ent) (h : HS) (k : SV → HS → Bool) : Bool :=
  HS.rec (fun hp nx ne bar => Bool.rec false (mergeKL nx ne e.L hp fun hp' => natK (nx + e.n) fun nx' => natK (ne + e.m) fun ne' => k (shV nx ne e.v) ⟨hp', nx', ne', bar⟩) (Nat.ble bar nx && idsB e.n e.L)) h
theorem entK_ok {e : Ent} (he : EntOk P e) {h : HS} {k : SV → HS → Bool} (hk : entK e h k = true) : ∃ sv h', k sv h' = true ∧ Goes h h' ∧ CallOk P W0 e.f e.l h h' sv := by
  obtain ⟨hp, nx, ne, bar⟩ := h
  have hk : (Bool.rec false (mergeKL nx ne e.L hp fun hp' => natK (nx + e.n) fun nx' => natK (ne + e.m) fun ne' => k (shV nx ne e.v) ⟨hp', nx', ne', bar⟩) (Nat.ble bar nx && idsB e.n e.L) : Bool) = true := hk
  obtain ⟨h1, h2⟩ := rec_true hk
  simp only [Bool.and_eq_true] at h1
  rw [mergeKL_eq, natK_eq, natK_eq] at h2
  obtain ⟨g, c⟩ := ent_callOk (W0 := W0) he ⟨hp, nx, ne, bar⟩ (Nat.le_of_ble_eq_true h1.1) (idsB_ok h1.2)
  exact ⟨_, _, h2, g, c⟩
noncomputable def tabK (T : Tab) (f : FuncId) (l : List SV) (k : Ent → Bool) : Bool → Bool :=
  List.rec (fun d => d) (fun x _ ih d => Bool.rec (ih d) (Bool.rec (ih d) (k x) (slEq l x.l)) (Nat.beq f x.f)) T
noncomputable def evTgt (P : Program) (M F : Nat) (T : Tab) (d : Nat) : CallK := Nat.rec (fun _ _ _ _ => false) (fun _ ih t l h k => Tgt.rec (fun f => tabK T f l (fun e => entK e h k) ((fnC P M f).f ih F l h k)) (fun id => ylK P ih F id l h k) t) d
noncomputable def evCall (P : Program) (M F : Nat) (T : Tab) (d : Nat) (f : FuncId) : List SV → HS → (SV → HS → Bool) → Bool := evTgt P M F T d (.fn f)
def TabOk (P : Program) (T : Tab) : Prop := ∀ x ∈ T, EntOk P x
theorem tabK_ok {T : Tab} {f : FuncId} {l : List SV} {k : Ent → Bool} {d : Bool} (h : tabK T f l k d = true) : d = true ∨ ∃ x ∈ T, x.f = f ∧ x.l = l ∧ k x = true := by
  induction T with
  | nil => exact .inl h
  | cons x r ih =>
    have h : (Bool.rec (tabK r f l k d) (Bool.rec (tabK r f l k d) (k x) (slEq l x.l)) (Nat.beq f x.f) : Bool) = true := h
    have next : tabK r f l k d = true → d = true ∨ ∃ y ∈ x :: r, y.f = f ∧ y.l = l ∧ k y = true := fun h => by
      rcases ih h with q | ⟨y, a, b⟩
      · exact .inl q
      · exact .inr ⟨y, List.mem_cons_of_mem _ a, b⟩
    cases e1 : Nat.beq f x.f with
    | false => rw [e1] at h; exact next h
    | true =>
      rw [e1] at h
      cases e2 : slEq l x.l with
      | false => rw [e2] at h; exact next h
      | true =>
        rw [e2] at h
        exact .inr ⟨x, List.mem_cons_self, (Nat.eq_of_beq_eq_true e1).symm, (slEq_ok _ _ e2).symm, h⟩

/-! ### what the kernel looks at -/
noncomputable def cellsB (t : Tr SV) (cs : List SV) : Nat → Bool := List.rec (fun _ => true) (fun c _ ih i => getQ t i fun v => bif svEq v c then natK (i + 1) ih else false) cs
theorem cellsB_ok {t : Tr SV} {cs : List SV} : ∀ {i : Nat}, cellsB t cs i = true → ∀ j, j < cs.length → t.get (i + j) = cs[j]? := by
  induction cs with
  | nil => intro i _ j hj; cases hj
  | cons c r ih =>
    intro i h j hj
    have h : (getQ t i fun v => bif svEq v c then natK (i + 1) (cellsB t r) else false) = true := h
    rw [getQ_eq] at h
    split at h
    case h_2 => cases h
    rename_i v hv
    obtain ⟨h1, h2⟩ := bif_true h
    rw [natK_eq] at h2
    cases j with
    | zero => simp [hv, svEq_ok _ _ h1]
    | succ j =>
      have := ih h2 j (by simpa using hj)
      rw [show i + (j + 1) = i + 1 + j by omega, this]
      simp
noncomputable def rowsB (hp : Tr SO) (L : List Row) : Bool := List.rec true (fun x _ ih => getQ hp x.id fun so => asRowO so fun n sz t => bif Nat.beq n x.cs.length && (Nat.beq sz x.sz && cellsB t x.cs 0) then ih else false) L
theorem rowsB_ok {hp : Tr SO} {L : List Row} (h : rowsB hp L = true) : ∀ x ∈ L, ∃ t, hp.get x.id = some (.row x.cs.length x.sz t) ∧ ∀ i, i < x.cs.length → t.get i = (trOf x.cs 0 .e).get i := by
  induction L with
  | nil => intro x hx; cases hx
  | cons y r ih =>
    have h : (getQ hp y.id fun so => asRowO so fun n sz t => bif Nat.beq n y.cs.length && (Nat.beq sz y.sz && cellsB t y.cs 0) then rowsB hp r else false) = true := h
    rw [getQ_eq] at h
    split at h
    case h_2 => cases h
    rename_i so hso
    obtain ⟨n, sz, t, rfl, h2⟩ := asRowO_ok h
    obtain ⟨h3, h4⟩ := bif_true h2
    simp only [Bool.and_eq_true] at h3
    obtain ⟨z1, z2, z3⟩ := h3
    intro x hx
    rcases List.mem_cons.1 hx with e | e
    · subst e
      refine ⟨t, by rw [hso, Nat.eq_of_beq_eq_true z1, Nat.eq_of_beq_eq_true z2], fun i hi => ?_⟩
      have := cellsB_ok z3 i hi
      rw [Nat.zero_add] at this
      rw [this, get_trOf, if_pos ⟨Nat.zero_le _, by omega⟩]
      simp
    · exact ih h4 x e
noncomputable def entB (e : Ent) (sv : SV) (h : HS) : Bool := bif svEq sv e.v then (bif Nat.beq h.nx e.n && Nat.beq h.ne e.m then rowsB h.hp e.L else false) else false
theorem objOk_same {E : Env} {s : Spot} {w : World} {n sz : Nat} {t t' : Tr SV} (ht : ∀ i, i < n → t.get i = t'.get i) (h : objOk E s w (.row n sz t)) : objOk E s w (.row n sz t') := by
  obtain ⟨c, ty, h1, h2, h3, h4⟩ := h
  exact ⟨c, ty, h1, h2, h3, fun i hi => by
    obtain ⟨sv, v, k1, k2⟩ := h4 i hi
    exact ⟨sv, v, by rw [← ht i hi]; exact k1, k2⟩⟩
/-- From a call that was run with nothing laid: its entry. -/
theorem ent_of_call {e : Ent} {vl : List Value} (hl : flats e.l = some vl) (h : ∀ w, GOk w → ∃ sv h', entB e sv h' = true ∧ CallOk P w e.f e.l ⟨.e, 0, 0, 0⟩ h' sv) : EntOk P e := by
  refine ⟨vl, hl, fun w hw R hR => ?_⟩
  obtain ⟨sv, h', hb, c⟩ := h w hw
  obtain ⟨b1, b2⟩ := bif_true hb
  obtain ⟨b2, b3⟩ := bif_true b2
  simp only [Bool.and_eq_true] at b2
  have hv := svEq_ok _ _ b1
  have hn := Nat.eq_of_beq_eq_true b2.1
  have hm := Nat.eq_of_beq_eq_true b2.2
  subst hv
  let E : Env := ⟨fun _ => none, fun _ => none⟩
  refine c E w vl ⟨⟨rfl, rfl, rfl, Nat.le_refl _, fun _ _ => rfl⟩, fun id o e => (by cases e), fun id id' o o' s s' e => (by cases e)⟩ ⟨fun _ _ _ => rfl, fun _ _ _ => rfl⟩ (vals_of_flats E e.l vl hl) R fun E1 v w' k1 r' st => ?_
  refine hR E1 v w' k1 ⟨r'.below, fun j o ho => ?_, fun j j' o o' s s' ho ho' hs hs' hbk => ?_⟩ (fun id hid => st.dom id (fun q => by have := q.2; have : id < h'.nx := q.2; omega)) (fun j hj => st.dome j (fun q => by have : j < h'.ne := q.2; omega)) fun id s q => ?_
  · unfold gOf at ho
    obtain ⟨x, hx, rfl⟩ := Option.map_eq_some_iff.1 ho
    obtain ⟨q1, q2⟩ := lastL_mem hx
    obtain ⟨t, z1, z2⟩ := rowsB_ok b3 x q1
    rw [q2] at z1
    obtain ⟨s, y1, y2, y3⟩ := r'.obj j _ z1
    exact ⟨s, y1, y2, objOk_same z2 y3⟩
  · unfold gOf at ho ho'
    obtain ⟨x, hx, rfl⟩ := Option.map_eq_some_iff.1 ho
    obtain ⟨y, hy, rfl⟩ := Option.map_eq_some_iff.1 ho'
    obtain ⟨q1, q2⟩ := lastL_mem hx
    obtain ⟨p1, p2⟩ := lastL_mem hy
    obtain ⟨t, z1, _⟩ := rowsB_ok b3 x q1
    obtain ⟨u, z2, _⟩ := rowsB_ok b3 y p1
    rw [q2] at z1
    rw [p2] at z2
    exact r'.inj j j' _ _ s s' z1 z2 hs hs' hbk
  · by_cases hid : id < h'.nx
    · rcases st.fresh id s (Nat.zero_le _) hid q with z | ⟨_, _, _, _, z, _⟩
      · exact z
      · cases z
    · have := st.dom id (fun q => hid q.2)
      rw [this] at q
      cases q
end Go.Proofs.YtbkgehknhjkaoaaGreatDoor.Ev
namespace Go.Proofs.YtbkgehknhjkaoaaGreatDoor.Ev
open Go Go.RowKit

variable [GTab] {P : Program} {W0 : World} [GOk W0]
theorem load_var {t : TypeId} {fr : Tr SV} {g : Tr SO} {a : Nat} {k : SV → Bool} (hk : rdLoad P t fr g (.tmp a) k = true) : ∃ sv, k sv = true ∧ ∀ E N act w, Rel W0 E g.get w → FrOk E fr N act → ∃ v, val E sv = some v ∧ (asAddr (act.tmps.getD a undef) >>= loadVar t).run P w = .ok v w := by
  let o : Oper := { dst := none, op := .load t (.tmp a), type := 0, pos := "", after := #[], guard := none }
  obtain ⟨sv, k1, k2⟩ := rdLoad_ok (W0 := W0) (o := o) rfl hk
  refine ⟨sv, k1, fun E N act w r f => ?_⟩
  obtain ⟨v, e1, e2⟩ := k2 E N act w r f
  refine ⟨v, e1, ?_⟩
  have e3 : (do pure (Next.value (← Instr.loadAt t (act.tmps.getD a undef))) : Sem Next).run P w = .ok (.value v) w := e2
  simp only [Sem.run_bind] at e3 ⊢
  unfold Instr.loadAt at e3
  simp only [Sem.run_bind] at e3
  -- the address is one
  have hp := opd_ok f (.tmp a)
  have hA : ∃ A, act.tmps.getD a undef = .pointer (some A) := by
    unfold rdLoad at hk
    rw [opdK_eq] at hk
    split at hk
    · rename_i id off hpt
      rw [hpt] at hp
      simp only [val, Option.map_eq_some_iff] at hp
      obtain ⟨s, hs, hp⟩ := hp
      exact ⟨_, hp.symm⟩
    · rename_i b o hpt
      rw [hpt] at hp
      simp only [val, Option.some.injEq] at hp
      exact ⟨_, hp.symm⟩
    · cases hk
  obtain ⟨A, hp'⟩ := hA
  rw [hp'] at e3 ⊢
  simp only [Instr.sureAddr, asAddr, Sem.run_pure, Result.andThen] at e3 ⊢
  cases hl : (loadVar t A).run P w with
  | ok x w' =>
    rw [hl] at e3
    simp only [Sem.run_pure, Result.ok.injEq, Next.value.injEq] at e3
    rw [e3.1, e3.2]
  | halt x w' => rw [hl] at e3; cases e3
def resV (tmps : Array Value) : ResultVar → Sem Value
  | .tmp t => pure (tmps.getD t undef)
  | .cell a t => do loadVar t (← asAddr (tmps.getD a undef))
theorem resK_ok {fr : Tr SV} {g : Tr SO} (rs : List ResultVar) : ∀ {k : List SV → Bool}, resK P fr g rs k = true → ∃ l, k l = true ∧ ∀ E N a w, Rel W0 E g.get w → FrOk E fr N a → ∃ vl, vals E l = some vl ∧ (rs.mapM (resV a.tmps)).run P w = .ok vl w := by
  induction rs with
  | nil => intro k hk; exact ⟨[], hk, fun E N a w _ _ => ⟨[], rfl, rfl⟩⟩
  | cons v r ih =>
    intro k hk
    cases v with
    | tmp t =>
      simp only [resK, opdK_eq] at hk
      obtain ⟨l, k1, k2⟩ := ih hk
      refine ⟨_, k1, fun E N a w rel f => ?_⟩
      obtain ⟨vl, e1, e2⟩ := k2 E N a w rel f
      have hp := opd_ok f (.tmp t)
      refine ⟨a.eval (.tmp t) :: vl, by simp [vals, hp, e1], ?_⟩
      simp [List.mapM_cons, resV, Sem.run_bind, Result.andThen, e2, Act.eval]
    | cell x t =>
      simp only [resK] at hk
      obtain ⟨sv, hk, h1⟩ := load_var (W0 := W0) hk
      obtain ⟨l, k1, k2⟩ := ih hk
      refine ⟨_, k1, fun E N a w rel f => ?_⟩
      obtain ⟨vl, e1, e2⟩ := k2 E N a w rel f
      obtain ⟨v, e3, e4⟩ := h1 E N a w rel f
      refine ⟨v :: vl, by simp [vals, e3, e1], ?_⟩
      rw [List.mapM_cons]
      have e5 : (resV a.tmps (.cell x t)).run P w = .ok v w := e4
      simp [Sem.run_bind, Result.andThen, e5, e2]
def oneOf : List Value → Value
  | [v] => v
  | vl => .tuple vl.toArray
theorem results_run {fn : Func} {tmps : Array Value} {w : World} {vl : List Value} (h : (fn.results.toList.mapM (resV tmps)).run P w = .ok vl w) : (results fn tmps).run P w = .ok (oneOf vl) w := by
  have e : results fn tmps = (fn.results.mapM (resV tmps) >>= fun vs => pure (if h : vs.size = 1 then vs[0] else .tuple vs)) := rfl
  rw [e, Array.mapM_eq_mapM_toList]
  simp only [Sem.run_bind, map_eq_pure_bind, h, Result.andThen, Sem.run_pure]
  cases vl with
  | nil => rfl
  | cons v r => cases r with
    | nil => rfl
    | cons u r => simp [oneOf]
theorem get_args (l : List SV) (E : Env) (vl : List Value) (hv : vals E l = some vl) (m : Nat) : FrOk E (trOf l 0 .e) (l.length + (m - l.length)) { tmps := vl.toArray ++ Array.replicate (m - vl.toArray.size) undef, defers := [] } := by
  have len : ∀ (l : List SV) (vl : List Value), vals E l = some vl → vl.length = l.length := by
    intro l
    induction l with
    | nil => intro vl h; simp only [vals, Option.some.injEq] at h; subst h; rfl
    | cons s r ih =>
      intro vl h
      simp only [vals, Option.bind_eq_some_iff, Option.map_eq_some_iff] at h
      obtain ⟨x, _, y, hy, rfl⟩ := h
      simp [ih y hy]
  have at_ : ∀ (l : List SV) (vl : List Value), vals E l = some vl → ∀ (i : Nat) (s : SV), l[i]? = some s → ∃ v, vl[i]? = some v ∧ val E s = some v := by
    intro l
    induction l with
    | nil => intro vl _ i s hs; simp at hs
    | cons s r ih =>
      intro vl h i s' hs
      simp only [vals, Option.bind_eq_some_iff, Option.map_eq_some_iff] at h
      obtain ⟨x, hx, y, hy, rfl⟩ := h
      cases i with
      | zero =>
        simp only [List.getElem?_cons_zero, Option.some.injEq] at hs
        subst hs
        exact ⟨x, rfl, hx⟩
      | succ i =>
        simp only [List.getElem?_cons_succ] at hs ⊢
        exact ih y hy i s' hs
  have hl := len l vl hv
  refine ⟨by simp [hl], by rw [get_trOf, if_neg (by omega), Tr.get_e]; rfl, fun t => ?_⟩
  rw [get_trOf]
  by_cases h : t < l.length
  · rw [if_pos ⟨Nat.zero_le _, by omega⟩, Nat.sub_zero]
    have hs : l[t]? = some l[t] := List.getElem?_eq_getElem h
    obtain ⟨v, e1, e2⟩ := at_ l vl hv t _ hs
    rw [hs]
    simp only [Option.getD_some, e2, Option.some.injEq]
    have ht : t < vl.length := by omega
    have ev : vl[t] = v := by rw [List.getElem?_eq_getElem ht] at e1; exact Option.some.inj e1
    rw [Array.getD_eq_getD_getElem?, Array.getElem?_append_left (by simpa using ht)]
    simp [ht, ev]
  · rw [if_neg (by omega), Tr.get_e]
    simp only [Option.getD_none, val, Option.some.injEq]
    rw [Array.getD_eq_getD_getElem?, Array.getElem?_append_right (by simp; omega)]
    simp only [Array.getElem?_replicate]
    split <;> rfl
theorem fnC_ok {M F : Nat} (hm : P.follows .mixedOrders = true) (hf : FnsOk P M) {call : CallK} (hc : CallSound P W0 call) (f : FuncId) (l : List SV) (h : HS) (k : SV → HS → Bool) (hk : (fnC P M f).f call F l h k = true) : ∃ sv h', k sv h' = true ∧ Goes h h' ∧ CallOk P W0 f l h h' sv := by
  have hk : (fnC P M f).f call F l h k = true := hk
  unfold fnC at hk
  cases hlt0 : Nat.blt f M with
  | false => rw [hlt0] at hk; cases hk
  | true =>
  rw [hlt0, cond_true] at hk
  have hlt := Nat.le_of_ble_eq_true hlt0
  split at hk
  case h_2 => cases hk
  rename_i fn hfn
  split at hk
  case h_2 => cases hk
  rename_i c hb
  rw [natC_eq, natC_eq, natC_eq, Cl.then_eq, Cl.then_eq, paC_eq] at hk
  obtain ⟨hn, hk⟩ := rec_true hk
  rw [← Nat.eq_of_beq_eq_true hn, argsK_eq] at hk
  obtain ⟨x, fr0, fr', h0, k1, ag, g0, ok⟩ := codeC_ok (W0 := W0) hc hm c _ _ _ _ (fun _ _ => rfl) (hf f fn c hlt hfn hb) hk
  have hx : (x = .normal ∨ x = .ret) ∧ endK (pa (l.length + (fn.ntmps - l.length))) fr0 h0 (fun h2 => (resC P (Nat.lor (Nat.lor (keepM c) (resM fn.results.toList)) (Nat.shiftLeft 1 (l.length + (fn.ntmps - l.length)))) fn.results.toList).f fr0 h2.hp (fun r => oneK2 r fun s => k s h2)) = true := by
    cases x with
    | exit j => cases k1
    | normal => exact ⟨.inl rfl, k1⟩
    | ret => exact ⟨.inr rfl, k1⟩
  obtain ⟨hx, k1⟩ := hx
  obtain ⟨h', k1, g1, ⟨n1, n2⟩, dok⟩ := endK_ok (W0 := W0) (P := P) k1
  have g := g0.trans g1
  have q := resC_ok _ _ _ _ _ _ ag k1
  have k1' : resK P fr' h'.hp fn.results.toList (fun r => (match r with | [s] => k s h' | r => k (.tup r) h')) = true := by
    have e : (fun r => oneK2 r fun s => k s h') = fun r => (match r with | [s] => k s h' | r => k (.tup r) h') := by
      funext r
      rw [oneK2_eq]
      cases r with
      | nil => rfl
      | cons s t => cases t <;> rfl
    rw [e] at q
    exact q
  have hbit : opd fr0 (.tmp (l.length + (fn.ntmps - l.length))) = opd fr' (.tmp (l.length + (fn.ntmps - l.length))) := ag _ (by
    simp [Nat.testBit_or, Nat.testBit_shiftLeft])
  obtain ⟨r, k2, k3⟩ := resK_ok (W0 := W0) _ k1'
  have fin : ∀ sv, (∀ E vl, vals E r = some vl → val E sv = some (oneOf vl)) → CallOk P W0 f l h h' sv := by
    intro sv hsv E w vl rel fe hv R hR
    refine (callsIn_wide (n := 0)).1 (callsIn_of_wp_marks hfn hb trivial (ok ⟨none, .inr rfl⟩ E _ w rel (fe.left g1.nx g1.ne) (get_args l E vl hv fn.ntmps) _ fun E' a' w' r' st fo' => ?_))
    have main : LeavesInM Fence.wide 0 P fn a'.tmps R a'.defers .returning w' := by
      refine dok E' w' a'.defers fn a'.tmps R r' (by rw [hbit]; exact fo'.defers) fun w2 r2 st2 => ?_
      obtain ⟨ul, e1, e2⟩ := k3 E' _ a' w2 r2 fo'
      have e3 := results_run e2
      have e4 := hsv E' ul e1
      exact ⟨_, e3, hR E' _ w2 e4 r2 (Step.trans g0 g1 st st2)⟩
    rcases hx with rfl | rfl
    · exact main
    · exact main
  match r, k2, fin with
  | [s], k2, fin =>
    refine ⟨s, h', k2, g, fin s fun E vl e => ?_⟩
    simp only [vals, Option.bind_eq_some_iff, Option.map_eq_some_iff] at e
    obtain ⟨x, hx, y, hy, rfl⟩ := e
    simp only [Option.some.injEq] at hy
    subst hy
    exact hx
  | [], k2, fin =>
    refine ⟨.tup [], h', k2, g, fin _ fun E vl e => ?_⟩
    simp only [vals, Option.some.injEq] at e
    subst e
    rfl
  | s :: u :: q, k2, fin =>
    refine ⟨.tup (s :: u :: q), h', k2, g, fin _ fun E vl e => ?_⟩
    have e' := e
    simp only [vals, Option.bind_eq_some_iff, Option.map_eq_some_iff] at e
    obtain ⟨x, hx, y, ⟨z, hz, t, ht, rfl⟩, rfl⟩ := e
    simp only [val, e', Option.map_some, oneOf]
theorem evTgt_ok {M F : Nat} {T : Tab} (hT : TabOk P T) (hm : P.follows .mixedOrders = true) (hf : FnsOk P M) (d : Nat) : CallSound P W0 (evTgt P M F T d) := by
  induction d with
  | zero => intro t l h k hk; cases hk
  | succ d ih =>
    intro t l h k hk
    cases t with
    | fn f =>
      rcases tabK_ok (show tabK T f l (fun e => entK e h k) ((fnC P M f).f (evTgt P M F T d) F l h k) = true from hk) with q | ⟨x, hx, rfl, rfl, q⟩
      · exact fnC_ok hm hf ih f l h k q
      · exact entK_ok (hT x hx) q
    | yl id => exact ylK_ok hm ih hk
theorem evCall_ok {M F : Nat} {T : Tab} (hT : TabOk P T) (hm : P.follows .mixedOrders = true) (hf : FnsOk P M) (d : Nat) (f : FuncId) (l : List SV) (h : HS) (k : SV → HS → Bool) (hk : evCall P M F T d f l h k = true) : ∃ sv h', k sv h' = true ∧ Goes h h' ∧ CallOk P W0 f l h h' sv :=
  evTgt_ok hT hm hf d (.fn f) l h k hk
/-- The entry of a call that was run. -/
theorem ent_of_ev {M F d : Nat} {T : Tab} (hT : TabOk P T) (hm : P.follows .mixedOrders = true) (hf : FnsOk P M) {e : Ent} {vl : List Value} (hl : flats e.l = some vl)
    (h : evCall P M F T d e.f e.l ⟨.e, 0, 0, 0⟩ (fun sv h => entB e sv h) = true) : EntOk P e :=
  ent_of_call hl fun w hw => by
    obtain ⟨sv, h', k1, _, ok⟩ := evCall_ok (W0 := w) hT hm hf d _ _ _ _ h
    exact ⟨sv, h', k1, ok⟩
/-- Every function's drawing regions are in order. -/
noncomputable def fnsB (fs : List Func) : Bool := List.rec true (fun fn _ ih => bif (match fn.body with | some c => codeOk c | none => true) then ih else false) fs
theorem fnsB_ok {fs : List Func} (h : fnsB fs = true) : ∀ fn ∈ fs, ∀ c, fn.body = some c → codeOk c = true := by
  induction fs with
  | nil => intro fn hf; cases hf
  | cons x r ih =>
    obtain ⟨h1, h2⟩ := bif_true (show (bif (match x.body with | some c => codeOk c | none => true) then fnsB r else false) = true from h)
    intro fn hf c hc
    rcases List.mem_cons.1 hf with e | e
    · subst e; rw [hc] at h1; exact h1
    · exact ih h2 fn e c hc
theorem fnsOk_of (M : Nat) (h : fnsB P.funcs.toList = true) : FnsOk P M := fun f fn c _ hf hc => fnsB_ok h fn (by
  have := List.mem_of_getElem? (l := P.funcs.toList) (i := f) (a := fn) (by simpa using hf)
  exact this) c hc
/-- A closed call, from the start. -/
theorem calls_of_ev {M F d : Nat} {T : Tab} (hT : TabOk P T) (hm : P.follows .mixedOrders = true) (hf : FnsOk P M) {f : FuncId} {l : List SV} {vl : List Value} (hl : flats l = some vl) {q : SV → Bool} {v : Value} (hq : ∀ sv, q sv = true → flat sv = some v)
    (h : evCall P M F T d f l ⟨.e, 0, 0, 0⟩ (fun sv _ => q sv) = true) (w : World) (hG : GOk w) : Calls P f vl.toArray w fun e w' => e = .returned v ∧ Below w.heap.size w w' := by
  obtain ⟨sv, h', k1, g, ok⟩ := evCall_ok (W0 := w) hT hm hf d f l _ _ h
  let E : Env := ⟨fun _ => none, fun _ => none⟩
  refine ok E w vl ⟨⟨rfl, rfl, rfl, Nat.le_refl _, fun _ _ => rfl⟩, fun id o e => (by cases e), fun id id' o o' s s' e => (by cases e)⟩ ⟨fun _ _ _ => rfl, fun _ _ _ => rfl⟩ (vals_of_flats E l vl hl) _ fun E' v' w' e1 r' _ => ?_
  have := val_of_flat E' sv v (hq sv k1)
  rw [e1] at this
  obtain rfl := Option.some.inj this
  exact ⟨rfl, r'.below⟩
/-- The entry of a call that hands back true. -/
theorem ent_true {M F d : Nat} {T : Tab} (hT : TabOk P T) (hm : P.follows .mixedOrders = true) (hf : FnsOk P M) {f : FuncId} {l : List SV} {vl : List Value} (hl : flats l = some vl) {q : SV → Bool} (hq : ∀ sv, q sv = true → flat sv = some (.bool true))
    (h : evCall P M F T d f l ⟨.e, 0, 0, 0⟩ (fun sv _ => q sv) = true) : EntOk P ⟨f, l, .bool true, 0, 0, []⟩ := by
  refine ⟨vl, hl, fun w hw R hR => (calls_of_ev hT hm hf hl hq h w hw).mono ?_⟩
  rintro e w' ⟨rfl, hb⟩
  exact hR ⟨fun _ => none, fun _ => none⟩ _ w' rfl ⟨hb, fun _ _ e => (by cases e), fun _ _ _ _ _ _ e => (by cases e)⟩ (fun _ _ => rfl) (fun _ _ => rfl) fun _ _ e => (by cases e)
end Go.Proofs.YtbkgehknhjkaoaaGreatDoor.Ev
namespace Go.Proofs.YtbkgehknhjkaoaaGreatDoor.Ev
open Go Go.RowKit
variable [GTab] {P : Program} {W0 : World} [GOk W0]

mutual
/-- The same, its objects and its empty slices numbered anew. -/
def rnV (r s : Nat → Nat) : SV → SV
  | .bool x => .bool x
  | .int k n => .int k n
  | .lit v => .lit v
  | .ptr id off => .ptr (r id) off
  | .sl id off len cap => .sl (r id) off len cap
  | .slr id off len skip => .slr (r id) off len skip
  | .emp j id off skip => .emp (s j) (r id) off skip
  | .map id => .map (r id)
  | .yld id => .yld (r id)
  | .mks l => .mks l
  | .fn f x y => .fn f (rnL r s x) (rnL r s y)
  | .iface t v => .iface t (rnV r s v)
  | .agg l => .agg (rnL r s l)
  | .tup l => .tup (rnL r s l)
def rnL (r s : Nat → Nat) : List SV → List SV
  | [] => []
  | x :: l => rnV r s x :: rnL r s l
end
mutual
/-- Its numbers are below n and e. -/
def bnV (n e : Nat) : SV → Bool
  | .ptr id _ => Nat.blt id n
  | .sl id _ _ _ => Nat.blt id n
  | .slr id _ _ _ => Nat.blt id n
  | .emp j id _ _ => Nat.blt j e && Nat.blt id n
  | .map id => Nat.blt id n
  | .yld id => Nat.blt id n
  | .fn _ x y => bnL n e x && bnL n e y
  | .iface _ v => bnV n e v
  | .agg l => bnL n e l
  | .tup l => bnL n e l
  | _ => true
def bnL (n e : Nat) : List SV → Bool
  | [] => true
  | x :: l => bnV n e x && bnL n e l
end
section
variable {E1 E' : Env} {r s : Nat → Nat} (hE : ∀ id p, E1.at_ id = some p → E'.at_ (r id) = some p) (hJ : ∀ j p, E1.emp j = some p → E'.emp (s j) = some p)
include hE hJ
mutual
theorem val_rn : ∀ (x : SV) (v : Value), val E1 x = some v → val E' (rnV r s x) = some v
  | .bool _, v, e => by simpa [val, rnV] using e
  | .int _ _, v, e => by simpa [val, rnV] using e
  | .lit _, v, e => by simpa [val, rnV] using e
  | .ptr id off, v, e => by
    simp only [val, rnV, Option.map_eq_some_iff] at e ⊢
    obtain ⟨p, q1, q2⟩ := e
    exact ⟨p, hE _ _ q1, q2⟩
  | .sl id off len cap, v, e => by
    simp only [val, rnV, Option.map_eq_some_iff] at e ⊢
    obtain ⟨p, q1, q2⟩ := e
    exact ⟨p, hE _ _ q1, q2⟩
  | .slr id off len skip, v, e => by
    simp only [val, rnV, Option.map_eq_some_iff] at e ⊢
    obtain ⟨p, q1, q2⟩ := e
    exact ⟨p, hE _ _ q1, q2⟩
  | .emp j id off skip, v, e => by
    simp only [val, rnV, Option.bind_eq_some_iff, Option.map_eq_some_iff] at e ⊢
    obtain ⟨p, q1, A, q2, t, q3, q4⟩ := e
    exact ⟨p, hJ _ _ q1, A, q2, t, hE _ _ q3, q4⟩
  | .map id, v, e => by
    simp only [val, rnV, Option.map_eq_some_iff] at e ⊢
    obtain ⟨p, q1, q2⟩ := e
    exact ⟨p, hE _ _ q1, q2⟩
  | .yld id, v, e => by
    simp only [val, rnV, Option.map_eq_some_iff] at e ⊢
    obtain ⟨p, q1, q2⟩ := e
    exact ⟨p, hE _ _ q1, q2⟩
  | .mks l, v, e => by simpa [val, rnV] using e
  | .fn f x y, v, e => by
    simp only [val, rnV, Option.bind_eq_some_iff, Option.map_eq_some_iff] at e ⊢
    obtain ⟨p, hp, q, hq, t⟩ := e
    exact ⟨p, vals_rn x p hp, q, vals_rn y q hq, t⟩
  | .iface t x, v, e => by
    simp only [val, rnV, Option.map_eq_some_iff] at e ⊢
    obtain ⟨p, hp, t⟩ := e
    exact ⟨p, val_rn x p hp, t⟩
  | .agg l, v, e => by
    simp only [val, rnV, Option.map_eq_some_iff] at e ⊢
    obtain ⟨p, hp, t⟩ := e
    exact ⟨p, vals_rn l p hp, t⟩
  | .tup l, v, e => by
    simp only [val, rnV, Option.map_eq_some_iff] at e ⊢
    obtain ⟨p, hp, t⟩ := e
    exact ⟨p, vals_rn l p hp, t⟩
theorem vals_rn : ∀ (l : List SV) (v : List Value), vals E1 l = some v → vals E' (rnL r s l) = some v
  | [], v, e => by simpa [vals, rnL] using e
  | x :: l, v, e => by
    simp only [vals, rnL, Option.bind_eq_some_iff, Option.map_eq_some_iff] at e ⊢
    obtain ⟨x', hx, y, hy, q⟩ := e
    exact ⟨x', val_rn x x' hx, y, vals_rn l y hy, q⟩
end
end
section
variable {E1 E' : Env} {r s : Nat → Nat} {n e : Nat} (hE : ∀ id, id < n → E'.at_ (r id) = E1.at_ id) (hJ : ∀ j, j < e → E'.emp (s j) = E1.emp j)
include hE hJ
mutual
theorem val_back : ∀ (x : SV), bnV n e x = true → val E' (rnV r s x) = val E1 x
  | .bool _, _ => rfl
  | .int _ _, _ => rfl
  | .lit _, _ => rfl
  | .ptr id off, h => by simp only [val, rnV, hE id (Nat.le_of_ble_eq_true h)]
  | .sl id off len cap, h => by simp only [val, rnV, hE id (Nat.le_of_ble_eq_true h)]
  | .slr id off len skip, h => by simp only [val, rnV, hE id (Nat.le_of_ble_eq_true h)]
  | .emp j id off skip, h => by
    simp only [bnV, Bool.and_eq_true] at h
    simp only [val, rnV, hE id (Nat.le_of_ble_eq_true h.2), hJ j (Nat.le_of_ble_eq_true h.1)]
  | .map id, h => by simp only [val, rnV, hE id (Nat.le_of_ble_eq_true h)]
  | .yld id, h => by simp only [val, rnV, hE id (Nat.le_of_ble_eq_true h)]
  | .mks l, _ => rfl
  | .fn f x y, h => by
    simp only [bnV, Bool.and_eq_true] at h
    simp only [val, rnV, vals_back x h.1, vals_back y h.2]
  | .iface t x, h => by simp only [val, rnV, val_back x h]
  | .agg l, h => by simp only [val, rnV, vals_back l h]
  | .tup l, h => by simp only [val, rnV, vals_back l h]
theorem vals_back : ∀ (l : List SV), bnL n e l = true → vals E' (rnL r s l) = vals E1 l
  | [], _ => rfl
  | x :: l, h => by
    simp only [bnL, Bool.and_eq_true] at h
    simp only [vals, rnL, val_back x h.1, vals_back l h.2]
end
end
theorem length_rnL (r s : Nat → Nat) : ∀ (l : List SV), (rnL r s l).length = l.length
  | [] => rfl
  | x :: l => by simp [rnL, length_rnL r s l]
theorem get_rnL (r s : Nat → Nat) : ∀ (l : List SV) (i : Nat), (rnL r s l)[i]? = (l[i]?).map (rnV r s)
  | [], i => by simp [rnL]
  | x :: l, 0 => by simp [rnL]
  | x :: l, i + 1 => by simp [rnL, get_rnL r s l i]
theorem bnL_get {n e : Nat} : ∀ {l : List SV}, bnL n e l = true → ∀ {i : Nat} {x : SV}, l[i]? = some x → bnV n e x = true
  | [], _, i, x, h => by simp at h
  | y :: l, hb, i, x, h => by
    simp only [bnL, Bool.and_eq_true] at hb
    cases i with
    | zero =>
      simp only [List.getElem?_cons_zero, Option.some.injEq] at h
      rw [← h]; exact hb.1
    | succ i => exact bnL_get hb.2 (by simpa using h)

/-- A call whose end is known: the rows that it finds, numbered from nought, and those that it lays. -/
structure FEnt where
  f : FuncId
  l : List SV
  n0 : Nat
  e0 : Nat
  I : List Row
  v : SV
  n : Nat
  m : Nat
  L : List Row
  Q : Option (List Int)
/-- What it finds: its rows, and maybe a set under the number nought. -/
noncomputable def gIn (e : FEnt) : Hp := fun id => match e.Q, id with
  | some ks, 0 => some (.ml ks)
  | _, id => gOf e.I id
theorem gIn_none {e : FEnt} (h : e.Q = none) : gIn e = gOf e.I := by
  funext id
  unfold gIn
  rw [h]
def FEntOk (P : Program) (e : FEnt) : Prop := ∀ W0 : World, GOk W0 → ∀ E w vl, Rel W0 E (gIn e) w → (∀ id, e.n0 ≤ id → E.at_ id = none) → (∀ j, e.e0 ≤ j → E.emp j = none) → vals E e.l = some vl → ∀ R : Ending → World → Prop,
  (∀ E' v w', val E' e.v = some v → Rel W0 E' (gOf e.L) w' → Step e.n0 (gIn e) e.n0 (e.n0 + e.n) e.e0 (e.e0 + e.m) E E' w w' → R (.returned v) w') → Calls P e.f vl.toArray w R
def nthD (l : List Nat) (i : Nat) : Nat := (l[i]?).getD 0
noncomputable def nthN (l : List Nat) : Nat → (Nat → Bool) → Bool := List.rec (fun _ k => k 0) (fun a _ ih i k => Nat.rec (k a) (fun j _ => ih j k) i) l
theorem nthN_eq (l : List Nat) : ∀ (i : Nat) (k : Nat → Bool), nthN l i k = k (nthD l i) := by
  induction l with
  | nil => intro i k; rfl
  | cons a l ih =>
    intro i k
    cases i with
    | zero => rfl
    | succ j =>
      show nthN l j k = _
      rw [ih]
      simp [nthD]
def rho (n0 base : Nat) (l : List Nat) (i : Nat) : Nat := if i < n0 then nthD l i else base + (i - n0)
noncomputable def rhoK (n0 base : Nat) (l : List Nat) (i : Nat) (k : Nat → Bool) : Bool := Bool.rec (natK (Nat.add base (Nat.sub i n0)) k) (nthN l i k) (Nat.blt i n0)
theorem rhoK_eq (n0 base : Nat) (l : List Nat) (i : Nat) (k : Nat → Bool) : rhoK n0 base l i k = k (rho n0 base l i) := by
  unfold rhoK rho
  cases e : Nat.blt i n0 with
  | true =>
    rw [if_pos (show i < n0 from Nat.le_of_ble_eq_true e)]
    exact nthN_eq l i k
  | false =>
    rw [if_neg (fun h => by rw [show Nat.blt i n0 = true from Nat.ble_eq_true_of_le h] at e; cases e)]
    exact natK_eq _ k

/-! ### numbering anew, step by step -/
noncomputable def rnK (rk sk : Nat → (Nat → Bool) → Bool) (x : SV) : (SV → Bool) → Bool :=
  SV.rec (motive_1 := fun _ => (SV → Bool) → Bool) (motive_2 := fun _ => (List SV → Bool) → Bool) (fun b k => k (.bool b)) (fun kd n k => k (.int kd n)) (fun v k => k (.lit v)) (fun id off k => rk id fun id' => k (.ptr id' off)) (fun id off len cap k => rk id fun id' => k (.sl id' off len cap))
    (fun id off len skip k => rk id fun id' => k (.slr id' off len skip)) (fun j id off skip k => sk j fun j' => rk id fun id' => k (.emp j' id' off skip)) (fun id k => rk id fun id' => k (.map id')) (fun f _ _ ia ib k => ia fun a => ib fun b => k (.fn f a b)) (fun t _ iv k => iv fun v => k (.iface t v))
    (fun _ il k => il fun l => k (.agg l)) (fun _ il k => il fun l => k (.tup l)) (fun id k => rk id fun id' => k (.yld id')) (fun l k => k (.mks l)) (fun k => k []) (fun _ _ ix il k => ix fun x => il fun l => k (x :: l)) x
noncomputable def rnKL (rk sk : Nat → (Nat → Bool) → Bool) (l : List SV) : (List SV → Bool) → Bool :=
  SV.rec_1 (motive_1 := fun _ => (SV → Bool) → Bool) (motive_2 := fun _ => (List SV → Bool) → Bool) (fun b k => k (.bool b)) (fun kd n k => k (.int kd n)) (fun v k => k (.lit v)) (fun id off k => rk id fun id' => k (.ptr id' off)) (fun id off len cap k => rk id fun id' => k (.sl id' off len cap))
    (fun id off len skip k => rk id fun id' => k (.slr id' off len skip)) (fun j id off skip k => sk j fun j' => rk id fun id' => k (.emp j' id' off skip)) (fun id k => rk id fun id' => k (.map id')) (fun f _ _ ia ib k => ia fun a => ib fun b => k (.fn f a b)) (fun t _ iv k => iv fun v => k (.iface t v))
    (fun _ il k => il fun l => k (.agg l)) (fun _ il k => il fun l => k (.tup l)) (fun id k => rk id fun id' => k (.yld id')) (fun l k => k (.mks l)) (fun k => k []) (fun _ _ ix il k => ix fun x => il fun l => k (x :: l)) l
section
variable {rk sk : Nat → (Nat → Bool) → Bool} {r s : Nat → Nat} (hr : ∀ i k, rk i k = k (r i)) (hs : ∀ i k, sk i k = k (s i))
include hr hs
mutual
theorem rnK_eq : ∀ (x : SV) (k : SV → Bool), rnK rk sk x k = k (rnV r s x)
  | .bool _, k => rfl
  | .int _ _, k => rfl
  | .lit _, k => rfl
  | .ptr id off, k => hr id _
  | .sl id off len cap, k => hr id _
  | .slr id off len skip, k => hr id _
  | .emp j id off skip, k => (hs j _).trans (hr id _)
  | .map id, k => hr id _
  | .yld id, k => hr id _
  | .mks l, k => rfl
  | .fn f x y, k => (rnKL_eq x _).trans (rnKL_eq y _)
  | .iface t x, k => rnK_eq x _
  | .agg l, k => rnKL_eq l _
  | .tup l, k => rnKL_eq l _
theorem rnKL_eq : ∀ (l : List SV) (k : List SV → Bool), rnKL rk sk l k = k (rnL r s l)
  | [], k => rfl
  | x :: l, k => (rnK_eq x _).trans (rnKL_eq l _)
end
end
/-- Such a call, and where its objects lie with the caller. -/
structure FItem where
  e : FEnt
  r : List Nat
  s : List Nat
noncomputable def notIn (a : Nat) (l : List Nat) : Bool := List.rec true (fun b _ ih => Bool.rec ih false (Nat.beq a b)) l
noncomputable def nodB (l : List Nat) : Bool := List.rec true (fun a r ih => Bool.rec false ih (notIn a r)) l
theorem notIn_ok {a : Nat} {l : List Nat} (h : notIn a l = true) : a ∉ l := by
  induction l with
  | nil => intro q; cases q
  | cons b l ih =>
    have h : (Bool.rec (notIn a l) false (Nat.beq a b) : Bool) = true := h
    cases e : Nat.beq a b with
    | true => rw [e] at h; cases h
    | false =>
      rw [e] at h
      intro q
      rcases List.mem_cons.1 q with z | z
      · rw [z, Nat.beq_refl] at e; cases e
      · exact ih h z
noncomputable def allR (p : Row → Bool) (L : List Row) : Bool := List.rec true (fun x _ ih => bif p x then ih else false) L
theorem allR_ok {p : Row → Bool} {L : List Row} (h : allR p L = true) : ∀ x ∈ L, p x = true := by
  induction L with
  | nil => intro x hx; cases hx
  | cons y l ih =>
    obtain ⟨h1, h2⟩ := bif_true (show (bif p y then allR p l else false) = true from h)
    intro x hx
    rcases List.mem_cons.1 hx with e | e
    · rw [e]; exact h1
    · exact ih h2 x e
/-- The entry's numbers are in order. -/
noncomputable def fitE (e : FEnt) : Bool := (match e.Q with | some _ => Nat.blt 0 e.n0 | none => true) && (bnL e.n0 e.e0 e.l && (allR (fun x => Nat.blt x.id e.n0 && bnL e.n0 e.e0 x.cs) e.I && allR (fun x => Nat.ble e.n0 x.id && Nat.blt x.id (e.n0 + e.n)) e.L))
noncomputable def fitB (x : FItem) : Bool := nodB x.r && Nat.beq x.r.length x.e.n0
def FItemOk (P : Program) (x : FItem) : Prop := FEntOk P x.e ∧ fitE x.e = true ∧ fitB x = true
noncomputable def rowF (r s : Nat → Nat) (x : Row) : SO := .row x.cs.length x.sz (trOf (rnL r s x.cs) 0 .e)
noncomputable def mergeR (r s : Nat → Nat) : List Row → Tr SO → Tr SO
  | [], hp => hp
  | x :: l, hp => mergeR r s l (hp.put (r x.id) (some (rowF r s x)))
theorem nthD_mem {l : List Nat} {i : Nat} (hi : i < l.length) : nthD l i ∈ l := by
  simp only [nthD, List.getElem?_eq_getElem hi, Option.getD_some]
  exact List.getElem_mem hi
theorem nthD_inj : ∀ {l : List Nat}, nodB l = true → ∀ {i j : Nat}, i < l.length → j < l.length → nthD l i = nthD l j → i = j
  | [], _, i, j, hi, _, _ => absurd hi (Nat.not_lt_zero _)
  | a :: l, h, i, j, hi, hj, e => by
    obtain ⟨h1, h2⟩ := rec_true (show (Bool.rec false (nodB l) (notIn a l) : Bool) = true from h)
    have h1 := notIn_ok h1
    cases i with
    | zero => cases j with
      | zero => rfl
      | succ j =>
        have hj : j < l.length := by simpa using hj
        have e : a = nthD l j := by simpa [nthD] using e
        exact absurd (e ▸ nthD_mem hj) h1
    | succ i => cases j with
      | zero =>
        have hi : i < l.length := by simpa using hi
        have e : nthD l i = a := by simpa [nthD] using e
        exact absurd (e ▸ nthD_mem hi) h1
      | succ j =>
        have e : nthD l i = nthD l j := by simpa [nthD] using e
        rw [nthD_inj h2 (by simpa using hi) (by simpa using hj) e]
theorem get_mergeR {n0 base : Nat} {l : List Nat} {s : Nat → Nat} (L : List Row) (hL : ∀ x ∈ L, n0 ≤ x.id) : ∀ (hp : Tr SO) (id : Nat), (mergeR (rho n0 base l) s L hp).get id = if base ≤ id then (match lastL L (n0 + (id - base)) with | some x => some (rowF (rho n0 base l) s x) | none => hp.get id) else hp.get id := by
  induction L with
  | nil => intro hp id; simp [mergeR, lastL]
  | cons x L ih =>
    intro hp id
    have hx := hL x List.mem_cons_self
    rw [mergeR, ih (fun y hy => hL y (List.mem_cons_of_mem _ hy)), Tr.get_put]
    have e : rho n0 base l x.id = base + (x.id - n0) := by unfold rho; rw [if_neg (by omega)]
    rw [e]
    by_cases ha : base ≤ id
    · rw [if_pos ha, if_pos ha, lastL]
      cases hl : lastL L (n0 + (id - base)) with
      | some y => rfl
      | none =>
        simp only
        by_cases q : x.id = n0 + (id - base)
        · rw [if_pos (by omega), if_pos q]
        · rw [if_neg (by omega), if_neg q]
    · rw [if_neg ha, if_neg ha, if_neg (by omega)]
theorem fent_callOk {e : FEnt} {lr ls : List Nat} (hx : FItemOk P ⟨e, lr, ls⟩) (h : HS) (hb : h.bar ≤ h.nx)
    (hI : ∀ x ∈ e.I, ∃ t, h.hp.get (rho e.n0 h.nx lr x.id) = some (.row x.cs.length x.sz t) ∧ ∀ i, i < x.cs.length → t.get i = (rnL (rho e.n0 h.nx lr) (rho e.e0 h.ne ls) x.cs)[i]?)
    (hQ : ∀ ks, e.Q = some ks → h.hp.get (rho e.n0 h.nx lr 0) = some (.ml ks)) :
    Goes h ⟨mergeR (rho e.n0 h.nx lr) (rho e.e0 h.ne ls) e.L h.hp, h.nx + e.n, h.ne + e.m, h.bar⟩ ∧
      CallOk P W0 e.f (rnL (rho e.n0 h.nx lr) (rho e.e0 h.ne ls) e.l) h ⟨mergeR (rho e.n0 h.nx lr) (rho e.e0 h.ne ls) e.L h.hp, h.nx + e.n, h.ne + e.m, h.bar⟩ (rnV (rho e.n0 h.nx lr) (rho e.e0 h.ne ls) e.v) := by
  obtain ⟨he, hfe, hfb⟩ := hx
  have he : FEntOk P e := he
  have hfe : fitE e = true := hfe
  unfold fitE at hfe
  simp only [Bool.and_eq_true] at hfe
  obtain ⟨bQ, bl, bI, bL⟩ := hfe
  have bI : ∀ x ∈ e.I, x.id < e.n0 ∧ bnL e.n0 e.e0 x.cs = true := fun x hx => by
    have := allR_ok bI x hx
    simp only [Bool.and_eq_true] at this
    exact ⟨Nat.le_of_ble_eq_true this.1, this.2⟩
  have bL : ∀ x ∈ e.L, e.n0 ≤ x.id ∧ x.id < e.n0 + e.n := fun x hx => by
    have := allR_ok bL x hx
    simp only [Bool.and_eq_true] at this
    exact ⟨Nat.le_of_ble_eq_true this.1, Nat.le_of_ble_eq_true this.2⟩
  unfold fitB at hfb
  simp only [Bool.and_eq_true] at hfb
  have nod : nodB lr = true := hfb.1
  have hlen : lr.length = e.n0 := Nat.eq_of_beq_eq_true hfb.2
  generalize hρ : rho e.n0 h.nx lr = ρ at hI hQ ⊢
  generalize hσ : rho e.e0 h.ne ls = σ at hI ⊢
  have ρlo : ∀ i, i < e.n0 → ρ i = nthD lr i := fun i hi => by rw [← hρ]; unfold rho; rw [if_pos hi]
  have ρhi : ∀ i, e.n0 ≤ i → ρ i = h.nx + (i - e.n0) := fun i hi => by rw [← hρ]; unfold rho; rw [if_neg (by omega)]
  have σhi : ∀ i, e.e0 ≤ i → σ i = h.ne + (i - e.e0) := fun i hi => by rw [← hσ]; unfold rho; rw [if_neg (by omega)]
  have hget : ∀ id, (mergeR ρ σ e.L h.hp).get id = if h.nx ≤ id then (match lastL e.L (e.n0 + (id - h.nx)) with | some x => some (rowF ρ σ x) | none => h.hp.get id) else h.hp.get id := fun id => by
    rw [← hρ]
    exact get_mergeR e.L (fun x hx => (bL x hx).1) h.hp id
  have hlive : ∀ id o, (mergeR ρ σ e.L h.hp).get id = some o → (∃ x, lastL e.L (e.n0 + (id - h.nx)) = some x ∧ h.nx ≤ id ∧ id < h.nx + e.n ∧ o = rowF ρ σ x) ∨ h.hp.get id = some o := fun id o ho => by
    rw [hget] at ho
    split at ho
    · rename_i q
      split at ho
      · rename_i x hx
        have := (bL x (lastL_mem hx).1).2
        have := (lastL_mem hx).2
        exact .inl ⟨x, hx, q, by omega, (Option.some.inj ho).symm⟩
      · exact .inr ho
    · exact .inr ho
  refine ⟨⟨fun id hid => ?_, rfl, Nat.le_add_right _ _, Nat.le_add_right _ _, fun id o ho => ?_⟩, ?_⟩
  · show (mergeR ρ σ e.L h.hp).get id = _
    rw [hget, if_neg (by omega)]
  · rcases hlive id o ho with ⟨x, _, q1, q2, _⟩ | q
    · exact .inl ⟨q1, q2⟩
    · exact .inr ⟨o, q⟩
  intro E w ul r fe hu R hR
  let E1 : Env := ⟨fun id => if id < e.n0 then E.at_ (ρ id) else none, fun j => if j < e.e0 then E.emp (σ j) else none⟩
  have E1at : ∀ id, id < e.n0 → E.at_ (ρ id) = E1.at_ id := fun id q => by
    show _ = if id < e.n0 then E.at_ (ρ id) else none
    rw [if_pos q]
  have E1emp : ∀ j, j < e.e0 → E.emp (σ j) = E1.emp j := fun j q => by
    show _ = if j < e.e0 then E.emp (σ j) else none
    rw [if_pos q]
  have E1no : ∀ id, e.n0 ≤ id → E1.at_ id = none := fun id q => if_neg (by omega)
  have E1ne : ∀ j, e.e0 ≤ j → E1.emp j = none := fun j q => if_neg (by omega)
  rw [vals_back E1at E1emp e.l bl] at hu
  have gI0 : ∀ id o, gOf e.I id = some o → ∃ x ∈ e.I, x.id = id ∧ o = x.so ∧ id < e.n0 := fun id o ho => by
    unfold gOf at ho
    obtain ⟨x, hx, rfl⟩ := Option.map_eq_some_iff.1 ho
    obtain ⟨q1, q2⟩ := lastL_mem hx
    exact ⟨x, q1, q2, rfl, by rw [← q2]; exact (bI x q1).1⟩
  have gI : ∀ id o, gIn e id = some o → id < e.n0 ∧ ((∃ x ∈ e.I, x.id = id ∧ o = x.so) ∨ (id = 0 ∧ ∃ ks, e.Q = some ks ∧ o = .ml ks)) := fun id o ho => by
    unfold gIn at ho
    split at ho
    · rename_i ks hks
      rw [hks] at bQ
      exact ⟨Nat.le_of_ble_eq_true bQ, .inr ⟨rfl, ks, hks, (Option.some.inj ho).symm⟩⟩
    · obtain ⟨x, q1, q2, q3, q4⟩ := gI0 _ o ho
      exact ⟨q4, .inl ⟨x, q1, q2, q3⟩⟩
  have gH : ∀ id o, gIn e id = some o → ∃ o', h.hp.get (ρ id) = some o' := fun id o ho => by
    obtain ⟨_, q | ⟨rfl, ks, q, _⟩⟩ := gI id o ho
    · obtain ⟨x, hx, rfl, _⟩ := q
      obtain ⟨t, z, _⟩ := hI x hx
      exact ⟨_, z⟩
    · exact ⟨_, hQ ks q⟩
  have r1 : Rel W0 E1 (gIn e) w := by
    refine ⟨r.below, fun id o ho => ?_, fun id id' o o' s s' ho ho' hs hs' hbk => ?_⟩
    · obtain ⟨hlt, ⟨x, hx, rfl, rfl⟩ | ⟨rfl, ks, hks, rfl⟩⟩ := gI id o ho
      · obtain ⟨t, q1, q2⟩ := hI x hx
        obtain ⟨s, z1, z2, c, ty, z3, z4, z5, z6⟩ := r.obj _ _ q1
        refine ⟨s, (E1at _ hlt).symm.trans z1, z2, c, ty, z3, z4, z5, fun i hi => ?_⟩
        obtain ⟨sv, v, k1, k2, k3, k4⟩ := z6 i hi
        rw [q2 i hi, get_rnL] at k1
        obtain ⟨y, hy, rfl⟩ := Option.map_eq_some_iff.1 k1
        refine ⟨y, v, ?_, ?_, k3, k4⟩
        · rw [get_trOf, if_pos ⟨Nat.zero_le _, by omega⟩]
          simpa using hy
        · rw [← val_back E1at E1emp y (bnL_get (bI x hx).2 hy)]
          exact k2
      · obtain ⟨s, z1, z2, z3⟩ := r.obj _ _ (hQ ks hks)
        exact ⟨s, (E1at _ hlt).symm.trans z1, z2, z3⟩
    · obtain ⟨hlt, _⟩ := gI id o ho
      obtain ⟨hlt', _⟩ := gI id' o' ho'
      rw [← E1at _ hlt] at hs
      rw [← E1at _ hlt'] at hs'
      obtain ⟨_, q1⟩ := gH id o ho
      obtain ⟨_, q2⟩ := gH id' o' ho'
      have := r.inj _ _ _ _ s s' q1 q2 hs hs' hbk
      rw [ρlo _ hlt, ρlo _ hlt'] at this
      exact nthD_inj nod (by omega) (by omega) this
  refine he W0 inferInstance E1 w ul r1 E1no E1ne hu R fun E2 v w' k1 r' st => ?_
  let E' : Env := ⟨fun id => if h.nx ≤ id ∧ id < h.nx + e.n then E2.at_ (e.n0 + (id - h.nx)) else E.at_ id, fun j => if h.ne ≤ j ∧ j < h.ne + e.m then E2.emp (e.e0 + (j - h.ne)) else E.emp j⟩
  have at_old : ∀ id s, E.at_ id = some s → E'.at_ id = some s := fun id s q => by
    show (if _ then _ else _) = _
    split
    · rename_i z
      rw [fe.at_ id z.1 z.2] at q
      cases q
    · exact q
  have emp_old : ∀ j p, E.emp j = some p → E'.emp j = some p := fun j p q => by
    show (if _ then _ else _) = _
    split
    · rename_i z
      rw [fe.emp j z.1 z.2] at q
      cases q
    · exact q
  have at_new : ∀ id s, E2.at_ id = some s → E'.at_ (ρ id) = some s := fun id s q => by
    rcases Nat.lt_or_ge id e.n0 with z | z
    · rw [st.dom id (by omega), ← E1at id z] at q
      exact at_old _ _ q
    · have : id < e.n0 + e.n := by
        rcases Nat.lt_or_ge id (e.n0 + e.n) with y | y
        · exact y
        · rw [st.dom id (by omega), E1no id z] at q; cases q
      rw [ρhi id z]
      show (if _ then _ else _) = _
      rw [if_pos ⟨by omega, by omega⟩, show e.n0 + (h.nx + (id - e.n0) - h.nx) = id by omega]
      exact q
  have emp_new : ∀ j p, E2.emp j = some p → E'.emp (σ j) = some p := fun j p q => by
    rcases Nat.lt_or_ge j e.e0 with z | z
    · rw [st.dome j (by omega), ← E1emp j z] at q
      exact emp_old _ _ q
    · have : j < e.e0 + e.m := by
        rcases Nat.lt_or_ge j (e.e0 + e.m) with y | y
        · exact y
        · rw [st.dome j (by omega), E1ne j z] at q; cases q
      rw [σhi j z]
      show (if _ then _ else _) = _
      rw [if_pos ⟨by omega, by omega⟩, show e.e0 + (h.ne + (j - e.e0) - h.ne) = j by omega]
      exact q
  have le : E.le E' := ⟨at_old, emp_old⟩
  have kf : ∀ id s, e.n0 ≤ id → id < e.n0 + e.n → E2.at_ id = some s → w.heap.size ≤ s.blk := fun id s q1 q2 q3 => by
    rcases st.fresh id s q1 q2 q3 with z | ⟨i0, s0, o, z1, z2, _⟩
    · exact z
    · have := (gI i0 o z2).1
      omega
  have keep : ∀ k, k < w.heap.size → w'.heap[k]? = w.heap[k]? := fun k hk => st.touch k hk fun id s o q1 q2 _ _ => by
    have := (gI id o q2).1
    omega
  refine hR E' v w' (val_rn at_new emp_new _ _ k1) ⟨r'.below, fun id o ho => ?_, fun id id' o o' s s' ho ho' hs hs' hbk => ?_⟩ ⟨le, fun id hid => if_neg hid, fun j hj => if_neg hj, st.size, fun k hk _ => keep k hk, fun id s q1 q2 q3 => ?_⟩
  · rcases hlive id o ho with ⟨x, hx, q1, q2, rfl⟩ | q
    · obtain ⟨s, z1, z2, z3⟩ := r'.obj (e.n0 + (id - h.nx)) x.so (by unfold gOf; rw [hx]; rfl)
      have := at_new _ _ z1
      rw [ρhi _ (by omega), show h.nx + (e.n0 + (id - h.nx) - e.n0) = id by omega] at this
      refine ⟨s, this, z2, ?_⟩
      obtain ⟨c, ty, h1, h2, h3, h4⟩ := z3
      refine ⟨c, ty, h1, h2, h3, fun i hi => ?_⟩
      obtain ⟨sv, u, k1, k2, k3, k4⟩ := h4 i hi
      refine ⟨rnV ρ σ sv, u, ?_, val_rn at_new emp_new sv u k2, k3, k4⟩
      rw [get_trOf] at k1 ⊢
      rw [length_rnL]
      by_cases q : 0 ≤ i ∧ i < 0 + x.cs.length
      · rw [if_pos q] at k1 ⊢
        rw [get_rnL, k1]
        rfl
      · exact absurd ⟨Nat.zero_le _, by omega⟩ q
    · obtain ⟨s, z1, z2, z3⟩ := r.obj id o q
      exact ⟨s, at_old _ _ z1, z2, (z3.of_heap (keep _ z3.lt)).le le⟩
  · have newS : ∀ id s (x : Row), lastL e.L (e.n0 + (id - h.nx)) = some x → h.nx ≤ id → id < h.nx + e.n → E'.at_ id = some s → E2.at_ (e.n0 + (id - h.nx)) = some s := fun id s x hx q1 q2 q3 => by
      have q3 : (if h.nx ≤ id ∧ id < h.nx + e.n then E2.at_ (e.n0 + (id - h.nx)) else E.at_ id) = some s := q3
      rwa [if_pos ⟨q1, q2⟩] at q3
    have oldS : ∀ id o s, h.hp.get id = some o → E'.at_ id = some s → E.at_ id = some s ∧ s.blk < w.heap.size := fun id o s q q3 => by
      obtain ⟨t, z1, _, z3⟩ := r.obj id o q
      have := at_old _ _ z1
      rw [this] at q3
      obtain rfl := Option.some.inj q3
      exact ⟨z1, z3.lt⟩
    rcases hlive id o ho with ⟨x, hx, q1, q2, rfl⟩ | q
    · have a1 := newS id s x hx q1 q2 hs
      rcases hlive id' o' ho' with ⟨y, hy, p1, p2, rfl⟩ | p
      · have a2 := newS id' s' y hy p1 p2 hs'
        have := r'.inj (e.n0 + (id - h.nx)) (e.n0 + (id' - h.nx)) x.so y.so s s' (by unfold gOf; rw [hx]; rfl) (by unfold gOf; rw [hy]; rfl) a1 a2 hbk
        omega
      · obtain ⟨_, p3⟩ := oldS id' _ s' p hs'
        have := kf _ _ (by omega) (by omega) a1
        omega
    · obtain ⟨b1, b2⟩ := oldS id _ s q hs
      rcases hlive id' o' ho' with ⟨y, hy, p1, p2, rfl⟩ | p
      · have a2 := newS id' s' y hy p1 p2 hs'
        have := kf _ _ (by omega) (by omega) a2
        omega
      · obtain ⟨c1, c2⟩ := oldS id' _ s' p hs'
        exact r.inj id id' o o' s s' q p b1 c1 hbk
  · have q3 : (if h.nx ≤ id ∧ id < h.nx + e.n then E2.at_ (e.n0 + (id - h.nx)) else E.at_ id) = some s := q3
    rw [if_pos ⟨q1, q2⟩] at q3
    have q2 : id < h.nx + e.n := q2
    exact .inl (kf _ _ (by omega) (by omega) q3)

/-! ### the table at work -/
noncomputable def rowsF (rk sk : Nat → (Nat → Bool) → Bool) (hp : Tr SO) (I : List Row) : Bool := List.rec true (fun y _ ih => rk y.id fun id => getQ hp id fun so => asRowO so fun n sz t => rnKL rk sk y.cs fun cs => bif Nat.beq n y.cs.length && (Nat.beq sz y.sz && cellsB t cs 0) then ih else false) I
noncomputable def mergeF (rk sk : Nat → (Nat → Bool) → Bool) (L : List Row) : Tr SO → (Tr SO → Bool) → Bool := List.rec (fun hp k => k hp) (fun y _ ih hp k => rk y.id fun id => rnKL rk sk y.cs fun cs => natK y.cs.length fun n => trOfK cs 0 .e fun t => hp.putK id (some (.row n y.sz t)) fun hp' => ih hp' k) L
section
variable {rk sk : Nat → (Nat → Bool) → Bool} {r s : Nat → Nat} (hr : ∀ i k, rk i k = k (r i)) (hs : ∀ i k, sk i k = k (s i))
include hr hs
theorem rowsF_ok {hp : Tr SO} {I : List Row} (h : rowsF rk sk hp I = true) : ∀ x ∈ I, ∃ t, hp.get (r x.id) = some (.row x.cs.length x.sz t) ∧ ∀ i, i < x.cs.length → t.get i = (rnL r s x.cs)[i]? := by
  induction I with
  | nil => intro x hx; cases hx
  | cons y l ih =>
    have h : (rk y.id fun id => getQ hp id fun so => asRowO so fun n sz t => rnKL rk sk y.cs fun cs => bif Nat.beq n y.cs.length && (Nat.beq sz y.sz && cellsB t cs 0) then rowsF rk sk hp l else false) = true := h
    rw [hr, getQ_eq] at h
    split at h
    case h_2 => cases h
    rename_i so hso
    obtain ⟨n, sz, t, rfl, h2⟩ := asRowO_ok h
    rw [rnKL_eq hr hs] at h2
    obtain ⟨h3, h4⟩ := bif_true h2
    simp only [Bool.and_eq_true] at h3
    obtain ⟨z1, z2, z3⟩ := h3
    intro x hx
    rcases List.mem_cons.1 hx with e | e
    · subst e
      refine ⟨t, by rw [hso, Nat.eq_of_beq_eq_true z1, Nat.eq_of_beq_eq_true z2], fun i hi => ?_⟩
      have := cellsB_ok z3 i (by rw [length_rnL]; exact hi)
      rw [Nat.zero_add] at this
      exact this
    · exact ih h4 x e
theorem mergeF_eq (L : List Row) : ∀ (hp : Tr SO) (k : Tr SO → Bool), mergeF rk sk L hp k = k (mergeR r s L hp) := by
  induction L with
  | nil => intro hp k; rfl
  | cons x l ih =>
    intro hp k
    show (rk x.id fun id => rnKL rk sk x.cs fun cs => natK x.cs.length fun n => trOfK cs 0 .e fun t => hp.putK id (some (.row n x.sz t)) fun hp' => mergeF rk sk l hp' k) = _
    rw [hr, rnKL_eq hr hs, natK_eq, trOfK_eq, Tr.putK_eq, ih]
    rfl
end
noncomputable def eqZ (a : List Int) : List Int → Bool := List.rec (fun b => List.rec true (fun _ _ _ => false) b) (fun x _ ih b => List.rec false (fun y r _ => bif eqI x y then ih r else false) b) a
theorem eqZ_ok : ∀ {a b : List Int}, eqZ a b = true → a = b
  | [], [], _ => rfl
  | [], _ :: _, h => by cases h
  | _ :: _, [], h => by cases h
  | x :: r, y :: s, h => by
    obtain ⟨h1, h2⟩ := bif_true (show (bif eqI x y then eqZ r s else false) = true from h)
    rw [eqI_eq, decide_eq_true_eq] at h1
    rw [h1, eqZ_ok h2]
noncomputable def setF (rk : Nat → (Nat → Bool) → Bool) (hp : Tr SO) (q : Option (List Int)) : Bool := Option.rec true (fun ks => rk 0 fun id => getQ hp id fun so => SO.rec (fun _ _ _ => false) (fun _ _ => false) (fun _ _ _ _ _ _ _ _ => false) false (fun ks' => eqZ ks' ks) so) q
theorem setF_ok {rk : Nat → (Nat → Bool) → Bool} {r : Nat → Nat} (hr : ∀ i k, rk i k = k (r i)) {hp : Tr SO} {q : Option (List Int)} (h : setF rk hp q = true) : ∀ ks, q = some ks → hp.get (r 0) = some (.ml ks) := by
  rintro ks rfl
  have h : (rk 0 fun id => getQ hp id fun so => SO.rec (fun _ _ _ => false) (fun _ _ => false) (fun _ _ _ _ _ _ _ _ => false) false (fun ks' => eqZ ks' ks) so) = true := h
  rw [hr, getQ_eq] at h
  split at h
  case h_2 => cases h
  rename_i so hso
  cases so with
  | ml ks' => rw [hso, eqZ_ok (show eqZ ks' ks = true from h)]
  | row => cases h
  | mp => cases h
  | lp => cases h
  | df => cases h
noncomputable def itK (x : FItem) (l : List SV) (h : HS) (k : SV → HS → Bool) (d : Bool) : Bool :=
  rnKL (rhoK x.e.n0 h.nx x.r) (rhoK x.e.e0 h.ne x.s) x.e.l fun l' => Bool.rec d (Bool.rec d
    (mergeF (rhoK x.e.n0 h.nx x.r) (rhoK x.e.e0 h.ne x.s) x.e.L h.hp fun hp' => rnK (rhoK x.e.n0 h.nx x.r) (rhoK x.e.e0 h.ne x.s) x.e.v fun v' => natK (Nat.add h.nx x.e.n) fun nx' => natK (Nat.add h.ne x.e.m) fun ne' => k v' ⟨hp', nx', ne', h.bar⟩)
    (rowsF (rhoK x.e.n0 h.nx x.r) (rhoK x.e.e0 h.ne x.s) h.hp x.e.I && (Nat.ble h.bar h.nx && setF (rhoK x.e.n0 h.nx x.r) h.hp x.e.Q))) (slEq l' l)
theorem itK_ok {x : FItem} (hx : FItemOk P x) {l : List SV} {h : HS} {k : SV → HS → Bool} {d : Bool} (hk : itK x l h k d = true) : d = true ∨ ∃ sv h', k sv h' = true ∧ Goes h h' ∧ CallOk P W0 x.e.f l h h' sv := by
  obtain ⟨e, r, s⟩ := x
  unfold itK at hk
  have hr := rhoK_eq e.n0 h.nx r
  have hs := rhoK_eq e.e0 h.ne s
  rw [rnKL_eq hr hs] at hk
  cases e1 : slEq (rnL (rho e.n0 h.nx r) (rho e.e0 h.ne s) e.l) l with
  | false => rw [e1] at hk; exact .inl hk
  | true =>
    rw [e1] at hk
    have hl := slEq_ok _ _ e1
    cases e2 : (rowsF (rhoK e.n0 h.nx r) (rhoK e.e0 h.ne s) h.hp e.I && (Nat.ble h.bar h.nx && setF (rhoK e.n0 h.nx r) h.hp e.Q)) with
    | false => rw [e2] at hk; exact .inl hk
    | true =>
      rw [e2] at hk
      simp only [Bool.and_eq_true] at e2
      have hk : (mergeF (rhoK e.n0 h.nx r) (rhoK e.e0 h.ne s) e.L h.hp fun hp' => rnK (rhoK e.n0 h.nx r) (rhoK e.e0 h.ne s) e.v fun v' => natK (Nat.add h.nx e.n) fun nx' => natK (Nat.add h.ne e.m) fun ne' => k v' ⟨hp', nx', ne', h.bar⟩) = true := hk
      rw [mergeF_eq hr hs, rnK_eq hr hs, natK_eq, natK_eq] at hk
      obtain ⟨g, c⟩ := fent_callOk (W0 := W0) hx h (Nat.le_of_ble_eq_true e2.2.1) (rowsF_ok hr hs e2.1) (setF_ok hr e2.2.2)
      rw [hl] at c
      exact .inr ⟨_, _, hk, g, c⟩
abbrev Tab2 := List FItem
def Tab2Ok (P : Program) (T : Tab2) : Prop := ∀ x ∈ T, FItemOk P x
/-- The entries of one function. -/
noncomputable def tabF (T : Tab2) (f : FuncId) : Cl (List SV → HS → (SV → HS → Bool) → Bool → Bool) :=
  List.rec ⟨fun _ _ _ d => d⟩ (fun x _ ih => Bool.rec ih (ih.then fun g => ⟨fun l h k d => itK x l h k (g l h k d)⟩) (Nat.beq f x.e.f)) T
theorem tabF_ok {T : Tab2} (hT : Tab2Ok P T) {f : FuncId} {l : List SV} {h : HS} {k : SV → HS → Bool} {d : Bool} (hk : (tabF T f).f l h k d = true) : d = true ∨ ∃ sv h', k sv h' = true ∧ Goes h h' ∧ CallOk P W0 f l h h' sv := by
  induction T with
  | nil => exact .inl hk
  | cons x T ih =>
    have ih := ih fun y hy => hT y (List.mem_cons_of_mem _ hy)
    have hk : (Bool.rec (tabF T f) ((tabF T f).then fun g => ⟨fun l h k d => itK x l h k (g l h k d)⟩) (Nat.beq f x.e.f) : Cl (List SV → HS → (SV → HS → Bool) → Bool → Bool)).f l h k d = true := hk
    cases e : Nat.beq f x.e.f with
    | false => rw [e] at hk; exact ih hk
    | true =>
      rw [e] at hk
      have hk : ((tabF T f).then fun g => (⟨fun l h k d => itK x l h k (g l h k d)⟩ : Cl (List SV → HS → (SV → HS → Bool) → Bool → Bool))).f l h k d = true := hk
      rw [Cl.then_eq] at hk
      obtain rfl := Nat.eq_of_beq_eq_true e
      rcases itK_ok (W0 := W0) (hT x List.mem_cons_self) hk with q | q
      · exact ih q
      · exact .inr q
noncomputable def fnT (P : Program) (M : Nat) (T2 : Tab2) (f : FuncId) : Cl (CallK → Nat → List SV → HS → (SV → HS → Bool) → Bool) := (tabF T2 f).then fun t => (fnC P M f).then fun g => ⟨fun call F l h k => t l h k (g call F l h k)⟩
noncomputable def evTgtF (P : Program) (M F : Nat) (T : Tab) (T2 : Tab2) (d : Nat) : CallK := Nat.rec (fun _ _ _ _ => false) (fun _ ih t l h k => Tgt.rec (fun f => tabK T f l (fun e => entK e h k) ((fnT P M T2 f).f ih F l h k)) (fun id => ylK P ih F id l h k) t) d
noncomputable def evCallF (P : Program) (M F : Nat) (T : Tab) (T2 : Tab2) (d : Nat) (f : FuncId) : List SV → HS → (SV → HS → Bool) → Bool := evTgtF P M F T T2 d (.fn f)
theorem evTgtF_ok {M F : Nat} {T : Tab} {T2 : Tab2} (hT : TabOk P T) (hT2 : Tab2Ok P T2) (hm : P.follows .mixedOrders = true) (hf : FnsOk P M) (d : Nat) : CallSound P W0 (evTgtF P M F T T2 d) := by
  induction d with
  | zero => intro t l h k hk; cases hk
  | succ d ih =>
    intro t l h k hk
    cases t with
    | fn f =>
      rcases tabK_ok (show tabK T f l (fun e => entK e h k) ((fnT P M T2 f).f (evTgtF P M F T T2 d) F l h k) = true from hk) with q | ⟨x, hx, rfl, rfl, q⟩
      · unfold fnT at q
        rw [Cl.then_eq, Cl.then_eq] at q
        rcases tabF_ok (W0 := W0) hT2 q with q | q
        · exact fnC_ok hm hf ih f l h k q
        · exact q
      · exact entK_ok (hT x hx) q
    | yl id => exact ylK_ok hm ih hk
theorem evCallF_ok {M F : Nat} {T : Tab} {T2 : Tab2} (hT : TabOk P T) (hT2 : Tab2Ok P T2) (hm : P.follows .mixedOrders = true) (hf : FnsOk P M) (d : Nat) (f : FuncId) (l : List SV) (h : HS) (k : SV → HS → Bool) (hk : evCallF P M F T T2 d f l h k = true) : ∃ sv h', k sv h' = true ∧ Goes h h' ∧ CallOk P W0 f l h h' sv :=
  evTgtF_ok hT hT2 hm hf d (.fn f) l h k hk

/-! ### entries that were run -/
noncomputable def inP : List Row → Tr SO → Tr SO
  | [], hp => hp
  | x :: r, hp => inP r (hp.put x.id (some x.so))
noncomputable def inK (L : List Row) : Tr SO → (Tr SO → Bool) → Bool := List.rec (fun hp k => k hp) (fun x _ ih hp k => natK x.cs.length fun n => trOfK x.cs 0 .e fun t => hp.putK x.id (some (.row n x.sz t)) fun hp' => ih hp' k) L
theorem inK_eq (L : List Row) : ∀ (hp : Tr SO) (k : Tr SO → Bool), inK L hp k = k (inP L hp) := by
  induction L with
  | nil => intro hp k; rfl
  | cons x r ih =>
    intro hp k
    show (natK x.cs.length fun n => trOfK x.cs 0 .e fun t => hp.putK x.id (some (.row n x.sz t)) fun hp' => inK r hp' k) = _
    rw [natK_eq, trOfK_eq, Tr.putK_eq, ih]
    rfl
theorem get_inP (L : List Row) : ∀ (hp : Tr SO) (id : Nat), (inP L hp).get id = match lastL L id with | some x => some x.so | none => hp.get id := by
  induction L with
  | nil => intro hp id; rfl
  | cons x L ih =>
    intro hp id
    rw [inP, ih, lastL, Tr.get_put]
    cases hl : lastL L id with
    | some y => rfl
    | none =>
      simp only
      by_cases q : x.id = id
      · rw [if_pos q.symm, if_pos q]
      · rw [if_neg (fun h => q h.symm), if_neg q]
noncomputable def fentB (e : FEnt) (sv : SV) (h : HS) : Bool := bif svEq sv e.v then (bif Nat.beq h.nx (e.n0 + e.n) && Nat.beq h.ne (e.e0 + e.m) then rowsB h.hp e.L else false) else false
/-- The run of an entry, from its own rows. -/
noncomputable def evEnt (P : Program) (M F : Nat) (T : Tab) (T2 : Tab2) (d : Nat) (e : FEnt) : Bool := inK e.I .e fun hp => evCallF P M F T T2 d e.f e.l ⟨hp, e.n0, e.e0, e.n0⟩ fun sv h => fentB e sv h
theorem fent_of_ev {M F d : Nat} {T : Tab} {T2 : Tab2} (hT : TabOk P T) (hT2 : Tab2Ok P T2) (hm : P.follows .mixedOrders = true) (hf : FnsOk P M) {e : FEnt} (hQ : e.Q = none) (h : evEnt P M F T T2 d e = true) : FEntOk P e := by
  intro W0 hG E w vl r hn he hv R hR
  rw [gIn_none hQ] at r
  rw [gIn_none hQ] at hR
  unfold evEnt at h
  rw [inK_eq] at h
  obtain ⟨sv, h', hb, g, c⟩ := evCallF_ok (W0 := W0) hT hT2 hm hf d _ _ _ _ h
  obtain ⟨b1, b2⟩ := bif_true hb
  obtain ⟨b2, b3⟩ := bif_true b2
  simp only [Bool.and_eq_true] at b2
  have hv1 := svEq_ok _ _ b1
  have hn1 : h'.nx = e.n0 + e.n := Nat.eq_of_beq_eq_true b2.1
  have hm1 : h'.ne = e.e0 + e.m := Nat.eq_of_beq_eq_true b2.2
  subst hv1
  have hin : (inP e.I .e).get = gOf e.I := by
    funext id
    rw [get_inP]
    unfold gOf
    cases lastL e.I id <;> rfl
  refine c E w vl (by show Rel W0 E (inP e.I .e).get w; rw [hin]; exact r) ⟨fun id q _ => hn id q, fun j q _ => he j q⟩ hv R fun E1 v w' k1 r' st => ?_
  have st : Step e.n0 (inP e.I .e).get e.n0 h'.nx e.e0 h'.ne E E1 w w' := st
  rw [hin, hn1, hm1] at st
  refine hR E1 v w' k1 ⟨r'.below, fun j o ho => ?_, fun j j' o o' s s' ho ho' hs hs' hbk => ?_⟩ st
  · unfold gOf at ho
    obtain ⟨x, hx, rfl⟩ := Option.map_eq_some_iff.1 ho
    obtain ⟨q1, q2⟩ := lastL_mem hx
    obtain ⟨t, z1, z2⟩ := rowsB_ok b3 x q1
    rw [q2] at z1
    obtain ⟨s, y1, y2, y3⟩ := r'.obj j _ z1
    exact ⟨s, y1, y2, objOk_same z2 y3⟩
  · unfold gOf at ho ho'
    obtain ⟨x, hx, rfl⟩ := Option.map_eq_some_iff.1 ho
    obtain ⟨y, hy, rfl⟩ := Option.map_eq_some_iff.1 ho'
    obtain ⟨q1, q2⟩ := lastL_mem hx
    obtain ⟨p1, p2⟩ := lastL_mem hy
    obtain ⟨t, z1, _⟩ := rowsB_ok b3 x q1
    obtain ⟨u, z2, _⟩ := rowsB_ok b3 y p1
    rw [q2] at z1
    rw [p2] at z2
    exact r'.inj j j' _ _ s s' z1 z2 hs hs' hbk
/-- A closed call, from the start, with such entries. -/
theorem calls_of_evF {M F d : Nat} {T : Tab} {T2 : Tab2} (hT : TabOk P T) (hT2 : Tab2Ok P T2) (hm : P.follows .mixedOrders = true) (hf : FnsOk P M) {f : FuncId} {l : List SV} {vl : List Value} (hl : flats l = some vl) {q : SV → Bool} {v : Value} (hq : ∀ sv, q sv = true → flat sv = some v)
    (h : evCallF P M F T T2 d f l ⟨.e, 0, 0, 0⟩ (fun sv _ => q sv) = true) (w : World) (hG : GOk w) : Calls P f vl.toArray w fun e w' => e = .returned v ∧ Below w.heap.size w w' := by
  obtain ⟨sv, h', k1, g, ok⟩ := evCallF_ok (W0 := w) hT hT2 hm hf d f l _ _ h
  let E : Env := ⟨fun _ => none, fun _ => none⟩
  refine ok E w vl ⟨⟨rfl, rfl, rfl, Nat.le_refl _, fun _ _ => rfl⟩, fun id o e => (by cases e), fun id id' o o' s s' e => (by cases e)⟩ ⟨fun _ _ _ => rfl, fun _ _ _ => rfl⟩ (vals_of_flats E l vl hl) _ fun E' v' w' e1 r' _ => ?_
  have := val_of_flat E' sv v (hq sv k1)
  rw [e1] at this
  obtain rfl := Option.some.inj this
  exact ⟨rfl, r'.below⟩
end Go.Proofs.YtbkgehknhjkaoaaGreatDoor.Ev
