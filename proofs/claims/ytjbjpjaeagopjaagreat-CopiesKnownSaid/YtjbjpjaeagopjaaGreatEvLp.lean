/- A range over a function: the loop's record, and the statement itself. -/
import Derived.Test.YtjbjpjaeagopjaaGreatEvMark
import Derived.RangeFuncIn
set_option linter.unusedSimpArgs false
set_option linter.unusedVariables false
set_option linter.unusedSectionVars false
namespace Go.Proofs.YtjbjpjaeagopjaaGreat.Ev
open Go Go.RowKit

variable [GTab] {P : Program} {W0 : World} [GOk W0]
inductive X where
  | normal
  | exit (id : Nat)
  | ret
def X.to : X → Exit
  | .normal => .normal
  | .exit id => .exit id
  | .ret => .ret
abbrev KX := X → Tr SV → HS → Bool
abbrev CodeF := CallK → Nat → Tr SV → HS → KX → Bool
/-- The frame says what the full frame says of the slots that are kept. -/
def Ag (K : Nat) (fr frT : Tr SV) : Prop := ∀ t, Nat.testBit K t = true → opd fr (.tmp t) = opd frT (.tmp t)
theorem opd_ag {K : Nat} {fr frT : Tr SV} (ag : Ag K fr frT) {c : Operand} (h : resolved K [] [] c = true) : opd fr c = opd frT c := by
  cases c with
  | tmp t => exact ag t (by simpa [resolved, idx, alias] using h)
  | const v => cases v <;> rfl
  | global g => rfl
  | func f => rfl
/-! ### the record -/
noncomputable def asLp (so : SO) (k : LoopState → Option Code → Tr SV → Nat → Array Tmp → Code → Code → Nat → Bool) : Bool :=
  SO.rec (fun _ _ _ => false) (fun _ _ => false) (fun st pend fr N ps as bd D => k st pend fr N ps as bd D) false so
theorem asLp_ok {so : SO} {k : LoopState → Option Code → Tr SV → Nat → Array Tmp → Code → Code → Nat → Bool} (h : asLp so k = true) : ∃ st pend fr N ps as bd D, so = .lp st pend fr N ps as bd D ∧ k st pend fr N ps as bd D = true := by
  cases so with
  | lp st pend fr N ps as bd D => exact ⟨_, _, _, _, _, _, _, _, rfl, h⟩
  | row => cases h
  | mp => cases h
  | df => cases h
noncomputable def isReady (st : LoopState) : Bool := LoopState.rec (motive := fun _ => Bool) true false false false st
noncomputable def notBusy (st : LoopState) : Bool := LoopState.rec (motive := fun _ => Bool) true false true true st
theorem isReady_ok {st : LoopState} (h : isReady st = true) : st = .ready := by cases st <;> first | rfl | cases h
theorem notBusy_ok {st : LoopState} (h : notBusy st = true) : st ≠ .busy := by cases st <;> first | (intro e; cases e; done) | cases h
noncomputable def jumpK (p : Option Code) (k : X → Bool) : Bool :=
  Option.rec (k .normal) (fun c => Code.rec (motive := fun _ => Bool) false (fun _ _ _ => false) (fun _ _ _ _ => false) (fun _ _ _ _ _ => false) (fun _ _ _ => false) (fun _ _ => false) (fun _ _ _ _ _ _ => false) (fun id => k (.exit id)) (fun _ _ => false) (fun _ => false) (fun _ => false) (k .ret) (fun _ => false) c) p
theorem jumpK_ok {p : Option Code} {k : X → Bool} (h : jumpK p k = true) : (p = none ∧ k .normal = true) ∨ (∃ id, p = some (.exit id) ∧ k (.exit id) = true) ∨ (p = some .ret ∧ k .ret = true) := by
  cases p with
  | none => exact .inl ⟨rfl, h⟩
  | some c =>
    cases c with
    | exit id => exact .inr (.inl ⟨id, rfl, h⟩)
    | ret => exact .inr (.inr ⟨rfl, h⟩)
    | skip => cases h
    | region _ _ _ => cases h
    | seq _ _ => cases h
    | cond _ _ _ => cases h
    | block _ _ => cases h
    | loop _ => cases h
    | rangeFunc _ _ _ _ => cases h
    | scope _ => cases h
    | label _ => cases h
    | goto _ => cases h
    | refuse _ => cases h
theorem Rel.setLp {E : Env} {g : Tr SO} {w : World} (r : Rel W0 E g.get w) {id : Nat} {st st' : LoopState} {pend pend' : Option Code} {fr : Tr SV} {N : Nat} {ps : Array Tmp} {as bd : Code} {D : Nat} {s sD : Spot} {fn : FuncId} {tmps : Array Value}
    (h : g.get id = some (.lp st pend fr N ps as bd D)) (hs : E.at_ id = some s) (hw : w.heap[s.blk]? = some (.loop { state := st, pending := pend, fn, tmps, params := ps, assign := as, body := bd, defers := sD.blk }))
    (hD : E.at_ D = some sD) (ht : TmpsOk E fr N tmps) :
    Rel W0 E (g.put id (some (.lp st' pend' fr N ps as bd D))).get (w.putObj s.blk (.loop { state := st', pending := pend', fn, tmps, params := ps, assign := as, body := bd, defers := sD.blk })) :=
  r.upd (o' := .lp st' pend' fr N ps as bd D) h hs rfl rfl rfl (by simp) (fun j hj => World.putObj_heap_other hj) ⟨fn, tmps, sD, World.putObj_heap_same (Array.getElem?_eq_some_iff.1 hw).1, hD, ht⟩ (fun j => Tr.get_put _ _ _ _)
theorem Goes.take {h : HS} {id : Nat} (hb : h.bar ≤ id) : Goes h ⟨h.hp.put id none, h.nx, h.ne, h.bar⟩ := by
  refine ⟨fun j hj => ?_, rfl, Nat.le_refl _, Nat.le_refl _, fun j x e => ?_⟩
  · show (h.hp.put id none).get j = _
    rw [Tr.get_put, if_neg (by omega)]
  · have e : (h.hp.put id none).get j = some x := e
    rw [Tr.get_put] at e
    by_cases hj : j = id
    · rw [if_pos hj] at e; cases e
    · rw [if_neg hj] at e; exact .inr ⟨x, e⟩
/-! ### the statement -/
noncomputable def asMk (s : SV) (k : List Nat → Bool) : Bool := asMks s k (k [])
theorem asMk_ok {s : SV} {k : List Nat → Bool} (h : asMk s k = true) : ∃ l, k l = true ∧ ∀ E ds, DefOk E s ds → Marks E l ds := by
  rcases asMks_ok h with ⟨l, rfl, q⟩ | ⟨e, q⟩
  · exact ⟨l, q, fun E ds hd => hd⟩
  · refine ⟨[], q, fun E ds hd => ?_⟩
    unfold DefOk at hd
    split at hd
    · rename_i l; exact absurd rfl (e l)
    · exact hd
/-- All slots up to the place N. -/
noncomputable def fullM (N : Nat) : Nat := Nat.sub (Nat.shiftLeft 1 (Nat.succ N)) 1
theorem fullM_bit (N t : Nat) : Nat.testBit (fullM N) t = decide (t ≤ N) := by
  have : fullM N = 2 ^ (N + 1) - 1 := by
    unfold fullM
    show 1 <<< (N + 1) - 1 = _
    rw [Nat.one_shiftLeft]
  rw [this, Nat.testBit_two_pow_sub_one]
  exact decide_eq_decide.2 (by omega)
theorem full_of {K N : Nat} (h : Nat.beq (Nat.land K (fullM N)) (fullM N) = true) {t : Nat} (ht : t ≤ N) : Nat.testBit K t = true := by
  have e : K &&& fullM N = fullM N := Nat.eq_of_beq_eq_true h
  have := congrArg (fun x => Nat.testBit x t) e
  simp only [Nat.testBit_and, fullM_bit, decide_eq_true ht, Bool.and_true] at this
  exact this
noncomputable def clRange (P : Program) (N K : Nat) (g : Operand) (ps : Array Tmp) (assign body : Code) : Cl CodeF :=
  bif resolved K [] [] g && Nat.beq (Nat.land K (fullM N)) (fullM N) then (opdC g).then fun gg => paC N fun pN =>
    ⟨fun call F fr h k => gg fr fun fv => match fnOf fv with
      | some (.func f, first, cap) => bif fineFn P f && Nat.ble h.bar h.nx then newK h .df fun h1 => newK h1 (.lp .ready none fr N ps assign body h.nx) fun h2 =>
          listK (first ++ (.yld h1.nx :: cap)) fun l => call (.fn f) l h2 fun _ h3 => getQ h3.hp h1.nx fun so => asLp so fun st pend _ _ _ _ _ _ =>
            bif notBusy st then h3.hp.putK h1.nx none fun hp4 => getP fr pN fun mk => asMk mk fun l => putP fr pN (.mks (h.nx :: l)) fun fr' => jumpK pend fun x => k x fr' ⟨hp4, h3.nx, h3.ne, h3.bar⟩ else false
        else false
      | _ => false⟩
  else ⟨fun _ _ _ _ _ => false⟩
theorem clRange_ok {call : CallK} (hc : CallSound P W0 call) {N K F : Nat} {g : Operand} {ps : Array Tmp} {assign body : Code} {fr frT : Tr SV} {h : HS} {k : KX} (ag : Ag K fr frT) (hk : (clRange P N K g ps assign body).f call F fr h k = true) :
    ∃ x fr' frT' h', k x fr' h' = true ∧ Ag K fr' frT' ∧ Goes h h' ∧ ∀ E a w, Rel W0 E h.hp.get w → Free E h.nx h'.nx h.ne h'.ne → FrOk E frT N a → ∀ Q : Exit → Act → World → Prop,
      (∀ E' a' w', Rel W0 E' h'.hp.get w' → Step h.bar h.hp.get h.nx h'.nx h.ne h'.ne E E' w w' → FrOk E' frT' N a' → Q x.to a' w') → (Code.rangeFunc g ps assign body).wpIn (Fw none) 0 P Q a w := by
  unfold clRange at hk
  cases hr : (resolved K [] [] g && Nat.beq (Nat.land K (fullM N)) (fullM N)) with
  | false => rw [hr] at hk; cases hk
  | true =>
  rw [hr, cond_true] at hk
  simp only [Bool.and_eq_true] at hr
  obtain ⟨hr, hN⟩ := hr
  simp only [Cl.then_eq, paC_eq, opdC_at] at hk
  split at hk
  case h_2 => cases hk
  rename_i f first cap hfv
  obtain ⟨h1, hk⟩ := bif_true hk
  simp only [Bool.and_eq_true] at h1
  obtain ⟨hfine, hb⟩ := h1
  have hb := Nat.le_of_ble_eq_true hb
  rw [newK_eq, newK_eq, listK_eq] at hk
  obtain ⟨sv, h3, hk, g3, ok3⟩ := hc _ _ _ _ hk
  obtain ⟨h3hp, h3nx, h3ne, h3bar⟩ := h3
  simp only at hk
  rw [getQ_eq] at hk
  split at hk
  case h_2 => cases hk
  rename_i so hso
  obtain ⟨st, pend, fr2, N2, ps2, as2, bd2, D2, rfl, hk⟩ := asLp_ok hk
  obtain ⟨hst, hk⟩ := bif_true hk
  have hst := notBusy_ok hst
  rw [Tr.putK_eq, getP_eq, opdK_eq] at hk
  obtain ⟨l, hk, hmk⟩ := asMk_ok hk
  rw [putP_eq, Tr.putK_eq] at hk
  -- how the objects go on
  let h1 : HS := ⟨h.hp.put h.nx (some .df), h.nx + 1, h.ne, h.bar⟩
  let h2 : HS := ⟨h1.hp.put h1.nx (some (.lp .ready none fr N ps assign body h.nx)), h1.nx + 1, h1.ne, h1.bar⟩
  let h4 : HS := ⟨h3hp.put (h.nx + 1) none, h3nx, h3ne, h3bar⟩
  have e3b : h3bar = h.bar := g3.bar
  have G1 : Goes h h1 := Goes.new h hb _
  have G2 : Goes h1 h2 := Goes.new h1 (show h.bar ≤ h.nx + 1 by omega) _
  have G3 : Goes h2 ⟨h3hp, h3nx, h3ne, h3bar⟩ := g3
  have G4 : Goes ⟨h3hp, h3nx, h3ne, h3bar⟩ h4 := Goes.take (h := ⟨h3hp, h3nx, h3ne, h3bar⟩) (id := h.nx + 1) (show h3bar ≤ h.nx + 1 by omega)
  have ag' : Ag K (fr.put N (some (.mks (h.nx :: l)))) (frT.put N (some (.mks (h.nx :: l)))) := fun t ht => by
    have := ag t ht
    simp only [opd] at this ⊢
    rw [Tr.get_put, Tr.get_put]
    split
    · rfl
    · exact this
  have n3 : h.nx + 1 + 1 ≤ h3nx := G3.nx
  have m3 : h.ne ≤ h3ne := G3.ne
  have fin : ∀ x, (pend = none ∧ x = X.normal ∨ (∃ id, pend = some (.exit id) ∧ x = .exit id) ∨ pend = some .ret ∧ x = .ret) → ∀ E a w, Rel W0 E h.hp.get w → Free E h.nx h4.nx h.ne h4.ne → FrOk E frT N a → ∀ Q : Exit → Act → World → Prop,
      (∀ E' a' w', Rel W0 E' h4.hp.get w' → Step h.bar h.hp.get h.nx h4.nx h.ne h4.ne E E' w w' → FrOk E' (frT.put N (some (.mks (h.nx :: l)))) N a' → Q x.to a' w') → (Code.rangeFunc g ps assign body).wpIn (Fw none) 0 P Q a w := by
    intro x hx E a w r fe fo Q hQ
    refine wpIn_rangeFunc fun fn _ => ?_
    have eg := opd_ok fo g
    rw [← opd_ag ag hr] at eg
    obtain ⟨u, v, hu, hv, eg⟩ := fnOf_ok hfv eg
    -- the two blocks
    have fe : Free E h.nx h3nx h.ne h3ne := fe
    obtain ⟨S1, R1⟩ := new_rel (cap := 0) r (fe.left (nx1 := h.nx + 1) (ne1 := h.ne) (by omega) m3) (so := .df) (ob := .deferred (some [])) (fun w' hw' => hw')
    have f1 : Free (E.more h.nx ⟨w.heap.size, 0, 0⟩) h1.nx h3nx h1.ne h3ne := fe.right S1 (Nat.le_succ _) (Nat.le_refl _)
    generalize hE1 : E.more h.nx ⟨w.heap.size, 0, 0⟩ = E1 at S1 R1 f1
    have eD : E1.at_ h.nx = some ⟨w.heap.size, 0, 0⟩ := by rw [← hE1]; exact E.more_at _ _
    have sz1 : ({ w with heap := w.heap.push (.deferred (some [])) } : World).heap.size = w.heap.size + 1 := by simp
    generalize hw1 : ({ w with heap := w.heap.push (.deferred (some [])) } : World) = w1 at S1 R1 sz1
    have hn1 := f1.at_ (h.nx + 1) (Nat.le_refl _) (by omega)
    obtain ⟨S2, R2⟩ := new_rel (h := h1) (cap := 0) R1 (f1.left (nx1 := h1.nx + 1) (ne1 := h1.ne) (by show h.nx + 1 + 1 ≤ _; omega) m3) (so := .lp .ready none fr N ps assign body h.nx)
      (ob := .loop { state := .ready, pending := none, fn, tmps := a.tmps, params := ps, assign, body, defers := w.heap.size })
      (fun w' hw' => ⟨fn, a.tmps, ⟨w.heap.size, 0, 0⟩, hw', (E1.le_more _ _ hn1).1 _ _ eD, ⟨fo.size, fun t ht => by
        have e := ag t (full_of hN (Nat.le_of_lt ht))
        simp only [opd] at e
        rw [e]
        exact val_le (Env.le_trans S1.le (E1.le_more _ _ hn1)) _ _ (fo.get t)⟩⟩)
    have f2 : Free (E1.more h1.nx ⟨w1.heap.size, 0, 0⟩) h2.nx h3nx h2.ne h3ne := f1.right S2 (by show h.nx + 1 ≤ h.nx + 1 + 1; omega) (Nat.le_refl _)
    generalize hE2 : E1.more h1.nx ⟨w1.heap.size, 0, 0⟩ = E2 at S2 R2 f2
    have eL : E2.at_ (h.nx + 1) = some ⟨w1.heap.size, 0, 0⟩ := by rw [← hE2]; exact E1.more_at _ _
    generalize hw2 : ({ w1 with heap := w1.heap.push (.loop { state := .ready, pending := none, fn, tmps := a.tmps, params := ps, assign, body, defers := w.heap.size }) } : World) = w2 at S2 R2
    have S12 : Step h.bar h.hp.get h.nx h2.nx h.ne h2.ne E E2 w w2 := Step.trans G1 G2 S1 S2
    have hargs : vals E2 (first ++ (.yld (h.nx + 1) :: cap)) = some (u ++ (.func (.yield (w.heap.size + 1)) #[] #[] :: v)) := by
      refine vals_append (vals_le S12.le _ _ hu) ?_
      simp only [vals, val, eL, Option.map_some, Option.bind_some, sz1, vals_le S12.le _ _ hv]
    refine ⟨w.heap.size + 1, [{ target := .collected w.heap.size, args := #[] }], w2, { target := .fn (.func f) v.toArray, args := u.toArray ++ #[.func (.yield (w.heap.size + 1)) #[] #[]] }, w2, f,
      (u ++ (.func (.yield (w.heap.size + 1)) #[] #[] :: v)).toArray, w2, ?_, ?_, fun _ _ => trivial, ?_, fun e => (by cases e), ?_⟩
    · rw [← hw2, ← hw1]
      exact run_enterLoop_outer _ _ _ _ _
    · simp only [resolve, rangeCall, eg, Deferred.ofValue, Sem.run_bind, Sem.run_pure, Result.andThen]
      simp [Act.eval]
    · simp only [invoke, run_callFunc hfine]
      congr 2
      rw [← Array.toList_inj]; simp
    · refine callsIn_fw.2 (ok3 E2 w2 _ R2 f2 hargs _ fun E3 sv' w3 _ R3 S3 => ?_)
      have S23 := Step.trans (G1.trans G2) G3 S12 S3
      have eL3 : E3.at_ (h.nx + 1) = some ⟨w1.heap.size, 0, 0⟩ := S3.le.1 _ _ eL
      obtain ⟨sL, q1, q2, fn2, tmps2, sD2, q3, q4, q5⟩ := R3.obj _ _ hso
      rw [eL3] at q1
      obtain rfl := Option.some.inj q1
      change w3.heap[w1.heap.size]? = _ at q3
      rw [sz1] at q3
      have hend := run_endLoop (P := P) q3 hst
      have R4 : Rel W0 E3 h4.hp.get (w3.putObj (w.heap.size + 1) (.loop { state := .exhausted, pending := pend, fn := fn2, tmps := tmps2, params := ps2, assign := as2, body := bd2, defers := sD2.blk })) := by
        have := R3.taken hso eL3 (.loop { state := .exhausted, pending := pend, fn := fn2, tmps := tmps2, params := ps2, assign := as2, body := bd2, defers := sD2.blk })
        rw [sz1] at this
        exact this
      have S4 : Step h3bar h3hp.get h3nx h3nx h3ne h3ne E3 E3 w3 (w3.putObj (w.heap.size + 1) (.loop { state := .exhausted, pending := pend, fn := fn2, tmps := tmps2, params := ps2, assign := as2, body := bd2, defers := sD2.blk })) :=
        Step.upd hso (by omega) eL3 (by simp) (fun j hj => World.putObj_heap_other (by rw [sz1] at hj; exact hj))
      have S5 := Step.trans ((G1.trans G2).trans G3) G4 S23 S4
      have eD3 : E3.at_ h.nx = some ⟨w.heap.size, 0, 0⟩ := S3.le.1 _ _ (S2.le.1 _ _ eD)
      have fo' : FrOk E3 (frT.put N (some (.mks (h.nx :: l)))) N { a with defers := [{ target := .collected w.heap.size, args := #[] }] ++ a.defers } := by
        refine ⟨fo.size, ?_, fun t => ?_⟩
        · rw [Tr.get_put, if_pos rfl]
          refine ⟨_, _, eD3, rfl, hmk _ _ ?_⟩
          rw [ag N (full_of hN (Nat.le_refl _))]
          exact (fo.le S23.le).defers
        · rw [Tr.get_put]
          split
          · rename_i e
            have := fo.size
            simp [val, e, Array.getD, this]
          · exact (fo.le S23.le).get t
      have hq := hQ E3 _ _ R4 S5 fo'
      refine ⟨pend, _, hend, ?_⟩
      rcases hx with ⟨rfl, rfl⟩ | ⟨id, rfl, rfl⟩ | ⟨rfl, rfl⟩
      · exact hq
      · exact wpIn_exit hq
      · exact wpIn_ret hq
  have G : Goes h h4 := ((G1.trans G2).trans G3).trans G4
  rcases jumpK_ok hk with ⟨e, q⟩ | ⟨id, e, q⟩ | ⟨e, q⟩
  · exact ⟨_, _, _, h4, q, ag', G, fin _ (.inl ⟨e, rfl⟩)⟩
  · exact ⟨_, _, _, h4, q, ag', G, fin _ (.inr (.inl ⟨id, e, rfl⟩))⟩
  · exact ⟨_, _, _, h4, q, ag', G, fin _ (.inr (.inr ⟨e, rfl⟩))⟩
end Go.Proofs.YtjbjpjaeagopjaaGreat.Ev
