/- A round of a range over a function: what a call of yield does. -/
import Derived.Test.YtjbjpjaeagopjaaGreatEvCtl
set_option linter.unusedSimpArgs false
set_option linter.unusedVariables false
set_option linter.unusedSectionVars false
namespace Go.Proofs.YtjbjpjaeagopjaaGreat.Ev
open Go Go.RowKit

variable [GTab] {P : Program} {W0 : World} [GOk W0]
noncomputable def paramsK (N : Nat) (ps : List Nat) : List SV → Tr SV → (Tr SV → Bool) → Bool :=
  List.rec (fun l fr k => List.rec (k fr) (fun _ _ _ => false) l) (fun p _ ih l fr k => List.rec false (fun s r _ => Bool.rec false (fr.putK p (some s) fun fr' => ih r fr' k) (Nat.blt p N)) l) ps
noncomputable def paramsP : List Nat → List SV → Tr SV → Tr SV
  | p :: ps, s :: l, fr => paramsP ps l (fr.put p (some s))
  | _, _, fr => fr
theorem paramsK_ok {N : Nat} (ps : List Nat) : ∀ {l : List SV} {fr : Tr SV} {k : Tr SV → Bool}, paramsK N ps l fr k = true → l.length = ps.length ∧ (∀ p ∈ ps, p < N) ∧ k (paramsP ps l fr) = true := by
  induction ps with
  | nil =>
    intro l fr k hk
    cases l with
    | nil => exact ⟨rfl, fun p hp => (by cases hp), hk⟩
    | cons s r => cases hk
  | cons p ps ih =>
    intro l fr k hk
    cases l with
    | nil => cases hk
    | cons s r =>
      have hk : (Bool.rec false (fr.putK p (some s) fun fr' => paramsK N ps r fr' k) (Nat.blt p N) : Bool) = true := hk
      obtain ⟨h1, h2⟩ := rec_true hk
      rw [Tr.putK_eq] at h2
      obtain ⟨e1, e2, e3⟩ := ih h2
      refine ⟨by simp [e1], fun q hq => ?_, e3⟩
      rcases List.mem_cons.1 hq with e | e
      · rw [e]; exact Nat.le_of_ble_eq_true h1
      · exact e2 q e
theorem paramsP_ok {E : Env} {N : Nat} (ps : List Nat) : ∀ {l : List SV} {vl : List Value} {fr : Tr SV} {tmps : Array Value}, (∀ p ∈ ps, p < N) → l.length = ps.length → vals E l = some vl → TmpsOk E fr N tmps →
    TmpsOk E (paramsP ps l fr) N ((ps.zip vl).foldl (fun tmps x => tmps.setIfInBounds x.1 x.2) tmps) ∧ vl.length = ps.length := by
  induction ps with
  | nil =>
    intro l vl fr tmps _ hl hv ht
    cases l with
    | nil =>
      simp only [vals, Option.some.injEq] at hv
      subst hv
      exact ⟨ht, rfl⟩
    | cons s r => simp at hl
  | cons p ps ih =>
    intro l vl fr tmps hp hl hv ht
    cases l with
    | nil => simp at hl
    | cons s r =>
      simp only [vals, Option.bind_eq_some_iff, Option.map_eq_some_iff] at hv
      obtain ⟨x, hx, y, hy, rfl⟩ := hv
      have hpN := hp p List.mem_cons_self
      have h1 : TmpsOk E (fr.put p (some s)) N (tmps.setIfInBounds p x) := by
        refine ⟨by simp [ht.size], fun t htN => ?_⟩
        rw [Tr.get_put]
        by_cases e : t = p
        · subst e
          rw [if_pos rfl]
          have : t < tmps.size := by rw [ht.size]; exact hpN
          simp [Array.getD, this, hx]
        · rw [if_neg e, ht.get t htN]
          congr 1
          simp only [Array.getD_eq_getD_getElem?]
          rw [Array.getElem?_setIfInBounds_ne (Ne.symm e)]
      obtain ⟨k1, k2⟩ := ih (fun q hq => hp q (List.mem_cons_of_mem _ hq)) (by simpa using hl) hy h1
      exact ⟨by simpa [paramsP] using k1, by simp [k2]⟩
theorem getD_ge {a : Array Value} {t N : Nat} (h : a.size = N) (ht : N ≤ t) : a.getD t undef = undef := by
  rw [Array.getD_eq_getD_getElem?, Array.getElem?_eq_none (by omega)]
  rfl
/-- The table up to N. -/
theorem upTo (fr : Tr SV) (N : Nat) : ∃ f : Tr SV, ∀ t, (t < N → f.get t = fr.get t) ∧ (N ≤ t → f.get t = none) := by
  induction N with
  | zero => exact ⟨.e, fun t => ⟨fun h => absurd h (by omega), fun _ => rfl⟩⟩
  | succ N ih =>
    obtain ⟨f, hf⟩ := ih
    refine ⟨f.put N (fr.get N), fun t => ⟨fun h => ?_, fun h => ?_⟩⟩
    · rw [Tr.get_put]
      split
      · rename_i e; rw [e]
      · exact (hf t).1 (by omega)
    · rw [Tr.get_put, if_neg (by omega)]
      exact (hf t).2 (by omega)
noncomputable def setK (h : HS) (id : Nat) (ok : LoopState → Bool) (st' : LoopState) (pf : Option Code → Option Code) (k : HS → Bool) : Bool :=
  getQ h.hp id fun so => asLp so fun st pend fr N ps as bd D => bif ok st && Nat.ble h.bar id then h.hp.putK id (some (.lp st' (pf pend) fr N ps as bd D)) fun hp => k ⟨hp, h.nx, h.ne, h.bar⟩ else false
theorem setK_ok {h : HS} {id : Nat} {ok : LoopState → Bool} {st' : LoopState} {pf : Option Code → Option Code} {k : HS → Bool} (hk : setK h id ok st' pf k = true) :
    ∃ st h', ok st = true ∧ k h' = true ∧ Goes h h' ∧ (h'.nx = h.nx ∧ h'.ne = h.ne) ∧ ∀ E w s, Rel W0 E h.hp.get w → E.at_ id = some s → ∃ r : Loop, w.heap[s.blk]? = some (.loop r) ∧ r.state = st ∧
      Rel W0 E h'.hp.get (w.putObj s.blk (.loop { r with state := st', pending := pf r.pending })) ∧ Step h.bar h.hp.get h.nx h'.nx h.ne h'.ne E E w (w.putObj s.blk (.loop { r with state := st', pending := pf r.pending })) := by
  unfold setK at hk
  rw [getQ_eq] at hk
  split at hk
  case h_2 => cases hk
  rename_i so hso
  obtain ⟨st, pend, fr, N, ps, as, bd, D, rfl, hk⟩ := asLp_ok hk
  obtain ⟨h1, hk⟩ := bif_true hk
  simp only [Bool.and_eq_true] at h1
  have hb := Nat.le_of_ble_eq_true h1.2
  rw [Tr.putK_eq] at hk
  refine ⟨st, _, h1.1, hk, Goes.upd hso hb, ⟨rfl, rfl⟩, fun E w s r hs => ?_⟩
  obtain ⟨s', q1, q2, fn, tmps, sD, q3, q4, q5⟩ := r.obj _ _ hso
  rw [hs] at q1
  obtain rfl := Option.some.inj q1
  exact ⟨_, q3, rfl, r.setLp hso hs q3 q4 q5, Step.upd hso hb hs (by simp) (fun j hj => World.putObj_heap_other hj)⟩
noncomputable def ylK (P : Program) (call : CallK) (F id : Nat) (l : List SV) (h : HS) (k : SV → HS → Bool) : Bool :=
  getQ h.hp id fun so => asLp so fun st pend fr N ps as bd D =>
    bif isReady st && (codeOk as && codeOk bd) then paramsK N ps.toList l fr fun fr1 => fr1.putK N (some (.lit undef)) fun fr2 => natC (fullM N) fun KM =>
      (codeC P N KM true as).f call F fr2 h fun x fr3 h3 => X.rec
        (setK h3 id isReady .busy (fun p => p) fun h4 => (codeC P N KM true bd).f call F fr3 h4 fun x fr5 h5 => X.rec
          (setK h5 id (fun _ => true) .ready (fun _ => none) fun h6 => k (.bool true) h6)
          (fun j => setK h5 id (fun _ => true) .done (fun _ => some (.exit j)) fun h6 => k (.bool false) h6)
          (setK h5 id (fun _ => true) .done (fun _ => some .ret) fun h6 => k (.bool false) h6) x)
        (fun _ => false) false x
    else false
theorem ylK_ok {call : CallK} (hm : P.follows .mixedOrders = true) (hc : CallSound P W0 call) {F id : Nat} {l : List SV} {h : HS} {k : SV → HS → Bool} (hk : ylK P call F id l h k = true) :
    ∃ sv h', k sv h' = true ∧ Goes h h' ∧ YieldOk P W0 id l h h' sv := by
  unfold ylK at hk
  rw [getQ_eq] at hk
  split at hk
  case h_2 => cases hk
  rename_i so hso
  obtain ⟨st, pend, fr, N, ps, as, bd, D, rfl, hk⟩ := asLp_ok hk
  obtain ⟨h1, hk2⟩ := bif_true hk
  clear hk
  simp only [Bool.and_eq_true] at h1
  obtain ⟨hrd, hoa, hob⟩ := h1
  obtain rfl := isReady_ok hrd
  obtain ⟨hlen, hps, hk⟩ := paramsK_ok _ hk2
  clear hk2
  rw [Tr.putK_eq] at hk
  rw [natC_eq] at hk
  obtain ⟨frT, hfrT⟩ := upTo (paramsP ps.toList l fr) N
  have ag2 : Ag (fullM N) ((paramsP ps.toList l fr).put N (some (.lit undef))) frT := fun t ht => by
    rw [fullM_bit, decide_eq_true_eq] at ht
    simp only [opd]
    rw [Tr.get_put]
    rcases Nat.lt_or_ge t N with h1 | h1
    · rw [if_neg (by omega), (hfrT t).1 h1]
    · rw [if_pos (by omega), (hfrT t).2 h1]
      rfl
  obtain ⟨x, fr3, frT3, h3, k3, ag3, g3, ok3⟩ := codeC_ok (W0 := W0) hc hm (F := F) as _ _ _ _ ag2 hoa hk
  cases x with
  | exit j => cases k3
  | ret => cases k3
  | normal =>
  obtain ⟨st4, h4, hst4, k4, g4, ⟨n4, m4⟩, ok4⟩ := setK_ok (W0 := W0) k3
  obtain rfl := isReady_ok hst4
  obtain ⟨x, fr5, frT5, h5, k5, ag5, g5, ok5⟩ := codeC_ok (W0 := W0) hc hm (F := F) bd _ _ _ _ ag3 hob k4
  have fin : ∀ (jump : Option Code) (st6 : LoopState), (st6 = if jump.isNone then .ready else .done) → (jump = none ∧ x = .normal ∨ (∃ j, jump = some (.exit j) ∧ x = .exit j) ∨ (jump = some .ret ∧ x = .ret)) →
      setK h5 id (fun _ => true) st6 (fun _ => jump) (fun h6 => k (.bool jump.isNone) h6) = true → ∃ sv h', k sv h' = true ∧ Goes h h' ∧ YieldOk P W0 id l h h' sv := by
    intro jump st6 est hj hk6
    obtain ⟨st6', h6, _, k6, g6, ⟨n6, m6⟩, ok6⟩ := setK_ok (W0 := W0) hk6
    refine ⟨.bool jump.isNone, h6, k6, ((g3.trans g4).trans g5).trans g6, fun E w vl s r fe hv hs R hR => ?_⟩
    obtain ⟨s', q1, q2, fn, tmps, sD, hw, q4, ht⟩ := r.obj _ _ hso
    rw [hs] at q1
    obtain rfl := Option.some.inj q1
    obtain ⟨ht1, hvl⟩ := paramsP_ok ps.toList hps hlen hv ht
    have hy := run_yield (P := P) (args := vl.toArray) hw (by simpa using hvl)
    have q3 := g3.nx
    have q5 := g5.nx
    have p3 := g3.ne
    have p5 := g5.ne
    have hz : (ps.zip vl.toArray).foldl (fun tmps (x : Tmp × Value) => tmps.setIfInBounds x.1 x.2) tmps = (ps.toList.zip vl).foldl (fun tmps x => tmps.setIfInBounds x.1 x.2) tmps := by
      rw [← Array.foldl_toList, Array.toList_zip]
    refine ⟨fn, _, as, bd, hy, roundIn_of_wpIn trivial ?_⟩
    have fo : FrOk E frT N { tmps := (ps.zip vl.toArray).foldl (fun tmps (x : Tmp × Value) => tmps.setIfInBounds x.1 x.2) tmps, defers := [] } := by
      rw [hz]
      refine ⟨ht1.size, by rw [(hfrT N).2 (Nat.le_refl _)]; rfl, fun t => ?_⟩
      rcases Nat.lt_or_ge t N with h1 | h1
      · rw [(hfrT t).1 h1]
        exact ht1.get t h1
      · rw [(hfrT t).2 h1]
        simp only [Option.getD_none, val, Option.some.injEq]
        exact (getD_ge ht1.size h1).symm
    refine ok3 ⟨some s.blk, .inl rfl⟩ E _ w r (fe.left (by omega) (by omega)) fo _ fun E3 a3 w3 r3 s3 fo3 => ?_
    have hs3 := s3.le.1 _ _ hs
    obtain ⟨r4, hr4, hst, R4, S4⟩ := ok4 E3 w3 s r3 hs3
    refine ⟨_, run_beginRound hr4 hst, ?_⟩
    have S34 := Step.trans g3 g4 s3 S4
    have f4 : Free E3 h4.nx h6.nx h4.ne h6.ne := fe.right S34 (by omega) (by omega)
    refine ok5 ⟨some s.blk, .inl rfl⟩ E3 a3 _ R4 (f4.left (by omega) (by omega)) fo3 _ fun E5 a5 w5 r5 s5 fo5 => ?_
    have hs5 := s5.le.1 _ _ hs3
    obtain ⟨r6, hr6, _, R6, S6⟩ := ok6 E5 w5 s r5 hs5
    have S36 := Step.trans (g3.trans g4) g5 S34 s5
    have S37 := Step.trans ((g3.trans g4).trans g5) g6 S36 S6
    have hend := run_endRound (P := P) jump hr6
    rw [← est] at hend
    have hq := hR E5 _ _ (by simp [val] : val E5 (.bool jump.isNone) = some (.bool jump.isNone)) R6 S37
    rcases hj with ⟨rfl, rfl⟩ | ⟨j, rfl, rfl⟩ | ⟨rfl, rfl⟩
    · exact ⟨_, _, hend, hq⟩
    · exact ⟨_, _, hend, hq⟩
    · exact ⟨_, _, hend, hq⟩
  cases x with
  | normal => exact fin none .ready rfl (.inl ⟨rfl, rfl⟩) k5
  | exit j => exact fin (some (.exit j)) .done rfl (.inr (.inl ⟨j, rfl, rfl⟩)) k5
  | ret => exact fin (some .ret) .done rfl (.inr (.inr ⟨rfl, rfl⟩)) k5
end Go.Proofs.YtjbjpjaeagopjaaGreat.Ev
