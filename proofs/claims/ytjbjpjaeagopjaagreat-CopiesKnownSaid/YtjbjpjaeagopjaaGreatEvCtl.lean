/- Control: rows of code, loops, calls. -/
import Derived.Test.YtjbjpjaeagopjaaGreatEvLp
import Derived.LoopNIn
import Derived.Scope
set_option linter.unusedSimpArgs false
set_option linter.unusedVariables false
set_option linter.unusedSectionVars false
namespace Go.Proofs.YtjbjpjaeagopjaaGreat.Ev
open Go

variable [GTab] {P : Program} {W0 : World} [GOk W0]
noncomputable def loopGo (body : Tr SV → HS → KX → Bool) (k : KX) (n : Nat) : Tr SV → HS → Bool :=
  Nat.rec (fun _ _ => false) (fun _ again fr h => body fr h fun x fr' h' => X.rec (again fr' h') (fun id => k (.exit id) fr' h') (k .ret fr' h') x) n
noncomputable def clSeq (ia ib : Cl CodeF) : Cl CodeF := ⟨fun call F fr h k => ia.f call F fr h fun x fr' h' => X.rec (ib.f call F fr' h' k) (fun id => k (.exit id) fr' h') (k .ret fr' h') x⟩
noncomputable def clCond (K : Nat) (c : Operand) (ia ib : Cl CodeF) : Cl CodeF := bif resolved K [] [] c then (opdC c).then fun g => ⟨fun call F fr h k => g fr fun v => asBool v (ia.f call F fr h k) (ib.f call F fr h k)⟩ else ⟨fun _ _ _ _ _ => false⟩
noncomputable def clBlock (id : Nat) (ib : Cl CodeF) : Cl CodeF := ⟨fun call F fr h k => ib.f call F fr h fun x fr' h' => X.rec (k .normal fr' h') (fun j => Bool.rec (k (.exit j) fr' h') (k .normal fr' h') (Nat.beq j id)) (k .ret fr' h') x⟩
noncomputable def clLoop (ib : Cl CodeF) : Cl CodeF := ⟨fun call F fr h k => loopGo (ib.f call F) k F fr h⟩
noncomputable def clRegion (P : Program) (N K : Nat) (ops : Array Oper) (draw : Bool) : Cl CodeF :=
  Bool.rec ((opsS P N K ops ops.toList [] []).then fun g => ⟨fun call _ fr h k => g call ⟨fr, []⟩ h (k .normal)⟩) (bif drawIn K ops ops.toList then (drawRC P N ops).then fun g => ⟨fun call _ fr h k => g call fr h (k .normal)⟩ else ⟨fun _ _ _ _ _ => false⟩) draw
noncomputable def codeC (P : Program) (N K : Nat) (fl : Bool) (c : Code) : Cl CodeF :=
  Code.rec (motive := fun _ => Cl CodeF)
    ⟨fun _ _ fr h k => k .normal fr h⟩
    (fun _ ops draw => clRegion P N K ops draw)
    (fun _ _ ia ib => clSeq ia ib)
    (fun c _ _ ia ib => clCond K c ia ib)
    (fun id _ ib => clBlock id ib)
    (fun _ ib => clLoop ib)
    (fun g ps as bd _ _ => Bool.rec (clRange P N K g ps as bd) ⟨fun _ _ _ _ _ => false⟩ fl)
    (fun id => ⟨fun _ _ fr h k => k (.exit id) fr h⟩)
    (fun _ ib => ib)
    (fun _ => ⟨fun _ _ fr h k => k .normal fr h⟩)
    (fun _ => ⟨fun _ _ _ _ _ => false⟩)
    ⟨fun _ _ fr h k => k .ret fr h⟩
    (fun _ => ⟨fun _ _ _ _ _ => false⟩) c
noncomputable def codeOk (c : Code) : Bool :=
  Code.rec (motive := fun _ => Bool) true (fun _ ops draw => bif draw then drawOk ops else true) (fun _ _ ia ib => bif ia then ib else false) (fun _ _ _ ia ib => bif ia then ib else false) (fun _ _ ib => ib) (fun _ ib => ib)
    (fun _ _ _ _ _ _ => true) (fun _ => true) (fun _ ib => ib) (fun _ => true) (fun _ => true) true (fun _ => true) c
section
variable {F : Fence} {n : Nat} {b : Frame} {a : Act} {k : List Item} {cs : List Frame} {w : World} {Q : Exit → Act → World → Prop}
theorem stepR_scope {c : Code} : step P (lone (b.atR a (.code (.scope c) :: k)) cs w) = .next (lone (b.atR a (.code c :: .inScope c :: k)) cs w) :=
  step_lone_go (by simp [stepG, stepG.exec, Frame.atR])
theorem stepR_inScope {c : Code} : step P (lone (b.atR a (.inScope c :: k)) cs w) = .next (lone (b.atR a k) cs w) :=
  step_lone_go (by simp [stepG, stepG.exec, Frame.atR])
theorem wpIn_scope_straight {c : Code} (h : c.wpIn F n P (Exit.noGoto Q) a w) : (Code.scope c).wpIn F n P Q a w := by
  intro b k cs hro hb hr
  obtain ⟨e, a₁, w₁, hq, harr⟩ := h b (.inScope c :: k) cs hro hb hr
  have s0 : StepsIn (Machine.fenced P F) P (lone (b.atR a (.code (.scope c) :: k)) cs w) (lone (b.atR a (.code c :: .inScope c :: k)) cs w) := .one (fenced_calm hb hr rfl) stepR_scope
  cases e with
  | normal => exact ⟨.normal, a₁, w₁, hq, StepsIn.trans s0 (StepsIn.trans harr (.one (fenced_calm hb hr rfl) stepR_inScope))⟩
  | exit id =>
    have hx : exitTo id (.inScope c :: k) = exitTo id k := by simp [exitTo]
    exact ⟨.exit id, a₁, w₁, hq, fun k' hk => StepsIn.trans s0 (harr.1 k' (by rw [hx]; exact hk)), fun hr' hk => let ⟨k₁, h1, h2⟩ := harr.2 hr' (by rw [hx]; exact hk); ⟨k₁, h1, StepsIn.trans s0 h2⟩⟩
  | goto l => exact hq.elim
  | ret => exact ⟨_, a₁, w₁, hq, .of_steps s0 harr⟩
  | panic ch => exact ⟨_, a₁, w₁, hq, .of_steps s0 harr⟩
  | outgrown => exact ⟨_, a₁, w₁, hq, .of_steps s0 harr⟩
end
/-- From every frame and world that are so, the code comes to what is given. -/
def CodeOk (P : Program) (W0 : World) (N : Nat) (fl : Bool) (c : Code) (fr : Tr SV) (h : HS) (x : X) (fr' : Tr SV) (h' : HS) : Prop :=
  ∀ (ro : { r : Option Nat // fl = true ∨ r = none }) E a w, Rel W0 E h.hp.get w → Free E h.nx h'.nx h.ne h'.ne → FrOk E fr N a → ∀ Q : Exit → Act → World → Prop,
    (∀ E' a' w', Rel W0 E' h'.hp.get w' → Step h.bar h.hp.get h.nx h'.nx h.ne h'.ne E E' w w' → FrOk E' fr' N a' → Q x.to a' w') → c.wpIn (Fw ro.1) 0 P Q a w
theorem codeC_ok {call : CallK} (hc : CallSound P W0 call) (hm : P.follows .mixedOrders = true) {N K F : Nat} {fl : Bool} (c : Code) : ∀ (fr frT : Tr SV) (h : HS) (k : KX), Ag K fr frT → codeOk c = true → (codeC P N K fl c).f call F fr h k = true →
    ∃ x fr' frT' h', k x fr' h' = true ∧ Ag K fr' frT' ∧ Goes h h' ∧ CodeOk P W0 N fl c frT h x frT' h' := by
  induction c with
  | skip => intro fr frT h k ag _ hk; exact ⟨.normal, fr, frT, h, hk, ag, Goes.refl h, fun ro E a w r _ fo Q hQ => wpIn_skip (hQ E a w r (Step.refl _ _ _ _ _ _) fo)⟩
  | label l => intro fr frT h k ag _ hk; exact ⟨.normal, fr, frT, h, hk, ag, Goes.refl h, fun ro E a w r _ fo Q hQ => wpIn_label (hQ E a w r (Step.refl _ _ _ _ _ _) fo)⟩
  | exit id => intro fr frT h k ag _ hk; exact ⟨.exit id, fr, frT, h, hk, ag, Goes.refl h, fun ro E a w r _ fo Q hQ => wpIn_exit (hQ E a w r (Step.refl _ _ _ _ _ _) fo)⟩
  | ret => intro fr frT h k ag _ hk; exact ⟨.ret, fr, frT, h, hk, ag, Goes.refl h, fun ro E a w r _ fo Q hQ => wpIn_ret (hQ E a w r (Step.refl _ _ _ _ _ _) fo)⟩
  | rangeFunc g ps as bd _ _ =>
    intro fr frT h k ag _ hk
    cases fl with
    | true => cases hk
    | false =>
      obtain ⟨x, fr', frT', h', k1, ag', g', ok⟩ := clRange_ok (W0 := W0) hc (F := F) ag (show (clRange P N K g ps as bd).f call F fr h k = true from hk)
      refine ⟨x, fr', frT', h', k1, ag', g', fun ro E a w r fe fo Q hQ => ?_⟩
      obtain ⟨ro, hro⟩ := ro
      rcases hro with e | rfl
      · cases e
      · exact ok E a w r fe fo Q hQ
  | scope b ib =>
    intro fr frT h k ag hok hk
    obtain ⟨x, fr', frT', h', k1, ag', g, ok⟩ := ib fr frT h k ag hok hk
    refine ⟨x, fr', frT', h', k1, ag', g, fun ro E a w r fe fo Q hQ => wpIn_scope_straight (ok ro E a w r fe fo _ fun E' a' w' r' st fo' => ?_)⟩
    have := hQ E' a' w' r' st fo'
    cases x with
    | normal => exact this
    | exit id => exact this
    | ret => exact this
  | goto l => intro fr frT h k _ _ hk; cases hk
  | refuse w => intro fr frT h k _ _ hk; cases hk
  | region id ops draw =>
    intro fr frT h k ag hok hk
    cases draw with
    | true =>
      have hk2 : (bif drawIn K ops ops.toList then (drawRC P N ops).then fun g => (⟨fun call _ fr h k => g call fr h (k .normal)⟩ : Cl CodeF) else ⟨fun _ _ _ _ _ => false⟩).f call F fr h k = true := hk
      cases hin : drawIn K ops ops.toList with
      | false => rw [hin] at hk2; cases hk2
      | true =>
        rw [hin, cond_true, Cl.then_eq] at hk2
        obtain ⟨fr', frT', h', k1, ag', g, ok⟩ := drawRC_ok (W0 := W0) hc hm (show drawOk ops = true from hok) hin ag hk2
        exact ⟨.normal, fr', frT', h', k1, ag', g, fun ro E a w r fe fo Q hQ => ok ro.1 id E a w r fe fo Q hQ⟩
    | false =>
      have hk2 : ((opsS P N K ops ops.toList [] []).then fun g => (⟨fun call _ fr h k => g call ⟨fr, []⟩ h (k .normal)⟩ : Cl CodeF)).f call F fr h k = true := hk
      rw [Cl.then_eq] at hk2
      obtain ⟨fr', frT', h', k1, ag', g, ok⟩ := opsS_ok (W0 := W0) hc ops.toList [] [] ⟨fr, []⟩ frT h (k .normal) ⟨ag, fun t i e => (by cases e), fun t x e => (by cases e)⟩ hk2
      exact ⟨.normal, fr', frT', h', k1, ag', g, fun ro E a w r fe fo Q hQ => wpIn_region_list (ok ro.1 E a w r fe fo Q hQ)⟩
  | seq x y ix iy =>
    intro fr frT h k ag hok hk
    obtain ⟨o1, o2⟩ := bif_true (show (bif codeOk x then codeOk y else false) = true from hok)
    change (codeC P N K fl x).f call F fr h (fun x fr' h' => X.rec ((codeC P N K fl y).f call F fr' h' k) (fun id => k (.exit id) fr' h') (k .ret fr' h') x) = true at hk
    obtain ⟨x1, fr1, frT1, h1, k1, ag1, g1, c1⟩ := ix _ _ _ _ ag o1 hk
    cases x1 with
    | normal =>
      obtain ⟨x2, fr2, frT2, h2, k2, ag2, g2, c2⟩ := iy _ _ _ _ ag1 o2 k1
      refine ⟨x2, fr2, frT2, h2, k2, ag2, g1.trans g2, fun ro E a w r fe fo Q hQ => wpIn_seq (c1 ro E a w r (fe.left g2.nx g2.ne) fo _ fun E' a' w' r' st fo' => ?_)⟩
      exact c2 ro E' a' w' r' (fe.right st g1.nx g1.ne) fo' Q fun E2 a2 w2 r2 st2 fo2 => hQ E2 a2 w2 r2 (Step.trans g1 g2 st st2) fo2
    | exit id => exact ⟨.exit id, fr1, frT1, h1, k1, ag1, g1, fun ro E a w r fe fo Q hQ => wpIn_seq (c1 ro E a w r fe fo _ fun E' a' w' r' st fo' => hQ E' a' w' r' st fo')⟩
    | ret => exact ⟨.ret, fr1, frT1, h1, k1, ag1, g1, fun ro E a w r fe fo Q hQ => wpIn_seq (c1 ro E a w r fe fo _ fun E' a' w' r' st fo' => hQ E' a' w' r' st fo')⟩
  | cond c x y ix iy =>
    intro fr frT h k ag hok hk
    obtain ⟨o1, o2⟩ := bif_true (show (bif codeOk x then codeOk y else false) = true from hok)
    have hk2 : (clCond K c (codeC P N K fl x) (codeC P N K fl y)).f call F fr h k = true := hk
    unfold clCond at hk2
    cases hr : resolved K [] [] c with
    | false => rw [hr] at hk2; cases hk2
    | true =>
    rw [hr, cond_true] at hk2
    simp only [Cl.then_eq, opdC_at] at hk2
    rw [opd_ag ag hr] at hk2
    obtain ⟨b, hb, hk⟩ := asBool_ok hk2
    cases b with
    | true =>
      obtain ⟨x1, fr1, frT1, h1, k1, ag1, g1, c1⟩ := ix _ _ _ _ ag o1 hk
      refine ⟨x1, fr1, frT1, h1, k1, ag1, g1, fun ro E a w r fe fo Q hQ => wpIn_cond_true ?_ (c1 ro E a w r fe fo Q hQ)⟩
      have := opd_ok fo c
      rw [hb] at this
      exact (Option.some.inj this).symm
    | false =>
      obtain ⟨x1, fr1, frT1, h1, k1, ag1, g1, c1⟩ := iy _ _ _ _ ag o2 hk
      refine ⟨x1, fr1, frT1, h1, k1, ag1, g1, fun ro E a w r fe fo Q hQ => wpIn_cond_false ?_ (c1 ro E a w r fe fo Q hQ)⟩
      have := opd_ok fo c
      rw [hb] at this
      exact (Option.some.inj this).symm
  | block id x ix =>
    intro fr frT h k ag hok hk
    change (codeC P N K fl x).f call F fr h (fun x fr' h' => X.rec (k .normal fr' h') (fun j => Bool.rec (k (.exit j) fr' h') (k .normal fr' h') (Nat.beq j id)) (k .ret fr' h') x) = true at hk
    obtain ⟨x1, fr1, frT1, h1, k1, ag1, g1, c1⟩ := ix _ _ _ _ ag hok hk
    cases x1 with
    | normal => exact ⟨.normal, fr1, frT1, h1, k1, ag1, g1, fun ro E a w r fe fo Q hQ => wpIn_block (c1 ro E a w r fe fo _ fun E' a' w' r' st fo' => hQ E' a' w' r' st fo')⟩
    | ret => exact ⟨.ret, fr1, frT1, h1, k1, ag1, g1, fun ro E a w r fe fo Q hQ => wpIn_block (c1 ro E a w r fe fo _ fun E' a' w' r' st fo' => hQ E' a' w' r' st fo')⟩
    | exit j =>
      have k1 : (bif Nat.beq j id then k .normal fr1 h1 else k (.exit j) fr1 h1) = true := by
        revert k1
        cases hb : Nat.beq j id <;> intro k1
        · have : (Bool.rec (k (.exit j) fr1 h1) (k .normal fr1 h1) (Nat.beq j id) : Bool) = true := k1
          rw [hb] at this
          exact this
        · have : (Bool.rec (k (.exit j) fr1 h1) (k .normal fr1 h1) (Nat.beq j id) : Bool) = true := k1
          rw [hb] at this
          exact this
      rw [Tr.bif_beq] at k1
      split at k1
      · rename_i e
        refine ⟨.normal, fr1, frT1, h1, k1, ag1, g1, fun ro E a w r fe fo Q hQ => wpIn_block (c1 ro E a w r fe fo _ fun E' a' w' r' st fo' => ?_)⟩
        show (if j = id then Q .normal a' w' else Q (.exit j) a' w')
        rw [if_pos e]
        exact hQ E' a' w' r' st fo'
      · rename_i e
        refine ⟨.exit j, fr1, frT1, h1, k1, ag1, g1, fun ro E a w r fe fo Q hQ => wpIn_block (c1 ro E a w r fe fo _ fun E' a' w' r' st fo' => ?_)⟩
        show (if j = id then Q .normal a' w' else Q (.exit j) a' w')
        rw [if_neg e]
        exact hQ E' a' w' r' st fo'
  | loop x ix =>
    intro fr frT h k ag hok hk
    change loopGo ((codeC P N K fl x).f call F) k F fr h = true at hk
    have key : ∀ (n : Nat) (fr frT : Tr SV) (h : HS), Ag K fr frT → loopGo ((codeC P N K fl x).f call F) k n fr h = true → ∃ x1 fr' frT' h', k x1 fr' h' = true ∧ Ag K fr' frT' ∧ Goes h h' ∧ ∀ (ro : { r : Option Nat // fl = true ∨ r = none }) E a w, Rel W0 E h.hp.get w → Free E h.nx h'.nx h.ne h'.ne → FrOk E frT N a → ∀ Q : Exit → Act → World → Prop,
        (∀ E' a' w', Rel W0 E' h'.hp.get w' → Step h.bar h.hp.get h.nx h'.nx h.ne h'.ne E E' w w' → FrOk E' frT' N a' → Q x1.to a' w') → Code.roundsIn (Fw ro.1) 0 P x Q n a w := by
      intro n
      induction n with
      | zero => intro fr frT h _ hk; cases hk
      | succ n ih =>
        intro fr frT h ag hk
        change (codeC P N K fl x).f call F fr h (fun x1 fr' h' => X.rec (loopGo ((codeC P N K fl x).f call F) k n fr' h') (fun id => k (.exit id) fr' h') (k .ret fr' h') x1) = true at hk
        obtain ⟨x1, fr1, frT1, h1, k1, ag1, g1, c1⟩ := ix _ _ _ _ ag hok hk
        cases x1 with
        | normal =>
          obtain ⟨x2, fr2, frT2, h2, k2, ag2, g2, c2⟩ := ih _ _ _ ag1 k1
          refine ⟨x2, fr2, frT2, h2, k2, ag2, g1.trans g2, fun ro E a w r fe fo Q hQ => ?_⟩
          rw [roundsIn_succ]
          exact c1 ro E a w r (fe.left g2.nx g2.ne) fo _ fun E' a' w' r' st fo' => c2 ro E' a' w' r' (fe.right st g1.nx g1.ne) fo' Q fun E2 a2 w2 r2 st2 fo2 => hQ E2 a2 w2 r2 (Step.trans g1 g2 st st2) fo2
        | exit id =>
          refine ⟨.exit id, fr1, frT1, h1, k1, ag1, g1, fun ro E a w r fe fo Q hQ => ?_⟩
          rw [roundsIn_succ]
          exact c1 ro E a w r fe fo _ fun E' a' w' r' st fo' => hQ E' a' w' r' st fo'
        | ret =>
          refine ⟨.ret, fr1, frT1, h1, k1, ag1, g1, fun ro E a w r fe fo Q hQ => ?_⟩
          rw [roundsIn_succ]
          exact c1 ro E a w r fe fo _ fun E' a' w' r' st fo' => hQ E' a' w' r' st fo'
    obtain ⟨x1, fr1, frT1, h1, k1, ag1, g1, c1⟩ := key F fr frT h ag hk
    exact ⟨x1, fr1, frT1, h1, k1, ag1, g1, fun ro E a w r fe fo Q hQ => wpIn_loop_rounds F (c1 ro E a w r fe fo Q hQ)⟩

/-! ### calls -/
noncomputable def resK (P : Program) (fr : Tr SV) (g : Tr SO) : List ResultVar → (List SV → Bool) → Bool
  | [], k => k []
  | v :: r, k => match v with
    | .tmp t => opdK fr (.tmp t) fun s => resK P fr g r fun l => k (s :: l)
    | .cell a t => rdLoad P t fr g (.tmp a) fun s => resK P fr g r fun l => k (s :: l)
noncomputable def resC (P : Program) (K : Nat) (rs : List ResultVar) : Cl (Tr SV → Tr SO → (List SV → Bool) → Bool) :=
  List.rec ⟨fun _ _ k => k []⟩ (fun v _ ih => match v with
    | .tmp t => bif Nat.testBit K t then (opdC (.tmp t)).then fun g => ⟨fun fr h k => g fr fun s => ih.f fr h fun l => k (s :: l)⟩ else ⟨fun _ _ _ => false⟩
    | .cell a t => bif Nat.testBit K a then ⟨fun fr h k => rdLoad P t fr h (.tmp a) fun s => ih.f fr h fun l => k (s :: l)⟩ else ⟨fun _ _ _ => false⟩) rs
theorem rdLoad_same {t : TypeId} {fr fr' : Tr SV} {g : Tr SO} {x : Operand} {k : SV → Bool} (e : opd fr x = opd fr' x) : rdLoad P t fr g x k = rdLoad P t fr' g x k := by
  unfold rdLoad
  rw [opdK_eq, opdK_eq, e]
theorem resC_ok (K : Nat) (rs : List ResultVar) : ∀ (fr frT : Tr SV) (h : Tr SO) (k : List SV → Bool), Ag K fr frT → (resC P K rs).f fr h k = true → resK P frT h rs k = true := by
  induction rs with
  | nil => intro fr frT h k _ hk; exact hk
  | cons v r ih =>
    intro fr frT h k ag hk
    cases v with
    | tmp t =>
      have hk2 : (bif Nat.testBit K t then (opdC (.tmp t)).then fun g => (⟨fun fr h k => g fr fun s => (resC P K r).f fr h fun l => k (s :: l)⟩ : Cl (Tr SV → Tr SO → (List SV → Bool) → Bool)) else ⟨fun _ _ _ => false⟩).f fr h k = true := hk
      cases ht : Nat.testBit K t with
      | false => rw [ht] at hk2; cases hk2
      | true =>
        rw [ht, cond_true, Cl.then_eq] at hk2
        simp only [opdC_at] at hk2
        simp only [resK, opdK_eq]
        rw [ag t ht] at hk2
        exact ih _ _ _ _ ag hk2
    | cell a t =>
      have hk2 : (bif Nat.testBit K a then (⟨fun fr h k => rdLoad P t fr h (.tmp a) fun s => (resC P K r).f fr h fun l => k (s :: l)⟩ : Cl (Tr SV → Tr SO → (List SV → Bool) → Bool)) else ⟨fun _ _ _ => false⟩).f fr h k = true := hk
      cases ht : Nat.testBit K a with
      | false => rw [ht] at hk2; cases hk2
      | true =>
        rw [ht, cond_true] at hk2
        simp only [resK]
        have hk2 : rdLoad P t fr h (.tmp a) (fun s => (resC P K r).f fr h fun l => k (s :: l)) = true := hk2
        rw [rdLoad_same (ag a ht)] at hk2
        refine rdLoad_mono ?_ hk2
        intro s hs
        exact ih _ _ _ _ ag hs
where
  rdLoad_mono {t : TypeId} {fr : Tr SV} {g : Tr SO} {x : Operand} {k k' : SV → Bool} (hm : ∀ s, k s = true → k' s = true) (hk : rdLoad P t fr g x k = true) : rdLoad P t fr g x k' = true := by
    unfold rdLoad at hk ⊢
    rw [opdK_eq] at hk ⊢
    split at hk
    · split at hk
      · split at hk
        · split at hk
          · obtain ⟨h1, h2⟩ := bif_true hk
            rw [h1, cond_true]
            exact cells_mono (fun l hl => hm _ hl) _ _ h2
          · cases hk
        · obtain ⟨h1, h2⟩ := bif_true hk
          rw [h1, cond_true]
          split at h2
          · exact hm _ h2
          · cases h2
        · cases hk
      · cases hk
    · split at hk
      · split at hk
        · obtain ⟨sv, q1, q2⟩ := normK_ok' hk
          rw [q2]
          exact hm _ q1
        · cases hk
      · split at hk
        · split at hk
          · exact hm _ hk
          · cases hk
        · cases hk
      · cases hk
    · cases hk
  cells_mono {tr : Tr SV} {k k' : List SV → Bool} (hm : ∀ l, k l = true → k' l = true) (m : Nat) : ∀ i, cellsK tr i m k = true → cellsK tr i m k' = true := by
    revert k k'
    induction m with
    | zero => intro k k' hm i h; exact hm _ h
    | succ m ih =>
      intro k k' hm i h
      rw [cellsK_succ] at h ⊢
      split at h
      · exact ih (fun l hl => hm _ hl) _ h
      · cases h
  normK_ok' {v : Value} {k : SV → Bool} (h : normK v k = true) : ∃ sv, k sv = true ∧ ∀ k' : SV → Bool, normK v k' = k' sv := by
    unfold normK at h
    split at h
    · rename_i b
      cases b
      · exact ⟨.bool false, h, fun _ => rfl⟩
      · exact ⟨.bool true, h, fun _ => rfl⟩
    · rename_i kd n
      rw [intK_eq] at h
      exact ⟨_, h, fun k' => intK_eq n fun n' => k' (.int kd n')⟩
    · rename_i n1 n2
      refine ⟨.lit v, h, fun k' => ?_⟩
      unfold normK
      split
      · exact absurd rfl (n1 _)
      · exact absurd rfl (n2 _ _)
      · rfl
abbrev FnF := CallK → Nat → List SV → HS → (SV → HS → Bool) → Bool
noncomputable def argsK (l : List SV) : Nat → Tr SV → (Tr SV → Bool) → Bool := List.rec (fun _ t k => k t) (fun s _ ih i t k => t.putK i (some s) fun t' => natK (i + 1) fun i' => ih i' t' k) l
theorem argsK_eq (l : List SV) : ∀ (i : Nat) (t : Tr SV) (k : Tr SV → Bool), argsK l i t k = k (trOf l i t) := by
  induction l with
  | nil => intro i t k; rfl
  | cons s r ih =>
    intro i t k
    show (t.putK i (some s) fun t' => natK (i + 1) fun i' => argsK r i' t' k) = _
    rw [Tr.putK_eq, natK_eq, ih]
    rfl
noncomputable def oneK2 (r : List SV) (k : SV → Bool) : Bool := List.rec (k (.tup [])) (fun s t _ => List.rec (k s) (fun u v _ => k (.tup (s :: u :: v))) t) r
theorem oneK2_eq (r : List SV) (k : SV → Bool) : oneK2 r k = k (match r with | [s] => s | r => .tup r) := by
  cases r with
  | nil => rfl
  | cons s t => cases t <;> rfl
/-- A function's body, worked out once. -/
noncomputable def fnC (P : Program) (M : Nat) (f : FuncId) : Cl FnF :=
  bif Nat.blt f M then
    (match P.funcs[f]? with
    | some fn => (match fn.body with
      | some c => natC (fn.params.size + fn.nfree) fun n => natC (n + (fn.ntmps - n)) fun N => natC (Nat.lor (Nat.lor (keepM c) (resM fn.results.toList)) (Nat.shiftLeft 1 N)) fun K => (codeC P N K false c).then fun g => (resC P K fn.results.toList).then fun rs => paC N fun pN =>
        ⟨fun call F l h k => Bool.rec false (argsK l 0 .e fun fr => g call F fr h fun x fr' h' => X.rec (endK pN fr' h' fun h2 => rs fr' h2.hp fun r => oneK2 r fun s => k s h2) (fun _ => false) (endK pN fr' h' fun h2 => rs fr' h2.hp fun r => oneK2 r fun s => k s h2) x) (Nat.beq l.length n)⟩
      | none => ⟨fun _ _ _ _ _ => false⟩)
    | none => ⟨fun _ _ _ _ _ => false⟩)
  else ⟨fun _ _ _ _ _ => false⟩
def FnsOk (P : Program) (M : Nat) : Prop := ∀ f fn c, f < M → P.funcs[f]? = some fn → fn.body = some c → codeOk c = true
end Go.Proofs.YtjbjpjaeagopjaaGreat.Ev
