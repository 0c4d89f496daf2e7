/- Runs of code from frames and objects that may hold variables. A function's run, from its body's. Calls that leave the objects as they are: from nothing laid to any objects; a table of such calls. Functions: what their bodies come to. Calls looked through: what the table does not name is run in its place. Loops unrolled: where the rounds end of themselves. Runs whose ends are found as they run: loops whose rounds lay memory. Calls whose ends are given, each with the claim that it is so. Calls that leave the objects as they are: from some objects to more of them, whatever the next number is. -/
import Derived.Test.YtgoccionghehoaaGreatDoorEv2
import Derived.Test.YtgoccionghehoaaGreatDoorEv4
import Derived.LoopNIn
set_option linter.unusedSimpArgs false
set_option linter.unusedVariables false
set_option linter.unusedSectionVars false
namespace Go.Proofs.YtgoccionghehoaaGreatDoor.Ev
open Go

variable [GTab] {P : Program} {W0 : World} [GOk W0]
/-! ### rows -/
/-- Whether an operation is wanted. -/
noncomputable def dWant (ops : Array Oper) (o : Oper) (fr : Tr SV) (a b : Bool) : Bool :=
  match o.guard with
  | none => a
  | some (g, want) => (match (ops[g]?).bind (·.dst) with
    | none => b
    | some t => (match opd fr (.tmp t) with
      | .bool z => bif z then (bif want then a else b) else (bif want then b else a)
      | .lit (.bool _) => false
      | _ => b))
theorem dWant_ok {ops : Array Oper} {o : Oper} {fr : Tr SV} {a b : Bool} (h : dWant ops o fr a b = true) : (wants ops o fr = some true ∧ a = true) ∨ (wants ops o fr = some false ∧ b = true) := by
  unfold dWant at h
  unfold wants
  split at h
  · rename_i hg; rw [hg]; exact .inl ⟨rfl, h⟩
  · rename_i g want hg
    rw [hg]
    simp only
    split at h
    · rename_i ht; rw [ht]; exact .inr ⟨rfl, h⟩
    · rename_i t ht
      rw [ht]
      simp only
      split at h
      · rename_i z hz
        rw [hz]
        cases z <;> cases want <;> first | exact .inl ⟨rfl, h⟩ | exact .inr ⟨rfl, h⟩
      · cases h
      · rename_i h1 h2
        split
        · rename_i z hz; exact absurd hz (h1 z)
        · rename_i z hz; exact absurd hz (h2 z)
        · exact .inr ⟨rfl, h⟩
noncomputable def dOps (P : Program) (call : CallK) (N : Nat) (ops : Array Oper) (l : List Oper) : Tr SV → HS → (Tr SV → HS → Bool) → Bool :=
  List.rec (fun fr h k => k fr h) (fun o _ ih fr h k => dWant ops o fr (opKF P call o fr h fun sv h' => forkB sv fun sv => putDK N o.dst sv fr fun fr' => ih fr' h' k) (putDK N o.dst (.lit undef) fr fun fr' => ih fr' h k)) l
theorem dOps_ok {call : CallK} (hc : CallSound P W0 call) {N : Nat} {ops : Array Oper} (l : List Oper) : ∀ (fr : Tr SV) (h : HS) (k : Tr SV → HS → Bool), dOps P call N ops l fr h k = true →
    ∃ fr' h', k fr' h' = true ∧ Goes h h' ∧ ∀ ro E a w, Rel W0 E h.hp.get w → Free E h.nx h'.nx h.ne h'.ne → FrOk E fr N a → ∀ Q : Exit → Act → World → Prop,
      (∀ E' a' w', Rel W0 E' h'.hp.get w' → Step h.bar h.hp.get h.nx h'.nx h.ne h'.ne E E' w w' → FrOk E' fr' N a' → Q .normal a' w') → wpListIn (Fw ro) 0 P ops Q l a w := by
  induction l with
  | nil => intro fr h k hk; exact ⟨fr, h, hk, Goes.refl h, fun ro E a w r _ fo Q hQ => hQ E a w r (Step.refl _ _ _ _ _ _) fo⟩
  | cons o l ih =>
    intro fr h k hk
    rcases dWant_ok (show dWant ops o fr (opKF P call o fr h fun sv h' => forkB sv fun sv => putDK N o.dst sv fr fun fr' => dOps P call N ops l fr' h' k) (putDK N o.dst (.lit undef) fr fun fr' => dOps P call N ops l fr' h k) = true from hk) with ⟨hw, hk⟩ | ⟨hw, hk⟩
    · obtain ⟨sv, h1, hk, g1, o1⟩ := opKF_ok hc hk
      rw [forkB_eq] at hk
      obtain ⟨hk, hN⟩ := putDK_ok hk
      obtain ⟨fr', h', k1, g2, o2⟩ := ih _ _ _ hk
      refine ⟨fr', h', k1, g1.trans g2, fun ro E a w r fe fo Q hQ => ?_⟩
      simp only [wpListIn]
      rw [wants_ok hw (fun _ _ _ _ _ => rfl) fo, if_pos rfl]
      refine o1 ro fr E N a w (fun _ _ => rfl) r (fe.left g2.nx g2.ne) fo _ Q fun E' v w' e1 r' st => ?_
      exact o2 ro E' _ w' r' (fe.right st g1.nx g1.ne) ((fo.le st.le).putD hN e1) Q fun E2 a2 w2 r2 st2 fo2 => hQ E2 a2 w2 r2 (Step.trans g1 g2 st st2) fo2
    · obtain ⟨hk, hN⟩ := putDK_ok hk
      obtain ⟨fr', h', k1, g2, o2⟩ := ih _ _ _ hk
      refine ⟨fr', h', k1, g2, fun ro E a w r fe fo Q hQ => ?_⟩
      simp only [wpListIn]
      rw [wants_ok hw (fun _ _ _ _ _ => rfl) fo, if_neg (by simp)]
      exact ⟨fun _ _ => trivial, o2 ro E _ w r fe (fo.putD hN rfl) Q hQ⟩
/-! ### code -/
def Run (P : Program) (W0 : World) (N : Nat) (c : Code) (fr : Tr SV) (h : HS) (Q : X → Tr SV → HS → Prop) : Prop :=
  ∃ x fr' h', Q x fr' h' ∧ Goes h h' ∧ CodeOk P W0 N false c fr h x fr' h'
/-- Loops, by those who know them. -/
abbrev LoopK := Code → Tr SV → HS → KX → Bool
def LoopSound (P : Program) (W0 : World) (N : Nat) (lp : LoopK) : Prop := ∀ b fr h k, lp b fr h k = true → Run P W0 N (.loop b) fr h fun x fr' h' => k x fr' h' = true
noncomputable def noLp : LoopK := fun _ _ _ _ => false
theorem noLp_ok {N : Nat} : LoopSound P W0 N noLp := fun _ _ _ _ h => by cases h
noncomputable def dCode (P : Program) (call : CallK) (N : Nat) (lp : LoopK) (c : Code) : Tr SV → HS → KX → Bool :=
  Code.rec (motive := fun _ => Tr SV → HS → KX → Bool)
    (fun fr h k => k .normal fr h)
    (fun _ ops draw fr h k => bif draw then (bif drawOk ops then (drawRC P N ops).f call fr h (k .normal) else false) else dOps P call N ops ops.toList fr h (k .normal))
    (fun _ _ ia ib fr h k => ia fr h fun x fr' h' => X.rec (ib fr' h' k) (fun id => k (.exit id) fr' h') (k .ret fr' h') (fun v => k (.panic v) fr' h') x)
    (fun c _ _ ia ib fr h k => match opd fr c with
      | .bool z => bif z then ia fr h k else ib fr h k
      | _ => false)
    (fun id _ ib fr h k => ib fr h fun x fr' h' => X.rec (k .normal fr' h') (fun j => bif Nat.beq j id then k .normal fr' h' else k (.exit j) fr' h') (k .ret fr' h') (fun v => k (.panic v) fr' h') x)
    (fun b _ fr h k => lp b fr h k)
    (fun _ _ _ _ _ _ _ _ _ => false)
    (fun id fr h k => k (.exit id) fr h)
    (fun _ ib => ib)
    (fun _ fr h k => k .normal fr h)
    (fun _ _ _ _ => false)
    (fun fr h k => k .ret fr h)
    (fun _ _ _ _ => false) c
theorem Run.seq' {N : Nat} {a b : Code} {fr : Tr SV} {h : HS} {Q : X → Tr SV → HS → Prop} (hr : Run P W0 N a fr h fun x fr' h' => match x with
    | .normal => Run P W0 N b fr' h' Q
    | x => Q x fr' h') : Run P W0 N (.seq a b) fr h Q := by
  obtain ⟨x1, fr1, h1, k1, g1, c1⟩ := hr
  cases x1 with
  | normal =>
    obtain ⟨x2, fr2, h2, k2, g2, c2⟩ := k1
    refine ⟨x2, fr2, h2, k2, g1.trans g2, fun ro E a w r fe fo Q hQ => wpIn_seq (c1 ro E a w r (fe.left g2.nx g2.ne) fo _ fun E' a' w' r' st fo' e he => ?_)⟩
    have he : e = .normal := he
    subst he
    exact c2 ro E' a' w' r' (fe.right st g1.nx g1.ne) fo' Q fun E2 a2 w2 r2 st2 fo2 => hQ E2 a2 w2 r2 (Step.trans g1 g2 st st2) fo2
  | exit id => exact ⟨.exit id, fr1, h1, k1, g1, fun ro E a w r fe fo Q hQ => wpIn_seq (c1 ro E a w r fe fo _ fun E' a' w' r' st fo' e he => by have he : e = .exit id := he; subst he; exact hQ E' a' w' r' st fo' _ rfl)⟩
  | ret => exact ⟨.ret, fr1, h1, k1, g1, fun ro E a w r fe fo Q hQ => wpIn_seq (c1 ro E a w r fe fo _ fun E' a' w' r' st fo' e he => by have he : e = .ret := he; subst he; exact hQ E' a' w' r' st fo' _ rfl)⟩
  | panic s => exact ⟨.panic s, fr1, h1, k1, g1, fun ro E a w r fe fo Q hQ => wpIn_seq (c1 ro E a w r fe fo _ fun E' a' w' r' st fo' e he => by have q := hQ E' a' w' r' st fo' e he; obtain ⟨v, _, he⟩ := he; subst he; exact q)⟩
theorem Run.block' {N : Nat} {id : Nat} {b : Code} {fr : Tr SV} {h : HS} {Q : X → Tr SV → HS → Prop} (hr : Run P W0 N b fr h fun x fr' h' => match x with
    | .exit j => if j = id then Q .normal fr' h' else Q (.exit j) fr' h'
    | x => Q x fr' h') : Run P W0 N (.block id b) fr h Q := by
  obtain ⟨x1, fr1, h1, k1, g1, c1⟩ := hr
  cases x1 with
  | normal => exact ⟨.normal, fr1, h1, k1, g1, fun ro E a w r fe fo Q hQ => wpIn_block (c1 ro E a w r fe fo _ fun E' a' w' r' st fo' e he => by have he : e = .normal := he; subst he; exact hQ E' a' w' r' st fo' _ rfl)⟩
  | ret => exact ⟨.ret, fr1, h1, k1, g1, fun ro E a w r fe fo Q hQ => wpIn_block (c1 ro E a w r fe fo _ fun E' a' w' r' st fo' e he => by have he : e = .ret := he; subst he; exact hQ E' a' w' r' st fo' _ rfl)⟩
  | panic s => exact ⟨.panic s, fr1, h1, k1, g1, fun ro E a w r fe fo Q hQ => wpIn_block (c1 ro E a w r fe fo _ fun E' a' w' r' st fo' e he => by have q := hQ E' a' w' r' st fo' e he; obtain ⟨v, _, he⟩ := he; subst he; exact q)⟩
  | exit j =>
    by_cases e : j = id
    · simp only [e, if_true] at k1
      refine ⟨.normal, fr1, h1, k1, g1, fun ro E a w r fe fo Q hQ => wpIn_block (c1 ro E a w r fe fo _ fun E' a' w' r' st fo' e2 he => ?_)⟩
      have he : e2 = .exit j := he
      subst he
      show (if j = id then Q .normal a' w' else Q (.exit j) a' w')
      rw [if_pos e]
      exact hQ E' a' w' r' st fo' _ rfl
    · simp only [e, if_false] at k1
      refine ⟨.exit j, fr1, h1, k1, g1, fun ro E a w r fe fo Q hQ => wpIn_block (c1 ro E a w r fe fo _ fun E' a' w' r' st fo' e2 he => ?_)⟩
      have he : e2 = .exit j := he
      subst he
      show (if j = id then Q .normal a' w' else Q (.exit j) a' w')
      rw [if_neg e]
      exact hQ E' a' w' r' st fo' _ rfl
theorem Run.mono {N : Nat} {c : Code} {fr : Tr SV} {h : HS} {Q Q' : X → Tr SV → HS → Prop} (hr : Run P W0 N c fr h Q) (hq : ∀ x fr' h', Q x fr' h' → Q' x fr' h') : Run P W0 N c fr h Q' := by
  obtain ⟨x, fr', h', a, b⟩ := hr
  exact ⟨x, fr', h', hq _ _ _ a, b⟩
theorem dCode_ok {call : CallK} (hc : CallSound P W0 call) (hm : P.follows .mixedOrders = true) {N : Nat} {lp : LoopK} (hl : LoopSound P W0 N lp) (c : Code) : ∀ (fr : Tr SV) (h : HS) (k : KX), dCode P call N lp c fr h k = true → Run P W0 N c fr h fun x fr' h' => k x fr' h' = true := by
  induction c with
  | skip => intro fr h k hk; exact ⟨.normal, fr, h, hk, Goes.refl h, fun ro E a w r _ fo Q hQ => wpIn_skip (hQ E a w r (Step.refl _ _ _ _ _ _) fo _ rfl)⟩
  | label l => intro fr h k hk; exact ⟨.normal, fr, h, hk, Goes.refl h, fun ro E a w r _ fo Q hQ => wpIn_label (hQ E a w r (Step.refl _ _ _ _ _ _) fo _ rfl)⟩
  | exit id => intro fr h k hk; exact ⟨.exit id, fr, h, hk, Goes.refl h, fun ro E a w r _ fo Q hQ => wpIn_exit (hQ E a w r (Step.refl _ _ _ _ _ _) fo _ rfl)⟩
  | ret => intro fr h k hk; exact ⟨.ret, fr, h, hk, Goes.refl h, fun ro E a w r _ fo Q hQ => wpIn_ret (hQ E a w r (Step.refl _ _ _ _ _ _) fo _ rfl)⟩
  | rangeFunc g ps as bd _ _ => intro fr h k hk; cases hk
  | goto l => intro fr h k hk; cases hk
  | refuse w => intro fr h k hk; cases hk
  | loop b _ => intro fr h k hk; exact hl b fr h k hk
  | scope b ib =>
    intro fr h k hk
    obtain ⟨x, fr', h', k1, g, ok⟩ := ib fr h k hk
    refine ⟨x, fr', h', k1, g, fun ro E a w r fe fo Q hQ => wpIn_scope_straight (ok ro E a w r fe fo _ fun E' a' w' r' st fo' e he => ?_)⟩
    have := hQ E' a' w' r' st fo' e he
    cases x with
    | normal => have he : e = .normal := he; subst he; exact this
    | exit id => have he : e = .exit id := he; subst he; exact this
    | ret => have he : e = .ret := he; subst he; exact this
    | panic s => obtain ⟨v, _, he⟩ := he; subst he; exact this
  | region id ops draw =>
    intro fr h k hk
    cases draw with
    | true =>
      have hk : (bif drawOk ops then (drawRC P N ops).f call fr h (k .normal) else false) = true := hk
      obtain ⟨h1, hk⟩ := bif_true hk
      obtain ⟨fr', h', k1, g, ok⟩ := drawRD_ok (W0 := W0) hc hm h1 hk
      exact ⟨.normal, fr', h', k1, g, fun ro E a w r fe fo Q hQ => ok ro.1 id E a w r fe fo Q fun E' a' w' r' st fo' => hQ E' a' w' r' st fo' _ rfl⟩
    | false =>
      obtain ⟨fr', h', k1, g, ok⟩ := dOps_ok (W0 := W0) hc ops.toList fr h (k .normal) hk
      exact ⟨.normal, fr', h', k1, g, fun ro E a w r fe fo Q hQ => wpIn_region_list (ok ro.1 E a w r fe fo Q fun E' a' w' r' st fo' => hQ E' a' w' r' st fo' _ rfl)⟩
  | seq x y ix iy =>
    intro fr h k hk
    refine Run.seq' ((ix _ _ _ hk).mono fun z fr' h' hz => ?_)
    cases z with
    | normal => exact iy _ _ _ hz
    | exit id => exact hz
    | ret => exact hz
    | panic s => exact hz
  | block id x ix =>
    intro fr h k hk
    refine Run.block' ((ix _ _ _ hk).mono fun z fr' h' hz => ?_)
    cases z with
    | normal => exact hz
    | exit j =>
      have hz : (bif Nat.beq j id then k .normal fr' h' else k (.exit j) fr' h') = true := hz
      rw [Tr.bif_beq] at hz
      show (if j = id then k .normal fr' h' = true else k (.exit j) fr' h' = true)
      split
      · rename_i e; rw [if_pos e] at hz; exact hz
      · rename_i e; rw [if_neg e] at hz; exact hz
    | ret => exact hz
    | panic s => exact hz
  | cond c x y ix iy =>
    intro fr h k hk
    have hk : (match opd fr c with
      | .bool z => bif z then dCode P call N lp x fr h k else dCode P call N lp y fr h k
      | _ => false) = true := hk
    split at hk
    case h_2 => cases hk
    rename_i z hz
    cases z with
    | true =>
      obtain ⟨x1, fr1, h1, k1, g1, c1⟩ := ix _ _ _ hk
      refine ⟨x1, fr1, h1, k1, g1, fun ro E a w r fe fo Q hQ => wpIn_cond_true ?_ (c1 ro E a w r fe fo Q hQ)⟩
      have := opd_ok fo c
      rw [hz] at this
      exact (Option.some.inj this).symm
    | false =>
      obtain ⟨x1, fr1, h1, k1, g1, c1⟩ := iy _ _ _ hk
      refine ⟨x1, fr1, h1, k1, g1, fun ro E a w r fe fo Q hQ => wpIn_cond_false ?_ (c1 ro E a w r fe fo Q hQ)⟩
      have := opd_ok fo c
      rw [hz] at this
      exact (Option.some.inj this).symm
/-- Frames that say the same. -/
theorem FrOk.same {E : Env} {fr fr' : Tr SV} {N : Nat} {a : Act} (h : ∀ t, opd fr (.tmp t) = opd fr' (.tmp t)) (k : FrOk E fr N a) : FrOk E fr' N a :=
  ⟨k.size, by have := h N; simp only [opd] at this; rw [← this]; exact k.defers, fun t => by have := h t; simp only [opd] at this; rw [← this]; exact k.get t⟩
theorem Run.frame {N : Nat} {c : Code} {fr fr2 : Tr SV} {h : HS} {Q : X → Tr SV → HS → Prop} (e : ∀ t, opd fr (.tmp t) = opd fr2 (.tmp t)) (hr : Run P W0 N c fr2 h Q) : Run P W0 N c fr h Q := by
  obtain ⟨x, fr', h', a, b, c⟩ := hr
  exact ⟨x, fr', h', a, b, fun ro E a w r fe fo Q hQ => c ro E a w r fe (fo.same e) Q hQ⟩
/-- A loop, by a measure over what its rounds come to. -/
theorem Run.loop {α : Type} {N : Nat} {b : Code} {S : α → Tr SV × HS} {m : α → Nat} {Q : X → Tr SV → HS → Prop}
    (hb : ∀ s, Run P W0 N b (S s).1 (S s).2 fun x fr' h' => match x with
      | .normal => ∃ s', m s' < m s ∧ (fr', h') = S s'
      | x => Q x fr' h') (s : α) : Run P W0 N (.loop b) (S s).1 (S s).2 Q := by
  have key : ∀ (n : Nat) (s : α), m s ≤ n → ∃ x fr' h', Q x fr' h' ∧ Goes (S s).2 h' ∧ ∀ (ro : { r : Option Nat // false = true ∨ r = none }) E a w, Rel W0 E (S s).2.hp.get w → Free E (S s).2.nx h'.nx (S s).2.ne h'.ne → FrOk E (S s).1 N a → ∀ Q : Exit → Act → World → Prop,
      (∀ E' a' w', Rel W0 E' h'.hp.get w' → Step (S s).2.bar (S s).2.hp.get (S s).2.nx h'.nx (S s).2.ne h'.ne E E' w w' → FrOk E' fr' N a' → ∀ e, XOk E' x e → Q e a' w') → Code.roundsIn (Fw ro.1) 0 P b Q (n + 1) a w := by
    intro n
    induction n with
    | zero =>
      intro s hs
      obtain ⟨x, fr', h', q, g, c⟩ := hb s
      cases x with
      | normal => obtain ⟨s', h1, _⟩ := q; omega
      | exit id =>
        refine ⟨_, fr', h', q, g, fun ro E a w r fe fo Q hQ => ?_⟩
        rw [roundsIn_succ]
        exact c ro E a w r fe fo _ fun E' a' w' r' st fo' e he => by have he : e = .exit id := he; subst he; exact hQ E' a' w' r' st fo' _ rfl
      | ret =>
        refine ⟨_, fr', h', q, g, fun ro E a w r fe fo Q hQ => ?_⟩
        rw [roundsIn_succ]
        exact c ro E a w r fe fo _ fun E' a' w' r' st fo' e he => by have he : e = .ret := he; subst he; exact hQ E' a' w' r' st fo' _ rfl
      | panic s =>
        refine ⟨_, fr', h', q, g, fun ro E a w r fe fo Q hQ => ?_⟩
        rw [roundsIn_succ]
        exact c ro E a w r fe fo _ fun E' a' w' r' st fo' e he => by have q := hQ E' a' w' r' st fo' e he; obtain ⟨v, _, he⟩ := he; subst he; exact q
    | succ n ih =>
      intro s hs
      obtain ⟨x, fr', h', q, g, c⟩ := hb s
      cases x with
      | normal =>
        obtain ⟨s', h1, h2⟩ := q
        obtain ⟨x2, fr2, h3, q2, g2, c2⟩ := ih s' (by omega)
        rw [← h2] at g2 c2
        simp only at g2 c2
        refine ⟨x2, fr2, h3, q2, g.trans g2, fun ro E a w r fe fo Q hQ => ?_⟩
        rw [roundsIn_succ]
        refine c ro E a w r (fe.left g2.nx g2.ne) fo _ fun E' a' w' r' st fo' e he => ?_
        have he : e = .normal := he
        subst he
        exact c2 ro E' a' w' r' (fe.right st g.nx g.ne) fo' Q fun E2 a2 w2 r2 st2 fo2 => hQ E2 a2 w2 r2 (Step.trans g g2 st st2) fo2
      | exit id =>
        refine ⟨_, fr', h', q, g, fun ro E a w r fe fo Q hQ => ?_⟩
        rw [roundsIn_succ]
        exact c ro E a w r fe fo _ fun E' a' w' r' st fo' e he => by have he : e = .exit id := he; subst he; exact hQ E' a' w' r' st fo' _ rfl
      | ret =>
        refine ⟨_, fr', h', q, g, fun ro E a w r fe fo Q hQ => ?_⟩
        rw [roundsIn_succ]
        exact c ro E a w r fe fo _ fun E' a' w' r' st fo' e he => by have he : e = .ret := he; subst he; exact hQ E' a' w' r' st fo' _ rfl
      | panic s =>
        refine ⟨_, fr', h', q, g, fun ro E a w r fe fo Q hQ => ?_⟩
        rw [roundsIn_succ]
        exact c ro E a w r fe fo _ fun E' a' w' r' st fo' e he => by have q := hQ E' a' w' r' st fo' e he; obtain ⟨v, _, he⟩ := he; subst he; exact q
  obtain ⟨x, fr', h', q, g, c⟩ := key (m s) s (Nat.le_refl _)
  exact ⟨x, fr', h', q, g, fun ro E a w r fe fo Q hQ => wpIn_loop_rounds (m s + 1) (c ro E a w r fe fo Q hQ)⟩
end Go.Proofs.YtgoccionghehoaaGreatDoor.Ev
namespace Go.Proofs.YtgoccionghehoaaGreatDoor.Ev
open Go

variable [GTab] {P : Program} {W0 : World} [GOk W0]
theorem load_var {t : TypeId} {fr : Tr SV} {g : Tr SO} {a : Nat} {k : SV → Bool} (hk : rdLoad P t fr g (.tmp a) k = true) : ∃ sv, k sv = true ∧ ∀ E N act w, Rel W0 E g.get w → FrOk E fr N act → ∃ v, val E sv = some v ∧ (asAddr (act.tmps.getD a undef) >>= loadVar t).run P w = .ok v w := by
  let o : Oper := { dst := none, op := .load t (.tmp a), type := 0, pos := "", after := #[], guard := none }
  obtain ⟨sv, k1, k2⟩ := rdLoad_ok (W0 := W0) (o := o) rfl hk
  refine ⟨sv, k1, fun E N act w r f => ?_⟩
  obtain ⟨v, e1, e2⟩ := k2 E N act w r f
  refine ⟨v, e1, ?_⟩
  have e3 : (do pure (Next.value (← Instr.loadAt t (act.tmps.getD a undef))) : Sem Next).run P w = .ok (.value v) w := e2
  simp only [Sem.run_bind] at e3 ⊢
  unfold Instr.loadAt at e3
  simp only [Sem.run_bind] at e3
  -- the address is one
  have hp := opd_ok f (.tmp a)
  have hA : ∃ A, act.tmps.getD a undef = .pointer (some A) := by
    unfold rdLoad at hk
    rw [opdK_eq] at hk
    split at hk
    · rename_i id off hpt
      rw [hpt] at hp
      simp only [val, Option.map_eq_some_iff] at hp
      obtain ⟨s, hs, hp⟩ := hp
      exact ⟨_, hp.symm⟩
    · rename_i b o hpt
      rw [hpt] at hp
      simp only [val, Option.some.injEq] at hp
      exact ⟨_, hp.symm⟩
    · cases hk
  obtain ⟨A, hp'⟩ := hA
  rw [hp'] at e3 ⊢
  simp only [Instr.sureAddr, asAddr, Sem.run_pure, Result.andThen] at e3 ⊢
  cases hl : (loadVar t A).run P w with
  | ok x w' =>
    rw [hl] at e3
    simp only [Sem.run_pure, Result.ok.injEq, Next.value.injEq] at e3
    rw [e3.1, e3.2]
  | halt x w' => rw [hl] at e3; cases e3
def resV (tmps : Array Value) : ResultVar → Sem Value
  | .tmp t => pure (tmps.getD t undef)
  | .cell a t => do loadVar t (← asAddr (tmps.getD a undef))
theorem resK_ok {fr : Tr SV} {g : Tr SO} (rs : List ResultVar) : ∀ {k : List SV → Bool}, resK P fr g rs k = true → ∃ l, k l = true ∧ ∀ E N a w, Rel W0 E g.get w → FrOk E fr N a → ∃ vl, vals E l = some vl ∧ (rs.mapM (resV a.tmps)).run P w = .ok vl w := by
  induction rs with
  | nil => intro k hk; exact ⟨[], hk, fun E N a w _ _ => ⟨[], rfl, rfl⟩⟩
  | cons v r ih =>
    intro k hk
    cases v with
    | tmp t =>
      simp only [resK, opdK_eq] at hk
      obtain ⟨l, k1, k2⟩ := ih hk
      refine ⟨_, k1, fun E N a w rel f => ?_⟩
      obtain ⟨vl, e1, e2⟩ := k2 E N a w rel f
      have hp := opd_ok f (.tmp t)
      refine ⟨a.eval (.tmp t) :: vl, by simp [vals, hp, e1], ?_⟩
      simp [List.mapM_cons, resV, Sem.run_bind, Result.andThen, e2, Act.eval]
    | cell x t =>
      simp only [resK] at hk
      obtain ⟨sv, hk, h1⟩ := load_var (W0 := W0) hk
      obtain ⟨l, k1, k2⟩ := ih hk
      refine ⟨_, k1, fun E N a w rel f => ?_⟩
      obtain ⟨vl, e1, e2⟩ := k2 E N a w rel f
      obtain ⟨v, e3, e4⟩ := h1 E N a w rel f
      refine ⟨v :: vl, by simp [vals, e3, e1], ?_⟩
      rw [List.mapM_cons]
      have e5 : (resV a.tmps (.cell x t)).run P w = .ok v w := e4
      simp [Sem.run_bind, Result.andThen, e5, e2]
def oneOf : List Value → Value
  | [v] => v
  | vl => .tuple vl.toArray
theorem results_run {fn : Func} {tmps : Array Value} {w : World} {vl : List Value} (h : (fn.results.toList.mapM (resV tmps)).run P w = .ok vl w) : (results fn tmps).run P w = .ok (oneOf vl) w := by
  have e : results fn tmps = (fn.results.mapM (resV tmps) >>= fun vs => pure (if h : vs.size = 1 then vs[0] else .tuple vs)) := rfl
  rw [e, Array.mapM_eq_mapM_toList]
  simp only [Sem.run_bind, map_eq_pure_bind, h, Result.andThen, Sem.run_pure]
  cases vl with
  | nil => rfl
  | cons v r => cases r with
    | nil => rfl
    | cons u r => simp [oneOf]
theorem get_args (l : List SV) (E : Env) (vl : List Value) (hv : vals E l = some vl) (m : Nat) : FrOk E (trOf l 0 .e) (l.length + (m - l.length)) { tmps := vl.toArray ++ Array.replicate (m - vl.toArray.size) undef, defers := [] } := by
  have len : ∀ (l : List SV) (vl : List Value), vals E l = some vl → vl.length = l.length := by
    intro l
    induction l with
    | nil => intro vl h; simp only [vals, Option.some.injEq] at h; subst h; rfl
    | cons s r ih =>
      intro vl h
      simp only [vals, Option.bind_eq_some_iff, Option.map_eq_some_iff] at h
      obtain ⟨x, _, y, hy, rfl⟩ := h
      simp [ih y hy]
  have at_ : ∀ (l : List SV) (vl : List Value), vals E l = some vl → ∀ (i : Nat) (s : SV), l[i]? = some s → ∃ v, vl[i]? = some v ∧ val E s = some v := by
    intro l
    induction l with
    | nil => intro vl _ i s hs; simp at hs
    | cons s r ih =>
      intro vl h i s' hs
      simp only [vals, Option.bind_eq_some_iff, Option.map_eq_some_iff] at h
      obtain ⟨x, hx, y, hy, rfl⟩ := h
      cases i with
      | zero =>
        simp only [List.getElem?_cons_zero, Option.some.injEq] at hs
        subst hs
        exact ⟨x, rfl, hx⟩
      | succ i =>
        simp only [List.getElem?_cons_succ] at hs ⊢
        exact ih y hy i s' hs
  have hl := len l vl hv
  refine ⟨by simp [hl], by rw [get_trOf, if_neg (by omega), Tr.get_e]; rfl, fun t => ?_⟩
  rw [get_trOf]
  by_cases h : t < l.length
  · rw [if_pos ⟨Nat.zero_le _, by omega⟩, Nat.sub_zero]
    have hs : l[t]? = some l[t] := List.getElem?_eq_getElem h
    obtain ⟨v, e1, e2⟩ := at_ l vl hv t _ hs
    rw [hs]
    simp only [Option.getD_some, e2, Option.some.injEq]
    have ht : t < vl.length := by omega
    have ev : vl[t] = v := by rw [List.getElem?_eq_getElem ht] at e1; exact Option.some.inj e1
    rw [Array.getD_eq_getD_getElem?, Array.getElem?_append_left (by simpa using ht)]
    simp [ht, ev]
  · rw [if_neg (by omega), Tr.get_e]
    simp only [Option.getD_none, val, Option.some.injEq]
    rw [Array.getD_eq_getD_getElem?, Array.getElem?_append_right (by simp; omega)]
    simp only [Array.getElem?_replicate]
    split <;> rfl

/-- The slots of a function at its start. -/
noncomputable def slots (l : List SV) : Tr SV := trOf l 0 .e
theorem opd_slots (l : List SV) (t : Nat) : opd (slots l) (.tmp t) = l.getD t (.lit undef) := by
  simp only [opd, slots]
  rw [get_trOf]
  by_cases h : t < l.length
  · rw [if_pos ⟨Nat.zero_le _, by omega⟩, Nat.sub_zero, List.getD_eq_getElem?_getD]
  · rw [if_neg (by omega), Tr.get_e, List.getD_eq_getElem?_getD, List.getElem?_eq_none (by omega)]
theorem opd_start (l : List SV) (m : Nat) (t : Nat) : opd (trOf l 0 .e) (.tmp t) = opd (slots (l ++ List.replicate m (.lit undef))) (.tmp t) := by
  rw [show opd (trOf l 0 .e) (.tmp t) = opd (slots l) (.tmp t) from rfl, opd_slots, opd_slots]
  by_cases h : t < l.length
  · rw [List.getD_eq_getElem?_getD, List.getD_eq_getElem?_getD, List.getElem?_append_left h]
  · rw [List.getD_eq_getElem?_getD, List.getD_eq_getElem?_getD, List.getElem?_append_right (by omega), List.getElem?_eq_none (by omega)]
    simp only [List.getElem?_replicate, Option.getD_none]
    split <;> rfl
def oneSV (r : List SV) : SV := match r with | [s] => s | r => .tup r
def isMks : SV → Bool | .mks _ => true | _ => false
theorem call_of_run' {f : FuncId} {fn : Func} {c : Code} {l : List SV} {h h' : HS} {sv : SV} (hfn : P.funcs[f]? = some fn) (hb : fn.body = some c)
    (hr : Run P W0 (l.length + (fn.ntmps - l.length)) c (slots (l ++ List.replicate (fn.ntmps - l.length) (.lit undef))) h fun x fr' h1 => (x = .normal ∨ x = .ret) ∧ isMks (opd fr' (.tmp (l.length + (fn.ntmps - l.length)))) = false ∧ h1 = h' ∧ ∃ r, oneSV r = sv ∧ ∀ E N a w, Rel W0 E h1.hp.get w → FrOk E fr' N a → ∃ vl, vals E r = some vl ∧ (fn.results.toList.mapM (resV a.tmps)).run P w = .ok vl w) :
    Goes h h' ∧ CallOk P W0 f l h h' sv := by
  obtain ⟨x, fr', h1, ⟨hx, hmk, rfl, r, rfl, hres⟩, g, ok⟩ := Run.frame (opd_start l (fn.ntmps - l.length)) hr
  refine ⟨g, fun E w vl rel fe hv R hR => ?_⟩
  have k3 := hres
  obtain ⟨r', rfl⟩ : ∃ r', r' = r := ⟨_, rfl⟩
  refine (callsIn_wide (n := 0)).1 (callsIn_of_wp_marks hfn hb trivial (ok ⟨none, .inr rfl⟩ E _ w rel fe (get_args l E vl hv fn.ntmps) _ fun E' a' w' r1 st fo' e he => ?_))
  have hd : a'.defers = [] := by
    have := fo'.defers
    unfold DefOk at this
    split at this
    · rename_i l' hl
      rw [show opd fr' (.tmp (l.length + (fn.ntmps - l.length))) = .mks l' from hl] at hmk
      cases hmk
    · exact this
  obtain ⟨ul, e1, e2⟩ := k3 E' _ a' w' r1 fo'
  have hsv : val E' (oneSV r') = some (oneOf ul) := by
    match r', e1 with
    | [s], e1 =>
      simp only [vals, Option.bind_eq_some_iff, Option.map_eq_some_iff] at e1
      obtain ⟨x, hx, y, hy, rfl⟩ := e1
      simp only [Option.some.injEq] at hy
      subst hy
      exact hx
    | [], e1 =>
      simp only [vals, Option.some.injEq] at e1
      subst e1
      rfl
    | s :: u :: q, e1 =>
      have e' := e1
      simp only [vals, Option.bind_eq_some_iff, Option.map_eq_some_iff] at e1
      obtain ⟨x, hx, y, ⟨z, hz, t, ht, rfl⟩, rfl⟩ := e1
      simp only [oneSV, val, e', Option.map_some, oneOf]
  have main : LeavesInM Fence.wide 0 P fn a'.tmps R a'.defers .returning w' := by
    rw [hd]
    exact ⟨_, results_run e2, hR E' _ w' hsv r1 st⟩
  rcases hx with rfl | rfl
  · have he : e = .normal := he
    subst he
    exact main
  · have he : e = .ret := he
    subst he
    exact main
end Go.Proofs.YtgoccionghehoaaGreatDoor.Ev
namespace Go.Proofs.YtgoccionghehoaaGreatDoor.Ev
open Go

variable [GTab] {P : Program} {W0 : World} [GOk W0]
mutual
/-- No object's number stands in it. -/
def own0 : SV → Bool
  | .bool _ => true
  | .int _ _ => true
  | .lit _ => true
  | .mks _ => true
  | .esl _ _ _ _ => true
  | .epl _ _ _ _ => true
  | .rng _ _ _ => true
  | .fn _ a b => own0s a && own0s b
  | .iface _ v => own0 v
  | .agg l => own0s l
  | .tup l => own0s l
  | _ => false
def own0s : List SV → Bool
  | [] => true
  | s :: r => own0 s && own0s r
end
mutual
theorem val_own0 {E E' : Env} (h : ∀ j, E'.emp j = E.emp j) : ∀ (s : SV), own0 s = true → val E' s = val E s
  | .bool _, _ => rfl
  | .int _ _, _ => rfl
  | .lit _, _ => rfl
  | .mks _, _ => rfl
  | .esl j c off len, _ => by simp only [val, h]
  | .epl j c i r, _ => by simp only [val, h]
  | .fn f a b, e => by
    simp only [own0, Bool.and_eq_true] at e
    simp only [val, vals_own0 h a e.1, vals_own0 h b e.2]
  | .iface t v, e => by simp only [val, val_own0 h v e]
  | .agg l, e => by simp only [val, vals_own0 h l e]
  | .tup l, e => by simp only [val, vals_own0 h l e]
  | .rng _ _ _, _ => rfl
  | .sla _ _, e => by cases e
  | .ptr _ _, e => by cases e
  | .sl _ _ _ _, e => by cases e
  | .slr _ _ _ _, e => by cases e
  | .emp _ _ _ _, e => by cases e
  | .map _, e => by cases e
  | .yld _, e => by cases e
theorem vals_own0 {E E' : Env} (h : ∀ j, E'.emp j = E.emp j) : ∀ (l : List SV), own0s l = true → vals E' l = vals E l
  | [], _ => rfl
  | s :: r, e => by
    simp only [own0s, Bool.and_eq_true] at e
    simp only [vals, val_own0 h s e.1, vals_own0 h r e.2]
end
theorem own0_cellAt : ∀ (l : List SV) (r : Nat), own0s l = true → own0 (cellAt l r) = true
  | [], r, _ => by unfold cellAt; simp [own0]
  | s :: l, 0, h => by
    simp only [own0s, Bool.and_eq_true] at h
    exact h.1
  | s :: l, r + 1, h => by
    simp only [own0s, Bool.and_eq_true] at h
    have := own0_cellAt l r h.2
    unfold cellAt at this ⊢
    simpa using this
theorem own0_cell (c : Kt) (i r : Nat) : own0 (c.cell i r) = true := by
  cases c <;> first | rfl | exact own0_cellAt _ _ rfl
theorem FzOk.emp {E E' : Env} (h : ∀ j, E'.emp j = E.emp j) {A : Option Addr} {z : Fz} {w : World} (k : FzOk E A z w) : FzOk E' A z w :=
  ⟨k.1, k.2.1, fun i r hi hr => by
    obtain ⟨a, v, b, c, d, e⟩ := k.2.2 i r hi hr
    exact ⟨a, v, b, by rw [val_own0 h _ (own0_cell _ _ _)]; exact c, d, e⟩⟩
/-- Whatever objects there are: a call that was looked at with none. -/
theorem call_frame {f : FuncId} {l : List SV} {sv : SV} (hl : own0s l = true) (hs : own0 sv = true) (H : ∀ ne, ∃ hp nx, CallOk P W0 f l ⟨.e, 0, ne, 0⟩ ⟨hp, nx, ne, 0⟩ sv) (h : HS) : CallOk P W0 f l h h sv := by
  intro E w vl rel fe hv R hR
  obtain ⟨hp, nx, c⟩ := H h.ne
  let E0 : Env := ⟨fun _ => none, E.emp⟩
  refine c E0 w vl ⟨rel.below, fun id o e => (by cases e), fun id id' o o' s s' e => (by cases e), fun j A z e => (rel.fz j A z e).emp (E := E) (E' := E0) fun _ => rfl, fun j a z id o s _ e => (by cases e)⟩ ⟨fun _ _ _ => rfl, fun j a b => absurd b (by show ¬ j < h.ne; have a : h.ne ≤ j := a; omega)⟩ (by rw [vals_own0 (E := E) (E' := E0) (fun _ => rfl) l hl]; exact hv) R fun E1 v w' k1 r' st => ?_
  have he : ∀ j, E.emp j = E1.emp j := fun j => (st.dome j (by show ¬ (h.ne ≤ j ∧ j < h.ne); omega)).symm
  have same : ∀ k, k < w.heap.size → w'.heap[k]? = w.heap[k]? := fun k hk => st.touch k hk fun id s o _ e => (by cases e)
  refine hR E v w' (by rw [val_own0 he sv hs]; exact k1) ⟨r'.below, fun id o e => ?_, rel.inj, fun j A z e => (rel.fz j A z e).of_heap fun a ha => same _ ((rel.fz j A z e).1 a ha), rel.frz⟩ ⟨E.le_refl, fun _ _ => rfl, fun _ _ => rfl, st.size, fun k hk _ => same k hk, fun _ _ a b => absurd b (by omega), fun _ _ _ a b => absurd b (by omega)⟩
  obtain ⟨s, a, b, c⟩ := rel.obj id o e
  exact ⟨s, a, b, c.of_heap (same _ c.lt)⟩
/-- Where the arguments cannot be so, nothing is to be shown. -/
theorem call_vac {f : FuncId} {l : List SV} {h h' : HS} {sv : SV} (hv : ∀ E, vals E l = none) : CallOk P W0 f l h h' sv := fun E w vl _ _ e => by
  rw [hv] at e
  cases e
theorem val_esl_none {E : Env} {j : Nat} {c : Kt} {off len : Nat} (h : ¬ off + len ≤ c.n) : val E (.esl j c off len) = none := by
  cases e : val E (.esl j c off len) with
  | none => rfl
  | some v => obtain ⟨_, _, _, _, q, _⟩ := val_esl e; exact absurd q h
/-- Calls that hand back what is said of them, and leave the objects. -/
abbrev HTab := List (Nat × (List SV → Option SV))
noncomputable def callT (L : HTab) : CallK := fun t l h k => match t with
  | .fn f => (match L.find? fun e => Nat.beq e.1 f with
    | some e => (match e.2 l with
      | some sv => k sv h
      | none => false)
    | none => false)
  | .yl _ => false
def HTabOk (P : Program) (W0 : World) (L : HTab) : Prop := ∀ e ∈ L, ∀ l sv, e.2 l = some sv → ∀ h, CallOk P W0 e.1 l h h sv
theorem callT_ok {L : HTab} (hL : HTabOk P W0 L) : CallSound P W0 (callT L) := by
  intro t l h k hk
  cases t with
  | yl id => cases hk
  | fn f =>
    unfold callT at hk
    simp only at hk
    split at hk
    case h_2 => cases hk
    rename_i e he
    split at hk
    case h_2 => cases hk
    rename_i sv hsv
    have h1 := List.mem_of_find?_eq_some he
    have h2 : e.1 = f := Nat.eq_of_beq_eq_true (by simpa using List.find?_some he)
    exact ⟨sv, h, hk, Goes.refl h, by rw [← h2]; exact hL e h1 l sv hsv h⟩
theorem HTabOk.nil : HTabOk P W0 [] := fun e h => by cases h
theorem HTabOk.cons {f : Nat} {r : List SV → Option SV} {L : HTab} (h1 : ∀ l sv, r l = some sv → ∀ h, CallOk P W0 f l h h sv) (h2 : HTabOk P W0 L) : HTabOk P W0 ((f, r) :: L) := by
  intro e he
  rcases List.mem_cons.1 he with rfl | he
  · exact h1
  · exact h2 e he
end Go.Proofs.YtgoccionghehoaaGreatDoor.Ev
namespace Go.Proofs.YtgoccionghehoaaGreatDoor.Ev
open Go

variable [GTab] {P : Program} {W0 : World} [GOk W0]
noncomputable def bodyOf (P : Program) (f : Nat) : Code := match P.funcs[f]? with
  | some fn => fn.body.getD .skip
  | none => .skip
noncomputable def cfst : Code → Code | .seq a _ => a | _ => .skip
noncomputable def csnd : Code → Code | .seq _ b => b | _ => .skip
noncomputable def cblk : Code → Code | .block _ b => b | _ => .skip
noncomputable def cbid : Code → Nat | .block i _ => i | _ => 0
noncomputable def clp : Code → Code | .loop b => b | _ => .skip
noncomputable def cthen : Code → Code | .cond _ a _ => a | _ => .skip
noncomputable def celse : Code → Code | .cond _ _ b => b | _ => .skip
noncomputable def cscp : Code → Code | .scope b => b | _ => .skip
def isEnd : X → Bool | .normal => true | .ret => true | _ => false
/-- A function's end. -/
noncomputable def fnEnd (P : Program) (f N : Nat) (k : SV → HS → Bool) : KX := fun x fr h => match P.funcs[f]? with
  | some fn => bif isEnd x then (bif isMks (opd fr (.tmp N)) then false else resK P fr h.hp fn.results.toList fun r => k (oneSV r) h) else false
  | none => false
/-- How many slots. -/
noncomputable def nSl (P : Program) (f n : Nat) : Nat := match P.funcs[f]? with
  | some fn => n + (fn.ntmps - n)
  | none => 0
noncomputable def undefs (P : Program) (f n : Nat) : List SV := match P.funcs[f]? with
  | some fn => List.replicate (fn.ntmps - n) (.lit undef)
  | none => []
theorem call_of_body {f : FuncId} {l : List SV} {h : HS} {k : SV → HS → Bool} (hb : (match P.funcs[f]? with | some fn => fn.body.isSome | none => false) = true)
    (hr : Run P W0 (nSl P f l.length) (bodyOf P f) (slots (l ++ undefs P f l.length)) h fun x fr' h' => fnEnd P f (nSl P f l.length) k x fr' h' = true) :
    ∃ sv h', k sv h' = true ∧ Goes h h' ∧ CallOk P W0 f l h h' sv := by
  cases hfn : P.funcs[f]? with
  | none => rw [hfn] at hb; cases hb
  | some fn =>
  rw [hfn] at hb
  simp only at hb
  obtain ⟨c, hc⟩ := Option.isSome_iff_exists.1 hb
  have e1 : nSl P f l.length = l.length + (fn.ntmps - l.length) := by unfold nSl; rw [hfn]
  have e2 : bodyOf P f = c := by unfold bodyOf; rw [hfn]; simp [hc]
  have e3 : undefs P f l.length = List.replicate (fn.ntmps - l.length) (.lit undef) := by unfold undefs; rw [hfn]
  rw [e1, e2, e3] at hr
  obtain ⟨x, fr', h1, hk, g, ok⟩ := hr
  unfold fnEnd at hk
  rw [hfn] at hk
  simp only at hk
  obtain ⟨hx, hk⟩ := bif_true hk
  obtain ⟨hmk, hk⟩ := bif_false hk
  obtain ⟨r, k2, k3⟩ := resK_ok (W0 := W0) _ hk
  refine ⟨oneSV r, h1, k2, ?_⟩
  classical
  refine call_of_run' hfn hc ⟨x, fr', h1, ⟨?_, hmk, rfl, r, rfl, fun E N a w rel fo => k3 E N a w rel fo⟩, g, ok⟩
  cases x with
  | normal => exact .inl rfl
  | ret => exact .inr rfl
  | exit j => cases hx
  | panic s => cases hx
/-- Without loops: in one piece. -/
noncomputable def fnRun (P : Program) (f : Nat) (call : CallK) (l : List SV) (h : HS) (k : SV → HS → Bool) : Bool :=
  dCode P call (nSl P f l.length) noLp (bodyOf P f) (slots (l ++ undefs P f l.length)) h (fnEnd P f (nSl P f l.length) k)
theorem fnRun_ok {call : CallK} (hc : CallSound P W0 call) (hm : P.follows .mixedOrders = true) {f : FuncId} {l : List SV} {h : HS} {k : SV → HS → Bool} (hb : (match P.funcs[f]? with | some fn => fn.body.isSome | none => false) = true) (hk : fnRun P f call l h k = true) :
    ∃ sv h', k sv h' = true ∧ Goes h h' ∧ CallOk P W0 f l h h' sv :=
  call_of_body hb (dCode_ok hc hm noLp_ok _ _ _ _ hk)
/-- A call that leaves no object of its own behind: its contract. -/
theorem call_pure {f : FuncId} {l : List SV} {sv : SV} (hl : own0s l = true) (hs : own0 sv = true) (H : ∀ (ne : Nat) (q : SV → Nat → Nat → Bool), q sv ne 0 = true → ∃ sv' h', q sv' h'.ne h'.bar = true ∧ Goes ⟨.e, 0, ne, 0⟩ h' ∧ CallOk P W0 f l ⟨.e, 0, ne, 0⟩ h' sv') (h : HS) : CallOk P W0 f l h h sv := by
  refine call_frame hl hs (fun ne => ?_) h
  classical
  obtain ⟨sv', h', k1, g, c⟩ := H ne (fun s a b => decide (s = sv ∧ a = ne ∧ b = 0)) (by simp)
  obtain ⟨rfl, e1, e2⟩ := of_decide_eq_true k1
  obtain ⟨hp, nx, ne', bar⟩ := h'
  simp only at e1 e2
  subst e1 e2
  exact ⟨hp, nx, c⟩
/-- Without loops. -/
theorem pure_run {call : CallK} (hc : CallSound P W0 call) (hm : P.follows .mixedOrders = true) {f : FuncId} {l : List SV} {sv : SV} (hb : (match P.funcs[f]? with | some fn => fn.body.isSome | none => false) = true) (hl : own0s l = true) (hs : own0 sv = true)
    (H : ∀ (ne : Nat) (q : SV → Nat → Nat → Bool), q sv ne 0 = true → fnRun P f call l ⟨.e, 0, ne, 0⟩ (fun s h' => q s h'.ne h'.bar) = true) (h : HS) : CallOk P W0 f l h h sv :=
  call_pure hl hs (fun ne q hq => fnRun_ok hc hm hb (H ne q hq)) h
/-! ### loops -/
/-- Loops as they run. -/
noncomputable def lpAll (P : Program) (W0 : World) [GOk W0] (N : Nat) : LoopK := fun b fr h k => open Classical in decide (Run P W0 N (.loop b) fr h fun x fr' h' => k x fr' h' = true)
theorem lpAll_ok {N : Nat} : LoopSound P W0 N (lpAll P W0 N) := fun b fr h k hk => @of_decide_eq_true _ (Classical.propDecidable _) hk
theorem lpAll_of {N : Nat} {b : Code} {fr : Tr SV} {h : HS} {k : KX} (hr : Run P W0 N (.loop b) fr h fun x fr' h' => k x fr' h' = true) : lpAll P W0 N b fr h k = true := @decide_eq_true _ (Classical.propDecidable _) hr
/-- How many loops stand in it that stand in no loop. -/
noncomputable def nLoops (c : Code) : Nat :=
  Code.rec (motive := fun _ => Nat) 0 (fun _ _ _ => 0) (fun _ _ a b => a + b) (fun _ _ _ a b => a + b) (fun _ _ b => b) (fun _ _ => 1) (fun _ _ _ _ _ _ => 0) (fun _ => 0) (fun _ b => b) (fun _ => 0) (fun _ => 0) 0 (fun _ => 0) c
/-- The i-th of them. -/
noncomputable def loopAt (c : Code) : Nat → Code :=
  Code.rec (motive := fun _ => Nat → Code) (fun _ => .skip) (fun _ _ _ _ => .skip) (fun x _ a b i => bif Nat.blt i (nLoops x) then a i else b (i - nLoops x)) (fun _ x _ a b i => bif Nat.blt i (nLoops x) then a i else b (i - nLoops x)) (fun _ _ b => b) (fun b _ _ => b) (fun _ _ _ _ _ _ _ => .skip) (fun _ _ => .skip) (fun _ b => b) (fun _ _ => .skip) (fun _ _ => .skip) (fun _ => .skip) (fun _ _ => .skip) c
/-- What is left of it behind the i-th. -/
noncomputable def dAft (P : Program) (call : CallK) (N : Nat) (lp : LoopK) (c : Code) : Nat → X → Tr SV → HS → KX → Bool :=
  Code.rec (motive := fun _ => Nat → X → Tr SV → HS → KX → Bool)
    (fun _ _ _ _ _ => false)
    (fun _ _ _ _ _ _ _ _ => false)
    (fun x y a b i z fr h k => bif Nat.blt i (nLoops x) then a i z fr h (fun x fr' h' => X.rec (dCode P call N lp y fr' h' k) (fun id => k (.exit id) fr' h') (k .ret fr' h') (fun v => k (.panic v) fr' h') x) else b (i - nLoops x) z fr h k)
    (fun _ x _ a b i z fr h k => bif Nat.blt i (nLoops x) then a i z fr h k else b (i - nLoops x) z fr h k)
    (fun id _ b i z fr h k => b i z fr h fun x fr' h' => X.rec (k .normal fr' h') (fun j => bif Nat.beq j id then k .normal fr' h' else k (.exit j) fr' h') (k .ret fr' h') (fun v => k (.panic v) fr' h') x)
    (fun _ _ _ z fr h k => k z fr h)
    (fun _ _ _ _ _ _ _ _ _ _ _ => false)
    (fun _ _ _ _ _ _ => false)
    (fun _ b => b)
    (fun _ _ _ _ _ _ => false)
    (fun _ _ _ _ _ _ => false)
    (fun _ _ _ _ _ => false)
    (fun _ _ _ _ _ _ => false) c
/-- A function's body from its start, with loops as they run. -/
noncomputable def fnRunL (P : Program) (f : Nat) (call : CallK) (lp : LoopK) (l : List SV) (h : HS) (k : KX) : Bool :=
  dCode P call (nSl P f l.length) lp (bodyOf P f) (slots (l ++ undefs P f l.length)) h k
theorem pure_runL {call : CallK} (hc : CallSound P W0 call) (hm : P.follows .mixedOrders = true) {f : FuncId} {l : List SV} {sv : SV} (hb : (match P.funcs[f]? with | some fn => fn.body.isSome | none => false) = true) (hl : own0s l = true) (hs : own0 sv = true)
    (H : ∀ (ne : Nat) (q : SV → Nat → Nat → Bool), q sv ne 0 = true → fnRunL P f call (lpAll P W0 (nSl P f l.length)) l ⟨.e, 0, ne, 0⟩ (fnEnd P f (nSl P f l.length) fun s h' => q s h'.ne h'.bar) = true) (h : HS) : CallOk P W0 f l h h sv :=
  call_pure hl hs (fun ne q hq => call_of_body hb (dCode_ok hc hm lpAll_ok _ _ _ _ (H ne q hq))) h
theorem vals_mem {E : Env} {l : List SV} : ∀ {vl : List Value}, vals E l = some vl → ∀ {s : SV}, s ∈ l → ∃ v, val E s = some v := by
  induction l with
  | nil => intro vl _ s hm; cases hm
  | cons x r ih =>
    intro vl hv s hm
    simp only [vals, Option.bind_eq_some_iff, Option.map_eq_some_iff] at hv
    obtain ⟨v, hx, y, hy, _⟩ := hv
    rcases List.mem_cons.1 hm with rfl | hm
    · exact ⟨v, hx⟩
    · exact ih hy hm
/-- What the arguments' lengths allow to take for granted. -/
theorem call_esl {f : FuncId} {l : List SV} {h h' : HS} {sv : SV} {j : Nat} {c : Kt} {off len : Nat} (hm : .esl j c off len ∈ l) (hc : off + len ≤ c.n → c.n ≤ 140737488351232 → CallOk P W0 f l h h' sv) : CallOk P W0 f l h h' sv := by
  intro E w vl rel fe hv
  obtain ⟨v, hv'⟩ : ∃ v, val E (.esl j c off len) = some v := vals_mem hv hm
  obtain ⟨A, z, e1, e2, e3, _⟩ := val_esl hv'
  subst e2
  exact hc e3 (rel.fz _ _ _ e1).2.1.2 E w vl rel fe hv
end Go.Proofs.YtgoccionghehoaaGreatDoor.Ev
namespace Go.Proofs.YtgoccionghehoaaGreatDoor.Ev
open Go

variable [GTab] {P : Program} {W0 : World} [GOk W0]
noncomputable def hasBody (P : Program) (f : Nat) : Bool := match P.funcs[f]? with | some fn => fn.body.isSome | none => false
/-- n calls deep. -/
noncomputable def callI (P : Program) (L : HTab) : Nat → CallK
  | 0 => callT L
  | n + 1 => fun t l h k => match t with
    | .fn f => (match L.find? fun e => Nat.beq e.1 f with
      | some e => (match e.2 l with
        | some sv => k sv h
        | none => false)
      | none => bif hasBody P f then fnRun P f (callI P L n) l h k else false)
    | .yl _ => false
theorem callI_ok {L : HTab} (hL : HTabOk P W0 L) (hm : P.follows .mixedOrders = true) : ∀ n, CallSound P W0 (callI P L n)
  | 0 => callT_ok hL
  | n + 1 => by
    intro t l h k hk
    cases t with
    | yl id => cases hk
    | fn f =>
      unfold callI at hk
      simp only at hk
      split at hk
      case h_2 =>
        obtain ⟨hb, hk⟩ := bif_true hk
        exact fnRun_ok (callI_ok hL hm n) hm hb hk
      rename_i e he
      split at hk
      case h_2 => cases hk
      rename_i sv hsv
      have h1 := List.mem_of_find?_eq_some he
      have h2 : e.1 = f := Nat.eq_of_beq_eq_true (by simpa using List.find?_some he)
      exact ⟨sv, h, hk, Goes.refl h, by rw [← h2]; exact hL e h1 l sv hsv h⟩
end Go.Proofs.YtgoccionghehoaaGreatDoor.Ev
namespace Go.Proofs.YtgoccionghehoaaGreatDoor.Ev
open Go

variable [GTab] {P : Program} {W0 : World} [GOk W0]
/-- At most so many rounds. -/
def Rounds (P : Program) (W0 : World) [GOk W0] (N : Nat) (b : Code) (Q : X → Tr SV → HS → Prop) : Nat → Tr SV → HS → Prop
  | 0, _, _ => False
  | n + 1, fr, h => Run P W0 N b fr h fun x fr' h' => match x with
    | .normal => Rounds P W0 N b Q n fr' h'
    | x => Q x fr' h'
theorem Rounds.loop {N : Nat} {b : Code} {Q : X → Tr SV → HS → Prop} {n : Nat} {fr : Tr SV} {h : HS} (r : Rounds P W0 N b Q n fr h) : Run P W0 N (.loop b) fr h Q := by
  refine Run.loop (α := { s : Nat × Tr SV × HS // Rounds P W0 N b Q s.1 s.2.1 s.2.2 }) (S := fun s => s.1.2) (m := fun s => s.1.1) (Q := Q) (fun s => ?_) ⟨(n, fr, h), r⟩
  obtain ⟨⟨n, fr, h⟩, r⟩ := s
  cases n with
  | zero => exact r.elim
  | succ n =>
    simp only at r ⊢
    have r : Run P W0 N b fr h _ := r
    refine r.mono fun x fr' h' q => ?_
    cases x with
    | normal => exact ⟨⟨(n, fr', h'), q⟩, Nat.lt_succ_self n, rfl⟩
    | exit id => exact q
    | ret => exact q
    | panic s => exact q
noncomputable def lpI (P : Program) (call : CallK) (N : Nat) (n : Nat) : LoopK :=
  Nat.rec (motive := fun _ => LoopK) noLp (fun _ lp b fr h k => dCode P call N lp b fr h fun x fr' h' => X.rec (lp b fr' h' k) (fun id => k (.exit id) fr' h') (k .ret fr' h') (fun v => k (.panic v) fr' h') x) n
theorem lpI_rounds {call : CallK} (hc : CallSound P W0 call) (hm : P.follows .mixedOrders = true) {N : Nat} : ∀ (n : Nat) (b : Code) (fr : Tr SV) (h : HS) (k : KX), lpI P call N n b fr h k = true → Rounds P W0 N b (fun x fr' h' => k x fr' h' = true) n fr h
  | 0, b, fr, h, k, hk => by cases hk
  | n + 1, b, fr, h, k, hk => by
    have hl : LoopSound P W0 N (lpI P call N n) := fun b fr h k hk => (lpI_rounds hc hm n b fr h k hk).loop
    have hk : dCode P call N (lpI P call N n) b fr h (fun x fr' h' => X.rec (lpI P call N n b fr' h' k) (fun id => k (.exit id) fr' h') (k .ret fr' h') (fun v => k (.panic v) fr' h') x) = true := hk
    refine (dCode_ok (W0 := W0) hc hm hl b fr h _ hk).mono fun x fr' h' q => ?_
    cases x with
    | normal => exact lpI_rounds hc hm n b fr' h' k q
    | exit id => exact q
    | ret => exact q
    | panic s => exact q
theorem lpI_ok {call : CallK} (hc : CallSound P W0 call) (hm : P.follows .mixedOrders = true) {N n : Nat} : LoopSound P W0 N (lpI P call N n) := fun b fr h k hk => (lpI_rounds hc hm n b fr h k hk).loop
/-- A function in one piece, its loops unrolled m times. -/
noncomputable def fnRunJ (P : Program) (f m : Nat) (call : CallK) (l : List SV) (h : HS) (k : SV → HS → Bool) : Bool :=
  dCode P call (nSl P f l.length) (lpI P call (nSl P f l.length) m) (bodyOf P f) (slots (l ++ undefs P f l.length)) h (fnEnd P f (nSl P f l.length) k)
theorem fnRunJ_ok {call : CallK} (hc : CallSound P W0 call) (hm : P.follows .mixedOrders = true) {f : FuncId} {m : Nat} {l : List SV} {h : HS} {k : SV → HS → Bool} (hb : hasBody P f = true) (hk : fnRunJ P f m call l h k = true) :
    ∃ sv h', k sv h' = true ∧ Goes h h' ∧ CallOk P W0 f l h h' sv :=
  call_of_body hb (dCode_ok hc hm (lpI_ok hc hm) _ _ _ _ hk)
/-- Calls looked through n deep, loops m rounds. -/
noncomputable def callJ (P : Program) (L : HTab) (m : Nat) : Nat → CallK
  | 0 => callT L
  | n + 1 => fun t l h k => match t with
    | .fn f => (match L.find? fun e => Nat.beq e.1 f with
      | some e => (match e.2 l with
        | some sv => k sv h
        | none => false)
      | none => bif hasBody P f then fnRunJ P f m (callJ P L m n) l h k else false)
    | .yl _ => false
theorem callJ_ok {L : HTab} (hL : HTabOk P W0 L) (hm : P.follows .mixedOrders = true) {m : Nat} : ∀ n, CallSound P W0 (callJ P L m n)
  | 0 => callT_ok hL
  | n + 1 => by
    intro t l h k hk
    cases t with
    | yl id => cases hk
    | fn f =>
      unfold callJ at hk
      simp only at hk
      split at hk
      case h_2 =>
        obtain ⟨hb, hk⟩ := bif_true hk
        exact fnRunJ_ok (callJ_ok hL hm n) hm hb hk
      rename_i e he
      split at hk
      case h_2 => cases hk
      rename_i sv hsv
      have h1 := List.mem_of_find?_eq_some he
      have h2 : e.1 = f := Nat.eq_of_beq_eq_true (by simpa using List.find?_some he)
      exact ⟨sv, h, hk, Goes.refl h, by rw [← h2]; exact hL e h1 l sv hsv h⟩
end Go.Proofs.YtgoccionghehoaaGreatDoor.Ev
namespace Go.Proofs.YtgoccionghehoaaGreatDoor.Ev
open Go

variable [GTab] {P : Program} {W0 : World} [GOk W0]
/-- The blocks that may be written. -/
def Own0 (h0 : HS) (E0 : Env) (k : Nat) : Prop := ∃ id s o, h0.bar ≤ id ∧ h0.hp.get id = some o ∧ E0.at_ id = some s ∧ s.blk = k
/-- What stays of the start. -/
structure Anc (h0 : HS) (E0 : Env) (w0 : World) (E : Env) (w : World) : Prop where
  at_ : ∀ id, id < h0.nx → E.at_ id = E0.at_ id
  emp : ∀ j, j < h0.ne → E.emp j = E0.emp j
  size : w0.heap.size ≤ w.heap.size
  touch : ∀ k, k < w0.heap.size → ¬ Own0 h0 E0 k → w.heap[k]? = w0.heap[k]?
  own : ∀ id s, h0.nx ≤ id → E.at_ id = some s → w0.heap.size ≤ s.blk ∨ Own0 h0 E0 s.blk
  fzn : ∀ j a z, h0.ne ≤ j → E.emp j = some (some a, some z) → w0.heap.size ≤ a.block ∨ Own0 h0 E0 a.block
/-- No number is given yet from the next on. -/
structure FreeF (E : Env) (h : HS) : Prop where
  at_ : ∀ id, h.nx ≤ id → E.at_ id = none
  emp : ∀ j, h.ne ≤ j → E.emp j = none
theorem FreeF.free {E : Env} {h : HS} (f : FreeF E h) (n m : Nat) : Free E h.nx n h.ne m := ⟨fun id a _ => f.at_ id a, fun j a _ => f.emp j a⟩
theorem FreeF.step {E E' : Env} {h h' : HS} {w w' : World} (f : FreeF E h) (g : Goes h h') (st : Step h.bar h.hp.get h.nx h'.nx h.ne h'.ne E E' w w') : FreeF E' h' :=
  ⟨fun id a => by have := g.nx; rw [st.dom id (by omega)]; exact f.at_ id (by omega), fun j a => by have := g.ne; rw [st.dome j (by omega)]; exact f.emp j (by omega)⟩
theorem Anc.refl {h0 : HS} {E0 : Env} (w0 : World) (f : FreeF E0 h0) : Anc h0 E0 w0 E0 w0 :=
  ⟨fun _ _ => rfl, fun _ _ => rfl, Nat.le_refl _, fun _ _ _ => rfl, fun id s a e => (by rw [f.at_ id a] at e; cases e), fun j a z q e => (by rw [f.emp j q] at e; cases e)⟩
theorem Anc.live {h0 h : HS} {E0 E : Env} {w0 w : World} (A : Anc h0 E0 w0 E w) (g0 : Goes h0 h) {id : Nat} {s : Spot} {o : SO} (hb : h0.bar ≤ id) (ho : h.hp.get id = some o) (hs : E.at_ id = some s) : w0.heap.size ≤ s.blk ∨ Own0 h0 E0 s.blk := by
  by_cases hn : h0.nx ≤ id
  · exact A.own id s hn hs
  · rcases g0.live id o ho with q | ⟨o0, q⟩
    · exact absurd q.1 hn
    · rw [A.at_ id (by omega)] at hs
      exact .inr ⟨id, s, o0, hb, q, hs, rfl⟩
theorem Anc.step {h0 h h' : HS} {E0 E E' : Env} {w0 w w' : World} (A : Anc h0 E0 w0 E w) (g0 : Goes h0 h) (g : Goes h h') (st : Step h.bar h.hp.get h.nx h'.nx h.ne h'.ne E E' w w') : Anc h0 E0 w0 E' w' := by
  have n0 := g0.nx
  have m0 := g0.ne
  refine ⟨fun id hid => by rw [st.dom id (by omega)]; exact A.at_ id hid, fun j hj => by rw [st.dome j (by omega)]; exact A.emp j hj, Nat.le_trans A.size st.size, fun k hk ho => ?_, fun id s hid e => ?_, fun j a z hj e => ?_⟩
  · rw [st.touch k (Nat.lt_of_lt_of_le hk A.size) ?_, A.touch k hk ho]
    intro id s o hb hl hs hk2
    rw [g0.bar] at hb
    rcases A.live g0 hb hl hs with q | q
    · omega
    · rw [hk2] at q; exact ho q
  · by_cases hn : h.nx ≤ id ∧ id < h'.nx
    · rcases st.fresh id s hn.1 hn.2 e with q | ⟨id0, s0, o, q0, q1, q2, q3⟩
      · exact .inl (Nat.le_trans A.size q)
      · rw [g0.bar] at q0
        rw [← q3]
        exact A.live g0 q0 q1 q2
    · rw [st.dom id hn] at e
      exact A.own id s hid e
  · by_cases hn : h.ne ≤ j ∧ j < h'.ne
    · rcases st.fzn j a z hn.1 hn.2 e with q | ⟨id0, s0, o, q0, q1, q2, q3⟩
      · exact .inl (Nat.le_trans A.size q)
      · rw [g0.bar] at q0
        rw [← q3]
        exact A.live g0 q0 q1 q2
    · rw [st.dome j hn] at e
      exact A.fzn j a z hj e
/-- From every world that is so, the code comes to one of the ends. -/
def HT (P : Program) (W0 : World) (h0 : HS) (E0 : Env) (w0 : World) (N : Nat) (c : Code) (fr : Tr SV) (h : HS) (Q : X → Tr SV → HS → Prop) : Prop :=
  Goes h0 h → ∀ E a w, Rel W0 E h.hp.get w → FreeF E h → FrOk E fr N a → Anc h0 E0 w0 E w → ∀ K : Exit → Act → World → Prop,
    (∀ x fr' h' E' a' w', Q x fr' h' → Goes h0 h' → Rel W0 E' h'.hp.get w' → FreeF E' h' → FrOk E' fr' N a' → Anc h0 E0 w0 E' w' → ∀ e, XOk E' x e → K e a' w') → c.wpIn (Fw none) 0 P K a w
variable {h0 : HS} {E0 : Env} {w0 : World}
theorem HT.of_run {N : Nat} {c : Code} {fr : Tr SV} {h : HS} {Q : X → Tr SV → HS → Prop} (r : Run P W0 N c fr h Q) : HT P W0 h0 E0 w0 N c fr h Q := by
  obtain ⟨x, fr', h', q, g, ok⟩ := r
  intro g0 E a w rel ff fo A K hK
  exact ok ⟨none, .inr rfl⟩ E a w rel (ff.free _ _) fo K fun E' a' w' r' st fo' e he => hK x fr' h' E' a' w' q (g0.trans g) r' (ff.step g st) fo' (A.step g0 g st) e he
theorem HT.mono {N : Nat} {c : Code} {fr : Tr SV} {h : HS} {Q Q' : X → Tr SV → HS → Prop} (hr : HT P W0 h0 E0 w0 N c fr h Q) (hq : ∀ x fr' h', Q x fr' h' → Q' x fr' h') : HT P W0 h0 E0 w0 N c fr h Q' :=
  fun g0 E a w rel ff fo A K hK => hr g0 E a w rel ff fo A K fun x fr' h' E' a' w' q => hK x fr' h' E' a' w' (hq _ _ _ q)
theorem HT.seq' {N : Nat} {a b : Code} {fr : Tr SV} {h : HS} {Q : X → Tr SV → HS → Prop} (hr : HT P W0 h0 E0 w0 N a fr h fun x fr' h' => match x with
    | .normal => HT P W0 h0 E0 w0 N b fr' h' Q
    | x => Q x fr' h') : HT P W0 h0 E0 w0 N (.seq a b) fr h Q := by
  intro g0 E ac w rel ff fo A K hK
  refine wpIn_seq (hr g0 E ac w rel ff fo A _ fun x fr1 h1 E1 a1 w1 q g1 r1 f1 fo1 A1 e he => ?_)
  cases x with
  | normal =>
    have he : e = .normal := he
    subst he
    exact q g1 E1 a1 w1 r1 f1 fo1 A1 K hK
  | exit id => have he : e = .exit id := he; subst he; exact hK _ _ _ _ _ _ q g1 r1 f1 fo1 A1 _ rfl
  | ret => have he : e = .ret := he; subst he; exact hK _ _ _ _ _ _ q g1 r1 f1 fo1 A1 _ rfl
  | panic s => have y := hK _ _ _ _ _ _ q g1 r1 f1 fo1 A1 e he; obtain ⟨v, _, he⟩ := he; subst he; exact y
theorem HT.block' {N : Nat} {id : Nat} {b : Code} {fr : Tr SV} {h : HS} {Q : X → Tr SV → HS → Prop} (hr : HT P W0 h0 E0 w0 N b fr h fun x fr' h' => match x with
    | .exit j => if j = id then Q .normal fr' h' else Q (.exit j) fr' h'
    | x => Q x fr' h') : HT P W0 h0 E0 w0 N (.block id b) fr h Q := by
  intro g0 E ac w rel ff fo A K hK
  refine wpIn_block (hr g0 E ac w rel ff fo A _ fun x fr1 h1 E1 a1 w1 q g1 r1 f1 fo1 A1 e he => ?_)
  cases x with
  | normal => have he : e = .normal := he; subst he; exact hK _ _ _ _ _ _ q g1 r1 f1 fo1 A1 _ rfl
  | ret => have he : e = .ret := he; subst he; exact hK _ _ _ _ _ _ q g1 r1 f1 fo1 A1 _ rfl
  | panic s => have y := hK _ _ _ _ _ _ q g1 r1 f1 fo1 A1 e he; obtain ⟨v, _, he⟩ := he; subst he; exact y
  | exit j =>
    have he : e = .exit j := he
    subst he
    show (if j = id then K .normal a1 w1 else K (.exit j) a1 w1)
    have q : (if j = id then Q .normal fr1 h1 else Q (.exit j) fr1 h1) := q
    by_cases ej : j = id
    · rw [if_pos ej] at q ⊢
      exact hK _ _ _ _ _ _ q g1 r1 f1 fo1 A1 _ rfl
    · rw [if_neg ej] at q ⊢
      exact hK _ _ _ _ _ _ q g1 r1 f1 fo1 A1 _ rfl
theorem HT.scope' {N : Nat} {b : Code} {fr : Tr SV} {h : HS} {Q : X → Tr SV → HS → Prop} (hr : HT P W0 h0 E0 w0 N b fr h Q) : HT P W0 h0 E0 w0 N (.scope b) fr h Q := by
  intro g0 E ac w rel ff fo A K hK
  refine wpIn_scope_straight (hr g0 E ac w rel ff fo A _ fun x fr1 h1 E1 a1 w1 q g1 r1 f1 fo1 A1 e he => ?_)
  have := hK _ _ _ _ _ _ q g1 r1 f1 fo1 A1 e he
  cases x with
  | normal => have he : e = .normal := he; subst he; exact this
  | exit id => have he : e = .exit id := he; subst he; exact this
  | ret => have he : e = .ret := he; subst he; exact this
  | panic s => obtain ⟨v, _, he⟩ := he; subst he; exact this
/-- What is known of the world may be told otherwise. -/
theorem HT.re {N : Nat} {c : Code} {fr : Tr SV} {h : HS} {Q Q1 : X → Tr SV → HS → Prop} (hr : HT P W0 h0 E0 w0 N c fr h Q1)
    (hq : ∀ x fr' h' E' a' w', Q1 x fr' h' → Goes h0 h' → Rel W0 E' h'.hp.get w' → FreeF E' h' → FrOk E' fr' N a' → Anc h0 E0 w0 E' w' → ∃ x2 fr2 h2 E2, Q x2 fr2 h2 ∧ Goes h0 h2 ∧ Rel W0 E2 h2.hp.get w' ∧ FreeF E2 h2 ∧ FrOk E2 fr2 N a' ∧ Anc h0 E0 w0 E2 w' ∧ ∀ e, XOk E' x e → XOk E2 x2 e) : HT P W0 h0 E0 w0 N c fr h Q := by
  intro g0 E ac w rel ff fo A K hK
  refine hr g0 E ac w rel ff fo A K fun x fr1 h1 E1 a1 w1 q g1 r1 f1 fo1 A1 e he => ?_
  obtain ⟨x2, fr2, h2, E2, p1, p2, p3, p4, p5, p6, p7⟩ := hq _ _ _ _ _ _ q g1 r1 f1 fo1 A1
  exact hK _ _ _ _ _ _ p1 p2 p3 p4 p5 p6 e (p7 e he)
/-- A loop, by a measure over its heads. -/
theorem HT.loop {α : Type} {N : Nat} {b : Code} {I : α → Tr SV → HS → Prop} {m : α → Nat} {Q : X → Tr SV → HS → Prop}
    (hb : ∀ s fr h, I s fr h → HT P W0 h0 E0 w0 N b fr h fun x fr' h' => match x with
      | .normal => ∃ s', m s' < m s ∧ I s' fr' h'
      | x => Q x fr' h') (s : α) {fr : Tr SV} {h : HS} (hi : I s fr h) : HT P W0 h0 E0 w0 N (.loop b) fr h Q := by
  have key : ∀ (n : Nat) (s : α) fr h, m s ≤ n → I s fr h → Goes h0 h → ∀ E a w, Rel W0 E h.hp.get w → FreeF E h → FrOk E fr N a → Anc h0 E0 w0 E w → ∀ K : Exit → Act → World → Prop,
      (∀ x fr' h' E' a' w', Q x fr' h' → Goes h0 h' → Rel W0 E' h'.hp.get w' → FreeF E' h' → FrOk E' fr' N a' → Anc h0 E0 w0 E' w' → ∀ e, XOk E' x e → K e a' w') → Code.roundsIn (Fw none) 0 P b K (n + 1) a w := by
    intro n
    induction n with
    | zero =>
      intro s fr h hs hi g0 E a w rel ff fo A K hK
      rw [roundsIn_succ]
      refine hb s fr h hi g0 E a w rel ff fo A _ fun x fr1 h1 E1 a1 w1 q g1 r1 f1 fo1 A1 e he => ?_
      cases x with
      | normal => obtain ⟨s', h1, _⟩ := q; omega
      | exit id => have he : e = .exit id := he; subst he; exact hK _ _ _ _ _ _ q g1 r1 f1 fo1 A1 _ rfl
      | ret => have he : e = .ret := he; subst he; exact hK _ _ _ _ _ _ q g1 r1 f1 fo1 A1 _ rfl
      | panic s => have y := hK _ _ _ _ _ _ q g1 r1 f1 fo1 A1 e he; obtain ⟨v, _, he⟩ := he; subst he; exact y
    | succ n ih =>
      intro s fr h hs hi g0 E a w rel ff fo A K hK
      rw [roundsIn_succ]
      refine hb s fr h hi g0 E a w rel ff fo A _ fun x fr1 h1 E1 a1 w1 q g1 r1 f1 fo1 A1 e he => ?_
      cases x with
      | normal =>
        obtain ⟨s', q1, q2⟩ := q
        have he : e = .normal := he
        subst he
        exact ih s' fr1 h1 (by omega) q2 g1 E1 a1 w1 r1 f1 fo1 A1 K hK
      | exit id => have he : e = .exit id := he; subst he; exact hK _ _ _ _ _ _ q g1 r1 f1 fo1 A1 _ rfl
      | ret => have he : e = .ret := he; subst he; exact hK _ _ _ _ _ _ q g1 r1 f1 fo1 A1 _ rfl
      | panic s => have y := hK _ _ _ _ _ _ q g1 r1 f1 fo1 A1 e he; obtain ⟨v, _, he⟩ := he; subst he; exact y
  intro g0 E a w rel ff fo A K hK
  exact wpIn_loop_rounds (m s + 1) (key (m s) s fr h (Nat.le_refl _) hi g0 E a w rel ff fo A K hK)
def LoopSoundH (P : Program) (W0 : World) (h0 : HS) (E0 : Env) (w0 : World) (N : Nat) (lp : LoopK) : Prop := ∀ b fr h k, lp b fr h k = true → HT P W0 h0 E0 w0 N (.loop b) fr h fun x fr' h' => k x fr' h' = true
theorem dCodeH_ok {call : CallK} (hc : CallSound P W0 call) (hm : P.follows .mixedOrders = true) {N : Nat} {lp : LoopK} (hl : LoopSoundH P W0 h0 E0 w0 N lp) (c : Code) : ∀ (fr : Tr SV) (h : HS) (k : KX), dCode P call N lp c fr h k = true → HT P W0 h0 E0 w0 N c fr h fun x fr' h' => k x fr' h' = true := by
  induction c with
  | skip => intro fr h k hk; exact .of_run ⟨.normal, fr, h, hk, Goes.refl h, fun ro E a w r _ fo Q hQ => wpIn_skip (hQ E a w r (Step.refl _ _ _ _ _ _) fo _ rfl)⟩
  | label l => intro fr h k hk; exact .of_run ⟨.normal, fr, h, hk, Goes.refl h, fun ro E a w r _ fo Q hQ => wpIn_label (hQ E a w r (Step.refl _ _ _ _ _ _) fo _ rfl)⟩
  | exit id => intro fr h k hk; exact .of_run ⟨.exit id, fr, h, hk, Goes.refl h, fun ro E a w r _ fo Q hQ => wpIn_exit (hQ E a w r (Step.refl _ _ _ _ _ _) fo _ rfl)⟩
  | ret => intro fr h k hk; exact .of_run ⟨.ret, fr, h, hk, Goes.refl h, fun ro E a w r _ fo Q hQ => wpIn_ret (hQ E a w r (Step.refl _ _ _ _ _ _) fo _ rfl)⟩
  | rangeFunc g ps as bd _ _ => intro fr h k hk; cases hk
  | goto l => intro fr h k hk; cases hk
  | refuse w => intro fr h k hk; cases hk
  | loop b _ => intro fr h k hk; exact hl b fr h k hk
  | scope b ib => intro fr h k hk; exact .scope' (ib fr h k hk)
  | region id ops draw =>
    intro fr h k hk
    cases draw with
    | true =>
      have hk : (bif drawOk ops then (drawRC P N ops).f call fr h (k .normal) else false) = true := hk
      obtain ⟨h1, hk⟩ := bif_true hk
      obtain ⟨fr', h', k1, g, ok⟩ := drawRD_ok (W0 := W0) hc hm h1 hk
      exact .of_run ⟨.normal, fr', h', k1, g, fun ro E a w r fe fo Q hQ => ok ro.1 id E a w r fe fo Q fun E' a' w' r' st fo' => hQ E' a' w' r' st fo' _ rfl⟩
    | false =>
      obtain ⟨fr', h', k1, g, ok⟩ := dOps_ok (W0 := W0) hc ops.toList fr h (k .normal) hk
      exact .of_run ⟨.normal, fr', h', k1, g, fun ro E a w r fe fo Q hQ => wpIn_region_list (ok ro.1 E a w r fe fo Q fun E' a' w' r' st fo' => hQ E' a' w' r' st fo' _ rfl)⟩
  | seq x y ix iy =>
    intro fr h k hk
    refine HT.seq' ((ix _ _ _ hk).mono fun z fr' h' hz => ?_)
    cases z with
    | normal => exact iy _ _ _ hz
    | exit id => exact hz
    | ret => exact hz
    | panic s => exact hz
  | block id x ix =>
    intro fr h k hk
    refine HT.block' ((ix _ _ _ hk).mono fun z fr' h' hz => ?_)
    cases z with
    | normal => exact hz
    | exit j =>
      have hz : (bif Nat.beq j id then k .normal fr' h' else k (.exit j) fr' h') = true := hz
      rw [Tr.bif_beq] at hz
      show (if j = id then k .normal fr' h' = true else k (.exit j) fr' h' = true)
      split
      · rename_i e; rw [if_pos e] at hz; exact hz
      · rename_i e; rw [if_neg e] at hz; exact hz
    | ret => exact hz
    | panic s => exact hz
  | cond c x y ix iy =>
    intro fr h k hk
    have hk : (match opd fr c with
      | .bool z => bif z then dCode P call N lp x fr h k else dCode P call N lp y fr h k
      | _ => false) = true := hk
    split at hk
    case h_2 => cases hk
    rename_i z hz
    cases z with
    | true =>
      intro g0 E a w rel ff fo A K hK
      refine wpIn_cond_true ?_ (ix _ _ _ hk g0 E a w rel ff fo A K hK)
      have := opd_ok fo c
      rw [hz] at this
      exact (Option.some.inj this).symm
    | false =>
      intro g0 E a w rel ff fo A K hK
      refine wpIn_cond_false ?_ (iy _ _ _ hk g0 E a w rel ff fo A K hK)
      have := opd_ok fo c
      rw [hz] at this
      exact (Option.some.inj this).symm
/-- Loops as they run. -/
noncomputable def lpH (P : Program) (W0 : World) [GOk W0] (h0 : HS) (E0 : Env) (w0 : World) (N : Nat) : LoopK := fun b fr h k => open Classical in decide (HT P W0 h0 E0 w0 N (.loop b) fr h fun x fr' h' => k x fr' h' = true)
theorem lpH_ok {N : Nat} : LoopSoundH P W0 h0 E0 w0 N (lpH P W0 h0 E0 w0 N) := fun b fr h k hk => @of_decide_eq_true _ (Classical.propDecidable _) hk
theorem lpH_of {N : Nat} {b : Code} {fr : Tr SV} {h : HS} {k : KX} (hr : HT P W0 h0 E0 w0 N (.loop b) fr h fun x fr' h' => k x fr' h' = true) : lpH P W0 h0 E0 w0 N b fr h k = true := @decide_eq_true _ (Classical.propDecidable _) hr
theorem HT.frame {N : Nat} {c : Code} {fr fr2 : Tr SV} {h : HS} {Q : X → Tr SV → HS → Prop} (e : ∀ t, opd fr (.tmp t) = opd fr2 (.tmp t)) (hr : HT P W0 h0 E0 w0 N c fr2 h Q) : HT P W0 h0 E0 w0 N c fr h Q :=
  fun g0 E a w rel ff fo A K hK => hr g0 E a w rel ff (fo.same e) A K hK
end Go.Proofs.YtgoccionghehoaaGreatDoor.Ev
namespace Go.Proofs.YtgoccionghehoaaGreatDoor.Ev
open Go

variable [GTab] {P : Program} {W0 : World} [GOk W0]
/-- The claim. -/
noncomputable def grd (P : Program) (W0 : World) [GOk W0] (f : Nat) (l : List SV) (h : HS) (p : SV × HS) : Bool := open Classical in decide (Goes h p.2 ∧ CallOk P W0 f l h p.2 p.1)
theorem grd_of {f : Nat} {l : List SV} {h : HS} {p : SV × HS} (g : Goes h p.2) (c : CallOk P W0 f l h p.2 p.1) : grd P W0 f l h p = true := by
  unfold grd
  classical
  exact decide_eq_true ⟨g, c⟩
theorem grd_ok {f : Nat} {l : List SV} {h : HS} {p : SV × HS} (e : grd P W0 f l h p = true) : Goes h p.2 ∧ CallOk P W0 f l h p.2 p.1 := by
  unfold grd at e
  classical
  exact of_decide_eq_true e
/-- The first is worked out first. -/
def andR (a b : Bool) : Bool := bif a then b else false
theorem andR_true {a b : Bool} : andR a b = true ↔ a = true ∧ b = true := by cases a <;> cases b <;> simp [andR]
/-- What a call comes to: parted by a truth value. -/
structure GR where
  b : Bool
  t : SV
  f : SV
  h : HS
abbrev GdT := List (Nat × (List SV → HS → GR))
noncomputable def callG0 (P : Program) (W0 : World) [GOk W0] (e : Nat × (List SV → HS → GR)) (l : List SV) (h : HS) (k : SV → HS → Bool) : Bool :=
  (fun p : GR => bif p.b then andR (k p.t p.h) (grd P W0 e.1 l h (p.t, p.h)) else andR (k p.f p.h) (grd P W0 e.1 l h (p.f, p.h))) (e.2 l h)
theorem callG0_ok {e : Nat × (List SV → HS → GR)} {l : List SV} {h : HS} {k : SV → HS → Bool} (hk : callG0 P W0 e l h k = true) : ∃ sv h', k sv h' = true ∧ Goes h h' ∧ CallOk P W0 e.1 l h h' sv := by
  unfold callG0 at hk
  rcases bif_cases hk with ⟨_, hk⟩ | ⟨_, hk⟩
  · obtain ⟨h1, h2⟩ := andR_true.1 hk
    obtain ⟨g, c⟩ := grd_ok h2
    exact ⟨_, _, h1, g, c⟩
  · obtain ⟨h1, h2⟩ := andR_true.1 hk
    obtain ⟨g, c⟩ := grd_ok h2
    exact ⟨_, _, h1, g, c⟩
noncomputable def callG (P : Program) (W0 : World) [GOk W0] (L : GdT) (m : Nat) : Nat → CallK
  | 0 => fun _ _ _ _ => false
  | n + 1 => fun t l h k => match t with
    | .fn f => (match L.find? fun e => Nat.beq e.1 f with
      | some e => callG0 P W0 e l h k
      | none => bif hasBody P f then fnRunJ P f m (callG P W0 L m n) l h k else false)
    | .yl _ => false
theorem callG_ok {L : GdT} (hm : P.follows .mixedOrders = true) {m : Nat} : ∀ n, CallSound P W0 (callG P W0 L m n)
  | 0 => fun t l h k hk => by cases hk
  | n + 1 => by
    intro t l h k hk
    cases t with
    | yl id => cases hk
    | fn f =>
      unfold callG at hk
      simp only at hk
      split at hk
      case h_2 =>
        obtain ⟨hb, hk⟩ := bif_true hk
        exact fnRunJ_ok (callG_ok hm n) hm hb hk
      rename_i e he
      have h2 : e.1 = f := Nat.eq_of_beq_eq_true (by simpa using List.find?_some he)
      obtain ⟨sv, h', k1, k2, k3⟩ := callG0_ok hk
      exact ⟨sv, h', k1, k2, by rw [h2] at k3; exact k3⟩
/-- The claim for a call that leaves the objects, whatever they are. -/
noncomputable def grdA (P : Program) (W0 : World) [GOk W0] (f : Nat) (l : List SV) (sv : SV) : Bool := open Classical in decide (∀ h, CallOk P W0 f l h h sv)
theorem grdA_of {f : Nat} {l : List SV} {sv : SV} (c : ∀ h, CallOk P W0 f l h h sv) : grdA P W0 f l sv = true := by
  unfold grdA
  classical
  exact decide_eq_true c
theorem grdA_ok {f : Nat} {l : List SV} {sv : SV} (e : grdA P W0 f l sv = true) (h : HS) : CallOk P W0 f l h h sv := by
  unfold grdA at e
  classical
  exact of_decide_eq_true e h
abbrev PdT := List (Nat × (List SV → SV))
noncomputable def callG1 (P : Program) (W0 : World) [GOk W0] (e : Nat × (List SV → SV)) (l : List SV) (h : HS) (k : SV → HS → Bool) : Bool :=
  (fun p : SV => andR (k p h) (grdA P W0 e.1 l p)) (e.2 l)
/-- Likewise, with a table of such calls. -/
noncomputable def callH (P : Program) (W0 : World) [GOk W0] (LP : PdT) (L : GdT) (m : Nat) : Nat → CallK
  | 0 => fun _ _ _ _ => false
  | n + 1 => fun t l h k => match t with
    | .fn f => (match LP.find? fun e => Nat.beq e.1 f with
      | some e => callG1 P W0 e l h k
      | none => (match L.find? fun e => Nat.beq e.1 f with
        | some e => callG0 P W0 e l h k
        | none => bif hasBody P f then fnRunJ P f m (callH P W0 LP L m n) l h k else false))
    | .yl _ => false
theorem callH_ok {LP : PdT} {L : GdT} (hm : P.follows .mixedOrders = true) {m : Nat} : ∀ n, CallSound P W0 (callH P W0 LP L m n)
  | 0 => fun t l h k hk => by cases hk
  | n + 1 => by
    intro t l h k hk
    cases t with
    | yl id => cases hk
    | fn f =>
      unfold callH at hk
      simp only at hk
      split at hk
      · rename_i e he
        have h2 : e.1 = f := Nat.eq_of_beq_eq_true (by simpa using List.find?_some he)
        obtain ⟨h1, h3⟩ := andR_true.1 hk
        exact ⟨_, h, h1, Goes.refl h, by rw [← h2]; exact grdA_ok h3 h⟩
      split at hk
      case h_2 =>
        obtain ⟨hb, hk⟩ := bif_true hk
        exact fnRunJ_ok (callH_ok hm n) hm hb hk
      rename_i e he
      have h2 : e.1 = f := Nat.eq_of_beq_eq_true (by simpa using List.find?_some he)
      obtain ⟨sv, h', k1, k2, k3⟩ := callG0_ok hk
      exact ⟨sv, h', k1, k2, by rw [h2] at k3; exact k3⟩
/-- A function's end, looked at through what it hands back and what lies at some numbers. -/
theorem call_seen {f : FuncId} {m : Nat} {call : CallK} (hc : CallSound P W0 call) (hm : P.follows .mixedOrders = true) {l : List SV} {h : HS} {sv : SV} {ids : List Nat} {os : List (Option SO)} {nx ne : Nat} (hb : hasBody P f = true)
    (H : ∀ q : SV → List (Option SO) → Nat → Nat → Bool, q sv os nx ne = true → fnRunJ P f m call l h (fun s h' => q s (ids.map h'.hp.get) h'.nx h'.ne) = true) :
    ∃ h', Goes h h' ∧ CallOk P W0 f l h h' sv ∧ ids.map h'.hp.get = os ∧ h'.nx = nx ∧ h'.ne = ne := by
  classical
  obtain ⟨sv', h', k1, g, c⟩ := fnRunJ_ok (W0 := W0) hc hm hb (H (fun s o a b => decide (s = sv ∧ o = os ∧ a = nx ∧ b = ne)) (by simp))
  obtain ⟨rfl, e1, e2, e3⟩ := of_decide_eq_true k1
  exact ⟨h', g, c, e1, e2, e3⟩
/-- Less is told of the end. -/
theorem CallOk.less {f : FuncId} {l : List SV} {h h' h'' : HS} {sv : SV} (c : CallOk P W0 f l h h' sv) (hp : ∀ id o, h''.hp.get id = some o → h'.hp.get id = some o) (nx : h'.nx ≤ h''.nx) (ne : h'.ne ≤ h''.ne) (n0 : h.nx ≤ h'.nx) (m0 : h.ne ≤ h'.ne) : CallOk P W0 f l h h'' sv := by
  intro E w vl rel fe hv R hR
  refine c E w vl rel (fe.left nx ne) hv R fun E' v w' e r st => hR E' v w' e (r.less hp) ⟨st.le, fun id hid => st.dom id (by omega), fun j hj => st.dome j (by omega), st.size, st.touch, fun id s a b e => ?_, fun j a z p q e => ?_⟩
  · by_cases q : id < h'.nx
    · exact st.fresh id s a q e
    · rw [st.dom id (by omega), fe.at_ id a b] at e; cases e
  · by_cases q' : j < h'.ne
    · exact st.fzn j a z p q' e
    · rw [st.dome j (by omega), fe.emp j p q] at e; cases e
end Go.Proofs.YtgoccionghehoaaGreatDoor.Ev
namespace Go.Proofs.YtgoccionghehoaaGreatDoor.Ev
open Go

variable [GTab] {P : Program} {W0 : World} [GOk W0]
mutual
/-- Its objects have numbers below n. -/
def svIn (n : Nat) : SV → Bool
  | .ptr id _ => Nat.blt id n
  | .sl id _ _ _ => Nat.blt id n
  | .slr id _ _ _ => Nat.blt id n
  | .sla id _ => Nat.blt id n
  | .emp _ id _ _ => Nat.blt id n
  | .map id => Nat.blt id n
  | .yld id => Nat.blt id n
  | .fn _ a b => svsIn n a && svsIn n b
  | .iface _ v => svIn n v
  | .agg l => svsIn n l
  | .tup l => svsIn n l
  | _ => true
def svsIn (n : Nat) : List SV → Bool
  | [] => true
  | s :: r => svIn n s && svsIn n r
end
section
variable {E E' : Env} {n : Nat} (h : ∀ id, id < n → E'.at_ id = E.at_ id) (hj : ∀ j, E'.emp j = E.emp j)
include h hj
mutual
theorem val_in : ∀ (s : SV), svIn n s = true → val E' s = val E s
  | .bool _, _ => rfl
  | .int _ _, _ => rfl
  | .lit _, _ => rfl
  | .mks _, _ => rfl
  | .rng _ _ _, _ => rfl
  | .esl j c off len, _ => by simp only [val, hj]
  | .epl j c i r, _ => by simp only [val, hj]
  | .ptr id off, e => by simp only [val, h id (blt_lt e)]
  | .sl id _ _ _, e => by simp only [val, h id (blt_lt e)]
  | .slr id _ _ _, e => by simp only [val, h id (blt_lt e)]
  | .sla id _, e => by simp only [val, h id (blt_lt e)]
  | .emp j id _ _, e => by simp only [val, h id (blt_lt e), hj]
  | .map id, e => by simp only [val, h id (blt_lt e)]
  | .yld id, e => by simp only [val, h id (blt_lt e)]
  | .fn f a b, e => by
    simp only [svIn, Bool.and_eq_true] at e
    simp only [val, vals_in a e.1, vals_in b e.2]
  | .iface t v, e => by
    simp only [svIn] at e
    simp only [val, val_in v e]
  | .agg l, e => by
    simp only [svIn] at e
    simp only [val, vals_in l e]
  | .tup l, e => by
    simp only [svIn] at e
    simp only [val, vals_in l e]
theorem vals_in : ∀ (l : List SV), svsIn n l = true → vals E' l = vals E l
  | [], _ => rfl
  | s :: r, e => by
    simp only [svsIn, Bool.and_eq_true] at e
    simp only [vals, val_in s e.1, vals_in r e.2]
end
end
def optAll {α : Type} (p : α → Bool) : Option α → Bool
  | some v => p v
  | none => true
/-- All things of a table are so. -/
noncomputable def trAll {α : Type} (p : α → Bool) (t : Tr α) : Bool :=
  Tr.rec true (fun x _ _ _ _ a b c d => optAll p x && (a && (b && (c && d)))) t
theorem trAll_pa {α : Type} {p : α → Bool} : ∀ (t : Tr α), trAll p t = true → ∀ (q : Pa) (v : α), getp t q = some v → p v = true
  | .e, _, q, v, e => by cases q <;> cases e
  | .n x a b c d, h, q, v, e => by
    have h : (optAll p x && (trAll p a && (trAll p b && (trAll p c && trAll p d)))) = true := h
    simp only [Bool.and_eq_true] at h
    obtain ⟨h0, h1, h2, h3, h4⟩ := h
    cases q with
    | z =>
      have e : x = some v := e
      rw [e] at h0
      exact h0
    | a q => exact trAll_pa a h1 q v e
    | b q => exact trAll_pa b h2 q v e
    | c q => exact trAll_pa c h3 q v e
    | d q => exact trAll_pa d h4 q v e
theorem trAll_get {α : Type} {p : α → Bool} {t : Tr α} (h : trAll p t = true) {i : Nat} {v : α} (e : t.get i = some v) : p v = true := trAll_pa t h (pa i) v e
noncomputable def soIn (n : Nat) : SO → Bool
  | .row _ _ t => trAll (svIn n) t
  | .any _ => true
  | _ => false
theorem obj_in {E E' : Env} {n : Nat} (h : ∀ id, id < n → E'.at_ id = E.at_ id) (hj : ∀ j, E'.emp j = E.emp j) {s : Spot} {w : World} {o : SO} (ho : soIn n o = true) (k : objOk E s w o) : objOk E' s w o := by
  cases o with
  | row m sz t =>
    obtain ⟨c, ty, a, b, d, e⟩ := k
    refine ⟨c, ty, a, b, d, fun i hi => ?_⟩
    obtain ⟨sv, v, e1, e2, e3, e4⟩ := e i hi
    exact ⟨sv, v, e1, by rw [val_in h hj sv (trAll_get ho e1)]; exact e2, e3, e4⟩
  | any sz => exact k
  | mp _ _ => cases ho
  | lp _ _ _ _ _ _ _ _ => cases ho
  | df => cases ho
  | ml _ => cases ho
/-- A call that leaves the objects as they are, looked at with some objects (numbers below n): with more objects, and from whatever number on. -/
theorem pure_frame {f : FuncId} {l : List SV} {hp : Tr SO} {n n1 : Nat} {sv : SV} {h : HS} (c : ∀ ne, CallOk P W0 f l ⟨hp, n, ne, n⟩ ⟨hp, n1, ne, n⟩ sv) (hc : trAll (soIn n) hp = true) (hn : ∀ id o, hp.get id = some o → id < n) (hl : svsIn n l = true) (hs : svIn n sv = true) (hh : ∀ id o, hp.get id = some o → h.hp.get id = some o) : CallOk P W0 f l h h sv := by
  intro E w vl rel fe hv R hR
  let E0 : Env := ⟨fun id => if id < n then E.at_ id else none, E.emp⟩
  have e0 : ∀ id, id < n → E0.at_ id = E.at_ id := fun id hid => if_pos hid
  have rel0 : Rel W0 E0 hp.get w := ⟨rel.below, fun id o e => by
    obtain ⟨s, a, b, k⟩ := rel.obj id o (hh id o e)
    exact ⟨s, by rw [e0 id (hn id o e)]; exact a, b, obj_in e0 (fun _ => rfl) (trAll_get hc e) k⟩, fun id id' o o' s s' a b p q => by
    rw [e0 id (hn id o a)] at p
    rw [e0 id' (hn id' o' b)] at q
    exact rel.inj id id' o o' s s' (hh _ _ a) (hh _ _ b) p q, fun j A z e => by
    have k := rel.fz j A z e
    refine ⟨k.1, k.2.1, fun i r hi hr => ?_⟩
    obtain ⟨a, v, p, q, u, x⟩ := k.2.2 i r hi hr
    exact ⟨a, v, p, by rw [val_own0 (E := E) (E' := E0) (fun _ => rfl) _ (own0_cell _ _ _)]; exact q, u, x⟩, fun j a z id o s e b p => by
    rw [e0 id (hn id o b)] at p
    exact rel.frz j a z id o s e (hh _ _ b) p⟩
  refine c h.ne E0 w vl rel0 ⟨fun id a _ => if_neg (by show ¬ id < n; have a : n ≤ id := a; omega), fun j a b => absurd b (by show ¬ j < h.ne; have a : h.ne ≤ j := a; omega)⟩ (by rw [vals_in e0 (fun _ => rfl) l hl]; exact hv) R fun E' v w' k1 r' st => ?_
  have st : Step n hp.get n n1 h.ne h.ne E0 E' w w' := st
  have e1 : ∀ id, id < n → E'.at_ id = E.at_ id := fun id hid => by rw [st.dom id (by omega)]; exact e0 id hid
  have j1 : ∀ j, E'.emp j = E.emp j := fun j => st.dome j (by omega)
  have touch : ∀ k, k < w.heap.size → (∀ id s o, h.bar ≤ id → h.hp.get id = some o → E.at_ id = some s → s.blk ≠ k) → w'.heap[k]? = w.heap[k]? := fun k hk hno => st.touch k hk fun id s o hb ho hs => absurd (hn id o ho) (by omega)
  have own : ∀ id o s, h.hp.get id = some o → E.at_ id = some s → hp.get id = none → w'.heap[s.blk]? = w.heap[s.blk]? := by
    intro id o s ho hs hno
    obtain ⟨s', a, _, k⟩ := rel.obj id o ho
    obtain rfl := Option.some.inj (a.symm.trans hs)
    refine st.touch _ k.lt fun id' s2 o' hb ho' hs' eq => ?_
    rw [e0 id' (hn id' o' ho')] at hs'
    have := rel.inj id' id o' o s2 s' (hh _ _ ho') ho hs' hs eq
    rw [this] at ho'
    rw [ho'] at hno
    cases hno
  have back : ∀ id o s, E.at_ id = some s → hp.get id = some o → objOk E s w' o := by
    intro id o s hs ho
    obtain ⟨s', a, _, k⟩ := r'.obj id o ho
    rw [e1 id (hn id o ho), hs] at a
    obtain rfl := Option.some.inj a
    exact obj_in (E := E') (E' := E) (fun id hid => (e1 id hid).symm) (fun j => (j1 j).symm) (trAll_get hc ho) k
  refine hR E v w' (by rw [← val_in (E := E) (E' := E') e1 j1 sv hs]; exact k1) ⟨r'.below, fun id o ho => ?_, rel.inj, fun j A z e => ?_, rel.frz⟩ ⟨E.le_refl, fun _ _ => rfl, fun _ _ => rfl, st.size, touch, fun id s a b => absurd b (by omega), fun j a z p q => absurd q (by omega)⟩
  · obtain ⟨s, a, b, k⟩ := rel.obj id o ho
    refine ⟨s, a, b, ?_⟩
    cases hx : hp.get id with
    | none => exact k.of_heap (own id o s ho a hx)
    | some o2 =>
      have := hh id o2 hx
      rw [ho] at this
      obtain rfl := Option.some.inj this
      exact back id o s a hx
  · have k := r'.fz j A z (by rw [j1]; exact e)
    refine ⟨k.1, k.2.1, fun i r hi hr => ?_⟩
    obtain ⟨a, v, p, q, u, x⟩ := k.2.2 i r hi hr
    exact ⟨a, v, p, by rw [val_own0 (E := E') (E' := E) (fun j => (j1 j).symm) _ (own0_cell _ _ _)]; exact q, u, x⟩
end Go.Proofs.YtgoccionghehoaaGreatDoor.Ev
