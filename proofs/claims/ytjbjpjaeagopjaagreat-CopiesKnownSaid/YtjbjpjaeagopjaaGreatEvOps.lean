/- Guards; a row of operations in the order of the text. -/
import Derived.Test.YtjbjpjaeagopjaaGreatEvComp3
import Derived.TacticsIn
set_option linter.unusedSimpArgs false
set_option linter.unusedVariables false
set_option linter.unusedSectionVars false
namespace Go.Proofs.YtjbjpjaeagopjaaGreat.Ev
open Go

variable [GTab] {P : Program} {W0 : World} [GOk W0]
/-! ### guards -/
noncomputable def wants (ops : Array Oper) (o : Oper) (fr : Tr SV) : Option Bool :=
  match o.guard with
  | none => some true
  | some (g, want) => match (ops[g]?).bind (·.dst) with
    | none => some false
    | some t => match opd fr (.tmp t) with
      | .bool b => some (bif b then want else !want)
      | .lit (.bool _) => none
      | _ => some false
theorem not_bool {E : Env} {s : SV} {v : Value} (h : val E s = some v) (h1 : ∀ b, s ≠ .bool b) (h2 : ∀ b, s ≠ .lit (.bool b)) : ∀ b, v ≠ .bool b := by
  intro b
  cases s with
  | bool b => exact absurd rfl (h1 b)
  | int k n => simp only [val, Option.some.injEq] at h; subst h; simp
  | lit v' => simp only [val, Option.some.injEq] at h; subst h; exact fun e => h2 b (by rw [e])
  | ptr id off => simp only [val, Option.map_eq_some_iff] at h; obtain ⟨_, _, rfl⟩ := h; simp
  | sl id off len cap => simp only [val, Option.map_eq_some_iff] at h; obtain ⟨_, _, rfl⟩ := h; simp
  | slr id off len cap => simp only [val, Option.map_eq_some_iff] at h; obtain ⟨_, _, rfl⟩ := h; simp
  | emp j id off skip => simp only [val, Option.bind_eq_some_iff, Option.map_eq_some_iff] at h; obtain ⟨_, _, _, _, _, _, rfl⟩ := h; simp
  | map id => simp only [val, Option.map_eq_some_iff] at h; obtain ⟨_, _, rfl⟩ := h; simp
  | yld id => simp only [val, Option.map_eq_some_iff] at h; obtain ⟨_, _, rfl⟩ := h; simp
  | mks l => simp only [val, Option.some.injEq] at h; subst h; simp [undef]
  | iface t x => simp only [val, Option.map_eq_some_iff] at h; obtain ⟨_, _, rfl⟩ := h; simp
  | agg l => simp only [val, Option.map_eq_some_iff] at h; obtain ⟨_, _, rfl⟩ := h; simp
  | tup l => simp only [val, Option.map_eq_some_iff] at h; obtain ⟨_, _, rfl⟩ := h; simp
  | fn f a b => simp only [val, Option.map_eq_some_iff, Option.bind_eq_some_iff] at h; obtain ⟨_, _, _, _, rfl⟩ := h; simp
/-- What a guard looks at is the same in both frames. -/
def SameG (ops : Array Oper) (o : Oper) (fr fr' : Tr SV) : Prop := ∀ g want t, o.guard = some (g, want) → (ops[g]?).bind (·.dst) = some t → opd fr (.tmp t) = opd fr' (.tmp t)
theorem wants_ok {ops : Array Oper} {o : Oper} {fr fr' : Tr SV} {b : Bool} (h : wants ops o fr = some b) (sm : SameG ops o fr fr') {E : Env} {N : Nat} {a : Act} (fo : FrOk E fr' N a) : Region.wanted o (yielded ops a.tmps) = b := by
  unfold wants at h
  unfold Region.wanted
  split at h
  · rename_i hg
    rw [hg]
    exact Option.some.inj h
  · rename_i g want hg
    rw [hg]
    dsimp only
    split at h
    · rename_i hn
      have : yielded ops a.tmps g = none := by unfold yielded; rw [hn]; rfl
      rw [this, ← Option.some.inj h]
      rfl
    · rename_i t ht
      have hv := opd_ok fo (.tmp t)
      rw [← sm g want t hg ht] at hv
      have hy : yielded ops a.tmps g = match a.tmps[t]? with | some (.bool b) => some b | _ => none := by
        unfold yielded
        rw [ht]
        rfl
      rw [hy]
      simp only [Act.eval, Array.getD_eq_getD_getElem?] at hv
      split at h
      · rename_i x hx
        rw [hx] at hv
        simp only [val, Option.some.injEq] at hv
        cases hq : a.tmps[t]? with
        | none => rw [hq] at hv; exact absurd hv (by simp [undef])
        | some v =>
          rw [hq] at hv
          simp only [Option.getD_some] at hv
          subst hv
          rw [← Option.some.inj h]
          cases x <;> cases want <;> rfl
      · cases h
      · rename_i h1 h2
        have nb := not_bool hv h1 h2
        rw [← Option.some.inj h]
        cases hq : a.tmps[t]? with
        | none => rfl
        | some v =>
          rw [hq] at nb
          simp only [Option.getD_some] at nb
          cases v <;> first | rfl | (rename_i b; exact absurd rfl (nb b))

/-! ### the operations one by one -/
noncomputable def putDK (N : Nat) (dst : Option Tmp) (sv : SV) (fr : Tr SV) (k : Tr SV → Bool) : Bool :=
  match dst with
  | none => k fr
  | some d => bif Nat.blt d N then fr.putK d (some sv) k else false
noncomputable def putD (dst : Option Tmp) (sv : SV) (fr : Tr SV) : Tr SV :=
  match dst with
  | none => fr
  | some d => fr.put d (some sv)
def inN (N : Nat) (dst : Option Tmp) : Prop := ∀ d, dst = some d → d < N
theorem putDK_ok {N : Nat} {dst : Option Tmp} {sv : SV} {fr : Tr SV} {k : Tr SV → Bool} (h : putDK N dst sv fr k = true) : k (putD dst sv fr) = true ∧ inN N dst := by
  unfold putDK at h
  split at h
  · exact ⟨h, fun d e => by cases e⟩
  · rename_i d
    obtain ⟨h1, h2⟩ := bif_true h
    rw [Tr.putK_eq] at h2
    refine ⟨h2, fun d' e => ?_⟩
    obtain rfl := Option.some.inj e
    exact Nat.le_of_ble_eq_true h1
theorem FrOk.putD {E : Env} {fr : Tr SV} {N : Nat} {a : Act} (f : FrOk E fr N a) {dst : Option Tmp} {sv : SV} {v : Value} (hd : inN N dst) (hv : val E sv = some v) : FrOk E (putD dst sv fr) N (a.put dst v) := by
  cases dst with
  | none => exact f
  | some d => exact f.put (hd d rfl) hv
noncomputable def asBoolD (s : SV) : Bool → Bool → Bool → Bool :=
  SV.rec (motive_1 := fun _ => Bool → Bool → Bool → Bool) (motive_2 := fun _ => Unit) (fun b x y _ => Bool.rec y x b) (fun _ _ _ _ d => d) (fun _ _ _ d => d) (fun _ _ _ _ d => d) (fun _ _ _ _ _ _ d => d) (fun _ _ _ _ _ _ d => d) (fun _ _ _ _ _ _ d => d) (fun _ _ _ d => d) (fun _ _ _ _ _ _ _ d => d) (fun _ _ _ _ _ d => d) (fun _ _ _ _ d => d) (fun _ _ _ _ d => d) (fun _ _ _ d => d) (fun _ _ _ d => d) () (fun _ _ _ _ => ()) s
theorem asBoolD_ok {s : SV} {x y d : Bool} (h : asBoolD s x y d = true) : d = true ∨ ∃ b, s = .bool b ∧ (bif b then x else y) = true := by
  cases s <;> first | (rename_i b; exact .inr ⟨b, rfl, by cases b <;> exact h⟩) | exact .inl h
/-- The guard, looked at once. -/
noncomputable def wantC (ops : Array Oper) (o : Oper) : Cl (Tr SV → Bool → Bool → Bool) :=
  match o.guard with
  | none => ⟨fun _ x _ => x⟩
  | some (g, want) => (match (ops[g]?).bind (·.dst) with
    | none => ⟨fun _ _ y => y⟩
    | some t => (opdC (.tmp t)).then fun gt => (match want with
      | true => ⟨fun fr x y => gt fr fun v => asBoolD v x y (match wants ops o fr with | some true => x | some false => y | none => false)⟩
      | false => ⟨fun fr x y => gt fr fun v => asBoolD v y x (match wants ops o fr with | some true => x | some false => y | none => false)⟩))
theorem wantC_ok {ops : Array Oper} {o : Oper} {fr : Tr SV} {x y : Bool} (h : (wantC ops o).f fr x y = true) : ∃ b, wants ops o fr = some b ∧ (bif b then x else y) = true := by
  have gen : (match wants ops o fr with | some true => x | some false => y | none => false) = true → ∃ b, wants ops o fr = some b ∧ (bif b then x else y) = true := by
    intro h
    split at h
    · rename_i e; exact ⟨true, e, h⟩
    · rename_i e; exact ⟨false, e, h⟩
    · cases h
  unfold wantC at h
  split at h
  · rename_i e
    exact ⟨true, by unfold wants; rw [e], h⟩
  · rename_i g want e
    split at h
    · rename_i e2
      exact ⟨false, by unfold wants; rw [e]; simp only; rw [e2], h⟩
    · rename_i t e2
      rw [Cl.then_eq] at h
      cases want with
      | true =>
        simp only [opdC_at] at h
        rcases asBoolD_ok h with h | ⟨b, e3, h⟩
        · exact gen h
        · refine ⟨b, ?_, h⟩
          unfold wants
          rw [e]
          simp only
          rw [e2]
          simp only [e3]
          cases b <;> rfl
      | false =>
        simp only [opdC_at] at h
        rcases asBoolD_ok h with h | ⟨b, e3, h⟩
        · exact gen h
        · refine ⟨!b, ?_, by cases b <;> exact h⟩
          unfold wants
          rw [e]
          simp only
          rw [e2]
          simp only [e3]
          cases b <;> rfl
noncomputable def dstC (N : Nat) (dst : Option Tmp) : Cl (SV → Tr SV → (Tr SV → Bool) → Bool) :=
  match dst with
  | none => ⟨fun _ fr k => k fr⟩
  | some d => bif Nat.blt d N then paC d fun p => ⟨fun sv fr k => putP fr p sv k⟩ else ⟨fun _ _ _ => false⟩
theorem dstC_eq (N : Nat) (dst : Option Tmp) (sv : SV) (fr : Tr SV) (k : Tr SV → Bool) : (dstC N dst).f sv fr k = putDK N dst sv fr k := by
  unfold dstC putDK
  cases dst with
  | none => rfl
  | some d =>
    simp only
    cases Nat.blt d N with
    | false => rfl
    | true =>
      simp only [cond_true, paC_eq]
      exact putP_eq fr d sv k
noncomputable def opsC (P : Program) (N : Nat) (ops : Array Oper) (l : List Oper) : Cl (CallK → Tr SV → HS → (Tr SV → HS → Bool) → Bool) :=
  List.rec ⟨fun _ fr h k => k fr h⟩ (fun o _ ih => (compOp P o).then fun g => (dstC N o.dst).then fun pd => (match o.guard with
    | none => ⟨fun call fr h k => g call fr h fun sv h' => pd sv fr fun fr' => ih.f call fr' h' k⟩
    | some _ => (wantC ops o).then fun wc => ⟨fun call fr h k => wc fr (g call fr h fun sv h' => pd sv fr fun fr' => ih.f call fr' h' k) (pd (.lit undef) fr fun fr' => ih.f call fr' h k)⟩)) l
theorem opsC_step {P : Program} {N : Nat} {ops : Array Oper} {o : Oper} {l : List Oper} {call : CallK} {fr : Tr SV} {h : HS} {k : Tr SV → HS → Bool} (hk : (opsC P N ops (o :: l)).f call fr h k = true) :
    (wants ops o fr = some true ∧ opK P call o fr h (fun sv h' => putDK N o.dst sv fr fun fr' => (opsC P N ops l).f call fr' h' k) = true) ∨ (wants ops o fr = some false ∧ putDK N o.dst (.lit undef) fr (fun fr' => (opsC P N ops l).f call fr' h k) = true) := by
  change ((compOp P o).then fun g => (dstC N o.dst).then fun pd => (match o.guard with
    | none => (⟨fun call fr h k => g call fr h fun sv h' => pd sv fr fun fr' => (opsC P N ops l).f call fr' h' k⟩ : Cl (CallK → Tr SV → HS → (Tr SV → HS → Bool) → Bool))
    | some _ => (wantC ops o).then fun wc => ⟨fun call fr h k => wc fr (g call fr h fun sv h' => pd sv fr fun fr' => (opsC P N ops l).f call fr' h' k) (pd (.lit undef) fr fun fr' => (opsC P N ops l).f call fr' h k)⟩)).f call fr h k = true at hk
  rw [Cl.then_eq, Cl.then_eq] at hk
  cases hg : o.guard with
  | none =>
    rw [hg] at hk
    simp only [dstC_eq] at hk
    exact .inl ⟨by unfold wants; rw [hg], compOp_ok hk⟩
  | some x =>
    rw [hg] at hk
    simp only [Cl.then_eq, dstC_eq] at hk
    obtain ⟨b, e, hb⟩ := wantC_ok hk
    cases b with
    | true => exact .inl ⟨e, compOp_ok hb⟩
    | false => exact .inr ⟨e, hb⟩
/-- From every frame and world that are so, the walk comes to what is given. -/
def OpsOk (P : Program) (W0 : World) (N : Nat) (ops : Array Oper) (l : List Oper) (fr : Tr SV) (h : HS) (fr' : Tr SV) (h' : HS) : Prop :=
  ∀ ro E a w, Rel W0 E h.hp.get w → Free E h.nx h'.nx h.ne h'.ne → FrOk E fr N a → ∀ Q : Exit → Act → World → Prop,
    (∀ E' a' w', Rel W0 E' h'.hp.get w' → Step h.bar h.hp.get h.nx h'.nx h.ne h'.ne E E' w w' → FrOk E' fr' N a' → Q .normal a' w') → wpListIn (Fw ro) 0 P ops Q l a w
theorem opsC_ok {call : CallK} (hc : CallSound P W0 call) {N : Nat} {ops : Array Oper} (l : List Oper) : ∀ (fr : Tr SV) (h : HS) (k : Tr SV → HS → Bool), (opsC P N ops l).f call fr h k = true →
    ∃ fr' h', k fr' h' = true ∧ Goes h h' ∧ OpsOk P W0 N ops l fr h fr' h' := by
  induction l with
  | nil =>
    intro fr h k hk
    exact ⟨fr, h, hk, Goes.refl h, fun ro E a w r _ fo Q hQ => hQ E a w r (Step.refl _ _ _ _ _ _) fo⟩
  | cons o l ih =>
    intro fr h k hk
    rcases opsC_step hk with ⟨hw, hk⟩ | ⟨hw, hk⟩
    · obtain ⟨sv, h1, hk, g1, o1⟩ := opK_ok hc hk
      obtain ⟨hk, hN⟩ := putDK_ok hk
      obtain ⟨fr', h', k1, g2, o2⟩ := ih _ _ _ hk
      refine ⟨fr', h', k1, g1.trans g2, fun ro E a w r fe fo Q hQ => ?_⟩
      simp only [wpListIn]
      rw [wants_ok hw (fun _ _ _ _ _ => rfl) fo, if_pos rfl]
      refine (o1 ro fr E N a w (fun _ _ => rfl) r (fe.left g2.nx g2.ne) fo _ Q fun E' v w' e1 r' st => ?_)
      refine o2 ro E' _ w' r' (fe.right st g1.nx g1.ne) ((fo.le st.le).putD hN e1) Q fun E2 a2 w2 r2 st2 fo2 => hQ E2 a2 w2 r2 (Step.trans g1 g2 st st2) fo2
    · obtain ⟨hk, hN⟩ := putDK_ok hk
      obtain ⟨fr', h', k1, g2, o2⟩ := ih _ _ _ hk
      refine ⟨fr', h', k1, g2, fun ro E a w r fe fo Q hQ => ?_⟩
      simp only [wpListIn]
      rw [wants_ok hw (fun _ _ _ _ _ => rfl) fo, if_neg (by simp)]
      exact ⟨fun _ _ => trivial, o2 ro E _ w r fe (fo.putD hN rfl) Q hQ⟩
end Go.Proofs.YtjbjpjaeagopjaaGreat.Ev
