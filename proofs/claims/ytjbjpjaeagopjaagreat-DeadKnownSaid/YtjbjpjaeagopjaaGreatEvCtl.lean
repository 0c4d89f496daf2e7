/- Control: rows of code, loops, calls. -/
import Derived.Test.YtjbjpjaeagopjaaGreatEvDraw7
import Derived.LoopN
set_option linter.unusedSimpArgs false
set_option linter.unusedVariables false
namespace Go.Proofs.YtjbjpjaeagopjaaGreat.Ev
open Go

variable {P : Program} {W0 : World}
inductive X where
  | normal
  | exit (id : Nat)
  | ret
def X.to : X → Exit
  | .normal => .normal
  | .exit id => .exit id
  | .ret => .ret
abbrev KX := X → Tr SV → HS → Bool
noncomputable def loopGo (body : Tr SV → HS → KX → Bool) (k : KX) (n : Nat) : Tr SV → HS → Bool :=
  Nat.rec (fun _ _ => false) (fun _ again fr h => body fr h fun x fr' h' => X.rec (again fr' h') (fun id => k (.exit id) fr' h') (k .ret fr' h') x) n
abbrev CodeF := CallK → Nat → Tr SV → HS → KX → Bool
noncomputable def clSeq (ia ib : Cl CodeF) : Cl CodeF := ⟨fun call F fr h k => ia.f call F fr h fun x fr' h' => X.rec (ib.f call F fr' h' k) (fun id => k (.exit id) fr' h') (k .ret fr' h') x⟩
noncomputable def clCond (c : Operand) (ia ib : Cl CodeF) : Cl CodeF := (opdC c).then fun g => ⟨fun call F fr h k => g fr fun v => asBool v (ia.f call F fr h k) (ib.f call F fr h k)⟩
noncomputable def clBlock (id : Nat) (ib : Cl CodeF) : Cl CodeF := ⟨fun call F fr h k => ib.f call F fr h fun x fr' h' => X.rec (k .normal fr' h') (fun j => Bool.rec (k (.exit j) fr' h') (k .normal fr' h') (Nat.beq j id)) (k .ret fr' h') x⟩
noncomputable def clLoop (ib : Cl CodeF) : Cl CodeF := ⟨fun call F fr h k => loopGo (ib.f call F) k F fr h⟩
noncomputable def clRegion (P : Program) (N : Nat) (ops : Array Oper) (draw : Bool) : Cl CodeF :=
  Bool.rec ((opsC P N ops ops.toList).then fun g => ⟨fun call _ fr h k => g call fr h (k .normal)⟩) ((drawRC P N ops).then fun g => ⟨fun call _ fr h k => g call fr h (k .normal)⟩) draw
noncomputable def codeC (P : Program) (N : Nat) (c : Code) : Cl CodeF :=
  Code.rec (motive := fun _ => Cl CodeF)
    ⟨fun _ _ fr h k => k .normal fr h⟩
    (fun _ ops draw => clRegion P N ops draw)
    (fun _ _ ia ib => clSeq ia ib)
    (fun c _ _ ia ib => clCond c ia ib)
    (fun id _ ib => clBlock id ib)
    (fun _ ib => clLoop ib)
    (fun _ _ _ _ _ _ => ⟨fun _ _ _ _ _ => false⟩)
    (fun id => ⟨fun _ _ fr h k => k (.exit id) fr h⟩)
    (fun _ _ => ⟨fun _ _ _ _ _ => false⟩)
    (fun _ => ⟨fun _ _ fr h k => k .normal fr h⟩)
    (fun _ => ⟨fun _ _ _ _ _ => false⟩)
    ⟨fun _ _ fr h k => k .ret fr h⟩
    (fun _ => ⟨fun _ _ _ _ _ => false⟩) c
noncomputable def codeOk (c : Code) : Bool :=
  Code.rec (motive := fun _ => Bool) true (fun _ ops draw => bif draw then drawOk ops else true) (fun _ _ ia ib => bif ia then ib else false) (fun _ _ _ ia ib => bif ia then ib else false) (fun _ _ ib => ib) (fun _ ib => ib)
    (fun _ _ _ _ _ _ => true) (fun _ => true) (fun _ _ => true) (fun _ => true) (fun _ => true) true (fun _ => true) c
/-- From every frame and world that are so, the code comes to what is given. -/
def CodeOk (P : Program) (W0 : World) (N : Nat) (c : Code) (fr : Tr SV) (h : HS) (x : X) (fr' : Tr SV) (h' : HS) : Prop :=
  ∀ E a w, Rel W0 E h.hp.get w → Free E h.nx h'.nx h.ne h'.ne → FrOk E fr N a → ∀ Q : Exit → Act → World → Prop,
    (∀ E' a' w', Rel W0 E' h'.hp.get w' → Step h.bar h.hp.get h.nx h'.nx h.ne h'.ne E E' w w' → FrOk E' fr' N a' → Q x.to a' w') → c.wp P Q a w
theorem codeC_ok {call : CallK} (hc : CallSound P W0 call) (hm : P.follows .mixedOrders = true) {N F : Nat} (c : Code) : ∀ (fr : Tr SV) (h : HS) (k : KX), codeOk c = true → (codeC P N c).f call F fr h k = true →
    ∃ x fr' h', k x fr' h' = true ∧ Goes h h' ∧ CodeOk P W0 N c fr h x fr' h' := by
  induction c with
  | skip => intro fr h k _ hk; exact ⟨.normal, fr, h, hk, Goes.refl h, fun E a w r _ fo Q hQ => wp_skip (hQ E a w r (Step.refl _ _ _ _ _ _) fo)⟩
  | label l => intro fr h k _ hk; exact ⟨.normal, fr, h, hk, Goes.refl h, fun E a w r _ fo Q hQ => wp_label (hQ E a w r (Step.refl _ _ _ _ _ _) fo)⟩
  | exit id => intro fr h k _ hk; exact ⟨.exit id, fr, h, hk, Goes.refl h, fun E a w r _ fo Q hQ => wp_exit (hQ E a w r (Step.refl _ _ _ _ _ _) fo)⟩
  | ret => intro fr h k _ hk; exact ⟨.ret, fr, h, hk, Goes.refl h, fun E a w r _ fo Q hQ => wp_ret (hQ E a w r (Step.refl _ _ _ _ _ _) fo)⟩
  | rangeFunc f ps a b _ _ => intro fr h k _ hk; cases hk
  | scope b _ => intro fr h k _ hk; cases hk
  | goto l => intro fr h k _ hk; cases hk
  | refuse w => intro fr h k _ hk; cases hk
  | region id ops draw =>
    intro fr h k hok hk
    cases draw with
    | true =>
      obtain ⟨fr', h', k1, g, ok⟩ := drawRC_ok (W0 := W0) hc hm (show drawOk ops = true from hok) (show (drawRC P N ops).f call fr h (k .normal) = true by
        have : (((drawRC P N ops).then fun g => (⟨fun call _ fr h k => g call fr h (k .normal)⟩ : Cl CodeF))).f call F fr h k = true := hk
        rw [Cl.then_eq] at this
        exact this)
      exact ⟨.normal, fr', h', k1, g, fun E a w r fe fo Q hQ => ok id E a w r fe fo Q hQ⟩
    | false =>
      obtain ⟨fr', h', k1, g, ok⟩ := opsC_ok (W0 := W0) hc ops.toList fr h (k .normal) (by
        have : (((opsC P N ops ops.toList).then fun g => (⟨fun call _ fr h k => g call fr h (k .normal)⟩ : Cl CodeF))).f call F fr h k = true := hk
        rw [Cl.then_eq] at this
        exact this)
      exact ⟨.normal, fr', h', k1, g, fun E a w r fe fo Q hQ => wp_region_list (ok E a w r fe fo Q hQ)⟩
  | seq x y ix iy =>
    intro fr h k hok hk
    obtain ⟨o1, o2⟩ := bif_true (show (bif codeOk x then codeOk y else false) = true from hok)
    change (codeC P N x).f call F fr h (fun x fr' h' => X.rec ((codeC P N y).f call F fr' h' k) (fun id => k (.exit id) fr' h') (k .ret fr' h') x) = true at hk
    obtain ⟨x1, fr1, h1, k1, g1, c1⟩ := ix _ _ _ o1 hk
    cases x1 with
    | normal =>
      obtain ⟨x2, fr2, h2, k2, g2, c2⟩ := iy _ _ _ o2 k1
      refine ⟨x2, fr2, h2, k2, g1.trans g2, fun E a w r fe fo Q hQ => wp_seq (c1 E a w r (fe.left g2.nx g2.ne) fo _ fun E' a' w' r' st fo' => ?_)⟩
      exact c2 E' a' w' r' (fe.right st g1.nx g1.ne) fo' Q fun E2 a2 w2 r2 st2 fo2 => hQ E2 a2 w2 r2 (Step.trans g1 g2 st st2) fo2
    | exit id => exact ⟨.exit id, fr1, h1, k1, g1, fun E a w r fe fo Q hQ => wp_seq (c1 E a w r fe fo _ fun E' a' w' r' st fo' => hQ E' a' w' r' st fo')⟩
    | ret => exact ⟨.ret, fr1, h1, k1, g1, fun E a w r fe fo Q hQ => wp_seq (c1 E a w r fe fo _ fun E' a' w' r' st fo' => hQ E' a' w' r' st fo')⟩
  | cond c x y ix iy =>
    intro fr h k hok hk
    obtain ⟨o1, o2⟩ := bif_true (show (bif codeOk x then codeOk y else false) = true from hok)
    have hk2 : (clCond c (codeC P N x) (codeC P N y)).f call F fr h k = true := hk
    unfold clCond at hk2
    simp only [Cl.then_eq, opdC_at] at hk2
    obtain ⟨b, hb, hk⟩ := asBool_ok hk2
    cases b with
    | true =>
      obtain ⟨x1, fr1, h1, k1, g1, c1⟩ := ix _ _ _ o1 hk
      refine ⟨x1, fr1, h1, k1, g1, fun E a w r fe fo Q hQ => wp_cond_true ?_ (c1 E a w r fe fo Q hQ)⟩
      have := opd_ok fo c
      rw [hb] at this
      exact (Option.some.inj this).symm
    | false =>
      obtain ⟨x1, fr1, h1, k1, g1, c1⟩ := iy _ _ _ o2 hk
      refine ⟨x1, fr1, h1, k1, g1, fun E a w r fe fo Q hQ => wp_cond_false ?_ (c1 E a w r fe fo Q hQ)⟩
      have := opd_ok fo c
      rw [hb] at this
      exact (Option.some.inj this).symm
  | block id x ix =>
    intro fr h k hok hk
    change (codeC P N x).f call F fr h (fun x fr' h' => X.rec (k .normal fr' h') (fun j => Bool.rec (k (.exit j) fr' h') (k .normal fr' h') (Nat.beq j id)) (k .ret fr' h') x) = true at hk
    obtain ⟨x1, fr1, h1, k1, g1, c1⟩ := ix _ _ _ hok hk
    cases x1 with
    | normal => exact ⟨.normal, fr1, h1, k1, g1, fun E a w r fe fo Q hQ => wp_block (c1 E a w r fe fo _ fun E' a' w' r' st fo' => hQ E' a' w' r' st fo')⟩
    | ret => exact ⟨.ret, fr1, h1, k1, g1, fun E a w r fe fo Q hQ => wp_block (c1 E a w r fe fo _ fun E' a' w' r' st fo' => hQ E' a' w' r' st fo')⟩
    | exit j =>
      have k1 : (bif Nat.beq j id then k .normal fr1 h1 else k (.exit j) fr1 h1) = true := by
        revert k1
        cases hb : Nat.beq j id <;> intro k1
        · have : (Bool.rec (k (.exit j) fr1 h1) (k .normal fr1 h1) (Nat.beq j id) : Bool) = true := k1
          rw [hb] at this
          exact this
        · have : (Bool.rec (k (.exit j) fr1 h1) (k .normal fr1 h1) (Nat.beq j id) : Bool) = true := k1
          rw [hb] at this
          exact this
      rw [Tr.bif_beq] at k1
      split at k1
      · rename_i e
        refine ⟨.normal, fr1, h1, k1, g1, fun E a w r fe fo Q hQ => wp_block (c1 E a w r fe fo _ fun E' a' w' r' st fo' => ?_)⟩
        show (if j = id then Q .normal a' w' else Q (.exit j) a' w')
        rw [if_pos e]
        exact hQ E' a' w' r' st fo'
      · rename_i e
        refine ⟨.exit j, fr1, h1, k1, g1, fun E a w r fe fo Q hQ => wp_block (c1 E a w r fe fo _ fun E' a' w' r' st fo' => ?_)⟩
        show (if j = id then Q .normal a' w' else Q (.exit j) a' w')
        rw [if_neg e]
        exact hQ E' a' w' r' st fo'
  | loop x ix =>
    intro fr h k hok hk
    change loopGo ((codeC P N x).f call F) k F fr h = true at hk
    have key : ∀ (n : Nat) (fr : Tr SV) (h : HS), loopGo ((codeC P N x).f call F) k n fr h = true → ∃ x1 fr' h', k x1 fr' h' = true ∧ Goes h h' ∧ ∀ E a w, Rel W0 E h.hp.get w → Free E h.nx h'.nx h.ne h'.ne → FrOk E fr N a → ∀ Q : Exit → Act → World → Prop,
        (∀ E' a' w', Rel W0 E' h'.hp.get w' → Step h.bar h.hp.get h.nx h'.nx h.ne h'.ne E E' w w' → FrOk E' fr' N a' → Q x1.to a' w') → Code.rounds P x Q n a w := by
      intro n
      induction n with
      | zero => intro fr h hk; cases hk
      | succ n ih =>
        intro fr h hk
        change (codeC P N x).f call F fr h (fun x1 fr' h' => X.rec (loopGo ((codeC P N x).f call F) k n fr' h') (fun id => k (.exit id) fr' h') (k .ret fr' h') x1) = true at hk
        obtain ⟨x1, fr1, h1, k1, g1, c1⟩ := ix _ _ _ hok hk
        cases x1 with
        | normal =>
          obtain ⟨x2, fr2, h2, k2, g2, c2⟩ := ih _ _ k1
          refine ⟨x2, fr2, h2, k2, g1.trans g2, fun E a w r fe fo Q hQ => ?_⟩
          rw [rounds_succ]
          exact c1 E a w r (fe.left g2.nx g2.ne) fo _ fun E' a' w' r' st fo' => c2 E' a' w' r' (fe.right st g1.nx g1.ne) fo' Q fun E2 a2 w2 r2 st2 fo2 => hQ E2 a2 w2 r2 (Step.trans g1 g2 st st2) fo2
        | exit id =>
          refine ⟨.exit id, fr1, h1, k1, g1, fun E a w r fe fo Q hQ => ?_⟩
          rw [rounds_succ]
          exact c1 E a w r fe fo _ fun E' a' w' r' st fo' => hQ E' a' w' r' st fo'
        | ret =>
          refine ⟨.ret, fr1, h1, k1, g1, fun E a w r fe fo Q hQ => ?_⟩
          rw [rounds_succ]
          exact c1 E a w r fe fo _ fun E' a' w' r' st fo' => hQ E' a' w' r' st fo'
    obtain ⟨x1, fr1, h1, k1, g1, c1⟩ := key F fr h hk
    exact ⟨x1, fr1, h1, k1, g1, fun E a w r fe fo Q hQ => wp_loop_rounds F (c1 E a w r fe fo Q hQ)⟩

/-! ### calls -/
noncomputable def resK (P : Program) (fr : Tr SV) (g : Tr SO) : List ResultVar → (List SV → Bool) → Bool
  | [], k => k []
  | v :: r, k => match v with
    | .tmp t => opdK fr (.tmp t) fun s => resK P fr g r fun l => k (s :: l)
    | .cell a t => rdLoad P t fr g (.tmp a) fun s => resK P fr g r fun l => k (s :: l)
noncomputable def resC (P : Program) (rs : List ResultVar) : Cl (Tr SV → Tr SO → (List SV → Bool) → Bool) :=
  List.rec ⟨fun _ _ k => k []⟩ (fun v _ ih => match v with
    | .tmp t => (opdC (.tmp t)).then fun g => ⟨fun fr h k => g fr fun s => ih.f fr h fun l => k (s :: l)⟩
    | .cell a t => ⟨fun fr h k => rdLoad P t fr h (.tmp a) fun s => ih.f fr h fun l => k (s :: l)⟩) rs
theorem resC_eq (P : Program) (rs : List ResultVar) : ∀ (fr : Tr SV) (h : Tr SO) (k : List SV → Bool), (resC P rs).f fr h k = resK P fr h rs k := by
  induction rs with
  | nil => intro fr h k; rfl
  | cons v r ih =>
    intro fr h k
    cases v with
    | tmp t =>
      show ((opdC (.tmp t)).then fun g => (⟨fun fr h k => g fr fun s => (resC P r).f fr h fun l => k (s :: l)⟩ : Cl (Tr SV → Tr SO → (List SV → Bool) → Bool))).f fr h k = _
      rw [Cl.then_eq]
      simp only [opdC_eq, resK]
      congr 1
      funext s
      exact ih _ _ _
    | cell a t =>
      show rdLoad P t fr h (.tmp a) (fun s => (resC P r).f fr h fun l => k (s :: l)) = _
      simp only [resK]
      congr 1
      funext s
      exact ih _ _ _
abbrev FnF := CallK → Nat → List SV → HS → (SV → HS → Bool) → Bool
noncomputable def argsK (l : List SV) : Nat → Tr SV → (Tr SV → Bool) → Bool := List.rec (fun _ t k => k t) (fun s _ ih i t k => t.putK i (some s) fun t' => natK (i + 1) fun i' => ih i' t' k) l
theorem argsK_eq (l : List SV) : ∀ (i : Nat) (t : Tr SV) (k : Tr SV → Bool), argsK l i t k = k (trOf l i t) := by
  induction l with
  | nil => intro i t k; rfl
  | cons s r ih =>
    intro i t k
    show (t.putK i (some s) fun t' => natK (i + 1) fun i' => argsK r i' t' k) = _
    rw [Tr.putK_eq, natK_eq, ih]
    rfl
noncomputable def oneK2 (r : List SV) (k : SV → Bool) : Bool := List.rec (k (.tup [])) (fun s t _ => List.rec (k s) (fun u v _ => k (.tup (s :: u :: v))) t) r
theorem oneK2_eq (r : List SV) (k : SV → Bool) : oneK2 r k = k (match r with | [s] => s | r => .tup r) := by
  cases r with
  | nil => rfl
  | cons s t => cases t <;> rfl
/-- A function's body, worked out once. -/
noncomputable def fnC (P : Program) (M : Nat) (f : FuncId) : Cl FnF :=
  bif Nat.blt f M then
    (match P.funcs[f]? with
    | some fn => (match fn.body with
      | some c => natC (fn.params.size + fn.nfree) fun n => natC (n + (fn.ntmps - n)) fun N => (codeC P N c).then fun g => (resC P fn.results.toList).then fun rs =>
        ⟨fun call F l h k => Bool.rec false (argsK l 0 .e fun fr => g call F fr h fun x fr' h' => X.rec (rs fr' h'.hp fun r => oneK2 r fun s => k s h') (fun _ => false) (rs fr' h'.hp fun r => oneK2 r fun s => k s h') x) (Nat.beq l.length n)⟩
      | none => ⟨fun _ _ _ _ _ => false⟩)
    | none => ⟨fun _ _ _ _ _ => false⟩)
  else ⟨fun _ _ _ _ _ => false⟩
/-- Calls whose ends are known: function, arguments, result. -/
abbrev Tab := List (FuncId × List SV × SV)
noncomputable def tabK (T : Tab) (f : FuncId) (l : List SV) (k : SV → Bool) : Bool → Bool :=
  List.rec (fun d => d) (fun x _ ih d => Bool.rec (ih d) (Bool.rec (ih d) (k x.2.2) (slEq l x.2.1)) (Nat.beq f x.1)) T
noncomputable def evCall (P : Program) (M F : Nat) (T : Tab) (d : Nat) : CallK := Nat.rec (fun _ _ _ _ => false) (fun _ ih f l h k => tabK T f l (fun s => k s h) ((fnC P M f).f ih F l h k)) d
def FnsOk (P : Program) (M : Nat) : Prop := ∀ f fn c, f < M → P.funcs[f]? = some fn → fn.body = some c → codeOk c = true
end Go.Proofs.YtjbjpjaeagopjaaGreat.Ev
