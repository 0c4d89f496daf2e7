/- A region that draws, run once in the order of the text. -/
import Derived.Test.YtjbjpjaeagopjaaGreatEvDraw5
set_option linter.unusedSimpArgs false
set_option linter.unusedVariables false
set_option linter.unusedSectionVars false
namespace Go.Proofs.YtjbjpjaeagopjaaGreat.Ev
open Go

variable [GTab] {P : Program} {W0 : World} [GOk W0]
def isNil : List Nat → Bool
  | [] => true
  | _ => false
noncomputable def allLt : List Nat → Nat → Bool
  | [], _ => true
  | x :: r, b => bif Nat.blt x b then allLt r b else false
noncomputable def offB (x : Nat) : List Nat → Bool
  | [] => true
  | y :: r => bif Nat.beq x y then false else offB x r
noncomputable def allOff : List Nat → List Nat → Nat → Nat → Bool
  | [], _, _, _ => true
  | x :: r, l, a, b => bif offB x l && (Nat.blt x a || Nat.ble b x) then allOff r l a b else false
/-- None of these was changed. -/
noncomputable def allKept (b : Nat) (v o : Tr SO) : List Nat → Bool
  | [] => true
  | x :: r => bif Nat.blt x b then allKept b v o r else bif soEq (v.get x) (o.get x) then allKept b v o r else false
theorem allKept_ok {l : List Nat} {b : Nat} {v o : Tr SO} (h : allKept b v o l = true) : ∀ x ∈ l, x < b ∨ v.get x = o.get x := by
  induction l with
  | nil => intro x hx; cases hx
  | cons y r ih =>
    intro x hx
    rw [allKept] at h
    cases hb : Nat.blt y b with
    | true =>
      rw [hb] at h
      rcases List.mem_cons.1 hx with e | e
      · rw [e]; exact .inl (Nat.le_of_ble_eq_true hb)
      · exact ih h x e
    | false =>
      rw [hb] at h
      obtain ⟨h1, h2⟩ := bif_true h
      rcases List.mem_cons.1 hx with e | e
      · rw [e]; exact .inr (soEq_ok h1)
      · exact ih h2 x e
noncomputable def indB (a b : Rc) : Bool :=
  bif a.full then (bif b.full then false else (bif b.w then isNil b.ids else allKept a.bar a.vw a.ou b.ids))
  else bif b.full then (bif a.w then false else allKept b.bar b.vw b.ou a.ids)
  else bif a.w || b.w then allOff b.ids a.ids a.nx a.nx' else true
noncomputable def pairsOk (rs : Tr Rc) : List (Nat × Nat) → Bool
  | [] => true
  | x :: r => match rs.get x.1 with
    | none => pairsOk rs r
    | some a => match rs.get x.2 with
      | none => pairsOk rs r
      | some b => bif indB a b then pairsOk rs r else false
theorem allLt_ok {l : List Nat} {b : Nat} (h : allLt l b = true) : ∀ x ∈ l, x < b := by
  induction l with
  | nil => intro x hx; cases hx
  | cons y r ih =>
    obtain ⟨h1, h2⟩ := bif_true h
    intro x hx
    rcases List.mem_cons.1 hx with e | e
    · rw [e]; exact Nat.le_of_ble_eq_true h1
    · exact ih h2 x e
theorem offB_ok {x : Nat} {l : List Nat} (h : offB x l = true) : x ∉ l := by
  induction l with
  | nil => exact List.not_mem_nil
  | cons y r ih =>
    rw [offB, Tr.bif_beq] at h
    split at h
    · cases h
    · rename_i e
      intro hx
      rcases List.mem_cons.1 hx with q | q
      · exact e q
      · exact ih h q
theorem allOff_ok {l m : List Nat} {a b : Nat} (h : allOff l m a b = true) : ∀ x ∈ l, x ∉ m ∧ (x < a ∨ b ≤ x) := by
  induction l with
  | nil => intro x hx; cases hx
  | cons y r ih =>
    obtain ⟨h1, h2⟩ := bif_true h
    simp only [Bool.and_eq_true, Bool.or_eq_true] at h1
    intro x hx
    rcases List.mem_cons.1 hx with e | e
    · rw [e]
      exact ⟨offB_ok h1.1, h1.2.imp Nat.le_of_ble_eq_true Nat.le_of_ble_eq_true⟩
    · exact ih h2 x e
theorem pairsOk_ok {rs : Tr Rc} {l : List (Nat × Nat)} (h : pairsOk rs l = true) : ∀ i j a b, (i, j) ∈ l → rs.get i = some a → rs.get j = some b → indB a b = true := by
  induction l with
  | nil => intro i j a b hm; cases hm
  | cons x r ih =>
    intro i j a b hm ha hb
    rw [pairsOk] at h
    rcases List.mem_cons.1 hm with e | e
    · subst e
      simp only [ha, hb] at h
      exact (bif_true h).1
    · refine ih ?_ i j a b e ha hb
      split at h
      · exact h
      · split at h
        · exact h
        · exact (bif_true h).2

noncomputable def putRK (rs : Tr Rc) (j : Nat) (rc : Option Rc) (k : Tr Rc → Bool) : Bool :=
  match rc with
  | none => k rs
  | some c => rs.putK j (some c) k
noncomputable def drawC (P : Program) (N : Nat) (ops : Array Oper) (l : List Oper) : Nat → Cl (CallK → Tr SV → HS → Tr Rc → (Tr SV → HS → Tr Rc → Bool) → Bool) :=
  List.rec (fun _ => ⟨fun _ fr h rs k => k fr h rs⟩) (fun o _ ih j => (wantC ops o).then fun wc => (opVC P o).then fun g => (dstC N o.dst).then fun pd => natC (j + 1) fun j' =>
    ⟨fun call fr h rs k => wc fr (g call fr h fun sv h' rc => pd sv fr fun fr' => putRK rs j rc fun rs' => (ih j').f call fr' h' rs' k) (pd (.lit undef) fr fun fr' => (ih j').f call fr' h rs k)⟩) l
theorem drawC_step {P : Program} {N : Nat} {ops : Array Oper} {o : Oper} {l : List Oper} {j : Nat} {call : CallK} {fr : Tr SV} {h : HS} {rs : Tr Rc} {k : Tr SV → HS → Tr Rc → Bool} (hk : (drawC P N ops (o :: l) j).f call fr h rs k = true) :
    (wants ops o fr = some true ∧ (opVC P o).f call fr h (fun sv h' rc => putDK N o.dst sv fr fun fr' => putRK rs j rc fun rs' => (drawC P N ops l (j + 1)).f call fr' h' rs' k) = true) ∨ (wants ops o fr = some false ∧ putDK N o.dst (.lit undef) fr (fun fr' => (drawC P N ops l (j + 1)).f call fr' h rs k) = true) := by
  change ((wantC ops o).then fun wc => (opVC P o).then fun g => (dstC N o.dst).then fun pd => natC (j + 1) fun j' =>
    (⟨fun call fr h rs k => wc fr (g call fr h fun sv h' rc => pd sv fr fun fr' => putRK rs j rc fun rs' => (drawC P N ops l j').f call fr' h' rs' k) (pd (.lit undef) fr fun fr' => (drawC P N ops l j').f call fr' h rs k)⟩ : Cl (CallK → Tr SV → HS → Tr Rc → (Tr SV → HS → Tr Rc → Bool) → Bool))).f call fr h rs k = true at hk
  rw [Cl.then_eq, Cl.then_eq, Cl.then_eq, natC_eq] at hk
  simp only [dstC_eq] at hk
  obtain ⟨b, e, hb⟩ := wantC_ok hk
  cases b with
  | true => exact .inl ⟨e, hb⟩
  | false => exact .inr ⟨e, hb⟩
def anyB {α : Type} : List α → Bool
  | [] => false
  | _ => true
noncomputable def drawRC (P : Program) (N : Nat) (ops : Array Oper) : Cl (CallK → Tr SV → HS → (Tr SV → HS → Bool) → Bool) :=
  (drawC P N ops ops.toList 0).then fun g => match dynPairs ops with
    | [] => ⟨fun call fr h k => g call fr h .e fun fr' h' _ => k fr' h'⟩
    | x :: r => ⟨fun call fr h k => g call fr h .e fun fr' h' rs => bif pairsOk rs (x :: r) then k fr' h' else false⟩
structure SF (P : Program) (W0 : World) (N : Nat) (ops : Array Oper) (m : Nat) (p : Pl) (fr fr' : Tr SV) (h h' : HS) (rc : Option Rc) : Prop where
  pl : PlOk P W0 N ops m fr p
  lives : p.lives
  sub : ∀ id o, p.view id = some o → h.hp.get id = some o
  eq : ∀ id, h'.hp.get id = ov p h.hp.get id
  nx : p.nx = h.nx
  nx' : p.nx' = h'.nx
  ne : p.ne = h.ne
  ne' : p.ne' = h'.ne
  bar : h.bar ≤ p.bar
  rcok : RcOk rc p
  pure : ∀ o, ops[m]? = some o → cls o.op = 0 → rc = none
  read : ∀ o, ops[m]? = some o → cls o.op = 1 → ∀ r, rc = some r → r.w = false ∧ r.full = false
  frame : fr' = putD (dstOf ops m) p.sv fr
  inN : inN N (dstOf ops m)
  goes : Goes h h'
theorem dstOf_some {ops : Array Oper} {j : Nat} {o : Oper} (h : ops[j]? = some o) : dstOf ops j = o.dst := by unfold dstOf; rw [h]; rfl
theorem drawC_ok {call : CallK} (hc : CallSound P W0 call) {N : Nat} {ops : Array Oper} (l : List Oper) : ∀ (j : Nat) (fr : Tr SV) (h : HS) (rs : Tr Rc) (k : Tr SV → HS → Tr Rc → Bool), j ≤ ops.size → (∀ m, l[m]? = ops[j + m]?) → (∀ m, j ≤ m → rs.get m = none) →
    (drawC P N ops l j).f call fr h rs k = true → ∃ (p : Nat → Pl) (F : Nat → Tr SV) (H : Nat → HS) (R : Tr Rc), k (F ops.size) (H ops.size) R = true ∧ F j = fr ∧ H j = h ∧ (∀ m, m < j → R.get m = rs.get m) ∧ ∀ m, j ≤ m → m < ops.size → SF P W0 N ops m (p m) (F m) (F (m + 1)) (H m) (H (m + 1)) (R.get m) := by
  induction l with
  | nil =>
    intro j fr h rs k hj hl _ hk
    have h0 : ops[j]? = none := by simpa using (hl 0).symm
    have : ops.size ≤ j := by simpa using h0
    have : j = ops.size := Nat.le_antisymm hj this
    subst this
    exact ⟨fun _ => ⟨Tr.e.get, Tr.e.get, .lit undef, 0, 0, 0, 0, 0⟩, fun _ => fr, fun _ => h, rs, hk, rfl, rfl, fun _ _ => rfl, fun m a b => absurd b (by omega)⟩
  | cons o l ih =>
    intro j fr h rs k hj hl hrs hk
    have h0 : ops[j]? = some o := by simpa using (hl 0).symm
    have hjn : j < ops.size := (Array.getElem?_eq_some_iff.1 h0).1
    have hd := dstOf_some h0
    have hl' : ∀ m, l[m]? = ops[j + 1 + m]? := fun m => by have := hl (m + 1); simpa [Nat.add_assoc, Nat.add_comm 1 m] using this
    have go : ∀ (p0 : Pl) (fr1 : Tr SV) (h1 : HS) (rs1 : Tr Rc) (rc : Option Rc), (∀ m, rs1.get m = if m = j then rc else rs.get m) → SF P W0 N ops j p0 fr fr1 h h1 rc → (drawC P N ops l (j + 1)).f call fr1 h1 rs1 k = true →
        ∃ (p : Nat → Pl) (F : Nat → Tr SV) (H : Nat → HS) (R : Tr Rc), k (F ops.size) (H ops.size) R = true ∧ F j = fr ∧ H j = h ∧ (∀ m, m < j → R.get m = rs.get m) ∧ ∀ m, j ≤ m → m < ops.size → SF P W0 N ops m (p m) (F m) (F (m + 1)) (H m) (H (m + 1)) (R.get m) := by
      intro p0 fr1 h1 rs1 rc hr sf hk
      obtain ⟨p, F, H, R, k1, f1, h1', r1, s1⟩ := ih (j + 1) fr1 h1 rs1 k hjn hl' (fun m hm => by rw [hr, if_neg (by omega)]; exact hrs m (by omega)) hk
      refine ⟨fun m => if m = j then p0 else p m, fun m => if m = j then fr else F m, fun m => if m = j then h else H m, R, ?_, if_pos rfl, if_pos rfl, fun m hm => ?_, fun m a b => ?_⟩
      · simp only
        rw [if_neg (by omega), if_neg (by omega)]
        exact k1
      · rw [r1 m (by omega), hr, if_neg (by omega)]
      · by_cases e : m = j
        · subst e
          simp only [if_true]
          rw [if_neg (by omega), if_neg (by omega), f1, h1', r1 m (by omega), hr, if_pos rfl]
          exact sf
        · simp only
          rw [if_neg e, if_neg e, if_neg e, if_neg (by omega), if_neg (by omega)]
          exact s1 m (by omega) b
    rcases drawC_step hk with ⟨hw, hk⟩ | ⟨hw, hk⟩
    · obtain ⟨sv, h1, rc, p0, hk, psv, g, vo⟩ := opVC_ok (W0 := W0) hc hk
      obtain ⟨hk, hN⟩ := putDK_ok hk
      have hk2 : ∃ rs1 : Tr Rc, (∀ m, rs1.get m = if m = j then rc else rs.get m) ∧ (drawC P N ops l (j + 1)).f call (putD o.dst sv fr) h1 rs1 k = true := by
        unfold putRK at hk
        split at hk
        · exact ⟨rs, fun m => by
            by_cases e : m = j
            · rw [if_pos e, e]; exact hrs j (Nat.le_refl _)
            · rw [if_neg e], hk⟩
        · rename_i c
          simp only [Tr.putK_eq] at hk
          exact ⟨_, fun m => Tr.get_put _ _ _ _, hk⟩
      obtain ⟨rs1, hr, hk⟩ := hk2
      refine go p0 _ h1 rs1 rc hr ⟨fun ro fr' E a w hs r fe fo K Q hK => ?_, vo.lives, vo.sub, vo.eq, vo.nx, vo.nx', vo.ne, vo.ne', vo.bar, vo.rcok, fun o' ho' => ?_, fun o' ho' => ?_, by rw [hd, psv], by rw [hd]; exact hN, g⟩ hk
      · unfold wpOpIn
        rw [h0]
        simp only
        rw [wants_ok hw (hs o h0).2 fo, if_pos rfl]
        rw [hd] at hK
        exact (vo.run ro fr' E N a w (hs o h0).1 r fe fo K Q hK)
      · rw [h0] at ho'
        obtain rfl := Option.some.inj ho'
        exact vo.pure
      · rw [h0] at ho'
        obtain rfl := Option.some.inj ho'
        exact vo.read
    · obtain ⟨hk, hN⟩ := putDK_ok hk
      refine go ⟨Tr.e.get, Tr.e.get, .lit undef, h.bar, h.nx, h.nx, h.ne, h.ne⟩ _ h rs none (fun m => ?_) ⟨fun ro fr' E a w hs r fe fo K Q hK => ?_, fun id o e => (by cases e), fun id o e => (by cases e), fun id => (ov_self rfl).symm, rfl, rfl, rfl, rfl, Nat.le_refl _, fun id => ⟨rfl, rfl⟩, fun _ _ _ => rfl, fun _ _ _ r e => (by cases e), by rw [hd], by rw [hd]; exact hN, Goes.refl h⟩ hk
      · by_cases e : m = j
        · rw [if_pos e, e]; exact hrs j (Nat.le_refl _)
        · rw [if_neg e]
      · unfold wpOpIn
        rw [h0]
        simp only
        rw [wants_ok hw (hs o h0).2 fo, if_neg (by simp)]
        rw [hd] at hK
        exact ⟨fun _ _ => trivial, hK E undef w rfl r (Step.refl _ _ _ _ _ _)⟩
end Go.Proofs.YtjbjpjaeagopjaaGreat.Ev
