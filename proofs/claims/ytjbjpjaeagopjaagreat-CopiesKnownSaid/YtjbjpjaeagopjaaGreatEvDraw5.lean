/- One operation of a region that draws: what it sees, and what it may change. -/
import Derived.Test.YtjbjpjaeagopjaaGreatEvDraw4
import Derived.Test.YtjbjpjaeagopjaaGreatEvEq
set_option linter.unusedSimpArgs false
set_option linter.unusedVariables false
set_option linter.unusedSectionVars false
namespace Go.Proofs.YtjbjpjaeagopjaaGreat.Ev
open Go

variable [GTab] {P : Program} {W0 : World} [GOk W0]
structure Rc where
  full : Bool
  ids : List Nat
  w : Bool
  bar : Nat
  nx : Nat
  nx' : Nat
  vw : Tr SO
  ou : Tr SO
def topId : SV → Option Nat
  | .ptr id _ => some id
  | .sl id _ _ _ => some id
  | .slr id _ _ _ => some id
  | .emp _ id _ _ => some id
  | .map id => some id
  | .yld id => some id
  | _ => none
noncomputable def viewK (fr : Tr SV) (h : HS) : List Operand → List Nat → Tr SO → (List Nat → Tr SO → Bool) → Bool
  | [], ids, v, k => k ids v
  | x :: r, ids, v, k => opdK fr x fun p => match topId p with
    | some id => bif Nat.blt id h.nx then (match h.hp.get id with
      | some o => v.putK id (some o) fun v' => viewK fr h r (id :: ids) v' k
      | none => false) else false
    | none => viewK fr h r ids v k
noncomputable def mergeK (v : Tr SO) : List Nat → Tr SO → (Tr SO → Bool) → Bool
  | [], hp, k => k hp
  | id :: r, hp, k => hp.putK id (v.get id) fun hp' => mergeK v r hp' k
noncomputable def rangeK (v : Tr SO) : Nat → Nat → Tr SO → (Tr SO → Bool) → Bool
  | 0, _, hp, k => k hp
  | m + 1, id, hp, k => match v.get id with
    | some o => hp.putK id (some o) fun hp' => rangeK v m (id + 1) hp' k
    | none => rangeK v m (id + 1) hp k
theorem viewK_ok {fr : Tr SV} {h : HS} {l : List Operand} : ∀ {ids : List Nat} {v : Tr SO} {k : List Nat → Tr SO → Bool}, viewK fr h l ids v k = true → (∀ id, v.get id = if id ∈ ids then h.hp.get id else none) → (∀ id ∈ ids, id < h.nx) →
    ∃ ids' v', k ids' v' = true ∧ (∀ id, v'.get id = if id ∈ ids' then h.hp.get id else none) ∧ (∀ id ∈ ids', id < h.nx) := by
  induction l with
  | nil => intro ids v k hk a b; exact ⟨ids, v, hk, a, b⟩
  | cons x r ih =>
    intro ids v k hk a b
    rw [viewK, opdK_eq] at hk
    split at hk
    · rename_i id _
      obtain ⟨h1, h2⟩ := bif_true hk
      split at h2
      case h_2 => cases h2
      rename_i o ho
      rw [Tr.putK_eq] at h2
      refine ih h2 (fun j => ?_) (fun j hj => ?_)
      · rw [Tr.get_put]
        by_cases e : j = id
        · subst e; rw [if_pos rfl, if_pos List.mem_cons_self, ho]
        · rw [if_neg e, a j]
          by_cases hm : j ∈ ids
          · rw [if_pos hm, if_pos (List.mem_cons_of_mem _ hm)]
          · rw [if_neg hm, if_neg (fun q => (List.mem_cons.1 q).elim e hm)]
      · rcases List.mem_cons.1 hj with e | e
        · rw [e]; exact Nat.le_of_ble_eq_true h1
        · exact b j e
    · exact ih hk a b
theorem mergeK_ok {v : Tr SO} {l : List Nat} : ∀ {hp : Tr SO} {k : Tr SO → Bool}, mergeK v l hp k = true → ∃ hp', k hp' = true ∧ ∀ id, hp'.get id = if id ∈ l then v.get id else hp.get id := by
  induction l with
  | nil => intro hp k hk; exact ⟨hp, hk, fun id => by simp⟩
  | cons x r ih =>
    intro hp k hk
    rw [mergeK, Tr.putK_eq] at hk
    obtain ⟨hp', h1, h2⟩ := ih hk
    refine ⟨hp', h1, fun id => ?_⟩
    rw [h2, Tr.get_put]
    by_cases e : id = x
    · subst e
      rw [if_pos rfl, if_pos List.mem_cons_self]
      split <;> rfl
    · rw [if_neg e]
      by_cases hm : id ∈ r
      · rw [if_pos hm, if_pos (List.mem_cons_of_mem _ hm)]
      · rw [if_neg hm, if_neg (fun q => (List.mem_cons.1 q).elim e hm)]
theorem rangeK_ok {v : Tr SO} {m : Nat} : ∀ {i : Nat} {hp : Tr SO} {k : Tr SO → Bool}, rangeK v m i hp k = true → ∃ hp', k hp' = true ∧ ∀ id, hp'.get id = if i ≤ id ∧ id < i + m ∧ v.get id ≠ none then v.get id else hp.get id := by
  induction m with
  | zero => intro i hp k hk; exact ⟨hp, hk, fun id => by rw [if_neg (by omega)]⟩
  | succ m ih =>
    intro i hp k hk
    rw [rangeK] at hk
    split at hk
    · rename_i o ho
      rw [Tr.putK_eq] at hk
      obtain ⟨hp', h1, h2⟩ := ih hk
      refine ⟨hp', h1, fun id => ?_⟩
      rw [h2, Tr.get_put]
      by_cases e : id = i
      · subst e
        rw [if_neg (by omega), if_pos rfl, if_pos ⟨by omega, by omega, by rw [ho]; simp⟩, ho]
      · by_cases q : i + 1 ≤ id ∧ id < i + 1 + m ∧ v.get id ≠ none
        · rw [if_pos q, if_pos ⟨by omega, by omega, q.2.2⟩]
        · rw [if_neg q, if_neg e, if_neg fun q2 => q ⟨by omega, by omega, q2.2.2⟩]
    · rename_i hn
      obtain ⟨hp', h1, h2⟩ := ih hk
      refine ⟨hp', h1, fun id => ?_⟩
      rw [h2]
      by_cases e : id = i
      · subst e
        rw [if_neg (by omega), if_neg (fun q => q.2.2 hn)]
      · by_cases q : i + 1 ≤ id ∧ id < i + 1 + m ∧ v.get id ≠ none
        · rw [if_pos q, if_pos ⟨by omega, by omega, q.2.2⟩]
        · rw [if_neg q, if_neg fun q2 => q ⟨by omega, by omega, q2.2.2⟩]

noncomputable def callV (P : Program) (call : CallK) (bar : Nat) (o : Oper) (fr : Tr SV) (h : HS) (k : SV → HS → Option Rc → Bool) : Bool :=
  bif Nat.ble h.bar bar then opK P call o fr ⟨h.hp, h.nx, h.ne, bar⟩ fun sv h1 => k sv ⟨h1.hp, h1.nx, h1.ne, h.bar⟩ (some ⟨true, [], true, bar, h.nx, h1.nx, h.hp, h1.hp⟩) else false
/-- An operation that may write, seen with its own part alone. -/
noncomputable def effV (P : Program) (o : Oper) (fr : Tr SV) (h : HS) (ids : List Nat) (v : Tr SO) (k : SV → HS → Option Rc → Bool) : Bool :=
  opK P (fun _ _ _ _ => false) o fr ⟨v, h.nx, h.ne, h.bar⟩ fun sv h1 =>
      mergeK h1.hp ids h.hp fun hp1 => rangeK h1.hp (h1.nx - h.nx) h.nx hp1 fun hp2 => k sv ⟨hp2, h1.nx, h1.ne, h.bar⟩ (some ⟨false, ids, true, h.bar, h.nx, h1.nx, .e, .e⟩)
noncomputable def opV (P : Program) (call : CallK) (raised : Bool) (nx0 : Nat) (o : Oper) (fr : Tr SV) (h : HS) (k : SV → HS → Option Rc → Bool) : Bool :=
  match cls o.op with
  | 0 => rdK P o fr .e fun sv => k sv h none
  | 1 => viewK fr h (touches o.op) [] .e fun ids v => rdK P o fr v fun sv => k sv h (some ⟨false, ids, false, h.bar, h.nx, h.nx, .e, .e⟩)
  | 2 => viewK fr h (touches o.op) [] .e fun ids v => bif isSl o.op then opK P (fun _ _ _ _ => false) o fr ⟨v, h.nx, h.ne, h.bar⟩ fun sv h1 => k sv ⟨h.hp, h.nx, h1.ne, h.bar⟩ (some ⟨false, ids, false, h.bar, h.nx, h.nx, .e, .e⟩) else effV P o fr h ids v k
  | _ => bif raised then callV P call nx0 o fr h k else callV P call h.bar o fr h k
def RcOk (r : Option Rc) (p : Pl) : Prop :=
  match r with
  | none => ∀ id, p.view id = none ∧ p.out id = none
  | some r => r.nx = p.nx ∧ r.nx' = p.nx' ∧ (r.full = false → (∀ id, p.view id ≠ none → id ∈ r.ids) ∧ (∀ id ∈ r.ids, id < p.nx) ∧ (r.w = false → ∀ id, p.out id = p.view id)) ∧ (r.full = true → (∀ id, p.out id ≠ p.view id → r.bar ≤ id) ∧ ∀ id, p.view id = r.vw.get id ∧ p.out id = r.ou.get id)
/-- What an operation does with its own part of the objects. -/
structure VOk (P : Program) (W0 : World) (o : Oper) (fr : Tr SV) (h h' : HS) (rc : Option Rc) (p : Pl) : Prop where
  run : ∀ ro fr' E N a w, Same fr fr' o.op.operands → Rel W0 E p.view w → Free E p.nx p.nx' p.ne p.ne' → FrOk E fr' N a → ∀ (K : Act → World → Prop) (Q : Exit → Act → World → Prop),
    (∀ E' v w', val E' p.sv = some v → Rel W0 E' p.out w' → Step p.bar p.view p.nx p.nx' p.ne p.ne' E E' w w' → K (a.put o.dst v) w') → o.wpIn (Fw ro) 0 P a w K Q
  lives : p.lives
  sub : ∀ id o, p.view id = some o → h.hp.get id = some o
  eq : ∀ id, h'.hp.get id = ov p h.hp.get id
  nx : p.nx = h.nx
  nx' : p.nx' = h'.nx
  ne : p.ne = h.ne
  ne' : p.ne' = h'.ne
  bar : h.bar ≤ p.bar
  rcok : RcOk rc p
  pure : cls o.op = 0 → rc = none
  read : cls o.op = 1 → ∀ r, rc = some r → r.w = false ∧ r.full = false
theorem ov_self {p : Pl} {g : Hp} {id : Nat} (h : p.out id = p.view id) : ov p g id = g id := by unfold ov; rw [if_pos h]
theorem ov_other {p : Pl} {g : Hp} {id : Nat} (h : p.out id ≠ p.view id) : ov p g id = p.out id := by unfold ov; rw [if_neg h]
theorem cls_rd {call : CallK} {o : Oper} {fr : Tr SV} {h : HS} {k : SV → HS → Bool} (hc : cls o.op = 0 ∨ cls o.op = 1) : opK P call o fr h k = rdK P o fr h.hp fun sv => k sv h := by
  unfold opK
  cases ho : o.op <;> (try rfl) <;> rw [ho] at hc <;> (try (rcases hc with hc | hc <;> cases hc))
  rename_i c
  rcases c with ⟨cal, args, ts⟩
  cases cal with
  | builtin b => cases b <;> first | rfl | (rcases hc with hc | hc <;> cases hc)
  | value f => rcases hc with hc | hc <;> cases hc
  | invoke r n => rcases hc with hc | hc <;> cases hc
def noCall : CallK := fun _ _ _ _ => false
noncomputable def opVC (P : Program) (o : Oper) : Cl (CallK → Tr SV → HS → (SV → HS → Option Rc → Bool) → Bool) :=
  (compOp P o).then fun g => match cls o.op with
  | 0 => ⟨fun _ fr h k => g noCall fr ⟨.e, h.nx, h.ne, h.bar⟩ fun sv _ => k sv h none⟩
  | 1 => ⟨fun _ fr h k => viewK fr h (touches o.op) [] .e fun ids v => g noCall fr ⟨v, h.nx, h.ne, h.bar⟩ fun sv _ => k sv h (some ⟨false, ids, false, h.bar, h.nx, h.nx, .e, .e⟩)⟩
  | 2 => (match isSl o.op with
    | true => ⟨fun _ fr h k => viewK fr h (touches o.op) [] .e fun ids v => g noCall fr ⟨v, h.nx, h.ne, h.bar⟩ fun sv h1 => normH ⟨h.hp, h.nx, h1.ne, h.bar⟩ fun h2 => k sv h2 (some ⟨false, ids, false, h.bar, h.nx, h.nx, .e, .e⟩)⟩
    | false => ⟨fun _ fr h k => viewK fr h (touches o.op) [] .e fun ids v => g noCall fr ⟨v, h.nx, h.ne, h.bar⟩ fun sv h1 =>
      mergeK h1.hp ids h.hp fun hp1 => rangeK h1.hp (h1.nx - h.nx) h.nx hp1 fun hp2 => normH ⟨hp2, h1.nx, h1.ne, h.bar⟩ fun h2 => k sv h2 (some ⟨false, ids, true, h.bar, h.nx, h1.nx, .e, .e⟩)⟩)
  | _ => ⟨fun call fr h k => g call fr ⟨h.hp, h.nx, h.ne, h.bar⟩ fun sv h1 => normH ⟨h1.hp, h1.nx, h1.ne, h.bar⟩ fun h2 => k sv h2 (some ⟨true, [], true, h.bar, h.nx, h1.nx, h.hp, h1.hp⟩)⟩
theorem viewK_mono {fr : Tr SV} {h : HS} {l : List Operand} : ∀ {ids : List Nat} {v : Tr SO} {k k' : List Nat → Tr SO → Bool}, (∀ i v, k i v = true → k' i v = true) → viewK fr h l ids v k = true → viewK fr h l ids v k' = true := by
  induction l with
  | nil => intro ids v k k' hm hk; exact hm _ _ hk
  | cons x r ih =>
    intro ids v k k' hm hk
    rw [viewK, opdK_eq] at hk ⊢
    split at hk
    · rename_i id e
      obtain ⟨h1, h2⟩ := bif_true hk
      rw [h1, cond_true]
      split at h2
      case h_2 => cases h2
      rename_i o ho
      simp only [Tr.putK_eq] at h2 ⊢
      exact ih hm h2
    · exact ih hm hk
theorem opVC_ok' {call : CallK} {o : Oper} {fr : Tr SV} {h : HS} {k : SV → HS → Option Rc → Bool} (hk : (opVC P o).f call fr h k = true) : opV P call false 0 o fr h k = true := by
  unfold opVC at hk
  rw [Cl.then_eq] at hk
  simp only [normH_eq] at hk
  unfold opV
  split at hk
  · rename_i hc
    have := compOp_ok hk
    rw [cls_rd (.inl hc)] at this
    exact this
  · rename_i hc
    refine viewK_mono (fun ids v hk => ?_) hk
    have := compOp_ok hk
    rw [cls_rd (.inr hc)] at this
    exact this
  · rename_i hc
    cases hs : isSl o.op with
    | true =>
      rw [hs] at hk
      simp only [cond_true]
      exact viewK_mono (fun ids v hk => compOp_ok hk) hk
    | false =>
      rw [hs] at hk
      simp only [cond_false]
      exact viewK_mono (fun ids v hk => compOp_ok hk) hk
  · rename_i n0 n1 n2
    simp only [cond_false, callV]
    rw [show Nat.ble h.bar h.bar = true from Nat.ble_eq_true_of_le (Nat.le_refl _), cond_true]
    exact compOp_ok hk
theorem opV_ok {call : CallK} (hc : CallSound P W0 call) {raised : Bool} {nx0 : Nat} {o : Oper} {fr : Tr SV} {h : HS} {k : SV → HS → Option Rc → Bool} (hk : opV P call raised nx0 o fr h k = true) :
    ∃ sv h' rc p, k sv h' rc = true ∧ p.sv = sv ∧ Goes h h' ∧ VOk P W0 o fr h h' rc p := by
  unfold opV at hk
  split at hk
  · rename_i hcls
    obtain ⟨sv, k1, k2⟩ := rd_op (W0 := W0) (h := ⟨.e, h.nx, h.ne, h.bar⟩) hk
    refine ⟨sv, h, none, ⟨Tr.e.get, Tr.e.get, sv, h.bar, h.nx, h.nx, h.ne, h.ne⟩, k1, rfl, Goes.refl h, ⟨k2, fun id o e => (by cases e), fun id o e => (by cases e), fun id => (ov_self rfl).symm, rfl, rfl, rfl, rfl, Nat.le_refl _, fun id => ⟨rfl, rfl⟩, fun _ => rfl, fun e => (by rw [hcls] at e; cases e)⟩⟩
  · rename_i hcls
    obtain ⟨ids, v, hk, v1, v2⟩ := viewK_ok hk (fun id => by simp [Tr.get_e]) (fun id hid => by cases hid)
    obtain ⟨sv, k1, k2⟩ := rd_op (W0 := W0) (h := ⟨v, h.nx, h.ne, h.bar⟩) hk
    refine ⟨sv, h, _, ⟨v.get, v.get, sv, h.bar, h.nx, h.nx, h.ne, h.ne⟩, k1, rfl, Goes.refl h, ⟨k2, fun id o e => .inr ⟨o, e⟩, fun id o e => ?_, fun id => (ov_self rfl).symm, rfl, rfl, rfl, rfl, Nat.le_refl _, ⟨rfl, rfl, fun _ => ⟨fun id hid => ?_, v2, fun _ _ => rfl⟩, fun e => (by cases e)⟩, fun e => (by rw [hcls] at e; cases e), fun _ r e => by (obtain rfl := Option.some.inj e; exact ⟨rfl, rfl⟩)⟩⟩
    · simp only at e
      rw [v1] at e
      split at e
      · exact e
      · cases e
    · simp only at hid
      rw [v1] at hid
      split at hid
      · assumption
      · exact absurd rfl hid
  · rename_i hcls
    obtain ⟨ids, v, hk, v1, v2⟩ := viewK_ok hk (fun id => by simp [Tr.get_e]) (fun id hid => by cases hid)
    rw [Bool.cond_eq_ite] at hk
    split at hk
    · rename_i his
      obtain ⟨sv, ne, k1, hne, k2⟩ := sl_op (W0 := W0) (h := ⟨v, h.nx, h.ne, h.bar⟩) his hk
      refine ⟨sv, ⟨h.hp, h.nx, ne, h.bar⟩, _, ⟨v.get, v.get, sv, h.bar, h.nx, h.nx, h.ne, ne⟩, k1, rfl, ⟨fun _ _ => rfl, rfl, Nat.le_refl _, hne, fun _ o e => .inr ⟨o, e⟩⟩, ⟨k2, fun id o e => .inr ⟨o, e⟩, fun id o e => ?_, fun id => (ov_self rfl).symm, rfl, rfl, rfl, rfl, Nat.le_refl _, ⟨rfl, rfl, fun _ => ⟨fun id hid => ?_, v2, fun _ _ => rfl⟩, fun e => (by cases e)⟩, fun e => (by rw [hcls] at e; cases e), fun e => by (rw [hcls] at e; cases e)⟩⟩
      · simp only at e
        rw [v1] at e
        split at e
        · exact e
        · cases e
      · simp only at hid
        rw [v1] at hid
        split at hid
        · assumption
        · exact absurd rfl hid
    unfold effV at hk
    obtain ⟨sv, h1, hk, g, k2⟩ := opK_ok (W0 := W0) (fun f l h k hk => by cases hk) hk
    obtain ⟨hp1, hk, m1⟩ := mergeK_ok hk
    obtain ⟨hp2, hk, m2⟩ := rangeK_ok hk
    have gnx : h.nx ≤ h1.nx := g.nx
    have gne : h.ne ≤ h1.ne := g.ne
    have gk : ∀ id, id < h.bar → h1.hp.get id = v.get id := g.kept
    have gl : ∀ id o, h1.hp.get id = some o → (h.nx ≤ id ∧ id < h1.nx) ∨ ∃ o0, v.get id = some o0 := g.live
    have gb : h1.bar = h.bar := g.bar
    have vin : ∀ id, v.get id ≠ none → id ∈ ids := fun id hid => by
      rw [v1] at hid
      split at hid
      · assumption
      · exact absurd rfl hid
    have hov : ∀ id, hp2.get id = ov ⟨v.get, h1.hp.get, sv, h.bar, h.nx, h1.nx, h.ne, h1.ne⟩ h.hp.get id := fun id => by
      rw [m2, m1]
      by_cases q : h1.hp.get id = v.get id
      · rw [ov_self (p := ⟨v.get, h1.hp.get, sv, h.bar, h.nx, h1.nx, h.ne, h1.ne⟩) q]
        by_cases hm : id ∈ ids
        · have := v2 id hm
          rw [if_neg (by omega), if_pos hm, q, v1, if_pos hm]
        · rw [if_neg hm]
          rw [v1, if_neg hm] at q
          rw [if_neg (fun z => z.2.2 q)]
      · rw [ov_other (p := ⟨v.get, h1.hp.get, sv, h.bar, h.nx, h1.nx, h.ne, h1.ne⟩) q]
        show _ = h1.hp.get id
        by_cases hm : id ∈ ids
        · have := v2 id hm
          rw [if_neg (by omega), if_pos hm]
        · rw [v1, if_neg hm] at q
          cases ho : h1.hp.get id with
          | none => exact absurd ho q
          | some o1 =>
            rcases gl id o1 ho with z | ⟨o0, z⟩
            · rw [if_pos ⟨z.1, by omega, by simp⟩]
            · rw [v1, if_neg hm] at z; cases z
    refine ⟨sv, _, _, ⟨v.get, h1.hp.get, sv, h.bar, h.nx, h1.nx, h.ne, h1.ne⟩, hk, rfl, ⟨fun id hid => ?_, rfl, gnx, gne, fun id o ho => ?_⟩, ⟨k2, gl, fun id o e => ?_, hov, rfl, rfl, rfl, rfl, Nat.le_refl _, ⟨rfl, rfl, fun _ => ⟨vin, v2, fun e => (by cases e)⟩, fun e => (by cases e)⟩, fun e => (by rw [hcls] at e; cases e), fun e => (by rw [hcls] at e; cases e)⟩⟩
    · show hp2.get id = h.hp.get id
      rw [hov, ov_self]
      exact gk id hid
    · change hp2.get id = some o at ho
      rw [hov] at ho
      by_cases q : h1.hp.get id = v.get id
      · rw [ov_self (p := ⟨v.get, h1.hp.get, sv, h.bar, h.nx, h1.nx, h.ne, h1.ne⟩) q] at ho
        exact .inr ⟨o, ho⟩
      · rw [ov_other (p := ⟨v.get, h1.hp.get, sv, h.bar, h.nx, h1.nx, h.ne, h1.ne⟩) q] at ho
        rcases gl id o ho with z | ⟨o0, z⟩
        · exact .inl z
        · have hm := vin id (by rw [z]; simp)
          rw [v1, if_pos hm] at z
          exact .inr ⟨o0, z⟩
    · simp only at e
      rw [v1] at e
      split at e
      · exact e
      · cases e
  · rename_i n0 n1 n2
    have full : ∀ (bar : Nat), h.bar ≤ bar → opK P call o fr ⟨h.hp, h.nx, h.ne, bar⟩ (fun sv h1 => k sv ⟨h1.hp, h1.nx, h1.ne, h.bar⟩ (some ⟨true, [], true, bar, h.nx, h1.nx, h.hp, h1.hp⟩)) = true → ∃ sv h' rc p, k sv h' rc = true ∧ p.sv = sv ∧ Goes h h' ∧ VOk P W0 o fr h h' rc p := by
      intro bar hb hk
      obtain ⟨sv, h1, hk, g, k2⟩ := opK_ok (W0 := W0) hc hk
      have gnx : h.nx ≤ h1.nx := g.nx
      have gne : h.ne ≤ h1.ne := g.ne
      have gk : ∀ id, id < bar → h1.hp.get id = h.hp.get id := g.kept
      have gl : ∀ id o, h1.hp.get id = some o → (h.nx ≤ id ∧ id < h1.nx) ∨ ∃ o0, h.hp.get id = some o0 := g.live
      refine ⟨sv, _, _, ⟨h.hp.get, h1.hp.get, sv, bar, h.nx, h1.nx, h.ne, h1.ne⟩, hk, rfl, ⟨fun id hid => gk id (Nat.lt_of_lt_of_le hid hb), rfl, gnx, gne, gl⟩, ⟨k2, gl, fun id o e => e, fun id => ?_, rfl, rfl, rfl, rfl, hb, ⟨rfl, rfl, fun e => (by cases e), fun _ => ⟨fun id hid => ?_, fun id => ⟨rfl, rfl⟩⟩⟩, fun e => absurd e n0, fun e => absurd e n1⟩⟩
      · show h1.hp.get id = ov _ h.hp.get id
        by_cases q : h1.hp.get id = h.hp.get id
        · rw [ov_self (p := ⟨h.hp.get, h1.hp.get, sv, bar, h.nx, h1.nx, h.ne, h1.ne⟩) q, q]
        · rw [ov_other (p := ⟨h.hp.get, h1.hp.get, sv, bar, h.nx, h1.nx, h.ne, h1.ne⟩) q]
      · rcases Nat.lt_or_ge id bar with q | q
        · exact absurd (gk id q) hid
        · exact q
    have full' : ∀ bar, callV P call bar o fr h k = true → ∃ sv h' rc p, k sv h' rc = true ∧ p.sv = sv ∧ Goes h h' ∧ VOk P W0 o fr h h' rc p := fun bar hk => by
      obtain ⟨h1, h2⟩ := bif_true hk
      exact full bar (Nat.le_of_ble_eq_true h1) h2
    rcases bif_or hk with hk | hk
    · exact full' _ hk
    · exact full' _ hk
theorem opVC_ok {call : CallK} (hc : CallSound P W0 call) {o : Oper} {fr : Tr SV} {h : HS} {k : SV → HS → Option Rc → Bool} (hk : (opVC P o).f call fr h k = true) :
    ∃ sv h' rc p, k sv h' rc = true ∧ p.sv = sv ∧ Goes h h' ∧ VOk P W0 o fr h h' rc p := opV_ok hc (opVC_ok' hk)
end Go.Proofs.YtjbjpjaeagopjaaGreat.Ev
