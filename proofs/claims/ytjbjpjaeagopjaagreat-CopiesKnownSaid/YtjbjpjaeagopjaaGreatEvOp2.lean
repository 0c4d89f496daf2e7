/- One operation of any kind; a row of operations in the order of the text. -/
import Derived.Test.YtjbjpjaeagopjaaGreatEvOp
import Derived.Tactics
set_option linter.unusedSimpArgs false
set_option linter.unusedVariables false
set_option linter.unusedSectionVars false
namespace Go.Proofs.YtjbjpjaeagopjaaGreat.Ev
open Go

variable [GTab] {P : Program} {W0 : World} [GOk W0]

def effB : Builtin → Bool
  | .append => true
  | .delete => true
  | .clear => true
  | _ => false
noncomputable def opK (P : Program) (call : CallK) (o : Oper) (fr : Tr SV) (h : HS) (k : SV → HS → Bool) : Bool :=
  match o.op with
  | .call c => (match c.callee with
    | .builtin b => bif effB b then efK P o fr h k else rdK P o fr h.hp fun sv => k sv h
    | .value f => callOp P call fr f c.args (fineFn P) h k
    | .invoke _ _ => false)
  | .slice _ _ _ _ _ => bif rdK P o fr h.hp fun sv => k sv h then true else efK P o fr h k
  | .alloc _ => efK P o fr h k
  | .box _ _ => efK P o fr h k
  | .store _ _ _ => efK P o fr h k
  | .buildSlice _ _ _ => efK P o fr h k
  | .makeMap _ _ => efK P o fr h k
  | .makeSlice _ _ _ => efK P o fr h k
  | .mapUpdate _ _ _ _ => efK P o fr h k
  | .insert _ _ _ _ => efK P o fr h k
  | .mapEntry _ _ _ => efK P o fr h k
  | .entryStore _ _ _ _ => efK P o fr h k
  | _ => rdK P o fr h.hp fun sv => k sv h
theorem opK_ok {call : CallK} (hc : CallSound P W0 call) {o : Oper} {fr : Tr SV} {h : HS} {k : SV → HS → Bool} (hk : opK P call o fr h k = true) : ∃ sv h', k sv h' = true ∧ Goes h h' ∧ OpOk P W0 o fr h h' sv := by
  have rd : rdK P o fr h.hp (fun sv => k sv h) = true → ∃ sv h', k sv h' = true ∧ Goes h h' ∧ OpOk P W0 o fr h h' sv := fun e => by
    obtain ⟨sv, a, b⟩ := rd_op (W0 := W0) e
    exact ⟨sv, h, a, Goes.refl h, b⟩
  unfold opK at hk
  split at hk <;> (try exact ef_op hk) <;> (try exact rd hk)
  · rename_i c ho
    split at hk
    · rcases bif_or hk with hk | hk
      · exact ef_op hk
      · exact rd hk
    · rename_i f hf
      exact callOp_ok hc ho hf hk
    · cases hk
  · rename_i ho
    rcases bif_or' hk with hk | hk
    · exact rd hk
    · exact ef_op hk
where
  bif_or' {b y : Bool} (h : (bif b then true else y) = true) : b = true ∨ y = true := by cases b <;> simp_all

def isSl : Op → Bool
  | .slice _ _ _ _ _ => true
  | _ => false
/-- Slicing leaves the objects as they are. -/
theorem sl_op {call : CallK} {o : Oper} {fr : Tr SV} {h : HS} {k : SV → HS → Bool} (hs : isSl o.op = true) (hk : opK P call o fr h k = true) : ∃ sv ne, k sv ⟨h.hp, h.nx, ne, h.bar⟩ = true ∧ h.ne ≤ ne ∧ OpOk P W0 o fr h ⟨h.hp, h.nx, ne, h.bar⟩ sv := by
  unfold isSl at hs
  split at hs
  case h_2 => cases hs
  rename_i t x lo hi mx ho
  unfold opK at hk
  rw [ho] at hk
  rcases opK_ok.bif_or' hk with hk | hk
  · obtain ⟨sv, a, b⟩ := rd_op (W0 := W0) hk
    exact ⟨sv, h.ne, a, Nat.le_refl _, b⟩
  · obtain ⟨fr0, h0⟩ := only_ops fr o.op.operands.toList
    rw [← efK_congr (same_only h0)] at hk
    have hs : ∀ cs b, o.op ≠ .select cs b := by
      intro cs b e
      rw [ho] at e
      cases e
    unfold efK at hk
    rw [ho] at hk
    obtain ⟨sv, ne, k1, k2, k3⟩ := efRest_ok (W0 := W0) ho hk
    refine ⟨sv, ne, k1, k2.ne, fun ro fr' E N a w sm r f fo K Q hK => ?_⟩
    obtain ⟨b, f1, f2⟩ := forget hs h0 sm fo
    obtain ⟨E', w', v, e1, e2, e3, e4⟩ := k3 E N b w r f f1
    refine wpIn_of (by rw [ho]; intro c hc; cases hc) ?_
    rcases e4 with e4 | ⟨e4, rfl⟩
    · rw [f2, e4, Oper.uponIn_value]
      exact hK E' v w' e3 e2 e1
    · rw [f2, e4, Oper.uponIn_skip]
      exact hK E' _ w' e3 e2 e1
end Go.Proofs.YtjbjpjaeagopjaaGreat.Ev
