/- An operation looks at its operands alone. -/
import Derived.Test.YtjbjpjaeagopjaaGreatEvEff3
set_option linter.unusedSimpArgs false
set_option linter.unusedVariables false
set_option linter.unusedSectionVars false
namespace Go.Proofs.YtjbjpjaeagopjaaGreat.Ev
open Go

variable [GTab] {P : Program} {o : Oper} {fr fr' : Tr SV} {g : Tr SO} {h : HS}
def Same (fr fr' : Tr SV) (l : Array Operand) : Prop := ∀ x ∈ l, opd fr x = opd fr' x
theorem allFlat_congr (l : List Operand) (e : ∀ x ∈ l, opd fr x = opd fr' x) : allFlat fr l = allFlat fr' l := by
  induction l with
  | nil => rfl
  | cons x r ih =>
    simp only [allFlat]
    rw [e x (by simp), ih fun y hy => e y (by simp [hy])]
theorem opdsK_congr (l : List Operand) (e : ∀ x ∈ l, opd fr x = opd fr' x) : opdsK fr l = opdsK fr' l := by
  funext k
  rw [opdsK_eq, opdsK_eq]
  congr 1
  exact List.map_congr_left e
theorem partsS_congr (l : List (Nat × Operand)) (e : ∀ p ∈ l, opd fr p.2 = opd fr' p.2) : partsS fr l = partsS fr' l := List.map_congr_left fun x hx => by rw [e x hx]
theorem boundK_congr (x : Option Operand) (e : ∀ y, x = some y → opd fr y = opd fr' y) : boundK fr x = boundK fr' x := by
  funext d k
  cases x with
  | none => rfl
  | some y => simp only [boundK, opdK_eq, e y rfl]
theorem rdPure_congr {k : SV → Bool} (e : Same fr fr' o.op.operands) : rdPure P o fr k = rdPure P o fr' k := by
  have e1 := allFlat_congr (fr := fr) (fr' := fr') o.op.operands.toList fun x hx => e x (by simpa using hx)
  unfold rdPure
  rw [e1]
  cases allFlat fr' o.op.operands.toList with
  | false => rfl
  | true =>
    simp only [cond_true]
    by_cases hs : ∃ cs b, o.op = .select cs b
    · obtain ⟨cs, b, q⟩ := hs
      rw [q]
    · have : execOp (flatOpd fr) o = execOp (flatOpd fr') o := execOp_congr o (fun cs b q => hs ⟨cs, b, q⟩) fun x hx => by simp only [flatOpd, e x hx]
      rw [this]
theorem rdK_congr {k : SV → Bool} (e : Same fr fr' o.op.operands) : rdK P o fr g k = rdK P o fr' g k := by
  have hp : rdPure P o fr k = rdPure P o fr' k := rdPure_congr e
  unfold rdK
  split <;> (try exact hp)
  case h_1 | h_2 =>
    rename_i x q
    have e1 := e x (by simp [q, Op.operands])
    simp only [rdMove, opdK_eq, e1]
  case h_3 =>
    rename_i c a b q
    have e1 := e c (by simp [q, Op.operands])
    have e2 := e a (by simp [q, Op.operands])
    have e3 := e b (by simp [q, Op.operands])
    simp only [rdPick, opdK_eq, e1, e2, e3]
  case h_4 =>
    rename_i t x q
    have e1 := e x (by simp [q, Op.operands])
    simp only [rdLoad, opdK_eq, e1]
  case h_5 =>
    rename_i x q
    have e1 := e x (by simp [q, Op.operands])
    simp only [rdNil, opdK_eq, e1]
  case h_6 =>
    rename_i s x f q
    have e1 := e x (by simp [q, Op.operands])
    simp only [rdFieldAddr, opdK_eq, e1]
  case h_7 =>
    rename_i t x f q
    have e1 := e x (by simp [q, Op.operands])
    simp only [rdField, opdK_eq, e1, hp, allFlat]
  case h_8 =>
    rename_i t x i q
    have e1 := e x (by simp [q, Op.operands])
    have e2 := e i (by simp [q, Op.operands])
    simp only [rdIndexA, opdK_eq, e1, e2, hp]
  case h_9 =>
    rename_i t x i q
    have e1 := e x (by simp [q, Op.operands])
    have e2 := e i (by simp [q, Op.operands])
    simp only [rdIndexAddr, opdK_eq, e1, e2, hp, allFlat]
  case h_10 =>
    rename_i x i q
    have e1 := e x (by simp [q, Op.operands])
    simp only [rdExtract, opdK_eq, e1]
  case h_11 =>
    rename_i t ps q
    simp only [rdBuild]
    rw [partsS_congr ps.toList fun p hp => e p.2 (by rw [q]; simp only [Op.operands]; simp at hp ⊢; exact ⟨p.1, hp⟩)]
  case h_12 =>
    rename_i f a b q
    simp only [rdMakeFunc]
    rw [opdsK_congr a.toList fun x hx => e x (by rw [q]; simp only [Op.operands]; simp at hx; simp [hx]), opdsK_congr b.toList fun x hx => e x (by rw [q]; simp only [Op.operands]; simp at hx; simp [hx])]
  case h_13 =>
    rename_i t x lo hi mx q
    have e1 := e x (by simp [q, Op.operands])
    have e2 := boundK_congr (fr := fr) (fr' := fr') lo fun y hy => e y (by subst hy; simp [q, Op.operands])
    have e3 := boundK_congr (fr := fr) (fr' := fr') hi fun y hy => e y (by subst hy; simp [q, Op.operands])
    have e4 := boundK_congr (fr := fr) (fr' := fr') mx fun y hy => e y (by subst hy; simp [q, Op.operands])
    have e5 : ∀ y, mx = some y → boundK fr (some y) = boundK fr' (some y) := fun y hy => by rw [← hy]; exact e4
    cases mx with
    | none => simp only [rdSlice, opdK_eq, e1, e2, e3, e4, hp, allFlat]
    | some y => simp only [rdSlice, opdK_eq, e1, e2, e3, e4, hp, allFlat]
  case h_14 =>
    rename_i t x i ok q
    have e1 := e x (by simp [q, Op.operands])
    have e2 := e i (by simp [q, Op.operands])
    simp only [rdLookup, opdK_eq, e1, e2, hp, allFlat]
  case h_15 =>
    rename_i op t x y t' q
    have e1 := e x (by simp [q, Op.operands])
    have e2 := e y (by simp [q, Op.operands])
    simp only [rdEqNil, opdK_eq, e1, e2, hp, allFlat]
  case h_16 =>
    rename_i c q
    split
    · rename_i x t
      have e1 := e x (by simp [q, Op.operands, Call.operands])
      simp only [rdLen, opdK_eq, e1, hp, allFlat]
    · exact hp
theorem efK_congr {k : SV → HS → Bool} (e : Same fr fr' o.op.operands) : efK P o fr h k = efK P o fr' h k := by
  unfold efK
  split <;> (try rfl)
  case h_2 =>
    rename_i t x q
    have e1 := e x (by simp [q, Op.operands])
    simp only [efBox, opdK_eq, e1]
  case h_3 =>
    rename_i t x y q
    have e1 := e x (by simp [q, Op.operands])
    have e2 := e y (by simp [q, Op.operands])
    simp only [efStore, opdK_eq, e1, e2]
  case h_4 =>
    rename_i t n ps q
    simp only [efBuildSlice]
    rw [partsS_congr ps.toList fun p hp => e p.2 (by rw [q]; simp only [Op.operands]; simp at hp ⊢; exact ⟨p.1, hp⟩)]
  case h_6 =>
    rename_i t x y q
    have e1 := e x (by simp [q, Op.operands])
    have e2 := e y (by simp [q, Op.operands])
    simp only [efMakeSlice, opdK_eq, e1, e2]
  case h_7 | h_8 =>
    rename_i t x i y q
    have e1 := e x (by simp [q, Op.operands])
    have e2 := e i (by simp [q, Op.operands])
    have e3 := e y (by simp [q, Op.operands])
    simp only [efMapUpdate, opdK_eq, e1, e2, e3]
  case h_9 =>
    rename_i t x i q
    have e1 := e x (by simp [q, Op.operands])
    have e2 := e i (by simp [q, Op.operands])
    simp only [efMapEntry, opdK_eq, e1, e2]
  case h_10 =>
    rename_i t x i y q
    have e1 := e x (by simp [q, Op.operands])
    have e2 := e i (by simp [q, Op.operands])
    have e3 := e y (by simp [q, Op.operands])
    simp only [efEntryStore, opdK_eq, e1, e2, e3]
  case h_11 =>
    rename_i t x lo hi mx q
    have e1 := e x (by simp [q, Op.operands])
    have e2 := boundK_congr (fr := fr) (fr' := fr') lo fun y hy => e y (by subst hy; simp [q, Op.operands])
    cases hi <;> cases mx <;> simp only [efRest, opdK_eq, e1, e2]
  case h_12 =>
    rename_i s x t t' q
    have e1 := e s (by simp [q, Op.operands, Call.operands])
    have e2 := e x (by simp [q, Op.operands, Call.operands])
    simp only [efAppend, opdK_eq, e1, e2]
  case h_13 =>
    rename_i s x t t' q
    have e1 := e s (by simp [q, Op.operands, Call.operands])
    have e2 := e x (by simp [q, Op.operands, Call.operands])
    simp only [efDelete, opdK_eq, e1, e2]
  case h_14 =>
    rename_i x t q
    have e1 := e x (by simp [q, Op.operands, Call.operands])
    simp only [efClear, opdK_eq, e1]
end Go.Proofs.YtjbjpjaeagopjaaGreat.Ev
