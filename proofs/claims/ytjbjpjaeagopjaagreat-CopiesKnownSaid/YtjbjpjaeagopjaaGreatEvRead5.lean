/- Slices of slices and of arrays; looking up in a map. -/
import Derived.Test.YtjbjpjaeagopjaaGreatEvRead4
set_option linter.unusedSimpArgs false
set_option linter.unusedVariables false
set_option linter.unusedSectionVars false
namespace Go.Proofs.YtjbjpjaeagopjaaGreat.Ev
open Go
variable [GTab] {P : Program} {W0 : World} [GOk W0] {fr : Tr SV} {g : Tr SO} {k : SV → Bool} {o : Oper}

noncomputable def boundK (fr : Tr SV) (x : Option Operand) (d : Nat) (k : Nat → Bool) : Bool :=
  match x with
  | none => k d
  | some x => opdK fr x fun v => match v with
    | .int _ (.ofNat n) => k n
    | _ => false
/-- The bound n, out of x where there is one, else d. -/
def BoundIs (x : Option Value) (d n : Nat) : Prop := (x = none ∧ n = d) ∨ ∃ kd, x = some (.int kd (n : Int))
theorem boundK_ok {x : Option Operand} {d : Nat} {k : Nat → Bool} (h : boundK fr x d k = true) : ∃ n, k n = true ∧ ∀ E N a, FrOk E fr N a → BoundIs (x.map a.eval) d n := by
  unfold boundK at h
  split at h
  · exact ⟨d, h, fun E N a f => .inl ⟨rfl, rfl⟩⟩
  · rename_i x
    rw [opdK_eq] at h
    split at h
    case h_2 => cases h
    rename_i kd n hp
    refine ⟨n, h, fun E N a f => .inr ⟨kd, ?_⟩⟩
    have hx := opd_ok f x
    rw [hp] at hx
    simp only [val, Option.some.injEq] at hx
    simp [← hx]
theorem run_sliceBound {x : Value} {kd : IntKind} {n y : Nat} (hx : x = .int kd (n : Int)) (h : n ≤ y) (c : BoundsCode) (w : World) : (Instr.sliceBound x y c).run P w = .ok n w := by
  subst hx
  simp [Instr.sliceBound, asIntOf, Sem.run_bind, Result.andThen, h]
theorem run_sliceBounds {isS : Bool} {len cap l h m : Nat} {lo hi mx : Option Value} (bl : BoundIs lo 0 l) (bh : BoundIs hi len h) (bm : BoundIs mx cap m) (hm : m ≤ cap) (hh : h ≤ m) (hl : l ≤ h) (hmx : hi = none → mx = none) (w : World) :
    (Instr.sliceBounds isS len cap lo hi mx).run P w = .ok (l, h, m) w := by
  rcases bm with ⟨rfl, rfl⟩ | ⟨km, rfl⟩
  · rcases bh with ⟨rfl, rfl⟩ | ⟨kh, rfl⟩
    · rcases bl with ⟨rfl, rfl⟩ | ⟨kl, rfl⟩
      · simp [Instr.sliceBounds, Sem.run_bind, Result.andThen]
      · simp [Instr.sliceBounds, Sem.run_bind, Result.andThen, run_sliceBound rfl hl]
    · rcases bl with ⟨rfl, rfl⟩ | ⟨kl, rfl⟩
      · simp [Instr.sliceBounds, Sem.run_bind, Result.andThen, run_sliceBound rfl hh]
      · simp [Instr.sliceBounds, Sem.run_bind, Result.andThen, run_sliceBound rfl hh, run_sliceBound rfl hl]
  · rcases bh with ⟨rfl, rfl⟩ | ⟨kh, rfl⟩
    · cases hmx rfl
    · rcases bl with ⟨rfl, rfl⟩ | ⟨kl, rfl⟩
      · simp [Instr.sliceBounds, Sem.run_bind, Result.andThen, run_sliceBound rfl hh, run_sliceBound rfl hm]
      · simp [Instr.sliceBounds, Sem.run_bind, Result.andThen, run_sliceBound rfl hh, run_sliceBound rfl hl, run_sliceBound rfl hm]

noncomputable def rdSlice (P : Program) (t : TypeId) (fr : Tr SV) (g : Tr SO) (x : Operand) (lo hi mx : Option Operand) (k : SV → Bool) : Bool :=
  bif hi.isNone && mx.isSome then false else
  match P.underlying t with
  | some (.slice el) => (match P.info? el with
    | some inf => opdK fr x fun p => match p with
      | .sl id off len cap => boundK fr lo 0 fun l => boundK fr hi len fun h => boundK fr mx cap fun m =>
        bif Nat.ble m cap && (Nat.ble h m && Nat.ble l h) then
          (bif Nat.beq m l then natK (h - l) fun n => k (.sl id off n 0) else natK (off + l * inf.size) fun off' => natK (h - l) fun n => natK (m - l) fun c => k (.sl id off' n c)) else false
      | .slr id off len skip => (match g.get id with
        | some (.row n sz _) => bif Nat.beq sz inf.size && (Nat.blt 0 sz && (Nat.beq off (skip * sz) && Nat.ble (off + len * sz) n)) then
            (match mx with
            | some mx => boundK fr lo 0 fun l => boundK fr hi len fun h => boundK fr (some mx) len fun m =>
              bif Nat.ble m len && (Nat.ble h m && Nat.ble l h) then
                (bif Nat.beq m l then natK (h - l) fun n => k (.sl id off n 0) else natK (off + l * inf.size) fun off' => natK (h - l) fun n => natK (m - l) fun c => k (.sl id off' n c)) else false
            | none => boundK fr lo 0 fun l => boundK fr hi len fun h =>
              bif Nat.ble (off + h * sz) n && (Nat.ble l h && (Nat.beq l 0 || Nat.ble (off + (l + 1) * sz) n)) then natK (off + l * inf.size) fun off' => natK (h - l) fun n' => natK (skip + l) fun s' => k (.slr id off' n' s') else false)
          else false
        | _ => false)
      | _ => false
    | none => false)
  | some (.array len el) => (match P.info? el with
    | some inf => opdK fr x fun p => match p with
      | .ptr id off => boundK fr lo 0 fun l => boundK fr hi len fun h => boundK fr mx len fun m =>
        bif Nat.ble m len && (Nat.ble h m && Nat.ble l h) then
          (bif Nat.beq m l then natK (h - l) fun n => k (.sl id off n 0) else natK (off + l * inf.size) fun off' => natK (h - l) fun n => natK (m - l) fun c => k (.sl id off' n c)) else false
      | _ => false
    | none => false)
  | _ => false
theorem bif_false {b x : Bool} (h : (bif b then false else x) = true) : b = false ∧ x = true := by cases b <;> simp_all
theorem and3 {a b c : Bool} (h : (a && (b && c)) = true) : a = true ∧ b = true ∧ c = true := by simpa [Bool.and_eq_true] using h
theorem run_slice_slice {t el : TypeId} {inf : TypeInfo} (hu : P.underlying t = some (.slice el)) (hi : P.info? el = some inf) {A : Option Addr} {len cap l h m : Nat} {lo hi' mx : Option Value} (bl : BoundIs lo 0 l) (bh : BoundIs hi' len h) (bm : BoundIs mx cap m)
    (hm : m ≤ cap) (hh : h ≤ m) (hl : l ≤ h) (hmx : hi' = none → mx = none) (w : World) :
    (Instr.sliceAt t (.slice A len cap) lo hi' mx).run P w = .ok (.slice (if m = l then A else A.map (·.add (l * inf.size))) (h - l) (m - l)) w := by
  simp [Instr.sliceAt, Instr.slice, Sem.run_bind, run_underlying hu, Result.andThen, run_sliceBounds bl bh bm hm hh hl hmx, run_sizeOf hi]
theorem rdSlice_ok {t : TypeId} {x : Operand} {lo hi mx : Option Operand} (ho : o.op = .slice t x lo hi mx) (h : rdSlice P t fr g x lo hi mx k = true) : ∃ sv, k sv = true ∧ ReadOk P W0 o fr g.get sv := by
  have run : ∀ (a : Act) (w : World) (v : Value), (Instr.sliceAt t (a.eval x) (lo.map a.eval) (hi.map a.eval) (mx.map a.eval)).run P w = .ok v w → (execOp a.eval o).run P w = .ok (.value v) w := by
    intro a w v h
    unfold execOp
    rw [ho]
    simp only [Sem.run_bind, h, Result.andThen, Sem.run_pure]
  unfold rdSlice at h
  obtain ⟨hb, h⟩ := bif_false h
  have hmx : ∀ a : Act, hi.map a.eval = none → mx.map a.eval = none := by
    intro a e
    cases hi with
    | none => cases mx with
      | none => rfl
      | some _ => simp at hb
    | some _ => simp at e
  clear hb
  split at h
  · rename_i el hu
    split at h
    case h_2 => cases h
    rename_i inf hinf
    rw [opdK_eq] at h
    split at h
    · rename_i id off len cap hp
      obtain ⟨l, h, bl⟩ := boundK_ok h
      obtain ⟨hh, h, bh⟩ := boundK_ok h
      obtain ⟨m, h, bm⟩ := boundK_ok h
      obtain ⟨h1, h⟩ := bif_true h
      obtain ⟨h1, h2, h3⟩ := and3 h1
      have h1 := Nat.le_of_ble_eq_true h1
      have h2 := Nat.le_of_ble_eq_true h2
      have h3 := Nat.le_of_ble_eq_true h3
      rw [Tr.bif_beq] at h
      split at h
      · rename_i hml
        rw [natK_eq] at h
        refine ⟨_, h, fun E N a w r f => ?_⟩
        have hx := opd_ok f x
        rw [hp] at hx
        simp only [val, Option.map_eq_some_iff] at hx
        obtain ⟨s, e1, hx⟩ := hx
        have key := run_slice_slice (P := P) hu hinf (A := some ⟨s.blk, s.base + off, none⟩) (bl E N a f) (bh E N a f) (bm E N a f) h1 h2 h3 (hmx a) w
        rw [hx, if_pos hml, show m - l = 0 by omega] at key
        exact ⟨_, by simp [val, e1], run a w _ key⟩
      · rename_i hml
        rw [natK_eq, natK_eq, natK_eq] at h
        refine ⟨_, h, fun E N a w r f => ?_⟩
        have hx := opd_ok f x
        rw [hp] at hx
        simp only [val, Option.map_eq_some_iff] at hx
        obtain ⟨s, e1, hx⟩ := hx
        have key := run_slice_slice (P := P) hu hinf (A := some ⟨s.blk, s.base + off, none⟩) (bl E N a f) (bh E N a f) (bm E N a f) h1 h2 h3 (hmx a) w
        rw [hx, if_neg hml] at key
        exact ⟨_, by simp [val, e1, Addr.add_lit, Nat.add_assoc], run a w _ key⟩
    · rename_i id off len skip hp
      split at h
      case h_2 => cases h
      rename_i n sz tr hrow
      obtain ⟨h0, h⟩ := bif_true h
      simp only [Bool.and_eq_true] at h0
      obtain ⟨z1, z2, z3, z4⟩ := h0
      have z1 := Nat.eq_of_beq_eq_true z1
      have z2 := blt_lt z2
      have z3 := Nat.eq_of_beq_eq_true z3
      have z4 := Nat.le_of_ble_eq_true z4
      have capAt : ∀ (E : Env) (w : World) (s : Spot) (q : Nat), Rel W0 E g.get w → E.at_ id = some s → off + q * sz ≤ n → skip + q ≤ s.cap := by
        intro E w s q r e hq
        obtain ⟨s', e', _, c, ty, _, _, q3, _⟩ := r.obj id _ hrow
        obtain rfl := Option.some.inj (e'.symm.trans e)
        rcases q3.2 with q' | q'
        · omega
        · have : (skip + q) * sz ≤ s'.cap * sz := by rw [Nat.add_mul]; omega
          exact Nat.le_of_mul_le_mul_right this z2
      have capOk : ∀ (E : Env) (w : World) (s : Spot), Rel W0 E g.get w → E.at_ id = some s → skip + len ≤ s.cap := by
        intro E w s r e
        obtain ⟨s', e', _, c, ty, _, _, q3, _⟩ := r.obj id _ hrow
        obtain rfl := Option.some.inj (e'.symm.trans e)
        rcases q3.2 with q | q
        · omega
        · have : (skip + len) * sz ≤ s'.cap * sz := by rw [Nat.add_mul]; omega
          exact Nat.le_of_mul_le_mul_right this z2
      cases mx with
      | some mx' =>
        simp only at h
        obtain ⟨l, h, bl⟩ := boundK_ok h
        obtain ⟨hh, h, bh⟩ := boundK_ok h
        obtain ⟨m, h, bm⟩ := boundK_ok h
        obtain ⟨h1, h⟩ := bif_true h
        obtain ⟨h1, h2, h3⟩ := and3 h1
        have h1 := Nat.le_of_ble_eq_true h1
        have h2 := Nat.le_of_ble_eq_true h2
        have h3 := Nat.le_of_ble_eq_true h3
        have bm' : ∀ (E : Env) N a, FrOk E fr N a → ∀ d, BoundIs ((some mx').map a.eval) d m := fun E N a f d => by
          rcases bm E N a f with ⟨q, _⟩ | q
          · cases q
          · exact .inr q
        rw [Tr.bif_beq] at h
        split at h
        · rename_i hml
          rw [natK_eq] at h
          refine ⟨_, h, fun E N a w r f => ?_⟩
          have hx := opd_ok f x
          rw [hp] at hx
          simp only [val, Option.map_eq_some_iff] at hx
          obtain ⟨s, e1, hx⟩ := hx
          have hcap := capOk E w s r e1
          have key := run_slice_slice (P := P) hu hinf (A := some ⟨s.blk, s.base + off, none⟩) (bl E N a f) (bh E N a f) (bm' E N a f (s.cap - skip)) (by omega) h2 h3 (hmx a) w
          rw [hx, if_pos hml, show m - l = 0 by omega] at key
          exact ⟨_, by simp [val, e1], run a w _ key⟩
        · rename_i hml
          rw [natK_eq, natK_eq, natK_eq] at h
          refine ⟨_, h, fun E N a w r f => ?_⟩
          have hx := opd_ok f x
          rw [hp] at hx
          simp only [val, Option.map_eq_some_iff] at hx
          obtain ⟨s, e1, hx⟩ := hx
          have hcap := capOk E w s r e1
          have key := run_slice_slice (P := P) hu hinf (A := some ⟨s.blk, s.base + off, none⟩) (bl E N a f) (bh E N a f) (bm' E N a f (s.cap - skip)) (by omega) h2 h3 (hmx a) w
          rw [hx, if_neg hml] at key
          exact ⟨_, by simp [val, e1, Addr.add_lit, Nat.add_assoc], run a w _ key⟩
      | none =>
        simp only at h
        obtain ⟨l, h, bl⟩ := boundK_ok h
        obtain ⟨hh, h, bh⟩ := boundK_ok h
        obtain ⟨h1, h⟩ := bif_true h
        obtain ⟨h1, h2, h3⟩ := and3 h1
        have h1 := Nat.le_of_ble_eq_true h1
        have h2 := Nat.le_of_ble_eq_true h2
        rw [natK_eq, natK_eq, natK_eq] at h
        refine ⟨_, h, fun E N a w r f => ?_⟩
        have hx := opd_ok f x
        rw [hp] at hx
        simp only [val, Option.map_eq_some_iff] at hx
        obtain ⟨s, e1, hx⟩ := hx
        have hcap := capAt E w s hh r e1 h1
        have key := run_slice_slice (P := P) hu hinf (A := some ⟨s.blk, s.base + off, none⟩) (bl E N a f) (bh E N a f) (m := s.cap - skip) (mx := none) (.inl ⟨rfl, rfl⟩) (Nat.le_refl _) (by omega) h2 (fun _ => rfl) w
        rw [hx] at key
        refine ⟨_, by simp only [val, e1, Option.map_some]; rfl, run a w _ ?_⟩
        rw [show s.cap - (skip + l) = s.cap - skip - l by omega]
        refine key.trans ?_
        simp only [Bool.or_eq_true] at h3
        rcases h3 with h3 | h3
        · have h3 := Nat.eq_of_beq_eq_true h3
          subst h3
          simp [Addr.add_lit]
        · have h3 := capAt E w s (l + 1) r e1 (Nat.le_of_ble_eq_true h3)
          rw [if_neg (by omega)]
          simp [Addr.add_lit, Nat.add_assoc]
    · cases h
  · rename_i len el hu
    split at h
    case h_2 => cases h
    rename_i inf hinf
    rw [opdK_eq] at h
    split at h
    case h_2 => cases h
    rename_i id off hp
    obtain ⟨l, h, bl⟩ := boundK_ok h
    obtain ⟨hh, h, bh⟩ := boundK_ok h
    obtain ⟨m, h, bm⟩ := boundK_ok h
    obtain ⟨h1, h⟩ := bif_true h
    obtain ⟨h1, h2, h3⟩ := and3 h1
    have h1 := Nat.le_of_ble_eq_true h1
    have h2 := Nat.le_of_ble_eq_true h2
    have h3 := Nat.le_of_ble_eq_true h3
    have key : ∀ (a : Act) (w : World) (A : Addr), a.eval x = .pointer (some A) → BoundIs (lo.map a.eval) 0 l → BoundIs (hi.map a.eval) len hh → BoundIs (mx.map a.eval) len m →
        (Instr.sliceAt t (a.eval x) (lo.map a.eval) (hi.map a.eval) (mx.map a.eval)).run P w = .ok (.slice (some (if m = l then A else A.add (l * inf.size))) (hh - l) (m - l)) w := by
      intro a w A e b1 b2 b3
      simp [Instr.sliceAt, Instr.sureAddr, e, Sem.run_bind, run_underlying hu, Result.andThen, run_sliceBounds b1 b2 b3 h1 h2 h3 (hmx a), run_sizeOf hinf]
    rw [Tr.bif_beq] at h
    split at h
    · rename_i hml
      rw [natK_eq] at h
      refine ⟨_, h, fun E N a w r f => ?_⟩
      have hx := opd_ok f x
      rw [hp] at hx
      simp only [val, Option.map_eq_some_iff] at hx
      obtain ⟨s, e1, hx⟩ := hx
      have key := key a w _ hx.symm (bl E N a f) (bh E N a f) (bm E N a f)
      rw [if_pos hml, show m - l = 0 by omega] at key
      exact ⟨_, by simp [val, e1], run a w _ key⟩
    · rename_i hml
      rw [natK_eq, natK_eq, natK_eq] at h
      refine ⟨_, h, fun E N a w r f => ?_⟩
      have hx := opd_ok f x
      rw [hp] at hx
      simp only [val, Option.map_eq_some_iff] at hx
      obtain ⟨s, e1, hx⟩ := hx
      have key := key a w _ hx.symm (bl E N a f) (bh E N a f) (bm E N a f)
      rw [if_neg hml] at key
      exact ⟨_, by simp [val, e1, Addr.add_lit, Nat.add_assoc], run a w _ key⟩
  · cases h
end Go.Proofs.YtjbjpjaeagopjaaGreat.Ev
