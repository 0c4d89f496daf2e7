/- Operations turned into closures: each kind, and that a closure says no more than the operation. -/
import Derived.Test.YtjbjpjaeagopjaaGreatEvComp
set_option linter.unusedSimpArgs false
set_option linter.unusedVariables false
set_option linter.unusedSectionVars false
namespace Go.Proofs.YtjbjpjaeagopjaaGreat.Ev
open Go
variable [GTab] {P : Program}

abbrev OpG (S : Type) := CallK → S → HS → (SV → HS → Bool) → Bool
abbrev OcF (S : Type) := Operand → Cl (S → (SV → Bool) → Bool)
section forms
variable {S : Type} (oc : OcF S) (gen : Cl (OpG S))
noncomputable def clGen (P : Program) (o : Oper) : Cl (OpG (Tr SV)) := ⟨fun call fr h k => opK P call o fr h k⟩
noncomputable def clMove (x : Operand) : Cl (OpG S) := (oc x).then fun g => ⟨fun _ fr h k => g fr fun v => k v h⟩
noncomputable def clPick (c x y : Operand) : Cl (OpG S) := (oc c).then fun gc => (oc x).then fun gx => (oc y).then fun gy => ⟨fun _ fr h k => gc fr fun v => asBool v (gx fr fun v => k v h) (gy fr fun v => k v h)⟩
noncomputable def clLoad (P : Program) (t : TypeId) (x : Operand) : Cl (OpG S) :=
  match rdLoad.isAggB P t with
  | some false => (oc x).then fun g => ⟨fun call fr h k => g fr fun p => asPtrD p (fun id off => getQ h.hp id fun so => asRowO so fun n _ tr => Bool.rec false (getQ tr off fun sv => k sv h) (Nat.blt off n)) (gen.f call fr h k)⟩
  | some true => (match P.info? t with
    | some i => natC i.size fun z => (oc x).then fun g => ⟨fun call fr h k => g fr fun p => asPtrD p (fun id off => getQ h.hp id fun so => asRowO so fun n _ tr => Bool.rec false (cellsK tr off z fun l => k (.agg l) h) (Nat.ble (off + z) n)) (gen.f call fr h k)⟩
    | none => gen)
  | none => gen
noncomputable def clNil (x : Operand) : Cl (OpG S) := (oc x).then fun g => ⟨fun call fr h k => g fr fun p => asPtrD p (fun id off => k (.ptr id off) h) (gen.f call fr h k)⟩
noncomputable def clFieldAddr (P : Program) (s : TypeId) (x : Operand) (fi : Nat) : Cl (OpG S) :=
  match P.underlying s with
  | some (.struct fs) => (match fs[fi]? with
    | some f => (match P.info? f.type with
      | some i => bif Nat.beq i.size 0 then gen else natC f.offset fun c => (oc x).then fun g => ⟨fun _ fr h k => g fr fun p => asPtr p fun id off => natK (off + c) fun off' => k (.ptr id off') h⟩
      | none => gen)
    | none => gen)
  | _ => gen
noncomputable def asNatI (n : Int) (k : Nat → Bool) : Bool := Int.rec (fun m => k m) (fun _ => false) n
noncomputable def clIndexAddr (P : Program) (t : TypeId) (x ix : Operand) : Cl (OpG S) :=
  match P.underlying t with
  | some (.slice el) => (match P.info? el with
    | some inf => natC inf.size fun z => (oc x).then fun gx => (oc ix).then fun gi => ⟨fun call fr h k => gi fr fun iv => asInt iv (fun _ n => asNatI n fun i => gx fr fun p => asRow p (fun id off len => Bool.rec false (natK (off + i * z) fun off' => k (.ptr id off') h) (Nat.blt i len)) (fun _ _ => false) (gen.f call fr h k)) false⟩
    | none => gen)
  | some (.array len el) => (match P.info? el with
    | some inf => natC inf.size fun z => (oc x).then fun gx => (oc ix).then fun gi => ⟨fun call fr h k => gi fr fun iv => asInt iv (fun _ n => asNatI n fun i => gx fr fun p => asPtrD p (fun id off => Bool.rec false (natK (off + i * z) fun off' => k (.ptr id off') h) (Nat.blt i len)) (gen.f call fr h k)) false⟩
    | none => gen)
  | _ => gen
/-- Sums, differences and products of int64's that are no less than 0. -/
noncomputable def sumI (op : BinOp) : Option (Nat → Nat → (Int → Bool) → Bool → Bool) :=
  match op with
  | .add => some fun m n k d => natK (m + n) fun s => Bool.rec d (k (.ofNat s)) (Nat.blt s 9223372036854775808)
  | .mul => some fun m n k d => natK (m * n) fun s => Bool.rec d (k (.ofNat s)) (Nat.blt s 9223372036854775808)
  | .sub => some fun m n k d => Bool.rec d (natK (m - n) fun s => Bool.rec d (k (.ofNat s)) (Nat.blt s 9223372036854775808)) (Nat.ble n m)
  | _ => none
noncomputable def clBin (op : BinOp) (x y : Operand) : Cl (OpG S) :=
  match cmpI op with
  | some c => (oc x).then fun gx => (oc y).then fun gy => (match op with
    | .eql => ⟨fun call fr h k => gx fr fun a => gy fr fun b => asInt a (fun ka m => asInt b (fun kb n => Bool.rec false (boolK (c m n) fun r => k r h) (Nat.beq (ikN ka) (ikN kb))) false)
        (asLit a (fun va => asLit b (fun vb => asStr va (fun s => asStr vb (fun u => boolK (byEq s.data.toList u.data.toList) fun r => k r h) (gen.f call fr h k)) (gen.f call fr h k)) (gen.f call fr h k)) (gen.f call fr h k))⟩
    | _ => ⟨fun call fr h k => gx fr fun a => gy fr fun b => asInt a (fun ka m => asInt b (fun kb n => Bool.rec false (boolK (c m n) fun r => k r h) (Nat.beq (ikN ka) (ikN kb))) false) (gen.f call fr h k)⟩)
  | none => (match sumI op with
    | some c => (oc x).then fun gx => (oc y).then fun gy => ⟨fun call fr h k => gx fr fun a => gy fr fun b => asInt a (fun ka p => asInt b (fun kb q =>
        Bool.rec (gen.f call fr h k) (Int.rec (fun m => Int.rec (fun n => c m n (fun r => k (.int .i64 r) h) (gen.f call fr h k)) (fun _ => gen.f call fr h k) q) (fun _ => gen.f call fr h k) p) (Nat.beq (ikN ka) 3 && Nat.beq (ikN kb) 3)) (gen.f call fr h k)) (gen.f call fr h k)⟩
    | none => gen)
noncomputable def clNot (x : Operand) : Cl (OpG S) := (oc x).then fun g => ⟨fun _ fr h k => g fr fun v => asBool v (k (.bool false) h) (k (.bool true) h)⟩
/-- The bytes as one number, the first one lowest. -/
noncomputable def numB (l : List UInt8) : Nat := List.rec 0 (fun a _ ih => Nat.add a.toNat (Nat.mul 256 ih)) l
noncomputable def nthK (l : List UInt8) (i : Nat) (k : Nat → Bool) : Bool := Bool.rec false (natK (Nat.land (Nat.shiftRight (numB l) (Nat.mul 8 i)) 255) k) (Nat.blt i l.length)
theorem numB_at (l : List UInt8) : ∀ (i : Nat) (b : UInt8), l[i]? = some b → Nat.land (Nat.shiftRight (numB l) (Nat.mul 8 i)) 255 = b.toNat := by
  induction l with
  | nil => intro i b h; simp at h
  | cons a r ih =>
    intro i b h
    have e : numB (a :: r) = a.toNat + 256 * numB r := rfl
    have ha : a.toNat < 256 := a.toNat_lt
    cases i with
    | zero =>
      simp only [List.getElem?_cons_zero, Option.some.injEq] at h
      subst h
      show (numB (a :: r) >>> (8 * 0)) &&& 255 = _
      rw [e, show (255 : Nat) = 2 ^ 8 - 1 from rfl, Nat.and_two_pow_sub_one_eq_mod, Nat.mul_zero, Nat.shiftRight_zero]
      omega
    | succ j =>
      have := ih j b (by simpa using h)
      show (numB (a :: r) >>> (8 * (j + 1))) &&& 255 = _
      have this2 : (numB r >>> (8 * j)) &&& 255 = b.toNat := this
      rw [← this2, show 8 * (j + 1) = 8 + 8 * j by omega, Nat.shiftRight_add, e]
      congr 2
      rw [Nat.shiftRight_eq_div_pow]
      omega
noncomputable def asAgg' (s : SV) : (List SV → Bool) → Bool → Bool :=
  SV.rec (motive_1 := fun _ => (List SV → Bool) → Bool → Bool) (motive_2 := fun _ => Unit) (fun _ _ d => d) (fun _ _ _ d => d) (fun _ _ d => d) (fun _ _ _ d => d) (fun _ _ _ _ _ d => d) (fun _ _ _ _ _ d => d) (fun _ _ _ _ _ d => d) (fun _ _ d => d) (fun _ _ _ _ _ _ d => d) (fun _ _ _ _ d => d) (fun l _ k _ => k l) (fun _ _ _ d => d) (fun _ _ d => d) (fun _ _ d => d) () (fun _ _ _ _ => ()) s
theorem asAgg'_ok {s : SV} {k : List SV → Bool} {d : Bool} (h : asAgg' s k d = true) : d = true ∨ ∃ l, s = .agg l ∧ k l = true := by
  cases s <;> first | exact .inr ⟨_, rfl, h⟩ | exact .inl h
noncomputable def nthV (l : List SV) : Nat → (SV → Bool) → Bool := List.rec (fun _ _ => false) (fun a _ ih i k => Nat.rec (k a) (fun j _ => ih j k) i) l
theorem nthV_eq (l : List SV) : ∀ (i : Nat) (k : SV → Bool), nthV l i k = match l[i]? with | some s => k s | none => false := by
  induction l with
  | nil => intro i k; rfl
  | cons a r ih =>
    intro i k
    cases i with
    | zero => rfl
    | succ j =>
      show nthV r j k = _
      rw [ih]
      simp
noncomputable def clIndex (P : Program) (t : TypeId) (x ix : Operand) : Cl (OpG S) :=
  match P.underlying t with
  | some .string => (oc x).then fun gx => (oc ix).then fun gi => ⟨fun call fr h k => gi fr fun iv => asInt iv (fun _ n => asNatI n fun i => gx fr fun v => asLit v (fun v => asStr v (fun s => nthK s.data.toList i fun c => k (.int .u8 (.ofNat c)) h) false) false) false⟩
  | some (.array len el) => (match rdLoad.isAggB P el, P.info? el with
    | some false, some inf => bif Nat.beq inf.size 1 then (oc x).then fun gx => (oc ix).then fun gi => ⟨fun call fr h k => gi fr fun iv => asInt iv (fun _ n => asNatI n fun i => gx fr fun v => asAgg' v (fun l => Bool.rec false (nthV l i fun s => k s h) (Nat.blt i len)) (gen.f call fr h k)) false⟩ else gen
    | _, _ => gen)
  | _ => gen
noncomputable def clLen (P : Program) (t : TypeId) (x : Operand) : Cl (OpG S) :=
  match P.underlying t with
  | some (.slice _) => (oc x).then fun g => ⟨fun call fr h k => g fr fun p => asLen p (fun n => k (.int .i64 (.ofNat n)) h) (gen.f call fr h k)⟩
  | some .string => (oc x).then fun g => ⟨fun call fr h k => g fr fun p => asLit p (fun v => asStr v (fun s => natK s.data.toList.length fun n => k (.int .i64 (.ofNat n)) h) (gen.f call fr h k)) (gen.f call fr h k)⟩
  | _ => gen
/-- The arguments, gathered. -/
noncomputable def argsC (l : List Operand) : Cl (S → (List SV → Bool) → Bool) :=
  List.rec ⟨fun _ k => k []⟩ (fun x _ ih => (oc x).then fun g => ih.then fun r => ⟨fun fr k => g fr fun s => r fr fun l => k (s :: l)⟩) l
noncomputable def clCall (P : Program) (f : Operand) (args : List Operand) : Cl (OpG S) :=
  match f with
  | .func g => bif fineFn P g then (argsC oc args).then fun a => ⟨fun call fr h k => a fr fun l => call (.fn g) l h k⟩ else gen
  | _ => gen
noncomputable def clAlloc (P : Program) (el : TypeId) : Cl (OpG S) :=
  match P.info? el with
  | some i => (match i.zero with
    | some z => bif allOne (cellsS (ofV z)) then natC (cellsS (ofV z)).length fun n => trOfC (cellsS (ofV z)) 0 .e fun t => ⟨fun _ _ h k => Bool.rec false (newK h (.row n 0 t) fun h' => k (.ptr h.nx 0) h') (Nat.ble h.bar h.nx)⟩ else gen
    | none => gen)
  | none => gen
where
  trOfC : List SV → Nat → Tr SV → (Tr SV → Cl (OpG S)) → Cl (OpG S)
  | [], _, t, k => k t
  | s :: r, i, t, k => t.putK i (some s) fun t' => natC (i + 1) fun i' => trOfC r i' t' k
theorem trOfC_eq : ∀ (l : List SV) (i : Nat) (t : Tr SV) (k : Tr SV → Cl (OpG S)), clAlloc.trOfC l i t k = k (trOf l i t)
  | [], _, _, _ => rfl
  | s :: r, i, t, k => by rw [clAlloc.trOfC, Tr.putK_eq, natC_eq, trOfC_eq r]; rfl
noncomputable def clBox (x : Operand) : Cl (OpG S) := (oc x).then fun g => ⟨fun _ fr h k => g fr fun s => efRow h (cellsS s) k⟩
noncomputable def clStore (P : Program) (t : TypeId) (x y : Operand) : Cl (OpG S) :=
  match P.info? t with
  | some i => natC i.size fun z => (oc x).then fun gx => (oc y).then fun gy => ⟨fun _ fr h k => gx fr fun p => asPtr p fun id off => HS.rec (fun hp nx ne bar => getQ hp id fun so => asRowO so fun n sz tr => gy fr fun q => listK (cellsS q) fun l =>
      Bool.rec false (trOfK l off tr fun tr' => hp.putK id (some (.row n sz tr')) fun hp' => k (.lit undef) ⟨hp', nx, ne, bar⟩) (Nat.beq l.length z && (Nat.ble (off + l.length) n && (Nat.ble bar id && allOne l)))) h⟩
  | none => gen
noncomputable def clExtract (x : Operand) (i : Nat) : Cl (OpG S) := natC i fun i => (oc x).then fun g => ⟨fun _ fr h k => g fr fun p => match p with
  | .tup l => (match l[i]? with
    | some sv => k sv h
    | none => false)
  | _ => false⟩
/-- An operation over any way to look at operands; gen where nothing better is known. -/
noncomputable def compG (P : Program) (o : Oper) : Cl (OpG S) :=
  match o.op with
  | .move x => clMove oc x
  | .assign x => clMove oc x
  | .pick c x y => clPick oc c x y
  | .load t x => clLoad oc gen P t x
  | .nilCheck x => clNil oc gen x
  | .fieldAddr s x fi => clFieldAddr oc gen P s x fi
  | .indexAddr t x ix => clIndexAddr oc gen P t x ix
  | .binOp op _ x y _ => clBin oc gen op x y
  | .unOp .not _ x => clNot oc x
  | .index t x ix => clIndex oc gen P t x ix
  | .extract x i => clExtract oc x i
  | .alloc el => clAlloc gen P el
  | .box _ x => clBox oc x
  | .store t x y => clStore oc gen P t x y
  | .call { callee := .builtin .len, args := ⟨[x]⟩, argTypes := ⟨[t]⟩ } => clLen oc gen P t x
  | .call { callee := .value f, args := ⟨args⟩, argTypes := _ } => clCall oc gen P f args
  | _ => gen
end forms
noncomputable def compOp (P : Program) (o : Oper) : Cl (OpG (Tr SV)) := compG opdC (clGen P o) P o

/-! ### soundness -/
theorem rec_true {b x : Bool} (h : (Bool.rec false x b : Bool) = true) : b = true ∧ x = true := by cases b <;> simp_all
theorem ofV_norm {v : Value} {k : SV → Bool} (h : k (ofV v) = true) : normK v k = true := by
  cases v with
  | bool b => cases b <;> exact h
  | int kd n => exact (intK_eq n fun n' => k (.int kd n')).trans h
  | _ => exact h
theorem rdPure_of {o : Oper} {fr : Tr SV} {k : SV → Bool} (hs : ∀ cs b, o.op ≠ .select cs b) {v : Value} (hf : allFlat fr o.op.operands.toList = true) (hr : pureRun P (execOp (flatOpd fr) o) = some (.value v)) (hk : k (ofV v) = true) : rdPure P o fr k = true := by
  unfold rdPure
  rw [hf, cond_true]
  split
  · rename_i cs b e
    exact absurd e (hs cs b)
  · rw [hr]
    exact ofV_norm hk
theorem exec_bin {o : Oper} {op : BinOp} {t u : TypeId} {x y : Operand} (ho : o.op = .binOp op t x y u) (ρ : Operand → Value) {a b v : Value} (hx : ρ x = a) (hy : ρ y = b) (hg : eqGuard op t x y a b = pure ()) (h : pureRun P (binOp op t a b) = some v) : pureRun P (execOp ρ o) = some (.value v) := by
  unfold execOp
  rw [ho]
  simp only [hx, hy, hg]
  have : ∀ e : Sem Value, pureRun P e = some v → pureRun P (do pure (Next.value (← e))) = some (.value v) := by
    intro e
    induction e with
    | pure a => intro h; simp only [pureRun, Option.some.injEq] at h; subst h; rfl
    | program k ih => intro h; exact ih _ h
    | mark m k ih => intro h; exact ih h
    | load m a k ih => intro h; simp [pureRun] at h
    | store m a v k ih => intro h; simp [pureRun] at h
    | new o k ih => intro h; simp [pureRun] at h
    | shape r k ih => intro h; simp [pureRun] at h
    | freeze a n k ih => intro h; simp [pureRun] at h
    | frozen a k ih => intro h; simp [pureRun] at h
    | getObj r k ih => intro h; simp [pureRun] at h
    | setObj r o k ih => intro h; simp [pureRun] at h
    | choose q k ih => intro h; simp [pureRun] at h
    | sys c k ih => intro h; simp [pureRun] at h
    | halt h => intro h; simp [pureRun] at h
  exact this _ h
theorem guard_int (op : BinOp) (t : TypeId) (x y : Operand) (k l : IntKind) (m n : Int) : eqGuard op t x y (.int k m) (.int l n) = pure () := by
  unfold eqGuard; cases op <;> rfl
theorem guard_str (op : BinOp) (t : TypeId) (x y : Operand) (a b : ByteArray) : eqGuard op t x y (.string a) (.string b) = pure () := by
  unfold eqGuard; cases op <;> rfl
theorem flat2 {fr : Tr SV} {x y : Operand} {a b : Value} (hx : flat (opd fr x) = some a) (hy : flat (opd fr y) = some b) : allFlat fr [x, y] = true ∧ flatOpd fr x = a ∧ flatOpd fr y = b := by
  refine ⟨?_, by simp [flatOpd, hx], by simp [flatOpd, hy]⟩
  simp [allFlat, hx, hy]
theorem opK_bin {call : CallK} {o : Oper} {fr : Tr SV} {h : HS} {k : SV → HS → Bool} {op : BinOp} {t u : TypeId} {x y : Operand} (ho : o.op = .binOp op t x y u) {a b v : Value} (hx : flat (opd fr x) = some a) (hy : flat (opd fr y) = some b)
    (hg : eqGuard op t x y a b = pure ()) (hr : pureRun P (binOp op t a b) = some v) (hk : k (ofV v) h = true) : opK P call o fr h k = true := by
  obtain ⟨e1, e2, e3⟩ := flat2 hx hy
  have : opK P call o fr h k = rdK P o fr h.hp fun sv => k sv h := by simp only [opK, ho]
  rw [this]
  have : rdK P o fr h.hp (fun sv => k sv h) = bif allFlat fr [x, y] then rdPure P o fr (fun sv => k sv h) else rdEqNil P op t fr x y (fun sv => k sv h) := by simp only [rdK, ho]
  rw [this, e1, cond_true]
  exact rdPure_of (fun cs b e => by rw [ho] at e; cases e) (by rw [ho]; exact e1) (exec_bin ho _ e2 e3 hg hr) hk
theorem clBin_ok {S : Type} {oc : OcF S} {gen : Cl (OpG S)} {s : S} {call : CallK} {o : Oper} {fr : Tr SV} {h : HS} {k : SV → HS → Bool} {op : BinOp} {t u : TypeId} {x y : Operand} (ho : o.op = .binOp op t x y u) (hx : ∀ k, (oc x).f s k = k (opd fr x)) (hy : ∀ k, (oc y).f s k = k (opd fr y)) (hk : (clBin oc gen op x y).f call s h k = true) : opK P call o fr h k = true ∨ gen.f call s h k = true := by
  have ints : ∀ (c : Int → Int → Bool), cmpI op = some c → ∀ ka m kb n, opd fr x = .int ka m → opd fr y = .int kb n → (Bool.rec false (boolK (c m n) fun r => k r h) (Nat.beq (ikN ka) (ikN kb)) : Bool) = true → opK P call o fr h k = true := by
    intro c hc ka m kb n ex ey hk
    obtain ⟨h1, h2⟩ := rec_true hk
    have := ikN_inj (Nat.eq_of_beq_eq_true h1)
    subst this
    rw [boolK_eq] at h2
    exact opK_bin ho (a := .int ka m) (b := .int ka n) (by rw [ex]; rfl) (by rw [ey]; rfl) (guard_int ..) (cmpI_ok hc ka t m n) h2
  unfold clBin at hk
  split at hk
  · rename_i c hc
    rw [Cl.then_eq, Cl.then_eq] at hk
    split at hk
    · simp only [hx, hy] at hk
      rcases asInt_ok hk with q1 | ⟨ka, m, ex, q1⟩
      · clear hk
        rcases asLit_ok q1 with q2 | ⟨va, ex, q2⟩
        · exact .inr q2
        clear q1
        rcases asLit_ok q2 with q1 | ⟨vb, ey, q1⟩
        · exact .inr q1
        clear q2
        rcases asStr_ok q1 with q2 | ⟨sa, e1, q2⟩
        · exact .inr q2
        clear q1
        rcases asStr_ok q2 with q1 | ⟨u', e2, hk⟩
        · exact .inr q1
        clear q2
        subst e1 e2
        rw [boolK_eq] at hk
        refine .inl (opK_bin ho (a := .string sa) (b := .string u') (v := .bool (byEq sa.data.toList u'.data.toList)) (by rw [ex]; rfl) (by rw [ey]; rfl) (guard_str ..) ?_ hk)
        simp only [binOp, Op.stringOp, pureRun_pure, ByteArray.toList_eq]
        congr 2
        cases hb : byEq sa.data.toList u'.data.toList with
        | true => rw [byEq_ok hb]; simp
        | false =>
          rw [beq_eq_false_iff_ne]
          intro e
          have : ∀ l : List UInt8, byEq l l = true := by
            intro l
            induction l with
            | nil => rfl
            | cons a r ih => simp [byEq, ih]
          rw [e, this] at hb
          cases hb
      · rcases asInt_ok q1 with q2 | ⟨kb, n, ey, q2⟩
        · cases q2
        exact .inl (ints c hc ka m kb n ex ey q2)
    · simp only [hx, hy] at hk
      rcases asInt_ok hk with q1 | ⟨ka, m, ex, q1⟩
      · exact .inr q1
      · rcases asInt_ok q1 with q2 | ⟨kb, n, ey, q2⟩
        · cases q2
        exact .inl (ints c hc ka m kb n ex ey q2)
  · split at hk
    · rename_i c hc
      simp only [Cl.then_eq, hx, hy] at hk
      rcases asInt_ok hk with q1 | ⟨ka, p, ex, q1⟩
      · exact .inr q1
      clear hk
      rcases asInt_ok q1 with q2 | ⟨kb, q, ey, hk⟩
      · exact .inr q2
      clear q1
      cases hb : (Nat.beq (ikN ka) 3 && Nat.beq (ikN kb) 3) with
      | false => rw [hb] at hk; exact .inr hk
      | true =>
        rw [hb] at hk
        simp only [Bool.and_eq_true] at hb
        have e1 : ka = .i64 := ikN_inj (Nat.eq_of_beq_eq_true hb.1)
        have e2 : kb = .i64 := ikN_inj (Nat.eq_of_beq_eq_true hb.2)
        subst e1 e2
        cases p with
        | negSucc m => exact .inr hk
        | ofNat m => cases q with
          | negSucc n => exact .inr hk
          | ofNat n =>
            have fin : ∀ s : Nat, s < 9223372036854775808 → k (.int .i64 (.ofNat s)) h = true → pureRun P (binOp op t (.int .i64 (.ofNat m)) (.int .i64 (.ofNat n))) = some (.int .i64 s) → opK P call o fr h k = true := fun s hs hk hr =>
              opK_bin ho (a := .int .i64 (.ofNat m)) (b := .int .i64 (.ofNat n)) (by rw [ex]; rfl) (by rw [ey]; rfl) (guard_int ..) hr hk
            have rd : ∀ (s : Nat) (d x : Bool), (Bool.rec d x (Nat.blt s 9223372036854775808) : Bool) = true → d = true ∨ (s < 9223372036854775808 ∧ x = true) := by
              intro s d x hq
              rw [nat_blt] at hq
              by_cases hs : s < 9223372036854775808
              · rw [decide_eq_true hs] at hq; exact .inr ⟨hs, hq⟩
              · rw [decide_eq_false hs] at hq; exact .inl hq
            cases op <;> simp only [sumI, Option.some.injEq, reduceCtorEq] at hc <;> subst hc <;> simp only at hk
            · rw [natK_eq] at hk
              rcases rd _ _ _ hk with hk | ⟨hs, hk⟩
              · exact .inr hk
              refine .inl (fin _ hs hk ?_)
              simp only [binOp, Op.intArith, pureRun_pure, ne_eq, not_true_eq_false, if_false, IntKind.wrap_i64, Option.some.injEq, Value.int.injEq, true_and, Int.ofNat_eq_natCast]
              omega
            · cases hle : Nat.ble n m with
              | false => rw [hle] at hk; exact .inr hk
              | true =>
                rw [hle] at hk
                have hle := Nat.le_of_ble_eq_true hle
                simp only [natK_eq] at hk
                rcases rd _ _ _ hk with hk | ⟨hs, hk⟩
                · exact .inr hk
                refine .inl (fin _ hs hk ?_)
                simp only [binOp, Op.intArith, pureRun_pure, ne_eq, not_true_eq_false, if_false, IntKind.wrap_i64, Option.some.injEq, Value.int.injEq, true_and, Int.ofNat_eq_natCast]
                omega
            · rw [natK_eq] at hk
              rcases rd _ _ _ hk with hk | ⟨hs, hk⟩
              · exact .inr hk
              refine .inl (fin _ hs hk ?_)
              simp only [binOp, Op.intArith, pureRun_pure, ne_eq, not_true_eq_false, if_false, IntKind.wrap_i64, Option.some.injEq, Value.int.injEq, true_and, Int.ofNat_eq_natCast]
              rw [← Int.natCast_mul]
              omega
    · exact .inr hk
end Go.Proofs.YtjbjpjaeagopjaaGreat.Ev
