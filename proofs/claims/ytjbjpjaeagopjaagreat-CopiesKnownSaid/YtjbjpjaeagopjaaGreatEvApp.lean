/- append. -/
import Derived.Test.YtjbjpjaeagopjaaGreatEvEff2
import Derived.Laws.Append
import Derived.Laws.AppendOwn
set_option linter.unusedSimpArgs false
set_option linter.unusedVariables false
set_option linter.unusedSectionVars false
namespace Go.Proofs.YtjbjpjaeagopjaaGreat.Ev
open Go
variable [GTab] {P : Program} {W0 : World} [GOk W0] {fr : Tr SV} {o : Oper}

theorem objOk_grown {E : Env} {l : List SV} {vl : List Value} (hv : vals E l = some vl) (ho : ∀ v ∈ vl, v.oneCell' = true) {s : Spot} {w : World} {ty : TypeId} {arr : Array Value} (hh : w.heap[s.blk]? = some (.cells arr ty (0, 0)))
    (harr : ∀ i, i < vl.length → arr[s.base + i]? = vl[i]?) (hsz : s.base + vl.length ≤ arr.size) {sz : Nat} (hc : s.base + s.cap * sz ≤ arr.size) (hc2 : vl.length ≤ s.cap * sz) : objOk E s w (.row l.length sz (trOf l 0 .e)) := by
  have hlen := vals_length hv
  refine ⟨arr, ty, hh, by omega, ⟨hc, .inr (by omega)⟩, fun i hi => ?_⟩
  obtain ⟨v, e1, e2⟩ := vals_one hv (List.getElem?_eq_getElem hi)
  refine ⟨l[i], v, ?_, e1, ho v (List.mem_of_getElem? e2), by rw [harr i (by omega), e2]⟩
  rw [get_trOf, if_pos ⟨Nat.zero_le _, by omega⟩]
  simp

/-- What is appended. -/
noncomputable def srcK (g : Tr SO) (sz : Nat) (x : SV) (k : List SV → Nat → Bool) : Bool :=
  match x with
  | .lit (.slice _ 0 _) => k [] 0
  | .emp _ _ _ _ => k [] 0
  | .sl id off n _ => (match g.get id with
    | some (.row m _ tr) => bif Nat.ble (off + n * sz) m then cellsK tr off (n * sz) fun l => k l n else false
    | _ => false)
  | .slr id off n _ => (match g.get id with
    | some (.row m _ tr) => bif Nat.ble (off + n * sz) m then cellsK tr off (n * sz) fun l => k l n else false
    | _ => false)
  | _ => false
/-- m cells read, one by one. -/
theorem Rel.cellsAt {E : Env} {g : Hp} {w : World} (r : Rel W0 E g w) {id n sz : Nat} {t : Tr SV} (h : g id = some (.row n sz t)) {i m : Nat} (hi : i + m ≤ n) {l : List SV} (hl : l.length = m) (hg : ∀ j, j < m → t.get (i + j) = l[j]?) :
    ∃ s vl, E.at_ id = some s ∧ vals E l = some vl ∧ vl.length = m ∧ (∀ v ∈ vl, v.oneCell' = true) ∧ ∀ j u, vl[j]? = some u → w.cell? ⟨s.blk, s.base + (i + j), none⟩ = some u := by
  obtain ⟨s, a, _, c, ty, h1, h2, h3, h4⟩ := r.obj id _ h
  have F : ∀ j, ∃ v, j < m → ∃ sv, l[j]? = some sv ∧ val E sv = some v ∧ v.oneCell' = true ∧ w.cell? ⟨s.blk, s.base + (i + j), none⟩ = some v := by
    intro j
    by_cases hj : j < m
    · obtain ⟨sv, v, k1, k2, k3, k4⟩ := h4 (i + j) (by omega)
      exact ⟨v, fun _ => ⟨sv, by rw [← hg j hj]; exact k1, k2, k3, by simp [World.cell?, h1, k4]⟩⟩
    · exact ⟨undef, fun h => absurd h hj⟩
  have hF := fun j => Classical.choose_spec (F j)
  generalize hf : (fun j => Classical.choose (F j)) = f at hF
  have hF' : ∀ j, j < m → ∃ sv, l[j]? = some sv ∧ val E sv = some (f j) ∧ (f j).oneCell' = true ∧ w.cell? ⟨s.blk, s.base + (i + j), none⟩ = some (f j) := fun j hj => by
    have := hF j hj
    rw [← hf]
    exact this
  refine ⟨s, (List.range m).map f, a, ?_, by simp, ?_, ?_⟩
  · rw [← hl]
    refine vals_get l f fun j sv e => ?_
    have hj : j < m := by rw [← hl]; exact (List.getElem?_eq_some_iff.1 e).1
    obtain ⟨sv', e1, e2, _⟩ := hF' j hj
    rw [e] at e1
    obtain rfl := Option.some.inj e1
    exact e2
  · intro v hv
    obtain ⟨j, hj, rfl⟩ := List.mem_map.1 hv
    exact (hF' j (by simpa using hj)).choose_spec.2.2.1
  · intro j u e
    have hj : j < m := by have := (List.getElem?_eq_some_iff.1 e).1; simpa using this
    simp [hj] at e
    obtain ⟨sv', _, _, _, e3⟩ := hF' j hj
    rw [← e]
    exact e3
theorem srcK_ok {g : Tr SO} {sz : Nat} {x : SV} {k : List SV → Nat → Bool} (h : srcK g sz x k = true) : ∃ l n, k l n = true ∧ l.length = n * sz ∧
    ∀ E w v, Rel W0 E g.get w → val E x = some v → ∃ A c vl, v = .slice A n c ∧ vals E l = some vl ∧ vl.length = n * sz ∧ (∀ u ∈ vl, u.oneCell' = true) ∧ (0 < n → ∃ a, A = some a ∧ ∀ j u, vl[j]? = some u → w.cell? (a.add j) = some u) := by
  unfold srcK at h
  split at h
  · rename_i A c
    refine ⟨[], 0, h, by simp, fun E w v r e => ⟨A, c, [], ?_, rfl, by simp, by simp, fun h => absurd h (by omega)⟩⟩
    simp only [val, Option.some.injEq] at e
    exact e.symm
  · rename_i j id off skip
    refine ⟨[], 0, h, by simp, fun E w v r e => ?_⟩
    simp only [val, Option.bind_eq_some_iff, Option.map_eq_some_iff] at e
    obtain ⟨p, _, A, _, s, _, rfl⟩ := e
    exact ⟨_, _, [], rfl, rfl, by simp, by simp, fun h => absurd h (by omega)⟩
  · rename_i id off n cap
    split at h
    case h_2 => cases h
    rename_i m sz' tr hrow
    obtain ⟨h1, h⟩ := bif_true h
    obtain ⟨l, h2, h3, h4⟩ := cellsK_ok _ _ _ _ h
    refine ⟨l, n, h2, h3, fun E w v r e => ?_⟩
    obtain ⟨s, vl, e1, e2, e3, e4, e5⟩ := r.cellsAt hrow (Nat.le_of_ble_eq_true h1) h3 h4
    simp only [val, e1, Option.map_some, Option.some.injEq] at e
    exact ⟨_, cap, vl, e.symm, e2, e3, e4, fun _ => ⟨_, rfl, fun j u hj => by rw [Addr.add_lit, Nat.add_assoc]; exact e5 j u hj⟩⟩
  · rename_i id off n skip
    split at h
    case h_2 => cases h
    rename_i m sz' tr hrow
    obtain ⟨h1, h⟩ := bif_true h
    obtain ⟨l, h2, h3, h4⟩ := cellsK_ok _ _ _ _ h
    refine ⟨l, n, h2, h3, fun E w v r e => ?_⟩
    obtain ⟨s, vl, e1, e2, e3, e4, e5⟩ := r.cellsAt hrow (Nat.le_of_ble_eq_true h1) h3 h4
    simp only [val, e1, Option.map_some, Option.some.injEq] at e
    exact ⟨_, _, vl, e.symm, e2, e3, e4, fun _ => ⟨_, rfl, fun j u hj => by rw [Addr.add_lit, Nat.add_assoc]; exact e5 j u hj⟩⟩
  · cases h

theorem run_append_empty (w : World) (t ty e : TypeId) (i : TypeInfo) (ht : P.underlying t = some (.slice e)) (hi : P.info? e = some i) (A : Option Addr) (n c : Nat) (B : Option Addr) (d : Nat) (hn : n ≤ c) :
    (Builtin.append_ #[t, t] ty #[.slice A n c, .slice B 0 d]).run P w = .ok (.slice A n c) w := by
  cases A <;> cases B <;> simp [Builtin.append_, run_underlying ht, sizeOf, typeInfo, hi, Builtin.lenOf, hn, Builtin.firstCells, loadCells, loadCellsFrom, storeCells, Sem.run_bind, Result.andThen]
theorem run_append_in (w w' : World) (t ty e : TypeId) (i : TypeInfo) (ht : P.underlying t = some (.slice e)) (hi : P.info? e = some i) (b : Addr) (n c : Nat) (a : Addr) (m d : Nat) (news : List Value) (hl : news.length = m * i.size) (hnews : ∀ j u, news[j]? = some u → w.cell? (a.add j) = some u) (hroom : n + m ≤ c)
    (hst : (storeCells (b.add (n * i.size)) news).run P w = .ok () w') : (Builtin.append_ #[t, t] ty #[.slice (some b) n c, .slice (some a) m d]).run P w = .ok (.slice (some b) (n + m) c) w' := by
  have hf := run_firstCells_some (P := P) w i.size m a m d news hl hnews
  simp [Builtin.append_, run_underlying ht, sizeOf, typeInfo, hi, Builtin.lenOf, hroom, hf, hst, Sem.run_bind, Result.andThen]
end Go.Proofs.YtjbjpjaeagopjaaGreat.Ev
