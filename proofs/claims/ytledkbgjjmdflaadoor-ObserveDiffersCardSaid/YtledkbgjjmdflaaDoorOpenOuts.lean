/- A slice of outcomes that came in, opened: what is read of it. -/
import Derived.Test.YtledkbgjjmdflaaDoorDiffers
import Derived.ProofKit
import Derived.LaidMore
import Derived.Lib.SmallJoins
import Derived.SizedLaws
namespace Go.Proofs.YtledkbgjjmdflaaDoor.Obs
open Go Go.ChangeShapes Go.WideShapes Go.ChangeAt Go.RowKit Go.Proofs Go.Joins Go.Deep

theorem cells34' : Tryd.prog.cellsOf 34 = 3 := by kernel_rfl
theorem cells36 : Tryd.prog.cellsOf 36 = 4 := by kernel_rfl
theorem cells9 : Tryd.prog.cellsOf 9 = 1 := by kernel_rfl
theorem cells3 : Tryd.prog.cellsOf 3 = 1 := by kernel_rfl
theorem cells32 : Tryd.prog.cellsOf 32 = 1 := by kernel_rfl
theorem cells2' : Tryd.prog.cellsOf 2 = 1 := by kernel_rfl
theorem bytes36 : Tryd.prog.bytesOf 36 = 56 := by kernel_rfl
theorem bytes2 : Tryd.prog.bytesOf 2 = 8 := by kernel_rfl
section
variable {H : Type} {enc : TypeId × Value → H} {W : World}
theorem i64_of_wf {x : Int} (hx : (Lit.int .i64 x).wf = true) : I64 x := by
  have a1 : IntKind.i64.min = -9223372036854775808 := rfl
  have a2 : IntKind.i64.max = 9223372036854775807 := rfl
  simp only [Lit.wf, Bool.and_eq_true, decide_eq_true_eq] at hx
  exact ⟨by omega, by omega⟩
/-- One outcome. -/
theorem elem_open {n : Nat} {cs : List Value} {y : DataW H × List MemPlace} (h : DataW.trod enc Tryd.prog W 0 (fun _ => true) true n 36 cs = some y) (hw : (y.1.weights Tryd.prog 36).all (· ≤ reachBytes) = true) :
    ∃ (s : ByteArray) (A : Option Addr) (c : Nat) (x : Beh), cs = [.string s, .slice A x.1.length c, .int .i64 x.2.1, .int .i64 x.2.2] ∧ x.1.length ≤ c ∧ c ≤ 140737488351232 ∧ ReadsI W A x.1.length x.1 ∧ (∀ v ∈ x.1, I64 v) ∧ I64 x.2.1 ∧ I64 x.2.2 := by
  obtain ⟨y0, y1, n1, rfl, hl, h0, h1⟩ := trod_struct2 Tryd.underlying36 h
  rw [cells36] at hl
  match cs, hl with
  | [v0, v1, v2, v3], _ =>
  simp only [cells9, cells34', List.drop_zero, List.drop_succ_cons, List.take_succ_cons, List.take_zero] at h0 h1
  obtain ⟨s, e0, e0', -⟩ := DataW.trod_string Tryd.underlying9 h0
  obtain ⟨z0, z1, z2, n2, rfl, -, k0, k1, k2⟩ := trod_struct3 Tryd.underlying34 h1
  simp only [cells32, cells3, List.drop_zero, List.drop_succ_cons, List.take_succ_cons, List.take_zero] at k0 k1 k2
  obtain ⟨e, e1, rfl, we⟩ := DataW.trod_int Tryd.underlying3 k1
  obtain ⟨cd, e2, rfl, wc⟩ := DataW.trod_int Tryd.underlying3 k2
  simp only [List.cons.injEq, and_true] at e0 e1 e2
  subst e0 e1 e2 e0'
  rcases open_ints Tryd.underlying32 Tryd.underlying2 cells2' k0 with ⟨hcs, _⟩ | ⟨a, len, cap, zs, hcs, _, hl, hm, hz, hx, hcell, hwz⟩
  · simp only [List.cons.injEq, and_true] at hcs
    subst hcs
    exact ⟨s, none, 0, ([], e, cd), rfl, Nat.le_refl _, by omega, ⟨rfl, fun h => absurd h (Nat.lt_irrefl 0)⟩, by simp, i64_of_wf we, i64_of_wf wc⟩
  · simp only [List.cons.injEq, and_true] at hcs
    subst hcs
    simp only [if_true] at hz
    subst hx
    have hlen : (zs.take len).length = len := by rw [List.length_take]; omega
    have hcap : cap ≤ 140737488351232 := by
      have h2 : cap * 8 ≤ reachBytes := by
        have := List.all_eq_true.1 hw (cap * 8) (by
          simp only [DataW.weights, Tryd.underlying36, Tryd.underlying34, Tryd.underlying32, bytes2, DataW.weightsEach, List.map_cons, List.map_nil, List.mem_append, List.mem_cons]
          refine .inr (.inl (.inl (.inl ?_)))
          simp [lits]
          omega)
        simpa using this
      simp only [reachBytes] at h2
      omega
    refine ⟨s, some a, cap, (zs.take len, e, cd), ?_, ?_, hcap, ⟨rfl, fun _ => ⟨a, rfl, fun j hj => ?_⟩⟩, fun v hv => i64_of_wf (hwz v (List.mem_of_mem_take hv)), i64_of_wf we, i64_of_wf wc⟩
    · simp only [hlen]
    · simp only [hlen]; exact hl
    · simp only [hlen] at hj
      rw [hcell j (by omega)]
      simp [List.getD, List.getElem?_take, hj]

theorem mem_weightsAll {P : Program} {t : TypeId} {ds : List (DataW H)} {d : DataW H} (h : d ∈ ds) : ∀ x ∈ d.weights P t, x ∈ DataW.weightsAll P t ds := by
  induction ds with
  | nil => cases h
  | cons a r ih =>
    intro x hx
    simp only [DataW.weightsAll, List.mem_append]
    rcases List.mem_cons.1 h with rfl | h
    · exact .inl hx
    · exact .inr (ih h x hx)
theorem list_of {α : Type} (d0 : α) (P : Nat → α → Prop) (n : Nat) (h : ∀ i, i < n → ∃ x, P i x) : ∃ l : List α, l.length = n ∧ ∀ i, i < n → P i (l.getD i d0) := by
  induction n with
  | zero => exact ⟨[], rfl, fun i hi => absurd hi (by omega)⟩
  | succ n ih =>
    obtain ⟨l, hl, hp⟩ := ih (fun i hi => h i (by omega))
    obtain ⟨x, hx⟩ := h n (by omega)
    refine ⟨l ++ [x], by simp [hl], fun i hi => ?_⟩
    by_cases e : i = n
    · subst e
      rw [List.getD_eq_getElem?_getD, List.getElem?_append_right (by omega), hl, Nat.sub_self]
      exact hx
    · rw [List.getD_eq_getElem?_getD, List.getElem?_append_left (by omega), ← List.getD_eq_getElem?_getD]
      exact hp i (by omega)

theorem open_outs {base : Nat} {v : Value} {d : DataW H} {p : List MemPlace} (hv : Value.okWide Tryd.prog W .any base 22 v) (h : DataW.Trod enc Tryd.prog W 0 (fun _ => true) true 22 v d p) (hw : (d.weights Tryd.prog 22).all (· ≤ reachBytes) = true) :
    ∃ (A : Option Addr) (n c : Nat) (l : List Beh), v = .slice A n c ∧ OutsR W A n l ∧ n ≤ c ∧ c ≤ 140737488351232 ∧ ∀ x ∈ l, (∀ v ∈ x.1, I64 v) ∧ I64 x.2.1 ∧ I64 x.2.2 := by
  obtain ⟨A, n, c, rfl⟩ := okWide_slice Tryd.underlying22 hv
  obtain ⟨fuel, hf⟩ := h
  rcases DataW.trod_slice Tryd.underlying22 hf with ⟨hcs, _⟩ | ⟨a, len, cap, elems, rest, m, _, hcs, hx, _, hl, _, hlen, hel, hsp, _⟩
  · have e : Value.slice A n c = Value.slice none 0 0 := by simpa [Value.cells] using hcs
    injection e with e1 e2 e3
    subst e1 e2 e3
    exact ⟨none, 0, 0, [], rfl, ⟨rfl, fun h => absurd h (by decide)⟩, Nat.le_refl _, by omega, by simp⟩
  · have e : Value.slice A n c = Value.slice (some a) len cap := by simpa [Value.cells] using hcs
    injection e with e1 e2 e3
    subst e1 e2 e3
    simp only [Prod.mk.injEq] at hx
    obtain ⟨rfl, -⟩ := hx
    have hrest := (hsp rfl).1
    have hwall := List.all_eq_true.1 hw
    simp only [DataW.weights, Tryd.underlying22, bytes36] at hwall
    have hcap : c ≤ 140737488351232 := by
      have := hwall _ (List.mem_cons_self ..)
      simp only [List.length_map, decide_eq_true_eq, reachBytes] at this
      omega
    have each : ∀ i, i < n → ∃ x : Beh, (∃ (s : ByteArray) (B : Option Addr) (k : Nat), W.cell? (a.add (i * 4)) = some (.string s) ∧ W.cell? ((a.add (i * 4)).add 1) = some (.slice B x.1.length k) ∧ x.1.length ≤ k ∧ k ≤ 140737488351232 ∧ ReadsI W B x.1.length x.1 ∧
        W.cell? ((a.add (i * 4)).add 2) = some (.int .i64 x.2.1) ∧ W.cell? ((a.add (i * 4)).add 3) = some (.int .i64 x.2.2)) ∧ (∀ v ∈ x.1, I64 v) ∧ I64 x.2.1 ∧ I64 x.2.2 := by
      intro i hi
      have hE := hel i hi
      rw [cells36, List.getElem?_eq_getElem (by omega), Option.bind_eq_some_iff] at hE
      obtain ⟨cs, hcs', hy⟩ := hE
      obtain ⟨s, B, k, x, rfl, h1, h2, h3, h4, h5, h6⟩ := elem_open hy (List.all_eq_true.2 fun z hz => hwall z (List.mem_cons_of_mem _ (List.mem_append_left _ (mem_weightsAll (List.mem_map_of_mem (List.getElem_mem (by omega))) z hz))))
      have hc := (World.cells?_some hcs').2.2
      have a0 : (a.add (i * 4)).add 0 = a.add (i * 4) := rfl
      exact ⟨x, ⟨s, B, k, by rw [← a0]; exact hc 0 (by omega), hc 1 (by omega), h1, h2, h3, hc 2 (by omega), hc 3 (by omega)⟩, h4, h5, h6⟩
    obtain ⟨l, hll, hP⟩ := list_of beh0 _ n each
    refine ⟨some a, n, c, l, rfl, ⟨hll, fun h0 => ?_⟩, hl, hcap, fun x hx => ?_⟩
    · have hs : a.spot = none := by
        obtain ⟨⟨s, B, k, h1, _⟩, _⟩ := hP 0 h0
        rw [Nat.zero_mul] at h1
        have a0 : a.add 0 = a := rfl
        rw [a0] at h1
        unfold World.cell? at h1
        split at h1
        · cases hsp : a.spot with
          | none => rfl
          | some q => simp [hsp] at h1
        · cases h1
      obtain ⟨b, off, sp⟩ := a
      simp only at hs
      subst hs
      refine ⟨b, off, rfl, fun j hj => ?_⟩
      obtain ⟨⟨s, B, k, h1, h2, h3, h4, h5, h6, h7⟩, _⟩ := hP j hj
      simp only [Addr.add_lit] at h1 h2 h6 h7
      exact ⟨s, B, k, h1, h2, h3, h4, h5, h6, h7⟩
    · obtain ⟨i, hi, rfl⟩ := List.getElem_of_mem hx
      have := (hP i (by omega)).2
      rw [List.getD_eq_getElem?_getD, List.getElem?_eq_getElem hi] at this
      exact this
end
end Go.Proofs.YtledkbgjjmdflaaDoor.Obs
