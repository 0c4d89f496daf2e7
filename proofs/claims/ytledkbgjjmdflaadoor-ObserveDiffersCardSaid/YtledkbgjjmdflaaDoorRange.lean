/- A range over a function whose rounds always go on, for an iterator that keeps rows of Options of its own. -/
import Derived.Test.YtledkbgjjmdflaaDoorWays
import Derived.Laws.EntriesVeiled
import Derived.Maps.AppendAt
namespace Go.Proofs.YtledkbgjjmdflaaDoor.Obs
open Go Go.RowKit Go.Proofs Go.Shelf Go.Sort
attribute [local go_sem] Oper.semAt_some

theorem keptT_putObj (W : World) (l : Nat) (o o' : Obj) (hl : W.heap[l]? = some o) (ho : o.isCells = false) : KeptT W (W.putObj l o') :=
  ⟨by simp, fun b c t f hb _ _ => by
    have hne : b ≠ l := by
      rintro rfl
      rw [hl] at hb
      cases hb
      cases ho
    rw [World.putObj_heap_other hne]; exact hb⟩

/-- What the rounds ask of the caller's own word. -/
def StaysQ (N0 : Nat) (I : List Way → World → Prop) : Prop := ∀ s A B, I s A → Q70 N0 A B → I s B

theorem wpIn_rangeFunc_all {n : Nat} {g : Operand} {assign body : Code} {Q : Exit → Act → World → Prop} {a : Act} {w : World} {t : Tmp} {N0 : Nat}
    (h1 : 1 ≤ n) {gf : Nat} {lb : Array Value} (hg : a.eval g = .func (.func gf) #[] lb) (eg : ∀ args w, (callFunc gf args).run Tryd.prog w = .ok (.enter gf args) w)
    (I : List Way → World → Prop) (hI : OwnFrom w.heap.size I) (hq : StaysQ N0 I) (h0 : I [] w) (hN : N0 ≤ w.heap.size)
    (hseq : ∀ (l : Nat) (J : List Way → World → Prop) (W : World), StaysQ N0 J →
      (∀ pre (nm : ByteArray) (lv : Int) (g : Nat) W, pre.length < 6 → J pre W → YieldAt Fence.wide (n - 1 - 1) Tryd.prog l #[.agg #[.string nm, .int .i64 lv, .int .i64 (-1), .int .i64 3, .int .i64 0, .slice none 0 0, .func (.func g) #[] #[]]] W fun e W' =>
        e = .returned (.bool true) ∧ J (pre ++ [(nm, lv, g)]) W' ∧ KeptT W W') →
      Below w.heap.size w W → J [] W → CallsIn Fence.wide (n - 1) Tryd.prog gf (#[.func (.yield l) #[] #[]] ++ lb) W fun e W' => (∃ v, e = .returned v) ∧ J (LW 2) W')
    (hround : ∀ (l : Nat) (pre : List Way) (x : Way) (W : World) (K : Act → World → Prop), pre.length < 6 → I pre W →
      (∀ a' W', KeepsFrom w.heap.size W W' → KeptT W W' → I pre W' → (∀ W2, KeptT W' W2 → I pre W2 → body.wpIn (Fence.wide.inRound l) (n - 1 - 1) Tryd.prog (fun e _ W3 => e = .normal ∧ KeepsFrom w.heap.size W2 W3 ∧ KeptT W2 W3 ∧ I (pre ++ [x]) W3) a' W2) → K a' W') →
      assign.wpIn (Fence.wide.inRound l) (n - 1 - 1) Tryd.prog (Exit.then K (fun _ _ _ => False)) { tmps := a.tmps.setIfInBounds t (wayV x), defers := [] } W)
    (hdone : ∀ (D : Nat) (W : World), w.heap.size ≤ D → I (LW 2) W → W.heap[D]? = some (.deferred (some [])) → Q .normal { a with defers := { target := .collected D, args := #[] } :: a.defers } W) :
    (Code.rangeFunc g #[t] assign body).wpIn Fence.wide n Tryd.prog Q a w := by
  refine wpIn_rangeFunc ?_
  intro fn hfn
  have hro : Fence.wide.round = none := rfl
  rw [hro]
  obtain ⟨rec, hrec⟩ : ∃ rec : LoopState → Option Code → Loop, rec = fun st pe => { state := st, pending := pe, fn, tmps := a.tmps, params := #[t], assign, body, defers := w.heap.size } := ⟨_, rfl⟩
  obtain ⟨W1, hW1⟩ : ∃ W1, (w.alloc (.deferred (some []))).alloc (.loop (rec .ready none)) = W1 := ⟨_, rfl⟩
  have hL1 : W1.heap[w.heap.size + 1]? = some (.loop (rec .ready none)) := by
    rw [← hW1]; have := World.alloc_heap_new (w.alloc (.deferred (some []))) (.loop (rec .ready none)); rwa [World.size_alloc] at this
  have hK1 : W1.heap[w.heap.size]? = some (.deferred (some [])) := by
    rw [← hW1]; exact (Below.heap_alloc _ _ _ (by simp)).trans (World.alloc_heap_new w _)
  have hI1 : I [] W1 := by rw [← hW1]; exact hI.alloc _ (hI.alloc _ h0)
  have hb1 : Below w.heap.size w W1 := by
    rw [← hW1]; exact ((Below.refl _ w).alloc (Nat.le_refl _) _).alloc (by simp) _
  refine ⟨w.heap.size + 1, [{ target := .collected w.heap.size, args := #[] }], W1, { target := .fn (.func gf) lb, args := #[.func (.yield (w.heap.size + 1)) #[] #[]] }, W1, gf,
    #[.func (.yield (w.heap.size + 1)) #[] #[]] ++ lb, W1, ?_, ?_, ?_, ?_, fun _ => h1, ?_⟩
  · rw [← hW1, hrec]; exact run_enterLoop_outer _ _ _ _ _
  · simp only [resolve, hg]
    simp [go_sem]
  · intro f' hf'; trivial
  · simp [invoke, go_sem, eg]
  · refine (hseq (w.heap.size + 1)
      (fun pre W => I pre W ∧ W.heap[w.heap.size + 1]? = some (.loop (rec .ready none)) ∧ W.heap[w.heap.size]? = some (.deferred (some [])))
      W1 (fun s A B hs hk => ⟨hq s A B hs.1 hk, hk.2.2.2.2 _ _ hs.2.1 (.inr (by intro c f e; cases e)), hk.2.2.2.2 _ _ hs.2.2 (.inr (by intro c f e; cases e))⟩)
      ?_ hb1 ⟨hI1, hL1, hK1⟩).mono ?_
    · -- ONE ROUND
      rintro pre nm lv gg W h6 ⟨hi, hl, hk⟩
      have hy := run_yield (P := Tryd.prog) (args := #[wayV (nm, lv, gg)]) hl (by rw [hrec]; rfl)
      have hz : ((rec .ready none).params.zip #[wayV (nm, lv, gg)]).foldl (fun tmps (x : Tmp × Value) => tmps.setIfInBounds x.1 x.2) (rec .ready none).tmps = a.tmps.setIfInBounds t (wayV (nm, lv, gg)) := by rw [hrec]; simp
      have hy2 : (Instr.yield (w.heap.size + 1) #[wayV (nm, lv, gg)]).run Tryd.prog W = .ok (.round (w.heap.size + 1) fn (a.tmps.setIfInBounds t (wayV (nm, lv, gg))) assign body) W := by
        rw [← hz]
        rw [hrec] at hy ⊢
        exact hy
      refine ⟨fn, _, assign, body, hy2, roundIn_of_wpIn hfn ?_⟩
      refine hround (w.heap.size + 1) pre (nm, lv, gg) W _ h6 hi ?_
      intro a' Wa hkfa hkpa hia hbody
      have hl := hkfa.same _ _ (by omega) hl rfl
      have hk := hkfa.same _ _ (Nat.le_refl _) hk rfl
      have hlt : w.heap.size + 1 < Wa.heap.size := (Array.getElem?_eq_some_iff.1 hl).1
      refine ⟨_, run_beginRound hl (by rw [hrec]), ?_⟩
      have hl2 : (Wa.putObj (w.heap.size + 1) (.loop { rec .ready none with state := .busy })).heap[w.heap.size + 1]? = some (.loop { rec .ready none with state := .busy }) := World.putObj_heap_same hlt
      have hk2 : (Wa.putObj (w.heap.size + 1) (.loop { rec .ready none with state := .busy })).heap[w.heap.size]? = some (.deferred (some [])) := (World.putObj_heap_other (by omega)).trans hk
      have hw2 : KeptT Wa (Wa.putObj (w.heap.size + 1) (.loop { rec .ready none with state := .busy })) := keptT_putObj _ _ _ _ hl rfl
      refine wpIn_mono (hbody _ hw2 (hI.putObj _ hia (by omega) hl rfl)) ?_
      rintro e a3 W3 ⟨rfl, hk3, hkp3, hi3⟩
      have hl3 := hk3.same _ _ (by omega) hl2 rfl
      have hk4 := hk3.same _ _ (Nat.le_refl _) hk2 rfl
      have hr := run_endRound (P := Tryd.prog) none hl3
      have hlt3 := (Array.getElem?_eq_some_iff.1 hl3).1
      refine ⟨_, _, hr, rfl, ⟨hI.putObj _ hi3 (by omega) hl3 rfl, ?_, (World.putObj_heap_other (by omega)).trans hk4⟩, hkpa.trans (hw2.trans (hkp3.trans (keptT_putObj _ _ _ _ hl3 rfl)))⟩
      rw [World.putObj_heap_same hlt3]
      try (rw [hrec]; rfl)
    · -- BEHIND THE ITERATOR
      rintro e W2 ⟨⟨v, rfl⟩, hi, hl, hk⟩
      exact ⟨none, _, by have := run_endLoop (P := Tryd.prog) hl (by rw [hrec]; simp); rw [hrec] at this; exact this, hdone _ _ (Nat.le_refl _) (hI.putObj _ hi (by omega) hl rfl) ((World.putObj_heap_other (by omega)).trans hk)⟩

/-- The row of names that the caller collects. -/
def Names (BO : Nat) (w0 : World) (pre : List Way) (W : World) : Prop :=
  (∃ v, Boxed W BO 39 v ∧ W.ownsRow w0.heap.size 9 1 v pre.length (pre.map fun x => Value.string x.1) ∧ True) ∧ Below w0.heap.size w0 W
theorem names_own (BO B : Nat) (w0 : World) (hB : w0.heap.size ≤ B) : OwnFrom B (Names BO w0) :=
  OwnFrom.and (Own.from (holdsRow_own w0.heap.size BO 39 9 1 (fun pre : List Way => pre.length) (fun pre => pre.map fun x => Value.string x.1) (fun _ _ => True)) _) (ownFrom_below (Nat.le_refl _) hB)
theorem names_q (BO : Nat) (w0 : World) : StaysQ w0.heap.size (Names BO w0) := by
  rintro s A B ⟨⟨v, hb, hrow, _⟩, hbw⟩ hq
  refine ⟨⟨v, hq.2.2.2.2 _ _ hb (.inr (by intro c f e; cases e)), ⟨hrow.1, ?_⟩, trivial⟩, ?_⟩
  · rcases hrow.2 with h | ⟨g, cap, cur, hv, hg, hh, rest⟩
    · exact .inl h
    · exact .inr ⟨g, cap, cur, hv, hg, hq.2.2.2.2 _ _ hh (.inr (by intro c f e; cases e)), rest⟩
  · refine hbw.trans ⟨hq.1, hq.2.1, hq.2.2.1, hq.2.2.2.1, fun k hk => ?_⟩
    have hlt : k < A.heap.size := Nat.lt_of_lt_of_le hk hbw.size
    rw [Array.getElem?_eq_getElem hlt]
    exact hq.2.2.2.2 k _ (Array.getElem?_eq_getElem hlt) (.inl hk)

set_option maxHeartbeats 400000 in
theorem ways_made (v0 v1 : Value) (w : World) (c : Array Value) (hc : c = #[v0, v1, .int .i64 0, .int .i64 0, .slice none 0 0]) (hs : ∃ A1 n1 c1 A2 n2 c2, v0 = .slice A1 n1 c1 ∧ v1 = .slice A2 n2 c2) :
    Calls Tryd.prog 28 #[.agg c] w fun e w' => e = .returned (.func (.func 39) #[] #[.pointer (some ⟨w.heap.size, 0, none⟩)]) ∧ w' = w.alloc (Obj.cells c 46) := by
  obtain ⟨A1, n1, c1, A2, n2, c2, rfl, rfl⟩ := hs
  subst hc
  go_enter Tryd.func28, Tryd.ntmps28
  go_wp2
  go_ret
  exact ⟨rfl, rfl⟩

theorem info9 : (Tryd.prog.info? 9).map (fun i => (i.zero, i.size, i.bytes)) = some (some (.string ⟨#[]⟩), 1, 16) := by kernel_rfl

theorem readsI_heap {w : World} {b : Nat} {xs : List Int} (h : w.heap[b]? = some (Obj.cells (xs.map (Value.int .i64)).toArray 3 (0, 0))) : ReadsI w (some ⟨b, 0, none⟩) xs.length xs :=
  ⟨rfl, fun _ => ⟨_, rfl, fun j hj => by
    have : (⟨b, 0, none⟩ : Addr).add j = ⟨b, 0 + j, none⟩ := by unfold Addr.add; split <;> simp_all
    rw [this, Lib.cell_of_heap h]
    simp [List.getElem?_eq_getElem hj, List.getD_eq_getElem?_getD]⟩⟩

set_option maxHeartbeats 2000000 in
set_option maxRecDepth 100000 in
theorem ways_ok (b1 b2 : Nat) (w : World) (h1 : w.heap[b1]? = some (Obj.cells #[.int .i64 0, .int .i64 2] 3 (0, 0))) (h2 : w.heap[b2]? = some (Obj.cells #[.int .i64 3] 3 (0, 0))) :
    Calls Tryd.prog 13 #[.agg #[.slice (some ⟨b1, 0, none⟩) 2 2, .slice (some ⟨b2, 0, none⟩) 1 1, .int .i64 0, .int .i64 0, .slice none 0 0]] w fun e w' => ∃ v, e = .returned (.tuple #[v, .int .i64 0]) ∧ w'.ownsRow w.heap.size 9 1 v 6 ((LW 2).map fun x => .string x.1) ∧ Below w.heap.size w w' := by
  have l1 := heap_lt h1
  have l2 := heap_lt h2
  have H1 := Lib.hid h1
  have H2 := Lib.hid h2
  clear h1 h2
  obtain ⟨i0, hi, hz0, hz1, hz2⟩ := info_parts info9
  refine (callsIn_wide (n := 6)).1 ?_
  refine callsIn_of_wp_marks Tryd.func13 rfl trivial ?_ rfl
  simp only [Tryd.ntmps13, List.size_toArray, List.length_cons, List.length_nil, Nat.reduceAdd, Nat.reduceSub, Array.replicate_succ, Array.replicate_zero, List.push_toArray, List.append_toArray, List.nil_append, List.cons_append]
  gi_wp2
  refine ⟨trivial, (callsIn_wide.2 (check_ok _ _ _ _ _ (show ReadsI _ _ 2 [0, 2] from (readsI_heap (xs := [0, 2]) H1.out).below (Nat.le_refl _) ((Below.refl _ _).alloc (Nat.le_refl _) _)) (show ReadsI _ _ 1 [3] from (readsI_heap (xs := [3]) H2.out).below (Nat.le_refl _) ((Below.refl _ _).alloc (Nat.le_refl _) _)))).mono ?_⟩
  rintro e w1 ⟨rfl, hb1⟩
  have hW1 : w1.heap[w.heap.size]? = some (Obj.cells #[.slice (some ⟨b1, 0, none⟩) 2 2, .slice (some ⟨b2, 0, none⟩) 1 1, .int .i64 0, .int .i64 0, .slice none 0 0] 46 (0, 0)) := (hb1.block _ (by simp)).trans (heap_alloc_new w _)
  have g0 : w1.cell? ⟨w.heap.size, 0, none⟩ = some (.slice (some ⟨b1, 0, none⟩) 2 2) := by rw [Lib.cell_of_heap hW1]; rfl
  have g1 : w1.cell? ⟨w.heap.size, 1, none⟩ = some (.slice (some ⟨b2, 0, none⟩) 1 1) := by rw [Lib.cell_of_heap hW1]; rfl
  have g2 : w1.cell? ⟨w.heap.size, 2, none⟩ = some (.int .i64 0) := by rw [Lib.cell_of_heap hW1]; rfl
  have g3 : w1.cell? ⟨w.heap.size, 3, none⟩ = some (.int .i64 0) := by rw [Lib.cell_of_heap hW1]; rfl
  have g4 : w1.cell? ⟨w.heap.size, 4, none⟩ = some (.slice none 0 0) := by rw [Lib.cell_of_heap hW1]; rfl
  have hlw : w.heap.size < w1.heap.size := heap_lt hW1
  have hbw1 : Below w.heap.size w w1 := ((Below.refl _ _).alloc (Nat.le_refl _) _).trans (hb1.mono (by simp))
  have h11 := (hbw1.block _ l1).trans H1.out
  have h21 := (hbw1.block _ l2).trans H2.out
  have HW1 := Lib.hid hW1
  have H11 := Lib.hid h11
  have H21 := Lib.hid h21
  clear hW1 h11 h21 hb1
  gi_wp2
  refine ⟨trivial, (callsIn_wide.2 (ways_made _ _ _ _ rfl ⟨_, _, _, _, _, _, rfl, rfl⟩)).mono ?_⟩
  rintro e w2 ⟨rfl, hw2⟩
  have HW2 := Lib.hid hw2
  clear hw2 g0 g1 g2 g3 g4
  gi_wp2
  have hs2 : w2.heap.size = w1.heap.size + 1 + 1 := by rw [HW2.out]; simp
  have hB2 : Below w.heap.size w w2 := by rw [HW2.out]; exact (hbw1.alloc (by omega) _).alloc (by simp; omega) _
  have hBO : Boxed w2 w1.heap.size 39 (.slice none 0 0) := by rw [HW2.out]; exact (Boxed.new w1 39 _).alloc _
  have hBW : w2.heap[w1.heap.size + 1]? = some (Obj.cells #[.slice (some ⟨b1, 0, none⟩) 2 2, .slice (some ⟨b2, 0, none⟩) 1 1, .int .i64 0, .int .i64 0, .slice none 0 0] 46 (0, 0)) := by
    rw [HW2.out]
    have := heap_alloc_new (w1.alloc (Obj.cells #[Value.slice none 0 0] 39)) (Obj.cells #[.slice (some ⟨b1, 0, none⟩) 2 2, .slice (some ⟨b2, 0, none⟩) 1 1, .int .i64 0, .int .i64 0, .slice none 0 0] 46)
    rw [World.size_alloc] at this
    exact this
  have hFix : Fix (w1.heap.size + 1) b1 b2 w2 := ⟨hBW, (hB2.block _ l1).trans H1.out, (hB2.block _ l2).trans H2.out⟩
  refine wpIn_rangeFunc_all (N0 := w.heap.size) (by omega) (gf := 39) (lb := #[.pointer (some ⟨w1.heap.size + 1, 0, none⟩)]) rfl (enters_of Tryd.func39 (by kernel_rfl) rfl) (Names w1.heap.size w) (names_own _ _ _ (by omega)) (names_q _ _)
    ⟨⟨_, hBO, World.ownsRow_nil _ _ _ _, trivial⟩, hB2⟩ (by omega) ?seq ?round ?done
  case seq =>
    intro l J W hJ hY hb hj0
    exact ways1_in 5 (by omega) l (w1.heap.size + 1) b1 b2 w.heap.size J hJ hY W ⟨(hb.block _ (by omega)).trans hFix.1, (hb.block _ (by omega)).trans hFix.2.1, (hb.block _ (by omega)).trans hFix.2.2⟩ (by have := hb.size; omega) hj0
  case round =>
    rintro l pre x W K h6 ⟨⟨v, hv, hrow, _⟩, hbw⟩ hK
    obtain ⟨nm, lv, gg⟩ := x
    have HK := Lib.hid hK
    clear hK
    have HV := Lib.hid hv
    clear hv
    simp only [wayV]
    gi_wp2
    refine HK.out _ _ ((KeepsOthers.alloc _ _).from _) ⟨by simp, fun b c t f hb _ _ => by rw [Below.heap_alloc _ _ _ (heap_lt hb)]; exact hb⟩ ⟨⟨v, HV.out.alloc _, hrow.alloc _, trivial⟩, hbw.alloc hbw.size _⟩ ?_
    intro W2 hk2 hn2
    obtain ⟨⟨v2, hv2, hrow2, _⟩, hbw2⟩ := hn2
    have hx2 := hk2.2 _ _ _ _ (heap_alloc_new W (Obj.cells #[.string nm, .int .i64 lv, .int .i64 (-1), .int .i64 3, .int .i64 0, .slice none 0 0, .func (.func gg) #[] #[]] 73)) (by decide) (by decide)
    have hcx : W2.cell? ⟨W.heap.size, 0, none⟩ = some (.string nm) := by rw [Lib.cell_of_heap hx2]; rfl
    have hc2 := hv2.cell
    have hlx := heap_lt hx2
    clear hx2 hk2 hrow HK HV hbw
    have HV2 := Lib.hid hv2
    clear hv2
    gi_wp2_with (gi_at_builtin; refine wpListIn_append_own _ rfl _ _ 39 rfl w.heap.size 9 i0 (.string ⟨#[]⟩) 1 16 Tryd.underlying39 hi hz0 hz1 hz2 rfl (by decide) _ _ _ rfl (hrow2.alloc _) ⟨W2.heap.size, 0, none⟩ 1 1 [.string nm] rfl rfl (cell_one_new _ _ _) (by simp [Value.oneCell']) (by unfold maxLen; omega) (by omega) (by have := hbw2.size; simp; omega) ?_; intro v' w3 hown' hgrow _; obtain ⟨g', cap', rfl⟩ := ownsRow_succ hown'; obtain ⟨hv1, hvv2, hr2, hkk2, hbb2⟩ := HV2.out.appended (by decide) hrow2 hbw2.size (by omega) hown' hgrow; have hc1 := hv1.cell; have hf1 := hv1.frozen)
    refine ⟨hkk2.from _, ⟨?_, fun b c t f hb h9 h39 => ?_⟩, ⟨_, hvv2, by simpa using hr2, trivial⟩, hbw2.trans hbb2⟩
    · have := hgrow.size
      simp only [World.size_alloc] at this
      simp only [World.setCell, Array.size_modify]
      omega
    · have hlt := heap_lt hb
      have hne : b ≠ w1.heap.size := by
        rintro rfl
        have h1 := HV2.out
        unfold Boxed at h1
        rw [hb] at h1
        injection h1 with h1
        injection h1 with _ h1
        exact h39 h1
      have hno : some b ≠ v2.ownBlock := by
        intro e
        rcases hrow2.2 with ⟨rfl, _⟩ | ⟨g, cap, cur, rfl, _, hgb, _⟩
        · simp [Value.ownBlock] at e
        · obtain rfl : b = g := by simpa [Value.ownBlock] using e
          rw [hb] at hgb
          injection hgb with hgb
          injection hgb with _ hgb
          exact h9 hgb
      rw [Below.heap_setCell _ _ _ _ hne, hgrow.block b (by simp; omega) hno, Below.heap_alloc _ _ _ hlt]
      exact hb
  case done =>
    rintro D W hD ⟨⟨v, hv, hrow, _⟩, hbw⟩ hK
    have hc := hv.cell
    gi_wp2
    refine ⟨by simp, .inl ⟨_, _, rfl, run_takeDeferred hK, ?_⟩⟩
    exact ⟨_, results_tmp2 rfl _ _ _, v, rfl, ownsRow_putObj hrow _ hK rfl, hbw.trans (belowK_b (w := w) (Nat.le_refl _) W D _ _ (by omega) hK rfl rfl)⟩
end Go.Proofs.YtledkbgjjmdflaaDoor.Obs
