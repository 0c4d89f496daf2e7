/- awake: its contract: it returns true. -/
import Derived.Test.YtledkbgjjmdflaaDoorRange
import Derived.Test.YtledkbgjjmdflaaDoorDiffer
import Derived.Test.YtledkbgjjmdflaaDoorSmall
import Derived.Test.YtledkbgjjmdflaaDoorText
import Derived.StillTailTactics
namespace Go.Proofs.YtledkbgjjmdflaaDoor.Obs
open Go Go.RowKit Go.Proofs Go.Shelf Go.Sort

def l3 : List Beh := [([1, 2], 1, 0), ([1, 3], 1, 0), ([1], 4, 0)]
def l4 : List Beh := [([1], 1, 0), ([1], 2, 1), ([1], 2, 2), ([], 1, 0)]
def FI (d : Array Dif) : Array Dif := Sort.insertionSort (ltOf cfD) d 0 d.size
theorem difs3 : difs l3 3 = [(0, 1, 1, 1)] := by decide
def d4 : List Dif := [(0, 1, 3, 1), (0, 2, 3, 1), (1, 2, 4, 1), (0, 3, 2, 0), (1, 3, 2, 0), (2, 3, 2, 0)]
theorem difs4 : difs l4 4 = d4 := by decide
theorem fi4 : FI d4.toArray = #[(0, 1, 3, 1), (0, 2, 3, 1), (0, 3, 2, 0), (1, 2, 4, 1), (1, 3, 2, 0), (2, 3, 2, 0)] := by
  unfold FI Sort.insertionSort
  rw [Sort.insOuter, if_pos (by decide), Sort.insOuter, if_pos (by decide), Sort.insOuter, if_pos (by decide), Sort.insOuter, if_pos (by decide), Sort.insOuter, if_pos (by decide), Sort.insOuter, if_neg (by decide)]
  kernel_rfl
theorem fi3 : FI #[(0, 1, 1, 1)] = #[(0, 1, 1, 1)] := by
  unfold FI Sort.insertionSort
  rw [Sort.insOuter, if_neg (by decide)]

theorem insInner_size {α : Type} [Inhabited α] (lt : α → α → Bool) (a : Nat) : ∀ (j : Nat) (d : Array α), (Sort.insInner lt a j d).size = d.size
  | 0, _ => rfl
  | j + 1, d => by
    unfold Sort.insInner
    split
    · rw [insInner_size lt a j, Sort.size_swp]
    · rfl
theorem insOuter_size {α : Type} [Inhabited α] (lt : α → α → Bool) (a b : Nat) : ∀ (n i : Nat) (d : Array α), b - i = n → (Sort.insOuter lt a b i d).size = d.size
  | 0, i, d, h => by rw [Sort.insOuter, if_neg (by omega)]
  | n + 1, i, d, h => by
    rw [Sort.insOuter]
    split
    · rw [insOuter_size lt a b n (i + 1) _ (by omega), insInner_size]
    · rfl
theorem fi_size (d : Array Dif) : (FI d).size = d.size := insOuter_size _ _ _ _ _ _ rfl
theorem textE : textOf [1, -2] 2 2 = [49, 32, 45, 50, 32, 116, 114, 97, 112, 32, 50] := by kernel_rfl
theorem printed_with (e c : Int) (xs : List Int) (ty : TypeId) (w : World) :
    Calls Tryd.prog 14 #[.int .i64 e, .int .i64 c, .slice (some ⟨w.heap.size, 0, none⟩) xs.length xs.length] (w.alloc (.cells (xs.map (Value.int .i64)).toArray ty)) fun en w' =>
      en = .returned (.agg #[.string ⟨#[]⟩, .slice (some ⟨w.heap.size, 0, none⟩) xs.length xs.length, .int .i64 e, .int .i64 c]) ∧ Below w.heap.size w w' ∧ ReadsI w' (some ⟨w.heap.size, 0, none⟩) xs.length xs := by
  refine (printed_any _ _ _ _ _ _).mono ?_
  rintro en w' ⟨rfl, hb⟩
  refine ⟨rfl, ((Below.refl w.heap.size w).alloc (Nat.le_refl _) _).trans (hb.mono (by simp)), ReadsI.below ⟨rfl, fun hn => ⟨_, rfl, fun j hj => ?_⟩⟩ (Nat.le_refl _) hb⟩
  have : (⟨w.heap.size, 0, none⟩ : Addr).add j = ⟨w.heap.size, j, none⟩ := by simp [Addr.add]; exact fun h => h.symm
  rw [this, cell_new_at]
  simp [hj]
theorem printed_nil (e c : Int) (w : World) :
    Calls Tryd.prog 14 #[.int .i64 e, .int .i64 c, .slice none 0 0] w fun en w' =>
      en = .returned (.agg #[.string ⟨#[]⟩, .slice none 0 0, .int .i64 e, .int .i64 c]) ∧ Below w.heap.size w w' := printed_any _ _ _ _ _ _
theorem outR_new {w : World} {cs : Array Value} {ty : TypeId} {p c : Nat} {A : Option Addr} {x : Beh} (h0 : cs[p]? = some (.string ⟨#[]⟩)) (h1 : cs[p + 1]? = some (.slice A x.1.length c)) (h2 : cs[p + 2]? = some (.int .i64 x.2.1)) (h3 : cs[p + 3]? = some (.int .i64 x.2.2))
    (hc : x.1.length ≤ c) (hcm : c ≤ 140737488351232) (hr : ReadsI w A x.1.length x.1) : OutR (w.alloc (.cells cs ty)) w.heap.size p x :=
  ⟨_, A, c, by rw [cell_new_at, h0], by rw [cell_new_at, h1], hc, hcm, readsI_alloc hr _, by rw [cell_new_at, h2], by rw [cell_new_at, h3]⟩
theorem readsB {w w' : World} {A : Option Addr} {n : Nat} {xs : List Int} (h : ReadsI w A n xs) (hb : Below w.heap.size w w') : ReadsI w' A n xs := h.below (Nat.le_refl _) hb

set_option maxHeartbeats 2000000 in
set_option maxRecDepth 100000 in
theorem awake_ok (w : World) (hT : Tab w) : Calls Tryd.prog 6 #[] w (RetB (.bool true) w) := by
  go_enter Tryd.func6, Tryd.ntmps6
  go_wp2_with fail
  refine (ways_ok w.heap.size (w.heap.size + 1) _ ((Below.heap_alloc _ _ _ (by simp)).trans (heap_alloc_new w _)) (by have := heap_alloc_new (w.alloc (Obj.cells #[.int .i64 0, .int .i64 2] 3)) (Obj.cells #[.int .i64 3] 3); simpa using this)).mono ?_
  rintro e w1 ⟨v, rfl, hown, hb1'⟩
  have hb1 : Below w.heap.size w w1 := (((Below.refl w.heap.size w).alloc (Nat.le_refl _) _).alloc (by simp) _).trans (hb1'.mono (by simp; omega))
  obtain ⟨g, cap, rfl⟩ := ownsRow_succ (k := 5) hown
  have hc4 : w1.cell? ⟨g, 4, none⟩ = some (.string ⟨#[112, 97, 115, 115, 101, 100, 32, 50]⟩) := by rw [hown.cellAt 4 (by decide)]; rfl
  have hc5 : w1.cell? ⟨g, 5, none⟩ = some (.string ⟨#[109, 97, 99, 104, 105, 110, 101, 32, 50, 32, 51]⟩) := by rw [hown.cellAt 5 (by decide)]; rfl
  have HC4 := Lib.hid hc4
  have HC5 := Lib.hid hc5
  have HB1 := Lib.hid hb1
  clear hb1' hc4 hc5 hown hb1
  go_wp2_with fail
  refine (printed_with 1 0 [1, 2] _ _).mono ?_
  rintro e w2 ⟨rfl, hb2, hr2⟩
  have HB2 := Lib.hid hb2
  have HR2 := Lib.hid hr2
  clear hb2 hr2
  go_wp2_with fail
  refine (printed_with 1 0 [1, 3] _ _).mono ?_
  rintro e w3 ⟨rfl, hb3, hr3⟩
  have HB3 := Lib.hid hb3
  have HR3 := Lib.hid hr3
  clear hb3 hr3
  go_wp2_with fail
  refine (printed_with 4 0 [1] _ _).mono ?_
  rintro e w4 ⟨rfl, hb4, hr4⟩
  have HB4 := Lib.hid hb4
  have HR4 := Lib.hid hr4
  clear hb4 hr4
  go_wp2_with fail
  refine (differ_any FI 19 sorts_few fi_size _ 3 3 l3 _ ⟨rfl, fun _ => ⟨_, 0, rfl, fun j hj => ?_⟩⟩ (by decide) (by decide) (by decide) (by rw [difs3]; decide)).mono ?_
  · match j, hj with
    | 0, _ => exact outR_new (c := 2) rfl rfl rfl rfl (by decide) (by decide) (readsB (readsB HR2.out HB3.out) HB4.out)
    | 1, _ => exact outR_new (c := 2) rfl rfl rfl rfl (by decide) (by decide) (readsB HR3.out HB4.out)
    | 2, _ => exact outR_new (c := 1) rfl rfl rfl rfl (by decide) (by decide) HR4.out
  rintro e w5 ⟨v5, rfl, hb5, h5⟩
  have e3 : difs l3 l3.length = [(0, 1, 1, 1)] := difs3
  rw [e3] at h5
  rcases h5 with ⟨_, h⟩ | ⟨g5, cap5, rfl, _, _, hH5⟩
  · exact absurd h (by decide)
  have eF : FI [(0, 1, 1, 1)].toArray = #[(0, 1, 1, 1)] := fi3
  rw [eF] at hH5
  have a0 : w5.cell? ⟨g5, 0, none⟩ = some (.int .i64 0) := (hH5.cell (i := 0) (c := 0) (by decide) (by decide)).1
  have a1 : w5.cell? ⟨g5, 1, none⟩ = some (.int .i64 1) := (hH5.cell (i := 0) (c := 1) (by decide) (by decide)).1
  have a2 : w5.cell? ⟨g5, 2, none⟩ = some (.int .i64 1) := (hH5.cell (i := 0) (c := 2) (by decide) (by decide)).1
  have a3 : w5.cell? ⟨g5, 3, none⟩ = some (.int .i64 1) := (hH5.cell (i := 0) (c := 3) (by decide) (by decide)).1
  have hb5' : Below w4.heap.size w4 w5 := ((Below.refl w4.heap.size w4).alloc (Nat.le_refl _) _).trans (hb5.mono (by simp))
  have HB5 := Lib.hid hb5'
  have A5 := Lib.hid (And.intro a0 (And.intro a1 (And.intro a2 a3)))
  clear e3 eF hH5 a0 a1 a2 a3 hb5 hb5'
  go_wp2_with fail
  refine (printed_with 1 0 [1] _ _).mono ?_
  rintro e w6 ⟨rfl, hb6, hr6⟩
  have HB6 := Lib.hid hb6
  have HR6 := Lib.hid hr6
  clear hb6 hr6
  go_wp2_with fail
  refine (printed_with 2 1 [1] _ _).mono ?_
  rintro e w7 ⟨rfl, hb7, hr7⟩
  have HB7 := Lib.hid hb7
  have HR7 := Lib.hid hr7
  clear hb7 hr7
  go_wp2_with fail
  refine (printed_with 2 2 [1] _ _).mono ?_
  rintro e w8 ⟨rfl, hb8, hr8⟩
  have HB8 := Lib.hid hb8
  have HR8 := Lib.hid hr8
  clear hb8 hr8
  go_wp2_with fail
  refine (printed_nil 1 0 _).mono ?_
  rintro e w9 ⟨rfl, hb9⟩
  have HB9 := Lib.hid hb9
  clear hb9
  go_wp2_with fail
  refine (differ_any FI 19 sorts_few fi_size _ 4 4 l4 _ ⟨rfl, fun _ => ⟨_, 0, rfl, fun j hj => ?_⟩⟩ (by decide) (by decide) (by decide) (by rw [difs4]; decide)).mono ?_
  · match j, hj with
    | 0, _ => exact outR_new (c := 1) rfl rfl rfl rfl (by decide) (by decide) (readsB (readsB (readsB HR6.out HB7.out) HB8.out) HB9.out)
    | 1, _ => exact outR_new (c := 1) rfl rfl rfl rfl (by decide) (by decide) (readsB (readsB HR7.out HB8.out) HB9.out)
    | 2, _ => exact outR_new (c := 1) rfl rfl rfl rfl (by decide) (by decide) (readsB HR8.out HB9.out)
    | 3, _ => exact outR_new (c := 0) rfl rfl rfl rfl (by decide) (by decide) ⟨rfl, fun h => absurd h (by decide)⟩
  rintro e w10 ⟨v10, rfl, hb10, h10⟩
  have e4 : difs l4 l4.length = d4 := difs4
  rw [e4, show d4.length = 6 from rfl] at h10
  rcases h10 with ⟨_, h⟩ | ⟨g10, cap10, rfl, _, _, hH10⟩
  · exact absurd h (by decide)
  rw [fi4] at hH10
  have b0 : w10.cell? ⟨g10, 8, none⟩ = some (.int .i64 0) := (hH10.cell (i := 2) (c := 0) (by decide) (by decide)).1
  have b1 : w10.cell? ⟨g10, 9, none⟩ = some (.int .i64 3) := (hH10.cell (i := 2) (c := 1) (by decide) (by decide)).1
  have b2 : w10.cell? ⟨g10, 10, none⟩ = some (.int .i64 2) := (hH10.cell (i := 2) (c := 2) (by decide) (by decide)).1
  have b3 : w10.cell? ⟨g10, 11, none⟩ = some (.int .i64 0) := (hH10.cell (i := 2) (c := 3) (by decide) (by decide)).1
  have b4 : w10.cell? ⟨g10, 12, none⟩ = some (.int .i64 1) := (hH10.cell (i := 3) (c := 0) (by decide) (by decide)).1
  have b5 : w10.cell? ⟨g10, 13, none⟩ = some (.int .i64 2) := (hH10.cell (i := 3) (c := 1) (by decide) (by decide)).1
  have b6 : w10.cell? ⟨g10, 14, none⟩ = some (.int .i64 4) := (hH10.cell (i := 3) (c := 2) (by decide) (by decide)).1
  have b7 : w10.cell? ⟨g10, 15, none⟩ = some (.int .i64 1) := (hH10.cell (i := 3) (c := 3) (by decide) (by decide)).1
  have hb10' : Below w9.heap.size w9 w10 := ((Below.refl w9.heap.size w9).alloc (Nat.le_refl _) _).trans (hb10.mono (by simp))
  have t51 : Below w5.heap.size w5 w10 := ((((HB6.out).trans (HB7.out.mono HB6.out.size)).trans (HB8.out.mono (HB6.out.trans (HB7.out.mono HB6.out.size)).size)).trans (HB9.out.mono ((HB6.out.trans (HB7.out.mono HB6.out.size)).trans (HB8.out.mono (HB6.out.trans (HB7.out.mono HB6.out.size)).size)).size)).trans (hb10'.mono (by have := HB6.out.size; have := HB7.out.size; have := HB8.out.size; have := HB9.out.size; omega))
  have t15 : Below w1.heap.size w1 w5 := ((HB2.out.trans (HB3.out.mono HB2.out.size)).trans (HB4.out.mono (HB2.out.trans (HB3.out.mono HB2.out.size)).size)).trans (HB5.out.mono (by have := HB2.out.size; have := HB3.out.size; have := HB4.out.size; omega))
  have t110 : Below w1.heap.size w1 w10 := t15.trans (t51.mono t15.size)
  have a0 := cellB t51 A5.out.1
  have a1 := cellB t51 A5.out.2.1
  have a2 := cellB t51 A5.out.2.2.1
  have a3 := cellB t51 A5.out.2.2.2
  have c4 := cellB t110 HC4.out
  have c5 := cellB t110 HC5.out
  have tw : Below w.heap.size w w10 := HB1.out.trans (t110.mono HB1.out.size)
  have TW := Lib.hid tw
  have hsw := tw.size
  clear hb10 hb10' t51 t15 t110 tw hH10 e4
  go_wp2_with fail
  obtain ⟨wq, hwq⟩ : ∃ W, W = ((w10.alloc (Obj.cells #[.int .i64 0, .int .i64 1, .int .i64 1, .int .i64 1] 30)).alloc (Obj.cells #[.int .i64 1, .int .i64 2, .int .i64 4, .int .i64 1] 30)).alloc (Obj.cells #[.int .i64 0, .int .i64 3, .int .i64 2, .int .i64 0] 30) := ⟨_, rfl⟩
  rw [← hwq]
  have hq : Below w10.heap.size w10 wq := by rw [hwq]; exact (((Below.refl w10.heap.size w10).alloc (Nat.le_refl _) _).alloc (by simp) _).alloc (by simp; omega) _
  have hx0 : wq.heap[w10.heap.size]? = some (Obj.cells #[.int .i64 0, .int .i64 1, .int .i64 1, .int .i64 1] 30 (0, 0)) := by
    rw [hwq]
    exact (Below.heap_alloc _ _ _ (by simp; omega)).trans ((Below.heap_alloc _ _ _ (by simp)).trans (heap_alloc_new w10 _))
  have hx1 : wq.heap[w10.heap.size + 1]? = some (Obj.cells #[.int .i64 1, .int .i64 2, .int .i64 4, .int .i64 1] 30 (0, 0)) := by
    rw [hwq]
    have h := heap_alloc_new (w10.alloc (Obj.cells #[.int .i64 0, .int .i64 1, .int .i64 1, .int .i64 1] 30)) (Obj.cells #[.int .i64 1, .int .i64 2, .int .i64 4, .int .i64 1] 30)
    rw [show (w10.alloc (Obj.cells #[.int .i64 0, .int .i64 1, .int .i64 1, .int .i64 1] 30)).heap.size = w10.heap.size + 1 by simp] at h
    exact (Below.heap_alloc _ _ _ (by simp)).trans h
  have hx2 : wq.heap[w10.heap.size + 1 + 1]? = some (Obj.cells #[.int .i64 0, .int .i64 3, .int .i64 2, .int .i64 0] 30 (0, 0)) := by
    rw [hwq]
    have h := heap_alloc_new ((w10.alloc (Obj.cells #[.int .i64 0, .int .i64 1, .int .i64 1, .int .i64 1] 30)).alloc (Obj.cells #[.int .i64 1, .int .i64 2, .int .i64 4, .int .i64 1] 30)) (Obj.cells #[.int .i64 0, .int .i64 3, .int .i64 2, .int .i64 0] 30)
    rw [show ((w10.alloc (Obj.cells #[.int .i64 0, .int .i64 1, .int .i64 1, .int .i64 1] 30)).alloc (Obj.cells #[.int .i64 1, .int .i64 2, .int .i64 4, .int .i64 1] 30)).heap.size = w10.heap.size + 1 + 1 by simp] at h
    exact h
  have x0 : wq.cell? ⟨w10.heap.size, 0, none⟩ = some (.int .i64 0) := by rw [Lib.cell_of_heap hx0]; rfl
  have x1 : wq.cell? ⟨w10.heap.size, 1, none⟩ = some (.int .i64 1) := by rw [Lib.cell_of_heap hx0]; rfl
  have x2 : wq.cell? ⟨w10.heap.size, 2, none⟩ = some (.int .i64 1) := by rw [Lib.cell_of_heap hx0]; rfl
  have x3 : wq.cell? ⟨w10.heap.size, 3, none⟩ = some (.int .i64 1) := by rw [Lib.cell_of_heap hx0]; rfl
  have y0 : wq.cell? ⟨w10.heap.size + 1, 0, none⟩ = some (.int .i64 1) := by rw [Lib.cell_of_heap hx1]; rfl
  have y1 : wq.cell? ⟨w10.heap.size + 1, 1, none⟩ = some (.int .i64 2) := by rw [Lib.cell_of_heap hx1]; rfl
  have y2 : wq.cell? ⟨w10.heap.size + 1, 2, none⟩ = some (.int .i64 4) := by rw [Lib.cell_of_heap hx1]; rfl
  have y3 : wq.cell? ⟨w10.heap.size + 1, 3, none⟩ = some (.int .i64 1) := by rw [Lib.cell_of_heap hx1]; rfl
  have z0 : wq.cell? ⟨w10.heap.size + 1 + 1, 0, none⟩ = some (.int .i64 0) := by rw [Lib.cell_of_heap hx2]; rfl
  have z1 : wq.cell? ⟨w10.heap.size + 1 + 1, 1, none⟩ = some (.int .i64 3) := by rw [Lib.cell_of_heap hx2]; rfl
  have z2 : wq.cell? ⟨w10.heap.size + 1 + 1, 2, none⟩ = some (.int .i64 2) := by rw [Lib.cell_of_heap hx2]; rfl
  have z3 : wq.cell? ⟨w10.heap.size + 1 + 1, 3, none⟩ = some (.int .i64 0) := by rw [Lib.cell_of_heap hx2]; rfl
  replace a0 := cellB hq a0
  replace a1 := cellB hq a1
  replace a2 := cellB hq a2
  replace a3 := cellB hq a3
  replace b0 := cellB hq b0
  replace b1 := cellB hq b1
  replace b2 := cellB hq b2
  replace b3 := cellB hq b3
  replace b4 := cellB hq b4
  replace b5 := cellB hq b5
  replace b6 := cellB hq b6
  replace b7 := cellB hq b7
  replace c4 := cellB hq c4
  replace c5 := cellB hq c5
  have hqw : Below w.heap.size w wq := TW.out.trans (hq.mono hsw)
  have HQW := Lib.hid hqw
  clear hwq hx0 hx1 hx2 hq hsw hqw A5
  refine wp_region_still_tail 32 (by kernel_rfl) (by kernel_rfl) ?_
  simp only [List.take_succ_cons, List.take_zero, List.drop_succ_cons, List.drop_zero]
  change wpStill _ _ wq.drew _ _ _
  repeat still_step
  refine wpStill_nil ?_
  change wpList _ _ _ _ _ wq.drew
  go_wp2_with fail
  refine (printed_with 2 2 [1, -2] 2 wq.drew).mono ?_
  rintro e w11 ⟨rfl, hb11, hr11⟩
  have hw11 : Below w.heap.size w w11 := (HQW.out.drew).trans (hb11.mono HQW.out.size)
  have h9 := text_usual _ _ 2 [1, -2] 2 2 w11 hr11 (by intro v hv; simp only [List.mem_cons, List.not_mem_nil, or_false] at hv; rcases hv with rfl | rfl <;> exact ⟨by decide, by decide⟩) ⟨by decide, by decide⟩ (by decide) (by decide) (tab_on hT hw11)
  rw [show textOf [1, -2] 2 2 = [49, 32, 45, 50, 32, 116, 114, 97, 112, 32, 50] from textE] at h9
  have H9 := Lib.hid h9
  have HW11 := Lib.hid hw11
  have hfd : ∀ (W : World) (s : Value), (Instr.field 36 (.agg #[.string ⟨#[]⟩, s, .int .i64 2, .int .i64 2]) 1).run Tryd.prog W = .ok (.agg #[s, .int .i64 2, .int .i64 2]) W := fun _ _ => by kernel_rfl
  clear hb11 hr11 hw11 h9
  go_wp2_with (go_at_call 9; refine H9.out.mono ?_; rintro e w12 ⟨rfl, hb12⟩; have HB12 := Lib.hid hb12; clear hb12)
  go_ret
  exact ⟨rfl, HW11.out.trans (HB12.out.mono HW11.out.size)⟩
end Go.Proofs.YtledkbgjjmdflaaDoor.Obs
