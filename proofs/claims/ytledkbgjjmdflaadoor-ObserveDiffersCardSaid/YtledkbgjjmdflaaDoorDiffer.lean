/- observe.Differ: its contract, for a sort that is given. -/
import Derived.Test.YtledkbgjjmdflaaDoorSort
import Derived.Test.YtledkbgjjmdflaaDoorAgree2
import Derived.Test.YtledkbgjjmdflaaDoorKind
import Derived.Maps.AppendAt
namespace Go.Proofs.YtledkbgjjmdflaaDoor.Obs
open Go Go.RowKit Go.Proofs Go.Shelf Go.Sort

abbrev Beh := List Int × Int × Int
def beh0 : Beh := ([], 0, 0)
/-- One outcome at place p of a block. -/
def OutR (w : World) (b p : Nat) (x : Beh) : Prop :=
  ∃ (s : ByteArray) (A : Option Addr) (c : Nat), w.cell? ⟨b, p, none⟩ = some (.string s) ∧ w.cell? ⟨b, p + 1, none⟩ = some (.slice A x.1.length c) ∧ x.1.length ≤ c ∧ c ≤ 140737488351232 ∧ ReadsI w A x.1.length x.1 ∧
    w.cell? ⟨b, p + 2, none⟩ = some (.int .i64 x.2.1) ∧ w.cell? ⟨b, p + 3, none⟩ = some (.int .i64 x.2.2)
/-- A slice of outcomes. -/
def OutsR (w : World) (A : Option Addr) (n : Nat) (l : List Beh) : Prop :=
  l.length = n ∧ (0 < n → ∃ b off, A = some ⟨b, off, none⟩ ∧ ∀ j, j < n → OutR w b (off + j * 4) (l.getD j beh0))
theorem OutR.below {w w' : World} {B b p : Nat} {x : Beh} (h : OutR w b p x) (hB : w.heap.size ≤ B) (hb : Below B w w') : OutR w' b p x := by
  obtain ⟨s, A, c, h0, h1, h2, h3, h4, h5, h6⟩ := h
  have k : ∀ q v, w.cell? ⟨b, q, none⟩ = some v → w'.cell? ⟨b, q, none⟩ = some v := fun q v hq => by
    have := World.block_lt_of_cell? w _ hq
    exact (hb.cell (p := ⟨b, q, none⟩) (by simp at this ⊢; omega)).trans hq
  exact ⟨s, A, c, k _ _ h0, k _ _ h1, h2, h3, h4.below hB hb, k _ _ h5, k _ _ h6⟩
theorem cellB {w w' : World} (hb : Below w.heap.size w w') {b p : Nat} {v : Value} (h : w.cell? ⟨b, p, none⟩ = some v) : w'.cell? ⟨b, p, none⟩ = some v := by
  have := World.block_lt_of_cell? w _ h
  exact (hb.cell (p := ⟨b, p, none⟩) (by simpa using this)).trans h
theorem OutsR.below {w w' : World} {B : Nat} {A : Option Addr} {n : Nat} {l : List Beh} (h : OutsR w A n l) (hB : w.heap.size ≤ B) (hb : Below B w w') : OutsR w' A n l :=
  ⟨h.1, fun hn => by
    obtain ⟨b, off, e, hc⟩ := h.2 hn
    exact ⟨b, off, e, fun j hj => (hc j hj).below hB hb⟩⟩

theorem ownsRow_below {w w' : World} {base : Nat} {e : TypeId} {size : Nat} {v : Value} {n : Nat} {xs : List Value} (h : w.ownsRow base e size v n xs) (hb : Below w.heap.size w w') : w'.ownsRow base e size v n xs :=
  h.kept (row := none) ⟨hb.os, hb.tape, hb.output, hb.size, fun k hk _ => hb.block k hk⟩ (by by_cases hv : v.ownBlock = none <;> simp [hv])

theorem grownBy_setCell (w : World) (b p : Nat) (u : Value) : w.grownBy (w.setCell ⟨b, p, none⟩ u) (some b) :=
  ⟨rfl, rfl, rfl, by simp [World.setCell], fun k _ hk => Below.heap_setCell _ _ _ _ (fun e => hk (by simp [e]))⟩
theorem ownsRow_setCell {w : World} {base : Nat} {e : TypeId} {size : Nat} {v : Value} {n : Nat} {xs : List Value} (h : w.ownsRow base e size v n xs) {b : Nat} (hne : v.ownBlock ≠ some b) (p : Nat) (u : Value) : (w.setCell ⟨b, p, none⟩ u).ownsRow base e size v n xs :=
  h.kept (grownBy_setCell w b p u) (.inr hne)
theorem own_ne {w : World} {base : Nat} {v : Value} {n : Nat} {xs : List Value} (h : w.ownsRow base 30 4 v n xs) {k : Nat} {cs : Array Value} (hk : w.heap[k]? = some (.cells cs 36 (0, 0))) : v.ownBlock ≠ some k := by
  rcases h.2 with ⟨rfl, _⟩ | ⟨g, cap, cur, rfl, _, hg, _⟩
  · simp [Value.ownBlock]
  · intro e
    simp only [Value.ownBlock, Option.some.injEq] at e
    rw [e, hk] at hg
    simp at hg
theorem cells_new_at (w : World) (cs : List Value) (t : TypeId) (b : Nat) (hb : b = w.heap.size) : ∀ j u, cs[j]? = some u → (w.alloc (.cells cs.toArray t)).cell? ((⟨b, 0, none⟩ : Addr).add j) = some u := by
  intro j u hj
  subst hb
  have : (⟨w.heap.size, 0, none⟩ : Addr).add j = ⟨w.heap.size, j, none⟩ := by simp [Addr.add]; exact fun h => h.symm
  rw [this, Lib.cell_of_heap (heap_alloc_new w _)]
  simpa using hj
theorem own_snoc {w : World} {base : Nat} {v : Value} {n m : Nat} {ds rs qs : List Dif} {k i a b : Int} (h : w.ownsRow base 30 4 v n ((ds ++ rs).flatMap encD ++ [.int .i64 k, .int .i64 i, .int .i64 a, .int .i64 b])) (hq : qs = rs ++ [(k, i, a, b)]) (hm : m = (ds ++ qs).length) (hn : n = (ds ++ rs).length + 1) :
    w.ownsRow base 30 4 v m ((ds ++ qs).flatMap encD) := by
  subst hq hn hm
  have e1 : (ds ++ (rs ++ [(k, i, a, b)])).length = (ds ++ rs).length + 1 := by simp; omega
  have e2 : (ds ++ (rs ++ [(k, i, a, b)])).flatMap encD = (ds ++ rs).flatMap encD ++ [.int .i64 k, .int .i64 i, .int .i64 a, .int .i64 b] := by simp [encD]
  rw [e1, e2]
  exact h

theorem flat_get (ds : List Dif) : ∀ j, j < ds.length * 4 → (ds.flatMap encD)[j]? = some ((encD (ds.toArray[j / 4]!))[j % 4]!) := by
  induction ds with
  | nil => intro j hj; simp at hj
  | cons d ds ih =>
    intro j hj
    rw [List.flatMap_cons]
    by_cases h4 : j < 4
    · rw [List.getElem?_append_left (by simpa [encD] using h4)]
      have e : j / 4 = 0 := by omega
      have e2 : j % 4 = j := by omega
      rw [e, e2]
      match j, h4 with
      | 0, _ => rfl
      | 1, _ => rfl
      | 2, _ => rfl
      | 3, _ => rfl
    · rw [List.getElem?_append_right (by simp [encD]; omega)]
      have hl : j - (encD d).length = j - 4 := rfl
      rw [hl, ih (j - 4) (by simp at hj; omega)]
      have e : j / 4 = (j - 4) / 4 + 1 := by omega
      have e2 : j % 4 = (j - 4) % 4 := by omega
      rw [e, e2]
      simp
theorem holdsK_own {w : World} {base g cap : Nat} {ds : List Dif} (h : w.ownsRow base 30 4 (.slice (some ⟨g, 0, none⟩) ds.length cap) ds.length (ds.flatMap encD)) : HoldsK encD 4 w g 0 ds.toArray := by
  intro j hj
  rw [size_flatK] at hj
  have hj' : j < ds.length * 4 := by simpa using hj
  rw [get_flatK _ _ _ _ hj, Nat.zero_add]
  exact ⟨by rw [h.cellAt j hj', flat_get ds j hj']; rfl, h.frozenAt j⟩
theorem below_sortWorldK {w : World} {B g n : Nat} (d : Array Dif) (os : Array Obj) (hg : B ≤ g) (hl : g < w.heap.size) : Below B w (sortWorldK encD 4 w g 0 n d os) := by
  refine ⟨rfl, rfl, rfl, ?_, ?_⟩
  · simp [sortWorldK, grow, putRowK, putRow, mapBlock, Sort.ahead]
  · intro k hk
    simp only [sortWorldK, grow, putRowK, putRow, mapBlock, Sort.ahead]
    rw [Array.getElem?_append_left (by simp; omega), Array.getElem?_modify, if_neg (by omega)]

/-- How outcomes k and i differ, if they do. -/
def difOf (l : List Beh) (k i : Nat) : Option Dif :=
  let a := l.getD k beh0
  let b := l.getD i beh0
  if b.2.1 ≠ 3 ∧ a.2.1 ≠ 3 ∧ agreeB a.1 a.2.1 a.2.2 b.1 b.2.1 b.2.2 = false then some (k, i, kindOf a.1 a.2.1 b.1 b.2.1) else none
def difsRow (l : List Beh) (i m : Nat) : List Dif := (List.range m).filterMap fun k => difOf l k i
def difs (l : List Beh) (m : Nat) : List Dif := (List.range m).flatMap fun i => difsRow l i i
theorem difsRow_succ (l : List Beh) (i m : Nat) : difsRow l i (m + 1) = difsRow l i m ++ (difOf l m i).toList := by
  unfold difsRow
  rw [List.range_succ, List.filterMap_append]
  cases h : difOf l m i <;> simp [h]
theorem difs_succ (l : List Beh) (m : Nat) : difs l (m + 1) = difs l m ++ difsRow l m m := by
  unfold difs
  rw [List.range_succ, List.flatMap_append]
  simp
theorem difsRow_le (l : List Beh) (i m : Nat) : (difsRow l i m).length ≤ m := by
  have := List.length_filterMap_le (fun k => difOf l k i) (List.range m)
  simpa [difsRow] using this
theorem difs_le (l : List Beh) (m : Nat) : (difs l m).length ≤ m * m := by
  induction m with
  | zero => simp [difs]
  | succ m ih =>
    rw [difs_succ, List.length_append]
    have := difsRow_le l m m
    have : (m + 1) * (m + 1) = m * m + m + m + 1 := by rw [Nat.add_mul, Nat.mul_add]; omega
    omega

theorem info30 : (Tryd.prog.info? 30).map (fun i => (i.zero, i.size, i.bytes)) = some (some (.agg #[.int .i64 0, .int .i64 0, .int .i64 0, .int .i64 0]), 4, 32) := by kernel_rfl

/-- What has been collected. -/
def Coll (w0 : World) (v : Value) (ds : List Dif) (w : World) : Prop := w.ownsRow w0.heap.size 30 4 v ds.length (ds.flatMap encD) ∧ Below w0.heap.size w0 w

/-- What Differ returns. -/
def DifRes (F : Array Dif → Array Dif) (l : List Beh) (w : World) (e : Ending) (w' : World) : Prop :=
  ∃ v, e = .returned (.tuple #[v, .int .i64 0]) ∧ Below w.heap.size w w' ∧
    ((v = .slice none 0 0 ∧ difs l l.length = []) ∨ ∃ g cap, v = .slice (some ⟨g, 0, none⟩) (difs l l.length).length cap ∧ w.heap.size ≤ g ∧ g < w'.heap.size ∧ HoldsK encD 4 w' g 0 (F (difs l l.length).toArray))

set_option maxHeartbeats 4000000 in
set_option maxRecDepth 100000 in
theorem differ_any (F : Array Dif → Array Dif) (M : Nat) (hF : SortsTo F M) (hFs : ∀ d : Array Dif, (F d).size = d.size) (A : Option Addr) (n c : Nat) (l : List Beh) (w : World) (hl : OutsR w A n l) (hn : n ≤ 100) (hc : n ≤ c) (hcm : c ≤ 140737488351232) (hM : (difs l n).length ≤ M) :
    Calls Tryd.prog 7 #[.slice A n c] w (DifRes F l w) := by
  have HL := Lib.hid hl.1
  obtain ⟨i0, hi, hz0, hz1, hz2⟩ := info_parts info30
  have hlen : decide ((100 : Int) < (n : Int)) = false := by simp; omega
  go_enter Tryd.func7, Tryd.ntmps7
  go_wp2
  go_loopw [4, 15] (fun v i wr => ∃ k : Nat, k ≤ n ∧ i = .int .i64 k ∧ Coll w v (difs l k) wr) (fun _ i _ => n - (intOf i).toNat)
  case atStart => exact ⟨0, Nat.zero_le _, rfl, ⟨by simp [difs], .inl ⟨rfl, rfl⟩⟩, Below.refl _ _⟩
  case round =>
    obtain ⟨wo, rfl⟩ : ∃ wo : World, wo = wr := ⟨_, rfl⟩
    obtain ⟨i, hi1, rfl, hC⟩ := hrel
    have HC := Lib.hid hC
    have hbo := hC.2
    clear hC
    have hso := hbo.size
    by_cases hlt : i < n
    · obtain ⟨b, off, rfl, hcs⟩ := hl.2 (by omega)
      obtain ⟨sx, Ax, cx, x0, x1, lx, lx2, rx, x2, x3⟩ := hcs i hlt
      have blt0 : b < w.heap.size := by have := World.block_lt_of_cell? w _ x0; simpa using this
      replace x0 := cellB hbo x0
      replace x1 := cellB hbo x1
      replace x2 := cellB hbo x2
      replace x3 := cellB hbo x3
      have i0' : (0 : Int) ≤ (i : Int) := Int.natCast_nonneg _
      have i1' : (i : Int) < (n : Int) := by omega
      have i2' : (i : Int) ≤ (c : Int) := by omega
      obtain ⟨X, hX⟩ : ∃ X, X = l.getD i beh0 := ⟨_, rfl⟩
      rw [← hX] at x1 x2 x3 lx rx
      have HXX := Lib.hid hX
      have HCS := Lib.hid hcs
      clear hX hcs
      go_wp2
      go_loopw [4, 24] (fun v kk wr => ∃ k : Nat, k ≤ i ∧ kk = .int .i64 k ∧ Coll w v (difs l i ++ difsRow l i k) wr ∧ Hid (wr.heap[wo.heap.size]? = some (Obj.cells #[.string sx, .slice Ax X.1.length cx, .int .i64 X.2.1, .int .i64 X.2.2] 36 (0, 0)))) (fun _ kk _ => i - (intOf kk).toNat)
      case atStart => exact ⟨0, Nat.zero_le _, rfl, ⟨by simpa [difsRow] using HC.out.1.alloc _, hbo.alloc hso _⟩, heap_alloc_new wo _⟩
      case round =>
        clear x0 x1 x2 x3
        obtain ⟨k, hk1, rfl, hC2, HXB⟩ := hrel
        have hbr := hC2.2
        have HC2 := Lib.hid hC2
        clear hC2
        have hsr := hbr.size
        have x0 : wr.cell? ⟨wo.heap.size, 0, none⟩ = some (.string sx) := by rw [Lib.cell_of_heap HXB.out]; rfl
        have x1 : wr.cell? ⟨wo.heap.size, 1, none⟩ = some (.slice Ax X.1.length cx) := by rw [Lib.cell_of_heap HXB.out]; rfl
        have x2 : wr.cell? ⟨wo.heap.size, 2, none⟩ = some (.int .i64 X.2.1) := by rw [Lib.cell_of_heap HXB.out]; rfl
        have x3 : wr.cell? ⟨wo.heap.size, 3, none⟩ = some (.int .i64 X.2.2) := by rw [Lib.cell_of_heap HXB.out]; rfl
        have xlt : wo.heap.size < wr.heap.size := (Array.getElem?_eq_some_iff.1 HXB.out).1
        by_cases hlt2 : k < i
        · obtain ⟨sy, Ay, cy, y0, y1, ly, ly2, ry, y2, y3⟩ := HCS.out k (by omega)
          replace y0 := cellB hbr y0
          replace y1 := cellB hbr y1
          replace y2 := cellB hbr y2
          replace y3 := cellB hbr y3
          have blt : b < wr.heap.size := by omega
          have k0' : (0 : Int) ≤ (k : Int) := Int.natCast_nonneg _
          have k1' : (k : Int) < (i : Int) := by omega
          have k2' : (k : Int) < (n : Int) := by omega
          obtain ⟨Y, hY⟩ : ∃ Y, Y = l.getD k beh0 := ⟨_, rfl⟩
          rw [← hY] at y1 y2 y3 ly ry
          have HYY := Lib.hid hY
          clear hY
          by_cases hx3 : X.2.1 = 3
          · have hb1 : (X.2.1 != 3) = false := by simp [hx3]
            have hd : difOf l k i = none := by
              unfold difOf
              rw [if_neg (by rw [← HXX.out]; exact fun h => h.1 hx3)]
            have HD := Lib.hid hd
            clear hd hx3
            go_wp2
            go_roundw
            case rel => exact ⟨k + 1, by omega, by go_num, ⟨by rw [difsRow_succ, HD.out]; simpa using HC2.out.1.alloc _, hbr.alloc hsr _⟩, (Below.heap_alloc _ _ _ xlt).trans HXB.out⟩
            case measure => simp [intOf]; omega
          · have hb1 : (X.2.1 != 3) = true := by simpa using hx3
            by_cases hy3 : Y.2.1 = 3
            · have hb2 : (Y.2.1 != 3) = false := by simp [hy3]
              have hd : difOf l k i = none := by
                unfold difOf
                rw [if_neg (by rw [← HYY.out]; exact fun h => h.2.1 hy3)]
              have HD := Lib.hid hd
              clear hd hy3 hx3
              go_wp2
              go_roundw
              case rel => exact ⟨k + 1, by omega, by go_num, ⟨by rw [difsRow_succ, HD.out]; simpa using HC2.out.1.alloc _, hbr.alloc hsr _⟩, (Below.heap_alloc _ _ _ xlt).trans HXB.out⟩
              case measure => simp [intOf]; omega
            · have hb2 : (Y.2.1 != 3) = true := by simpa using hy3
              have K15 : Hid (∀ W, Below w.heap.size w W → Calls Tryd.prog 15 #[.agg #[.slice Ay Y.1.length cy, .int .i64 Y.2.1, .int .i64 Y.2.2], .agg #[.slice Ax X.1.length cx, .int .i64 X.2.1, .int .i64 X.2.2]] W (RetB (.bool (agreeB Y.1 Y.2.1 Y.2.2 X.1 X.2.1 X.2.2)) W)) :=
                fun W hb => agree_any Ay Ax _ _ cy cx Y.1 X.1 _ _ _ _ W (ry.below (Nat.le_refl _) hb) (rx.below (Nat.le_refl _) hb) ly ly2 lx lx2
              have K16 : Hid (∀ W, Below w.heap.size w W → Calls Tryd.prog 16 #[.agg #[.slice Ay Y.1.length cy, .int .i64 Y.2.1, .int .i64 Y.2.2], .agg #[.slice Ax X.1.length cx, .int .i64 X.2.1, .int .i64 X.2.2]] W (Ret2 (kindOf Y.1 Y.2.1 X.1 X.2.1) W)) :=
                fun W hb => kind_any Ay Ax _ _ cy cx Y.1 X.1 _ _ _ _ W (ry.below (Nat.le_refl _) hb) (rx.below (Nat.le_refl _) hb) (by omega) (by omega)
              obtain ⟨wy, hwy⟩ : ∃ wy, wy = wr.alloc (Obj.cells #[.string sy, .slice Ay Y.1.length cy, .int .i64 Y.2.1, .int .i64 Y.2.2] 36) := ⟨_, rfl⟩
              have hby : Below w.heap.size w wy := by rw [hwy]; exact hbr.alloc hsr _
              have HWY := Lib.hid hwy
              have hyx : wy.heap[wo.heap.size]? = some (Obj.cells #[.string sx, .slice Ax X.1.length cx, .int .i64 X.2.1, .int .i64 X.2.2] 36 (0, 0)) := by rw [hwy]; exact (Below.heap_alloc _ _ _ xlt).trans HXB.out
              have hyy : wy.heap[wr.heap.size]? = some (Obj.cells #[.string sy, .slice Ay Y.1.length cy, .int .i64 Y.2.1, .int .i64 Y.2.2] 36 (0, 0)) := by rw [hwy]; exact heap_alloc_new wr _
              have hyc : wy.ownsRow w.heap.size 30 4 u4 (difs l i ++ difsRow l i k).length ((difs l i ++ difsRow l i k).flatMap encD) := by rw [hwy]; exact HC2.out.1.alloc _
              have HYX := Lib.hid hyx
              have HYY2 := Lib.hid hyy
              have HYC := Lib.hid hyc
              clear hwy hyx hyy hyc ry rx
              obtain ⟨r, hr⟩ : ∃ r, r = agreeB Y.1 Y.2.1 Y.2.2 X.1 X.2.1 X.2.2 := ⟨_, rfl⟩
              rw [← hr] at K15
              have HR := Lib.hid hr
              clear hr
              go_wp2_with fail
              rw [← HWY.out]
              refine (K15.out _ hby).mono ?_
              rintro e w2 ⟨rfl, hb2'⟩
              have hlx : wo.heap.size < wy.heap.size := (Array.getElem?_eq_some_iff.1 HYX.out).1
              have hly : wr.heap.size < wy.heap.size := (Array.getElem?_eq_some_iff.1 HYY2.out).1
              have hw2x : w2.heap[wo.heap.size]? = some (Obj.cells #[.string sx, .slice Ax X.1.length cx, .int .i64 X.2.1, .int .i64 X.2.2] 36 (0, 0)) := (hb2'.block _ hlx).trans HYX.out
              have hw2y : w2.heap[wr.heap.size]? = some (Obj.cells #[.string sy, .slice Ay Y.1.length cy, .int .i64 Y.2.1, .int .i64 Y.2.2] 36 (0, 0)) := (hb2'.block _ hly).trans HYY2.out
              have hw2c : w2.ownsRow w.heap.size 30 4 u4 (difs l i ++ difsRow l i k).length ((difs l i ++ difsRow l i k).flatMap encD) := ownsRow_below HYC.out hb2'
              have hb2 : Below w.heap.size w w2 := hby.trans (hb2'.mono hby.size)
              have HC4 := Lib.hid hw2c
              have HX2 := Lib.hid hw2x
              have HYB := Lib.hid hw2y
              have hl2 : wo.heap.size < w2.heap.size := (Array.getElem?_eq_some_iff.1 hw2x).1
              have hl3 : wr.heap.size < w2.heap.size := (Array.getElem?_eq_some_iff.1 hw2y).1
              clear x0 x1 x2 x3 y0 y1 y2 y3 hw2x hw2y hw2c
              cases r
              · have hd : difOf l k i = some ((k : Int), (i : Int), kindOf Y.1 Y.2.1 X.1 X.2.1) := by
                  unfold difOf
                  rw [← HXX.out, ← HYY.out]
                  exact if_pos ⟨hx3, hy3, HR.out.symm⟩
                have HD := Lib.hid hd
                have x0 : w2.cell? ⟨wo.heap.size, 0, none⟩ = some (.string sx) := by rw [Lib.cell_of_heap HX2.out]; rfl
                have x1 : w2.cell? ⟨wo.heap.size, 1, none⟩ = some (.slice Ax X.1.length cx) := by rw [Lib.cell_of_heap HX2.out]; rfl
                have x2 : w2.cell? ⟨wo.heap.size, 2, none⟩ = some (.int .i64 X.2.1) := by rw [Lib.cell_of_heap HX2.out]; rfl
                have x3 : w2.cell? ⟨wo.heap.size, 3, none⟩ = some (.int .i64 X.2.2) := by rw [Lib.cell_of_heap HX2.out]; rfl
                have y0 : w2.cell? ⟨wr.heap.size, 0, none⟩ = some (.string sy) := by rw [Lib.cell_of_heap HYB.out]; rfl
                have y1 : w2.cell? ⟨wr.heap.size, 1, none⟩ = some (.slice Ay Y.1.length cy) := by rw [Lib.cell_of_heap HYB.out]; rfl
                have y2 : w2.cell? ⟨wr.heap.size, 2, none⟩ = some (.int .i64 Y.2.1) := by rw [Lib.cell_of_heap HYB.out]; rfl
                have y3 : w2.cell? ⟨wr.heap.size, 3, none⟩ = some (.int .i64 Y.2.2) := by rw [Lib.cell_of_heap HYB.out]; rfl
                clear hd HR
                obtain ⟨p, hp⟩ : ∃ p, p = kindOf Y.1 Y.2.1 X.1 X.2.1 := ⟨_, rfl⟩
                rw [← hp] at K16 HD
                clear hp
                go_wp2_with fail
                obtain ⟨w2a, hw2a⟩ : ∃ W, W = w2.alloc (Obj.cells #[.int .i64 (k : Int), .int .i64 (i : Int), .int .i64 0, .int .i64 0] 30) := ⟨_, rfl⟩
                rw [← hw2a]
                have hb2a : Below w.heap.size w w2a := by rw [hw2a]; exact hb2.alloc hb2.size _
                refine (K16.out _ hb2a).mono ?_
                rintro e w3 ⟨rfl, hb3'⟩
                have hda : w2a.heap[w2.heap.size]? = some (Obj.cells #[.int .i64 (k : Int), .int .i64 (i : Int), .int .i64 0, .int .i64 0] 30 (0, 0)) := by rw [hw2a]; exact heap_alloc_new w2 _
                have hdl := (Array.getElem?_eq_some_iff.1 hda).1
                have hd3 : w3.heap[w2.heap.size]? = some (Obj.cells #[.int .i64 (k : Int), .int .i64 (i : Int), .int .i64 0, .int .i64 0] 30 (0, 0)) := (hb3'.block _ hdl).trans hda
                have hxa : w2a.heap[wo.heap.size]? = some (Obj.cells #[.string sx, .slice Ax X.1.length cx, .int .i64 X.2.1, .int .i64 X.2.2] 36 (0, 0)) := by rw [hw2a]; exact (Below.heap_alloc _ _ _ hl2).trans HX2.out
                have hxl := (Array.getElem?_eq_some_iff.1 hxa).1
                have hx3' := (hb3'.block _ hxl).trans hxa
                have hca : w2a.ownsRow w.heap.size 30 4 u4 (difs l i ++ difsRow l i k).length ((difs l i ++ difsRow l i k).flatMap encD) := by rw [hw2a]; exact HC4.out.alloc _
                have hc3 := ownsRow_below hca hb3'
                have hne : ∀ q, u4.ownBlock = some q → q ≠ w2.heap.size := fun q hq => by have := (HC4.out.lt q hq).2; omega
                have hbB : w.heap.size ≤ w2.heap.size := hb2.size
                have hxB : wo.heap.size ≠ w2.heap.size := by omega
                have hb3 : Below w.heap.size w w3 := hb2a.trans (hb3'.mono hb2a.size)
                have HD3 := Lib.hid hd3
                have HX3 := Lib.hid hx3'
                have HC3 := Lib.hid hc3
                have d0 : w3.cell? ⟨w2.heap.size, 0, none⟩ = some (.int .i64 (k : Int)) := by rw [Lib.cell_of_heap HD3.out]; rfl
                have d1 : w3.cell? ⟨w2.heap.size, 1, none⟩ = some (.int .i64 (i : Int)) := by rw [Lib.cell_of_heap HD3.out]; rfl
                have d2 : w3.cell? ⟨w2.heap.size, 2, none⟩ = some (.int .i64 0) := by rw [Lib.cell_of_heap HD3.out]; rfl
                have d3 : w3.cell? ⟨w2.heap.size, 3, none⟩ = some (.int .i64 0) := by rw [Lib.cell_of_heap HD3.out]; rfl
                have f2 : w3.frozen? ⟨w2.heap.size, 2, none⟩ = false := by simp [World.frozen?, HD3.out]
                have f3 : w3.frozen? ⟨w2.heap.size, 3, none⟩ = false := by simp [World.frozen?, HD3.out]
                clear hd3 hx3' hc3 hda hxa hca hw2a HX2 HYB HC4 x0 x1 x2 x3 y0 y1 y2 y3
                have hlb : (difs l i ++ difsRow l i k).length ≤ 20000 := by
                  have h1 := difs_le l i
                  have h2 := difsRow_le l i k
                  have h3 : i * i ≤ 100 * 100 := Nat.mul_le_mul (by omega) (by omega)
                  rw [List.length_append]
                  omega
                have hne' : u4.ownBlock ≠ some w2.heap.size := fun e => hne _ e rfl
                have hne3 := own_ne HC3.out HX3.out
                have hrow4 := ownsRow_setCell (ownsRow_setCell HC3.out hne' 2 (.int .i64 p.1)) hne' 3 (.int .i64 p.2)
                have hb4 := (hb3.setCell (p := ⟨w2.heap.size, 2, none⟩) hbB (.int .i64 p.1)).setCell (p := ⟨w2.heap.size, 3, none⟩) hbB (.int .i64 p.2)
                have hx4 : ((w3.setCell ⟨w2.heap.size, 2, none⟩ (.int .i64 p.1)).setCell ⟨w2.heap.size, 3, none⟩ (.int .i64 p.2)).heap[wo.heap.size]? = some (Obj.cells #[.string sx, .slice Ax X.1.length cx, .int .i64 X.2.1, .int .i64 X.2.2] 36 (0, 0)) := by
                  rw [Below.heap_setCell _ _ _ _ hxB, Below.heap_setCell _ _ _ _ hxB]
                  exact HX3.out
                have hx4l := (Array.getElem?_eq_some_iff.1 hx4).1
                have HR4 := Lib.hid hrow4
                have HB4 := Lib.hid hb4
                have HX4 := Lib.hid hx4
                clear hrow4 hb4 hx4
                go_wp2_with (at_builtin; refine wpList_append_own _ rfl _ _ 25 rfl w.heap.size 30 i0 (.agg #[.int .i64 0, .int .i64 0, .int .i64 0, .int .i64 0]) 4 32 Tryd.underlying25 hi hz0 hz1 hz2 rfl (by decide) _ _ _ rfl (HR4.out.alloc _) ⟨_, 0, none⟩ 1 1 [.int .i64 (k : Int), .int .i64 (i : Int), .int .i64 p.1, .int .i64 p.2] rfl rfl (cells_new_at _ _ _ _ (by simp [World.setCell])) (by intro u hu; simp only [List.mem_cons, List.not_mem_nil, or_false] at hu; rcases hu with rfl | rfl | rfl | rfl <;> rfl) (by unfold maxLen; omega) (by omega) (by have := HB4.out.size; simp at this ⊢; omega) ?_; intro v' w5 hown' hgrow _; have HO5 := Lib.hid hown'; have HG5 := Lib.hid hgrow; clear hown' hgrow)
                go_roundw
                case rel => exact ⟨k + 1, by omega, by go_num, ⟨own_snoc HO5.out (by rw [difsRow_succ, HD.out]; rfl) rfl rfl, (HB4.out.alloc HB4.out.size _).grown HG5.out (by have := HB4.out.size; simp at this ⊢; omega) (fun q hq => (HR4.out.lt q hq).1)⟩, (HG5.out.block _ (by simp at hx4l ⊢; omega) (fun e => hne3 e.symm)).trans ((Below.heap_alloc _ _ _ hx4l).trans HX4.out)⟩
                case measure => simp [intOf]; omega
              · have hd : difOf l k i = none := by
                  unfold difOf
                  rw [← HXX.out, ← HYY.out]
                  exact if_neg fun h => by rw [← HR.out] at h; exact absurd h.2.2 (by decide)
                have HD := Lib.hid hd
                clear hd HR
                go_wp2
                go_roundw
                case rel => exact ⟨k + 1, by omega, by go_num, ⟨by rw [difsRow_succ, HD.out]; simpa using HC4.out, hb2⟩, HX2.out⟩
                case measure => simp [intOf]; omega
        · have hki : k = i := by omega
          subst hki
          go_wp2
          exact ⟨⟨k + 1, hlt, by go_num, by rw [difs_succ]; exact HC2.out⟩, by simp [intOf]; omega⟩
    · have hin : i = n := by omega
      subst hin
      rcases HC.out.1.2 with ⟨rfl, hz⟩ | ⟨g, cap, cur, rfl, hbg, hg, hnc, hcmx, hcs, htake⟩
      · have hnil : difs l i = [] := List.eq_nil_of_length_eq_zero hz
        go_wp2_with (go_at_call 17; refine (sorts_none _).mono ?_; rintro e w' ⟨rfl, rfl⟩)
        go_ret2
        exact ⟨_, rfl, hbo, .inl ⟨rfl, by rw [HL.out]; exact hnil⟩⟩
      · have hown := HC.out.1
        have hH := holdsK_own hown
        have hgl := (Array.getElem?_eq_some_iff.1 hg).1
        have K17 := Lib.hid (hF g cap (difs l i).length (difs l i).toArray wo (by simp) hH hgl hM)
        have HH := Lib.hid hH
        clear hown hH hg hcs htake
        go_wp2_with (go_at_call 17; refine K17.out.mono ?_; rintro e w' ⟨rfl, q, os, hw'⟩; have HW := Lib.hid hw'; clear hw')
        go_ret2
        have hb' : Below w.heap.size w w' := by rw [HW.out]; exact hbo.trans (below_sortWorldK _ _ hbg hgl)
        refine ⟨_, rfl, hb', .inr ⟨g, cap, by rw [HL.out]; rfl, hbg, ?_, ?_⟩⟩
        · have : Below w.heap.size wo w' := by rw [HW.out]; exact below_sortWorldK _ _ hbg hgl
          have := this.size
          omega
        · rw [HL.out, HW.out]
          exact holdsK_sortWorldK_c encD 4 wo g 0 (difs l i).toArray (F (difs l i).toArray) q os HH.out hgl (hFs _)
end Go.Proofs.YtledkbgjjmdflaaDoor.Obs
