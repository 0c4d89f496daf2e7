/- The reference's Differ: its contract. -/
import Derived.Test.YtledkbgjjmdflaaDoorSortAll
import Derived.Test.YtledkbgjjmdflaaDoorRefA
import Derived.BigRegion
import Derived.Deep.DeepCutAuto
namespace Go.Proofs.YtledkbgjjmdflaaDoor.Obs
open Go Go.RowKit Go.Proofs Go.Shelf Go.Sort

/-- What the reference's Differ returns. -/
def RefRes (l : List Beh) (w : World) (e : Ending) (w' : World) : Prop :=
  ∃ v, e = .returned (.tuple #[v, .int .i64 0]) ∧ Below w.heap.size w w' ∧
    ((v = .slice none 0 0 ∧ refs l l.length l.length = []) ∨ ∃ g cap, v = .slice (some ⟨g, 0, none⟩) (refs l l.length l.length).length cap ∧ w.heap.size ≤ g ∧ g < w'.heap.size ∧ HoldsK encD 4 w' g 0 (refs l l.length l.length).toArray)

theorem box_a (wr : World) (cs ds : Array Value) (q : Nat) : ((wr.alloc (Obj.cells cs 34)).alloc (Obj.cells ds 34)).drew.cell? ⟨wr.heap.size, q, none⟩ = cs[q]? := by
  show ((wr.alloc _).alloc _).cell? _ = _
  rw [World.cell?_alloc_lt _ _ _ (by simp), cell_new_at]
theorem box_b (wr : World) (cs ds : Array Value) (q : Nat) : ((wr.alloc (Obj.cells cs 34)).alloc (Obj.cells ds 34)).drew.cell? ⟨wr.heap.size + 1, q, none⟩ = ds[q]? := by
  show ((wr.alloc _).alloc _).cell? _ = _
  rw [cell_new_eq _ _ _ _ _ (by simp)]
theorem box_below {w wr : World} (h : Below w.heap.size w wr) (cs ds : Array Value) : Below w.heap.size w ((wr.alloc (Obj.cells cs 34)).alloc (Obj.cells ds 34)).drew := ((h.alloc h.size _).alloc (by have := h.size; simp; omega) _).drew
theorem box_row {wr : World} {B n : Nat} {v : Value} {xs : List Value} (h : wr.ownsRow B 30 4 v n xs) (cs ds : Array Value) : ((wr.alloc (Obj.cells cs 34)).alloc (Obj.cells ds 34)).drew.ownsRow B 30 4 v n xs := (h.alloc _).alloc _

set_option maxHeartbeats 4000000 in
set_option maxRecDepth 100000 in
theorem refDif_any (A : Option Addr) (n c : Nat) (l : List Beh) (w : World) (hl : OutsR w A n l) (hn : n ≤ 100) (hc : n ≤ c) (hcm : c ≤ 140737488351232) :
    Calls Tryd.prog 8 #[.slice A n c] w (RefRes l w) := by
  have HL := Lib.hid hl.1
  obtain ⟨i0, hi, hz0, hz1, hz2⟩ := info_parts info30
  have hlen : decide ((100 : Int) < (n : Int)) = false := by simp; omega
  go_enter Tryd.func8, Tryd.ntmps8
  go_wp2
  go_loopg [4, 5, 6, 7, 8, 9, 10] n (fun g1 v vi v6 v7 v8 v9 v10 wr => ∃ i : Nat, i ≤ n ∧ vi = .int .i64 i ∧ n - i ≤ g1 ∧ Coll w v (refs l n i) wr)
  case atStart => exact ⟨0, Nat.zero_le _, by go_num, by omega, ⟨by simp [refs], .inl ⟨rfl, rfl⟩⟩, Below.refl _ _⟩
  case round =>
    obtain ⟨wo, rfl⟩ : ∃ wo : World, wo = wr := ⟨_, rfl⟩
    obtain ⟨i, hi1, rfl, hg1, hC⟩ := hrel
    have HC := Lib.hid hC
    have hbo := hC.2
    clear hC
    have hso := hbo.size
    by_cases hlt : i < n
    · have hltz : (i : Int) < (n : Int) := by omega
      go_wp2
      go_loopg [4, 6, 7, 8, 9, 10] (n - (i + 1)) (fun g2 v vk v7 v8 v9 v10 wr => ∃ k : Nat, i + 1 ≤ k ∧ k ≤ n ∧ vk = .int .i64 k ∧ n - k ≤ g2 ∧ Coll w v (refs l n i ++ rrow l i k) wr)
      case atStart => exact ⟨i + 1, Nat.le_refl _, by omega, by go_num, Nat.le_refl _, by rw [rrow_start, List.append_nil]; exact HC.out.1, hbo⟩
      case round =>
        obtain ⟨k, hik, hk1, rfl, hg2, hC2⟩ := hrel
        have hbr := hC2.2
        have HC2 := Lib.hid hC2
        clear hC2
        have hsr := hbr.size
        by_cases hlt2 : k < n
        · have hltz2 : (k : Int) < (n : Int) := by omega
          obtain ⟨b, off, rfl, hcs⟩ := hl.2 (by omega)
          obtain ⟨sx, Ax, cx, x0, x1, lx, lx2, rx, x2, x3⟩ := hcs i hlt
          obtain ⟨sy, Ay, cy, y0, y1, ly, ly2, ry, y2, y3⟩ := hcs k hlt2
          have blt0 : b < w.heap.size := by have := World.block_lt_of_cell? w _ x0; simpa using this
          replace x1 := cellB hbr x1
          replace x2 := cellB hbr x2
          replace x3 := cellB hbr x3
          replace y1 := cellB hbr y1
          replace y2 := cellB hbr y2
          replace y3 := cellB hbr y3
          clear x0 y0 hcs
          have i0' : (0 : Int) ≤ (i : Int) := Int.natCast_nonneg _
          have k0' : (0 : Int) ≤ (k : Int) := Int.natCast_nonneg _
          obtain ⟨X, hX⟩ : ∃ X, X = l.getD i beh0 := ⟨_, rfl⟩
          obtain ⟨Y, hY⟩ : ∃ Y, Y = l.getD k beh0 := ⟨_, rfl⟩
          rw [← hX] at x1 x2 x3 lx rx
          rw [← hY] at y1 y2 y3 ly ry
          have HXX := Lib.hid hX
          have HYY := Lib.hid hY
          clear hX hY
          have blt : b < wr.heap.size := by omega
          have mixed : Tryd.prog.follows .mixedOrders = true := by kernel_rfl
          go_upto_region 10 with fail
          go_cut [7, 8] (fun va vb wx => ∃ p q : Nat, va = .pointer (some ⟨p, 0, none⟩) ∧ vb = .pointer (some ⟨q, 0, none⟩) ∧ Below w.heap.size w wx ∧ wx.ownsRow w.heap.size 30 4 u4 (refs l n i ++ rrow l i k).length ((refs l n i ++ rrow l i k).flatMap encD) ∧ p < wx.heap.size ∧ q < wx.heap.size ∧
            wx.cell? ⟨p, 0, none⟩ = some (.slice Ax X.1.length cx) ∧ wx.cell? ⟨p, 1, none⟩ = some (.int .i64 X.2.1) ∧ wx.cell? ⟨p, 2, none⟩ = some (.int .i64 X.2.2) ∧ wx.cell? ⟨q, 0, none⟩ = some (.slice Ay Y.1.length cy) ∧ wx.cell? ⟨q, 1, none⟩ = some (.int .i64 Y.2.1) ∧ wx.cell? ⟨q, 2, none⟩ = some (.int .i64 Y.2.2))
          case first =>
            clear lx lx2 rx ly ly2 ry hl hi hz0 hz1 hz2 hc hcm
            go_big_region
            all_goals go_wp2
            · go_meet
              case rel => exact ⟨_, _, rfl, rfl, box_below hbr _ _, box_row HC2.out.1 _ _, by (show _ < ((wr.alloc _).alloc _).heap.size); simp only [World.size_alloc]; omega, by (show _ < ((wr.alloc _).alloc _).heap.size); simp only [World.size_alloc]; omega, box_a _ _ _ 0, box_a _ _ _ 1, box_a _ _ _ 2, box_b _ _ _ 0, box_b _ _ _ 1, box_b _ _ _ 2⟩
            · go_meet
              case rel => exact ⟨_, _, rfl, rfl, box_below hbr _ _, box_row HC2.out.1 _ _, by (show _ < ((wr.alloc _).alloc _).heap.size); simp only [World.size_alloc]; omega, by (show _ < ((wr.alloc _).alloc _).heap.size); simp only [World.size_alloc]; omega, box_b _ _ _ 0, box_b _ _ _ 1, box_b _ _ _ 2, box_a _ _ _ 0, box_a _ _ _ 1, box_a _ _ _ 2⟩
          case rest =>
          obtain ⟨pa, pb, rfl, rfl, hby, hyc, hpa, hpb, a0, a1, a2, b0, b1, b2⟩ := hcut
          have HYC := Lib.hid hyc
          clear hyc x1 x2 x3 y1 y2 y3 hbr hsr
          obtain ⟨wy, rfl⟩ : ∃ W, W = wc := ⟨_, rfl⟩
          by_cases hx3 : X.2.1 = 3
          · have hb1 : (X.2.1 == 3) = true := by simp [hx3]
            have hd : difOf l i k = none := by
              unfold difOf
              rw [if_neg (by rw [← HXX.out]; exact fun h => h.2.1 hx3)]
            have HD := Lib.hid hd
            clear hd hx3
            go_wp2
            go_roundg (n - (k + 1))
            case measure => omega
            case rel => exact ⟨k + 1, by omega, by omega, by go_num, Nat.le_refl _, by rw [rrow_succ _ _ _ (by omega), HD.out]; simpa using HYC.out, hby⟩
          · have hb1 : (X.2.1 == 3) = false := by simpa using hx3
            by_cases hy3 : Y.2.1 = 3
            · have hb2 : (Y.2.1 == 3) = true := by simp [hy3]
              have hd : difOf l i k = none := by
                unfold difOf
                rw [if_neg (by rw [← HYY.out]; exact fun h => h.1 hy3)]
              have HD := Lib.hid hd
              clear hd hy3 hx3
              go_wp2
              go_roundg (n - (k + 1))
              case measure => omega
              case rel => exact ⟨k + 1, by omega, by omega, by go_num, Nat.le_refl _, by rw [rrow_succ _ _ _ (by omega), HD.out]; simpa using HYC.out, hby⟩
            · have hb2 : (Y.2.1 == 3) = false := by simpa using hy3
              have K19 : Hid (Calls Tryd.prog 19 #[.agg #[.slice Ax X.1.length cx, .int .i64 X.2.1, .int .i64 X.2.2], .agg #[.slice Ay Y.1.length cy, .int .i64 Y.2.1, .int .i64 Y.2.2]] wy (RetB (.bool (agreeB X.1 X.2.1 X.2.2 Y.1 Y.2.1 Y.2.2)) wy)) :=
                refAgree_any Ax Ay _ _ cx cy X.1 Y.1 _ _ _ _ wy (rx.below (Nat.le_refl _) hby) (ry.below (Nat.le_refl _) hby) (by omega) (by omega)
              have K20 : Hid (∀ W, Below w.heap.size w W → Calls Tryd.prog 20 #[.agg #[.slice Ax X.1.length cx, .int .i64 X.2.1, .int .i64 X.2.2], .agg #[.slice Ay Y.1.length cy, .int .i64 Y.2.1, .int .i64 Y.2.2]] W (Ret2 (kindOf X.1 X.2.1 Y.1 Y.2.1) W)) :=
                fun W hb => refDiffer_any Ax Ay _ _ cx cy X.1 Y.1 _ _ _ _ W (rx.below (Nat.le_refl _) hb) (ry.below (Nat.le_refl _) hb) (by omega) (by omega)
              obtain ⟨r, hr⟩ : ∃ r, r = agreeB X.1 X.2.1 X.2.2 Y.1 Y.2.1 Y.2.2 := ⟨_, rfl⟩
              rw [← hr] at K19
              have HR := Lib.hid hr
              have HX3 := Lib.hid hx3
              have HY3 := Lib.hid hy3
              clear hr rx ry
              go_wp2_with fail
              refine K19.out.mono ?_
              rintro e w2 ⟨rfl, hb2'⟩
              have hw2 : Below w.heap.size w w2 := hby.trans (hb2'.mono hby.size)
              replace a0 := cellB hb2' a0
              replace a1 := cellB hb2' a1
              replace a2 := cellB hb2' a2
              replace b0 := cellB hb2' b0
              replace b1 := cellB hb2' b1
              replace b2 := cellB hb2' b2
              have HC3 := Lib.hid (ownsRow_below HYC.out hb2')
              clear hb2'
              cases r
              · have hd : difOf l i k = some ((i : Int), (k : Int), kindOf X.1 X.2.1 Y.1 Y.2.1) := by
                  unfold difOf
                  rw [← HXX.out, ← HYY.out]
                  exact if_pos ⟨HY3.out, HX3.out, HR.out.symm⟩
                obtain ⟨p, hp⟩ : ∃ p, p = kindOf X.1 X.2.1 Y.1 Y.2.1 := ⟨_, rfl⟩
                rw [← hp] at K20 hd
                have HD := Lib.hid hd
                clear hp hd hx3 hy3
                go_wp2_with fail
                refine (K20.out _ hw2).mono ?_
                rintro e w3 ⟨rfl, hb3'⟩
                have hw3 : Below w.heap.size w w3 := hw2.trans (hb3'.mono hw2.size)
                have HC4 := Lib.hid (ownsRow_below HC3.out hb3')
                clear hb3' a0 a1 a2 b0 b1 b2
                have hlb : (refs l n i ++ rrow l i k).length ≤ 20000 := by
                  have h1 := refs_le l n i
                  have h2 := rrow_le l i k
                  have h3 : i * n ≤ 100 * 100 := Nat.mul_le_mul (by omega) (by omega)
                  rw [List.length_append]
                  omega
                go_wp2_with (at_builtin; refine wpList_append_own _ rfl _ _ 25 rfl w.heap.size 30 i0 (.agg #[.int .i64 0, .int .i64 0, .int .i64 0, .int .i64 0]) 4 32 Tryd.underlying25 hi hz0 hz1 hz2 rfl (by decide) _ _ _ rfl (HC4.out.alloc _) ⟨_, 0, none⟩ 1 1 [.int .i64 (i : Int), .int .i64 (k : Int), .int .i64 p.1, .int .i64 p.2] rfl rfl (cells_new_at _ _ _ _ (by simp [World.setCell])) (by intro u hu; simp only [List.mem_cons, List.not_mem_nil, or_false] at hu; rcases hu with rfl | rfl | rfl | rfl <;> rfl) (by unfold maxLen; omega) (by omega) (by have := hw3.size; simp at this ⊢; omega) ?_; intro v' w5 hown' hgrow _; have HO5 := Lib.hid hown'; have HG5 := Lib.hid hgrow; clear hown' hgrow)
                go_roundg (n - (k + 1))
                case measure => omega
                case rel => exact ⟨k + 1, by omega, by omega, by go_num, Nat.le_refl _, own_snoc HO5.out (by rw [rrow_succ _ _ _ (by omega), HD.out]; rfl) rfl rfl, (hw3.alloc hw3.size _).grown HG5.out (by have := hw3.size; simp at this ⊢; omega) (fun q hq => (HC4.out.lt q hq).1)⟩
              · have hd : difOf l i k = none := by
                  unfold difOf
                  rw [← HXX.out, ← HYY.out]
                  exact if_neg fun h => by rw [← HR.out] at h; exact absurd h.2.2 (by decide)
                have HD := Lib.hid hd
                clear hd hx3 hy3
                go_wp2
                go_roundg (n - (k + 1))
                case measure => omega
                case rel => exact ⟨k + 1, by omega, by omega, by go_num, Nat.le_refl _, by rw [rrow_succ _ _ _ (by omega), HD.out]; simpa using HC3.out, hw2⟩
        · have hltz2 : ¬ (k : Int) < (n : Int) := by omega
          have hkn : k = n := by omega
          have HK := Lib.hid hkn
          clear hkn
          go_wp2
          go_roundg (n - (i + 1))
          case measure => omega
          case rel => exact ⟨i + 1, by omega, by go_num, Nat.le_refl _, by rw [refs_succ]; have := HC2.out; rw [HK.out] at this; exact this⟩
    · have hltz : ¬ (i : Int) < (n : Int) := by omega
      have hin : i = n := by omega
      have HIN := Lib.hid hin
      clear hin
      go_wp2
      go_ret2
      have hown := HC.out.1
      rw [HIN.out] at hown
      rcases hown.2 with ⟨hv, hz⟩ | ⟨g, cap, cur, hv, hbg, hg, hnc, hcmx, hcs, htake⟩
      · exact ⟨_, rfl, hbo, .inl ⟨hv, by rw [HL.out]; exact List.eq_nil_of_length_eq_zero hz⟩⟩
      · have hgl := (Array.getElem?_eq_some_iff.1 hg).1
        subst hv
        exact ⟨_, rfl, hbo, .inr ⟨g, cap, by rw [HL.out]; rfl, hbg, hgl, by rw [HL.out]; exact holdsK_own hown⟩⟩
end Go.Proofs.YtledkbgjjmdflaaDoor.Obs
