/- ObserveTexts: its contract: it returns true. -/
import Derived.Test.YtledkbgjjmdflaaDoorAwake
import Derived.Test.YtledkbgjjmdflaaDoorPlain
import Derived.Lib.QuietBelow
namespace Go.Proofs.YtledkbgjjmdflaaDoor.Obs
open Go Go.RowKit Go.Proofs Go.Shelf Go.Sort

theorem usual_of {e c : Int} (h : usualB e c = true) : Usual e c := by
  unfold usualB at h
  unfold Usual
  split at h
  · rename_i h1
    have := of_decide_eq_true h
    omega
  · have := of_decide_eq_true h
    omega
theorem text_same {xs ys : List Int} {ea ca eb cb : Int} (h : usualB ea ca = true) (h' : usualB eb cb = true) :
    ((⟨(textOf xs ea ca).toArray⟩ : ByteArray).toList == (⟨(textOf ys eb cb).toArray⟩ : ByteArray).toList) = sameB xs ea ca ys eb cb := by
  unfold sameB
  rw [ByteArray.toList_eq, ByteArray.toList_eq, Bool.eq_iff_iff, beq_iff_eq, decide_eq_true_iff]
  constructor
  · intro e
    have e2 : textOf xs ea ca = textOf ys eb cb := by simpa using e
    obtain ⟨h1, h2, h3⟩ := text_inj (usual_of h) (usual_of h') e2
    exact ⟨h2, h3, h1⟩
  · rintro ⟨rfl, rfl, rfl⟩
    rfl
theorem ends_of {e c : Int} (h : usualB e c = true) : e = 1 ∨ e = 2 ∨ e = 3 ∨ e = 4 := by
  have := usual_of h
  unfold Usual at this
  omega
theorem boxed2 (w : World) (cs ds : Array Value) (t : TypeId) : ((w.alloc (.cells cs t)).alloc (.cells ds t)).heap[w.heap.size]? = some (.cells cs t (0, 0)) ∧ ((w.alloc (.cells cs t)).alloc (.cells ds t)).heap[w.heap.size + 1]? = some (.cells ds t (0, 0)) := by
  have h := heap_alloc_new (w.alloc (.cells cs t)) (.cells ds t)
  rw [show (w.alloc (.cells cs t)).heap.size = w.heap.size + 1 by simp] at h
  exact ⟨(Below.heap_alloc _ _ _ (by simp)).trans (heap_alloc_new w _), h⟩

set_option maxHeartbeats 2000000 in
set_option maxRecDepth 100000 in
theorem texts_ok (A B : Option Addr) (n m c d : Nat) (xs ys : List Int) (ea ca eb cb : Int) (w : World) (hx : ReadsI w A n xs) (hy : ReadsI w B m ys) (hxI : ∀ v ∈ xs, I64 v) (hyI : ∀ v ∈ ys, I64 v) (hca : I64 ca) (hcb : I64 cb) (hT : Tab w) :
    Calls Tryd.prog 4 #[.agg #[.slice A n c, .int .i64 ea, .int .i64 ca], .agg #[.slice B m d, .int .i64 eb, .int .i64 cb]] w (RetB (.bool true) w) := by
  have K6 : Hid (∀ W, Below w.heap.size w W → Calls Tryd.prog 6 #[] W (RetB (.bool true) W)) := fun W hb => awake_ok W (tab_on hT hb)
  have hbx : Below w.heap.size w ((w.alloc (Obj.cells #[.slice A n c, .int .i64 ea, .int .i64 ca] 34)).alloc (Obj.cells #[.slice B m d, .int .i64 eb, .int .i64 cb] 34)) := ((Below.refl _ _).alloc (Nat.le_refl _) _).alloc (by simp) _
  obtain ⟨gx, gy⟩ := boxed2 w #[.slice A n c, .int .i64 ea, .int .i64 ca] #[.slice B m d, .int .i64 eb, .int .i64 cb] 34
  have HBX := Lib.hid hbx
  have GX := Lib.hid gx
  have GY := Lib.hid gy
  clear hbx gx gy
  by_cases g1 : 300 < n
  · have hg1 : decide ((300 : Int) < (n : Int)) = true := by simp; omega
    clear g1
    go_enter Tryd.func4, Tryd.ntmps4
    go_wp2_with (go_at_call 6; refine (K6.out _ HBX.out).mono ?_; rintro e w2 ⟨rfl, hb⟩; have HB := Lib.hid hb; clear hb)
    go_ret
    exact ⟨rfl, HBX.out.trans (HB.out.mono HBX.out.size)⟩
  · have hg1 : decide ((300 : Int) < (n : Int)) = false := by simp; omega
    by_cases g2 : 300 < m
    · have hg2 : decide ((300 : Int) < (m : Int)) = true := by simp; omega
      clear g1 g2
      go_enter Tryd.func4, Tryd.ntmps4
      go_wp2_with (go_at_call 6; refine (K6.out _ HBX.out).mono ?_; rintro e w2 ⟨rfl, hb⟩; have HB := Lib.hid hb; clear hb)
      go_ret
      exact ⟨rfl, HBX.out.trans (HB.out.mono HBX.out.size)⟩
    · have hg2 : decide ((300 : Int) < (m : Int)) = false := by simp; omega
      obtain ⟨rx, hrx⟩ : ∃ r, r = usualB ea ca := ⟨_, rfl⟩
      obtain ⟨ry, hry⟩ : ∃ r, r = usualB eb cb := ⟨_, rfl⟩
      have KX : Hid (∀ W, Calls Tryd.prog 11 #[.agg #[.slice A n c, .int .i64 ea, .int .i64 ca]] W (RetB (.bool rx) W)) := fun W => by rw [hrx]; exact usual_any A n c ea ca W
      have KY : Hid (∀ W, Calls Tryd.prog 11 #[.agg #[.slice B m d, .int .i64 eb, .int .i64 cb]] W (RetB (.bool ry) W)) := fun W => by rw [hry]; exact usual_any B m d eb cb W
      have HRX := Lib.hid hrx
      have HRY := Lib.hid hry
      have HG := Lib.hid (And.intro g1 g2)
      clear hrx hry g1 g2
      go_enter Tryd.func4, Tryd.ntmps4
      go_wp2_with fail
      obtain ⟨wq, hwq⟩ : ∃ W, W = (w.alloc (Obj.cells #[.slice A n c, .int .i64 ea, .int .i64 ca] 34)).alloc (Obj.cells #[.slice B m d, .int .i64 eb, .int .i64 cb] 34) := ⟨_, rfl⟩
      rw [← hwq] at HBX GX GY ⊢
      clear hwq
      refine (KX.out wq).mono ?_
      rintro e w1 ⟨rfl, hb1⟩
      have hw1 : Below w.heap.size w w1 := HBX.out.trans (hb1.mono HBX.out.size)
      have gx1 := (hb1.block _ (Array.getElem?_eq_some_iff.1 GX.out).1).trans GX.out
      have gy1 := (hb1.block _ (Array.getElem?_eq_some_iff.1 GY.out).1).trans GY.out
      have y0 : w1.cell? ⟨w.heap.size + 1, 0, none⟩ = some (.slice B m d) := by rw [Lib.cell_of_heap gy1]; rfl
      have y1 : w1.cell? ⟨w.heap.size + 1, 1, none⟩ = some (.int .i64 eb) := by rw [Lib.cell_of_heap gy1]; rfl
      have y2 : w1.cell? ⟨w.heap.size + 1, 2, none⟩ = some (.int .i64 cb) := by rw [Lib.cell_of_heap gy1]; rfl
      have HW1 := Lib.hid hw1
      have GX1 := Lib.hid gx1
      have GY1 := Lib.hid gy1
      clear hb1 hw1 gx1 gy1
      cases rx
      · go_wp2_with (go_at_call 6; refine (K6.out _ HW1.out).mono ?_; rintro e w2 ⟨rfl, hb⟩; have HB := Lib.hid hb; clear hb)
        go_ret
        exact ⟨rfl, HW1.out.trans (HB.out.mono HW1.out.size)⟩
      · go_wp2_with fail
        refine (KY.out w1).mono ?_
        rintro e w2 ⟨rfl, hb2⟩
        have hw2 : Below w.heap.size w w2 := HW1.out.trans (hb2.mono HW1.out.size)
        have gx2 := (hb2.block _ (Array.getElem?_eq_some_iff.1 GX1.out).1).trans GX1.out
        have gy2 := (hb2.block _ (Array.getElem?_eq_some_iff.1 GY1.out).1).trans GY1.out
        have HW2 := Lib.hid hw2
        cases ry
        · clear hb2 hw2 gx2 gy2
          go_wp2_with (go_at_call 6; refine (K6.out _ HW2.out).mono ?_; rintro e w3 ⟨rfl, hb⟩; have HB := Lib.hid hb; clear hb)
          go_ret
          exact ⟨rfl, HW2.out.trans (HB.out.mono HW2.out.size)⟩
        · have a0 : w2.cell? ⟨w.heap.size, 0, none⟩ = some (.slice A n c) := by rw [Lib.cell_of_heap gx2]; rfl
          have a1 : w2.cell? ⟨w.heap.size, 1, none⟩ = some (.int .i64 ea) := by rw [Lib.cell_of_heap gx2]; rfl
          have a2 : w2.cell? ⟨w.heap.size, 2, none⟩ = some (.int .i64 ca) := by rw [Lib.cell_of_heap gx2]; rfl
          have b0 : w2.cell? ⟨w.heap.size + 1, 0, none⟩ = some (.slice B m d) := by rw [Lib.cell_of_heap gy2]; rfl
          have b1 : w2.cell? ⟨w.heap.size + 1, 1, none⟩ = some (.int .i64 eb) := by rw [Lib.cell_of_heap gy2]; rfl
          have b2 : w2.cell? ⟨w.heap.size + 1, 2, none⟩ = some (.int .i64 cb) := by rw [Lib.cell_of_heap gy2]; rfl
          have la0 : ∀ d os, (grow (redrawn w2 d) os).cell? ⟨w.heap.size, 0, none⟩ = some (.slice A n c) := cell_regrown a0
          have la1 : ∀ d os, (grow (redrawn w2 d) os).cell? ⟨w.heap.size, 1, none⟩ = some (.int .i64 ea) := cell_regrown a1
          have la2 : ∀ d os, (grow (redrawn w2 d) os).cell? ⟨w.heap.size, 2, none⟩ = some (.int .i64 ca) := cell_regrown a2
          have lb0 : ∀ d' os, (grow (redrawn w2 d') os).cell? ⟨w.heap.size + 1, 0, none⟩ = some (.slice B m d) := cell_regrown b0
          have lb1 : ∀ d os, (grow (redrawn w2 d) os).cell? ⟨w.heap.size + 1, 1, none⟩ = some (.int .i64 eb) := cell_regrown b1
          have lb2 : ∀ d os, (grow (redrawn w2 d) os).cell? ⟨w.heap.size + 1, 2, none⟩ = some (.int .i64 cb) := cell_regrown b2
          have hwg : ∀ dq os, Below w.heap.size w (grow (redrawn w2 dq) os) := fun dq os => HW2.out.trans ((below_regrown w2 dq os).mono HW2.out.size)
          obtain ⟨tx, htx⟩ : ∃ t : ByteArray, t = ⟨(textOf xs ea ca).toArray⟩ := ⟨_, rfl⟩
          obtain ⟨ty, hty⟩ : ∃ t : ByteArray, t = ⟨(textOf ys eb cb).toArray⟩ := ⟨_, rfl⟩
          obtain ⟨res, hres⟩ : ∃ r, r = sameB xs ea ca ys eb cb := ⟨_, rfl⟩
          have hE : (tx.toList == ty.toList) = res := by rw [htx, hty, hres]; exact text_same HRX.out.symm HRY.out.symm
          have C9x : Hid (∀ dq os, Calls Tryd.prog 9 #[.agg #[.slice A n c, .int .i64 ea, .int .i64 ca]] (grow (redrawn w2 dq) os) fun e w'' => e = .returned (.string tx) ∧ ∃ p : Regrown, w'' = grow (redrawn w2 p.d) p.os) := fun dq os =>
            Calls.regrown_of (by rw [htx]; exact text_usual A n c xs ea ca _ (readsB hx (hwg dq os)) hxI hca (by have := HG.out.1; omega) (ends_of HRX.out.symm) (tab_on hT (hwg dq os)))
          have C9y : Hid (∀ dq os, Calls Tryd.prog 9 #[.agg #[.slice B m d, .int .i64 eb, .int .i64 cb]] (grow (redrawn w2 dq) os) fun e w'' => e = .returned (.string ty) ∧ ∃ p : Regrown, w'' = grow (redrawn w2 p.d) p.os) := fun dq os =>
            Calls.regrown_of (by rw [hty]; exact text_usual B m d ys eb cb _ (readsB hy (hwg dq os)) hyI hcb (by have := HG.out.2; omega) (ends_of HRY.out.symm) (tab_on hT (hwg dq os)))
          have C12 : Hid (∀ dq os, Calls Tryd.prog 12 #[.agg #[.slice A n c, .int .i64 ea, .int .i64 ca], .agg #[.slice B m d, .int .i64 eb, .int .i64 cb]] (grow (redrawn w2 dq) os) fun e w'' => e = .returned (.bool res) ∧ ∃ p : Regrown, w'' = grow (redrawn w2 p.d) p.os) := fun dq os =>
            Calls.regrown_of (by rw [hres]; exact refEqual_any A B n m c d xs ys ea ca eb cb _ (readsB hx (hwg dq os)) (readsB hy (hwg dq os)) (by have := HG.out.1; omega))
          have C6 : Hid (∀ dq os, Calls Tryd.prog 6 #[] (grow (redrawn w2 dq) os) fun e w'' => e = .returned (.bool true) ∧ ∃ p : Regrown, w'' = grow (redrawn w2 p.d) p.os) := fun dq os =>
            Calls.regrown_of (K6.out _ (hwg dq os))
          clear hb2 hw2 gx2 gy2 hwg htx hty hres y0 y1 y2 hx hy hxI hyI hca hcb hT hg1 hg2
          go_wp2
          refine wp_region_quiet_below (by kernel_rfl) (by kernel_rfl) ?_
          quiet_step (fail)
          quiet_step (exact C9x.out _ _)
          quiet_step (fail)
          quiet_step (exact C9y.out _ _)
          quiet_step (fail)
          quiet_step (fail)
          quiet_step (fail)
          quiet_step (exact C12.out _ _)
          quiet_step (fail)
          quiet_step (fail)
          quiet_step (exact C6.out _ _)
          quiet_step (fail)
          quiet_step (fail)
          refine wpQuiet_nil ?_
          intro _ hw'
          obtain ⟨⟨dq, osq⟩, hw''⟩ := hw'
          subst hw''
          go_wp2
          go_ret
          exact ⟨rfl, HW2.out.trans ((below_regrown w2 dq osq).mono HW2.out.size)⟩
end Go.Proofs.YtledkbgjjmdflaaDoor.Obs
