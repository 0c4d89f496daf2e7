/- observe.ways at the watch of the examples: what its rounds are handed. -/
import Derived.Test.YtledkbgjjmdflaaDoorCheck
import Derived.Test.YtledkbgjjmdflaaDoorTail
import Derived.RangeFuncNested
import Derived.RangeFuncBound
import Derived.RangeFuncCalls
import Derived.RangeFuncLeaves
import Derived.RangeFuncBox
import Derived.Shelf.Abstract
import Derived.Shelf.RegionOpen
import Derived.OwnWalkIn
import Derived.TacticsInMore
import Derived.LoopNIn
import Derived.LoopIn
namespace Go.Proofs.YtledkbgjjmdflaaDoor.Obs
open Go Go.RowKit Go.Proofs Go.Shelf Go.Sort
attribute [local go_sem] Oper.semAt_some

theorem itoa_val0 : Lib.itoa 0 = [48] := by simp [Lib.itoa]; rw [Lib.decDigits]; simp
theorem itoa_val2 : Lib.itoa 2 = [50] := by simp [Lib.itoa]; rw [Lib.decDigits]; simp
theorem itoa_val3 : Lib.itoa 3 = [51] := by simp [Lib.itoa]; rw [Lib.decDigits]; simp
theorem dec_val (i : Nat) (h : i < 10) : Lib.decDigits i = [UInt8.ofNat (48 + i)] := by rw [Lib.decDigits, dif_pos h]
theorem itoa_0 (w : World) : Calls Tryd.prog 23 #[.int .i64 0] w fun e w' => e = .returned (.string ⟨#[48]⟩) ∧ w' = w := by
  have := Tryd.strconv_Itoa_small 0 (by omega) w
  rw [dec_val 0 (by omega)] at this
  exact this
theorem itoa_2 (w : World) : Calls Tryd.prog 23 #[.int .i64 2] w fun e w' => e = .returned (.string ⟨#[50]⟩) ∧ w' = w := by
  have := Tryd.strconv_Itoa_small 2 (by omega) w
  rw [dec_val 2 (by omega)] at this
  exact this
theorem itoa_3 (w : World) : Calls Tryd.prog 23 #[.int .i64 3] w fun e w' => e = .returned (.string ⟨#[51]⟩) ∧ w' = w := by
  have := Tryd.strconv_Itoa_small 3 (by omega) w
  rw [dec_val 3 (by omega)] at this
  exact this

/-- Blocks below N0, and all that are no rows of Options, stay as they were. -/
def Q70 (N0 : Nat) (W W' : World) : Prop := W'.os = W.os ∧ W'.tape = W.tape ∧ W'.output = W.output ∧ W.heap.size ≤ W'.heap.size ∧ ∀ k o, W.heap[k]? = some o → (k < N0 ∨ ∀ c f, o ≠ .cells c 70 f) → W'.heap[k]? = some o
theorem Q70.refl (N0 : Nat) (W : World) : Q70 N0 W W := ⟨rfl, rfl, rfl, Nat.le_refl _, fun _ _ h _ => h⟩
theorem Q70.alloc {N0 : Nat} {W W' : World} (h : Q70 N0 W W') (o : Obj) : Q70 N0 W (W'.alloc o) :=
  ⟨h.1, h.2.1, h.2.2.1, Nat.le_trans h.2.2.2.1 (by simp), fun k o' hk hp => by
    have := h.2.2.2.2 k o' hk hp
    rw [Below.heap_alloc _ _ _ (Array.getElem?_eq_some_iff.1 this).1]; exact this⟩
theorem Q70.drew {N0 : Nat} {W W' : World} (h : Q70 N0 W W') : Q70 N0 W W'.drew := ⟨h.1, h.2.1, h.2.2.1, h.2.2.2.1, h.2.2.2.2⟩
theorem Q70.setCell {N0 : Nat} {W W' : World} (h : Q70 N0 W W') {b : Nat} {c : Array Value} {f : Nat × Nat} (hb : W'.heap[b]? = some (.cells c 70 f)) (hN : N0 ≤ b) (i : Nat) (v : Value) : Q70 N0 W (W'.setCell ⟨b, i, none⟩ v) :=
  ⟨h.1, h.2.1, h.2.2.1, by simpa [World.setCell] using h.2.2.2.1, fun k o' hk hp => by
    have h1 := h.2.2.2.2 k o' hk hp
    have hne : k ≠ b := by
      rintro rfl
      rw [hb] at h1
      rcases hp with hp | hp
      · omega
      · exact hp c f (Option.some.inj h1).symm
    exact (Below.heap_setCell _ _ _ _ hne).trans h1⟩
/-- Rows of cells that are no strings and no row of strings stay as they were. -/
def KeptT (W W' : World) : Prop := W.heap.size ≤ W'.heap.size ∧ ∀ (b : Nat) (c : Array Value) (t : TypeId) (f : Nat × Nat), W.heap[b]? = some (Obj.cells c t f) → t ≠ 9 → t ≠ 39 → W'.heap[b]? = some (Obj.cells c t f)
theorem KeptT.refl (W : World) : KeptT W W := ⟨Nat.le_refl _, fun _ _ _ _ h _ _ => h⟩
theorem KeptT.trans {A B C : World} (h : KeptT A B) (k : KeptT B C) : KeptT A C := ⟨Nat.le_trans h.1 k.1, fun b c t f hb h1 h2 => k.2 b c t f (h.2 b c t f hb h1 h2) h1 h2⟩

abbrev Way := ByteArray × Int × Nat
def wayV (x : Way) : Value := .agg #[.string x.1, .int .i64 x.2.1, .int .i64 (-1), .int .i64 3, .int .i64 0, .slice none 0 0, .func (.func x.2.2) #[] #[]]
def nSource : ByteArray := ⟨#[115, 111, 117, 114, 99, 101]⟩
def nLowered : ByteArray := ⟨#[108, 111, 119, 101, 114, 101, 100]⟩
def nPassed : ByteArray := ⟨#[112, 97, 115, 115, 101, 100, 32]⟩
def nMachine : ByteArray := ⟨#[109, 97, 99, 104, 105, 110, 101, 32]⟩


/-- The watch and its two rows. -/
def Fix (BW b1 b2 : Nat) (W : World) : Prop :=
  W.heap[BW]? = some (Obj.cells #[.slice (some ⟨b1, 0, none⟩) 2 2, .slice (some ⟨b2, 0, none⟩) 1 1, .int .i64 0, .int .i64 0, .slice none 0 0] 46 (0, 0)) ∧
  W.heap[b1]? = some (Obj.cells #[.int .i64 0, .int .i64 2] 3 (0, 0)) ∧ W.heap[b2]? = some (Obj.cells #[.int .i64 3] 3 (0, 0))
theorem heap_lt {W : World} {b : Nat} {o : Obj} (h : W.heap[b]? = some o) : b < W.heap.size := (Array.getElem?_eq_some_iff.1 h).1
theorem Fix.kept {BW b1 b2 : Nat} {W W' : World} (h : Fix BW b1 b2 W) (k : KeptT W W') : Fix BW b1 b2 W' :=
  ⟨k.2 _ _ _ _ h.1 (by decide) (by decide), k.2 _ _ _ _ h.2.1 (by decide) (by decide), k.2 _ _ _ _ h.2.2 (by decide) (by decide)⟩
theorem Fix.q70 {BW b1 b2 N0 : Nat} {W W' : World} (h : Fix BW b1 b2 W) (k : Q70 N0 W W') : Fix BW b1 b2 W' :=
  ⟨k.2.2.2.2 _ _ h.1 (.inr (by intro c f e; cases e)), k.2.2.2.2 _ _ h.2.1 (.inr (by intro c f e; cases e)), k.2.2.2.2 _ _ h.2.2 (.inr (by intro c f e; cases e))⟩
theorem Fix.cells {BW b1 b2 : Nat} {W : World} (h : Fix BW b1 b2 W) :
    (BW < W.heap.size ∧ b1 < W.heap.size ∧ b2 < W.heap.size) ∧ W.cell? ⟨BW, 0, none⟩ = some (.slice (some ⟨b1, 0, none⟩) 2 2) ∧ W.cell? ⟨BW, 1, none⟩ = some (.slice (some ⟨b2, 0, none⟩) 1 1) ∧
    W.cell? ⟨BW, 3, none⟩ = some (.int .i64 0) ∧ W.cell? ⟨BW, 4, none⟩ = some (.slice none 0 0) ∧ W.cell? ⟨b1, 0, none⟩ = some (.int .i64 0) ∧ W.cell? ⟨b1, 1, none⟩ = some (.int .i64 2) ∧ W.cell? ⟨b2, 0, none⟩ = some (.int .i64 3) := by
  obtain ⟨h0, h1, h2⟩ := h
  refine ⟨⟨heap_lt h0, heap_lt h1, heap_lt h2⟩, ?_, ?_, ?_, ?_, ?_, ?_, ?_⟩
  · rw [Lib.cell_of_heap h0]; rfl
  · rw [Lib.cell_of_heap h0]; rfl
  · rw [Lib.cell_of_heap h0]; rfl
  · rw [Lib.cell_of_heap h0]; rfl
  · rw [Lib.cell_of_heap h1]; rfl
  · rw [Lib.cell_of_heap h1]; rfl
  · rw [Lib.cell_of_heap h2]; rfl
/-- A block of Options. -/
def Opt (W : World) (b : Nat) (lv rg : Int) : Prop := W.heap[b]? = some (Obj.cells #[.int .i64 lv, .int .i64 (-1), .int .i64 rg, .int .i64 0, .slice none 0 0] 70 (0, 0))
theorem Opt.cells {W : World} {b : Nat} {lv rg : Int} (h : Opt W b lv rg) : b < W.heap.size ∧ W.cell? ⟨b, 0, none⟩ = some (.int .i64 lv) ∧ W.cell? ⟨b, 1, none⟩ = some (.int .i64 (-1)) ∧ W.cell? ⟨b, 2, none⟩ = some (.int .i64 rg) ∧
    W.cell? ⟨b, 3, none⟩ = some (.int .i64 0) ∧ W.cell? ⟨b, 4, none⟩ = some (.slice none 0 0) ∧ W.frozen? ⟨b, 2, none⟩ = false := by
  refine ⟨heap_lt h, ?_, ?_, ?_, ?_, ?_, Lib.frozen_of_heap h 2⟩ <;> (rw [Lib.cell_of_heap h]; rfl)
theorem Opt.kept {W W' : World} {b : Nat} {lv rg : Int} (h : Opt W b lv rg) (k : KeptT W W') : Opt W' b lv rg := k.2 _ _ _ _ h (by decide) (by decide)
theorem Opt.new (W : World) (lv rg : Int) : Opt (W.alloc (Obj.cells #[.int .i64 lv, .int .i64 (-1), .int .i64 rg, .int .i64 0, .slice none 0 0] 70)).drew W.heap.size lv rg := heap_alloc_new W _
theorem Opt.set {W : World} {b : Nat} {lv rg : Int} (h : Opt W b lv rg) (r : Int) : Opt (W.setCell ⟨b, 2, none⟩ (.int .i64 r)) b lv r := by
  unfold Opt at h ⊢
  simp [World.setCell, Array.getElem?_modify, h]
/-- What has come when k levels are over. -/
def LW : Nat → List Way
  | 0 => [(nSource, 0, 40), (nLowered, 0, 41)]
  | 1 => [(nSource, 0, 40), (nLowered, 0, 41), (nPassed ++ ⟨#[48]⟩, 0, 42), (nMachine ++ ⟨#[48]⟩ ++ ⟨#[32]⟩ ++ ⟨#[51]⟩, 0, 43)]
  | _ => [(nSource, 0, 40), (nLowered, 0, 41), (nPassed ++ ⟨#[48]⟩, 0, 42), (nMachine ++ ⟨#[48]⟩ ++ ⟨#[32]⟩ ++ ⟨#[51]⟩, 0, 43), (nPassed ++ ⟨#[50]⟩, 2, 42), (nMachine ++ ⟨#[50]⟩ ++ ⟨#[32]⟩ ++ ⟨#[51]⟩, 2, 43)]

set_option maxHeartbeats 4000000 in
set_option maxRecDepth 100000 in
theorem ways1_in (n : Nat) (hn : 1 ≤ n) (l BW b1 b2 N0 : Nat) (J : List Way → World → Prop) (hJ : ∀ s A B, J s A → Q70 N0 A B → J s B)
    (hY : ∀ pre (nm : ByteArray) (lv : Int) (g : Nat) W, pre.length < 6 → J pre W → YieldAt Fence.wide (n - 1) Tryd.prog l #[.agg #[.string nm, .int .i64 lv, .int .i64 (-1), .int .i64 3, .int .i64 0, .slice none 0 0, .func (.func g) #[] #[]]] W fun e W' =>
      e = .returned (.bool true) ∧ J (pre ++ [(nm, lv, g)]) W' ∧ KeptT W W')
    (W : World) (hF : Fix BW b1 b2 W) (hN : N0 ≤ W.heap.size) (h0 : J [] W) :
    CallsIn Fence.wide n Tryd.prog 39 #[.func (.yield l) #[] #[], .pointer (some ⟨BW, 0, none⟩)] W fun e W' => (∃ v, e = .returned v) ∧ J (LW 2) W' := by
  have HJ := Lib.hid hJ
  have HY := Lib.hid hY
  clear hJ hY
  have HF := Lib.hid hF
  obtain ⟨⟨lW, l1, l2⟩, c0, c1, c3, c4, d1, d1', d2⟩ := hF.cells
  clear hF
  refine callsIn_of_wp Tryd.func39 rfl trivial ?_ rfl
  simp only [Tryd.ntmps39, List.size_toArray, List.length_cons, List.length_nil, Nat.reduceAdd, Nat.reduceSub, Array.replicate_succ, Array.replicate_zero, List.push_toArray, List.append_toArray, List.nil_append, List.cons_append]
  gi_wp2
  refine Tail.wpIn_region_still_tail 8 (by kernel_rfl) (by kernel_rfl) ?_
  simp only [List.take_succ_cons, List.take_zero, List.drop_succ_cons, List.drop_zero]
  change wpStill _ _ (W.alloc _).drew _ _ _
  repeat still_step
  refine wpStill_nil ?_
  change wpListIn _ _ _ _ _ _ _ (W.alloc _).drew
  gi_wp2
  have qA := ((Q70.refl N0 W).alloc (Obj.cells #[.int .i64 0, .int .i64 (-1), .int .i64 3, .int .i64 0, .slice none 0 0] 70)).drew
  obtain ⟨fn, tmps, assign, body, hy, hR⟩ := HY.out [] ⟨#[115, 111, 117, 114, 99, 101]⟩ 0 40 _ (by simp) (HJ.out _ _ _ h0 qA)
  rw [hy]
  clear hy
  refine ⟨fun h => by simp [Fence.wide] at h, hR.mono ?_⟩
  clear hR
  rintro e W1 ⟨rfl, hJ1, hk1⟩
  have hF1 := (HF.out.q70 qA).kept hk1
  have hO1 := (Opt.new W 0 3).kept hk1
  have hs1 : W.heap.size < W1.heap.size := hO1.cells.1
  have HO1 := Lib.hid hO1
  obtain ⟨_, o0, o1, o2, o3, o4, _⟩ := hO1.cells
  clear hO1 qA hk1 c0 c1 c3 c4 d1 d1' d2
  gi_wp2
  obtain ⟨fn2, tmps2, assign2, body2, hy2, hR2⟩ := HY.out _ ⟨#[108, 111, 119, 101, 114, 101, 100]⟩ 0 41 _ (by simp) hJ1
  rw [hy2]
  clear hy2
  refine ⟨fun h => by simp [Fence.wide] at h, hR2.mono ?_⟩
  clear hR2
  rintro e W2 ⟨rfl, hJ2, hk2⟩
  have hF2 := hF1.kept hk2
  have hs2 : W.heap.size < W2.heap.size := Nat.lt_of_lt_of_le hs1 hk2.1
  clear hF1 hk2 o0 o1 o2 o3 o4 hJ1 HO1
  replace hJ2 : J (LW 0) W2 := hJ2
  have HF2 := Lib.hid hF2
  obtain ⟨⟨lW2, l12, l22⟩, c0, c1, c3, c4, d1, d1', d2⟩ := hF2.cells
  clear hF2
  gi_wp2
  gi_loopw [48] (fun i wr => ∃ k : Nat, k ≤ 2 ∧ i = .int .i64 k ∧ Fix BW b1 b2 wr ∧ J (LW k) wr ∧ W.heap.size < wr.heap.size) (fun i _ => 2 - (intOf i).toNat)
  case atStart => exact ⟨0, by omega, rfl, HF2.out, hJ2, hs2⟩
  case round =>
    clear c0 c1 c3 c4 d1 d1' d2 lW2 l12 l22
    obtain ⟨wo, rfl⟩ : ∃ wo : World, wo = wr := ⟨_, rfl⟩
    obtain ⟨k, hk, rfl, hFr, hJr, hsr⟩ := hrel
    have HFr := Lib.hid hFr
    obtain ⟨⟨lWr, l1r, l2r⟩, c0, c1, c3, c4, d1, d1', d2⟩ := hFr.cells
    clear hFr
    obtain rfl | rfl | rfl : k = 0 ∨ k = 1 ∨ k = 2 := by omega
    · -- level 0
      gi_wp2
      refine Tail.wpIn_region_still_tail 6 (by kernel_rfl) (by kernel_rfl) ?_
      simp only [List.take_succ_cons, List.take_zero, List.drop_succ_cons, List.drop_zero]
      change wpStill _ _ (wo.alloc _).drew _ _ _
      repeat still_step
      still_call (itoa_0 _)
      repeat still_step
      refine wpStill_nil ?_
      change wpListIn _ _ _ _ _ _ _ (wo.alloc _).drew
      gi_wp2
      have qA := ((Q70.refl N0 wo).alloc (Obj.cells #[.int .i64 0, .int .i64 (-1), .int .i64 3, .int .i64 0, .slice none 0 0] 70)).drew
      obtain ⟨fn3, tmps3, assign3, body3, hy3, hR3⟩ := HY.out _ (⟨#[112, 97, 115, 115, 101, 100, 32]⟩ ++ ⟨#[48]⟩) 0 42 _ (by simp [LW]) (HJ.out _ _ _ hJr qA)
      rw [hy3]
      clear hy3
      refine ⟨fun h => by simp [Fence.wide] at h, hR3.mono ?_⟩
      clear hR3
      rintro e W3 ⟨rfl, hJ3, hk3⟩
      have hF3 := (HFr.out.q70 qA).kept hk3
      have hO3 := (Opt.new wo 0 3).kept hk3
      have hsz3 : wo.heap.size < W3.heap.size := hO3.cells.1
      clear c0 c1 c3 c4 d1 d1' d2 qA hk3
      have HF3 := Lib.hid hF3
      obtain ⟨⟨lW3, l13, l23⟩, c0, c1, c3, c4, d1, d1', d2⟩ := hF3.cells
      clear hF3
      gi_wp2
      gi_loopw [68] (fun i wq => ∃ j : Nat, j ≤ 1 ∧ i = .int .i64 j ∧ Fix BW b1 b2 wq ∧ Opt wq wo.heap.size 0 3 ∧ J (if j = 0 then LW 0 ++ [(nPassed ++ ⟨#[48]⟩, 0, 42)] else LW 1) wq ∧ W.heap.size < wq.heap.size) (fun i _ => 1 - (intOf i).toNat)
      case atStart => exact ⟨0, by omega, rfl, HF3.out, hO3, hJ3, by omega⟩
      case round =>
        clear c0 c1 c3 c4 d1 d1' d2 lW3 l13 l23
        obtain ⟨j, hj, rfl, hFq, hOq, hJq, hsq⟩ := hrel
        have HFq := Lib.hid hFq
        have HOq := Lib.hid hOq
        obtain ⟨⟨lWq, l1q, l2q⟩, c0, c1, c3, c4, d1, d1', d2⟩ := hFq.cells
        obtain ⟨oq, o0, o1, o2, o3, o4, of2⟩ := hOq.cells
        clear hFq hOq
        obtain rfl | rfl : j = 0 ∨ j = 1 := by omega
        · have qB := (Q70.refl N0 wr).setCell HOq.out (by omega) 2 (.int .i64 3)
          have hFs := HFq.out.q70 qB
          have hOs := HOq.out.set 3
          obtain ⟨ws, hws⟩ : ∃ ws, ws = wr.setCell ⟨wo.heap.size, 2, none⟩ (.int .i64 3) := ⟨_, rfl⟩
          rw [← hws] at qB hFs hOs
          have HWS := Lib.hid hws
          clear hws
          gi_wp2
          rw [← HWS.out]
          clear o0 o1 o2 o3 o4 of2 oq
          obtain ⟨oq, o0, o1, o2, o3, o4, of2⟩ := hOs.cells
          have HOs := Lib.hid hOs
          have HFs := Lib.hid hFs
          clear hOs hFs
          have hJs := HJ.out _ _ _ hJq qB
          clear qB
          refine Tail.wpIn_region_still_tail 10 (by kernel_rfl) (by kernel_rfl) ?_
          simp only [List.take_succ_cons, List.take_zero, List.drop_succ_cons, List.drop_zero]
          change wpStill _ _ ws.drew _ _ _
          repeat still_step
          still_call (itoa_0 _)
          repeat still_step
          still_call (itoa_3 _)
          repeat still_step
          refine wpStill_nil ?_
          change wpListIn _ _ _ _ _ _ _ ws.drew
          gi_wp2
          have qC := (Q70.refl N0 ws).drew
          obtain ⟨fn5, tmps5, assign5, body5, hy5, hR5⟩ := HY.out _ (⟨#[109, 97, 99, 104, 105, 110, 101, 32]⟩ ++ ⟨#[48]⟩ ++ ⟨#[32]⟩ ++ ⟨#[51]⟩) 0 43 _ (by simp [LW]) (HJ.out _ _ _ hJs qC)
          rw [hy5]
          clear hy5
          refine ⟨fun h => by simp [Fence.wide] at h, hR5.mono ?_⟩
          clear hR5
          rintro e W5 ⟨rfl, hJ5, hk5⟩
          have hF5 := HFs.out.kept hk5
          have hO5 := HOs.out.kept hk5
          have hsz5 : W.heap.size < W5.heap.size := by have := hO5.cells.1; omega
          have HF5 := Lib.hid hF5
          have HO5 := Lib.hid hO5
          clear hF5 hO5 hk5 o0 o1 o2 o3 o4 of2 oq qC c0 c1 c3 c4 d1 d1' d2
          gi_wp2
          go_roundw
          case rel => exact ⟨1, by omega, rfl, HF5.out, HO5.out, hJ5, hsz5⟩
          case measure => simp [intOf]
        · gi_wp2
          go_roundw
          case rel => exact ⟨1, by omega, rfl, HFq.out, hJq, by omega⟩
          case measure => simp [intOf]
    · -- level 2
      gi_wp2
      refine Tail.wpIn_region_still_tail 6 (by kernel_rfl) (by kernel_rfl) ?_
      simp only [List.take_succ_cons, List.take_zero, List.drop_succ_cons, List.drop_zero]
      change wpStill _ _ (wo.alloc _).drew _ _ _
      repeat still_step
      still_call (itoa_2 _)
      repeat still_step
      refine wpStill_nil ?_
      change wpListIn _ _ _ _ _ _ _ (wo.alloc _).drew
      gi_wp2
      have qA := ((Q70.refl N0 wo).alloc (Obj.cells #[.int .i64 2, .int .i64 (-1), .int .i64 3, .int .i64 0, .slice none 0 0] 70)).drew
      obtain ⟨fn3, tmps3, assign3, body3, hy3, hR3⟩ := HY.out _ (⟨#[112, 97, 115, 115, 101, 100, 32]⟩ ++ ⟨#[50]⟩) 2 42 _ (by simp [LW]) (HJ.out _ _ _ hJr qA)
      rw [hy3]
      clear hy3
      refine ⟨fun h => by simp [Fence.wide] at h, hR3.mono ?_⟩
      clear hR3
      rintro e W3 ⟨rfl, hJ3, hk3⟩
      have hF3 := (HFr.out.q70 qA).kept hk3
      have hO3 := (Opt.new wo 2 3).kept hk3
      have hsz3 : wo.heap.size < W3.heap.size := hO3.cells.1
      clear c0 c1 c3 c4 d1 d1' d2 qA hk3
      have HF3 := Lib.hid hF3
      obtain ⟨⟨lW3, l13, l23⟩, c0, c1, c3, c4, d1, d1', d2⟩ := hF3.cells
      clear hF3
      gi_wp2
      gi_loopw [68] (fun i wq => ∃ j : Nat, j ≤ 1 ∧ i = .int .i64 j ∧ Fix BW b1 b2 wq ∧ Opt wq wo.heap.size 2 3 ∧ J (if j = 0 then LW 1 ++ [(nPassed ++ ⟨#[50]⟩, 2, 42)] else LW 2) wq ∧ W.heap.size < wq.heap.size) (fun i _ => 1 - (intOf i).toNat)
      case atStart => exact ⟨0, by omega, rfl, HF3.out, hO3, hJ3, by omega⟩
      case round =>
        clear c0 c1 c3 c4 d1 d1' d2 lW3 l13 l23
        obtain ⟨j, hj, rfl, hFq, hOq, hJq, hsq⟩ := hrel
        have HFq := Lib.hid hFq
        have HOq := Lib.hid hOq
        obtain ⟨⟨lWq, l1q, l2q⟩, c0, c1, c3, c4, d1, d1', d2⟩ := hFq.cells
        obtain ⟨oq, o0, o1, o2, o3, o4, of2⟩ := hOq.cells
        clear hFq hOq
        obtain rfl | rfl : j = 0 ∨ j = 1 := by omega
        · have qB := (Q70.refl N0 wr).setCell HOq.out (by omega) 2 (.int .i64 3)
          have hFs := HFq.out.q70 qB
          have hOs := HOq.out.set 3
          obtain ⟨ws, hws⟩ : ∃ ws, ws = wr.setCell ⟨wo.heap.size, 2, none⟩ (.int .i64 3) := ⟨_, rfl⟩
          rw [← hws] at qB hFs hOs
          have HWS := Lib.hid hws
          clear hws
          gi_wp2
          rw [← HWS.out]
          clear o0 o1 o2 o3 o4 of2 oq
          obtain ⟨oq, o0, o1, o2, o3, o4, of2⟩ := hOs.cells
          have HOs := Lib.hid hOs
          have HFs := Lib.hid hFs
          clear hOs hFs
          have hJs := HJ.out _ _ _ hJq qB
          clear qB
          refine Tail.wpIn_region_still_tail 10 (by kernel_rfl) (by kernel_rfl) ?_
          simp only [List.take_succ_cons, List.take_zero, List.drop_succ_cons, List.drop_zero]
          change wpStill _ _ ws.drew _ _ _
          repeat still_step
          still_call (itoa_2 _)
          repeat still_step
          still_call (itoa_3 _)
          repeat still_step
          refine wpStill_nil ?_
          change wpListIn _ _ _ _ _ _ _ ws.drew
          gi_wp2
          have qC := (Q70.refl N0 ws).drew
          obtain ⟨fn5, tmps5, assign5, body5, hy5, hR5⟩ := HY.out _ (⟨#[109, 97, 99, 104, 105, 110, 101, 32]⟩ ++ ⟨#[50]⟩ ++ ⟨#[32]⟩ ++ ⟨#[51]⟩) 2 43 _ (by simp [LW]) (HJ.out _ _ _ hJs qC)
          rw [hy5]
          clear hy5
          refine ⟨fun h => by simp [Fence.wide] at h, hR5.mono ?_⟩
          clear hR5
          rintro e W5 ⟨rfl, hJ5, hk5⟩
          have hF5 := HFs.out.kept hk5
          have hO5 := HOs.out.kept hk5
          have hsz5 : W.heap.size < W5.heap.size := by have := hO5.cells.1; omega
          have HF5 := Lib.hid hF5
          have HO5 := Lib.hid hO5
          clear hF5 hO5 hk5 o0 o1 o2 o3 o4 of2 oq qC c0 c1 c3 c4 d1 d1' d2
          gi_wp2
          go_roundw
          case rel => exact ⟨1, by omega, rfl, HF5.out, HO5.out, hJ5, hsz5⟩
          case measure => simp [intOf]
        · gi_wp2
          go_roundw
          case rel => exact ⟨2, by omega, rfl, HFq.out, hJq, by omega⟩
          case measure => simp [intOf]
    · gi_wp2
      go_end0
      exact ⟨⟨_, rfl⟩, hJr⟩
end Go.Proofs.YtledkbgjjmdflaaDoor.Obs
