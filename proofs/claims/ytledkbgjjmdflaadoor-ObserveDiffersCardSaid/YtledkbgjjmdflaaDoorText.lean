/- observe.Text: what it writes. -/
import Derived.Test.YtledkbgjjmdflaaDoorBuilder
import Derived.Test.YtledkbgjjmdflaaDoorPlain
import Derived.Lib.Hide
namespace Go.Proofs.YtledkbgjjmdflaaDoor.Obs
open Go Go.RowKit Go.Proofs Go.Shelf Go.Sort

/-- A slice of int64 that reads as a list. -/
def ReadsI (w : World) (A : Option Addr) (n : Nat) (xs : List Int) : Prop :=
  xs.length = n ∧ (0 < n → ∃ ad, A = some ad ∧ ∀ j, j < n → w.cell? (ad.add j) = some (.int .i64 (xs.getD j 0)))
theorem ReadsI.below {w w' : World} {B : Nat} {A : Option Addr} {n : Nat} {xs : List Int} (h : ReadsI w A n xs) (hB : w.heap.size ≤ B) (hb : Below B w w') : ReadsI w' A n xs :=
  ⟨h.1, fun hn => by
    obtain ⟨ad, e, hc⟩ := h.2 hn
    refine ⟨ad, e, fun j hj => ?_⟩
    have hlt := World.block_lt_of_cell? w _ (hc j hj)
    exact (hb.cell (by omega)).trans (hc j hj)⟩
def I64 (v : Int) : Prop := -9223372036854775808 ≤ v ∧ v ≤ 9223372036854775807
abbrev Tab (w : World) : Prop := Lib.TabBelow Tryd.prog w.heap.size w "internal/strconv.uint64pow10" .u64 Lib.pow10Tab
theorem tab_on {w w' : World} (h : Tab w) (hb : Below w.heap.size w w') : Tab w' := by
  intro w2 h2
  exact h w2 (hb.trans (h2.mono hb.size))

theorem strCells_itoa (l : List UInt8) : Lib.strCells ⟨l.toArray⟩ = Lib.byteCells l := rfl

theorem formatInt_any (v : Int) (w : World) (hv : I64 v) (hT : Tab w) :
    Calls Tryd.prog 32 #[.int .i64 v, .int .i64 10] w fun e w' => e = .returned (.string ⟨(Lib.itoa v).toArray⟩) ∧ Below w.heap.size w w' :=
  (Tryd.strconv_FormatInt_10 v hv.1 hv.2 _ hT.here).mono fun _ _ ⟨he, k, os, hw⟩ => ⟨he, by rw [hw]; exact Lib.below_grow _ w (Nat.le_refl _) k os⟩
theorem itoa_any (v : Int) (w : World) (hv : I64 v) (hT : Tab w) :
    Calls Tryd.prog 23 #[.int .i64 v] w fun e w' => e = .returned (.string ⟨(Lib.itoa v).toArray⟩) ∧ Below w.heap.size w w' :=
  (Tryd.strconv_Itoa v hv.1 hv.2 _ hT.here).mono fun _ _ ⟨he, k, os, hw⟩ => ⟨he, by rw [hw]; exact Lib.below_grow _ w (Nat.le_refl _) k os⟩

theorem size_blank (l : List UInt8) : (({ data := l.toArray } : ByteArray) ++ { data := #[32] }).size = l.length + 1 := by simp [ByteArray.size_append, ByteArray.size]
theorem cells_blank (l : List UInt8) : Lib.strCells (({ data := l.toArray } : ByteArray) ++ { data := #[32] }) = Lib.byteCells (l ++ [32]) := by
  rw [← strCells_itoa]
  congr 1

set_option maxHeartbeats 400000 in
theorem write_any (B b : Nat) (l : List UInt8) (v : Int) (w : World) (hv : I64 v) (hT : Tab w) (h : Lib.IsBuilderF 55 5 B b (Lib.byteCells l) w) (hlen : l.length + 22 ≤ 140737488355328) (hBw : B ≤ w.heap.size) :
    Calls Tryd.prog 21 #[.pointer (some ⟨b, 0, none⟩), .int .i64 v] w fun e w' => e = .returned (.tuple #[]) ∧ (Lib.IsBuilderF 55 5 B b (Lib.byteCells (l ++ (Lib.itoa v ++ [32]))) w' ∧ Below B w w') := by
  have hl := Lib.itoa_length_le v hv.1 hv.2
  go_enter Tryd.func21, Tryd.ntmps21
  go_wp2_with (go_at_call 32; refine (formatInt_any v _ hv hT).mono ?_; rintro e w1 ⟨rfl, hb1⟩; refine Hid.out ?_)
  refine Lib.hid ?_
  have h1 := isBuilder_below h hb1
  have hs1 := hb1.size
  go_wp2_with (go_at_call 22; refine (writeString_any B b _ _ w1 h1 (by rw [Lib.byteCells_length, size_blank]; omega) (by omega)).mono ?_; rintro e w2 ⟨rfl, h2, hb2, _⟩)
  go_end0
  refine ⟨rfl, ?_, (hb1.mono hBw).trans hb2⟩
  rw [Lib.byteCells_append, ← cells_blank]
  exact Or.inr h2

theorem join_size (a : Array UInt8) (l : List UInt8) : (({ data := a } : ByteArray) ++ { data := l.toArray }).size = a.size + l.length := by simp [ByteArray.size_append, ByteArray.size]
theorem join_cells (a : Array UInt8) (l : List UInt8) : Lib.strCells (({ data := a } : ByteArray) ++ { data := l.toArray }) = Lib.byteCells (a.toList ++ l) := by
  rw [← strCells_itoa]
  congr 1

set_option maxHeartbeats 2000000 in
set_option maxRecDepth 100000 in
theorem text_usual (A : Option Addr) (n c : Nat) (xs : List Int) (e cd : Int) (w : World) (hr : ReadsI w A n xs) (hx : ∀ v ∈ xs, I64 v) (hcd : I64 cd) (hn : n ≤ 300) (hu : e = 1 ∨ e = 2 ∨ e = 3 ∨ e = 4) (hT : Tab w) :
    Calls Tryd.prog 9 #[.agg #[.slice A n c, .int .i64 e, .int .i64 cd]] w fun en w' => en = .returned (.string ⟨(textOf xs e cd).toArray⟩) ∧ Below w.heap.size w w' := by
  have hxl := hr.1
  have HX := Lib.hid hxl
  clear hxl
  have HB0 : Lib.IsBuilderF 55 5 (w.heap.size + 1) (w.heap.size + 1) (Lib.byteCells []) ((w.alloc (Obj.cells #[Value.slice A n c, Value.int IntKind.i64 e, Value.int IntKind.i64 cd] 34)).alloc (Obj.cells #[Value.pointer none, Value.slice none 0 0] 55)) := by
    have := Lib.IsBuilderF.of (Lib.fresh_isBuilder 55 5 (w.alloc (Obj.cells #[Value.slice A n c, Value.int IntKind.i64 e, Value.int IntKind.i64 cd] 34)))
    rw [World.size_alloc] at this
    exact this
  obtain ⟨wa, hwa⟩ : ∃ wa, wa = w.alloc (Obj.cells #[Value.slice A n c, Value.int IntKind.i64 e, Value.int IntKind.i64 cd] 34) := ⟨_, rfl⟩
  have hba : Below w.heap.size w wa := by rw [hwa]; exact (Below.refl _ _).alloc (Nat.le_refl _) _
  have hsa : wa.heap.size = w.heap.size + 1 := by rw [hwa]; simp
  have hf1 : wa.cell? ⟨w.heap.size, 1, none⟩ = some (.int .i64 e) := by rw [hwa, Lib.cell_of_heap (heap_alloc_new w _)]; rfl
  have hf2 : wa.cell? ⟨w.heap.size, 2, none⟩ = some (.int .i64 cd) := by rw [hwa, Lib.cell_of_heap (heap_alloc_new w _)]; rfl
  rw [← hwa] at HB0
  have HWA := Lib.hid hwa
  have HSA := Lib.hid hsa
  clear hwa hsa
  go_enter Tryd.func9, Tryd.ntmps9
  go_wp2
  rw [← HWA.out]
  go_loopw [11] (fun i wr => ∃ k : Nat, k ≤ n ∧ i = .int .i64 k ∧ Lib.IsBuilderF 55 5 (w.heap.size + 1) (w.heap.size + 1) (Lib.byteCells (outText (xs.take k))) wr ∧ Below (w.heap.size + 1) wa wr) (fun i _ => n - (intOf i).toNat)
  case atStart =>
    refine ⟨0, Nat.zero_le _, rfl, HB0, (Below.refl _ _).alloc ?_ _⟩
    rw [HSA.out]; exact Nat.le_refl _
  case round =>
    obtain ⟨k, hk, rfl, hB, hbw⟩ := hrel
    have hbw0 : Below w.heap.size w wr := hba.trans (hbw.mono (Nat.le_succ _))
    have hsr : w.heap.size + 1 ≤ wr.heap.size := by have := hbw.size; have := HSA.out; omega
    have htk : (xs.take k).length = k := by rw [List.length_take]; have := HX.out; omega
    have hol := outText_length (xs.take k) (fun v hv => hx v (List.mem_of_mem_take hv))
    have HTK := Lib.hid htk
    rw [htk] at hol
    clear htk
    by_cases hlt : k < n
    · have hxk : xs.getD k 0 ∈ xs := by
        have hl : k < xs.length := by have := HX.out; omega
        rw [List.getD_eq_getElem?_getD, List.getElem?_eq_getElem hl]; exact List.getElem_mem hl
      obtain ⟨ad, rfl, hc⟩ := (hr.below (Nat.le_refl _) hbw0).2 (by omega)
      have hck := hc k hlt
      clear hc
      obtain ⟨v, hv⟩ : ∃ v, v = xs.getD k 0 := ⟨_, rfl⟩
      rw [← hv] at hck hxk
      have HV := Lib.hid hv
      clear hv
      go_wp2_with (go_at_call 21; refine (write_any (w.heap.size + 1) (w.heap.size + 1) _ v wr (hx v hxk) (tab_on hT hbw0) hB (by omega) hsr).mono ?_; rintro en w2 ⟨rfl, h2, hb2⟩)
      go_roundw
      case rel =>
        refine ⟨k + 1, by omega, by go_num, ?_, hbw.trans hb2⟩
        have hs : xs.take (k + 1) = xs.take k ++ [v] := by
          have hl : k < xs.length := by have := HX.out; omega
          rw [List.take_add_one, List.getElem?_eq_getElem hl, HV.out, List.getD_eq_getElem?_getD, List.getElem?_eq_getElem hl]; rfl
        rw [hs, outText_snoc]
        exact h2
      case measure => simp [intOf]; omega
    · have hke : xs.take k = xs := List.take_of_length_le (by have := HX.out; omega)
      rw [hke] at hB
      clear hke
      have g1 : wr.cell? ⟨w.heap.size, 1, none⟩ = some (.int .i64 e) := (hbw.cell (p := ⟨w.heap.size, 1, none⟩) (Nat.lt_succ_self _)).trans hf1
      have g2 : wr.cell? ⟨w.heap.size, 2, none⟩ = some (.int .i64 cd) := (hbw.cell (p := ⟨w.heap.size, 2, none⟩) (Nat.lt_succ_self _)).trans hf2
      have hTr := tab_on hT hbw0
      have hos : (outText xs).length ≤ 6600 := by
        have h1 := outText_length xs hx
        have := HX.out
        omega
      have hil := Lib.itoa_length_le cd hcd.1 hcd.2
      have hbl : (Lib.byteCells (outText xs)).length ≤ 6600 := by rw [Lib.byteCells_length]; exact hos
      rcases hu with rfl | rfl | rfl | rfl
      · go_wp2_with (go_at_call 22; refine (writeString_any (w.heap.size + 1) (w.heap.size + 1) _ _ wr hB (by have : ({ data := #[100, 111, 110, 101] } : ByteArray).size = 4 := rfl; omega) hsr).mono ?_; rintro en w2 ⟨rfl, h2, hb2, _⟩; refine Hid.out ?_)
        refine Lib.hid ?_
        have h3 : Lib.IsBuilderF 55 5 (w.heap.size + 1) (w.heap.size + 1) (Lib.byteCells (textOf xs 1 cd)) w2 := by
          refine Or.inr ?_
          rw [textOf, Lib.byteCells_append]
          exact h2
        go_wp2_with (go_at_call 24; refine (Tryd.Builder_String_any_k (w.heap.size + 1) (w.heap.size + 1) (textOf xs 1 cd) _ h3 (by have := hb2.size; omega)).mono ?_; rintro en w3 ⟨rfl, _, hb3, _⟩)
        go_ret
        exact ⟨rfl, hbw0.trans ((hb2.trans hb3).mono (Nat.le_succ _))⟩
      · go_wp2_with (go_at_call 23; refine (itoa_any cd _ hcd hTr).mono ?_; rintro en w1 ⟨rfl, hb1⟩; refine Hid.out ?_)
        refine Lib.hid ?_
        have h1 := isBuilder_below hB hb1
        have hs1 := hb1.size
        go_wp2_with (go_at_call 22; refine (writeString_any (w.heap.size + 1) (w.heap.size + 1) _ _ w1 h1 (by rw [join_size]; simp only [List.size_toArray, List.length_cons, List.length_nil]; omega) (by omega)).mono ?_; rintro en w2 ⟨rfl, h2, hb2, _⟩; refine Hid.out ?_)
        refine Lib.hid ?_
        have h3 : Lib.IsBuilderF 55 5 (w.heap.size + 1) (w.heap.size + 1) (Lib.byteCells (textOf xs 2 cd)) w2 := by
          refine Or.inr ?_
          rw [join_cells] at h2
          rw [textOf, Lib.byteCells_append]
          exact h2
        go_wp2_with (go_at_call 24; refine (Tryd.Builder_String_any_k (w.heap.size + 1) (w.heap.size + 1) (textOf xs 2 cd) _ h3 (by have := hb2.size; omega)).mono ?_; rintro en w3 ⟨rfl, _, hb3, _⟩)
        go_ret
        exact ⟨rfl, hbw0.trans ((hb1.mono (by omega)).trans ((hb2.trans hb3).mono (Nat.le_succ _)))⟩
      · go_wp2_with (go_at_call 23; refine (itoa_any cd _ hcd hTr).mono ?_; rintro en w1 ⟨rfl, hb1⟩; refine Hid.out ?_)
        refine Lib.hid ?_
        have h1 := isBuilder_below hB hb1
        have hs1 := hb1.size
        go_wp2_with (go_at_call 22; refine (writeString_any (w.heap.size + 1) (w.heap.size + 1) _ _ w1 h1 (by rw [join_size]; simp only [List.size_toArray, List.length_cons, List.length_nil]; omega) (by omega)).mono ?_; rintro en w2 ⟨rfl, h2, hb2, _⟩; refine Hid.out ?_)
        refine Lib.hid ?_
        have h3 : Lib.IsBuilderF 55 5 (w.heap.size + 1) (w.heap.size + 1) (Lib.byteCells (textOf xs 3 cd)) w2 := by
          refine Or.inr ?_
          rw [join_cells] at h2
          rw [textOf, Lib.byteCells_append]
          exact h2
        go_wp2_with (go_at_call 24; refine (Tryd.Builder_String_any_k (w.heap.size + 1) (w.heap.size + 1) (textOf xs 3 cd) _ h3 (by have := hb2.size; omega)).mono ?_; rintro en w3 ⟨rfl, _, hb3, _⟩)
        go_ret
        exact ⟨rfl, hbw0.trans ((hb1.mono (by omega)).trans ((hb2.trans hb3).mono (Nat.le_succ _)))⟩
      · go_wp2_with (go_at_call 22; refine (writeString_any (w.heap.size + 1) (w.heap.size + 1) _ _ wr hB (by have : ({ data := #[99, 117, 116] } : ByteArray).size = 3 := rfl; omega) hsr).mono ?_; rintro en w2 ⟨rfl, h2, hb2, _⟩; refine Hid.out ?_)
        refine Lib.hid ?_
        have h3 : Lib.IsBuilderF 55 5 (w.heap.size + 1) (w.heap.size + 1) (Lib.byteCells (textOf xs 4 cd)) w2 := by
          refine Or.inr ?_
          rw [textOf, Lib.byteCells_append]
          exact h2
        go_wp2_with (go_at_call 24; refine (Tryd.Builder_String_any_k (w.heap.size + 1) (w.heap.size + 1) (textOf xs 4 cd) _ h3 (by have := hb2.size; omega)).mono ?_; rintro en w3 ⟨rfl, _, hb3, _⟩)
        go_ret
        exact ⟨rfl, hbw0.trans ((hb2.trans hb3).mono (Nat.le_succ _))⟩
end Go.Proofs.YtledkbgjjmdflaaDoor.Obs
