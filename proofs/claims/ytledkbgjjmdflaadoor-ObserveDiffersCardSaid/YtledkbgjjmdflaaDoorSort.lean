/- The comparison of differences, and the stable sort of few of them. -/
import Derived.Test.YtledkbgjjmdflaaDoorLayIns
import Derived.WalkKit
import Derived.KernelRfl
import Derived.Lib.Hide
namespace Go.Proofs.YtledkbgjjmdflaaDoor.Obs
open Go Go.RowKit Go.Proofs Go.Shelf Go.Sort

abbrev Dif := Int × Int × Int × Int
def encD (x : Dif) : List Value := [.int .i64 x.1, .int .i64 x.2.1, .int .i64 x.2.2.1, .int .i64 x.2.2.2]
theorem encD_len (x : Dif) : (encD x).length = 4 := rfl
theorem encD_one (x : Dif) : ∀ v ∈ encD x, v.oneCell' = true := by
  intro v hv
  simp only [encD, List.mem_cons, List.not_mem_nil, or_false] at hv
  rcases hv with rfl | rfl | rfl | rfl <;> rfl
def cfD (x y : Dif) : Int := wrap64 (x.1 - y.1)

set_option maxHeartbeats 400000 in
theorem cmp_any (x y : Dif) (W : World) : Calls Tryd.prog 18 #[.agg #[.int .i64 x.1, .int .i64 x.2.1, .int .i64 x.2.2.1, .int .i64 x.2.2.2], .agg #[.int .i64 y.1, .int .i64 y.2.1, .int .i64 y.2.2.1, .int .i64 y.2.2.2]] W fun e w' => e = .returned (.int .i64 (cfD x y)) ∧ ∃ q os', w' = grow (W.drewN q) os' := by
  obtain ⟨x1, x2, x3, x4⟩ := x
  obtain ⟨y1, y2, y3, y4⟩ := y
  go_enter Tryd.func18, Tryd.ntmps18
  go_wp2
  go_ret
  exact ⟨rfl, 0, _, by rw [alloc_eq_grow, alloc_eq_grow, grow_grow]; rfl⟩
theorem cmpLays (blk off size : Nat) (w : World) : CmpLays Tryd.prog 18 #[] encD 4 cfD blk off size w := fun _ _ _ _ x y => cmp_any x y _
theorem enters18 : ∀ args w, (callFunc 18 args).run Tryd.prog w = .ok (.enter 18 args) w := enters_of Tryd.func18 (by kernel_rfl) rfl
abbrev cmpV : Value := .func (.func 18) #[] #[]

theorem ins_any (blk cap a b : Nat) (d : Array Dif) (w : World) (hH : HoldsK encD 4 w blk 0 d) (hblk : blk < w.heap.size) (hab : a ≤ b) (hb : b ≤ d.size) (hsz : d.size ≤ 1000000) :
    Calls Tryd.prog 44 #[.slice (some ⟨blk, 0, none⟩) d.size cap, .int .i64 a, .int .i64 b, cmpV] w fun e w' => e = .returned (.tuple #[]) ∧ ∃ n os, w' = sortWorldK encD 4 w blk 0 n (Sort.insertionSort (ltOf cfD) d a b) os :=
  AnyQ.insertionSortCmpFunc Tryd.insL 4 Tryd.isAgg30 Tryd.sizeOf30 encD encD_len encD_one cfD 18 #[] blk 0 cap a b d w enters18 (cmpLays _ _ _ _) hH hblk hab hb (by omega)

set_option maxHeartbeats 400000 in
theorem ins_none (w : World) : Calls Tryd.prog 44 #[.slice none 0 0, .int .i64 0, .int .i64 0, cmpV] w fun e w' => e = .returned (.tuple #[]) ∧ w' = w := by
  go_enter Tryd.func44, Tryd.ntmps44
  go_wp2
  go_loop [8] (fun i => i = .int .i64 1) (fun _ => 0)
  case atStart => rfl
  case round =>
    obtain rfl := hrel
    go_wp2
    go_end0
    exact ⟨rfl, rfl⟩

set_option maxHeartbeats 1000000 in
theorem stable_few (blk cap n : Nat) (d : Array Dif) (w : World) (hn : n = d.size) (hH : HoldsK encD 4 w blk 0 d) (hblk : blk < w.heap.size) (h20 : n < 20) :
    Calls Tryd.prog 31 #[.slice (some ⟨blk, 0, none⟩) n cap, .int .i64 n, cmpV] w fun e w' => e = .returned (.tuple #[]) ∧ ∃ n os, w' = sortWorldK encD 4 w blk 0 n (Sort.insertionSort (ltOf cfD) d 0 d.size) os := by
  have hc := ins_any blk cap 0 d.size d w hH hblk (Nat.zero_le _) (Nat.le_refl _) (by omega)
  rw [← hn] at hc ⊢
  have HC := Lib.hid hc
  have h0 : decide ((20 : Int) ≤ (n : Int)) = false := by simp; omega
  have h1 : decide ((20 : Int) < (n : Int)) = false := by simp; omega
  clear hc hH hn
  generalize Sort.insertionSort (ltOf cfD) d 0 n = r at HC ⊢
  go_enter Tryd.func31, Tryd.ntmps31
  go_wp2
  go_loop [7, 8] (fun a b => a = .int .i64 0 ∧ b = .int .i64 20) (fun _ _ => 0)
  case atStart => exact ⟨rfl, rfl⟩
  case round =>
    obtain ⟨rfl, rfl⟩ := hrel
    go_wp2_with (go_at_call 44; refine HC.out.mono ?_; rintro e w' ⟨rfl, q, os, hw'⟩; have HW := Lib.hid hw'; clear hw')
    go_loop [6, 7, 8, 9] (fun s a b c => s = .int .i64 20) (fun _ _ _ _ => 0)
    case atStart => rfl
    case round =>
      obtain rfl := hrel
      go_wp2
      go_end0
      exact ⟨rfl, q, os, HW.out⟩

set_option maxHeartbeats 1000000 in
theorem stable_none (w : World) : Calls Tryd.prog 31 #[.slice none 0 0, .int .i64 0, cmpV] w fun e w' => e = .returned (.tuple #[]) ∧ w' = w := by
  go_enter Tryd.func31, Tryd.ntmps31
  go_wp2
  go_loop [7, 8] (fun a b => a = .int .i64 0 ∧ b = .int .i64 20) (fun _ _ => 0)
  case atStart => exact ⟨rfl, rfl⟩
  case round =>
    obtain ⟨rfl, rfl⟩ := hrel
    go_wp2_with (go_at_call 44; refine (ins_none _).mono ?_; rintro e w' ⟨rfl, rfl⟩)
    go_loop [6, 7, 8, 9] (fun s a b c => s = .int .i64 20) (fun _ _ _ _ => 0)
    case atStart => rfl
    case round =>
      obtain rfl := hrel
      go_wp2
      go_end0
      exact ⟨rfl, rfl⟩

/-- What the sort of at most M differences leaves. -/
def SortsTo (F : Array Dif → Array Dif) (M : Nat) : Prop := ∀ (blk cap n : Nat) (d : Array Dif) (w : World), n = d.size → HoldsK encD 4 w blk 0 d → blk < w.heap.size → n ≤ M →
  Calls Tryd.prog 17 #[.slice (some ⟨blk, 0, none⟩) n cap, cmpV] w fun e w' => e = .returned (.tuple #[]) ∧ ∃ n os, w' = sortWorldK encD 4 w blk 0 n (F d) os

set_option maxHeartbeats 400000 in
theorem sorts_few : SortsTo (fun d => Sort.insertionSort (ltOf cfD) d 0 d.size) 19 := by
  intro blk cap n d w hn hH hblk h19
  have hc := stable_few blk cap n d w hn hH hblk (by omega)
  have HC := Lib.hid hc
  clear hc hH hn
  dsimp only
  generalize Sort.insertionSort (ltOf cfD) d 0 d.size = r at HC ⊢
  go_enter Tryd.func17, Tryd.ntmps17
  go_wp2_with (go_at_call 31; refine HC.out.mono ?_; rintro e w' ⟨rfl, q, os, hw'⟩; have HW := Lib.hid hw'; clear hw')
  go_end0
  exact ⟨rfl, q, os, HW.out⟩

set_option maxHeartbeats 400000 in
theorem sorts_none (w : World) : Calls Tryd.prog 17 #[.slice none 0 0, cmpV] w fun e w' => e = .returned (.tuple #[]) ∧ w' = w := by
  go_enter Tryd.func17, Tryd.ntmps17
  go_wp2_with (go_at_call 31; refine (stable_none _).mono ?_; rintro e w' ⟨rfl, rfl⟩)
  go_end0
  exact ⟨rfl, rfl⟩
end Go.Proofs.YtledkbgjjmdflaaDoor.Obs
