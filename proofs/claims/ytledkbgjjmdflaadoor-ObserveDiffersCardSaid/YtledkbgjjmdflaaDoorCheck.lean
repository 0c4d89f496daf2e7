/- observe.check at the watch of the examples: no fault. -/
import Derived.Test.YtledkbgjjmdflaaDoorText
import Derived.Deep.RegionHeld3
import Derived.Deep.RegionWith
import Derived.BigQuiet
import Derived.Deep.QuietTactic
namespace Go.Proofs.YtledkbgjjmdflaaDoor.Obs
open Go Go.RowKit Go.Proofs Go.Shelf Go.Sort

set_option maxHeartbeats 400000 in
theorem outside_no (B : Nat) (m x : Int) (w : World) (hc : w.cell? ⟨B, 0, none⟩ = some (.int .i64 m)) (h0 : 0 ≤ x) (h1 : x ≤ m) :
    Calls Tryd.prog 37 #[.int .i64 x, .pointer (some ⟨B, 0, none⟩)] w fun e w' => e = .returned (.bool false) ∧ w' = w := by
  have hd1 : decide (x < 0) = false := by simp; omega
  have hd2 : decide (m < x) = false := by simp; omega
  go_enter Tryd.func37, Tryd.ntmps37
  go_wp2
  go_ret
  exact ⟨rfl, rfl⟩

set_option maxHeartbeats 400000 in
theorem indexFunc_none (B : Nat) (m : Int) (A : Option Addr) (n c : Nat) (xs : List Int) (w : World) (hc : w.cell? ⟨B, 0, none⟩ = some (.int .i64 m)) (hr : ReadsI w A n xs) (hn : n ≤ 1000000) (hx : ∀ j, j < n → 0 ≤ xs.getD j 0 ∧ xs.getD j 0 ≤ m) :
    Calls Tryd.prog 48 #[.slice A n c, .func (.func 37) #[] #[.pointer (some ⟨B, 0, none⟩)]] w fun e w' => e = .returned (.int .i64 (-1)) ∧ w' = w := by
  go_enter Tryd.func48, Tryd.ntmps48
  go_wp2
  go_loop [8] (fun i => ∃ k : Nat, k ≤ n ∧ i = .int .i64 k) (fun i => n - (intOf i).toNat)
  case atStart => exact ⟨0, Nat.zero_le _, rfl⟩
  case round =>
    obtain ⟨k, hk, rfl⟩ := hrel
    by_cases hlt : k < n
    · obtain ⟨ad, rfl, hcs⟩ := hr.2 (by omega)
      have hck := hcs k hlt
      clear hcs
      have hxk := hx k hlt
      obtain ⟨v, hv⟩ : ∃ v, v = xs.getD k 0 := ⟨_, rfl⟩
      rw [← hv] at hck hxk
      clear hv
      go_wp2_with (go_at_call 37; refine (outside_no B m v w hc hxk.1 hxk.2).mono ?_; rintro e w' ⟨rfl, rfl⟩)
      go_round
      case rel => exact ⟨k + 1, by omega, by go_num⟩
      case measure => simp [intOf]; omega
    · go_wp2
      go_ret
      exact ⟨rfl, rfl⟩

set_option maxHeartbeats 400000 in
theorem containsFunc_none (B : Nat) (m : Int) (A : Option Addr) (n c : Nat) (xs : List Int) (w : World) (hc : w.cell? ⟨B, 0, none⟩ = some (.int .i64 m)) (hr : ReadsI w A n xs) (hn : n ≤ 1000000) (hx : ∀ j, j < n → 0 ≤ xs.getD j 0 ∧ xs.getD j 0 ≤ m) :
    Calls Tryd.prog 38 #[.slice A n c, .func (.func 37) #[] #[.pointer (some ⟨B, 0, none⟩)]] w fun e w' => e = .returned (.bool false) ∧ w' = w := by
  go_enter Tryd.func38, Tryd.ntmps38
  go_wp2_with (go_at_call 48; refine (indexFunc_none B m A n c xs w hc hr hn hx).mono ?_; rintro e w' ⟨rfl, rfl⟩)
  go_ret
  exact ⟨rfl, rfl⟩

set_option maxHeartbeats 400000 in
theorem outside_any (m : Int) (w : World) :
    Calls Tryd.prog 36 #[.int .i64 m] w fun e w' => e = .returned (.func (.func 37) #[] #[.pointer (some ⟨w.heap.size, 0, none⟩)]) ∧ w' = w.alloc (.cells #[.int .i64 m] 3) := by
  go_enter Tryd.func36, Tryd.ntmps36
  go_wp2
  go_ret
  exact ⟨rfl, rfl⟩

theorem cell_new_at (w : World) (cs : Array Value) (t : TypeId) (i : Nat) : (w.alloc (.cells cs t)).cell? ⟨w.heap.size, i, none⟩ = cs[i]? := by
  rw [Lib.cell_of_heap (heap_alloc_new w _)]

theorem cell_new_eq (w : World) (cs : Array Value) (t : TypeId) (i b : Nat) (h : b = w.heap.size) : (w.alloc (.cells cs t)).cell? ⟨b, i, none⟩ = cs[i]? := by rw [h, cell_new_at]
theorem readsI_alloc {w : World} {A : Option Addr} {n : Nat} {xs : List Int} (h : ReadsI w A n xs) (o : Obj) : ReadsI (w.alloc o) A n xs :=
  h.below (Nat.le_refl _) ((Below.refl _ _).alloc (Nat.le_refl _) _)
theorem readsI_drew {w : World} {A : Option Addr} {n : Nat} {xs : List Int} (h : ReadsI w A n xs) : ReadsI w.drew A n xs := h

set_option maxHeartbeats 4000000 in
set_option maxRecDepth 100000 in
theorem check_ok (A1 A2 : Option Addr) (c1 c2 : Nat) (w : World) (h1 : ReadsI w A1 2 [0, 2]) (h2 : ReadsI w A2 1 [3]) :
    Calls Tryd.prog 27 #[.agg #[.slice A1 2 c1, .slice A2 1 c2, .int .i64 0, .int .i64 0, .slice none 0 0]] w fun e w' => e = .returned (.int .i64 0) ∧ Below w.heap.size w w' := by
  obtain ⟨wa, hwa⟩ : ∃ wa, wa = w.alloc (Obj.cells #[.slice A1 2 c1, .slice A2 1 c2, .int .i64 0, .int .i64 0, .slice none 0 0] 46) := ⟨_, rfl⟩
  have hba : Below w.heap.size w wa := by rw [hwa]; exact (Below.refl _ _).alloc (Nat.le_refl _) _
  have r1 := h1.below (Nat.le_refl _) hba
  have r2 := h2.below (Nat.le_refl _) hba
  have hf0 : wa.cell? ⟨w.heap.size, 0, none⟩ = some (.slice A1 2 c1) := by rw [hwa, cell_new_at]; rfl
  have hf1 : wa.cell? ⟨w.heap.size, 1, none⟩ = some (.slice A2 1 c2) := by rw [hwa, cell_new_at]; rfl
  have hf2 : wa.cell? ⟨w.heap.size, 2, none⟩ = some (.int .i64 0) := by rw [hwa, cell_new_at]; rfl
  have HWA := Lib.hid hwa
  clear hwa
  go_enter Tryd.func27, Tryd.ntmps27
  go_wp2
  rw [← HWA.out]
  have k12 : ∀ (W : World) (B : Nat) (A : Option Addr) (n c : Nat), Below wa.heap.size wa W → ((A = A1 ∧ n = 2 ∧ W.cell? ⟨B, 0, none⟩ = some (.int .i64 3)) ∨ (A = A2 ∧ n = 1 ∧ W.cell? ⟨B, 0, none⟩ = some (.int .i64 6))) →
      Calls Tryd.prog 38 #[.slice A n c, .func (.func 37) #[] #[.pointer (some ⟨B, 0, none⟩)]] W fun e w' => e = .returned (.bool false) ∧ w' = W := by
    rintro W B A n c hb (⟨rfl, rfl, hc⟩ | ⟨rfl, rfl, hc⟩)
    · exact containsFunc_none B 3 _ 2 c [0, 2] W hc (r1.below (Nat.le_refl _) hb) (by omega) (fun j hj => by
        rcases j with _ | _ | j
        · simp
        · simp
        · omega)
    · exact containsFunc_none B 6 _ 1 c [3] W hc (r2.below (Nat.le_refl _) hb) (by omega) (fun j hj => by
        rcases j with _ | j
        · simp
        · omega)
  have K := Lib.hid k12
  clear k12 r1 r2 h1 h2
  have hsz : wa.heap.size = w.heap.size + 1 := by rw [HWA.out]; simp
  have KP : Hid (∀ W : World, Below wa.heap.size wa W → (W.cell? ⟨w.heap.size, 0, none⟩ = some (.slice A1 2 c1) ∧ W.cell? ⟨w.heap.size, 1, none⟩ = some (.slice A2 1 c2) ∧ W.cell? ⟨w.heap.size, 2, none⟩ = some (.int .i64 0))) :=
    fun W hb => ⟨(hb.cell (p := ⟨w.heap.size, 0, none⟩) (by simp; omega)).trans hf0, (hb.cell (p := ⟨w.heap.size, 1, none⟩) (by simp; omega)).trans hf1, (hb.cell (p := ⟨w.heap.size, 2, none⟩) (by simp; omega)).trans hf2⟩
  have HSZ := Lib.hid hsz
  clear hsz
  go_region_held3 (fun w' => w'.cell? ⟨w.heap.size, 0, none⟩ = some (.slice A1 2 c1) ∧ w'.cell? ⟨w.heap.size, 1, none⟩ = some (.slice A2 1 c2) ∧ w'.cell? ⟨w.heap.size, 2, none⟩ = some (.int .i64 0))
    (first | exact KP.out _ (by repeat (first | exact Below.refl _ _ | refine Below.drew ?_ | refine Below.alloc ?_ (by simp <;> omega) _)))
    (first
      | (go_at_call 36; ((with_reducible refine (outside_any _ _).mono ?_); rintro e w1 ⟨rfl, rfl⟩))
      | (go_at_call 38; ((with_reducible refine (K.out _ _ _ _ _ (by repeat (first | exact Below.refl _ _ | refine Below.drew ?_ | refine Below.alloc ?_ (by simp <;> omega) _)) (by first | exact .inl ⟨rfl, rfl, by simp⟩ | exact .inr ⟨rfl, rfl, by simp⟩)).mono ?_); rintro e w1 ⟨rfl, rfl⟩))
      | (go_at_call 37; ((with_reducible refine (outside_no _ 20000 0 _ (by first | (simp; done) | exact cell_new_eq _ _ _ _ _ (by first | rfl | simp) | exact (World.cell?_drew _ _).trans (cell_new_eq _ _ _ _ _ (by first | rfl | simp))) (by omega) (by omega)).mono ?_); rintro e w1 ⟨rfl, rfl⟩)))
  all_goals go_wp2
  all_goals go_ret
  all_goals exact ⟨rfl, hba.trans ((show Below wa.heap.size wa _ by repeat (first | exact Below.refl _ _ | refine Below.drew ?_ | refine Below.alloc ?_ (by simp <;> omega) _)).mono (by have := HSZ.out; omega))⟩
end Go.Proofs.YtledkbgjjmdflaaDoor.Obs
