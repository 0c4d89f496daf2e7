/- The reference's number and digits. -/
import Derived.Test.YtledkbgjjmdflaaDoorRefA
namespace Go.Proofs.YtledkbgjjmdflaaDoor.Obs
open Go Go.RowKit Go.Proofs Go.Shelf Go.Sort

theorem dec_le (u : Nat) : ∀ k, u < 10 ^ k → 0 < k → (Lib.decDigits u).length ≤ k := by
  induction u using Nat.strongRecOn with
  | _ u ih =>
    intro k hk h0
    by_cases h : u < 10
    · rw [Lib.decDigits, dif_pos h]; simp; omega
    · rw [Lib.decDigits, dif_neg h, List.length_append]
      have hk1 : 1 < k := by
        rcases Nat.lt_or_ge 1 k with h1 | h1
        · exact h1
        · have : k = 1 := by omega
          subst this
          omega
      obtain ⟨j, rfl⟩ : ∃ j, k = j + 1 := ⟨k - 1, by omega⟩
      have := ih (u / 10) (by omega) j (by rw [Nat.pow_succ] at hk; omega) (by omega)
      simp
      omega
theorem dec_size (u : Nat) (hu : u ≤ 9223372036854775808) : (⟨(Lib.decDigits u).toArray⟩ : ByteArray).size ≤ 19 := by
  have := dec_le u 19 (by omega) (by omega)
  simpa [ByteArray.size] using this
theorem ret_s {a b : ByteArray} (h : a = b) : Ending.returned (.string a) = Ending.returned (.string b) := by rw [h]
theorem one_byte (u : Nat) (w : World) : (convert 53 9 (.slice (some ⟨w.heap.size, 0, none⟩) 1 1)).run Tryd.prog (w.alloc (Obj.cells #[.int .u8 (48 + (u : Int) % 10)] 5)) = .ok (.string ⟨#[UInt8.ofNat (48 + u % 10)]⟩) (w.alloc (Obj.cells #[.int .u8 (48 + (u : Int) % 10)] 5)) := by
  have h := run_convert_bytes_back (P := Tryd.prog) (w.alloc (Obj.cells #[.int .u8 (48 + (u : Int) % 10)] 5)) 53 9 5 ⟨w.heap.size, 0, none⟩ 1 [UInt8.ofNat (48 + u % 10)] Tryd.underlying53 (by kernel_rfl) Tryd.underlying9 (by
    intro j hj
    have h0 : j = 0 := by simpa using hj
    subst h0
    have : (⟨w.heap.size, 0, none⟩ : Addr).add 0 = ⟨w.heap.size, 0, none⟩ := rfl
    rw [this, Lib.cell_of_heap (heap_alloc_new w _)]
    have e : ((UInt8.ofNat (48 + u % 10)).toNat : Int) = 48 + (u : Int) % 10 := by
      simp only [UInt8.toNat_ofNat']
      omega
    simp only [List.getElem_cons_zero, e]
    rfl)
  exact h

set_option maxHeartbeats 1000000 in
set_option maxRecDepth 10000 in
theorem digits_any (u : Nat) : ∀ (w : World), u ≤ 9223372036854775808 → Calls Tryd.prog 35 #[.int .i64 (-(u : Int))] w (RetB (.string ⟨(Lib.decDigits u).toArray⟩) w) := by
  induction u using Nat.strongRecOn with
  | _ u ih =>
    intro w hu
    have HU := Lib.hid hu
    have kc := one_byte u w
    obtain ⟨s, hs⟩ : ∃ s : UInt8, s = UInt8.ofNat (48 + u % 10) := ⟨_, rfl⟩
    rw [← hs] at kc
    have HSS := Lib.hid hs
    obtain ⟨R, hR⟩ : ∃ R, R = (⟨(Lib.decDigits u).toArray⟩ : ByteArray) := ⟨_, rfl⟩
    rw [← hR]
    by_cases h10 : u < 10
    · have hz : (-((u : Int) / 10) == 0) = true := by simp; omega
      have hz2 : (u : Int) / 10 = 0 := by omega
      have HFIN : Hid (⟨#[s]⟩ = R) := by
        show _ = _
        rw [hR, Lib.decDigits, dif_pos h10, hs, Nat.mod_eq_of_lt h10]
      clear ih hu hs hR
      go_enter Tryd.func35, Tryd.ntmps35
      go_wp2
      go_ret
      exact ⟨ret_s HFIN.out, (Below.refl _ _).alloc (Nat.le_refl _) _⟩
    · have hz : (-((u : Int) / 10) == 0) = false := by simp; omega
      have hz2 : ¬ (u : Int) / 10 = 0 := by omega
      have wz : wrap64 (-((u : Int) / 10)) = -((u : Int) / 10) := by unfold wrap64; omega
      have K : Hid (Calls Tryd.prog 35 #[.int .i64 (-((u : Int) / 10))] (w.alloc (Obj.cells #[.int .u8 (48 + (u : Int) % 10)] 5)) (RetB (.string ⟨(Lib.decDigits (u / 10)).toArray⟩) (w.alloc (Obj.cells #[.int .u8 (48 + (u : Int) % 10)] 5)))) := by
        have := ih (u / 10) (by omega) (w.alloc (Obj.cells #[.int .u8 (48 + (u : Int) % 10)] 5)) (by omega)
        rw [show ((u / 10 : Nat) : Int) = (u : Int) / 10 by omega] at this
        exact this
      obtain ⟨s2, hs2⟩ : ∃ s : ByteArray, s = ⟨(Lib.decDigits (u / 10)).toArray⟩ := ⟨_, rfl⟩
      rw [← hs2] at K
      have hz19 : s2.size ≤ 19 := by rw [hs2]; exact dec_size _ (by omega)
      have HFIN : Hid (s2 ++ ⟨#[s]⟩ = R) := by
        show _ = _
        rw [hR, Lib.decDigits, dif_neg h10, hs2, hs]
        exact ByteArray.ext (by simp)
      have hba : Below w.heap.size w (w.alloc (Obj.cells #[.int .u8 (48 + (u : Int) % 10)] 5)) := (Below.refl _ _).alloc (Nat.le_refl _) _
      have HBA := Lib.hid hba
      clear ih hu hs hR hs2 hba
      go_enter Tryd.func35, Tryd.ntmps35
      go_wp2_with fail
      refine K.out.mono ?_
      rintro e w1 ⟨rfl, hb1⟩
      go_wp2
      go_ret
      exact ⟨ret_s HFIN.out, HBA.out.trans (hb1.mono HBA.out.size)⟩

set_option maxHeartbeats 1000000 in
set_option maxRecDepth 10000 in
theorem number_any (v : Int) (hv : I64 v) (w : World) : Calls Tryd.prog 25 #[.int .i64 v] w (RetB (.string ⟨(Lib.itoa v).toArray⟩) w) := by
  obtain ⟨R, hR⟩ : ∃ R, R = (⟨(Lib.itoa v).toArray⟩ : ByteArray) := ⟨_, rfl⟩
  rw [← hR]
  by_cases h0 : v < 0
  · have K := digits_any v.natAbs w (by have := hv.1; omega)
    rw [show (-(v.natAbs : Int)) = v by omega] at K
    obtain ⟨s2, hs2⟩ : ∃ s : ByteArray, s = ⟨(Lib.decDigits v.natAbs).toArray⟩ := ⟨_, rfl⟩
    rw [← hs2] at K
    have hz19 : s2.size ≤ 19 := by rw [hs2]; exact dec_size _ (by have := hv.1; omega)
    have HFIN : Hid ((⟨#[45]⟩ : ByteArray) ++ s2 = R) := by
      show _ = _
      rw [hR, Lib.itoa, if_pos h0, hs2]
      exact ByteArray.ext (by simp)
    have HK := Lib.hid K
    clear K hs2 hR hv
    go_enter Tryd.func25, Tryd.ntmps25
    go_wp2_with fail
    refine HK.out.mono ?_
    rintro e w1 ⟨rfl, hb1⟩
    go_wp2
    go_ret
    exact ⟨ret_s HFIN.out, hb1⟩
  · have K := digits_any v.toNat w (by have := hv.2; omega)
    rw [show (-(v.toNat : Int)) = -v by omega] at K
    have HFIN : Hid ((⟨(Lib.decDigits v.toNat).toArray⟩ : ByteArray) = R) := by
      show _ = _
      rw [hR, Lib.itoa, if_neg h0]
    have wv : IntKind.i64.wrap (-v) = -v := by rw [IntKind.wrap_i64]; have := hv.2; omega
    have HK := Lib.hid K
    clear K hR hv
    go_enter Tryd.func25, Tryd.ntmps25
    go_wp2_with fail
    refine HK.out.mono ?_
    rintro e w1 ⟨rfl, hb1⟩
    go_wp2
    go_ret
    exact ⟨ret_s HFIN.out, hb1⟩
end Go.Proofs.YtledkbgjjmdflaaDoor.Obs
