/- The merge by rotations: more fuel than the range is long changes nothing. No program in sight. -/
import Derived.Test.YtledkbgjjmdflaaDoorSym6
namespace Go.Proofs.YtledkbgjjmdflaaDoor.Stab
open Go.Sort
variable {α : Type} [Inhabited α]

theorem symM_fuel (lt : α → α → Bool) : ∀ (f g : Nat) (d : Array α) (a m b : Nat), a < m → m < b → b - a ≤ f → b - a ≤ g → symM lt f d a m b = symM lt g d a m b
  | 0, _, _, _, _, _, _, _, h, _ => by omega
  | _ + 1, 0, _, _, _, _, _, _, _, h => by omega
  | f + 1, g + 1, d, a, m, b, ham, hmb, hf, hg => by
    rw [symM, symM]
    split
    · rfl
    split
    · rfl
    simp only
    generalize hs0 : (if (a + b) / 2 < m then (a + b) / 2 + m - b else a) = s0
    generalize hr0 : (if (a + b) / 2 < m then (a + b) / 2 else m) = r0
    have s0n : (a + b) / 2 + m ≤ s0 + b := by rw [← hs0]; split <;> omega
    have s0a : a ≤ s0 := by rw [← hs0]; split <;> omega
    have r0d : r0 ≤ (a + b) / 2 := by rw [← hr0]; split <;> omega
    have sr : s0 ≤ r0 := by rw [← hs0, ← hr0]; split <;> omega
    obtain ⟨h1, h2⟩ := bsr_le (r0 - s0) (fun c => !lt d[(a + b) / 2 + m - 1 - c]! d[c]!) s0 r0 sr (Nat.le_refl _)
    generalize bsr (r0 - s0) (fun c => !lt d[(a + b) / 2 + m - 1 - c]! d[c]!) s0 r0 = st at *
    generalize (if st < m ∧ m < (a + b) / 2 + m - st then rotN ((a + b) / 2 + m - st - st) d m (m - st) ((a + b) / 2 + m - st - m) else d) = d1
    have e1 : (if a < st ∧ st < (a + b) / 2 then symM lt f d1 a st ((a + b) / 2) else d1) = (if a < st ∧ st < (a + b) / 2 then symM lt g d1 a st ((a + b) / 2) else d1) := by
      split
      · rename_i hc
        exact symM_fuel lt f g d1 a st _ hc.1 hc.2 (by omega) (by omega)
      · rfl
    rw [e1]
    generalize (if a < st ∧ st < (a + b) / 2 then symM lt g d1 a st ((a + b) / 2) else d1) = d2
    split
    · rename_i hc
      exact symM_fuel lt f g d2 _ _ b hc.1 hc.2 (by omega) (by omega)
    · rfl
end Go.Proofs.YtledkbgjjmdflaaDoor.Stab
