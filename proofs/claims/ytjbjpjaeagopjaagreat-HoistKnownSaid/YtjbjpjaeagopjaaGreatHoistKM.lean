/- The law, run: its answer is true. -/
import Derived.Test.YtjbjpjaeagopjaaGreatHoistK1
import Derived.Test.YtjbjpjaeagopjaaGreatHoistK2
import Derived.Test.YtjbjpjaeagopjaaGreatHoistK3
import Derived.Test.YtjbjpjaeagopjaaGreatHoistK4
import Derived.Test.YtjbjpjaeagopjaaGreatHoistP5
import Derived.Test.YtjbjpjaeagopjaaGreatHoistP6
namespace Go.Proofs.YtjbjpjaeagopjaaGreat.Hoist
open Go Go.RowKit Go.Proofs.YtjbjpjaeagopjaaGreat.Ev
theorem tab_ok : TabOk Tryz.prog [⟨10, a1, .bool true, 0, 0, []⟩, ⟨10, a2, .bool true, 0, 0, []⟩, ⟨10, a3, .bool true, 0, 0, []⟩, ⟨10, a4, .bool true, 0, 0, []⟩, p5, p6, s1, s2, s3, s4, s5, s6] := fun x hx => by
  simp only [List.mem_cons, List.not_mem_nil, or_false] at hx
  rcases hx with rfl | rfl | rfl | rfl | rfl | rfl | rfl | rfl | rfl | rfl | rfl | rfl
  · exact e1
  · exact e2
  · exact e3
  · exact e4
  · exact r5
  · exact r6
  · exact sr1
  · exact sr2
  · exact sr3
  · exact sr4
  · exact sr5
  · exact sr6
set_option maxRecDepth 1000000 in
theorem run : evCall Tryz.prog 307 100000 [⟨10, a1, .bool true, 0, 0, []⟩, ⟨10, a2, .bool true, 0, 0, []⟩, ⟨10, a3, .bool true, 0, 0, []⟩, ⟨10, a4, .bool true, 0, 0, []⟩, p5, p6, s1, s2, s3, s4, s5, s6] 60 5 [] ⟨.e, 0, 0, 0⟩ (fun sv _ => isT sv) = true := by kernel_rfl
theorem known (w : World) : Calls Tryz.prog 5 #[] w fun e w' => e = .returned (.bool true) ∧ Below w.heap.size w w' :=
  calls_of_ev tab_ok mixed (fnsOk_of 307 fns) (l := []) rfl isT_flat run w (gok w)
end Go.Proofs.YtjbjpjaeagopjaaGreat.Hoist
