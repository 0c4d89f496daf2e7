/- The law, run: its answer is true. -/
import Derived.Test.YtjbjpjaeagopjaaGreatCopiesK1
import Derived.Test.YtjbjpjaeagopjaaGreatCopiesK2
import Derived.Test.YtjbjpjaeagopjaaGreatCopiesK3
import Derived.Test.YtjbjpjaeagopjaaGreatCopiesK4
import Derived.Test.YtjbjpjaeagopjaaGreatCopiesK5
import Derived.Test.YtjbjpjaeagopjaaGreatCopiesP5
import Derived.Test.YtjbjpjaeagopjaaGreatCopiesP8
namespace Go.Proofs.YtjbjpjaeagopjaaGreat.Copies
open Go Go.RowKit Go.Proofs.YtjbjpjaeagopjaaGreat.Ev
theorem tab_ok : TabOk Tryz.prog [⟨8, a1, .bool true, 0, 0, []⟩, ⟨8, a2, .bool true, 0, 0, []⟩, ⟨8, a3, .bool true, 0, 0, []⟩, ⟨8, a4, .bool true, 0, 0, []⟩, ⟨8, a5, .bool true, 0, 0, []⟩, p5, p8] := fun x hx => by
  simp only [List.mem_cons, List.not_mem_nil, or_false] at hx
  rcases hx with rfl | rfl | rfl | rfl | rfl | rfl | rfl
  · exact e1
  · exact e2
  · exact e3
  · exact e4
  · exact e5
  · exact r5
  · exact r8
set_option maxRecDepth 1000000 in
theorem run : evCall Tryz.prog 307 100000 [⟨8, a1, .bool true, 0, 0, []⟩, ⟨8, a2, .bool true, 0, 0, []⟩, ⟨8, a3, .bool true, 0, 0, []⟩, ⟨8, a4, .bool true, 0, 0, []⟩, ⟨8, a5, .bool true, 0, 0, []⟩, p5, p8] 60 4 [] ⟨.e, 0, 0, 0⟩ (fun sv _ => isT sv) = true := by kernel_rfl
theorem known (w : World) : Calls Tryz.prog 4 #[] w fun e w' => e = .returned (.bool true) ∧ Below w.heap.size w w' :=
  calls_of_ev tab_ok mixed (fnsOk_of 307 fns) (l := []) rfl isT_flat run w (gok w)
end Go.Proofs.YtjbjpjaeagopjaaGreat.Copies
