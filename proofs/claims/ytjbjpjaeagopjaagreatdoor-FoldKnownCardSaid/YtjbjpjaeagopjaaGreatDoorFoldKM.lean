/- The law, run: its answer is true. -/
import Derived.Test.YtjbjpjaeagopjaaGreatDoorFoldK1
import Derived.Test.YtjbjpjaeagopjaaGreatDoorFoldP3
import Derived.Test.YtjbjpjaeagopjaaGreatDoorFoldP4
namespace Go.Proofs.YtjbjpjaeagopjaaGreatDoor.Fold
open Go Go.RowKit Go.Proofs.YtjbjpjaeagopjaaGreatDoor.Ev
theorem tab_ok : TabOk Tryz.prog [⟨9, [], .bool true, 0, 0, []⟩, p3, p4] := fun x hx => by
  simp only [List.mem_cons, List.not_mem_nil, or_false] at hx
  rcases hx with rfl | rfl | rfl
  · exact e1
  · exact r3
  · exact r4
set_option maxRecDepth 1000000 in
theorem run : evCall Tryz.prog 271 100000 [⟨9, [], .bool true, 0, 0, []⟩, p3, p4] 60 3 [] ⟨.e, 0, 0, 0⟩ (fun sv _ => isT sv) = true := by kernel_rfl
theorem known (w : World) (h : w.var? Tryz.prog "cupel/fold.varying" = some vary.toArray) : Calls Tryz.prog 3 #[] w fun e w' => e = .returned (.bool true) ∧ Below w.heap.size w w' :=
  calls_of_ev tab_ok mixed (fnsOk_of 271 fns) (l := []) rfl isT_flat run w (gok_of h)
end Go.Proofs.YtjbjpjaeagopjaaGreatDoor.Fold
