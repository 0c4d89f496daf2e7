/- The law, run: its answer is true. -/
import Derived.Test.YtjbjpjaeagopjaaGreatDoorPeepK1
import Derived.Test.YtjbjpjaeagopjaaGreatDoorPeepK2
import Derived.Test.YtjbjpjaeagopjaaGreatDoorPeepK3
import Derived.Test.YtjbjpjaeagopjaaGreatDoorPeepK4
import Derived.Test.YtjbjpjaeagopjaaGreatDoorPeepK5
import Derived.Test.YtjbjpjaeagopjaaGreatDoorPeepP3
import Derived.Test.YtjbjpjaeagopjaaGreatDoorPeepP9
namespace Go.Proofs.YtjbjpjaeagopjaaGreatDoor.Peep
open Go Go.RowKit Go.Proofs.YtjbjpjaeagopjaaGreatDoor.Ev
theorem tab_ok : TabOk Tryz.prog [⟨10, a1, .bool true, 0, 0, []⟩, ⟨10, a2, .bool true, 0, 0, []⟩, ⟨10, a3, .bool true, 0, 0, []⟩, ⟨10, a4, .bool true, 0, 0, []⟩, ⟨10, a5, .bool true, 0, 0, []⟩, p3, p9] := fun x hx => by
  simp only [List.mem_cons, List.not_mem_nil, or_false] at hx
  rcases hx with rfl | rfl | rfl | rfl | rfl | rfl | rfl
  · exact e1
  · exact e2
  · exact e3
  · exact e4
  · exact e5
  · exact r3
  · exact r9
set_option maxRecDepth 1000000 in
theorem run : evCall Tryz.prog 271 100000 [⟨10, a1, .bool true, 0, 0, []⟩, ⟨10, a2, .bool true, 0, 0, []⟩, ⟨10, a3, .bool true, 0, 0, []⟩, ⟨10, a4, .bool true, 0, 0, []⟩, ⟨10, a5, .bool true, 0, 0, []⟩, p3, p9] 60 4 [] ⟨.e, 0, 0, 0⟩ (fun sv _ => isT sv) = true := by kernel_rfl
theorem known (w : World) (h : Lib.TabIs Tryz.prog w "math/bits.deBruijn64tab" .u8 debs) : Calls Tryz.prog 4 #[] w fun e w' => e = .returned (.bool true) ∧ Below w.heap.size w w' :=
  calls_of_ev tab_ok mixed (fnsOk_of 271 fns) (l := []) rfl isT_flat run w (gok_of h)
end Go.Proofs.YtjbjpjaeagopjaaGreatDoor.Peep
