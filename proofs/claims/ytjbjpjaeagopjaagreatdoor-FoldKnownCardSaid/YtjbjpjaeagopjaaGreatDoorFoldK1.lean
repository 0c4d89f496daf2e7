/- The law's awake, run: the answer is true. -/
import Derived.Test.YtjbjpjaeagopjaaGreatDoorFoldP1
import Derived.Test.YtjbjpjaeagopjaaGreatDoorFoldP2
namespace Go.Proofs.YtjbjpjaeagopjaaGreatDoor.Fold
open Go Go.Proofs.YtjbjpjaeagopjaaGreatDoor.Ev
theorem t1_ok : TabOk Tryz.prog [p1, p2] := fun x hx => by
  simp only [List.mem_cons, List.not_mem_nil, or_false] at hx
  rcases hx with rfl | rfl
  · exact r1
  · exact r2
set_option maxRecDepth 1000000 in
theorem k1 : evCall Tryz.prog 271 100000 [p1, p2] 60 9 [] ⟨.e, 0, 0, 0⟩ (fun sv _ => isT sv) = true := by kernel_rfl
theorem e1 : EntOk Tryz.prog ⟨9, [], .bool true, 0, 0, []⟩ := ent_true t1_ok mixed (fnsOk_of 271 fns) (l := []) rfl isT_flat k1
end Go.Proofs.YtjbjpjaeagopjaaGreatDoor.Fold
