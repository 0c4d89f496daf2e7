/- One of the law's calls, run: the answer is true. -/
import Derived.Test.YtjbjpjaeagopjaaGreatDoorPeepP5
import Derived.Test.YtjbjpjaeagopjaaGreatDoorPeepP6
namespace Go.Proofs.YtjbjpjaeagopjaaGreatDoor.Peep
open Go Go.Proofs.YtjbjpjaeagopjaaGreatDoor.Ev
def a3 : List SV := [.lit (.string (bs [109, 97, 105, 110, 32, 103, 59, 32, 102, 117, 110, 99, 32, 102, 32, 112, 97, 114, 97, 109, 115, 32, 49, 32, 114, 101, 103, 115, 32, 51, 32, 123, 32, 98, 48, 58, 32, 114, 49, 32, 61, 32, 108, 116, 32, 114, 48, 44, 32, 53, 59, 32, 114, 50, 32, 61, 32, 101, 113, 32, 114, 49, 44, 32, 48, 59, 32, 98, 114, 97, 110, 99, 104, 32, 114, 50, 44, 32, 98, 49, 44, 32, 98, 50, 59, 32, 98, 49, 58, 32, 114, 101, 116, 117, 114, 110, 59, 32, 98, 50, 58, 32, 116, 114, 97, 112, 59, 32, 125, 32, 102, 117, 110, 99, 32, 103, 32, 112, 97, 114, 97, 109, 115, 32, 48, 32, 114, 101, 103, 115, 32, 48, 32, 123, 32, 98, 48, 58, 32, 114, 101, 116, 117, 114, 110, 59, 32, 125])), .lit (.string (bs [109, 97, 105, 110, 32, 103, 59, 32, 102, 117, 110, 99, 32, 102, 32, 112, 97, 114, 97, 109, 115, 32, 49, 32, 114, 101, 103, 115, 32, 51, 32, 123, 32, 98, 48, 58, 32, 114, 49, 32, 61, 32, 108, 116, 32, 114, 48, 44, 32, 53, 59, 32, 114, 50, 32, 61, 32, 108, 101, 32, 53, 44, 32, 114, 48, 59, 32, 98, 114, 97, 110, 99, 104, 32, 114, 50, 44, 32, 98, 49, 44, 32, 98, 50, 59, 32, 98, 49, 58, 32, 114, 101, 116, 117, 114, 110, 59, 32, 98, 50, 58, 32, 116, 114, 97, 112, 59, 32, 125, 32, 102, 117, 110, 99, 32, 103, 32, 112, 97, 114, 97, 109, 115, 32, 48, 32, 114, 101, 103, 115, 32, 48, 32, 123, 32, 98, 48, 58, 32, 114, 101, 116, 117, 114, 110, 59, 32, 125])), .agg [.int .i64 (-1), .lit (.slice none 0 0)], .int .i64 1]
theorem t3_ok : TabOk Tryz.prog [p5, p6] := fun x hx => by
  simp only [List.mem_cons, List.not_mem_nil, or_false] at hx
  rcases hx with rfl | rfl
  · exact r5
  · exact r6
set_option maxRecDepth 1000000 in
theorem k3 : evCall Tryz.prog 271 100000 [p5, p6] 60 10 a3 ⟨.e, 0, 0, 0⟩ (fun sv _ => isT sv) = true := by kernel_rfl
theorem e3 : EntOk Tryz.prog ⟨10, a3, .bool true, 0, 0, []⟩ := ent_true t3_ok mixed (fnsOk_of 271 fns) (l := a3) rfl isT_flat k3
end Go.Proofs.YtjbjpjaeagopjaaGreatDoor.Peep
