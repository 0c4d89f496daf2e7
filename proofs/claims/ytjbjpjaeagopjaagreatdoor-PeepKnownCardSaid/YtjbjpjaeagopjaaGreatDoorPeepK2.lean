/- One of the law's calls, run: the answer is true. -/
import Derived.Test.YtjbjpjaeagopjaaGreatDoorPeepP3
import Derived.Test.YtjbjpjaeagopjaaGreatDoorPeepP4
namespace Go.Proofs.YtjbjpjaeagopjaaGreatDoor.Peep
open Go Go.Proofs.YtjbjpjaeagopjaaGreatDoor.Ev
def a2 : List SV := [.lit (.string (bs [109, 97, 105, 110, 32, 103, 59, 32, 102, 117, 110, 99, 32, 102, 32, 112, 97, 114, 97, 109, 115, 32, 49, 32, 114, 101, 103, 115, 32, 51, 32, 123, 32, 98, 48, 58, 32, 114, 49, 32, 61, 32, 109, 117, 108, 32, 114, 48, 44, 32, 52, 59, 32, 114, 50, 32, 61, 32, 100, 105, 118, 32, 114, 48, 44, 32, 52, 59, 32, 114, 101, 116, 117, 114, 110, 59, 32, 125, 32, 102, 117, 110, 99, 32, 103, 32, 112, 97, 114, 97, 109, 115, 32, 48, 32, 114, 101, 103, 115, 32, 48, 32, 123, 32, 98, 48, 58, 32, 114, 101, 116, 117, 114, 110, 59, 32, 125])), .lit (.string (bs [109, 97, 105, 110, 32, 103, 59, 32, 102, 117, 110, 99, 32, 102, 32, 112, 97, 114, 97, 109, 115, 32, 49, 32, 114, 101, 103, 115, 32, 51, 32, 123, 32, 98, 48, 58, 32, 114, 49, 32, 61, 32, 115, 104, 108, 32, 114, 48, 44, 32, 50, 59, 32, 114, 50, 32, 61, 32, 100, 105, 118, 32, 114, 48, 44, 32, 52, 59, 32, 114, 101, 116, 117, 114, 110, 59, 32, 125, 32, 102, 117, 110, 99, 32, 103, 32, 112, 97, 114, 97, 109, 115, 32, 48, 32, 114, 101, 103, 115, 32, 48, 32, 123, 32, 98, 48, 58, 32, 114, 101, 116, 117, 114, 110, 59, 32, 125])), .agg [.int .i64 (-1), .lit (.slice none 0 0)], .int .i64 1]
theorem t2_ok : TabOk Tryz.prog [p3, p4] := fun x hx => by
  simp only [List.mem_cons, List.not_mem_nil, or_false] at hx
  rcases hx with rfl | rfl
  · exact r3
  · exact r4
set_option maxRecDepth 1000000 in
theorem k2 : evCall Tryz.prog 271 100000 [p3, p4] 60 10 a2 ⟨.e, 0, 0, 0⟩ (fun sv _ => isT sv) = true := by kernel_rfl
theorem e2 : EntOk Tryz.prog ⟨10, a2, .bool true, 0, 0, []⟩ := ent_true t2_ok mixed (fnsOk_of 271 fns) (l := a2) rfl isT_flat k2
end Go.Proofs.YtjbjpjaeagopjaaGreatDoor.Peep
