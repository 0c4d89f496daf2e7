/- One of the law's calls, run: the answer is true. -/
import Derived.Test.YtjbjpjaeagopjaaGreatHoistP5
import Derived.Test.YtjbjpjaeagopjaaGreatHoistS
namespace Go.Proofs.YtjbjpjaeagopjaaGreat.Hoist
open Go Go.Proofs.YtjbjpjaeagopjaaGreat.Ev
def a3 : List SV := [.lit (.string (bs [109, 97, 105, 110, 32, 103, 59, 32, 102, 117, 110, 99, 32, 102, 32, 112, 97, 114, 97, 109, 115, 32, 49, 32, 114, 101, 103, 115, 32, 50, 32, 123, 32, 98, 48, 58, 32, 106, 117, 109, 112, 32, 98, 49, 59, 32, 98, 49, 58, 32, 114, 49, 32, 61, 32, 100, 105, 118, 32, 53, 44, 32, 114, 48, 59, 32, 112, 114, 105, 110, 116, 32, 114, 49, 59, 32, 98, 114, 97, 110, 99, 104, 32, 114, 48, 44, 32, 98, 49, 44, 32, 98, 50, 59, 32, 98, 50, 58, 32, 114, 101, 116, 117, 114, 110, 59, 32, 125, 32, 102, 117, 110, 99, 32, 103, 32, 112, 97, 114, 97, 109, 115, 32, 48, 32, 114, 101, 103, 115, 32, 48, 32, 123, 32, 98, 48, 58, 32, 114, 101, 116, 117, 114, 110, 59, 32, 125])), .lit (.string (bs [109, 97, 105, 110, 32, 103, 59, 32, 102, 117, 110, 99, 32, 102, 32, 112, 97, 114, 97, 109, 115, 32, 49, 32, 114, 101, 103, 115, 32, 50, 32, 123, 32, 98, 48, 58, 32, 106, 117, 109, 112, 32, 98, 49, 59, 32, 98, 49, 58, 32, 114, 49, 32, 61, 32, 100, 105, 118, 32, 53, 44, 32, 114, 48, 59, 32, 112, 114, 105, 110, 116, 32, 114, 49, 59, 32, 98, 114, 97, 110, 99, 104, 32, 114, 48, 44, 32, 98, 49, 44, 32, 98, 50, 59, 32, 98, 50, 58, 32, 114, 101, 116, 117, 114, 110, 59, 32, 125, 32, 102, 117, 110, 99, 32, 103, 32, 112, 97, 114, 97, 109, 115, 32, 48, 32, 114, 101, 103, 115, 32, 48, 32, 123, 32, 98, 48, 58, 32, 114, 101, 116, 117, 114, 110, 59, 32, 125])), .agg [.int .i64 (-1), .lit (.slice none 0 0)], .int .i64 0]
theorem t3_ok : TabOk Tryz.prog [p5, s1, s2, s3, s4, s5, s6] := fun x hx => by
  simp only [List.mem_cons, List.not_mem_nil, or_false] at hx
  rcases hx with rfl | rfl | rfl | rfl | rfl | rfl | rfl
  · exact r5
  · exact sr1
  · exact sr2
  · exact sr3
  · exact sr4
  · exact sr5
  · exact sr6
set_option maxRecDepth 1000000 in
theorem k3 : evCall Tryz.prog 307 100000 [p5, s1, s2, s3, s4, s5, s6] 60 10 a3 ⟨.e, 0, 0, 0⟩ (fun sv _ => isT sv) = true := by kernel_rfl
theorem e3 : EntOk Tryz.prog ⟨10, a3, .bool true, 0, 0, []⟩ := ent_true t3_ok mixed (fnsOk_of 307 fns) (l := a3) rfl isT_flat k3
end Go.Proofs.YtjbjpjaeagopjaaGreat.Hoist
