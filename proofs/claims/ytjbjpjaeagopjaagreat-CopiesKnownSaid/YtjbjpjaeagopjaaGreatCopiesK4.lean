/- One of the law's calls, run: the answer is true. -/
import Derived.Test.YtjbjpjaeagopjaaGreatCopiesP6
import Derived.Test.YtjbjpjaeagopjaaGreatCopiesP7
namespace Go.Proofs.YtjbjpjaeagopjaaGreat.Copies
open Go Go.Proofs.YtjbjpjaeagopjaaGreat.Ev
def a4 : List SV := [.lit (.string (bs [109, 97, 105, 110, 32, 102, 59, 32, 102, 117, 110, 99, 32, 102, 32, 112, 97, 114, 97, 109, 115, 32, 48, 32, 114, 101, 103, 115, 32, 50, 32, 123, 32, 98, 48, 58, 32, 114, 48, 32, 61, 32, 53, 59, 32, 106, 117, 109, 112, 32, 98, 49, 59, 32, 98, 49, 58, 32, 114, 49, 32, 61, 32, 112, 104, 105, 32, 98, 48, 58, 32, 114, 48, 44, 32, 98, 49, 58, 32, 114, 49, 59, 32, 106, 117, 109, 112, 32, 98, 49, 59, 32, 125])), .lit (.string (bs [109, 97, 105, 110, 32, 102, 59, 32, 102, 117, 110, 99, 32, 102, 32, 112, 97, 114, 97, 109, 115, 32, 48, 32, 114, 101, 103, 115, 32, 50, 32, 123, 32, 98, 48, 58, 32, 114, 48, 32, 61, 32, 53, 59, 32, 106, 117, 109, 112, 32, 98, 49, 59, 32, 98, 49, 58, 32, 114, 49, 32, 61, 32, 53, 59, 32, 106, 117, 109, 112, 32, 98, 49, 59, 32, 125])), .agg [.int .i64 (-1), .lit (.slice none 0 0)], .int .i64 2]
theorem t4_ok : TabOk Tryz.prog [p6, p7] := fun x hx => by
  simp only [List.mem_cons, List.not_mem_nil, or_false] at hx
  rcases hx with rfl | rfl
  · exact r6
  · exact r7
set_option maxRecDepth 1000000 in
theorem k4 : evCall Tryz.prog 307 100000 [p6, p7] 60 8 a4 ⟨.e, 0, 0, 0⟩ (fun sv _ => isT sv) = true := by kernel_rfl
theorem e4 : EntOk Tryz.prog ⟨8, a4, .bool true, 0, 0, []⟩ := ent_true t4_ok mixed (fnsOk_of 307 fns) (l := a4) rfl isT_flat k4
end Go.Proofs.YtjbjpjaeagopjaaGreat.Copies
