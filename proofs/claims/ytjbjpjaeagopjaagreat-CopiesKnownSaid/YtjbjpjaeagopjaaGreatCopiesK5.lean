/- One of the law's calls, run: the answer is true. -/
import Derived.Test.YtjbjpjaeagopjaaGreatCopiesP1
namespace Go.Proofs.YtjbjpjaeagopjaaGreat.Copies
open Go Go.Proofs.YtjbjpjaeagopjaaGreat.Ev
def a5 : List SV := [.lit (.string (bs [109, 97, 105, 110, 32, 103, 59, 32, 102, 117, 110, 99, 32, 102, 32, 112, 97, 114, 97, 109, 115, 32, 49, 32, 114, 101, 103, 115, 32, 51, 32, 123, 32, 98, 48, 58, 32, 114, 49, 32, 61, 32, 97, 100, 100, 32, 114, 48, 44, 32, 50, 59, 32, 114, 50, 32, 61, 32, 97, 100, 100, 32, 50, 44, 32, 114, 48, 59, 32, 112, 114, 105, 110, 116, 32, 114, 50, 59, 32, 114, 101, 116, 117, 114, 110, 59, 32, 125, 32, 102, 117, 110, 99, 32, 103, 32, 112, 97, 114, 97, 109, 115, 32, 48, 32, 114, 101, 103, 115, 32, 48, 32, 123, 32, 98, 48, 58, 32, 114, 101, 116, 117, 114, 110, 59, 32, 125])), .lit (.string (bs [109, 97, 105, 110, 32, 103, 59, 32, 102, 117, 110, 99, 32, 102, 32, 112, 97, 114, 97, 109, 115, 32, 49, 32, 114, 101, 103, 115, 32, 51, 32, 123, 32, 98, 48, 58, 32, 114, 49, 32, 61, 32, 97, 100, 100, 32, 114, 48, 44, 32, 50, 59, 32, 114, 50, 32, 61, 32, 97, 100, 100, 32, 50, 44, 32, 114, 48, 59, 32, 112, 114, 105, 110, 116, 32, 114, 50, 59, 32, 114, 101, 116, 117, 114, 110, 59, 32, 125, 32, 102, 117, 110, 99, 32, 103, 32, 112, 97, 114, 97, 109, 115, 32, 48, 32, 114, 101, 103, 115, 32, 48, 32, 123, 32, 98, 48, 58, 32, 114, 101, 116, 117, 114, 110, 59, 32, 125])), .agg [.int .i64 (0), .lit (.slice none 0 0)], .int .i64 0]
theorem t5_ok : TabOk Tryz.prog [p1] := fun x hx => by
  simp only [List.mem_cons, List.not_mem_nil, or_false] at hx
  rcases hx with rfl
  · exact r1
set_option maxRecDepth 1000000 in
theorem k5 : evCall Tryz.prog 307 100000 [p1] 60 8 a5 ⟨.e, 0, 0, 0⟩ (fun sv _ => isT sv) = true := by kernel_rfl
theorem e5 : EntOk Tryz.prog ⟨8, a5, .bool true, 0, 0, []⟩ := ent_true t5_ok mixed (fnsOk_of 307 fns) (l := a5) rfl isT_flat k5
end Go.Proofs.YtjbjpjaeagopjaaGreat.Copies
