/- One of the law's calls, run: the answer is true. -/
import Derived.Test.YtjbjpjaeagopjaaGreatCopiesP5
namespace Go.Proofs.YtjbjpjaeagopjaaGreat.Copies
open Go Go.Proofs.YtjbjpjaeagopjaaGreat.Ev
def a3 : List SV := [.lit (.string (bs [99, 101, 108, 108, 32, 99, 32, 61, 32, 49, 59, 32, 109, 97, 105, 110, 32, 102, 59, 32, 102, 117, 110, 99, 32, 102, 32, 112, 97, 114, 97, 109, 115, 32, 48, 32, 114, 101, 103, 115, 32, 50, 32, 123, 32, 98, 48, 58, 32, 114, 48, 32, 61, 32, 103, 101, 116, 32, 99, 48, 59, 32, 99, 97, 108, 108, 32, 103, 40, 41, 59, 32, 114, 49, 32, 61, 32, 103, 101, 116, 32, 99, 48, 59, 32, 114, 101, 116, 117, 114, 110, 59, 32, 125, 32, 102, 117, 110, 99, 32, 103, 32, 112, 97, 114, 97, 109, 115, 32, 48, 32, 114, 101, 103, 115, 32, 48, 32, 123, 32, 98, 48, 58, 32, 114, 101, 116, 117, 114, 110, 59, 32, 125])), .lit (.string (bs [99, 101, 108, 108, 32, 99, 32, 61, 32, 49, 59, 32, 109, 97, 105, 110, 32, 102, 59, 32, 102, 117, 110, 99, 32, 102, 32, 112, 97, 114, 97, 109, 115, 32, 48, 32, 114, 101, 103, 115, 32, 50, 32, 123, 32, 98, 48, 58, 32, 114, 48, 32, 61, 32, 103, 101, 116, 32, 99, 48, 59, 32, 99, 97, 108, 108, 32, 103, 40, 41, 59, 32, 114, 49, 32, 61, 32, 103, 101, 116, 32, 99, 48, 59, 32, 114, 101, 116, 117, 114, 110, 59, 32, 125, 32, 102, 117, 110, 99, 32, 103, 32, 112, 97, 114, 97, 109, 115, 32, 48, 32, 114, 101, 103, 115, 32, 48, 32, 123, 32, 98, 48, 58, 32, 114, 101, 116, 117, 114, 110, 59, 32, 125])), .agg [.int .i64 (-1), .lit (.slice none 0 0)], .int .i64 0]
theorem t3_ok : TabOk Tryz.prog [p5] := fun x hx => by
  simp only [List.mem_cons, List.not_mem_nil, or_false] at hx
  rcases hx with rfl
  · exact r5
set_option maxRecDepth 1000000 in
theorem k3 : evCall Tryz.prog 307 100000 [p5] 60 8 a3 ⟨.e, 0, 0, 0⟩ (fun sv _ => isT sv) = true := by kernel_rfl
theorem e3 : EntOk Tryz.prog ⟨8, a3, .bool true, 0, 0, []⟩ := ent_true t3_ok mixed (fnsOk_of 307 fns) (l := a3) rfl isT_flat k3
end Go.Proofs.YtjbjpjaeagopjaaGreat.Copies
