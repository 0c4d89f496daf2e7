/- A text of the law, read: what the module is. -/
import Derived.Test.YtjbjpjaeagopjaaGreatCopiesK0
namespace Go.Proofs.YtjbjpjaeagopjaaGreat.Copies
open Go Go.Proofs.YtjbjpjaeagopjaaGreat.Ev
noncomputable def p7 : Ent := ⟨13, [.lit (.string (bs [109, 97, 105, 110, 32, 102, 59, 32, 102, 117, 110, 99, 32, 102, 32, 112, 97, 114, 97, 109, 115, 32, 48, 32, 114, 101, 103, 115, 32, 50, 32, 123, 32, 98, 48, 58, 32, 114, 48, 32, 61, 32, 53, 59, 32, 106, 117, 109, 112, 32, 98, 49, 59, 32, 98, 49, 58, 32, 114, 49, 32, 61, 32, 53, 59, 32, 106, 117, 109, 112, 32, 98, 49, 59, 32, 125]))], .agg [.lit (.slice none 0 0), .lit (.slice none 0 0), .slr 73 0 1 0, .int .i64 (0)], 122, 0, [⟨73, 6, [.lit (.string (bs [102])), .int .i64 (0), .int .i64 (2), .bool false, .lit (.slice none 0 0), .slr 70 0 2 0]⟩, ⟨70, 6, [.slr 35 0 1 0, .int .i64 (1), .int .i64 (0), .int .i64 (0), .int .i64 (1), .int .i64 (0), .slr 60 0 1 0, .int .i64 (1), .int .i64 (0), .int .i64 (0), .int .i64 (1), .int .i64 (0)]⟩, ⟨35, 13, [.int .i64 (1), .int .i64 (0), .int .i64 (0), .int .i64 (-1), .int .i64 (5), .int .i64 (0), .int .i64 (0), .int .i64 (0), .int .i64 (0), .int .i64 (0), .lit (.slice none 0 0), .lit (.slice none 0 0), .lit (.slice none 0 0)]⟩, ⟨60, 13, [.int .i64 (1), .int .i64 (0), .int .i64 (1), .int .i64 (-1), .int .i64 (5), .int .i64 (0), .int .i64 (0), .int .i64 (0), .int .i64 (0), .int .i64 (0), .lit (.slice none 0 0), .lit (.slice none 0 0), .lit (.slice none 0 0)]⟩]⟩
set_option maxRecDepth 1000000 in
theorem q7 : evCall Tryz.prog 307 100000 [] 60 p7.f p7.l ⟨.e, 0, 0, 0⟩ (fun sv h => entB p7 sv h) = true := by kernel_rfl
theorem r7 : EntOk Tryz.prog p7 := ent_of_ev none_ok mixed (fnsOk_of 307 fns) rfl q7
end Go.Proofs.YtjbjpjaeagopjaaGreat.Copies
