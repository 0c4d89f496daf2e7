/- A text of the law, read: what the module is. -/
import Derived.Test.YtjbjpjaeagopjaaGreatDoorPeepK0
namespace Go.Proofs.YtjbjpjaeagopjaaGreatDoor.Peep
open Go Go.Proofs.YtjbjpjaeagopjaaGreatDoor.Ev
noncomputable def p8 : Ent := ⟨6, [.lit (.string (bs [109, 97, 105, 110, 32, 103, 59, 32, 102, 117, 110, 99, 32, 102, 32, 112, 97, 114, 97, 109, 115, 32, 49, 32, 114, 101, 103, 115, 32, 50, 32, 123, 32, 98, 48, 58, 32, 114, 49, 32, 61, 32, 97, 110, 100, 32, 114, 48, 44, 32, 51, 59, 32, 114, 101, 116, 117, 114, 110, 59, 32, 125, 32, 102, 117, 110, 99, 32, 103, 32, 112, 97, 114, 97, 109, 115, 32, 48, 32, 114, 101, 103, 115, 32, 48, 32, 123, 32, 98, 48, 58, 32, 114, 101, 116, 117, 114, 110, 59, 32, 125]))], .agg [.lit (.slice none 0 0), .lit (.slice none 0 0), .slr 79 0 2 0, .int .i64 (1)], 128, 0, [⟨79, 6, [.lit (.string (bs [102])), .int .i64 (1), .int .i64 (2), .bool false, .lit (.slice none 0 0), .slr 49 0 1 0, .lit (.string (bs [103])), .int .i64 (0), .int .i64 (0), .bool false, .lit (.slice none 0 0), .slr 76 0 1 0]⟩, ⟨49, 6, [.slr 40 0 1 0, .int .i64 (3), .int .i64 (0), .int .i64 (0), .int .i64 (0), .int .i64 (0)]⟩, ⟨76, 6, [.lit (.slice none 0 0), .int .i64 (3), .int .i64 (0), .int .i64 (0), .int .i64 (0), .int .i64 (0)]⟩, ⟨40, 13, [.int .i64 (2), .int .i64 (6), .int .i64 (1), .int .i64 (0), .int .i64 (0), .int .i64 (-1), .int .i64 (3), .int .i64 (0), .int .i64 (0), .int .i64 (0), .lit (.slice none 0 0), .lit (.slice none 0 0), .lit (.slice none 0 0)]⟩]⟩
set_option maxRecDepth 1000000 in
theorem q8 : evCall Tryz.prog 271 100000 [] 60 p8.f p8.l ⟨.e, 0, 0, 0⟩ (fun sv h => entB p8 sv h) = true := by kernel_rfl
theorem r8 : EntOk Tryz.prog p8 := ent_of_ev none_ok mixed (fnsOk_of 271 fns) rfl q8
end Go.Proofs.YtjbjpjaeagopjaaGreatDoor.Peep
