/- Calls of the law's run: what each finds, hands back and lays. -/
import Derived.Test.YtbkgehknhjkaoaaGreatDoorPipeG1
import Derived.Test.YtbkgehknhjkaoaaGreatDoorPipeG5
import Derived.Test.YtbkgehknhjkaoaaGreatDoorPipeG33
namespace Go.Proofs.YtbkgehknhjkaoaaGreatDoor.Pipe
open Go Go.Proofs.YtbkgehknhjkaoaaGreatDoor.Ev
noncomputable def f230 : FEnt := ⟨70, [.agg [.lit (.slice none 0 0), .lit (.slice none 0 0), .slr 0 0 2 0, .int .i64 (0)], .int .i64 (0)], 7, 0, i56, .tup [.agg [.sl 184 0 6 6, .sl 185 0 6 6, .slr 232 0 6 0, .sl 186 0 6 6, .sl 187 0 6 6], .int .i64 (0)], 278, 0, [⟨184, 0, [.lit (.slice none 0 0), .slr 217 0 2 0, .slr 210 0 1 0, .slr 198 0 1 0, .slr 205 0 1 0, .slr 212 0 1 0]⟩, ⟨185, 0, [.sl 191 0 1 1, .sl 196 0 1 1, .lit (.slice none 0 0), .sl 203 0 1 1, .sl 208 0 2 2, .sl 215 0 1 1]⟩, ⟨232, 1, [.int .i64 (0), .int .i64 (1), .int .i64 (3), .int .i64 (4), .int .i64 (5), .int .i64 (2)]⟩, ⟨186, 0, [.int .i64 (-1), .int .i64 (0), .int .i64 (4), .int .i64 (1), .int .i64 (3), .int .i64 (4)]⟩, ⟨187, 0, [.lit (.slice none 0 0), .slr 277 0 1 0, .lit (.slice none 0 0), .slr 279 0 1 0, .slr 281 0 1 0, .slr 283 0 1 0]⟩, ⟨217, 1, [.int .i64 (0), .int .i64 (5)]⟩, ⟨210, 1, [.int .i64 (4)]⟩, ⟨198, 1, [.int .i64 (1)]⟩, ⟨205, 1, [.int .i64 (3)]⟩, ⟨212, 1, [.int .i64 (4)]⟩, ⟨191, 0, [.int .i64 (1)]⟩, ⟨196, 0, [.int .i64 (3)]⟩, ⟨203, 0, [.int .i64 (4)]⟩, ⟨208, 0, [.int .i64 (2), .int .i64 (5)]⟩, ⟨215, 0, [.int .i64 (1)]⟩, ⟨277, 1, [.int .i64 (1)]⟩, ⟨279, 1, [.int .i64 (1)]⟩, ⟨281, 1, [.int .i64 (1)]⟩, ⟨283, 1, [.int .i64 (1)]⟩], none⟩
theorem t230 : Tab2Ok Tryz.prog [⟨f229, [0, 1, 2, 3, 4, 5, 6], []⟩, ⟨f3, [], []⟩, ⟨f4, [], []⟩, ⟨f31, [], []⟩, ⟨f32, [], []⟩, ⟨f33, [], []⟩, ⟨f227, [], []⟩] := fun x hx => by
  simp only [List.mem_cons, List.not_mem_nil, or_false] at hx
  rcases hx with rfl | rfl | rfl | rfl | rfl | rfl | rfl
  · exact ⟨r229, x229, by kernel_rfl⟩
  · exact ⟨r3, x3, by kernel_rfl⟩
  · exact ⟨r4, x4, by kernel_rfl⟩
  · exact ⟨r31, x31, by kernel_rfl⟩
  · exact ⟨r32, x32, by kernel_rfl⟩
  · exact ⟨r33, x33, by kernel_rfl⟩
  · exact ⟨r227, x227, by kernel_rfl⟩
set_option maxRecDepth 1000000 in
theorem q230 : evEnt Tryz.prog 417 100000 [] [⟨f229, [0, 1, 2, 3, 4, 5, 6], []⟩, ⟨f3, [], []⟩, ⟨f4, [], []⟩, ⟨f31, [], []⟩, ⟨f32, [], []⟩, ⟨f33, [], []⟩, ⟨f227, [], []⟩] 60 f230 = true := by kernel_rfl
theorem r230 : FEntOk Tryz.prog f230 := fent_of_ev none_ok t230 mixed (fnsOk_of 417 fns) rfl q230
theorem x230 : fitE f230 = true := by kernel_rfl
noncomputable def f231 : FEnt := ⟨180, [.agg [.lit (.slice none 0 0), .lit (.slice none 0 0), .slr 0 0 2 0, .int .i64 (0)]], 7, 0, i57, .int .i64 (0), 164, 0, [], none⟩
theorem t231 : Tab2Ok Tryz.prog [] := fun x hx => by cases hx
set_option maxRecDepth 1000000 in
theorem q231 : evEnt Tryz.prog 417 100000 [] [] 60 f231 = true := by kernel_rfl
theorem r231 : FEntOk Tryz.prog f231 := fent_of_ev none_ok t231 mixed (fnsOk_of 417 fns) rfl q231
theorem x231 : fitE f231 = true := by kernel_rfl
noncomputable def f232 : FEnt := ⟨70, [.agg [.lit (.slice none 0 0), .lit (.slice none 0 0), .slr 0 0 2 0, .int .i64 (0)], .int .i64 (0)], 7, 0, i57, .tup [.agg [.sl 176 0 5 5, .sl 177 0 5 5, .slr 217 0 5 0, .sl 178 0 5 5, .sl 179 0 5 5], .int .i64 (0)], 249, 0, [⟨176, 0, [.lit (.slice none 0 0), .slr 204 0 2 0, .slr 197 0 1 0, .slr 190 0 1 0, .slr 199 0 1 0]⟩, ⟨177, 0, [.sl 183 0 1 1, .sl 188 0 1 1, .lit (.slice none 0 0), .sl 195 0 2 2, .sl 202 0 1 1]⟩, ⟨217, 1, [.int .i64 (0), .int .i64 (1), .int .i64 (3), .int .i64 (4), .int .i64 (2)]⟩, ⟨178, 0, [.int .i64 (-1), .int .i64 (0), .int .i64 (3), .int .i64 (1), .int .i64 (3)]⟩, ⟨179, 0, [.lit (.slice none 0 0), .slr 250 0 1 0, .lit (.slice none 0 0), .slr 252 0 1 0, .slr 254 0 1 0]⟩, ⟨204, 1, [.int .i64 (0), .int .i64 (4)]⟩, ⟨197, 1, [.int .i64 (3)]⟩, ⟨190, 1, [.int .i64 (1)]⟩, ⟨199, 1, [.int .i64 (3)]⟩, ⟨183, 0, [.int .i64 (1)]⟩, ⟨188, 0, [.int .i64 (3)]⟩, ⟨195, 0, [.int .i64 (2), .int .i64 (4)]⟩, ⟨202, 0, [.int .i64 (1)]⟩, ⟨250, 1, [.int .i64 (1)]⟩, ⟨252, 1, [.int .i64 (1)]⟩, ⟨254, 1, [.int .i64 (1)]⟩], none⟩
theorem t232 : Tab2Ok Tryz.prog [⟨f231, [0, 1, 2, 3, 4, 5, 6], []⟩, ⟨f3, [], []⟩, ⟨f4, [], []⟩, ⟨f38, [], []⟩, ⟨f32, [], []⟩, ⟨f33, [], []⟩] := fun x hx => by
  simp only [List.mem_cons, List.not_mem_nil, or_false] at hx
  rcases hx with rfl | rfl | rfl | rfl | rfl | rfl
  · exact ⟨r231, x231, by kernel_rfl⟩
  · exact ⟨r3, x3, by kernel_rfl⟩
  · exact ⟨r4, x4, by kernel_rfl⟩
  · exact ⟨r38, x38, by kernel_rfl⟩
  · exact ⟨r32, x32, by kernel_rfl⟩
  · exact ⟨r33, x33, by kernel_rfl⟩
set_option maxRecDepth 1000000 in
theorem q232 : evEnt Tryz.prog 417 100000 [] [⟨f231, [0, 1, 2, 3, 4, 5, 6], []⟩, ⟨f3, [], []⟩, ⟨f4, [], []⟩, ⟨f38, [], []⟩, ⟨f32, [], []⟩, ⟨f33, [], []⟩] 60 f232 = true := by kernel_rfl
theorem r232 : FEntOk Tryz.prog f232 := fent_of_ev none_ok t232 mixed (fnsOk_of 417 fns) rfl q232
theorem x232 : fitE f232 = true := by kernel_rfl
noncomputable def f233 : FEnt := ⟨180, [.agg [.lit (.slice none 0 0), .lit (.slice none 0 0), .slr 0 0 2 0, .int .i64 (0)]], 7, 0, i58, .int .i64 (0), 156, 0, [], none⟩
theorem t233 : Tab2Ok Tryz.prog [] := fun x hx => by cases hx
set_option maxRecDepth 1000000 in
theorem q233 : evEnt Tryz.prog 417 100000 [] [] 60 f233 = true := by kernel_rfl
theorem r233 : FEntOk Tryz.prog f233 := fent_of_ev none_ok t233 mixed (fnsOk_of 417 fns) rfl q233
theorem x233 : fitE f233 = true := by kernel_rfl
noncomputable def f234 : FEnt := ⟨70, [.agg [.lit (.slice none 0 0), .lit (.slice none 0 0), .slr 0 0 2 0, .int .i64 (0)], .int .i64 (0)], 7, 0, i58, .tup [.agg [.sl 168 0 4 4, .sl 169 0 4 4, .slr 202 0 4 0, .sl 170 0 4 4, .sl 171 0 4 4], .int .i64 (0)], 222, 0, [⟨168, 0, [.lit (.slice none 0 0), .slr 191 0 2 0, .slr 182 0 1 0, .slr 184 0 1 0]⟩, ⟨169, 0, [.sl 175 0 1 1, .sl 180 0 2 2, .lit (.slice none 0 0), .sl 189 0 1 1]⟩, ⟨202, 1, [.int .i64 (0), .int .i64 (1), .int .i64 (3), .int .i64 (2)]⟩, ⟨170, 0, [.int .i64 (-1), .int .i64 (0), .int .i64 (1), .int .i64 (1)]⟩, ⟨171, 0, [.lit (.slice none 0 0), .slr 225 0 1 0, .lit (.slice none 0 0), .slr 227 0 1 0]⟩, ⟨191, 1, [.int .i64 (0), .int .i64 (3)]⟩, ⟨182, 1, [.int .i64 (1)]⟩, ⟨184, 1, [.int .i64 (1)]⟩, ⟨175, 0, [.int .i64 (1)]⟩, ⟨180, 0, [.int .i64 (2), .int .i64 (3)]⟩, ⟨189, 0, [.int .i64 (1)]⟩, ⟨225, 1, [.int .i64 (1)]⟩, ⟨227, 1, [.int .i64 (1)]⟩], none⟩
theorem t234 : Tab2Ok Tryz.prog [⟨f233, [0, 1, 2, 3, 4, 5, 6], []⟩, ⟨f3, [], []⟩, ⟨f4, [], []⟩, ⟨f5, [], []⟩, ⟨f32, [], []⟩] := fun x hx => by
  simp only [List.mem_cons, List.not_mem_nil, or_false] at hx
  rcases hx with rfl | rfl | rfl | rfl | rfl
  · exact ⟨r233, x233, by kernel_rfl⟩
  · exact ⟨r3, x3, by kernel_rfl⟩
  · exact ⟨r4, x4, by kernel_rfl⟩
  · exact ⟨r5, x5, by kernel_rfl⟩
  · exact ⟨r32, x32, by kernel_rfl⟩
set_option maxRecDepth 1000000 in
theorem q234 : evEnt Tryz.prog 417 100000 [] [⟨f233, [0, 1, 2, 3, 4, 5, 6], []⟩, ⟨f3, [], []⟩, ⟨f4, [], []⟩, ⟨f5, [], []⟩, ⟨f32, [], []⟩] 60 f234 = true := by kernel_rfl
theorem r234 : FEntOk Tryz.prog f234 := fent_of_ev none_ok t234 mixed (fnsOk_of 417 fns) rfl q234
theorem x234 : fitE f234 = true := by kernel_rfl
noncomputable def f235 : FEnt := ⟨14, [.agg [.lit (.slice none 0 0), .lit (.slice none 0 0), .slr 0 0 2 0, .int .i64 (0)], .int .i64 (0), .agg [.int .i64 (-1), .lit (.slice none 0 0)]], 10, 1, i55, .tup [.agg [.lit (.slice none 0 0), .lit (.slice none 0 0), .slr 1928 0 2 0, .int .i64 (0)], .sl 1929 0 1 1, .int .i64 (0)], 1920, 0, [⟨1928, 6, [.lit (.string (bs [102])), .int .i64 (0), .int .i64 (3), .bool false, .lit (.slice none 0 0), .sl 1797 0 4 4, .lit (.string (bs [103])), .int .i64 (1), .int .i64 (2), .bool true, .lit (.slice none 0 0), .slr 1926 0 1 0]⟩, ⟨1929, 0, [.int .i64 (3), .int .i64 (0), .int .i64 (0), .int .i64 (0), .int .i64 (-1)]⟩, ⟨1797, 0, [.slr 1771 0 1 0, .int .i64 (1), .int .i64 (0), .int .i64 (0), .int .i64 (1), .int .i64 (0), .slr 1786 0 3 0, .int .i64 (2), .int .i64 (2), .int .i64 (0), .int .i64 (2), .int .i64 (3), .slr 1796 0 1 0, .int .i64 (1), .int .i64 (0), .int .i64 (0), .int .i64 (1), .int .i64 (0), .slr 1791 0 1 0, .int .i64 (3), .int .i64 (0), .int .i64 (0), .int .i64 (0), .int .i64 (0)]⟩, ⟨1926, 6, [.lit (.slice none 0 0), .int .i64 (3), .int .i64 (0), .int .i64 (0), .int .i64 (0), .int .i64 (0)]⟩, ⟨1771, 13, [.int .i64 (1), .int .i64 (0), .int .i64 (0), .int .i64 (-1), .int .i64 (0), .int .i64 (0), .int .i64 (0), .int .i64 (0), .int .i64 (0), .int .i64 (0), .lit (.slice none 0 0), .lit (.slice none 0 0), .lit (.slice none 0 0)]⟩, ⟨1786, 13, [.int .i64 (8), .int .i64 (0), .int .i64 (-1), .int .i64 (0), .int .i64 (0), .int .i64 (0), .int .i64 (0), .int .i64 (0), .int .i64 (0), .int .i64 (0), .lit (.slice none 0 0), .lit (.slice none 0 0), .lit (.slice none 0 0), .int .i64 (2), .int .i64 (1), .int .i64 (1), .int .i64 (0), .int .i64 (0), .int .i64 (-1), .int .i64 (1), .int .i64 (0), .int .i64 (0), .int .i64 (0), .lit (.slice none 0 0), .lit (.slice none 0 0), .lit (.slice none 0 0), .int .i64 (2), .int .i64 (13), .int .i64 (2), .int .i64 (1), .int .i64 (0), .int .i64 (-1), .int .i64 (3), .int .i64 (0), .int .i64 (0), .int .i64 (0), .lit (.slice none 0 0), .lit (.slice none 0 0), .lit (.slice none 0 0)]⟩, ⟨1796, 13, [.int .i64 (1), .int .i64 (0), .int .i64 (0), .int .i64 (1), .int .i64 (0), .int .i64 (0), .int .i64 (0), .int .i64 (0), .int .i64 (0), .int .i64 (0), .lit (.slice none 0 0), .lit (.slice none 0 0), .lit (.slice none 0 0)]⟩, ⟨1791, 13, [.int .i64 (8), .int .i64 (0), .int .i64 (-1), .int .i64 (-1), .int .i64 (5), .int .i64 (0), .int .i64 (0), .int .i64 (0), .int .i64 (0), .int .i64 (0), .lit (.slice none 0 0), .lit (.slice none 0 0), .lit (.slice none 0 0)]⟩], none⟩
theorem t235 : Tab2Ok Tryz.prog [⟨f228, [0, 1, 2, 3, 4, 5, 6, 7, 8, 9], [0]⟩, ⟨f228, [347, 1, 345, 3, 4, 5, 6, 7, 8, 9], [0]⟩, ⟨f230, [732, 663, 730, 637, 642, 657, 662], []⟩, ⟨f232, [1131, 1066, 1129, 1040, 1045, 1060, 1065], []⟩, ⟨f234, [1524, 1461, 1522, 1420, 1435, 1440, 1460], []⟩] := fun x hx => by
  simp only [List.mem_cons, List.not_mem_nil, or_false] at hx
  rcases hx with rfl | rfl | rfl | rfl | rfl
  · exact ⟨r228, x228, by kernel_rfl⟩
  · exact ⟨r228, x228, by kernel_rfl⟩
  · exact ⟨r230, x230, by kernel_rfl⟩
  · exact ⟨r232, x232, by kernel_rfl⟩
  · exact ⟨r234, x234, by kernel_rfl⟩
set_option maxRecDepth 1000000 in
theorem q235 : evEnt Tryz.prog 417 100000 [] [⟨f228, [0, 1, 2, 3, 4, 5, 6, 7, 8, 9], [0]⟩, ⟨f228, [347, 1, 345, 3, 4, 5, 6, 7, 8, 9], [0]⟩, ⟨f230, [732, 663, 730, 637, 642, 657, 662], []⟩, ⟨f232, [1131, 1066, 1129, 1040, 1045, 1060, 1065], []⟩, ⟨f234, [1524, 1461, 1522, 1420, 1435, 1440, 1460], []⟩] 60 f235 = true := by kernel_rfl
theorem r235 : FEntOk Tryz.prog f235 := fent_of_ev none_ok t235 mixed (fnsOk_of 417 fns) rfl q235
theorem x235 : fitE f235 = true := by kernel_rfl
noncomputable def f236 : FEnt := ⟨12, [.agg [.lit (.slice none 0 0), .lit (.slice none 0 0), .slr 0 0 2 0, .int .i64 (0)], .agg [.int .i64 (-1), .lit (.slice none 0 0)]], 10, 1, i55, .int .i64 (0), 1923, 0, [], none⟩
theorem t236 : Tab2Ok Tryz.prog [⟨f235, [0, 1, 2, 3, 4, 5, 6, 7, 8, 9], [0]⟩] := fun x hx => by
  simp only [List.mem_cons, List.not_mem_nil, or_false] at hx
  rcases hx with rfl
  · exact ⟨r235, x235, by kernel_rfl⟩
set_option maxRecDepth 1000000 in
theorem q236 : evEnt Tryz.prog 417 100000 [] [⟨f235, [0, 1, 2, 3, 4, 5, 6, 7, 8, 9], [0]⟩] 60 f236 = true := by kernel_rfl
theorem r236 : FEntOk Tryz.prog f236 := fent_of_ev none_ok t236 mixed (fnsOk_of 417 fns) rfl q236
theorem x236 : fitE f236 = true := by kernel_rfl
noncomputable def f237 : FEnt := ⟨70, [.agg [.lit (.slice none 0 0), .lit (.slice none 0 0), .slr 0 0 2 0, .int .i64 (0)], .int .i64 (1)], 10, 1, i55, .tup [.agg [.sl 187 0 1 1, .sl 188 0 1 1, .slr 198 0 1 0, .sl 189 0 1 1, .sl 190 0 1 1], .int .i64 (0)], 193, 2, [⟨187, 0, [.lit (.slice none 0 0)]⟩, ⟨188, 0, [.lit (.slice none 0 0)]⟩, ⟨198, 1, [.int .i64 (0)]⟩, ⟨189, 0, [.int .i64 (-1)]⟩, ⟨190, 0, [.lit (.slice none 0 0)]⟩], none⟩
theorem t237 : Tab2Ok Tryz.prog [⟨f226, [0, 1, 2, 3, 4, 5, 6, 7, 8, 9], [0]⟩] := fun x hx => by
  simp only [List.mem_cons, List.not_mem_nil, or_false] at hx
  rcases hx with rfl
  · exact ⟨r226, x226, by kernel_rfl⟩
set_option maxRecDepth 1000000 in
theorem q237 : evEnt Tryz.prog 417 100000 [] [⟨f226, [0, 1, 2, 3, 4, 5, 6, 7, 8, 9], [0]⟩] 60 f237 = true := by kernel_rfl
theorem r237 : FEntOk Tryz.prog f237 := fent_of_ev none_ok t237 mixed (fnsOk_of 417 fns) rfl q237
theorem x237 : fitE f237 = true := by kernel_rfl
noncomputable def f238 : FEnt := ⟨48, [.agg [.lit (.slice none 0 0), .lit (.slice none 0 0), .slr 0 0 2 0, .int .i64 (0)], .int .i64 (1)], 10, 1, i55, .int .i64 (0), 204, 2, [], none⟩
theorem t238 : Tab2Ok Tryz.prog [⟨f237, [0, 1, 2, 3, 4, 5, 6, 7, 8, 9], [0]⟩] := fun x hx => by
  simp only [List.mem_cons, List.not_mem_nil, or_false] at hx
  rcases hx with rfl
  · exact ⟨r237, x237, by kernel_rfl⟩
set_option maxRecDepth 1000000 in
theorem q238 : evEnt Tryz.prog 417 100000 [] [⟨f237, [0, 1, 2, 3, 4, 5, 6, 7, 8, 9], [0]⟩] 60 f238 = true := by kernel_rfl
theorem r238 : FEntOk Tryz.prog f238 := fent_of_ev none_ok t238 mixed (fnsOk_of 417 fns) rfl q238
theorem x238 : fitE f238 = true := by kernel_rfl
end Go.Proofs.YtbkgehknhjkaoaaGreatDoor.Pipe
