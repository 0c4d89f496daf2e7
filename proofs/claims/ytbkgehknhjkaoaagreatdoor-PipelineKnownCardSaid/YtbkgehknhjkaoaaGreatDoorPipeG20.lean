/- Calls of the law's run: what each finds, hands back and lays. -/
import Derived.Test.YtbkgehknhjkaoaaGreatDoorPipeG1
import Derived.Test.YtbkgehknhjkaoaaGreatDoorPipeG5
namespace Go.Proofs.YtbkgehknhjkaoaaGreatDoor.Pipe
open Go Go.Proofs.YtbkgehknhjkaoaaGreatDoor.Ev
noncomputable def f125 : FEnt := ⟨180, [.agg [.lit (.slice none 0 0), .lit (.slice none 0 0), .slr 0 0 2 0, .int .i64 (0)]], 10, 0, i28, .int .i64 (0), 239, 0, [], none⟩
theorem t125 : Tab2Ok Tryz.prog [] := fun x hx => by cases hx
set_option maxRecDepth 1000000 in
theorem q125 : evEnt Tryz.prog 417 100000 [] [] 60 f125 = true := by kernel_rfl
theorem r125 : FEntOk Tryz.prog f125 := fent_of_ev none_ok t125 mixed (fnsOk_of 417 fns) rfl q125
theorem x125 : fitE f125 = true := by kernel_rfl
noncomputable def f126 : FEnt := ⟨70, [.agg [.lit (.slice none 0 0), .lit (.slice none 0 0), .slr 0 0 2 0, .int .i64 (0)], .int .i64 (0)], 10, 0, i28, .tup [.agg [.sl 254 0 5 5, .sl 255 0 5 5, .slr 295 0 5 0, .sl 256 0 5 5, .sl 257 0 5 5], .int .i64 (0)], 324, 0, [⟨254, 0, [.lit (.slice none 0 0), .slr 280 0 2 0, .slr 282 0 1 0, .slr 268 0 1 0, .slr 275 0 1 0]⟩, ⟨255, 0, [.sl 261 0 1 1, .sl 266 0 1 1, .lit (.slice none 0 0), .sl 273 0 1 1, .sl 278 0 2 2]⟩, ⟨295, 1, [.int .i64 (0), .int .i64 (1), .int .i64 (3), .int .i64 (4), .int .i64 (2)]⟩, ⟨256, 0, [.int .i64 (-1), .int .i64 (0), .int .i64 (4), .int .i64 (1), .int .i64 (3)]⟩, ⟨257, 0, [.lit (.slice none 0 0), .slr 328 0 1 0, .lit (.slice none 0 0), .slr 330 0 1 0, .slr 332 0 1 0]⟩, ⟨280, 1, [.int .i64 (0), .int .i64 (4)]⟩, ⟨282, 1, [.int .i64 (4)]⟩, ⟨268, 1, [.int .i64 (1)]⟩, ⟨275, 1, [.int .i64 (3)]⟩, ⟨261, 0, [.int .i64 (1)]⟩, ⟨266, 0, [.int .i64 (3)]⟩, ⟨273, 0, [.int .i64 (4)]⟩, ⟨278, 0, [.int .i64 (1), .int .i64 (2)]⟩, ⟨328, 1, [.int .i64 (1)]⟩, ⟨330, 1, [.int .i64 (1)]⟩, ⟨332, 1, [.int .i64 (1)]⟩], none⟩
theorem t126 : Tab2Ok Tryz.prog [⟨f125, [0, 1, 2, 3, 4, 5, 6, 7, 8, 9], []⟩, ⟨f3, [], []⟩, ⟨f4, [], []⟩, ⟨f31, [], []⟩, ⟨f32, [], []⟩, ⟨f33, [], []⟩] := fun x hx => by
  simp only [List.mem_cons, List.not_mem_nil, or_false] at hx
  rcases hx with rfl | rfl | rfl | rfl | rfl | rfl
  · exact ⟨r125, x125, by kernel_rfl⟩
  · exact ⟨r3, x3, by kernel_rfl⟩
  · exact ⟨r4, x4, by kernel_rfl⟩
  · exact ⟨r31, x31, by kernel_rfl⟩
  · exact ⟨r32, x32, by kernel_rfl⟩
  · exact ⟨r33, x33, by kernel_rfl⟩
set_option maxRecDepth 1000000 in
theorem q126 : evEnt Tryz.prog 417 100000 [] [⟨f125, [0, 1, 2, 3, 4, 5, 6, 7, 8, 9], []⟩, ⟨f3, [], []⟩, ⟨f4, [], []⟩, ⟨f31, [], []⟩, ⟨f32, [], []⟩, ⟨f33, [], []⟩] 60 f126 = true := by kernel_rfl
theorem r126 : FEntOk Tryz.prog f126 := fent_of_ev none_ok t126 mixed (fnsOk_of 417 fns) rfl q126
theorem x126 : fitE f126 = true := by kernel_rfl
noncomputable def f127 : FEnt := ⟨180, [.agg [.lit (.slice none 0 0), .lit (.slice none 0 0), .slr 0 0 2 0, .int .i64 (0)]], 9, 0, i29, .int .i64 (0), 228, 0, [], none⟩
theorem t127 : Tab2Ok Tryz.prog [] := fun x hx => by cases hx
set_option maxRecDepth 1000000 in
theorem q127 : evEnt Tryz.prog 417 100000 [] [] 60 f127 = true := by kernel_rfl
theorem r127 : FEntOk Tryz.prog f127 := fent_of_ev none_ok t127 mixed (fnsOk_of 417 fns) rfl q127
theorem x127 : fitE f127 = true := by kernel_rfl
noncomputable def f128 : FEnt := ⟨70, [.agg [.lit (.slice none 0 0), .lit (.slice none 0 0), .slr 0 0 2 0, .int .i64 (0)], .int .i64 (0)], 9, 0, i29, .tup [.agg [.sl 242 0 4 4, .sl 243 0 4 4, .slr 276 0 4 0, .sl 244 0 4 4, .sl 245 0 4 4], .int .i64 (0)], 294, 0, [⟨242, 0, [.lit (.slice none 0 0), .slr 263 0 2 0, .slr 265 0 1 0, .slr 256 0 1 0]⟩, ⟨243, 0, [.sl 249 0 1 1, .sl 254 0 1 1, .lit (.slice none 0 0), .sl 261 0 2 2]⟩, ⟨276, 1, [.int .i64 (0), .int .i64 (1), .int .i64 (3), .int .i64 (2)]⟩, ⟨244, 0, [.int .i64 (-1), .int .i64 (0), .int .i64 (3), .int .i64 (1)]⟩, ⟨245, 0, [.lit (.slice none 0 0), .slr 299 0 1 0, .lit (.slice none 0 0), .slr 301 0 1 0]⟩, ⟨263, 1, [.int .i64 (0), .int .i64 (3)]⟩, ⟨265, 1, [.int .i64 (3)]⟩, ⟨256, 1, [.int .i64 (1)]⟩, ⟨249, 0, [.int .i64 (1)]⟩, ⟨254, 0, [.int .i64 (3)]⟩, ⟨261, 0, [.int .i64 (1), .int .i64 (2)]⟩, ⟨299, 1, [.int .i64 (1)]⟩, ⟨301, 1, [.int .i64 (1)]⟩], none⟩
theorem t128 : Tab2Ok Tryz.prog [⟨f127, [0, 1, 2, 3, 4, 5, 6, 7, 8], []⟩, ⟨f3, [], []⟩, ⟨f4, [], []⟩, ⟨f38, [], []⟩, ⟨f32, [], []⟩] := fun x hx => by
  simp only [List.mem_cons, List.not_mem_nil, or_false] at hx
  rcases hx with rfl | rfl | rfl | rfl | rfl
  · exact ⟨r127, x127, by kernel_rfl⟩
  · exact ⟨r3, x3, by kernel_rfl⟩
  · exact ⟨r4, x4, by kernel_rfl⟩
  · exact ⟨r38, x38, by kernel_rfl⟩
  · exact ⟨r32, x32, by kernel_rfl⟩
set_option maxRecDepth 1000000 in
theorem q128 : evEnt Tryz.prog 417 100000 [] [⟨f127, [0, 1, 2, 3, 4, 5, 6, 7, 8], []⟩, ⟨f3, [], []⟩, ⟨f4, [], []⟩, ⟨f38, [], []⟩, ⟨f32, [], []⟩] 60 f128 = true := by kernel_rfl
theorem r128 : FEntOk Tryz.prog f128 := fent_of_ev none_ok t128 mixed (fnsOk_of 417 fns) rfl q128
theorem x128 : fitE f128 = true := by kernel_rfl
noncomputable def f129 : FEnt := ⟨180, [.agg [.lit (.slice none 0 0), .lit (.slice none 0 0), .slr 0 0 2 0, .int .i64 (0)]], 8, 0, i30, .int .i64 (0), 217, 0, [], none⟩
theorem t129 : Tab2Ok Tryz.prog [] := fun x hx => by cases hx
set_option maxRecDepth 1000000 in
theorem q129 : evEnt Tryz.prog 417 100000 [] [] 60 f129 = true := by kernel_rfl
theorem r129 : FEntOk Tryz.prog f129 := fent_of_ev none_ok t129 mixed (fnsOk_of 417 fns) rfl q129
theorem x129 : fitE f129 = true := by kernel_rfl
noncomputable def f130 : FEnt := ⟨70, [.agg [.lit (.slice none 0 0), .lit (.slice none 0 0), .slr 0 0 2 0, .int .i64 (0)], .int .i64 (0)], 8, 0, i30, .tup [.agg [.sl 230 0 3 3, .sl 231 0 3 3, .slr 257 0 3 0, .sl 232 0 3 3, .sl 233 0 3 3], .int .i64 (0)], 266, 0, [⟨230, 0, [.lit (.slice none 0 0), .slr 244 0 2 0, .slr 246 0 1 0]⟩, ⟨231, 0, [.sl 237 0 1 1, .sl 242 0 2 2, .lit (.slice none 0 0)]⟩, ⟨257, 1, [.int .i64 (0), .int .i64 (1), .int .i64 (2)]⟩, ⟨232, 0, [.int .i64 (-1), .int .i64 (0), .int .i64 (1)]⟩, ⟨233, 0, [.lit (.slice none 0 0), .slr 272 0 1 0, .lit (.slice none 0 0)]⟩, ⟨244, 1, [.int .i64 (0), .int .i64 (1)]⟩, ⟨246, 1, [.int .i64 (1)]⟩, ⟨237, 0, [.int .i64 (1)]⟩, ⟨242, 0, [.int .i64 (1), .int .i64 (2)]⟩, ⟨272, 1, [.int .i64 (1)]⟩], none⟩
theorem t130 : Tab2Ok Tryz.prog [⟨f129, [0, 1, 2, 3, 4, 5, 6, 7], []⟩, ⟨f3, [], []⟩, ⟨f4, [], []⟩, ⟨f5, [], []⟩] := fun x hx => by
  simp only [List.mem_cons, List.not_mem_nil, or_false] at hx
  rcases hx with rfl | rfl | rfl | rfl
  · exact ⟨r129, x129, by kernel_rfl⟩
  · exact ⟨r3, x3, by kernel_rfl⟩
  · exact ⟨r4, x4, by kernel_rfl⟩
  · exact ⟨r5, x5, by kernel_rfl⟩
set_option maxRecDepth 1000000 in
theorem q130 : evEnt Tryz.prog 417 100000 [] [⟨f129, [0, 1, 2, 3, 4, 5, 6, 7], []⟩, ⟨f3, [], []⟩, ⟨f4, [], []⟩, ⟨f5, [], []⟩] 60 f130 = true := by kernel_rfl
theorem r130 : FEntOk Tryz.prog f130 := fent_of_ev none_ok t130 mixed (fnsOk_of 417 fns) rfl q130
theorem x130 : fitE f130 = true := by kernel_rfl
end Go.Proofs.YtbkgehknhjkaoaaGreatDoor.Pipe
