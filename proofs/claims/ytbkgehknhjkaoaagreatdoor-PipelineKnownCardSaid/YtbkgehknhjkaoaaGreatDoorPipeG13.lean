/- Calls of the law's run: what each finds, hands back and lays. -/
import Derived.Test.YtbkgehknhjkaoaaGreatDoorPipeG1
import Derived.Test.YtbkgehknhjkaoaaGreatDoorPipeG5
namespace Go.Proofs.YtbkgehknhjkaoaaGreatDoor.Pipe
open Go Go.Proofs.YtbkgehknhjkaoaaGreatDoor.Ev
noncomputable def f77 : FEnt := ⟨180, [.agg [.lit (.slice none 0 0), .lit (.slice none 0 0), .slr 0 0 2 0, .int .i64 (0)]], 10, 0, i16, .int .i64 (0), 239, 0, [], none⟩
theorem t77 : Tab2Ok Tryz.prog [] := fun x hx => by cases hx
set_option maxRecDepth 1000000 in
theorem q77 : evEnt Tryz.prog 417 100000 [] [] 60 f77 = true := by kernel_rfl
theorem r77 : FEntOk Tryz.prog f77 := fent_of_ev none_ok t77 mixed (fnsOk_of 417 fns) rfl q77
theorem x77 : fitE f77 = true := by kernel_rfl
noncomputable def f78 : FEnt := ⟨70, [.agg [.lit (.slice none 0 0), .lit (.slice none 0 0), .slr 0 0 2 0, .int .i64 (0)], .int .i64 (0)], 10, 0, i16, .tup [.agg [.sl 254 0 5 5, .sl 255 0 5 5, .slr 295 0 5 0, .sl 256 0 5 5, .sl 257 0 5 5], .int .i64 (0)], 324, 0, [⟨254, 0, [.lit (.slice none 0 0), .slr 280 0 2 0, .slr 282 0 1 0, .slr 268 0 1 0, .slr 275 0 1 0]⟩, ⟨255, 0, [.sl 261 0 1 1, .sl 266 0 1 1, .lit (.slice none 0 0), .sl 273 0 1 1, .sl 278 0 2 2]⟩, ⟨295, 1, [.int .i64 (0), .int .i64 (1), .int .i64 (3), .int .i64 (4), .int .i64 (2)]⟩, ⟨256, 0, [.int .i64 (-1), .int .i64 (0), .int .i64 (4), .int .i64 (1), .int .i64 (3)]⟩, ⟨257, 0, [.lit (.slice none 0 0), .slr 328 0 1 0, .lit (.slice none 0 0), .slr 330 0 1 0, .slr 332 0 1 0]⟩, ⟨280, 1, [.int .i64 (0), .int .i64 (4)]⟩, ⟨282, 1, [.int .i64 (4)]⟩, ⟨268, 1, [.int .i64 (1)]⟩, ⟨275, 1, [.int .i64 (3)]⟩, ⟨261, 0, [.int .i64 (1)]⟩, ⟨266, 0, [.int .i64 (3)]⟩, ⟨273, 0, [.int .i64 (4)]⟩, ⟨278, 0, [.int .i64 (1), .int .i64 (2)]⟩, ⟨328, 1, [.int .i64 (1)]⟩, ⟨330, 1, [.int .i64 (1)]⟩, ⟨332, 1, [.int .i64 (1)]⟩], none⟩
theorem t78 : Tab2Ok Tryz.prog [⟨f77, [0, 1, 2, 3, 4, 5, 6, 7, 8, 9], []⟩, ⟨f3, [], []⟩, ⟨f4, [], []⟩, ⟨f31, [], []⟩, ⟨f32, [], []⟩, ⟨f33, [], []⟩] := fun x hx => by
  simp only [List.mem_cons, List.not_mem_nil, or_false] at hx
  rcases hx with rfl | rfl | rfl | rfl | rfl | rfl
  · exact ⟨r77, x77, by kernel_rfl⟩
  · exact ⟨r3, x3, by kernel_rfl⟩
  · exact ⟨r4, x4, by kernel_rfl⟩
  · exact ⟨r31, x31, by kernel_rfl⟩
  · exact ⟨r32, x32, by kernel_rfl⟩
  · exact ⟨r33, x33, by kernel_rfl⟩
set_option maxRecDepth 1000000 in
theorem q78 : evEnt Tryz.prog 417 100000 [] [⟨f77, [0, 1, 2, 3, 4, 5, 6, 7, 8, 9], []⟩, ⟨f3, [], []⟩, ⟨f4, [], []⟩, ⟨f31, [], []⟩, ⟨f32, [], []⟩, ⟨f33, [], []⟩] 60 f78 = true := by kernel_rfl
theorem r78 : FEntOk Tryz.prog f78 := fent_of_ev none_ok t78 mixed (fnsOk_of 417 fns) rfl q78
theorem x78 : fitE f78 = true := by kernel_rfl
noncomputable def f79 : FEnt := ⟨180, [.agg [.lit (.slice none 0 0), .lit (.slice none 0 0), .slr 0 0 2 0, .int .i64 (0)]], 9, 0, i17, .int .i64 (0), 228, 0, [], none⟩
theorem t79 : Tab2Ok Tryz.prog [] := fun x hx => by cases hx
set_option maxRecDepth 1000000 in
theorem q79 : evEnt Tryz.prog 417 100000 [] [] 60 f79 = true := by kernel_rfl
theorem r79 : FEntOk Tryz.prog f79 := fent_of_ev none_ok t79 mixed (fnsOk_of 417 fns) rfl q79
theorem x79 : fitE f79 = true := by kernel_rfl
noncomputable def f80 : FEnt := ⟨70, [.agg [.lit (.slice none 0 0), .lit (.slice none 0 0), .slr 0 0 2 0, .int .i64 (0)], .int .i64 (0)], 9, 0, i17, .tup [.agg [.sl 242 0 4 4, .sl 243 0 4 4, .slr 276 0 4 0, .sl 244 0 4 4, .sl 245 0 4 4], .int .i64 (0)], 294, 0, [⟨242, 0, [.lit (.slice none 0 0), .slr 263 0 2 0, .slr 265 0 1 0, .slr 256 0 1 0]⟩, ⟨243, 0, [.sl 249 0 1 1, .sl 254 0 1 1, .lit (.slice none 0 0), .sl 261 0 2 2]⟩, ⟨276, 1, [.int .i64 (0), .int .i64 (1), .int .i64 (3), .int .i64 (2)]⟩, ⟨244, 0, [.int .i64 (-1), .int .i64 (0), .int .i64 (3), .int .i64 (1)]⟩, ⟨245, 0, [.lit (.slice none 0 0), .slr 299 0 1 0, .lit (.slice none 0 0), .slr 301 0 1 0]⟩, ⟨263, 1, [.int .i64 (0), .int .i64 (3)]⟩, ⟨265, 1, [.int .i64 (3)]⟩, ⟨256, 1, [.int .i64 (1)]⟩, ⟨249, 0, [.int .i64 (1)]⟩, ⟨254, 0, [.int .i64 (3)]⟩, ⟨261, 0, [.int .i64 (1), .int .i64 (2)]⟩, ⟨299, 1, [.int .i64 (1)]⟩, ⟨301, 1, [.int .i64 (1)]⟩], none⟩
theorem t80 : Tab2Ok Tryz.prog [⟨f79, [0, 1, 2, 3, 4, 5, 6, 7, 8], []⟩, ⟨f3, [], []⟩, ⟨f4, [], []⟩, ⟨f38, [], []⟩, ⟨f32, [], []⟩] := fun x hx => by
  simp only [List.mem_cons, List.not_mem_nil, or_false] at hx
  rcases hx with rfl | rfl | rfl | rfl | rfl
  · exact ⟨r79, x79, by kernel_rfl⟩
  · exact ⟨r3, x3, by kernel_rfl⟩
  · exact ⟨r4, x4, by kernel_rfl⟩
  · exact ⟨r38, x38, by kernel_rfl⟩
  · exact ⟨r32, x32, by kernel_rfl⟩
set_option maxRecDepth 1000000 in
theorem q80 : evEnt Tryz.prog 417 100000 [] [⟨f79, [0, 1, 2, 3, 4, 5, 6, 7, 8], []⟩, ⟨f3, [], []⟩, ⟨f4, [], []⟩, ⟨f38, [], []⟩, ⟨f32, [], []⟩] 60 f80 = true := by kernel_rfl
theorem r80 : FEntOk Tryz.prog f80 := fent_of_ev none_ok t80 mixed (fnsOk_of 417 fns) rfl q80
theorem x80 : fitE f80 = true := by kernel_rfl
noncomputable def f81 : FEnt := ⟨180, [.agg [.lit (.slice none 0 0), .lit (.slice none 0 0), .slr 0 0 2 0, .int .i64 (0)]], 8, 0, i18, .int .i64 (0), 217, 0, [], none⟩
theorem t81 : Tab2Ok Tryz.prog [] := fun x hx => by cases hx
set_option maxRecDepth 1000000 in
theorem q81 : evEnt Tryz.prog 417 100000 [] [] 60 f81 = true := by kernel_rfl
theorem r81 : FEntOk Tryz.prog f81 := fent_of_ev none_ok t81 mixed (fnsOk_of 417 fns) rfl q81
theorem x81 : fitE f81 = true := by kernel_rfl
noncomputable def f82 : FEnt := ⟨70, [.agg [.lit (.slice none 0 0), .lit (.slice none 0 0), .slr 0 0 2 0, .int .i64 (0)], .int .i64 (0)], 8, 0, i18, .tup [.agg [.sl 230 0 3 3, .sl 231 0 3 3, .slr 257 0 3 0, .sl 232 0 3 3, .sl 233 0 3 3], .int .i64 (0)], 266, 0, [⟨230, 0, [.lit (.slice none 0 0), .slr 244 0 2 0, .slr 246 0 1 0]⟩, ⟨231, 0, [.sl 237 0 1 1, .sl 242 0 2 2, .lit (.slice none 0 0)]⟩, ⟨257, 1, [.int .i64 (0), .int .i64 (1), .int .i64 (2)]⟩, ⟨232, 0, [.int .i64 (-1), .int .i64 (0), .int .i64 (1)]⟩, ⟨233, 0, [.lit (.slice none 0 0), .slr 272 0 1 0, .lit (.slice none 0 0)]⟩, ⟨244, 1, [.int .i64 (0), .int .i64 (1)]⟩, ⟨246, 1, [.int .i64 (1)]⟩, ⟨237, 0, [.int .i64 (1)]⟩, ⟨242, 0, [.int .i64 (1), .int .i64 (2)]⟩, ⟨272, 1, [.int .i64 (1)]⟩], none⟩
theorem t82 : Tab2Ok Tryz.prog [⟨f81, [0, 1, 2, 3, 4, 5, 6, 7], []⟩, ⟨f3, [], []⟩, ⟨f4, [], []⟩, ⟨f5, [], []⟩] := fun x hx => by
  simp only [List.mem_cons, List.not_mem_nil, or_false] at hx
  rcases hx with rfl | rfl | rfl | rfl
  · exact ⟨r81, x81, by kernel_rfl⟩
  · exact ⟨r3, x3, by kernel_rfl⟩
  · exact ⟨r4, x4, by kernel_rfl⟩
  · exact ⟨r5, x5, by kernel_rfl⟩
set_option maxRecDepth 1000000 in
theorem q82 : evEnt Tryz.prog 417 100000 [] [⟨f81, [0, 1, 2, 3, 4, 5, 6, 7], []⟩, ⟨f3, [], []⟩, ⟨f4, [], []⟩, ⟨f5, [], []⟩] 60 f82 = true := by kernel_rfl
theorem r82 : FEntOk Tryz.prog f82 := fent_of_ev none_ok t82 mixed (fnsOk_of 417 fns) rfl q82
theorem x82 : fitE f82 = true := by kernel_rfl
end Go.Proofs.YtbkgehknhjkaoaaGreatDoor.Pipe
