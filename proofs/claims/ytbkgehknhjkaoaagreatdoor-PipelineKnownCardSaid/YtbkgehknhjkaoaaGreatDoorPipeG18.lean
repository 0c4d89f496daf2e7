/- Calls of the law's run: what each finds, hands back and lays. -/
import Derived.Test.YtbkgehknhjkaoaaGreatDoorPipeG1
import Derived.Test.YtbkgehknhjkaoaaGreatDoorPipeG5
import Derived.Test.YtbkgehknhjkaoaaGreatDoorPipeG17
namespace Go.Proofs.YtbkgehknhjkaoaaGreatDoor.Pipe
open Go Go.Proofs.YtbkgehknhjkaoaaGreatDoor.Ev
noncomputable def f110 : FEnt := ⟨70, [.agg [.lit (.slice none 0 0), .lit (.slice none 0 0), .slr 0 0 2 0, .int .i64 (0)], .int .i64 (0)], 10, 0, i23, .tup [.agg [.sl 254 0 5 5, .sl 255 0 5 5, .slr 295 0 5 0, .sl 256 0 5 5, .sl 257 0 5 5], .int .i64 (0)], 324, 0, [⟨254, 0, [.lit (.slice none 0 0), .slr 280 0 2 0, .slr 282 0 1 0, .slr 268 0 1 0, .slr 275 0 1 0]⟩, ⟨255, 0, [.sl 261 0 1 1, .sl 266 0 1 1, .lit (.slice none 0 0), .sl 273 0 1 1, .sl 278 0 2 2]⟩, ⟨295, 1, [.int .i64 (0), .int .i64 (1), .int .i64 (3), .int .i64 (4), .int .i64 (2)]⟩, ⟨256, 0, [.int .i64 (-1), .int .i64 (0), .int .i64 (4), .int .i64 (1), .int .i64 (3)]⟩, ⟨257, 0, [.lit (.slice none 0 0), .slr 328 0 1 0, .lit (.slice none 0 0), .slr 330 0 1 0, .slr 332 0 1 0]⟩, ⟨280, 1, [.int .i64 (0), .int .i64 (4)]⟩, ⟨282, 1, [.int .i64 (4)]⟩, ⟨268, 1, [.int .i64 (1)]⟩, ⟨275, 1, [.int .i64 (3)]⟩, ⟨261, 0, [.int .i64 (1)]⟩, ⟨266, 0, [.int .i64 (3)]⟩, ⟨273, 0, [.int .i64 (4)]⟩, ⟨278, 0, [.int .i64 (1), .int .i64 (2)]⟩, ⟨328, 1, [.int .i64 (1)]⟩, ⟨330, 1, [.int .i64 (1)]⟩, ⟨332, 1, [.int .i64 (1)]⟩], none⟩
theorem t110 : Tab2Ok Tryz.prog [⟨f109, [0, 1, 2, 3, 4, 5, 6, 7, 8, 9], []⟩, ⟨f3, [], []⟩, ⟨f4, [], []⟩, ⟨f31, [], []⟩, ⟨f32, [], []⟩, ⟨f33, [], []⟩] := fun x hx => by
  simp only [List.mem_cons, List.not_mem_nil, or_false] at hx
  rcases hx with rfl | rfl | rfl | rfl | rfl | rfl
  · exact ⟨r109, x109, by kernel_rfl⟩
  · exact ⟨r3, x3, by kernel_rfl⟩
  · exact ⟨r4, x4, by kernel_rfl⟩
  · exact ⟨r31, x31, by kernel_rfl⟩
  · exact ⟨r32, x32, by kernel_rfl⟩
  · exact ⟨r33, x33, by kernel_rfl⟩
set_option maxRecDepth 1000000 in
theorem q110 : evEnt Tryz.prog 417 100000 [] [⟨f109, [0, 1, 2, 3, 4, 5, 6, 7, 8, 9], []⟩, ⟨f3, [], []⟩, ⟨f4, [], []⟩, ⟨f31, [], []⟩, ⟨f32, [], []⟩, ⟨f33, [], []⟩] 60 f110 = true := by kernel_rfl
theorem r110 : FEntOk Tryz.prog f110 := fent_of_ev none_ok t110 mixed (fnsOk_of 417 fns) rfl q110
theorem x110 : fitE f110 = true := by kernel_rfl
noncomputable def f111 : FEnt := ⟨180, [.agg [.lit (.slice none 0 0), .lit (.slice none 0 0), .slr 0 0 2 0, .int .i64 (0)]], 10, 0, i24, .int .i64 (0), 239, 0, [], none⟩
theorem t111 : Tab2Ok Tryz.prog [] := fun x hx => by cases hx
set_option maxRecDepth 1000000 in
theorem q111 : evEnt Tryz.prog 417 100000 [] [] 60 f111 = true := by kernel_rfl
theorem r111 : FEntOk Tryz.prog f111 := fent_of_ev none_ok t111 mixed (fnsOk_of 417 fns) rfl q111
theorem x111 : fitE f111 = true := by kernel_rfl
noncomputable def f112 : FEnt := ⟨70, [.agg [.lit (.slice none 0 0), .lit (.slice none 0 0), .slr 0 0 2 0, .int .i64 (0)], .int .i64 (0)], 10, 0, i24, .tup [.agg [.sl 254 0 5 5, .sl 255 0 5 5, .slr 295 0 5 0, .sl 256 0 5 5, .sl 257 0 5 5], .int .i64 (0)], 324, 0, [⟨254, 0, [.lit (.slice none 0 0), .slr 280 0 2 0, .slr 282 0 1 0, .slr 268 0 1 0, .slr 275 0 1 0]⟩, ⟨255, 0, [.sl 261 0 1 1, .sl 266 0 1 1, .lit (.slice none 0 0), .sl 273 0 1 1, .sl 278 0 2 2]⟩, ⟨295, 1, [.int .i64 (0), .int .i64 (1), .int .i64 (3), .int .i64 (4), .int .i64 (2)]⟩, ⟨256, 0, [.int .i64 (-1), .int .i64 (0), .int .i64 (4), .int .i64 (1), .int .i64 (3)]⟩, ⟨257, 0, [.lit (.slice none 0 0), .slr 328 0 1 0, .lit (.slice none 0 0), .slr 330 0 1 0, .slr 332 0 1 0]⟩, ⟨280, 1, [.int .i64 (0), .int .i64 (4)]⟩, ⟨282, 1, [.int .i64 (4)]⟩, ⟨268, 1, [.int .i64 (1)]⟩, ⟨275, 1, [.int .i64 (3)]⟩, ⟨261, 0, [.int .i64 (1)]⟩, ⟨266, 0, [.int .i64 (3)]⟩, ⟨273, 0, [.int .i64 (4)]⟩, ⟨278, 0, [.int .i64 (1), .int .i64 (2)]⟩, ⟨328, 1, [.int .i64 (1)]⟩, ⟨330, 1, [.int .i64 (1)]⟩, ⟨332, 1, [.int .i64 (1)]⟩], none⟩
theorem t112 : Tab2Ok Tryz.prog [⟨f111, [0, 1, 2, 3, 4, 5, 6, 7, 8, 9], []⟩, ⟨f3, [], []⟩, ⟨f4, [], []⟩, ⟨f31, [], []⟩, ⟨f32, [], []⟩, ⟨f33, [], []⟩] := fun x hx => by
  simp only [List.mem_cons, List.not_mem_nil, or_false] at hx
  rcases hx with rfl | rfl | rfl | rfl | rfl | rfl
  · exact ⟨r111, x111, by kernel_rfl⟩
  · exact ⟨r3, x3, by kernel_rfl⟩
  · exact ⟨r4, x4, by kernel_rfl⟩
  · exact ⟨r31, x31, by kernel_rfl⟩
  · exact ⟨r32, x32, by kernel_rfl⟩
  · exact ⟨r33, x33, by kernel_rfl⟩
set_option maxRecDepth 1000000 in
theorem q112 : evEnt Tryz.prog 417 100000 [] [⟨f111, [0, 1, 2, 3, 4, 5, 6, 7, 8, 9], []⟩, ⟨f3, [], []⟩, ⟨f4, [], []⟩, ⟨f31, [], []⟩, ⟨f32, [], []⟩, ⟨f33, [], []⟩] 60 f112 = true := by kernel_rfl
theorem r112 : FEntOk Tryz.prog f112 := fent_of_ev none_ok t112 mixed (fnsOk_of 417 fns) rfl q112
theorem x112 : fitE f112 = true := by kernel_rfl
noncomputable def f113 : FEnt := ⟨180, [.agg [.lit (.slice none 0 0), .lit (.slice none 0 0), .slr 0 0 2 0, .int .i64 (0)]], 9, 0, i25, .int .i64 (0), 228, 0, [], none⟩
theorem t113 : Tab2Ok Tryz.prog [] := fun x hx => by cases hx
set_option maxRecDepth 1000000 in
theorem q113 : evEnt Tryz.prog 417 100000 [] [] 60 f113 = true := by kernel_rfl
theorem r113 : FEntOk Tryz.prog f113 := fent_of_ev none_ok t113 mixed (fnsOk_of 417 fns) rfl q113
theorem x113 : fitE f113 = true := by kernel_rfl
noncomputable def f114 : FEnt := ⟨70, [.agg [.lit (.slice none 0 0), .lit (.slice none 0 0), .slr 0 0 2 0, .int .i64 (0)], .int .i64 (0)], 9, 0, i25, .tup [.agg [.sl 242 0 4 4, .sl 243 0 4 4, .slr 276 0 4 0, .sl 244 0 4 4, .sl 245 0 4 4], .int .i64 (0)], 294, 0, [⟨242, 0, [.lit (.slice none 0 0), .slr 263 0 2 0, .slr 265 0 1 0, .slr 256 0 1 0]⟩, ⟨243, 0, [.sl 249 0 1 1, .sl 254 0 1 1, .lit (.slice none 0 0), .sl 261 0 2 2]⟩, ⟨276, 1, [.int .i64 (0), .int .i64 (1), .int .i64 (3), .int .i64 (2)]⟩, ⟨244, 0, [.int .i64 (-1), .int .i64 (0), .int .i64 (3), .int .i64 (1)]⟩, ⟨245, 0, [.lit (.slice none 0 0), .slr 299 0 1 0, .lit (.slice none 0 0), .slr 301 0 1 0]⟩, ⟨263, 1, [.int .i64 (0), .int .i64 (3)]⟩, ⟨265, 1, [.int .i64 (3)]⟩, ⟨256, 1, [.int .i64 (1)]⟩, ⟨249, 0, [.int .i64 (1)]⟩, ⟨254, 0, [.int .i64 (3)]⟩, ⟨261, 0, [.int .i64 (1), .int .i64 (2)]⟩, ⟨299, 1, [.int .i64 (1)]⟩, ⟨301, 1, [.int .i64 (1)]⟩], none⟩
theorem t114 : Tab2Ok Tryz.prog [⟨f113, [0, 1, 2, 3, 4, 5, 6, 7, 8], []⟩, ⟨f3, [], []⟩, ⟨f4, [], []⟩, ⟨f38, [], []⟩, ⟨f32, [], []⟩] := fun x hx => by
  simp only [List.mem_cons, List.not_mem_nil, or_false] at hx
  rcases hx with rfl | rfl | rfl | rfl | rfl
  · exact ⟨r113, x113, by kernel_rfl⟩
  · exact ⟨r3, x3, by kernel_rfl⟩
  · exact ⟨r4, x4, by kernel_rfl⟩
  · exact ⟨r38, x38, by kernel_rfl⟩
  · exact ⟨r32, x32, by kernel_rfl⟩
set_option maxRecDepth 1000000 in
theorem q114 : evEnt Tryz.prog 417 100000 [] [⟨f113, [0, 1, 2, 3, 4, 5, 6, 7, 8], []⟩, ⟨f3, [], []⟩, ⟨f4, [], []⟩, ⟨f38, [], []⟩, ⟨f32, [], []⟩] 60 f114 = true := by kernel_rfl
theorem r114 : FEntOk Tryz.prog f114 := fent_of_ev none_ok t114 mixed (fnsOk_of 417 fns) rfl q114
theorem x114 : fitE f114 = true := by kernel_rfl
noncomputable def f115 : FEnt := ⟨180, [.agg [.lit (.slice none 0 0), .lit (.slice none 0 0), .slr 0 0 2 0, .int .i64 (0)]], 8, 0, i26, .int .i64 (0), 217, 0, [], none⟩
theorem t115 : Tab2Ok Tryz.prog [] := fun x hx => by cases hx
set_option maxRecDepth 1000000 in
theorem q115 : evEnt Tryz.prog 417 100000 [] [] 60 f115 = true := by kernel_rfl
theorem r115 : FEntOk Tryz.prog f115 := fent_of_ev none_ok t115 mixed (fnsOk_of 417 fns) rfl q115
theorem x115 : fitE f115 = true := by kernel_rfl
noncomputable def f116 : FEnt := ⟨70, [.agg [.lit (.slice none 0 0), .lit (.slice none 0 0), .slr 0 0 2 0, .int .i64 (0)], .int .i64 (0)], 8, 0, i26, .tup [.agg [.sl 230 0 3 3, .sl 231 0 3 3, .slr 257 0 3 0, .sl 232 0 3 3, .sl 233 0 3 3], .int .i64 (0)], 266, 0, [⟨230, 0, [.lit (.slice none 0 0), .slr 244 0 2 0, .slr 246 0 1 0]⟩, ⟨231, 0, [.sl 237 0 1 1, .sl 242 0 2 2, .lit (.slice none 0 0)]⟩, ⟨257, 1, [.int .i64 (0), .int .i64 (1), .int .i64 (2)]⟩, ⟨232, 0, [.int .i64 (-1), .int .i64 (0), .int .i64 (1)]⟩, ⟨233, 0, [.lit (.slice none 0 0), .slr 272 0 1 0, .lit (.slice none 0 0)]⟩, ⟨244, 1, [.int .i64 (0), .int .i64 (1)]⟩, ⟨246, 1, [.int .i64 (1)]⟩, ⟨237, 0, [.int .i64 (1)]⟩, ⟨242, 0, [.int .i64 (1), .int .i64 (2)]⟩, ⟨272, 1, [.int .i64 (1)]⟩], none⟩
theorem t116 : Tab2Ok Tryz.prog [⟨f115, [0, 1, 2, 3, 4, 5, 6, 7], []⟩, ⟨f3, [], []⟩, ⟨f4, [], []⟩, ⟨f5, [], []⟩] := fun x hx => by
  simp only [List.mem_cons, List.not_mem_nil, or_false] at hx
  rcases hx with rfl | rfl | rfl | rfl
  · exact ⟨r115, x115, by kernel_rfl⟩
  · exact ⟨r3, x3, by kernel_rfl⟩
  · exact ⟨r4, x4, by kernel_rfl⟩
  · exact ⟨r5, x5, by kernel_rfl⟩
set_option maxRecDepth 1000000 in
theorem q116 : evEnt Tryz.prog 417 100000 [] [⟨f115, [0, 1, 2, 3, 4, 5, 6, 7], []⟩, ⟨f3, [], []⟩, ⟨f4, [], []⟩, ⟨f5, [], []⟩] 60 f116 = true := by kernel_rfl
theorem r116 : FEntOk Tryz.prog f116 := fent_of_ev none_ok t116 mixed (fnsOk_of 417 fns) rfl q116
theorem x116 : fitE f116 = true := by kernel_rfl
end Go.Proofs.YtbkgehknhjkaoaaGreatDoor.Pipe
