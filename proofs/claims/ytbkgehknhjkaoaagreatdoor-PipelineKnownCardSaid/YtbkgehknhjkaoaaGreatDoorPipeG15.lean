/- Calls of the law's run: what each finds, hands back and lays. -/
import Derived.Test.YtbkgehknhjkaoaaGreatDoorPipeG1
import Derived.Test.YtbkgehknhjkaoaaGreatDoorPipeG5
import Derived.Test.YtbkgehknhjkaoaaGreatDoorPipeG12
import Derived.Test.YtbkgehknhjkaoaaGreatDoorPipeG14
namespace Go.Proofs.YtbkgehknhjkaoaaGreatDoor.Pipe
open Go Go.Proofs.YtbkgehknhjkaoaaGreatDoor.Ev
noncomputable def f91 : FEnt := ⟨86, [.agg [.lit (.slice none 0 0), .lit (.slice none 0 0), .slr 0 0 2 0, .int .i64 (0)], .int .i64 (0), .agg [.int .i64 (-1), .lit (.slice none 0 0)]], 10, 0, i15, .tup [.agg [.lit (.slice none 0 0), .lit (.slice none 0 0), .slr 478 0 2 0, .int .i64 (0)], .slr 1683 0 2 0, .int .i64 (0)], 2181, 0, [⟨478, 6, [.lit (.string (bs [102])), .int .i64 (0), .int .i64 (8), .bool false, .lit (.slice none 0 0), .slr 348 0 5 0, .lit (.string (bs [103])), .int .i64 (1), .int .i64 (2), .bool true, .lit (.slice none 0 0), .slr 471 0 1 0]⟩, ⟨1683, 5, [.int .i64 (5), .int .i64 (1), .int .i64 (0), .int .i64 (3), .int .i64 (0), .int .i64 (5), .int .i64 (1), .int .i64 (0), .int .i64 (4), .int .i64 (0)]⟩, ⟨348, 6, [.lit (.slice none 0 0), .int .i64 (1), .int .i64 (0), .int .i64 (0), .int .i64 (1), .int .i64 (0), .slr 372 0 4 0, .int .i64 (1), .int .i64 (0), .int .i64 (0), .int .i64 (3), .int .i64 (0), .slr 377 0 1 0, .int .i64 (3), .int .i64 (0), .int .i64 (0), .int .i64 (0), .int .i64 (0), .slr 387 0 2 0, .int .i64 (1), .int .i64 (0), .int .i64 (0), .int .i64 (4), .int .i64 (0), .slr 402 0 3 0, .int .i64 (2), .int .i64 (7), .int .i64 (0), .int .i64 (1), .int .i64 (2)]⟩, ⟨471, 6, [.slr 476 0 1 0, .int .i64 (3), .int .i64 (1), .int .i64 (0), .int .i64 (0), .int .i64 (0)]⟩, ⟨372, 13, [.int .i64 (10), .int .i64 (0), .int .i64 (0), .int .i64 (0), .int .i64 (0), .int .i64 (0), .int .i64 (0), .int .i64 (0), .int .i64 (0), .int .i64 (0), .slr 353 0 2 0, .lit (.slice none 0 0), .slr 355 0 2 0, .int .i64 (2), .int .i64 (1), .int .i64 (1), .int .i64 (-1), .int .i64 (2), .int .i64 (-1), .int .i64 (3), .int .i64 (0), .int .i64 (0), .int .i64 (0), .lit (.slice none 0 0), .lit (.slice none 0 0), .lit (.slice none 0 0), .int .i64 (1), .int .i64 (0), .int .i64 (2), .int .i64 (0), .int .i64 (0), .int .i64 (0), .int .i64 (0), .int .i64 (0), .int .i64 (0), .int .i64 (0), .lit (.slice none 0 0), .lit (.slice none 0 0), .lit (.slice none 0 0), .int .i64 (1), .int .i64 (0), .int .i64 (3), .int .i64 (-1), .int .i64 (0), .int .i64 (0), .int .i64 (0), .int .i64 (0), .int .i64 (0), .int .i64 (0), .lit (.slice none 0 0), .lit (.slice none 0 0), .lit (.slice none 0 0)]⟩, ⟨377, 13, [.int .i64 (8), .int .i64 (0), .int .i64 (-1), .int .i64 (-1), .int .i64 (5), .int .i64 (0), .int .i64 (0), .int .i64 (0), .int .i64 (0), .int .i64 (0), .lit (.slice none 0 0), .lit (.slice none 0 0), .lit (.slice none 0 0)]⟩, ⟨387, 13, [.int .i64 (2), .int .i64 (3), .int .i64 (4), .int .i64 (0), .int .i64 (0), .int .i64 (-1), .int .i64 (1), .int .i64 (0), .int .i64 (0), .int .i64 (0), .lit (.slice none 0 0), .lit (.slice none 0 0), .lit (.slice none 0 0), .int .i64 (1), .int .i64 (0), .int .i64 (5), .int .i64 (4), .int .i64 (0), .int .i64 (0), .int .i64 (0), .int .i64 (0), .int .i64 (0), .int .i64 (0), .lit (.slice none 0 0), .lit (.slice none 0 0), .lit (.slice none 0 0)]⟩, ⟨402, 13, [.int .i64 (8), .int .i64 (0), .int .i64 (-1), .int .i64 (4), .int .i64 (0), .int .i64 (0), .int .i64 (0), .int .i64 (0), .int .i64 (0), .int .i64 (0), .lit (.slice none 0 0), .lit (.slice none 0 0), .lit (.slice none 0 0), .int .i64 (2), .int .i64 (1), .int .i64 (6), .int .i64 (0), .int .i64 (0), .int .i64 (-1), .int .i64 (1), .int .i64 (0), .int .i64 (0), .int .i64 (0), .lit (.slice none 0 0), .lit (.slice none 0 0), .lit (.slice none 0 0), .int .i64 (2), .int .i64 (13), .int .i64 (7), .int .i64 (6), .int .i64 (0), .int .i64 (-1), .int .i64 (3), .int .i64 (0), .int .i64 (0), .int .i64 (0), .lit (.slice none 0 0), .lit (.slice none 0 0), .lit (.slice none 0 0)]⟩, ⟨476, 13, [.int .i64 (2), .int .i64 (3), .int .i64 (1), .int .i64 (0), .int .i64 (0), .int .i64 (-1), .int .i64 (1), .int .i64 (0), .int .i64 (0), .int .i64 (0), .lit (.slice none 0 0), .lit (.slice none 0 0), .lit (.slice none 0 0)]⟩, ⟨353, 2, [.int .i64 (-1), .int .i64 (0), .int .i64 (6), .int .i64 (0)]⟩, ⟨355, 1, [.int .i64 (0), .int .i64 (4)]⟩], none⟩
theorem t91 : Tab2Ok Tryz.prog [⟨f89, [0, 1, 2, 3, 4, 5, 6, 7, 8, 9], []⟩, ⟨f90, [478, 348, 471, 372, 377, 387, 402, 476, 353, 355], []⟩, ⟨f76, [478, 348, 471, 372, 377, 387, 402, 476, 353, 355], []⟩] := fun x hx => by
  simp only [List.mem_cons, List.not_mem_nil, or_false] at hx
  rcases hx with rfl | rfl | rfl
  · exact ⟨r89, x89, by kernel_rfl⟩
  · exact ⟨r90, x90, by kernel_rfl⟩
  · exact ⟨r76, x76, by kernel_rfl⟩
set_option maxRecDepth 1000000 in
theorem q91 : evEnt Tryz.prog 417 100000 [] [⟨f89, [0, 1, 2, 3, 4, 5, 6, 7, 8, 9], []⟩, ⟨f90, [478, 348, 471, 372, 377, 387, 402, 476, 353, 355], []⟩, ⟨f76, [478, 348, 471, 372, 377, 387, 402, 476, 353, 355], []⟩] 60 f91 = true := by kernel_rfl
theorem r91 : FEntOk Tryz.prog f91 := fent_of_ev none_ok t91 mixed (fnsOk_of 417 fns) rfl q91
theorem x91 : fitE f91 = true := by kernel_rfl
noncomputable def f92 : FEnt := ⟨180, [.agg [.lit (.slice none 0 0), .lit (.slice none 0 0), .slr 0 0 2 0, .int .i64 (0)]], 10, 0, i19, .int .i64 (0), 239, 0, [], none⟩
theorem t92 : Tab2Ok Tryz.prog [] := fun x hx => by cases hx
set_option maxRecDepth 1000000 in
theorem q92 : evEnt Tryz.prog 417 100000 [] [] 60 f92 = true := by kernel_rfl
theorem r92 : FEntOk Tryz.prog f92 := fent_of_ev none_ok t92 mixed (fnsOk_of 417 fns) rfl q92
theorem x92 : fitE f92 = true := by kernel_rfl
noncomputable def f93 : FEnt := ⟨70, [.agg [.lit (.slice none 0 0), .lit (.slice none 0 0), .slr 0 0 2 0, .int .i64 (0)], .int .i64 (0)], 10, 0, i19, .tup [.agg [.sl 254 0 5 5, .sl 255 0 5 5, .slr 295 0 5 0, .sl 256 0 5 5, .sl 257 0 5 5], .int .i64 (0)], 324, 0, [⟨254, 0, [.lit (.slice none 0 0), .slr 280 0 2 0, .slr 282 0 1 0, .slr 268 0 1 0, .slr 275 0 1 0]⟩, ⟨255, 0, [.sl 261 0 1 1, .sl 266 0 1 1, .lit (.slice none 0 0), .sl 273 0 1 1, .sl 278 0 2 2]⟩, ⟨295, 1, [.int .i64 (0), .int .i64 (1), .int .i64 (3), .int .i64 (4), .int .i64 (2)]⟩, ⟨256, 0, [.int .i64 (-1), .int .i64 (0), .int .i64 (4), .int .i64 (1), .int .i64 (3)]⟩, ⟨257, 0, [.lit (.slice none 0 0), .slr 328 0 1 0, .lit (.slice none 0 0), .slr 330 0 1 0, .slr 332 0 1 0]⟩, ⟨280, 1, [.int .i64 (0), .int .i64 (4)]⟩, ⟨282, 1, [.int .i64 (4)]⟩, ⟨268, 1, [.int .i64 (1)]⟩, ⟨275, 1, [.int .i64 (3)]⟩, ⟨261, 0, [.int .i64 (1)]⟩, ⟨266, 0, [.int .i64 (3)]⟩, ⟨273, 0, [.int .i64 (4)]⟩, ⟨278, 0, [.int .i64 (1), .int .i64 (2)]⟩, ⟨328, 1, [.int .i64 (1)]⟩, ⟨330, 1, [.int .i64 (1)]⟩, ⟨332, 1, [.int .i64 (1)]⟩], none⟩
theorem t93 : Tab2Ok Tryz.prog [⟨f92, [0, 1, 2, 3, 4, 5, 6, 7, 8, 9], []⟩, ⟨f3, [], []⟩, ⟨f4, [], []⟩, ⟨f31, [], []⟩, ⟨f32, [], []⟩, ⟨f33, [], []⟩] := fun x hx => by
  simp only [List.mem_cons, List.not_mem_nil, or_false] at hx
  rcases hx with rfl | rfl | rfl | rfl | rfl | rfl
  · exact ⟨r92, x92, by kernel_rfl⟩
  · exact ⟨r3, x3, by kernel_rfl⟩
  · exact ⟨r4, x4, by kernel_rfl⟩
  · exact ⟨r31, x31, by kernel_rfl⟩
  · exact ⟨r32, x32, by kernel_rfl⟩
  · exact ⟨r33, x33, by kernel_rfl⟩
set_option maxRecDepth 1000000 in
theorem q93 : evEnt Tryz.prog 417 100000 [] [⟨f92, [0, 1, 2, 3, 4, 5, 6, 7, 8, 9], []⟩, ⟨f3, [], []⟩, ⟨f4, [], []⟩, ⟨f31, [], []⟩, ⟨f32, [], []⟩, ⟨f33, [], []⟩] 60 f93 = true := by kernel_rfl
theorem r93 : FEntOk Tryz.prog f93 := fent_of_ev none_ok t93 mixed (fnsOk_of 417 fns) rfl q93
theorem x93 : fitE f93 = true := by kernel_rfl
noncomputable def f94 : FEnt := ⟨180, [.agg [.lit (.slice none 0 0), .lit (.slice none 0 0), .slr 0 0 2 0, .int .i64 (0)]], 10, 0, i20, .int .i64 (0), 239, 0, [], none⟩
theorem t94 : Tab2Ok Tryz.prog [] := fun x hx => by cases hx
set_option maxRecDepth 1000000 in
theorem q94 : evEnt Tryz.prog 417 100000 [] [] 60 f94 = true := by kernel_rfl
theorem r94 : FEntOk Tryz.prog f94 := fent_of_ev none_ok t94 mixed (fnsOk_of 417 fns) rfl q94
theorem x94 : fitE f94 = true := by kernel_rfl
noncomputable def f95 : FEnt := ⟨70, [.agg [.lit (.slice none 0 0), .lit (.slice none 0 0), .slr 0 0 2 0, .int .i64 (0)], .int .i64 (0)], 10, 0, i20, .tup [.agg [.sl 254 0 5 5, .sl 255 0 5 5, .slr 295 0 5 0, .sl 256 0 5 5, .sl 257 0 5 5], .int .i64 (0)], 324, 0, [⟨254, 0, [.lit (.slice none 0 0), .slr 280 0 2 0, .slr 282 0 1 0, .slr 268 0 1 0, .slr 275 0 1 0]⟩, ⟨255, 0, [.sl 261 0 1 1, .sl 266 0 1 1, .lit (.slice none 0 0), .sl 273 0 1 1, .sl 278 0 2 2]⟩, ⟨295, 1, [.int .i64 (0), .int .i64 (1), .int .i64 (3), .int .i64 (4), .int .i64 (2)]⟩, ⟨256, 0, [.int .i64 (-1), .int .i64 (0), .int .i64 (4), .int .i64 (1), .int .i64 (3)]⟩, ⟨257, 0, [.lit (.slice none 0 0), .slr 328 0 1 0, .lit (.slice none 0 0), .slr 330 0 1 0, .slr 332 0 1 0]⟩, ⟨280, 1, [.int .i64 (0), .int .i64 (4)]⟩, ⟨282, 1, [.int .i64 (4)]⟩, ⟨268, 1, [.int .i64 (1)]⟩, ⟨275, 1, [.int .i64 (3)]⟩, ⟨261, 0, [.int .i64 (1)]⟩, ⟨266, 0, [.int .i64 (3)]⟩, ⟨273, 0, [.int .i64 (4)]⟩, ⟨278, 0, [.int .i64 (1), .int .i64 (2)]⟩, ⟨328, 1, [.int .i64 (1)]⟩, ⟨330, 1, [.int .i64 (1)]⟩, ⟨332, 1, [.int .i64 (1)]⟩], none⟩
theorem t95 : Tab2Ok Tryz.prog [⟨f94, [0, 1, 2, 3, 4, 5, 6, 7, 8, 9], []⟩, ⟨f3, [], []⟩, ⟨f4, [], []⟩, ⟨f31, [], []⟩, ⟨f32, [], []⟩, ⟨f33, [], []⟩] := fun x hx => by
  simp only [List.mem_cons, List.not_mem_nil, or_false] at hx
  rcases hx with rfl | rfl | rfl | rfl | rfl | rfl
  · exact ⟨r94, x94, by kernel_rfl⟩
  · exact ⟨r3, x3, by kernel_rfl⟩
  · exact ⟨r4, x4, by kernel_rfl⟩
  · exact ⟨r31, x31, by kernel_rfl⟩
  · exact ⟨r32, x32, by kernel_rfl⟩
  · exact ⟨r33, x33, by kernel_rfl⟩
set_option maxRecDepth 1000000 in
theorem q95 : evEnt Tryz.prog 417 100000 [] [⟨f94, [0, 1, 2, 3, 4, 5, 6, 7, 8, 9], []⟩, ⟨f3, [], []⟩, ⟨f4, [], []⟩, ⟨f31, [], []⟩, ⟨f32, [], []⟩, ⟨f33, [], []⟩] 60 f95 = true := by kernel_rfl
theorem r95 : FEntOk Tryz.prog f95 := fent_of_ev none_ok t95 mixed (fnsOk_of 417 fns) rfl q95
theorem x95 : fitE f95 = true := by kernel_rfl
end Go.Proofs.YtbkgehknhjkaoaaGreatDoor.Pipe
