/- Calls of the law's run: what each finds, hands back and lays. -/
import Derived.Test.YtbkgehknhjkaoaaGreatDoorPipeG1
import Derived.Test.YtbkgehknhjkaoaaGreatDoorPipeG5
import Derived.Test.YtbkgehknhjkaoaaGreatDoorPipeG19
import Derived.Test.YtbkgehknhjkaoaaGreatDoorPipeG21
namespace Go.Proofs.YtbkgehknhjkaoaaGreatDoor.Pipe
open Go Go.Proofs.YtbkgehknhjkaoaaGreatDoor.Ev
noncomputable def f138 : FEnt := ⟨70, [.agg [.lit (.slice none 0 0), .lit (.slice none 0 0), .slr 0 0 2 0, .int .i64 (0)], .int .i64 (0)], 11, 0, i32, .tup [.agg [.sl 255 0 5 5, .sl 256 0 5 5, .slr 296 0 5 0, .sl 257 0 5 5, .sl 258 0 5 5], .int .i64 (0)], 324, 0, [⟨255, 0, [.lit (.slice none 0 0), .slr 281 0 2 0, .slr 283 0 1 0, .slr 269 0 1 0, .slr 276 0 1 0]⟩, ⟨256, 0, [.sl 262 0 1 1, .sl 267 0 1 1, .lit (.slice none 0 0), .sl 274 0 1 1, .sl 279 0 2 2]⟩, ⟨296, 1, [.int .i64 (0), .int .i64 (1), .int .i64 (3), .int .i64 (4), .int .i64 (2)]⟩, ⟨257, 0, [.int .i64 (-1), .int .i64 (0), .int .i64 (4), .int .i64 (1), .int .i64 (3)]⟩, ⟨258, 0, [.lit (.slice none 0 0), .slr 329 0 1 0, .lit (.slice none 0 0), .slr 331 0 1 0, .slr 333 0 1 0]⟩, ⟨281, 1, [.int .i64 (0), .int .i64 (4)]⟩, ⟨283, 1, [.int .i64 (4)]⟩, ⟨269, 1, [.int .i64 (1)]⟩, ⟨276, 1, [.int .i64 (3)]⟩, ⟨262, 0, [.int .i64 (1)]⟩, ⟨267, 0, [.int .i64 (3)]⟩, ⟨274, 0, [.int .i64 (4)]⟩, ⟨279, 0, [.int .i64 (1), .int .i64 (2)]⟩, ⟨329, 1, [.int .i64 (1)]⟩, ⟨331, 1, [.int .i64 (1)]⟩, ⟨333, 1, [.int .i64 (1)]⟩], none⟩
theorem t138 : Tab2Ok Tryz.prog [⟨f137, [0, 1, 2, 3, 4, 5, 6, 7, 8, 9, 10], []⟩, ⟨f3, [], []⟩, ⟨f4, [], []⟩, ⟨f31, [], []⟩, ⟨f32, [], []⟩, ⟨f33, [], []⟩] := fun x hx => by
  simp only [List.mem_cons, List.not_mem_nil, or_false] at hx
  rcases hx with rfl | rfl | rfl | rfl | rfl | rfl
  · exact ⟨r137, x137, by kernel_rfl⟩
  · exact ⟨r3, x3, by kernel_rfl⟩
  · exact ⟨r4, x4, by kernel_rfl⟩
  · exact ⟨r31, x31, by kernel_rfl⟩
  · exact ⟨r32, x32, by kernel_rfl⟩
  · exact ⟨r33, x33, by kernel_rfl⟩
set_option maxRecDepth 1000000 in
theorem q138 : evEnt Tryz.prog 417 100000 [] [⟨f137, [0, 1, 2, 3, 4, 5, 6, 7, 8, 9, 10], []⟩, ⟨f3, [], []⟩, ⟨f4, [], []⟩, ⟨f31, [], []⟩, ⟨f32, [], []⟩, ⟨f33, [], []⟩] 60 f138 = true := by kernel_rfl
theorem r138 : FEntOk Tryz.prog f138 := fent_of_ev none_ok t138 mixed (fnsOk_of 417 fns) rfl q138
theorem x138 : fitE f138 = true := by kernel_rfl
noncomputable def f139 : FEnt := ⟨89, [.agg [.lit (.slice none 0 0), .lit (.slice none 0 0), .slr 0 0 2 0, .int .i64 (0)], .int .i64 (0), .agg [.int .i64 (-1), .lit (.slice none 0 0)]], 10, 0, i27, .tup [.agg [.lit (.slice none 0 0), .lit (.slice none 0 0), .slr 478 0 2 0, .int .i64 (0)], .slr 3287 0 2 0, .int .i64 (0)], 4132, 0, [⟨478, 6, [.lit (.string (bs [102])), .int .i64 (0), .int .i64 (8), .bool false, .lit (.slice none 0 0), .slr 348 0 5 0, .lit (.string (bs [103])), .int .i64 (1), .int .i64 (2), .bool true, .lit (.slice none 0 0), .slr 471 0 1 0]⟩, ⟨3287, 5, [.int .i64 (8), .int .i64 (2), .int .i64 (0), .int .i64 (1), .int .i64 (1), .int .i64 (8), .int .i64 (2), .int .i64 (0), .int .i64 (1), .int .i64 (2)]⟩, ⟨348, 6, [.slr 3290 0 2 0, .int .i64 (1), .int .i64 (0), .int .i64 (0), .int .i64 (1), .int .i64 (0), .slr 372 0 2 0, .int .i64 (1), .int .i64 (0), .int .i64 (0), .int .i64 (3), .int .i64 (0), .slr 377 0 1 0, .int .i64 (3), .int .i64 (0), .int .i64 (0), .int .i64 (0), .int .i64 (0), .slr 387 0 2 0, .int .i64 (1), .int .i64 (0), .int .i64 (0), .int .i64 (4), .int .i64 (0), .slr 402 0 3 0, .int .i64 (2), .int .i64 (7), .int .i64 (0), .int .i64 (1), .int .i64 (2)]⟩, ⟨471, 6, [.slr 476 0 1 0, .int .i64 (3), .int .i64 (1), .int .i64 (0), .int .i64 (0), .int .i64 (0)]⟩, ⟨3290, 13, [.int .i64 (1), .int .i64 (0), .int .i64 (1), .int .i64 (-1), .int .i64 (5), .int .i64 (0), .int .i64 (0), .int .i64 (0), .int .i64 (0), .int .i64 (0), .lit (.slice none 0 0), .lit (.slice none 0 0), .lit (.slice none 0 0), .int .i64 (1), .int .i64 (0), .int .i64 (3), .int .i64 (-1), .int .i64 (0), .int .i64 (0), .int .i64 (0), .int .i64 (0), .int .i64 (0), .int .i64 (0), .lit (.slice none 0 0), .lit (.slice none 0 0), .lit (.slice none 0 0)]⟩, ⟨372, 13, [.int .i64 (10), .int .i64 (0), .int .i64 (0), .int .i64 (0), .int .i64 (0), .int .i64 (0), .int .i64 (0), .int .i64 (0), .int .i64 (0), .int .i64 (0), .slr 353 0 2 0, .lit (.slice none 0 0), .slr 355 0 2 0, .int .i64 (1), .int .i64 (0), .int .i64 (2), .int .i64 (0), .int .i64 (0), .int .i64 (0), .int .i64 (0), .int .i64 (0), .int .i64 (0), .int .i64 (0), .lit (.slice none 0 0), .lit (.slice none 0 0), .lit (.slice none 0 0), .int .i64 (0), .int .i64 (0), .int .i64 (0), .int .i64 (0), .int .i64 (0), .int .i64 (0), .int .i64 (0), .int .i64 (0), .int .i64 (0), .int .i64 (0), .lit (.slice none 0 0), .lit (.slice none 0 0), .lit (.slice none 0 0), .int .i64 (0), .int .i64 (0), .int .i64 (0), .int .i64 (0), .int .i64 (0), .int .i64 (0), .int .i64 (0), .int .i64 (0), .int .i64 (0), .int .i64 (0), .lit (.slice none 0 0), .lit (.slice none 0 0), .lit (.slice none 0 0)]⟩, ⟨377, 13, [.int .i64 (8), .int .i64 (0), .int .i64 (-1), .int .i64 (-1), .int .i64 (5), .int .i64 (0), .int .i64 (0), .int .i64 (0), .int .i64 (0), .int .i64 (0), .lit (.slice none 0 0), .lit (.slice none 0 0), .lit (.slice none 0 0)]⟩, ⟨387, 13, [.int .i64 (1), .int .i64 (0), .int .i64 (4), .int .i64 (0), .int .i64 (0), .int .i64 (0), .int .i64 (0), .int .i64 (0), .int .i64 (0), .int .i64 (0), .lit (.slice none 0 0), .lit (.slice none 0 0), .lit (.slice none 0 0), .int .i64 (1), .int .i64 (0), .int .i64 (5), .int .i64 (4), .int .i64 (0), .int .i64 (0), .int .i64 (0), .int .i64 (0), .int .i64 (0), .int .i64 (0), .lit (.slice none 0 0), .lit (.slice none 0 0), .lit (.slice none 0 0)]⟩, ⟨402, 13, [.int .i64 (8), .int .i64 (0), .int .i64 (-1), .int .i64 (4), .int .i64 (0), .int .i64 (0), .int .i64 (0), .int .i64 (0), .int .i64 (0), .int .i64 (0), .lit (.slice none 0 0), .lit (.slice none 0 0), .lit (.slice none 0 0), .int .i64 (2), .int .i64 (1), .int .i64 (6), .int .i64 (0), .int .i64 (0), .int .i64 (-1), .int .i64 (1), .int .i64 (0), .int .i64 (0), .int .i64 (0), .lit (.slice none 0 0), .lit (.slice none 0 0), .lit (.slice none 0 0), .int .i64 (2), .int .i64 (13), .int .i64 (7), .int .i64 (6), .int .i64 (0), .int .i64 (-1), .int .i64 (3), .int .i64 (0), .int .i64 (0), .int .i64 (0), .lit (.slice none 0 0), .lit (.slice none 0 0), .lit (.slice none 0 0)]⟩, ⟨476, 13, [.int .i64 (1), .int .i64 (0), .int .i64 (1), .int .i64 (0), .int .i64 (0), .int .i64 (0), .int .i64 (0), .int .i64 (0), .int .i64 (0), .int .i64 (0), .lit (.slice none 0 0), .lit (.slice none 0 0), .lit (.slice none 0 0)]⟩, ⟨353, 2, [.int .i64 (-1), .int .i64 (0), .int .i64 (6), .int .i64 (0)]⟩, ⟨355, 1, [.int .i64 (0), .int .i64 (4)]⟩], none⟩
theorem t139 : Tab2Ok Tryz.prog [⟨f133, [0, 1, 2, 3, 4, 5, 6, 7, 8, 9], []⟩, ⟨f134, [478, 348, 471, 372, 377, 387, 402, 476, 353, 355], []⟩, ⟨f124, [478, 348, 471, 372, 377, 387, 402, 476, 353, 355], []⟩, ⟨f123, [478, 348, 471, 372, 377, 387, 402, 476, 353, 355], []⟩, ⟨f3, [], []⟩, ⟨f4, [], []⟩, ⟨f31, [], []⟩, ⟨f32, [], []⟩, ⟨f33, [], []⟩, ⟨f136, [478, 348, 471, 2152, 372, 377, 387, 402, 476, 353, 355], []⟩, ⟨f135, [478, 348, 471, 2152, 372, 377, 387, 402, 476, 353, 355], []⟩, ⟨f138, [478, 348, 471, 3290, 372, 377, 387, 402, 476, 353, 355], []⟩, ⟨f137, [478, 348, 471, 3290, 372, 377, 387, 402, 476, 353, 355], []⟩] := fun x hx => by
  simp only [List.mem_cons, List.not_mem_nil, or_false] at hx
  rcases hx with rfl | rfl | rfl | rfl | rfl | rfl | rfl | rfl | rfl | rfl | rfl | rfl | rfl
  · exact ⟨r133, x133, by kernel_rfl⟩
  · exact ⟨r134, x134, by kernel_rfl⟩
  · exact ⟨r124, x124, by kernel_rfl⟩
  · exact ⟨r123, x123, by kernel_rfl⟩
  · exact ⟨r3, x3, by kernel_rfl⟩
  · exact ⟨r4, x4, by kernel_rfl⟩
  · exact ⟨r31, x31, by kernel_rfl⟩
  · exact ⟨r32, x32, by kernel_rfl⟩
  · exact ⟨r33, x33, by kernel_rfl⟩
  · exact ⟨r136, x136, by kernel_rfl⟩
  · exact ⟨r135, x135, by kernel_rfl⟩
  · exact ⟨r138, x138, by kernel_rfl⟩
  · exact ⟨r137, x137, by kernel_rfl⟩
set_option maxRecDepth 1000000 in
theorem q139 : evEnt Tryz.prog 417 100000 [] [⟨f133, [0, 1, 2, 3, 4, 5, 6, 7, 8, 9], []⟩, ⟨f134, [478, 348, 471, 372, 377, 387, 402, 476, 353, 355], []⟩, ⟨f124, [478, 348, 471, 372, 377, 387, 402, 476, 353, 355], []⟩, ⟨f123, [478, 348, 471, 372, 377, 387, 402, 476, 353, 355], []⟩, ⟨f3, [], []⟩, ⟨f4, [], []⟩, ⟨f31, [], []⟩, ⟨f32, [], []⟩, ⟨f33, [], []⟩, ⟨f136, [478, 348, 471, 2152, 372, 377, 387, 402, 476, 353, 355], []⟩, ⟨f135, [478, 348, 471, 2152, 372, 377, 387, 402, 476, 353, 355], []⟩, ⟨f138, [478, 348, 471, 3290, 372, 377, 387, 402, 476, 353, 355], []⟩, ⟨f137, [478, 348, 471, 3290, 372, 377, 387, 402, 476, 353, 355], []⟩] 60 f139 = true := by kernel_rfl
theorem r139 : FEntOk Tryz.prog f139 := fent_of_ev none_ok t139 mixed (fnsOk_of 417 fns) rfl q139
theorem x139 : fitE f139 = true := by kernel_rfl
noncomputable def f140 : FEnt := ⟨180, [.agg [.lit (.slice none 0 0), .lit (.slice none 0 0), .slr 0 0 2 0, .int .i64 (0)]], 11, 0, i33, .int .i64 (0), 239, 0, [], none⟩
theorem t140 : Tab2Ok Tryz.prog [] := fun x hx => by cases hx
set_option maxRecDepth 1000000 in
theorem q140 : evEnt Tryz.prog 417 100000 [] [] 60 f140 = true := by kernel_rfl
theorem r140 : FEntOk Tryz.prog f140 := fent_of_ev none_ok t140 mixed (fnsOk_of 417 fns) rfl q140
theorem x140 : fitE f140 = true := by kernel_rfl
noncomputable def f141 : FEnt := ⟨70, [.agg [.lit (.slice none 0 0), .lit (.slice none 0 0), .slr 0 0 2 0, .int .i64 (0)], .int .i64 (0)], 11, 0, i33, .tup [.agg [.sl 255 0 5 5, .sl 256 0 5 5, .slr 296 0 5 0, .sl 257 0 5 5, .sl 258 0 5 5], .int .i64 (0)], 324, 0, [⟨255, 0, [.lit (.slice none 0 0), .slr 281 0 2 0, .slr 283 0 1 0, .slr 269 0 1 0, .slr 276 0 1 0]⟩, ⟨256, 0, [.sl 262 0 1 1, .sl 267 0 1 1, .lit (.slice none 0 0), .sl 274 0 1 1, .sl 279 0 2 2]⟩, ⟨296, 1, [.int .i64 (0), .int .i64 (1), .int .i64 (3), .int .i64 (4), .int .i64 (2)]⟩, ⟨257, 0, [.int .i64 (-1), .int .i64 (0), .int .i64 (4), .int .i64 (1), .int .i64 (3)]⟩, ⟨258, 0, [.lit (.slice none 0 0), .slr 329 0 1 0, .lit (.slice none 0 0), .slr 331 0 1 0, .slr 333 0 1 0]⟩, ⟨281, 1, [.int .i64 (0), .int .i64 (4)]⟩, ⟨283, 1, [.int .i64 (4)]⟩, ⟨269, 1, [.int .i64 (1)]⟩, ⟨276, 1, [.int .i64 (3)]⟩, ⟨262, 0, [.int .i64 (1)]⟩, ⟨267, 0, [.int .i64 (3)]⟩, ⟨274, 0, [.int .i64 (4)]⟩, ⟨279, 0, [.int .i64 (1), .int .i64 (2)]⟩, ⟨329, 1, [.int .i64 (1)]⟩, ⟨331, 1, [.int .i64 (1)]⟩, ⟨333, 1, [.int .i64 (1)]⟩], none⟩
theorem t141 : Tab2Ok Tryz.prog [⟨f140, [0, 1, 2, 3, 4, 5, 6, 7, 8, 9, 10], []⟩, ⟨f3, [], []⟩, ⟨f4, [], []⟩, ⟨f31, [], []⟩, ⟨f32, [], []⟩, ⟨f33, [], []⟩] := fun x hx => by
  simp only [List.mem_cons, List.not_mem_nil, or_false] at hx
  rcases hx with rfl | rfl | rfl | rfl | rfl | rfl
  · exact ⟨r140, x140, by kernel_rfl⟩
  · exact ⟨r3, x3, by kernel_rfl⟩
  · exact ⟨r4, x4, by kernel_rfl⟩
  · exact ⟨r31, x31, by kernel_rfl⟩
  · exact ⟨r32, x32, by kernel_rfl⟩
  · exact ⟨r33, x33, by kernel_rfl⟩
set_option maxRecDepth 1000000 in
theorem q141 : evEnt Tryz.prog 417 100000 [] [⟨f140, [0, 1, 2, 3, 4, 5, 6, 7, 8, 9, 10], []⟩, ⟨f3, [], []⟩, ⟨f4, [], []⟩, ⟨f31, [], []⟩, ⟨f32, [], []⟩, ⟨f33, [], []⟩] 60 f141 = true := by kernel_rfl
theorem r141 : FEntOk Tryz.prog f141 := fent_of_ev none_ok t141 mixed (fnsOk_of 417 fns) rfl q141
theorem x141 : fitE f141 = true := by kernel_rfl
end Go.Proofs.YtbkgehknhjkaoaaGreatDoor.Pipe
