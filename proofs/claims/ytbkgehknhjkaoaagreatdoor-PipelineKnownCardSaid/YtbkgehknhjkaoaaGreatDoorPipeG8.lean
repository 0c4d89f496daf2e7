/- Calls of the law's run: what each finds, hands back and lays. -/
import Derived.Test.YtbkgehknhjkaoaaGreatDoorPipeG1
import Derived.Test.YtbkgehknhjkaoaaGreatDoorPipeG5
import Derived.Test.YtbkgehknhjkaoaaGreatDoorPipeG7
namespace Go.Proofs.YtbkgehknhjkaoaaGreatDoor.Pipe
open Go Go.Proofs.YtbkgehknhjkaoaaGreatDoor.Ev
noncomputable def f50 : FEnt := ⟨84, [.agg [.lit (.slice none 0 0), .lit (.slice none 0 0), .slr 0 0 2 0, .int .i64 (0)], .int .i64 (0), .agg [.int .i64 (-1), .lit (.slice none 0 0)]], 8, 0, i5, .tup [.agg [.lit (.slice none 0 0), .lit (.slice none 0 0), .slr 2539 0 2 0, .int .i64 (0)], .sl 2540 0 1 1, .int .i64 (0)], 2533, 6, [⟨2539, 6, [.lit (.string (bs [102])), .int .i64 (0), .int .i64 (8), .bool false, .lit (.slice none 0 0), .sl 748 0 5 5, .lit (.string (bs [103])), .int .i64 (1), .int .i64 (2), .bool true, .lit (.slice none 0 0), .slr 2532 0 1 0]⟩, ⟨2540, 0, [.int .i64 (1), .int .i64 (0), .int .i64 (0), .int .i64 (0), .int .i64 (-1)]⟩, ⟨748, 0, [.lit (.slice none 0 0), .int .i64 (1), .int .i64 (0), .int .i64 (0), .int .i64 (1), .int .i64 (0), .slr 2350 0 4 0, .int .i64 (1), .int .i64 (0), .int .i64 (0), .int .i64 (3), .int .i64 (0), .slr 2464 0 1 0, .int .i64 (3), .int .i64 (0), .int .i64 (0), .int .i64 (0), .int .i64 (0), .slr 2388 0 2 0, .int .i64 (1), .int .i64 (0), .int .i64 (0), .int .i64 (4), .int .i64 (0), .slr 2444 0 3 0, .int .i64 (2), .int .i64 (7), .int .i64 (0), .int .i64 (1), .int .i64 (2)]⟩, ⟨2532, 6, [.slr 2537 0 1 0, .int .i64 (3), .int .i64 (1), .int .i64 (0), .int .i64 (0), .int .i64 (0)]⟩, ⟨2350, 13, [.int .i64 (10), .int .i64 (0), .int .i64 (0), .int .i64 (0), .int .i64 (0), .int .i64 (0), .int .i64 (0), .int .i64 (0), .int .i64 (0), .int .i64 (0), .sl 2293 0 2 2, .lit (.slice none 0 0), .slr 2292 0 2 0, .int .i64 (2), .int .i64 (1), .int .i64 (1), .int .i64 (-1), .int .i64 (2), .int .i64 (-1), .int .i64 (3), .int .i64 (0), .int .i64 (0), .int .i64 (0), .lit (.slice none 0 0), .lit (.slice none 0 0), .lit (.slice none 0 0), .int .i64 (1), .int .i64 (0), .int .i64 (2), .int .i64 (0), .int .i64 (0), .int .i64 (0), .int .i64 (0), .int .i64 (0), .int .i64 (0), .int .i64 (0), .lit (.slice none 0 0), .lit (.slice none 0 0), .lit (.slice none 0 0), .int .i64 (1), .int .i64 (0), .int .i64 (3), .int .i64 (-1), .int .i64 (0), .int .i64 (0), .int .i64 (0), .int .i64 (0), .int .i64 (0), .int .i64 (0), .lit (.slice none 0 0), .lit (.slice none 0 0), .lit (.slice none 0 0)]⟩, ⟨2464, 13, [.int .i64 (8), .int .i64 (0), .int .i64 (-1), .int .i64 (1), .int .i64 (0), .int .i64 (0), .int .i64 (0), .int .i64 (0), .int .i64 (0), .int .i64 (0), .lit (.slice none 0 0), .lit (.slice none 0 0), .lit (.slice none 0 0)]⟩, ⟨2388, 13, [.int .i64 (2), .int .i64 (3), .int .i64 (4), .int .i64 (2), .int .i64 (0), .int .i64 (-1), .int .i64 (1), .int .i64 (0), .int .i64 (0), .int .i64 (0), .lit (.slice none 0 0), .lit (.slice none 0 0), .lit (.slice none 0 0), .int .i64 (1), .int .i64 (0), .int .i64 (5), .int .i64 (4), .int .i64 (0), .int .i64 (0), .int .i64 (0), .int .i64 (0), .int .i64 (0), .int .i64 (0), .lit (.slice none 0 0), .lit (.slice none 0 0), .lit (.slice none 0 0)]⟩, ⟨2444, 13, [.int .i64 (8), .int .i64 (0), .int .i64 (-1), .int .i64 (5), .int .i64 (0), .int .i64 (0), .int .i64 (0), .int .i64 (0), .int .i64 (0), .int .i64 (0), .lit (.slice none 0 0), .lit (.slice none 0 0), .lit (.slice none 0 0), .int .i64 (2), .int .i64 (1), .int .i64 (6), .int .i64 (0), .int .i64 (0), .int .i64 (-1), .int .i64 (1), .int .i64 (0), .int .i64 (0), .int .i64 (0), .lit (.slice none 0 0), .lit (.slice none 0 0), .lit (.slice none 0 0), .int .i64 (2), .int .i64 (13), .int .i64 (7), .int .i64 (6), .int .i64 (0), .int .i64 (-1), .int .i64 (3), .int .i64 (0), .int .i64 (0), .int .i64 (0), .lit (.slice none 0 0), .lit (.slice none 0 0), .lit (.slice none 0 0)]⟩, ⟨2537, 13, [.int .i64 (2), .int .i64 (3), .int .i64 (1), .int .i64 (0), .int .i64 (0), .int .i64 (-1), .int .i64 (1), .int .i64 (0), .int .i64 (0), .int .i64 (0), .lit (.slice none 0 0), .lit (.slice none 0 0), .lit (.slice none 0 0)]⟩, ⟨2293, 0, [.int .i64 (-1), .int .i64 (0), .int .i64 (6), .int .i64 (0)]⟩, ⟨2292, 1, [.int .i64 (0), .int .i64 (4)]⟩], none⟩
theorem t50 : Tab2Ok Tryz.prog [⟨f34, [0, 1, 2, 3, 4, 5, 6, 7], []⟩, ⟨f34, [398, 1, 391, 3, 4, 5, 6, 396], []⟩, ⟨f36, [901, 748, 894, 717, 722, 732, 747, 899], []⟩, ⟨f49, [830, 748, 823, 717, 722, 732, 747, 828], []⟩] := fun x hx => by
  simp only [List.mem_cons, List.not_mem_nil, or_false] at hx
  rcases hx with rfl | rfl | rfl | rfl
  · exact ⟨r34, x34, by kernel_rfl⟩
  · exact ⟨r34, x34, by kernel_rfl⟩
  · exact ⟨r36, x36, by kernel_rfl⟩
  · exact ⟨r49, x49, by kernel_rfl⟩
set_option maxRecDepth 1000000 in
theorem q50 : evEnt Tryz.prog 417 100000 [] [⟨f34, [0, 1, 2, 3, 4, 5, 6, 7], []⟩, ⟨f34, [398, 1, 391, 3, 4, 5, 6, 396], []⟩, ⟨f36, [901, 748, 894, 717, 722, 732, 747, 899], []⟩, ⟨f49, [830, 748, 823, 717, 722, 732, 747, 828], []⟩] 60 f50 = true := by kernel_rfl
theorem r50 : FEntOk Tryz.prog f50 := fent_of_ev none_ok t50 mixed (fnsOk_of 417 fns) rfl q50
theorem x50 : fitE f50 = true := by kernel_rfl
noncomputable def f51 : FEnt := ⟨180, [.agg [.lit (.slice none 0 0), .lit (.slice none 0 0), .slr 0 0 2 0, .int .i64 (0)]], 10, 0, i9, .int .i64 (0), 239, 0, [], none⟩
theorem t51 : Tab2Ok Tryz.prog [] := fun x hx => by cases hx
set_option maxRecDepth 1000000 in
theorem q51 : evEnt Tryz.prog 417 100000 [] [] 60 f51 = true := by kernel_rfl
theorem r51 : FEntOk Tryz.prog f51 := fent_of_ev none_ok t51 mixed (fnsOk_of 417 fns) rfl q51
theorem x51 : fitE f51 = true := by kernel_rfl
noncomputable def f52 : FEnt := ⟨70, [.agg [.lit (.slice none 0 0), .lit (.slice none 0 0), .slr 0 0 2 0, .int .i64 (0)], .int .i64 (0)], 10, 0, i9, .tup [.agg [.sl 254 0 5 5, .sl 255 0 5 5, .slr 295 0 5 0, .sl 256 0 5 5, .sl 257 0 5 5], .int .i64 (0)], 324, 0, [⟨254, 0, [.lit (.slice none 0 0), .slr 280 0 2 0, .slr 282 0 1 0, .slr 268 0 1 0, .slr 275 0 1 0]⟩, ⟨255, 0, [.sl 261 0 1 1, .sl 266 0 1 1, .lit (.slice none 0 0), .sl 273 0 1 1, .sl 278 0 2 2]⟩, ⟨295, 1, [.int .i64 (0), .int .i64 (1), .int .i64 (3), .int .i64 (4), .int .i64 (2)]⟩, ⟨256, 0, [.int .i64 (-1), .int .i64 (0), .int .i64 (4), .int .i64 (1), .int .i64 (3)]⟩, ⟨257, 0, [.lit (.slice none 0 0), .slr 328 0 1 0, .lit (.slice none 0 0), .slr 330 0 1 0, .slr 332 0 1 0]⟩, ⟨280, 1, [.int .i64 (0), .int .i64 (4)]⟩, ⟨282, 1, [.int .i64 (4)]⟩, ⟨268, 1, [.int .i64 (1)]⟩, ⟨275, 1, [.int .i64 (3)]⟩, ⟨261, 0, [.int .i64 (1)]⟩, ⟨266, 0, [.int .i64 (3)]⟩, ⟨273, 0, [.int .i64 (4)]⟩, ⟨278, 0, [.int .i64 (1), .int .i64 (2)]⟩, ⟨328, 1, [.int .i64 (1)]⟩, ⟨330, 1, [.int .i64 (1)]⟩, ⟨332, 1, [.int .i64 (1)]⟩], none⟩
theorem t52 : Tab2Ok Tryz.prog [⟨f51, [0, 1, 2, 3, 4, 5, 6, 7, 8, 9], []⟩, ⟨f3, [], []⟩, ⟨f4, [], []⟩, ⟨f31, [], []⟩, ⟨f32, [], []⟩, ⟨f33, [], []⟩] := fun x hx => by
  simp only [List.mem_cons, List.not_mem_nil, or_false] at hx
  rcases hx with rfl | rfl | rfl | rfl | rfl | rfl
  · exact ⟨r51, x51, by kernel_rfl⟩
  · exact ⟨r3, x3, by kernel_rfl⟩
  · exact ⟨r4, x4, by kernel_rfl⟩
  · exact ⟨r31, x31, by kernel_rfl⟩
  · exact ⟨r32, x32, by kernel_rfl⟩
  · exact ⟨r33, x33, by kernel_rfl⟩
set_option maxRecDepth 1000000 in
theorem q52 : evEnt Tryz.prog 417 100000 [] [⟨f51, [0, 1, 2, 3, 4, 5, 6, 7, 8, 9], []⟩, ⟨f3, [], []⟩, ⟨f4, [], []⟩, ⟨f31, [], []⟩, ⟨f32, [], []⟩, ⟨f33, [], []⟩] 60 f52 = true := by kernel_rfl
theorem r52 : FEntOk Tryz.prog f52 := fent_of_ev none_ok t52 mixed (fnsOk_of 417 fns) rfl q52
theorem x52 : fitE f52 = true := by kernel_rfl
noncomputable def f53 : FEnt := ⟨180, [.agg [.lit (.slice none 0 0), .lit (.slice none 0 0), .slr 0 0 2 0, .int .i64 (0)]], 10, 0, i10, .int .i64 (0), 239, 0, [], none⟩
theorem t53 : Tab2Ok Tryz.prog [] := fun x hx => by cases hx
set_option maxRecDepth 1000000 in
theorem q53 : evEnt Tryz.prog 417 100000 [] [] 60 f53 = true := by kernel_rfl
theorem r53 : FEntOk Tryz.prog f53 := fent_of_ev none_ok t53 mixed (fnsOk_of 417 fns) rfl q53
theorem x53 : fitE f53 = true := by kernel_rfl
noncomputable def f54 : FEnt := ⟨70, [.agg [.lit (.slice none 0 0), .lit (.slice none 0 0), .slr 0 0 2 0, .int .i64 (0)], .int .i64 (0)], 10, 0, i10, .tup [.agg [.sl 254 0 5 5, .sl 255 0 5 5, .slr 295 0 5 0, .sl 256 0 5 5, .sl 257 0 5 5], .int .i64 (0)], 324, 0, [⟨254, 0, [.lit (.slice none 0 0), .slr 280 0 2 0, .slr 282 0 1 0, .slr 268 0 1 0, .slr 275 0 1 0]⟩, ⟨255, 0, [.sl 261 0 1 1, .sl 266 0 1 1, .lit (.slice none 0 0), .sl 273 0 1 1, .sl 278 0 2 2]⟩, ⟨295, 1, [.int .i64 (0), .int .i64 (1), .int .i64 (3), .int .i64 (4), .int .i64 (2)]⟩, ⟨256, 0, [.int .i64 (-1), .int .i64 (0), .int .i64 (4), .int .i64 (1), .int .i64 (3)]⟩, ⟨257, 0, [.lit (.slice none 0 0), .slr 328 0 1 0, .lit (.slice none 0 0), .slr 330 0 1 0, .slr 332 0 1 0]⟩, ⟨280, 1, [.int .i64 (0), .int .i64 (4)]⟩, ⟨282, 1, [.int .i64 (4)]⟩, ⟨268, 1, [.int .i64 (1)]⟩, ⟨275, 1, [.int .i64 (3)]⟩, ⟨261, 0, [.int .i64 (1)]⟩, ⟨266, 0, [.int .i64 (3)]⟩, ⟨273, 0, [.int .i64 (4)]⟩, ⟨278, 0, [.int .i64 (1), .int .i64 (2)]⟩, ⟨328, 1, [.int .i64 (1)]⟩, ⟨330, 1, [.int .i64 (1)]⟩, ⟨332, 1, [.int .i64 (1)]⟩], none⟩
theorem t54 : Tab2Ok Tryz.prog [⟨f53, [0, 1, 2, 3, 4, 5, 6, 7, 8, 9], []⟩, ⟨f3, [], []⟩, ⟨f4, [], []⟩, ⟨f31, [], []⟩, ⟨f32, [], []⟩, ⟨f33, [], []⟩] := fun x hx => by
  simp only [List.mem_cons, List.not_mem_nil, or_false] at hx
  rcases hx with rfl | rfl | rfl | rfl | rfl | rfl
  · exact ⟨r53, x53, by kernel_rfl⟩
  · exact ⟨r3, x3, by kernel_rfl⟩
  · exact ⟨r4, x4, by kernel_rfl⟩
  · exact ⟨r31, x31, by kernel_rfl⟩
  · exact ⟨r32, x32, by kernel_rfl⟩
  · exact ⟨r33, x33, by kernel_rfl⟩
set_option maxRecDepth 1000000 in
theorem q54 : evEnt Tryz.prog 417 100000 [] [⟨f53, [0, 1, 2, 3, 4, 5, 6, 7, 8, 9], []⟩, ⟨f3, [], []⟩, ⟨f4, [], []⟩, ⟨f31, [], []⟩, ⟨f32, [], []⟩, ⟨f33, [], []⟩] 60 f54 = true := by kernel_rfl
theorem r54 : FEntOk Tryz.prog f54 := fent_of_ev none_ok t54 mixed (fnsOk_of 417 fns) rfl q54
theorem x54 : fitE f54 = true := by kernel_rfl
end Go.Proofs.YtbkgehknhjkaoaaGreatDoor.Pipe
