/- Calls of the law's run: what each finds, hands back and lays. -/
import Derived.Test.YtbkgehknhjkaoaaGreatDoorPipeG1
import Derived.Test.YtbkgehknhjkaoaaGreatDoorPipeG5
import Derived.Test.YtbkgehknhjkaoaaGreatDoorPipeG8
namespace Go.Proofs.YtbkgehknhjkaoaaGreatDoor.Pipe
open Go Go.Proofs.YtbkgehknhjkaoaaGreatDoor.Ev
noncomputable def f55 : FEnt := ⟨180, [.agg [.lit (.slice none 0 0), .lit (.slice none 0 0), .slr 0 0 2 0, .int .i64 (0)]], 9, 0, i11, .int .i64 (0), 228, 0, [], none⟩
theorem t55 : Tab2Ok Tryz.prog [] := fun x hx => by cases hx
set_option maxRecDepth 1000000 in
theorem q55 : evEnt Tryz.prog 417 100000 [] [] 60 f55 = true := by kernel_rfl
theorem r55 : FEntOk Tryz.prog f55 := fent_of_ev none_ok t55 mixed (fnsOk_of 417 fns) rfl q55
theorem x55 : fitE f55 = true := by kernel_rfl
noncomputable def f56 : FEnt := ⟨70, [.agg [.lit (.slice none 0 0), .lit (.slice none 0 0), .slr 0 0 2 0, .int .i64 (0)], .int .i64 (0)], 9, 0, i11, .tup [.agg [.sl 242 0 4 4, .sl 243 0 4 4, .slr 276 0 4 0, .sl 244 0 4 4, .sl 245 0 4 4], .int .i64 (0)], 294, 0, [⟨242, 0, [.lit (.slice none 0 0), .slr 263 0 2 0, .slr 265 0 1 0, .slr 256 0 1 0]⟩, ⟨243, 0, [.sl 249 0 1 1, .sl 254 0 1 1, .lit (.slice none 0 0), .sl 261 0 2 2]⟩, ⟨276, 1, [.int .i64 (0), .int .i64 (1), .int .i64 (3), .int .i64 (2)]⟩, ⟨244, 0, [.int .i64 (-1), .int .i64 (0), .int .i64 (3), .int .i64 (1)]⟩, ⟨245, 0, [.lit (.slice none 0 0), .slr 299 0 1 0, .lit (.slice none 0 0), .slr 301 0 1 0]⟩, ⟨263, 1, [.int .i64 (0), .int .i64 (3)]⟩, ⟨265, 1, [.int .i64 (3)]⟩, ⟨256, 1, [.int .i64 (1)]⟩, ⟨249, 0, [.int .i64 (1)]⟩, ⟨254, 0, [.int .i64 (3)]⟩, ⟨261, 0, [.int .i64 (1), .int .i64 (2)]⟩, ⟨299, 1, [.int .i64 (1)]⟩, ⟨301, 1, [.int .i64 (1)]⟩], none⟩
theorem t56 : Tab2Ok Tryz.prog [⟨f55, [0, 1, 2, 3, 4, 5, 6, 7, 8], []⟩, ⟨f3, [], []⟩, ⟨f4, [], []⟩, ⟨f38, [], []⟩, ⟨f32, [], []⟩] := fun x hx => by
  simp only [List.mem_cons, List.not_mem_nil, or_false] at hx
  rcases hx with rfl | rfl | rfl | rfl | rfl
  · exact ⟨r55, x55, by kernel_rfl⟩
  · exact ⟨r3, x3, by kernel_rfl⟩
  · exact ⟨r4, x4, by kernel_rfl⟩
  · exact ⟨r38, x38, by kernel_rfl⟩
  · exact ⟨r32, x32, by kernel_rfl⟩
set_option maxRecDepth 1000000 in
theorem q56 : evEnt Tryz.prog 417 100000 [] [⟨f55, [0, 1, 2, 3, 4, 5, 6, 7, 8], []⟩, ⟨f3, [], []⟩, ⟨f4, [], []⟩, ⟨f38, [], []⟩, ⟨f32, [], []⟩] 60 f56 = true := by kernel_rfl
theorem r56 : FEntOk Tryz.prog f56 := fent_of_ev none_ok t56 mixed (fnsOk_of 417 fns) rfl q56
theorem x56 : fitE f56 = true := by kernel_rfl
noncomputable def f57 : FEnt := ⟨180, [.agg [.lit (.slice none 0 0), .lit (.slice none 0 0), .slr 0 0 2 0, .int .i64 (0)]], 8, 0, i12, .int .i64 (0), 217, 0, [], none⟩
theorem t57 : Tab2Ok Tryz.prog [] := fun x hx => by cases hx
set_option maxRecDepth 1000000 in
theorem q57 : evEnt Tryz.prog 417 100000 [] [] 60 f57 = true := by kernel_rfl
theorem r57 : FEntOk Tryz.prog f57 := fent_of_ev none_ok t57 mixed (fnsOk_of 417 fns) rfl q57
theorem x57 : fitE f57 = true := by kernel_rfl
noncomputable def f58 : FEnt := ⟨70, [.agg [.lit (.slice none 0 0), .lit (.slice none 0 0), .slr 0 0 2 0, .int .i64 (0)], .int .i64 (0)], 8, 0, i12, .tup [.agg [.sl 230 0 3 3, .sl 231 0 3 3, .slr 257 0 3 0, .sl 232 0 3 3, .sl 233 0 3 3], .int .i64 (0)], 266, 0, [⟨230, 0, [.lit (.slice none 0 0), .slr 244 0 2 0, .slr 246 0 1 0]⟩, ⟨231, 0, [.sl 237 0 1 1, .sl 242 0 2 2, .lit (.slice none 0 0)]⟩, ⟨257, 1, [.int .i64 (0), .int .i64 (1), .int .i64 (2)]⟩, ⟨232, 0, [.int .i64 (-1), .int .i64 (0), .int .i64 (1)]⟩, ⟨233, 0, [.lit (.slice none 0 0), .slr 272 0 1 0, .lit (.slice none 0 0)]⟩, ⟨244, 1, [.int .i64 (0), .int .i64 (1)]⟩, ⟨246, 1, [.int .i64 (1)]⟩, ⟨237, 0, [.int .i64 (1)]⟩, ⟨242, 0, [.int .i64 (1), .int .i64 (2)]⟩, ⟨272, 1, [.int .i64 (1)]⟩], none⟩
theorem t58 : Tab2Ok Tryz.prog [⟨f57, [0, 1, 2, 3, 4, 5, 6, 7], []⟩, ⟨f3, [], []⟩, ⟨f4, [], []⟩, ⟨f5, [], []⟩] := fun x hx => by
  simp only [List.mem_cons, List.not_mem_nil, or_false] at hx
  rcases hx with rfl | rfl | rfl | rfl
  · exact ⟨r57, x57, by kernel_rfl⟩
  · exact ⟨r3, x3, by kernel_rfl⟩
  · exact ⟨r4, x4, by kernel_rfl⟩
  · exact ⟨r5, x5, by kernel_rfl⟩
set_option maxRecDepth 1000000 in
theorem q58 : evEnt Tryz.prog 417 100000 [] [⟨f57, [0, 1, 2, 3, 4, 5, 6, 7], []⟩, ⟨f3, [], []⟩, ⟨f4, [], []⟩, ⟨f5, [], []⟩] 60 f58 = true := by kernel_rfl
theorem r58 : FEntOk Tryz.prog f58 := fent_of_ev none_ok t58 mixed (fnsOk_of 417 fns) rfl q58
theorem x58 : fitE f58 = true := by kernel_rfl
noncomputable def f59 : FEnt := ⟨14, [.agg [.lit (.slice none 0 0), .lit (.slice none 0 0), .slr 0 0 2 0, .int .i64 (0)], .int .i64 (0), .agg [.int .i64 (-1), .lit (.slice none 0 0)]], 10, 0, i9, .tup [.agg [.lit (.slice none 0 0), .lit (.slice none 0 0), .slr 2541 0 2 0, .int .i64 (0)], .sl 2542 0 1 1, .int .i64 (0)], 2533, 0, [⟨2541, 6, [.lit (.string (bs [102])), .int .i64 (0), .int .i64 (8), .bool false, .lit (.slice none 0 0), .sl 2315 0 3 3, .lit (.string (bs [103])), .int .i64 (1), .int .i64 (2), .bool true, .lit (.slice none 0 0), .slr 2534 0 1 0]⟩, ⟨2542, 0, [.int .i64 (3), .int .i64 (0), .int .i64 (0), .int .i64 (0), .int .i64 (-1)]⟩, ⟨2315, 0, [.lit (.slice none 0 0), .int .i64 (1), .int .i64 (0), .int .i64 (0), .int .i64 (1), .int .i64 (0), .slr 2309 0 9 0, .int .i64 (2), .int .i64 (7), .int .i64 (0), .int .i64 (1), .int .i64 (2), .slr 2314 0 1 0, .int .i64 (3), .int .i64 (0), .int .i64 (0), .int .i64 (0), .int .i64 (0)]⟩, ⟨2534, 6, [.slr 2539 0 1 0, .int .i64 (3), .int .i64 (1), .int .i64 (0), .int .i64 (0), .int .i64 (0)]⟩, ⟨2309, 13, [.int .i64 (10), .int .i64 (0), .int .i64 (1), .int .i64 (0), .int .i64 (0), .int .i64 (0), .int .i64 (0), .int .i64 (0), .int .i64 (0), .int .i64 (0), .slr 2345 0 2 0, .lit (.slice none 0 0), .slr 2335 0 2 0, .int .i64 (2), .int .i64 (1), .int .i64 (2), .int .i64 (-1), .int .i64 (2), .int .i64 (-1), .int .i64 (3), .int .i64 (0), .int .i64 (0), .int .i64 (0), .lit (.slice none 0 0), .lit (.slice none 0 0), .lit (.slice none 0 0), .int .i64 (1), .int .i64 (0), .int .i64 (3), .int .i64 (1), .int .i64 (0), .int .i64 (0), .int .i64 (0), .int .i64 (0), .int .i64 (0), .int .i64 (0), .lit (.slice none 0 0), .lit (.slice none 0 0), .lit (.slice none 0 0), .int .i64 (1), .int .i64 (0), .int .i64 (4), .int .i64 (-1), .int .i64 (0), .int .i64 (0), .int .i64 (0), .int .i64 (0), .int .i64 (0), .int .i64 (0), .lit (.slice none 0 0), .lit (.slice none 0 0), .lit (.slice none 0 0), .int .i64 (2), .int .i64 (3), .int .i64 (5), .int .i64 (3), .int .i64 (0), .int .i64 (-1), .int .i64 (1), .int .i64 (0), .int .i64 (0), .int .i64 (0), .lit (.slice none 0 0), .lit (.slice none 0 0), .lit (.slice none 0 0), .int .i64 (1), .int .i64 (0), .int .i64 (6), .int .i64 (5), .int .i64 (0), .int .i64 (0), .int .i64 (0), .int .i64 (0), .int .i64 (0), .int .i64 (0), .lit (.slice none 0 0), .lit (.slice none 0 0), .lit (.slice none 0 0), .int .i64 (8), .int .i64 (0), .int .i64 (-1), .int .i64 (6), .int .i64 (0), .int .i64 (0), .int .i64 (0), .int .i64 (0), .int .i64 (0), .int .i64 (0), .lit (.slice none 0 0), .lit (.slice none 0 0), .lit (.slice none 0 0), .int .i64 (2), .int .i64 (1), .int .i64 (0), .int .i64 (1), .int .i64 (0), .int .i64 (-1), .int .i64 (1), .int .i64 (0), .int .i64 (0), .int .i64 (0), .lit (.slice none 0 0), .lit (.slice none 0 0), .lit (.slice none 0 0), .int .i64 (2), .int .i64 (13), .int .i64 (7), .int .i64 (0), .int .i64 (0), .int .i64 (-1), .int .i64 (3), .int .i64 (0), .int .i64 (0), .int .i64 (0), .lit (.slice none 0 0), .lit (.slice none 0 0), .lit (.slice none 0 0)]⟩, ⟨2314, 13, [.int .i64 (8), .int .i64 (0), .int .i64 (-1), .int .i64 (2), .int .i64 (0), .int .i64 (0), .int .i64 (0), .int .i64 (0), .int .i64 (0), .int .i64 (0), .lit (.slice none 0 0), .lit (.slice none 0 0), .lit (.slice none 0 0)]⟩, ⟨2539, 13, [.int .i64 (2), .int .i64 (3), .int .i64 (1), .int .i64 (0), .int .i64 (0), .int .i64 (-1), .int .i64 (1), .int .i64 (0), .int .i64 (0), .int .i64 (0), .lit (.slice none 0 0), .lit (.slice none 0 0), .lit (.slice none 0 0)]⟩, ⟨2345, 2, [.int .i64 (-1), .int .i64 (0), .int .i64 (0), .int .i64 (0)]⟩, ⟨2335, 1, [.int .i64 (0), .int .i64 (1)]⟩], none⟩
theorem t59 : Tab2Ok Tryz.prog [⟨f52, [0, 1, 2, 3, 4, 5, 6, 7, 8, 9], []⟩, ⟨f52, [422, 1, 415, 3, 4, 5, 6, 420, 8, 9], []⟩, ⟨f54, [929, 808, 922, 777, 782, 792, 807, 927, 838, 828], []⟩, ⟨f56, [1466, 1350, 1459, 1319, 1324, 1349, 1464, 1380, 1370], []⟩, ⟨f58, [1976, 1863, 1969, 1842, 1847, 1974, 1893, 1883], []⟩] := fun x hx => by
  simp only [List.mem_cons, List.not_mem_nil, or_false] at hx
  rcases hx with rfl | rfl | rfl | rfl | rfl
  · exact ⟨r52, x52, by kernel_rfl⟩
  · exact ⟨r52, x52, by kernel_rfl⟩
  · exact ⟨r54, x54, by kernel_rfl⟩
  · exact ⟨r56, x56, by kernel_rfl⟩
  · exact ⟨r58, x58, by kernel_rfl⟩
set_option maxRecDepth 1000000 in
theorem q59 : evEnt Tryz.prog 417 100000 [] [⟨f52, [0, 1, 2, 3, 4, 5, 6, 7, 8, 9], []⟩, ⟨f52, [422, 1, 415, 3, 4, 5, 6, 420, 8, 9], []⟩, ⟨f54, [929, 808, 922, 777, 782, 792, 807, 927, 838, 828], []⟩, ⟨f56, [1466, 1350, 1459, 1319, 1324, 1349, 1464, 1380, 1370], []⟩, ⟨f58, [1976, 1863, 1969, 1842, 1847, 1974, 1893, 1883], []⟩] 60 f59 = true := by kernel_rfl
theorem r59 : FEntOk Tryz.prog f59 := fent_of_ev none_ok t59 mixed (fnsOk_of 417 fns) rfl q59
theorem x59 : fitE f59 = true := by kernel_rfl
noncomputable def f60 : FEnt := ⟨12, [.agg [.lit (.slice none 0 0), .lit (.slice none 0 0), .slr 0 0 2 0, .int .i64 (0)], .agg [.int .i64 (-1), .lit (.slice none 0 0)]], 10, 0, i9, .int .i64 (0), 2536, 0, [], none⟩
theorem t60 : Tab2Ok Tryz.prog [⟨f59, [0, 1, 2, 3, 4, 5, 6, 7, 8, 9], []⟩] := fun x hx => by
  simp only [List.mem_cons, List.not_mem_nil, or_false] at hx
  rcases hx with rfl
  · exact ⟨r59, x59, by kernel_rfl⟩
set_option maxRecDepth 1000000 in
theorem q60 : evEnt Tryz.prog 417 100000 [] [⟨f59, [0, 1, 2, 3, 4, 5, 6, 7, 8, 9], []⟩] 60 f60 = true := by kernel_rfl
theorem r60 : FEntOk Tryz.prog f60 := fent_of_ev none_ok t60 mixed (fnsOk_of 417 fns) rfl q60
theorem x60 : fitE f60 = true := by kernel_rfl
noncomputable def f61 : FEnt := ⟨70, [.agg [.lit (.slice none 0 0), .lit (.slice none 0 0), .slr 0 0 2 0, .int .i64 (0)], .int .i64 (1)], 10, 0, i9, .tup [.agg [.sl 254 0 1 1, .sl 255 0 1 1, .slr 265 0 1 0, .sl 256 0 1 1, .sl 257 0 1 1], .int .i64 (0)], 260, 2, [⟨254, 0, [.lit (.slice none 0 0)]⟩, ⟨255, 0, [.lit (.slice none 0 0)]⟩, ⟨265, 1, [.int .i64 (0)]⟩, ⟨256, 0, [.int .i64 (-1)]⟩, ⟨257, 0, [.lit (.slice none 0 0)]⟩], none⟩
theorem t61 : Tab2Ok Tryz.prog [⟨f51, [0, 1, 2, 3, 4, 5, 6, 7, 8, 9], []⟩] := fun x hx => by
  simp only [List.mem_cons, List.not_mem_nil, or_false] at hx
  rcases hx with rfl
  · exact ⟨r51, x51, by kernel_rfl⟩
set_option maxRecDepth 1000000 in
theorem q61 : evEnt Tryz.prog 417 100000 [] [⟨f51, [0, 1, 2, 3, 4, 5, 6, 7, 8, 9], []⟩] 60 f61 = true := by kernel_rfl
theorem r61 : FEntOk Tryz.prog f61 := fent_of_ev none_ok t61 mixed (fnsOk_of 417 fns) rfl q61
theorem x61 : fitE f61 = true := by kernel_rfl
end Go.Proofs.YtbkgehknhjkaoaaGreatDoor.Pipe
