/- Calls of the law's run: what each finds, hands back and lays. -/
import Derived.Test.YtbkgehknhjkaoaaGreatDoorPipeG1
import Derived.Test.YtbkgehknhjkaoaaGreatDoorPipeG5
import Derived.Test.YtbkgehknhjkaoaaGreatDoorPipeG15
namespace Go.Proofs.YtbkgehknhjkaoaaGreatDoor.Pipe
open Go Go.Proofs.YtbkgehknhjkaoaaGreatDoor.Ev
noncomputable def f96 : FEnt := ⟨180, [.agg [.lit (.slice none 0 0), .lit (.slice none 0 0), .slr 0 0 2 0, .int .i64 (0)]], 9, 0, i21, .int .i64 (0), 228, 0, [], none⟩
theorem t96 : Tab2Ok Tryz.prog [] := fun x hx => by cases hx
set_option maxRecDepth 1000000 in
theorem q96 : evEnt Tryz.prog 417 100000 [] [] 60 f96 = true := by kernel_rfl
theorem r96 : FEntOk Tryz.prog f96 := fent_of_ev none_ok t96 mixed (fnsOk_of 417 fns) rfl q96
theorem x96 : fitE f96 = true := by kernel_rfl
noncomputable def f97 : FEnt := ⟨70, [.agg [.lit (.slice none 0 0), .lit (.slice none 0 0), .slr 0 0 2 0, .int .i64 (0)], .int .i64 (0)], 9, 0, i21, .tup [.agg [.sl 242 0 4 4, .sl 243 0 4 4, .slr 276 0 4 0, .sl 244 0 4 4, .sl 245 0 4 4], .int .i64 (0)], 294, 0, [⟨242, 0, [.lit (.slice none 0 0), .slr 263 0 2 0, .slr 265 0 1 0, .slr 256 0 1 0]⟩, ⟨243, 0, [.sl 249 0 1 1, .sl 254 0 1 1, .lit (.slice none 0 0), .sl 261 0 2 2]⟩, ⟨276, 1, [.int .i64 (0), .int .i64 (1), .int .i64 (3), .int .i64 (2)]⟩, ⟨244, 0, [.int .i64 (-1), .int .i64 (0), .int .i64 (3), .int .i64 (1)]⟩, ⟨245, 0, [.lit (.slice none 0 0), .slr 299 0 1 0, .lit (.slice none 0 0), .slr 301 0 1 0]⟩, ⟨263, 1, [.int .i64 (0), .int .i64 (3)]⟩, ⟨265, 1, [.int .i64 (3)]⟩, ⟨256, 1, [.int .i64 (1)]⟩, ⟨249, 0, [.int .i64 (1)]⟩, ⟨254, 0, [.int .i64 (3)]⟩, ⟨261, 0, [.int .i64 (1), .int .i64 (2)]⟩, ⟨299, 1, [.int .i64 (1)]⟩, ⟨301, 1, [.int .i64 (1)]⟩], none⟩
theorem t97 : Tab2Ok Tryz.prog [⟨f96, [0, 1, 2, 3, 4, 5, 6, 7, 8], []⟩, ⟨f3, [], []⟩, ⟨f4, [], []⟩, ⟨f38, [], []⟩, ⟨f32, [], []⟩] := fun x hx => by
  simp only [List.mem_cons, List.not_mem_nil, or_false] at hx
  rcases hx with rfl | rfl | rfl | rfl | rfl
  · exact ⟨r96, x96, by kernel_rfl⟩
  · exact ⟨r3, x3, by kernel_rfl⟩
  · exact ⟨r4, x4, by kernel_rfl⟩
  · exact ⟨r38, x38, by kernel_rfl⟩
  · exact ⟨r32, x32, by kernel_rfl⟩
set_option maxRecDepth 1000000 in
theorem q97 : evEnt Tryz.prog 417 100000 [] [⟨f96, [0, 1, 2, 3, 4, 5, 6, 7, 8], []⟩, ⟨f3, [], []⟩, ⟨f4, [], []⟩, ⟨f38, [], []⟩, ⟨f32, [], []⟩] 60 f97 = true := by kernel_rfl
theorem r97 : FEntOk Tryz.prog f97 := fent_of_ev none_ok t97 mixed (fnsOk_of 417 fns) rfl q97
theorem x97 : fitE f97 = true := by kernel_rfl
noncomputable def f98 : FEnt := ⟨180, [.agg [.lit (.slice none 0 0), .lit (.slice none 0 0), .slr 0 0 2 0, .int .i64 (0)]], 8, 0, i22, .int .i64 (0), 217, 0, [], none⟩
theorem t98 : Tab2Ok Tryz.prog [] := fun x hx => by cases hx
set_option maxRecDepth 1000000 in
theorem q98 : evEnt Tryz.prog 417 100000 [] [] 60 f98 = true := by kernel_rfl
theorem r98 : FEntOk Tryz.prog f98 := fent_of_ev none_ok t98 mixed (fnsOk_of 417 fns) rfl q98
theorem x98 : fitE f98 = true := by kernel_rfl
noncomputable def f99 : FEnt := ⟨70, [.agg [.lit (.slice none 0 0), .lit (.slice none 0 0), .slr 0 0 2 0, .int .i64 (0)], .int .i64 (0)], 8, 0, i22, .tup [.agg [.sl 230 0 3 3, .sl 231 0 3 3, .slr 257 0 3 0, .sl 232 0 3 3, .sl 233 0 3 3], .int .i64 (0)], 266, 0, [⟨230, 0, [.lit (.slice none 0 0), .slr 244 0 2 0, .slr 246 0 1 0]⟩, ⟨231, 0, [.sl 237 0 1 1, .sl 242 0 2 2, .lit (.slice none 0 0)]⟩, ⟨257, 1, [.int .i64 (0), .int .i64 (1), .int .i64 (2)]⟩, ⟨232, 0, [.int .i64 (-1), .int .i64 (0), .int .i64 (1)]⟩, ⟨233, 0, [.lit (.slice none 0 0), .slr 272 0 1 0, .lit (.slice none 0 0)]⟩, ⟨244, 1, [.int .i64 (0), .int .i64 (1)]⟩, ⟨246, 1, [.int .i64 (1)]⟩, ⟨237, 0, [.int .i64 (1)]⟩, ⟨242, 0, [.int .i64 (1), .int .i64 (2)]⟩, ⟨272, 1, [.int .i64 (1)]⟩], none⟩
theorem t99 : Tab2Ok Tryz.prog [⟨f98, [0, 1, 2, 3, 4, 5, 6, 7], []⟩, ⟨f3, [], []⟩, ⟨f4, [], []⟩, ⟨f5, [], []⟩] := fun x hx => by
  simp only [List.mem_cons, List.not_mem_nil, or_false] at hx
  rcases hx with rfl | rfl | rfl | rfl
  · exact ⟨r98, x98, by kernel_rfl⟩
  · exact ⟨r3, x3, by kernel_rfl⟩
  · exact ⟨r4, x4, by kernel_rfl⟩
  · exact ⟨r5, x5, by kernel_rfl⟩
set_option maxRecDepth 1000000 in
theorem q99 : evEnt Tryz.prog 417 100000 [] [⟨f98, [0, 1, 2, 3, 4, 5, 6, 7], []⟩, ⟨f3, [], []⟩, ⟨f4, [], []⟩, ⟨f5, [], []⟩] 60 f99 = true := by kernel_rfl
theorem r99 : FEntOk Tryz.prog f99 := fent_of_ev none_ok t99 mixed (fnsOk_of 417 fns) rfl q99
theorem x99 : fitE f99 = true := by kernel_rfl
noncomputable def f100 : FEnt := ⟨14, [.agg [.lit (.slice none 0 0), .lit (.slice none 0 0), .slr 0 0 2 0, .int .i64 (0)], .int .i64 (0), .agg [.int .i64 (-1), .lit (.slice none 0 0)]], 10, 0, i19, .tup [.agg [.lit (.slice none 0 0), .lit (.slice none 0 0), .slr 2539 0 2 0, .int .i64 (0)], .sl 2540 0 1 1, .int .i64 (0)], 2531, 0, [⟨2539, 6, [.lit (.string (bs [102])), .int .i64 (0), .int .i64 (8), .bool false, .lit (.slice none 0 0), .sl 2315 0 3 3, .lit (.string (bs [103])), .int .i64 (1), .int .i64 (2), .bool true, .lit (.slice none 0 0), .slr 2532 0 1 0]⟩, ⟨2540, 0, [.int .i64 (3), .int .i64 (0), .int .i64 (0), .int .i64 (0), .int .i64 (-1)]⟩, ⟨2315, 0, [.lit (.slice none 0 0), .int .i64 (1), .int .i64 (0), .int .i64 (0), .int .i64 (1), .int .i64 (0), .slr 2309 0 9 0, .int .i64 (2), .int .i64 (7), .int .i64 (0), .int .i64 (1), .int .i64 (2), .slr 2314 0 1 0, .int .i64 (3), .int .i64 (0), .int .i64 (0), .int .i64 (0), .int .i64 (0)]⟩, ⟨2532, 6, [.slr 2537 0 1 0, .int .i64 (3), .int .i64 (1), .int .i64 (0), .int .i64 (0), .int .i64 (0)]⟩, ⟨2309, 13, [.int .i64 (10), .int .i64 (0), .int .i64 (1), .int .i64 (0), .int .i64 (0), .int .i64 (0), .int .i64 (0), .int .i64 (0), .int .i64 (0), .int .i64 (0), .slr 2345 0 2 0, .lit (.slice none 0 0), .slr 2335 0 2 0, .int .i64 (2), .int .i64 (1), .int .i64 (2), .int .i64 (-1), .int .i64 (2), .int .i64 (-1), .int .i64 (3), .int .i64 (0), .int .i64 (0), .int .i64 (0), .lit (.slice none 0 0), .lit (.slice none 0 0), .lit (.slice none 0 0), .int .i64 (1), .int .i64 (0), .int .i64 (3), .int .i64 (1), .int .i64 (0), .int .i64 (0), .int .i64 (0), .int .i64 (0), .int .i64 (0), .int .i64 (0), .lit (.slice none 0 0), .lit (.slice none 0 0), .lit (.slice none 0 0), .int .i64 (1), .int .i64 (0), .int .i64 (4), .int .i64 (-1), .int .i64 (0), .int .i64 (0), .int .i64 (0), .int .i64 (0), .int .i64 (0), .int .i64 (0), .lit (.slice none 0 0), .lit (.slice none 0 0), .lit (.slice none 0 0), .int .i64 (2), .int .i64 (3), .int .i64 (5), .int .i64 (1), .int .i64 (0), .int .i64 (-1), .int .i64 (1), .int .i64 (0), .int .i64 (0), .int .i64 (0), .lit (.slice none 0 0), .lit (.slice none 0 0), .lit (.slice none 0 0), .int .i64 (1), .int .i64 (0), .int .i64 (6), .int .i64 (5), .int .i64 (0), .int .i64 (0), .int .i64 (0), .int .i64 (0), .int .i64 (0), .int .i64 (0), .lit (.slice none 0 0), .lit (.slice none 0 0), .lit (.slice none 0 0), .int .i64 (8), .int .i64 (0), .int .i64 (-1), .int .i64 (5), .int .i64 (0), .int .i64 (0), .int .i64 (0), .int .i64 (0), .int .i64 (0), .int .i64 (0), .lit (.slice none 0 0), .lit (.slice none 0 0), .lit (.slice none 0 0), .int .i64 (2), .int .i64 (1), .int .i64 (0), .int .i64 (1), .int .i64 (0), .int .i64 (-1), .int .i64 (1), .int .i64 (0), .int .i64 (0), .int .i64 (0), .lit (.slice none 0 0), .lit (.slice none 0 0), .lit (.slice none 0 0), .int .i64 (2), .int .i64 (13), .int .i64 (7), .int .i64 (0), .int .i64 (0), .int .i64 (-1), .int .i64 (3), .int .i64 (0), .int .i64 (0), .int .i64 (0), .lit (.slice none 0 0), .lit (.slice none 0 0), .lit (.slice none 0 0)]⟩, ⟨2314, 13, [.int .i64 (8), .int .i64 (0), .int .i64 (-1), .int .i64 (-1), .int .i64 (5), .int .i64 (0), .int .i64 (0), .int .i64 (0), .int .i64 (0), .int .i64 (0), .lit (.slice none 0 0), .lit (.slice none 0 0), .lit (.slice none 0 0)]⟩, ⟨2537, 13, [.int .i64 (2), .int .i64 (3), .int .i64 (1), .int .i64 (0), .int .i64 (0), .int .i64 (-1), .int .i64 (1), .int .i64 (0), .int .i64 (0), .int .i64 (0), .lit (.slice none 0 0), .lit (.slice none 0 0), .lit (.slice none 0 0)]⟩, ⟨2345, 2, [.int .i64 (-1), .int .i64 (0), .int .i64 (0), .int .i64 (0)]⟩, ⟨2335, 1, [.int .i64 (0), .int .i64 (1)]⟩], none⟩
theorem t100 : Tab2Ok Tryz.prog [⟨f93, [0, 1, 2, 3, 4, 5, 6, 7, 8, 9], []⟩, ⟨f93, [422, 1, 415, 3, 4, 5, 6, 420, 8, 9], []⟩, ⟨f95, [929, 808, 922, 777, 782, 792, 807, 927, 838, 828], []⟩, ⟨f97, [1466, 1350, 1459, 1319, 1324, 1349, 1464, 1380, 1370], []⟩, ⟨f99, [1976, 1863, 1969, 1842, 1847, 1974, 1893, 1883], []⟩] := fun x hx => by
  simp only [List.mem_cons, List.not_mem_nil, or_false] at hx
  rcases hx with rfl | rfl | rfl | rfl | rfl
  · exact ⟨r93, x93, by kernel_rfl⟩
  · exact ⟨r93, x93, by kernel_rfl⟩
  · exact ⟨r95, x95, by kernel_rfl⟩
  · exact ⟨r97, x97, by kernel_rfl⟩
  · exact ⟨r99, x99, by kernel_rfl⟩
set_option maxRecDepth 1000000 in
theorem q100 : evEnt Tryz.prog 417 100000 [] [⟨f93, [0, 1, 2, 3, 4, 5, 6, 7, 8, 9], []⟩, ⟨f93, [422, 1, 415, 3, 4, 5, 6, 420, 8, 9], []⟩, ⟨f95, [929, 808, 922, 777, 782, 792, 807, 927, 838, 828], []⟩, ⟨f97, [1466, 1350, 1459, 1319, 1324, 1349, 1464, 1380, 1370], []⟩, ⟨f99, [1976, 1863, 1969, 1842, 1847, 1974, 1893, 1883], []⟩] 60 f100 = true := by kernel_rfl
theorem r100 : FEntOk Tryz.prog f100 := fent_of_ev none_ok t100 mixed (fnsOk_of 417 fns) rfl q100
theorem x100 : fitE f100 = true := by kernel_rfl
noncomputable def f101 : FEnt := ⟨12, [.agg [.lit (.slice none 0 0), .lit (.slice none 0 0), .slr 0 0 2 0, .int .i64 (0)], .agg [.int .i64 (-1), .lit (.slice none 0 0)]], 10, 0, i19, .int .i64 (0), 2534, 0, [], none⟩
theorem t101 : Tab2Ok Tryz.prog [⟨f100, [0, 1, 2, 3, 4, 5, 6, 7, 8, 9], []⟩] := fun x hx => by
  simp only [List.mem_cons, List.not_mem_nil, or_false] at hx
  rcases hx with rfl
  · exact ⟨r100, x100, by kernel_rfl⟩
set_option maxRecDepth 1000000 in
theorem q101 : evEnt Tryz.prog 417 100000 [] [⟨f100, [0, 1, 2, 3, 4, 5, 6, 7, 8, 9], []⟩] 60 f101 = true := by kernel_rfl
theorem r101 : FEntOk Tryz.prog f101 := fent_of_ev none_ok t101 mixed (fnsOk_of 417 fns) rfl q101
theorem x101 : fitE f101 = true := by kernel_rfl
noncomputable def f102 : FEnt := ⟨70, [.agg [.lit (.slice none 0 0), .lit (.slice none 0 0), .slr 0 0 2 0, .int .i64 (0)], .int .i64 (1)], 10, 0, i19, .tup [.agg [.sl 254 0 1 1, .sl 255 0 1 1, .slr 265 0 1 0, .sl 256 0 1 1, .sl 257 0 1 1], .int .i64 (0)], 260, 2, [⟨254, 0, [.lit (.slice none 0 0)]⟩, ⟨255, 0, [.lit (.slice none 0 0)]⟩, ⟨265, 1, [.int .i64 (0)]⟩, ⟨256, 0, [.int .i64 (-1)]⟩, ⟨257, 0, [.lit (.slice none 0 0)]⟩], none⟩
theorem t102 : Tab2Ok Tryz.prog [⟨f92, [0, 1, 2, 3, 4, 5, 6, 7, 8, 9], []⟩] := fun x hx => by
  simp only [List.mem_cons, List.not_mem_nil, or_false] at hx
  rcases hx with rfl
  · exact ⟨r92, x92, by kernel_rfl⟩
set_option maxRecDepth 1000000 in
theorem q102 : evEnt Tryz.prog 417 100000 [] [⟨f92, [0, 1, 2, 3, 4, 5, 6, 7, 8, 9], []⟩] 60 f102 = true := by kernel_rfl
theorem r102 : FEntOk Tryz.prog f102 := fent_of_ev none_ok t102 mixed (fnsOk_of 417 fns) rfl q102
theorem x102 : fitE f102 = true := by kernel_rfl
noncomputable def f103 : FEnt := ⟨14, [.agg [.lit (.slice none 0 0), .lit (.slice none 0 0), .slr 0 0 2 0, .int .i64 (0)], .int .i64 (1), .agg [.int .i64 (0), .lit (.slice none 0 0)]], 10, 0, i19, .tup [.agg [.lit (.slice none 0 0), .lit (.slice none 0 0), .slr 411 0 2 0, .int .i64 (0)], .lit (.slice none 0 0), .int .i64 (0)], 402, 2, [⟨411, 6, [.lit (.string (bs [102])), .int .i64 (0), .int .i64 (8), .bool false, .lit (.slice none 0 0), .slr 281 0 5 0, .lit (.string (bs [103])), .int .i64 (1), .int .i64 (2), .bool true, .lit (.slice none 0 0), .slr 404 0 1 0]⟩, ⟨281, 6, [.lit (.slice none 0 0), .int .i64 (1), .int .i64 (0), .int .i64 (0), .int .i64 (1), .int .i64 (0), .slr 305 0 4 0, .int .i64 (1), .int .i64 (0), .int .i64 (0), .int .i64 (3), .int .i64 (0), .slr 310 0 1 0, .int .i64 (3), .int .i64 (0), .int .i64 (0), .int .i64 (0), .int .i64 (0), .slr 320 0 2 0, .int .i64 (1), .int .i64 (0), .int .i64 (0), .int .i64 (4), .int .i64 (0), .slr 335 0 3 0, .int .i64 (2), .int .i64 (7), .int .i64 (0), .int .i64 (1), .int .i64 (2)]⟩, ⟨404, 6, [.slr 409 0 1 0, .int .i64 (3), .int .i64 (1), .int .i64 (0), .int .i64 (0), .int .i64 (0)]⟩, ⟨305, 13, [.int .i64 (10), .int .i64 (0), .int .i64 (0), .int .i64 (0), .int .i64 (0), .int .i64 (0), .int .i64 (0), .int .i64 (0), .int .i64 (0), .int .i64 (0), .slr 286 0 2 0, .lit (.slice none 0 0), .slr 288 0 2 0, .int .i64 (2), .int .i64 (1), .int .i64 (1), .int .i64 (-1), .int .i64 (2), .int .i64 (-1), .int .i64 (3), .int .i64 (0), .int .i64 (0), .int .i64 (0), .lit (.slice none 0 0), .lit (.slice none 0 0), .lit (.slice none 0 0), .int .i64 (1), .int .i64 (0), .int .i64 (2), .int .i64 (0), .int .i64 (0), .int .i64 (0), .int .i64 (0), .int .i64 (0), .int .i64 (0), .int .i64 (0), .lit (.slice none 0 0), .lit (.slice none 0 0), .lit (.slice none 0 0), .int .i64 (1), .int .i64 (0), .int .i64 (3), .int .i64 (-1), .int .i64 (0), .int .i64 (0), .int .i64 (0), .int .i64 (0), .int .i64 (0), .int .i64 (0), .lit (.slice none 0 0), .lit (.slice none 0 0), .lit (.slice none 0 0)]⟩, ⟨310, 13, [.int .i64 (8), .int .i64 (0), .int .i64 (-1), .int .i64 (-1), .int .i64 (5), .int .i64 (0), .int .i64 (0), .int .i64 (0), .int .i64 (0), .int .i64 (0), .lit (.slice none 0 0), .lit (.slice none 0 0), .lit (.slice none 0 0)]⟩, ⟨320, 13, [.int .i64 (2), .int .i64 (3), .int .i64 (4), .int .i64 (0), .int .i64 (0), .int .i64 (-1), .int .i64 (1), .int .i64 (0), .int .i64 (0), .int .i64 (0), .lit (.slice none 0 0), .lit (.slice none 0 0), .lit (.slice none 0 0), .int .i64 (1), .int .i64 (0), .int .i64 (5), .int .i64 (4), .int .i64 (0), .int .i64 (0), .int .i64 (0), .int .i64 (0), .int .i64 (0), .int .i64 (0), .lit (.slice none 0 0), .lit (.slice none 0 0), .lit (.slice none 0 0)]⟩, ⟨335, 13, [.int .i64 (8), .int .i64 (0), .int .i64 (-1), .int .i64 (4), .int .i64 (0), .int .i64 (0), .int .i64 (0), .int .i64 (0), .int .i64 (0), .int .i64 (0), .lit (.slice none 0 0), .lit (.slice none 0 0), .lit (.slice none 0 0), .int .i64 (2), .int .i64 (1), .int .i64 (6), .int .i64 (0), .int .i64 (0), .int .i64 (-1), .int .i64 (1), .int .i64 (0), .int .i64 (0), .int .i64 (0), .lit (.slice none 0 0), .lit (.slice none 0 0), .lit (.slice none 0 0), .int .i64 (2), .int .i64 (13), .int .i64 (7), .int .i64 (6), .int .i64 (0), .int .i64 (-1), .int .i64 (3), .int .i64 (0), .int .i64 (0), .int .i64 (0), .lit (.slice none 0 0), .lit (.slice none 0 0), .lit (.slice none 0 0)]⟩, ⟨409, 13, [.int .i64 (2), .int .i64 (3), .int .i64 (1), .int .i64 (0), .int .i64 (0), .int .i64 (-1), .int .i64 (1), .int .i64 (0), .int .i64 (0), .int .i64 (0), .lit (.slice none 0 0), .lit (.slice none 0 0), .lit (.slice none 0 0)]⟩, ⟨286, 2, [.int .i64 (-1), .int .i64 (0), .int .i64 (6), .int .i64 (0)]⟩, ⟨288, 1, [.int .i64 (0), .int .i64 (4)]⟩], none⟩
theorem t103 : Tab2Ok Tryz.prog [⟨f102, [0, 1, 2, 3, 4, 5, 6, 7, 8, 9], []⟩] := fun x hx => by
  simp only [List.mem_cons, List.not_mem_nil, or_false] at hx
  rcases hx with rfl
  · exact ⟨r102, x102, by kernel_rfl⟩
set_option maxRecDepth 1000000 in
theorem q103 : evEnt Tryz.prog 417 100000 [] [⟨f102, [0, 1, 2, 3, 4, 5, 6, 7, 8, 9], []⟩] 60 f103 = true := by kernel_rfl
theorem r103 : FEntOk Tryz.prog f103 := fent_of_ev none_ok t103 mixed (fnsOk_of 417 fns) rfl q103
theorem x103 : fitE f103 = true := by kernel_rfl
end Go.Proofs.YtbkgehknhjkaoaaGreatDoor.Pipe
