/- Calls of the law's run: what each finds, hands back and lays. -/
import Derived.Test.YtbkgehknhjkaoaaGreatDoorPipeG1
import Derived.Test.YtbkgehknhjkaoaaGreatDoorPipeG5
import Derived.Test.YtbkgehknhjkaoaaGreatDoorPipeG21
import Derived.Test.YtbkgehknhjkaoaaGreatDoorPipeG22
namespace Go.Proofs.YtbkgehknhjkaoaaGreatDoor.Pipe
open Go Go.Proofs.YtbkgehknhjkaoaaGreatDoor.Ev
noncomputable def f142 : FEnt := ⟨180, [.agg [.lit (.slice none 0 0), .lit (.slice none 0 0), .slr 0 0 2 0, .int .i64 (0)]], 10, 0, i34, .int .i64 (0), 228, 0, [], none⟩
theorem t142 : Tab2Ok Tryz.prog [] := fun x hx => by cases hx
set_option maxRecDepth 1000000 in
theorem q142 : evEnt Tryz.prog 417 100000 [] [] 60 f142 = true := by kernel_rfl
theorem r142 : FEntOk Tryz.prog f142 := fent_of_ev none_ok t142 mixed (fnsOk_of 417 fns) rfl q142
theorem x142 : fitE f142 = true := by kernel_rfl
noncomputable def f143 : FEnt := ⟨70, [.agg [.lit (.slice none 0 0), .lit (.slice none 0 0), .slr 0 0 2 0, .int .i64 (0)], .int .i64 (0)], 10, 0, i34, .tup [.agg [.sl 243 0 4 4, .sl 244 0 4 4, .slr 277 0 4 0, .sl 245 0 4 4, .sl 246 0 4 4], .int .i64 (0)], 294, 0, [⟨243, 0, [.lit (.slice none 0 0), .slr 264 0 2 0, .slr 266 0 1 0, .slr 257 0 1 0]⟩, ⟨244, 0, [.sl 250 0 1 1, .sl 255 0 1 1, .lit (.slice none 0 0), .sl 262 0 2 2]⟩, ⟨277, 1, [.int .i64 (0), .int .i64 (1), .int .i64 (3), .int .i64 (2)]⟩, ⟨245, 0, [.int .i64 (-1), .int .i64 (0), .int .i64 (3), .int .i64 (1)]⟩, ⟨246, 0, [.lit (.slice none 0 0), .slr 300 0 1 0, .lit (.slice none 0 0), .slr 302 0 1 0]⟩, ⟨264, 1, [.int .i64 (0), .int .i64 (3)]⟩, ⟨266, 1, [.int .i64 (3)]⟩, ⟨257, 1, [.int .i64 (1)]⟩, ⟨250, 0, [.int .i64 (1)]⟩, ⟨255, 0, [.int .i64 (3)]⟩, ⟨262, 0, [.int .i64 (1), .int .i64 (2)]⟩, ⟨300, 1, [.int .i64 (1)]⟩, ⟨302, 1, [.int .i64 (1)]⟩], none⟩
theorem t143 : Tab2Ok Tryz.prog [⟨f142, [0, 1, 2, 3, 4, 5, 6, 7, 8, 9], []⟩, ⟨f3, [], []⟩, ⟨f4, [], []⟩, ⟨f38, [], []⟩, ⟨f32, [], []⟩] := fun x hx => by
  simp only [List.mem_cons, List.not_mem_nil, or_false] at hx
  rcases hx with rfl | rfl | rfl | rfl | rfl
  · exact ⟨r142, x142, by kernel_rfl⟩
  · exact ⟨r3, x3, by kernel_rfl⟩
  · exact ⟨r4, x4, by kernel_rfl⟩
  · exact ⟨r38, x38, by kernel_rfl⟩
  · exact ⟨r32, x32, by kernel_rfl⟩
set_option maxRecDepth 1000000 in
theorem q143 : evEnt Tryz.prog 417 100000 [] [⟨f142, [0, 1, 2, 3, 4, 5, 6, 7, 8, 9], []⟩, ⟨f3, [], []⟩, ⟨f4, [], []⟩, ⟨f38, [], []⟩, ⟨f32, [], []⟩] 60 f143 = true := by kernel_rfl
theorem r143 : FEntOk Tryz.prog f143 := fent_of_ev none_ok t143 mixed (fnsOk_of 417 fns) rfl q143
theorem x143 : fitE f143 = true := by kernel_rfl
noncomputable def f144 : FEnt := ⟨180, [.agg [.lit (.slice none 0 0), .lit (.slice none 0 0), .slr 0 0 2 0, .int .i64 (0)]], 9, 0, i35, .int .i64 (0), 217, 0, [], none⟩
theorem t144 : Tab2Ok Tryz.prog [] := fun x hx => by cases hx
set_option maxRecDepth 1000000 in
theorem q144 : evEnt Tryz.prog 417 100000 [] [] 60 f144 = true := by kernel_rfl
theorem r144 : FEntOk Tryz.prog f144 := fent_of_ev none_ok t144 mixed (fnsOk_of 417 fns) rfl q144
theorem x144 : fitE f144 = true := by kernel_rfl
noncomputable def f145 : FEnt := ⟨70, [.agg [.lit (.slice none 0 0), .lit (.slice none 0 0), .slr 0 0 2 0, .int .i64 (0)], .int .i64 (0)], 9, 0, i35, .tup [.agg [.sl 231 0 3 3, .sl 232 0 3 3, .slr 258 0 3 0, .sl 233 0 3 3, .sl 234 0 3 3], .int .i64 (0)], 266, 0, [⟨231, 0, [.lit (.slice none 0 0), .slr 245 0 2 0, .slr 247 0 1 0]⟩, ⟨232, 0, [.sl 238 0 1 1, .sl 243 0 2 2, .lit (.slice none 0 0)]⟩, ⟨258, 1, [.int .i64 (0), .int .i64 (1), .int .i64 (2)]⟩, ⟨233, 0, [.int .i64 (-1), .int .i64 (0), .int .i64 (1)]⟩, ⟨234, 0, [.lit (.slice none 0 0), .slr 273 0 1 0, .lit (.slice none 0 0)]⟩, ⟨245, 1, [.int .i64 (0), .int .i64 (1)]⟩, ⟨247, 1, [.int .i64 (1)]⟩, ⟨238, 0, [.int .i64 (1)]⟩, ⟨243, 0, [.int .i64 (1), .int .i64 (2)]⟩, ⟨273, 1, [.int .i64 (1)]⟩], none⟩
theorem t145 : Tab2Ok Tryz.prog [⟨f144, [0, 1, 2, 3, 4, 5, 6, 7, 8], []⟩, ⟨f3, [], []⟩, ⟨f4, [], []⟩, ⟨f5, [], []⟩] := fun x hx => by
  simp only [List.mem_cons, List.not_mem_nil, or_false] at hx
  rcases hx with rfl | rfl | rfl | rfl
  · exact ⟨r144, x144, by kernel_rfl⟩
  · exact ⟨r3, x3, by kernel_rfl⟩
  · exact ⟨r4, x4, by kernel_rfl⟩
  · exact ⟨r5, x5, by kernel_rfl⟩
set_option maxRecDepth 1000000 in
theorem q145 : evEnt Tryz.prog 417 100000 [] [⟨f144, [0, 1, 2, 3, 4, 5, 6, 7, 8], []⟩, ⟨f3, [], []⟩, ⟨f4, [], []⟩, ⟨f5, [], []⟩] 60 f145 = true := by kernel_rfl
theorem r145 : FEntOk Tryz.prog f145 := fent_of_ev none_ok t145 mixed (fnsOk_of 417 fns) rfl q145
theorem x145 : fitE f145 = true := by kernel_rfl
noncomputable def f146 : FEnt := ⟨14, [.agg [.lit (.slice none 0 0), .lit (.slice none 0 0), .slr 0 0 2 0, .int .i64 (0)], .int .i64 (0), .agg [.int .i64 (-1), .lit (.slice none 0 0)]], 11, 0, i32, .tup [.agg [.lit (.slice none 0 0), .lit (.slice none 0 0), .slr 2540 0 2 0, .int .i64 (0)], .sl 2541 0 1 1, .int .i64 (0)], 2531, 0, [⟨2540, 6, [.lit (.string (bs [102])), .int .i64 (0), .int .i64 (8), .bool false, .lit (.slice none 0 0), .sl 2321 0 3 3, .lit (.string (bs [103])), .int .i64 (1), .int .i64 (2), .bool true, .lit (.slice none 0 0), .slr 2533 0 1 0]⟩, ⟨2541, 0, [.int .i64 (3), .int .i64 (0), .int .i64 (0), .int .i64 (0), .int .i64 (-1)]⟩, ⟨2321, 0, [.slr 2276 0 2 0, .int .i64 (1), .int .i64 (0), .int .i64 (0), .int .i64 (1), .int .i64 (0), .slr 2315 0 7 0, .int .i64 (2), .int .i64 (7), .int .i64 (0), .int .i64 (1), .int .i64 (2), .slr 2320 0 1 0, .int .i64 (3), .int .i64 (0), .int .i64 (0), .int .i64 (0), .int .i64 (0)]⟩, ⟨2533, 6, [.slr 2538 0 1 0, .int .i64 (3), .int .i64 (1), .int .i64 (0), .int .i64 (0), .int .i64 (0)]⟩, ⟨2276, 13, [.int .i64 (1), .int .i64 (0), .int .i64 (0), .int .i64 (-1), .int .i64 (5), .int .i64 (0), .int .i64 (0), .int .i64 (0), .int .i64 (0), .int .i64 (0), .lit (.slice none 0 0), .lit (.slice none 0 0), .lit (.slice none 0 0), .int .i64 (1), .int .i64 (0), .int .i64 (1), .int .i64 (-1), .int .i64 (0), .int .i64 (0), .int .i64 (0), .int .i64 (0), .int .i64 (0), .int .i64 (0), .lit (.slice none 0 0), .lit (.slice none 0 0), .lit (.slice none 0 0)]⟩, ⟨2315, 13, [.int .i64 (10), .int .i64 (0), .int .i64 (3), .int .i64 (0), .int .i64 (0), .int .i64 (0), .int .i64 (0), .int .i64 (0), .int .i64 (0), .int .i64 (0), .slr 2352 0 2 0, .lit (.slice none 0 0), .slr 2342 0 2 0, .int .i64 (1), .int .i64 (0), .int .i64 (4), .int .i64 (3), .int .i64 (0), .int .i64 (0), .int .i64 (0), .int .i64 (0), .int .i64 (0), .int .i64 (0), .lit (.slice none 0 0), .lit (.slice none 0 0), .lit (.slice none 0 0), .int .i64 (1), .int .i64 (0), .int .i64 (5), .int .i64 (3), .int .i64 (0), .int .i64 (0), .int .i64 (0), .int .i64 (0), .int .i64 (0), .int .i64 (0), .lit (.slice none 0 0), .lit (.slice none 0 0), .lit (.slice none 0 0), .int .i64 (1), .int .i64 (0), .int .i64 (6), .int .i64 (5), .int .i64 (0), .int .i64 (0), .int .i64 (0), .int .i64 (0), .int .i64 (0), .int .i64 (0), .lit (.slice none 0 0), .lit (.slice none 0 0), .lit (.slice none 0 0), .int .i64 (8), .int .i64 (0), .int .i64 (-1), .int .i64 (5), .int .i64 (0), .int .i64 (0), .int .i64 (0), .int .i64 (0), .int .i64 (0), .int .i64 (0), .lit (.slice none 0 0), .lit (.slice none 0 0), .lit (.slice none 0 0), .int .i64 (2), .int .i64 (1), .int .i64 (2), .int .i64 (3), .int .i64 (0), .int .i64 (-1), .int .i64 (1), .int .i64 (0), .int .i64 (0), .int .i64 (0), .lit (.slice none 0 0), .lit (.slice none 0 0), .lit (.slice none 0 0), .int .i64 (2), .int .i64 (13), .int .i64 (7), .int .i64 (2), .int .i64 (0), .int .i64 (-1), .int .i64 (3), .int .i64 (0), .int .i64 (0), .int .i64 (0), .lit (.slice none 0 0), .lit (.slice none 0 0), .lit (.slice none 0 0)]⟩, ⟨2320, 13, [.int .i64 (8), .int .i64 (0), .int .i64 (-1), .int .i64 (-1), .int .i64 (5), .int .i64 (0), .int .i64 (0), .int .i64 (0), .int .i64 (0), .int .i64 (0), .lit (.slice none 0 0), .lit (.slice none 0 0), .lit (.slice none 0 0)]⟩, ⟨2538, 13, [.int .i64 (1), .int .i64 (0), .int .i64 (1), .int .i64 (0), .int .i64 (0), .int .i64 (0), .int .i64 (0), .int .i64 (0), .int .i64 (0), .int .i64 (0), .lit (.slice none 0 0), .lit (.slice none 0 0), .lit (.slice none 0 0)]⟩, ⟨2352, 2, [.int .i64 (-1), .int .i64 (0), .int .i64 (2), .int .i64 (0)]⟩, ⟨2342, 1, [.int .i64 (0), .int .i64 (1)]⟩], none⟩
theorem t146 : Tab2Ok Tryz.prog [⟨f138, [0, 1, 2, 3, 4, 5, 6, 7, 8, 9, 10], []⟩, ⟨f138, [423, 1, 416, 3, 4, 5, 6, 7, 421, 9, 10], []⟩, ⟨f141, [931, 809, 924, 764, 778, 783, 793, 808, 929, 840, 830], []⟩, ⟨f143, [1470, 1353, 1463, 1298, 1322, 1327, 1352, 1468, 1384, 1374], []⟩, ⟨f145, [1982, 1868, 1975, 1808, 1847, 1852, 1980, 1899, 1889], []⟩] := fun x hx => by
  simp only [List.mem_cons, List.not_mem_nil, or_false] at hx
  rcases hx with rfl | rfl | rfl | rfl | rfl
  · exact ⟨r138, x138, by kernel_rfl⟩
  · exact ⟨r138, x138, by kernel_rfl⟩
  · exact ⟨r141, x141, by kernel_rfl⟩
  · exact ⟨r143, x143, by kernel_rfl⟩
  · exact ⟨r145, x145, by kernel_rfl⟩
set_option maxRecDepth 1000000 in
theorem q146 : evEnt Tryz.prog 417 100000 [] [⟨f138, [0, 1, 2, 3, 4, 5, 6, 7, 8, 9, 10], []⟩, ⟨f138, [423, 1, 416, 3, 4, 5, 6, 7, 421, 9, 10], []⟩, ⟨f141, [931, 809, 924, 764, 778, 783, 793, 808, 929, 840, 830], []⟩, ⟨f143, [1470, 1353, 1463, 1298, 1322, 1327, 1352, 1468, 1384, 1374], []⟩, ⟨f145, [1982, 1868, 1975, 1808, 1847, 1852, 1980, 1899, 1889], []⟩] 60 f146 = true := by kernel_rfl
theorem r146 : FEntOk Tryz.prog f146 := fent_of_ev none_ok t146 mixed (fnsOk_of 417 fns) rfl q146
theorem x146 : fitE f146 = true := by kernel_rfl
noncomputable def f147 : FEnt := ⟨12, [.agg [.lit (.slice none 0 0), .lit (.slice none 0 0), .slr 0 0 2 0, .int .i64 (0)], .agg [.int .i64 (-1), .lit (.slice none 0 0)]], 11, 0, i32, .int .i64 (0), 2534, 0, [], none⟩
theorem t147 : Tab2Ok Tryz.prog [⟨f146, [0, 1, 2, 3, 4, 5, 6, 7, 8, 9, 10], []⟩] := fun x hx => by
  simp only [List.mem_cons, List.not_mem_nil, or_false] at hx
  rcases hx with rfl
  · exact ⟨r146, x146, by kernel_rfl⟩
set_option maxRecDepth 1000000 in
theorem q147 : evEnt Tryz.prog 417 100000 [] [⟨f146, [0, 1, 2, 3, 4, 5, 6, 7, 8, 9, 10], []⟩] 60 f147 = true := by kernel_rfl
theorem r147 : FEntOk Tryz.prog f147 := fent_of_ev none_ok t147 mixed (fnsOk_of 417 fns) rfl q147
theorem x147 : fitE f147 = true := by kernel_rfl
noncomputable def f148 : FEnt := ⟨70, [.agg [.lit (.slice none 0 0), .lit (.slice none 0 0), .slr 0 0 2 0, .int .i64 (0)], .int .i64 (1)], 11, 0, i32, .tup [.agg [.sl 255 0 1 1, .sl 256 0 1 1, .slr 266 0 1 0, .sl 257 0 1 1, .sl 258 0 1 1], .int .i64 (0)], 260, 2, [⟨255, 0, [.lit (.slice none 0 0)]⟩, ⟨256, 0, [.lit (.slice none 0 0)]⟩, ⟨266, 1, [.int .i64 (0)]⟩, ⟨257, 0, [.int .i64 (-1)]⟩, ⟨258, 0, [.lit (.slice none 0 0)]⟩], none⟩
theorem t148 : Tab2Ok Tryz.prog [⟨f137, [0, 1, 2, 3, 4, 5, 6, 7, 8, 9, 10], []⟩] := fun x hx => by
  simp only [List.mem_cons, List.not_mem_nil, or_false] at hx
  rcases hx with rfl
  · exact ⟨r137, x137, by kernel_rfl⟩
set_option maxRecDepth 1000000 in
theorem q148 : evEnt Tryz.prog 417 100000 [] [⟨f137, [0, 1, 2, 3, 4, 5, 6, 7, 8, 9, 10], []⟩] 60 f148 = true := by kernel_rfl
theorem r148 : FEntOk Tryz.prog f148 := fent_of_ev none_ok t148 mixed (fnsOk_of 417 fns) rfl q148
theorem x148 : fitE f148 = true := by kernel_rfl
noncomputable def f149 : FEnt := ⟨14, [.agg [.lit (.slice none 0 0), .lit (.slice none 0 0), .slr 0 0 2 0, .int .i64 (0)], .int .i64 (1), .agg [.int .i64 (0), .lit (.slice none 0 0)]], 11, 0, i32, .tup [.agg [.lit (.slice none 0 0), .lit (.slice none 0 0), .slr 412 0 2 0, .int .i64 (0)], .lit (.slice none 0 0), .int .i64 (0)], 402, 2, [⟨412, 6, [.lit (.string (bs [102])), .int .i64 (0), .int .i64 (8), .bool false, .lit (.slice none 0 0), .slr 282 0 5 0, .lit (.string (bs [103])), .int .i64 (1), .int .i64 (2), .bool true, .lit (.slice none 0 0), .slr 405 0 1 0]⟩, ⟨282, 6, [.slr 292 0 2 0, .int .i64 (1), .int .i64 (0), .int .i64 (0), .int .i64 (1), .int .i64 (0), .slr 306 0 2 0, .int .i64 (1), .int .i64 (0), .int .i64 (0), .int .i64 (3), .int .i64 (0), .slr 311 0 1 0, .int .i64 (3), .int .i64 (0), .int .i64 (0), .int .i64 (0), .int .i64 (0), .slr 321 0 2 0, .int .i64 (1), .int .i64 (0), .int .i64 (0), .int .i64 (4), .int .i64 (0), .slr 336 0 3 0, .int .i64 (2), .int .i64 (7), .int .i64 (0), .int .i64 (1), .int .i64 (2)]⟩, ⟨405, 6, [.slr 410 0 1 0, .int .i64 (3), .int .i64 (1), .int .i64 (0), .int .i64 (0), .int .i64 (0)]⟩, ⟨292, 13, [.int .i64 (1), .int .i64 (0), .int .i64 (1), .int .i64 (-1), .int .i64 (5), .int .i64 (0), .int .i64 (0), .int .i64 (0), .int .i64 (0), .int .i64 (0), .lit (.slice none 0 0), .lit (.slice none 0 0), .lit (.slice none 0 0), .int .i64 (1), .int .i64 (0), .int .i64 (3), .int .i64 (-1), .int .i64 (0), .int .i64 (0), .int .i64 (0), .int .i64 (0), .int .i64 (0), .int .i64 (0), .lit (.slice none 0 0), .lit (.slice none 0 0), .lit (.slice none 0 0)]⟩, ⟨306, 13, [.int .i64 (10), .int .i64 (0), .int .i64 (0), .int .i64 (0), .int .i64 (0), .int .i64 (0), .int .i64 (0), .int .i64 (0), .int .i64 (0), .int .i64 (0), .slr 297 0 2 0, .lit (.slice none 0 0), .slr 299 0 2 0, .int .i64 (1), .int .i64 (0), .int .i64 (2), .int .i64 (0), .int .i64 (0), .int .i64 (0), .int .i64 (0), .int .i64 (0), .int .i64 (0), .int .i64 (0), .lit (.slice none 0 0), .lit (.slice none 0 0), .lit (.slice none 0 0)]⟩, ⟨311, 13, [.int .i64 (8), .int .i64 (0), .int .i64 (-1), .int .i64 (-1), .int .i64 (5), .int .i64 (0), .int .i64 (0), .int .i64 (0), .int .i64 (0), .int .i64 (0), .lit (.slice none 0 0), .lit (.slice none 0 0), .lit (.slice none 0 0)]⟩, ⟨321, 13, [.int .i64 (1), .int .i64 (0), .int .i64 (4), .int .i64 (0), .int .i64 (0), .int .i64 (0), .int .i64 (0), .int .i64 (0), .int .i64 (0), .int .i64 (0), .lit (.slice none 0 0), .lit (.slice none 0 0), .lit (.slice none 0 0), .int .i64 (1), .int .i64 (0), .int .i64 (5), .int .i64 (4), .int .i64 (0), .int .i64 (0), .int .i64 (0), .int .i64 (0), .int .i64 (0), .int .i64 (0), .lit (.slice none 0 0), .lit (.slice none 0 0), .lit (.slice none 0 0)]⟩, ⟨336, 13, [.int .i64 (8), .int .i64 (0), .int .i64 (-1), .int .i64 (4), .int .i64 (0), .int .i64 (0), .int .i64 (0), .int .i64 (0), .int .i64 (0), .int .i64 (0), .lit (.slice none 0 0), .lit (.slice none 0 0), .lit (.slice none 0 0), .int .i64 (2), .int .i64 (1), .int .i64 (6), .int .i64 (0), .int .i64 (0), .int .i64 (-1), .int .i64 (1), .int .i64 (0), .int .i64 (0), .int .i64 (0), .lit (.slice none 0 0), .lit (.slice none 0 0), .lit (.slice none 0 0), .int .i64 (2), .int .i64 (13), .int .i64 (7), .int .i64 (6), .int .i64 (0), .int .i64 (-1), .int .i64 (3), .int .i64 (0), .int .i64 (0), .int .i64 (0), .lit (.slice none 0 0), .lit (.slice none 0 0), .lit (.slice none 0 0)]⟩, ⟨410, 13, [.int .i64 (1), .int .i64 (0), .int .i64 (1), .int .i64 (0), .int .i64 (0), .int .i64 (0), .int .i64 (0), .int .i64 (0), .int .i64 (0), .int .i64 (0), .lit (.slice none 0 0), .lit (.slice none 0 0), .lit (.slice none 0 0)]⟩, ⟨297, 2, [.int .i64 (-1), .int .i64 (0), .int .i64 (6), .int .i64 (0)]⟩, ⟨299, 1, [.int .i64 (0), .int .i64 (4)]⟩], none⟩
theorem t149 : Tab2Ok Tryz.prog [⟨f148, [0, 1, 2, 3, 4, 5, 6, 7, 8, 9, 10], []⟩] := fun x hx => by
  simp only [List.mem_cons, List.not_mem_nil, or_false] at hx
  rcases hx with rfl
  · exact ⟨r148, x148, by kernel_rfl⟩
set_option maxRecDepth 1000000 in
theorem q149 : evEnt Tryz.prog 417 100000 [] [⟨f148, [0, 1, 2, 3, 4, 5, 6, 7, 8, 9, 10], []⟩] 60 f149 = true := by kernel_rfl
theorem r149 : FEntOk Tryz.prog f149 := fent_of_ev none_ok t149 mixed (fnsOk_of 417 fns) rfl q149
theorem x149 : fitE f149 = true := by kernel_rfl
end Go.Proofs.YtbkgehknhjkaoaaGreatDoor.Pipe
