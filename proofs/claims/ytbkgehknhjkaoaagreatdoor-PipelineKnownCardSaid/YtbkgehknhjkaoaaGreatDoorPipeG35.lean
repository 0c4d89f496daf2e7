/- Calls of the law's run: what each finds, hands back and lays. -/
import Derived.Test.YtbkgehknhjkaoaaGreatDoorPipeG1
import Derived.Test.YtbkgehknhjkaoaaGreatDoorPipeG5
import Derived.Test.YtbkgehknhjkaoaaGreatDoorPipeG33
import Derived.Test.YtbkgehknhjkaoaaGreatDoorPipeG34
namespace Go.Proofs.YtbkgehknhjkaoaaGreatDoor.Pipe
open Go Go.Proofs.YtbkgehknhjkaoaaGreatDoor.Ev
noncomputable def f239 : FEnt := ⟨180, [.agg [.lit (.slice none 0 0), .lit (.slice none 0 0), .slr 0 0 2 0, .int .i64 (0)]], 7, 0, i59, .int .i64 (0), 172, 0, [], none⟩
theorem t239 : Tab2Ok Tryz.prog [] := fun x hx => by cases hx
set_option maxRecDepth 1000000 in
theorem q239 : evEnt Tryz.prog 417 100000 [] [] 60 f239 = true := by kernel_rfl
theorem r239 : FEntOk Tryz.prog f239 := fent_of_ev none_ok t239 mixed (fnsOk_of 417 fns) rfl q239
theorem x239 : fitE f239 = true := by kernel_rfl
noncomputable def f240 : FEnt := ⟨70, [.agg [.lit (.slice none 0 0), .lit (.slice none 0 0), .slr 0 0 2 0, .int .i64 (0)], .int .i64 (1)], 7, 0, i59, .tup [.agg [.sl 184 0 1 1, .sl 185 0 1 1, .slr 195 0 1 0, .sl 186 0 1 1, .sl 187 0 1 1], .int .i64 (0)], 193, 2, [⟨184, 0, [.lit (.slice none 0 0)]⟩, ⟨185, 0, [.lit (.slice none 0 0)]⟩, ⟨195, 1, [.int .i64 (0)]⟩, ⟨186, 0, [.int .i64 (-1)]⟩, ⟨187, 0, [.lit (.slice none 0 0)]⟩], none⟩
theorem t240 : Tab2Ok Tryz.prog [⟨f239, [0, 1, 2, 3, 4, 5, 6], []⟩] := fun x hx => by
  simp only [List.mem_cons, List.not_mem_nil, or_false] at hx
  rcases hx with rfl
  · exact ⟨r239, x239, by kernel_rfl⟩
set_option maxRecDepth 1000000 in
theorem q240 : evEnt Tryz.prog 417 100000 [] [⟨f239, [0, 1, 2, 3, 4, 5, 6], []⟩] 60 f240 = true := by kernel_rfl
theorem r240 : FEntOk Tryz.prog f240 := fent_of_ev none_ok t240 mixed (fnsOk_of 417 fns) rfl q240
theorem x240 : fitE f240 = true := by kernel_rfl
noncomputable def f241 : FEnt := ⟨18, [.agg [.lit (.slice none 0 0), .lit (.slice none 0 0), .slr 0 0 2 0, .int .i64 (0)], .int .i64 (1), .agg [.int .i64 (-1), .lit (.slice none 0 0)]], 10, 1, i55, .tup [.agg [.lit (.slice none 0 0), .lit (.slice none 0 0), .slr 712 0 2 0, .int .i64 (0)], .sl 713 0 1 1, .int .i64 (0)], 704, 6, [⟨712, 6, [.lit (.string (bs [102])), .int .i64 (0), .int .i64 (8), .bool false, .lit (.slice none 0 0), .slr 673 0 6 0, .lit (.string (bs [103])), .int .i64 (1), .int .i64 (2), .bool true, .lit (.slice none 0 0), .slr 416 0 1 0]⟩, ⟨713, 0, [.int .i64 (2), .int .i64 (0), .int .i64 (1), .int .i64 (0), .int .i64 (-1)]⟩, ⟨673, 6, [.slr 678 0 1 0, .int .i64 (1), .int .i64 (0), .int .i64 (0), .int .i64 (1), .int .i64 (0), .lit (.slice none 0 0), .int .i64 (1), .int .i64 (0), .int .i64 (0), .int .i64 (3), .int .i64 (0), .slr 683 0 1 0, .int .i64 (3), .int .i64 (0), .int .i64 (0), .int .i64 (0), .int .i64 (0), .lit (.slice none 0 0), .int .i64 (1), .int .i64 (0), .int .i64 (0), .int .i64 (4), .int .i64 (0), .slr 698 0 3 0, .int .i64 (2), .int .i64 (7), .int .i64 (0), .int .i64 (5), .int .i64 (2), .slr 703 0 1 0, .int .i64 (1), .int .i64 (0), .int .i64 (0), .int .i64 (1), .int .i64 (0)]⟩, ⟨416, 6, [.lit (.slice none 0 0), .int .i64 (3), .int .i64 (0), .int .i64 (0), .int .i64 (0), .int .i64 (0)]⟩, ⟨678, 13, [.int .i64 (1), .int .i64 (0), .int .i64 (0), .int .i64 (-1), .int .i64 (0), .int .i64 (0), .int .i64 (0), .int .i64 (0), .int .i64 (0), .int .i64 (0), .lit (.slice none 0 0), .lit (.slice none 0 0), .lit (.slice none 0 0)]⟩, ⟨683, 13, [.int .i64 (8), .int .i64 (0), .int .i64 (-1), .int .i64 (-1), .int .i64 (5), .int .i64 (0), .int .i64 (0), .int .i64 (0), .int .i64 (0), .int .i64 (0), .lit (.slice none 0 0), .lit (.slice none 0 0), .lit (.slice none 0 0)]⟩, ⟨698, 13, [.int .i64 (8), .int .i64 (0), .int .i64 (-1), .int .i64 (0), .int .i64 (0), .int .i64 (0), .int .i64 (0), .int .i64 (0), .int .i64 (0), .int .i64 (0), .lit (.slice none 0 0), .lit (.slice none 0 0), .lit (.slice none 0 0), .int .i64 (2), .int .i64 (1), .int .i64 (6), .int .i64 (0), .int .i64 (0), .int .i64 (-1), .int .i64 (1), .int .i64 (0), .int .i64 (0), .int .i64 (0), .lit (.slice none 0 0), .lit (.slice none 0 0), .lit (.slice none 0 0), .int .i64 (2), .int .i64 (13), .int .i64 (7), .int .i64 (6), .int .i64 (0), .int .i64 (-1), .int .i64 (3), .int .i64 (0), .int .i64 (0), .int .i64 (0), .lit (.slice none 0 0), .lit (.slice none 0 0), .lit (.slice none 0 0)]⟩, ⟨703, 13, [.int .i64 (1), .int .i64 (0), .int .i64 (0), .int .i64 (6), .int .i64 (0), .int .i64 (0), .int .i64 (0), .int .i64 (0), .int .i64 (0), .int .i64 (0), .lit (.slice none 0 0), .lit (.slice none 0 0), .lit (.slice none 0 0)]⟩], none⟩
theorem t241 : Tab2Ok Tryz.prog [⟨f237, [0, 1, 2, 3, 4, 5, 6, 7, 8, 9], [0]⟩, ⟨f238, [0, 1, 2, 3, 4, 5, 6, 7, 8, 9], [0]⟩, ⟨f240, [467, 428, 416, 433, 438, 453, 458], []⟩] := fun x hx => by
  simp only [List.mem_cons, List.not_mem_nil, or_false] at hx
  rcases hx with rfl | rfl | rfl
  · exact ⟨r237, x237, by kernel_rfl⟩
  · exact ⟨r238, x238, by kernel_rfl⟩
  · exact ⟨r240, x240, by kernel_rfl⟩
set_option maxRecDepth 1000000 in
theorem q241 : evEnt Tryz.prog 417 100000 [] [⟨f237, [0, 1, 2, 3, 4, 5, 6, 7, 8, 9], [0]⟩, ⟨f238, [0, 1, 2, 3, 4, 5, 6, 7, 8, 9], [0]⟩, ⟨f240, [467, 428, 416, 433, 438, 453, 458], []⟩] 60 f241 = true := by kernel_rfl
theorem r241 : FEntOk Tryz.prog f241 := fent_of_ev none_ok t241 mixed (fnsOk_of 417 fns) rfl q241
theorem x241 : fitE f241 = true := by kernel_rfl
noncomputable def f242 : FEnt := ⟨70, [.agg [.lit (.slice none 0 0), .lit (.slice none 0 0), .slr 0 0 2 0, .int .i64 (0)], .int .i64 (0)], 7, 0, i59, .tup [.agg [.sl 184 0 6 6, .sl 185 0 6 6, .slr 232 0 6 0, .sl 186 0 6 6, .sl 187 0 6 6], .int .i64 (0)], 278, 0, [⟨184, 0, [.lit (.slice none 0 0), .slr 217 0 2 0, .slr 210 0 1 0, .slr 198 0 1 0, .slr 205 0 1 0, .slr 212 0 1 0]⟩, ⟨185, 0, [.sl 191 0 1 1, .sl 196 0 1 1, .lit (.slice none 0 0), .sl 203 0 1 1, .sl 208 0 2 2, .sl 215 0 1 1]⟩, ⟨232, 1, [.int .i64 (0), .int .i64 (1), .int .i64 (3), .int .i64 (4), .int .i64 (5), .int .i64 (2)]⟩, ⟨186, 0, [.int .i64 (-1), .int .i64 (0), .int .i64 (4), .int .i64 (1), .int .i64 (3), .int .i64 (4)]⟩, ⟨187, 0, [.lit (.slice none 0 0), .slr 277 0 1 0, .lit (.slice none 0 0), .slr 279 0 1 0, .slr 281 0 1 0, .slr 283 0 1 0]⟩, ⟨217, 1, [.int .i64 (0), .int .i64 (5)]⟩, ⟨210, 1, [.int .i64 (4)]⟩, ⟨198, 1, [.int .i64 (1)]⟩, ⟨205, 1, [.int .i64 (3)]⟩, ⟨212, 1, [.int .i64 (4)]⟩, ⟨191, 0, [.int .i64 (1)]⟩, ⟨196, 0, [.int .i64 (3)]⟩, ⟨203, 0, [.int .i64 (4)]⟩, ⟨208, 0, [.int .i64 (2), .int .i64 (5)]⟩, ⟨215, 0, [.int .i64 (1)]⟩, ⟨277, 1, [.int .i64 (1)]⟩, ⟨279, 1, [.int .i64 (1)]⟩, ⟨281, 1, [.int .i64 (1)]⟩, ⟨283, 1, [.int .i64 (1)]⟩], none⟩
theorem t242 : Tab2Ok Tryz.prog [⟨f239, [0, 1, 2, 3, 4, 5, 6], []⟩, ⟨f3, [], []⟩, ⟨f4, [], []⟩, ⟨f31, [], []⟩, ⟨f32, [], []⟩, ⟨f33, [], []⟩, ⟨f227, [], []⟩] := fun x hx => by
  simp only [List.mem_cons, List.not_mem_nil, or_false] at hx
  rcases hx with rfl | rfl | rfl | rfl | rfl | rfl | rfl
  · exact ⟨r239, x239, by kernel_rfl⟩
  · exact ⟨r3, x3, by kernel_rfl⟩
  · exact ⟨r4, x4, by kernel_rfl⟩
  · exact ⟨r31, x31, by kernel_rfl⟩
  · exact ⟨r32, x32, by kernel_rfl⟩
  · exact ⟨r33, x33, by kernel_rfl⟩
  · exact ⟨r227, x227, by kernel_rfl⟩
set_option maxRecDepth 1000000 in
theorem q242 : evEnt Tryz.prog 417 100000 [] [⟨f239, [0, 1, 2, 3, 4, 5, 6], []⟩, ⟨f3, [], []⟩, ⟨f4, [], []⟩, ⟨f31, [], []⟩, ⟨f32, [], []⟩, ⟨f33, [], []⟩, ⟨f227, [], []⟩] 60 f242 = true := by kernel_rfl
theorem r242 : FEntOk Tryz.prog f242 := fent_of_ev none_ok t242 mixed (fnsOk_of 417 fns) rfl q242
theorem x242 : fitE f242 = true := by kernel_rfl
noncomputable def f243 : FEnt := ⟨14, [.agg [.lit (.slice none 0 0), .lit (.slice none 0 0), .slr 0 0 2 0, .int .i64 (0)], .int .i64 (0), .agg [.int .i64 (-1), .lit (.slice none 0 0)]], 7, 0, i59, .tup [.agg [.lit (.slice none 0 0), .lit (.slice none 0 0), .slr 1925 0 2 0, .int .i64 (0)], .sl 1926 0 1 1, .int .i64 (0)], 1920, 0, [⟨1925, 6, [.lit (.string (bs [102])), .int .i64 (0), .int .i64 (3), .bool false, .lit (.slice none 0 0), .sl 1794 0 4 4, .lit (.string (bs [103])), .int .i64 (1), .int .i64 (2), .bool true, .lit (.slice none 0 0), .slr 1923 0 1 0]⟩, ⟨1926, 0, [.int .i64 (3), .int .i64 (0), .int .i64 (0), .int .i64 (0), .int .i64 (-1)]⟩, ⟨1794, 0, [.slr 1768 0 1 0, .int .i64 (1), .int .i64 (0), .int .i64 (0), .int .i64 (1), .int .i64 (0), .slr 1783 0 3 0, .int .i64 (2), .int .i64 (2), .int .i64 (0), .int .i64 (2), .int .i64 (3), .slr 1793 0 1 0, .int .i64 (1), .int .i64 (0), .int .i64 (0), .int .i64 (1), .int .i64 (0), .slr 1788 0 1 0, .int .i64 (3), .int .i64 (0), .int .i64 (0), .int .i64 (0), .int .i64 (0)]⟩, ⟨1923, 6, [.lit (.slice none 0 0), .int .i64 (3), .int .i64 (0), .int .i64 (0), .int .i64 (0), .int .i64 (0)]⟩, ⟨1768, 13, [.int .i64 (1), .int .i64 (0), .int .i64 (0), .int .i64 (-1), .int .i64 (0), .int .i64 (0), .int .i64 (0), .int .i64 (0), .int .i64 (0), .int .i64 (0), .lit (.slice none 0 0), .lit (.slice none 0 0), .lit (.slice none 0 0)]⟩, ⟨1783, 13, [.int .i64 (8), .int .i64 (0), .int .i64 (-1), .int .i64 (0), .int .i64 (0), .int .i64 (0), .int .i64 (0), .int .i64 (0), .int .i64 (0), .int .i64 (0), .lit (.slice none 0 0), .lit (.slice none 0 0), .lit (.slice none 0 0), .int .i64 (2), .int .i64 (1), .int .i64 (1), .int .i64 (0), .int .i64 (0), .int .i64 (-1), .int .i64 (1), .int .i64 (0), .int .i64 (0), .int .i64 (0), .lit (.slice none 0 0), .lit (.slice none 0 0), .lit (.slice none 0 0), .int .i64 (2), .int .i64 (13), .int .i64 (2), .int .i64 (1), .int .i64 (0), .int .i64 (-1), .int .i64 (3), .int .i64 (0), .int .i64 (0), .int .i64 (0), .lit (.slice none 0 0), .lit (.slice none 0 0), .lit (.slice none 0 0)]⟩, ⟨1793, 13, [.int .i64 (1), .int .i64 (0), .int .i64 (0), .int .i64 (1), .int .i64 (0), .int .i64 (0), .int .i64 (0), .int .i64 (0), .int .i64 (0), .int .i64 (0), .lit (.slice none 0 0), .lit (.slice none 0 0), .lit (.slice none 0 0)]⟩, ⟨1788, 13, [.int .i64 (8), .int .i64 (0), .int .i64 (-1), .int .i64 (-1), .int .i64 (5), .int .i64 (0), .int .i64 (0), .int .i64 (0), .int .i64 (0), .int .i64 (0), .lit (.slice none 0 0), .lit (.slice none 0 0), .lit (.slice none 0 0)]⟩], none⟩
theorem t243 : Tab2Ok Tryz.prog [⟨f242, [0, 1, 2, 3, 4, 5, 6], []⟩, ⟨f242, [344, 1, 342, 3, 4, 5, 6], []⟩, ⟨f230, [729, 660, 727, 634, 639, 654, 659], []⟩, ⟨f232, [1128, 1063, 1126, 1037, 1042, 1057, 1062], []⟩, ⟨f234, [1521, 1458, 1519, 1417, 1432, 1437, 1457], []⟩] := fun x hx => by
  simp only [List.mem_cons, List.not_mem_nil, or_false] at hx
  rcases hx with rfl | rfl | rfl | rfl | rfl
  · exact ⟨r242, x242, by kernel_rfl⟩
  · exact ⟨r242, x242, by kernel_rfl⟩
  · exact ⟨r230, x230, by kernel_rfl⟩
  · exact ⟨r232, x232, by kernel_rfl⟩
  · exact ⟨r234, x234, by kernel_rfl⟩
set_option maxRecDepth 1000000 in
theorem q243 : evEnt Tryz.prog 417 100000 [] [⟨f242, [0, 1, 2, 3, 4, 5, 6], []⟩, ⟨f242, [344, 1, 342, 3, 4, 5, 6], []⟩, ⟨f230, [729, 660, 727, 634, 639, 654, 659], []⟩, ⟨f232, [1128, 1063, 1126, 1037, 1042, 1057, 1062], []⟩, ⟨f234, [1521, 1458, 1519, 1417, 1432, 1437, 1457], []⟩] 60 f243 = true := by kernel_rfl
theorem r243 : FEntOk Tryz.prog f243 := fent_of_ev none_ok t243 mixed (fnsOk_of 417 fns) rfl q243
theorem x243 : fitE f243 = true := by kernel_rfl
noncomputable def f244 : FEnt := ⟨12, [.agg [.lit (.slice none 0 0), .lit (.slice none 0 0), .slr 0 0 2 0, .int .i64 (0)], .agg [.int .i64 (-1), .lit (.slice none 0 0)]], 7, 0, i59, .int .i64 (0), 1923, 0, [], none⟩
theorem t244 : Tab2Ok Tryz.prog [⟨f243, [0, 1, 2, 3, 4, 5, 6], []⟩] := fun x hx => by
  simp only [List.mem_cons, List.not_mem_nil, or_false] at hx
  rcases hx with rfl
  · exact ⟨r243, x243, by kernel_rfl⟩
set_option maxRecDepth 1000000 in
theorem q244 : evEnt Tryz.prog 417 100000 [] [⟨f243, [0, 1, 2, 3, 4, 5, 6], []⟩] 60 f244 = true := by kernel_rfl
theorem r244 : FEntOk Tryz.prog f244 := fent_of_ev none_ok t244 mixed (fnsOk_of 417 fns) rfl q244
theorem x244 : fitE f244 = true := by kernel_rfl
noncomputable def f245 : FEnt := ⟨180, [.agg [.lit (.slice none 0 0), .lit (.slice none 0 0), .slr 0 0 2 0, .int .i64 (0)]], 7, 0, i60, .int .i64 (0), 156, 0, [], none⟩
theorem t245 : Tab2Ok Tryz.prog [] := fun x hx => by cases hx
set_option maxRecDepth 1000000 in
theorem q245 : evEnt Tryz.prog 417 100000 [] [] 60 f245 = true := by kernel_rfl
theorem r245 : FEntOk Tryz.prog f245 := fent_of_ev none_ok t245 mixed (fnsOk_of 417 fns) rfl q245
theorem x245 : fitE f245 = true := by kernel_rfl
noncomputable def f246 : FEnt := ⟨70, [.agg [.lit (.slice none 0 0), .lit (.slice none 0 0), .slr 0 0 2 0, .int .i64 (0)], .int .i64 (0)], 7, 0, i60, .tup [.agg [.sl 168 0 4 4, .sl 169 0 4 4, .slr 202 0 4 0, .sl 170 0 4 4, .sl 171 0 4 4], .int .i64 (0)], 222, 0, [⟨168, 0, [.lit (.slice none 0 0), .slr 189 0 2 0, .slr 182 0 1 0, .slr 184 0 1 0]⟩, ⟨169, 0, [.sl 175 0 1 1, .sl 180 0 2 2, .sl 187 0 1 1, .lit (.slice none 0 0)]⟩, ⟨202, 1, [.int .i64 (0), .int .i64 (1), .int .i64 (3), .int .i64 (2)]⟩, ⟨170, 0, [.int .i64 (-1), .int .i64 (0), .int .i64 (1), .int .i64 (1)]⟩, ⟨171, 0, [.lit (.slice none 0 0), .slr 225 0 1 0, .slr 227 0 1 0, .lit (.slice none 0 0)]⟩, ⟨189, 1, [.int .i64 (0), .int .i64 (2)]⟩, ⟨182, 1, [.int .i64 (1)]⟩, ⟨184, 1, [.int .i64 (1)]⟩, ⟨175, 0, [.int .i64 (1)]⟩, ⟨180, 0, [.int .i64 (2), .int .i64 (3)]⟩, ⟨187, 0, [.int .i64 (1)]⟩, ⟨225, 1, [.int .i64 (1)]⟩, ⟨227, 1, [.int .i64 (1)]⟩], none⟩
theorem t246 : Tab2Ok Tryz.prog [⟨f245, [0, 1, 2, 3, 4, 5, 6], []⟩, ⟨f3, [], []⟩, ⟨f4, [], []⟩, ⟨f5, [], []⟩, ⟨f32, [], []⟩] := fun x hx => by
  simp only [List.mem_cons, List.not_mem_nil, or_false] at hx
  rcases hx with rfl | rfl | rfl | rfl | rfl
  · exact ⟨r245, x245, by kernel_rfl⟩
  · exact ⟨r3, x3, by kernel_rfl⟩
  · exact ⟨r4, x4, by kernel_rfl⟩
  · exact ⟨r5, x5, by kernel_rfl⟩
  · exact ⟨r32, x32, by kernel_rfl⟩
set_option maxRecDepth 1000000 in
theorem q246 : evEnt Tryz.prog 417 100000 [] [⟨f245, [0, 1, 2, 3, 4, 5, 6], []⟩, ⟨f3, [], []⟩, ⟨f4, [], []⟩, ⟨f5, [], []⟩, ⟨f32, [], []⟩] 60 f246 = true := by kernel_rfl
theorem r246 : FEntOk Tryz.prog f246 := fent_of_ev none_ok t246 mixed (fnsOk_of 417 fns) rfl q246
theorem x246 : fitE f246 = true := by kernel_rfl
end Go.Proofs.YtbkgehknhjkaoaaGreatDoor.Pipe
