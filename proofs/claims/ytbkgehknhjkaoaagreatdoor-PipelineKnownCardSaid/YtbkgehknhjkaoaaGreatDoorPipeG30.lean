/- Calls of the law's run: what each finds, hands back and lays. -/
import Derived.Test.YtbkgehknhjkaoaaGreatDoorPipeG1
import Derived.Test.YtbkgehknhjkaoaaGreatDoorPipeG5
import Derived.Test.YtbkgehknhjkaoaaGreatDoorPipeG29
namespace Go.Proofs.YtbkgehknhjkaoaaGreatDoor.Pipe
open Go Go.Proofs.YtbkgehknhjkaoaaGreatDoor.Ev
noncomputable def f192 : FEnt := ⟨48, [.agg [.lit (.slice none 0 0), .lit (.slice none 0 0), .slr 0 0 2 0, .int .i64 (0)], .int .i64 (1)], 11, 0, i41, .int .i64 (0), 291, 2, [], none⟩
theorem t192 : Tab2Ok Tryz.prog [⟨f190, [0, 1, 2, 3, 4, 5, 6, 7, 8, 9, 10], []⟩] := fun x hx => by
  simp only [List.mem_cons, List.not_mem_nil, or_false] at hx
  rcases hx with rfl
  · exact ⟨r190, x190, by kernel_rfl⟩
set_option maxRecDepth 1000000 in
theorem q192 : evEnt Tryz.prog 417 100000 [] [⟨f190, [0, 1, 2, 3, 4, 5, 6, 7, 8, 9, 10], []⟩] 60 f192 = true := by kernel_rfl
theorem r192 : FEntOk Tryz.prog f192 := fent_of_ev none_ok t192 mixed (fnsOk_of 417 fns) rfl q192
theorem x192 : fitE f192 = true := by kernel_rfl
noncomputable def f193 : FEnt := ⟨88, [.agg [.lit (.slice none 0 0), .lit (.slice none 0 0), .slr 0 0 2 0, .int .i64 (0)], .int .i64 (1), .agg [.int .i64 (-1), .lit (.slice none 0 0)]], 11, 0, i41, .tup [.agg [.lit (.slice none 0 0), .lit (.slice none 0 0), .slr 415 0 2 0, .int .i64 (0)], .lit (.slice none 0 0), .int .i64 (0)], 960, 6, [⟨415, 6, [.lit (.string (bs [102])), .int .i64 (0), .int .i64 (8), .bool false, .lit (.slice none 0 0), .slr 285 0 5 0, .lit (.string (bs [103])), .int .i64 (1), .int .i64 (2), .bool true, .lit (.slice none 0 0), .slr 408 0 1 0]⟩, ⟨285, 6, [.slr 295 0 2 0, .int .i64 (1), .int .i64 (0), .int .i64 (0), .int .i64 (1), .int .i64 (0), .slr 309 0 2 0, .int .i64 (1), .int .i64 (0), .int .i64 (0), .int .i64 (3), .int .i64 (0), .slr 314 0 1 0, .int .i64 (3), .int .i64 (0), .int .i64 (0), .int .i64 (0), .int .i64 (0), .slr 324 0 2 0, .int .i64 (1), .int .i64 (0), .int .i64 (0), .int .i64 (4), .int .i64 (0), .slr 339 0 3 0, .int .i64 (2), .int .i64 (7), .int .i64 (0), .int .i64 (1), .int .i64 (2)]⟩, ⟨408, 6, [.slr 413 0 1 0, .int .i64 (3), .int .i64 (0), .int .i64 (0), .int .i64 (0), .int .i64 (0)]⟩, ⟨295, 13, [.int .i64 (1), .int .i64 (0), .int .i64 (1), .int .i64 (-1), .int .i64 (5), .int .i64 (0), .int .i64 (0), .int .i64 (0), .int .i64 (0), .int .i64 (0), .lit (.slice none 0 0), .lit (.slice none 0 0), .lit (.slice none 0 0), .int .i64 (1), .int .i64 (0), .int .i64 (3), .int .i64 (-1), .int .i64 (0), .int .i64 (0), .int .i64 (0), .int .i64 (0), .int .i64 (0), .int .i64 (0), .lit (.slice none 0 0), .lit (.slice none 0 0), .lit (.slice none 0 0)]⟩, ⟨309, 13, [.int .i64 (10), .int .i64 (0), .int .i64 (0), .int .i64 (0), .int .i64 (0), .int .i64 (0), .int .i64 (0), .int .i64 (0), .int .i64 (0), .int .i64 (0), .slr 300 0 2 0, .lit (.slice none 0 0), .slr 302 0 2 0, .int .i64 (1), .int .i64 (0), .int .i64 (2), .int .i64 (0), .int .i64 (0), .int .i64 (0), .int .i64 (0), .int .i64 (0), .int .i64 (0), .int .i64 (0), .lit (.slice none 0 0), .lit (.slice none 0 0), .lit (.slice none 0 0)]⟩, ⟨314, 13, [.int .i64 (8), .int .i64 (0), .int .i64 (-1), .int .i64 (-1), .int .i64 (5), .int .i64 (0), .int .i64 (0), .int .i64 (0), .int .i64 (0), .int .i64 (0), .lit (.slice none 0 0), .lit (.slice none 0 0), .lit (.slice none 0 0)]⟩, ⟨324, 13, [.int .i64 (1), .int .i64 (0), .int .i64 (4), .int .i64 (0), .int .i64 (0), .int .i64 (0), .int .i64 (0), .int .i64 (0), .int .i64 (0), .int .i64 (0), .lit (.slice none 0 0), .lit (.slice none 0 0), .lit (.slice none 0 0), .int .i64 (1), .int .i64 (0), .int .i64 (5), .int .i64 (0), .int .i64 (0), .int .i64 (0), .int .i64 (0), .int .i64 (0), .int .i64 (0), .int .i64 (0), .lit (.slice none 0 0), .lit (.slice none 0 0), .lit (.slice none 0 0)]⟩, ⟨339, 13, [.int .i64 (8), .int .i64 (0), .int .i64 (-1), .int .i64 (0), .int .i64 (0), .int .i64 (0), .int .i64 (0), .int .i64 (0), .int .i64 (0), .int .i64 (0), .lit (.slice none 0 0), .lit (.slice none 0 0), .lit (.slice none 0 0), .int .i64 (2), .int .i64 (1), .int .i64 (6), .int .i64 (0), .int .i64 (0), .int .i64 (-1), .int .i64 (1), .int .i64 (0), .int .i64 (0), .int .i64 (0), .lit (.slice none 0 0), .lit (.slice none 0 0), .lit (.slice none 0 0), .int .i64 (2), .int .i64 (13), .int .i64 (7), .int .i64 (6), .int .i64 (0), .int .i64 (-1), .int .i64 (3), .int .i64 (0), .int .i64 (0), .int .i64 (0), .lit (.slice none 0 0), .lit (.slice none 0 0), .lit (.slice none 0 0)]⟩, ⟨413, 13, [.int .i64 (1), .int .i64 (0), .int .i64 (1), .int .i64 (0), .int .i64 (0), .int .i64 (0), .int .i64 (0), .int .i64 (0), .int .i64 (0), .int .i64 (0), .lit (.slice none 0 0), .lit (.slice none 0 0), .lit (.slice none 0 0)]⟩, ⟨300, 2, [.int .i64 (-1), .int .i64 (0), .int .i64 (6), .int .i64 (0)]⟩, ⟨302, 1, [.int .i64 (0), .int .i64 (4)]⟩], none⟩
theorem t193 : Tab2Ok Tryz.prog [⟨f191, [0, 1, 2, 3, 4, 5, 6, 7, 8, 9, 10], []⟩, ⟨f192, [415, 285, 408, 295, 309, 314, 324, 339, 413, 300, 302], []⟩, ⟨f190, [415, 285, 408, 295, 309, 314, 324, 339, 413, 300, 302], []⟩] := fun x hx => by
  simp only [List.mem_cons, List.not_mem_nil, or_false] at hx
  rcases hx with rfl | rfl | rfl
  · exact ⟨r191, x191, by kernel_rfl⟩
  · exact ⟨r192, x192, by kernel_rfl⟩
  · exact ⟨r190, x190, by kernel_rfl⟩
set_option maxRecDepth 1000000 in
theorem q193 : evEnt Tryz.prog 417 100000 [] [⟨f191, [0, 1, 2, 3, 4, 5, 6, 7, 8, 9, 10], []⟩, ⟨f192, [415, 285, 408, 295, 309, 314, 324, 339, 413, 300, 302], []⟩, ⟨f190, [415, 285, 408, 295, 309, 314, 324, 339, 413, 300, 302], []⟩] 60 f193 = true := by kernel_rfl
theorem r193 : FEntOk Tryz.prog f193 := fent_of_ev none_ok t193 mixed (fnsOk_of 417 fns) rfl q193
theorem x193 : fitE f193 = true := by kernel_rfl
noncomputable def f194 : FEnt := ⟨180, [.agg [.lit (.slice none 0 0), .lit (.slice none 0 0), .slr 0 0 2 0, .int .i64 (0)]], 11, 0, i45, .int .i64 (0), 179, 0, [], none⟩
theorem t194 : Tab2Ok Tryz.prog [] := fun x hx => by cases hx
set_option maxRecDepth 1000000 in
theorem q194 : evEnt Tryz.prog 417 100000 [] [] 60 f194 = true := by kernel_rfl
theorem r194 : FEntOk Tryz.prog f194 := fent_of_ev none_ok t194 mixed (fnsOk_of 417 fns) rfl q194
theorem x194 : fitE f194 = true := by kernel_rfl
noncomputable def f195 : FEnt := ⟨70, [.agg [.lit (.slice none 0 0), .lit (.slice none 0 0), .slr 0 0 2 0, .int .i64 (0)], .int .i64 (0)], 11, 0, i45, .tup [.agg [.sl 195 0 5 5, .sl 196 0 5 5, .slr 236 0 5 0, .sl 197 0 5 5, .sl 198 0 5 5], .int .i64 (0)], 264, 0, [⟨195, 0, [.lit (.slice none 0 0), .slr 221 0 2 0, .slr 223 0 1 0, .slr 209 0 1 0, .slr 216 0 1 0]⟩, ⟨196, 0, [.sl 202 0 1 1, .sl 207 0 1 1, .lit (.slice none 0 0), .sl 214 0 1 1, .sl 219 0 2 2]⟩, ⟨236, 1, [.int .i64 (0), .int .i64 (1), .int .i64 (3), .int .i64 (4), .int .i64 (2)]⟩, ⟨197, 0, [.int .i64 (-1), .int .i64 (0), .int .i64 (4), .int .i64 (1), .int .i64 (3)]⟩, ⟨198, 0, [.lit (.slice none 0 0), .slr 269 0 1 0, .lit (.slice none 0 0), .slr 271 0 1 0, .slr 273 0 1 0]⟩, ⟨221, 1, [.int .i64 (0), .int .i64 (4)]⟩, ⟨223, 1, [.int .i64 (4)]⟩, ⟨209, 1, [.int .i64 (1)]⟩, ⟨216, 1, [.int .i64 (3)]⟩, ⟨202, 0, [.int .i64 (1)]⟩, ⟨207, 0, [.int .i64 (3)]⟩, ⟨214, 0, [.int .i64 (4)]⟩, ⟨219, 0, [.int .i64 (1), .int .i64 (2)]⟩, ⟨269, 1, [.int .i64 (1)]⟩, ⟨271, 1, [.int .i64 (1)]⟩, ⟨273, 1, [.int .i64 (1)]⟩], none⟩
theorem t195 : Tab2Ok Tryz.prog [⟨f194, [0, 1, 2, 3, 4, 5, 6, 7, 8, 9, 10], []⟩, ⟨f3, [], []⟩, ⟨f4, [], []⟩, ⟨f31, [], []⟩, ⟨f32, [], []⟩, ⟨f33, [], []⟩] := fun x hx => by
  simp only [List.mem_cons, List.not_mem_nil, or_false] at hx
  rcases hx with rfl | rfl | rfl | rfl | rfl | rfl
  · exact ⟨r194, x194, by kernel_rfl⟩
  · exact ⟨r3, x3, by kernel_rfl⟩
  · exact ⟨r4, x4, by kernel_rfl⟩
  · exact ⟨r31, x31, by kernel_rfl⟩
  · exact ⟨r32, x32, by kernel_rfl⟩
  · exact ⟨r33, x33, by kernel_rfl⟩
set_option maxRecDepth 1000000 in
theorem q195 : evEnt Tryz.prog 417 100000 [] [⟨f194, [0, 1, 2, 3, 4, 5, 6, 7, 8, 9, 10], []⟩, ⟨f3, [], []⟩, ⟨f4, [], []⟩, ⟨f31, [], []⟩, ⟨f32, [], []⟩, ⟨f33, [], []⟩] 60 f195 = true := by kernel_rfl
theorem r195 : FEntOk Tryz.prog f195 := fent_of_ev none_ok t195 mixed (fnsOk_of 417 fns) rfl q195
theorem x195 : fitE f195 = true := by kernel_rfl
noncomputable def f196 : FEnt := ⟨87, [.agg [.lit (.slice none 0 0), .lit (.slice none 0 0), .slr 0 0 2 0, .int .i64 (0)], .int .i64 (0), .agg [.int .i64 (-1), .lit (.slice none 0 0)]], 11, 0, i41, .tup [.agg [.lit (.slice none 0 0), .lit (.slice none 0 0), .slr 479 0 2 0, .int .i64 (0)], .slr 1189 0 5 0, .int .i64 (0)], 1740, 3, [⟨479, 6, [.lit (.string (bs [102])), .int .i64 (0), .int .i64 (8), .bool false, .lit (.slice none 0 0), .slr 349 0 5 0, .lit (.string (bs [103])), .int .i64 (1), .int .i64 (2), .bool true, .lit (.slice none 0 0), .slr 472 0 1 0]⟩, ⟨1189, 5, [.int .i64 (6), .int .i64 (1), .int .i64 (0), .int .i64 (3), .int .i64 (1), .int .i64 (6), .int .i64 (1), .int .i64 (0), .int .i64 (3), .int .i64 (0), .int .i64 (6), .int .i64 (1), .int .i64 (0), .int .i64 (1), .int .i64 (1), .int .i64 (6), .int .i64 (1), .int .i64 (0), .int .i64 (0), .int .i64 (1), .int .i64 (6), .int .i64 (1), .int .i64 (0), .int .i64 (0), .int .i64 (0)]⟩, ⟨349, 6, [.slr 359 0 0 0, .int .i64 (1), .int .i64 (0), .int .i64 (0), .int .i64 (1), .int .i64 (0), .slr 373 0 1 0, .int .i64 (1), .int .i64 (0), .int .i64 (0), .int .i64 (3), .int .i64 (0), .slr 378 0 1 0, .int .i64 (3), .int .i64 (0), .int .i64 (0), .int .i64 (0), .int .i64 (0), .slr 388 0 0 0, .int .i64 (1), .int .i64 (0), .int .i64 (0), .int .i64 (4), .int .i64 (0), .slr 403 0 3 0, .int .i64 (2), .int .i64 (7), .int .i64 (0), .int .i64 (1), .int .i64 (2)]⟩, ⟨472, 6, [.slr 477 0 1 0, .int .i64 (3), .int .i64 (0), .int .i64 (0), .int .i64 (0), .int .i64 (0)]⟩, ⟨359, 13, [.int .i64 (0), .int .i64 (0), .int .i64 (0), .int .i64 (0), .int .i64 (0), .int .i64 (0), .int .i64 (0), .int .i64 (0), .int .i64 (0), .int .i64 (0), .lit (.slice none 0 0), .lit (.slice none 0 0), .lit (.slice none 0 0), .int .i64 (0), .int .i64 (0), .int .i64 (0), .int .i64 (0), .int .i64 (0), .int .i64 (0), .int .i64 (0), .int .i64 (0), .int .i64 (0), .int .i64 (0), .lit (.slice none 0 0), .lit (.slice none 0 0), .lit (.slice none 0 0)]⟩, ⟨373, 13, [.int .i64 (10), .int .i64 (0), .int .i64 (0), .int .i64 (0), .int .i64 (0), .int .i64 (0), .int .i64 (0), .int .i64 (0), .int .i64 (0), .int .i64 (0), .slr 364 0 2 0, .lit (.slice none 0 0), .slr 366 0 2 0, .int .i64 (0), .int .i64 (0), .int .i64 (0), .int .i64 (0), .int .i64 (0), .int .i64 (0), .int .i64 (0), .int .i64 (0), .int .i64 (0), .int .i64 (0), .lit (.slice none 0 0), .lit (.slice none 0 0), .lit (.slice none 0 0)]⟩, ⟨378, 13, [.int .i64 (8), .int .i64 (0), .int .i64 (-1), .int .i64 (-1), .int .i64 (5), .int .i64 (0), .int .i64 (0), .int .i64 (0), .int .i64 (0), .int .i64 (0), .lit (.slice none 0 0), .lit (.slice none 0 0), .lit (.slice none 0 0)]⟩, ⟨388, 13, [.int .i64 (0), .int .i64 (0), .int .i64 (0), .int .i64 (0), .int .i64 (0), .int .i64 (0), .int .i64 (0), .int .i64 (0), .int .i64 (0), .int .i64 (0), .lit (.slice none 0 0), .lit (.slice none 0 0), .lit (.slice none 0 0), .int .i64 (0), .int .i64 (0), .int .i64 (0), .int .i64 (0), .int .i64 (0), .int .i64 (0), .int .i64 (0), .int .i64 (0), .int .i64 (0), .int .i64 (0), .lit (.slice none 0 0), .lit (.slice none 0 0), .lit (.slice none 0 0)]⟩, ⟨403, 13, [.int .i64 (8), .int .i64 (0), .int .i64 (-1), .int .i64 (0), .int .i64 (0), .int .i64 (0), .int .i64 (0), .int .i64 (0), .int .i64 (0), .int .i64 (0), .lit (.slice none 0 0), .lit (.slice none 0 0), .lit (.slice none 0 0), .int .i64 (2), .int .i64 (1), .int .i64 (6), .int .i64 (0), .int .i64 (0), .int .i64 (-1), .int .i64 (1), .int .i64 (0), .int .i64 (0), .int .i64 (0), .lit (.slice none 0 0), .lit (.slice none 0 0), .lit (.slice none 0 0), .int .i64 (2), .int .i64 (13), .int .i64 (7), .int .i64 (6), .int .i64 (0), .int .i64 (-1), .int .i64 (3), .int .i64 (0), .int .i64 (0), .int .i64 (0), .lit (.slice none 0 0), .lit (.slice none 0 0), .lit (.slice none 0 0)]⟩, ⟨477, 13, [.int .i64 (1), .int .i64 (0), .int .i64 (1), .int .i64 (0), .int .i64 (0), .int .i64 (0), .int .i64 (0), .int .i64 (0), .int .i64 (0), .int .i64 (0), .lit (.slice none 0 0), .lit (.slice none 0 0), .lit (.slice none 0 0)]⟩, ⟨364, 2, [.int .i64 (-1), .int .i64 (0), .int .i64 (6), .int .i64 (0)]⟩, ⟨366, 1, [.int .i64 (0), .int .i64 (4)]⟩], none⟩
theorem t196 : Tab2Ok Tryz.prog [⟨f187, [0, 1, 2, 3, 4, 5, 6, 7, 8, 9, 10], []⟩, ⟨f188, [479, 349, 472, 359, 373, 378, 388, 403, 477, 364, 366], []⟩, ⟨f195, [479, 349, 472, 359, 373, 378, 388, 403, 477, 364, 366], []⟩] := fun x hx => by
  simp only [List.mem_cons, List.not_mem_nil, or_false] at hx
  rcases hx with rfl | rfl | rfl
  · exact ⟨r187, x187, by kernel_rfl⟩
  · exact ⟨r188, x188, by kernel_rfl⟩
  · exact ⟨r195, x195, by kernel_rfl⟩
set_option maxRecDepth 1000000 in
theorem q196 : evEnt Tryz.prog 417 100000 [] [⟨f187, [0, 1, 2, 3, 4, 5, 6, 7, 8, 9, 10], []⟩, ⟨f188, [479, 349, 472, 359, 373, 378, 388, 403, 477, 364, 366], []⟩, ⟨f195, [479, 349, 472, 359, 373, 378, 388, 403, 477, 364, 366], []⟩] 60 f196 = true := by kernel_rfl
theorem r196 : FEntOk Tryz.prog f196 := fent_of_ev none_ok t196 mixed (fnsOk_of 417 fns) rfl q196
theorem x196 : fitE f196 = true := by kernel_rfl
noncomputable def f197 : FEnt := ⟨180, [.agg [.lit (.slice none 0 0), .lit (.slice none 0 0), .slr 0 0 2 0, .int .i64 (0)]], 9, 0, i46, .int .i64 (0), 179, 0, [], none⟩
theorem t197 : Tab2Ok Tryz.prog [] := fun x hx => by cases hx
set_option maxRecDepth 1000000 in
theorem q197 : evEnt Tryz.prog 417 100000 [] [] 60 f197 = true := by kernel_rfl
theorem r197 : FEntOk Tryz.prog f197 := fent_of_ev none_ok t197 mixed (fnsOk_of 417 fns) rfl q197
theorem x197 : fitE f197 = true := by kernel_rfl
noncomputable def f198 : FEnt := ⟨70, [.agg [.lit (.slice none 0 0), .lit (.slice none 0 0), .slr 0 0 2 0, .int .i64 (0)], .int .i64 (0)], 9, 0, i46, .tup [.agg [.sl 193 0 5 5, .sl 194 0 5 5, .slr 234 0 5 0, .sl 195 0 5 5, .sl 196 0 5 5], .int .i64 (0)], 264, 0, [⟨193, 0, [.lit (.slice none 0 0), .slr 219 0 2 0, .slr 221 0 1 0, .slr 207 0 1 0, .slr 214 0 1 0]⟩, ⟨194, 0, [.sl 200 0 1 1, .sl 205 0 1 1, .lit (.slice none 0 0), .sl 212 0 1 1, .sl 217 0 2 2]⟩, ⟨234, 1, [.int .i64 (0), .int .i64 (1), .int .i64 (3), .int .i64 (4), .int .i64 (2)]⟩, ⟨195, 0, [.int .i64 (-1), .int .i64 (0), .int .i64 (4), .int .i64 (1), .int .i64 (3)]⟩, ⟨196, 0, [.lit (.slice none 0 0), .slr 267 0 1 0, .lit (.slice none 0 0), .slr 269 0 1 0, .slr 271 0 1 0]⟩, ⟨219, 1, [.int .i64 (0), .int .i64 (4)]⟩, ⟨221, 1, [.int .i64 (4)]⟩, ⟨207, 1, [.int .i64 (1)]⟩, ⟨214, 1, [.int .i64 (3)]⟩, ⟨200, 0, [.int .i64 (1)]⟩, ⟨205, 0, [.int .i64 (3)]⟩, ⟨212, 0, [.int .i64 (4)]⟩, ⟨217, 0, [.int .i64 (1), .int .i64 (2)]⟩, ⟨267, 1, [.int .i64 (1)]⟩, ⟨269, 1, [.int .i64 (1)]⟩, ⟨271, 1, [.int .i64 (1)]⟩], none⟩
theorem t198 : Tab2Ok Tryz.prog [⟨f197, [0, 1, 2, 3, 4, 5, 6, 7, 8], []⟩, ⟨f3, [], []⟩, ⟨f4, [], []⟩, ⟨f31, [], []⟩, ⟨f32, [], []⟩, ⟨f33, [], []⟩] := fun x hx => by
  simp only [List.mem_cons, List.not_mem_nil, or_false] at hx
  rcases hx with rfl | rfl | rfl | rfl | rfl | rfl
  · exact ⟨r197, x197, by kernel_rfl⟩
  · exact ⟨r3, x3, by kernel_rfl⟩
  · exact ⟨r4, x4, by kernel_rfl⟩
  · exact ⟨r31, x31, by kernel_rfl⟩
  · exact ⟨r32, x32, by kernel_rfl⟩
  · exact ⟨r33, x33, by kernel_rfl⟩
set_option maxRecDepth 1000000 in
theorem q198 : evEnt Tryz.prog 417 100000 [] [⟨f197, [0, 1, 2, 3, 4, 5, 6, 7, 8], []⟩, ⟨f3, [], []⟩, ⟨f4, [], []⟩, ⟨f31, [], []⟩, ⟨f32, [], []⟩, ⟨f33, [], []⟩] 60 f198 = true := by kernel_rfl
theorem r198 : FEntOk Tryz.prog f198 := fent_of_ev none_ok t198 mixed (fnsOk_of 417 fns) rfl q198
theorem x198 : fitE f198 = true := by kernel_rfl
noncomputable def f199 : FEnt := ⟨180, [.agg [.lit (.slice none 0 0), .lit (.slice none 0 0), .slr 0 0 2 0, .int .i64 (0)]], 9, 0, i47, .int .i64 (0), 168, 0, [], none⟩
theorem t199 : Tab2Ok Tryz.prog [] := fun x hx => by cases hx
set_option maxRecDepth 1000000 in
theorem q199 : evEnt Tryz.prog 417 100000 [] [] 60 f199 = true := by kernel_rfl
theorem r199 : FEntOk Tryz.prog f199 := fent_of_ev none_ok t199 mixed (fnsOk_of 417 fns) rfl q199
theorem x199 : fitE f199 = true := by kernel_rfl
noncomputable def f200 : FEnt := ⟨70, [.agg [.lit (.slice none 0 0), .lit (.slice none 0 0), .slr 0 0 2 0, .int .i64 (0)], .int .i64 (0)], 9, 0, i47, .tup [.agg [.sl 182 0 4 4, .sl 183 0 4 4, .slr 216 0 4 0, .sl 184 0 4 4, .sl 185 0 4 4], .int .i64 (0)], 234, 0, [⟨182, 0, [.lit (.slice none 0 0), .slr 203 0 2 0, .slr 205 0 1 0, .slr 196 0 1 0]⟩, ⟨183, 0, [.sl 189 0 1 1, .sl 194 0 1 1, .lit (.slice none 0 0), .sl 201 0 2 2]⟩, ⟨216, 1, [.int .i64 (0), .int .i64 (1), .int .i64 (3), .int .i64 (2)]⟩, ⟨184, 0, [.int .i64 (-1), .int .i64 (0), .int .i64 (3), .int .i64 (1)]⟩, ⟨185, 0, [.lit (.slice none 0 0), .slr 239 0 1 0, .lit (.slice none 0 0), .slr 241 0 1 0]⟩, ⟨203, 1, [.int .i64 (0), .int .i64 (3)]⟩, ⟨205, 1, [.int .i64 (3)]⟩, ⟨196, 1, [.int .i64 (1)]⟩, ⟨189, 0, [.int .i64 (1)]⟩, ⟨194, 0, [.int .i64 (3)]⟩, ⟨201, 0, [.int .i64 (1), .int .i64 (2)]⟩, ⟨239, 1, [.int .i64 (1)]⟩, ⟨241, 1, [.int .i64 (1)]⟩], none⟩
theorem t200 : Tab2Ok Tryz.prog [⟨f199, [0, 1, 2, 3, 4, 5, 6, 7, 8], []⟩, ⟨f3, [], []⟩, ⟨f4, [], []⟩, ⟨f38, [], []⟩, ⟨f32, [], []⟩] := fun x hx => by
  simp only [List.mem_cons, List.not_mem_nil, or_false] at hx
  rcases hx with rfl | rfl | rfl | rfl | rfl
  · exact ⟨r199, x199, by kernel_rfl⟩
  · exact ⟨r3, x3, by kernel_rfl⟩
  · exact ⟨r4, x4, by kernel_rfl⟩
  · exact ⟨r38, x38, by kernel_rfl⟩
  · exact ⟨r32, x32, by kernel_rfl⟩
set_option maxRecDepth 1000000 in
theorem q200 : evEnt Tryz.prog 417 100000 [] [⟨f199, [0, 1, 2, 3, 4, 5, 6, 7, 8], []⟩, ⟨f3, [], []⟩, ⟨f4, [], []⟩, ⟨f38, [], []⟩, ⟨f32, [], []⟩] 60 f200 = true := by kernel_rfl
theorem r200 : FEntOk Tryz.prog f200 := fent_of_ev none_ok t200 mixed (fnsOk_of 417 fns) rfl q200
theorem x200 : fitE f200 = true := by kernel_rfl
end Go.Proofs.YtbkgehknhjkaoaaGreatDoor.Pipe
