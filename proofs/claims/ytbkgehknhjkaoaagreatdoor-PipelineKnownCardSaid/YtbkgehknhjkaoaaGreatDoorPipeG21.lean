/- Calls of the law's run: what each finds, hands back and lays. -/
import Derived.Test.YtbkgehknhjkaoaaGreatDoorPipeG1
import Derived.Test.YtbkgehknhjkaoaaGreatDoorPipeG5
import Derived.Test.YtbkgehknhjkaoaaGreatDoorPipeG19
import Derived.Test.YtbkgehknhjkaoaaGreatDoorPipeG20
namespace Go.Proofs.YtbkgehknhjkaoaaGreatDoor.Pipe
open Go Go.Proofs.YtbkgehknhjkaoaaGreatDoor.Ev
noncomputable def f131 : FEnt := ⟨14, [.agg [.lit (.slice none 0 0), .lit (.slice none 0 0), .slr 0 0 2 0, .int .i64 (0)], .int .i64 (0), .agg [.int .i64 (-1), .lit (.slice none 0 0)]], 10, 0, i27, .tup [.agg [.lit (.slice none 0 0), .lit (.slice none 0 0), .slr 2533 0 2 0, .int .i64 (0)], .sl 2534 0 1 1, .int .i64 (0)], 2525, 0, [⟨2533, 6, [.lit (.string (bs [102])), .int .i64 (0), .int .i64 (8), .bool false, .lit (.slice none 0 0), .sl 2315 0 3 3, .lit (.string (bs [103])), .int .i64 (1), .int .i64 (2), .bool true, .lit (.slice none 0 0), .slr 2526 0 1 0]⟩, ⟨2534, 0, [.int .i64 (3), .int .i64 (0), .int .i64 (0), .int .i64 (0), .int .i64 (-1)]⟩, ⟨2315, 0, [.lit (.slice none 0 0), .int .i64 (1), .int .i64 (0), .int .i64 (0), .int .i64 (1), .int .i64 (0), .slr 2309 0 9 0, .int .i64 (2), .int .i64 (7), .int .i64 (0), .int .i64 (1), .int .i64 (2), .slr 2314 0 1 0, .int .i64 (3), .int .i64 (0), .int .i64 (0), .int .i64 (0), .int .i64 (0)]⟩, ⟨2526, 6, [.slr 2531 0 1 0, .int .i64 (3), .int .i64 (1), .int .i64 (0), .int .i64 (0), .int .i64 (0)]⟩, ⟨2309, 13, [.int .i64 (10), .int .i64 (0), .int .i64 (1), .int .i64 (0), .int .i64 (0), .int .i64 (0), .int .i64 (0), .int .i64 (0), .int .i64 (0), .int .i64 (0), .slr 2345 0 2 0, .lit (.slice none 0 0), .slr 2335 0 2 0, .int .i64 (1), .int .i64 (0), .int .i64 (2), .int .i64 (-1), .int .i64 (5), .int .i64 (0), .int .i64 (0), .int .i64 (0), .int .i64 (0), .int .i64 (0), .lit (.slice none 0 0), .lit (.slice none 0 0), .lit (.slice none 0 0), .int .i64 (1), .int .i64 (0), .int .i64 (3), .int .i64 (1), .int .i64 (0), .int .i64 (0), .int .i64 (0), .int .i64 (0), .int .i64 (0), .int .i64 (0), .lit (.slice none 0 0), .lit (.slice none 0 0), .lit (.slice none 0 0), .int .i64 (1), .int .i64 (0), .int .i64 (4), .int .i64 (-1), .int .i64 (0), .int .i64 (0), .int .i64 (0), .int .i64 (0), .int .i64 (0), .int .i64 (0), .lit (.slice none 0 0), .lit (.slice none 0 0), .lit (.slice none 0 0), .int .i64 (1), .int .i64 (0), .int .i64 (5), .int .i64 (1), .int .i64 (0), .int .i64 (0), .int .i64 (0), .int .i64 (0), .int .i64 (0), .int .i64 (0), .lit (.slice none 0 0), .lit (.slice none 0 0), .lit (.slice none 0 0), .int .i64 (1), .int .i64 (0), .int .i64 (6), .int .i64 (5), .int .i64 (0), .int .i64 (0), .int .i64 (0), .int .i64 (0), .int .i64 (0), .int .i64 (0), .lit (.slice none 0 0), .lit (.slice none 0 0), .lit (.slice none 0 0), .int .i64 (8), .int .i64 (0), .int .i64 (-1), .int .i64 (5), .int .i64 (0), .int .i64 (0), .int .i64 (0), .int .i64 (0), .int .i64 (0), .int .i64 (0), .lit (.slice none 0 0), .lit (.slice none 0 0), .lit (.slice none 0 0), .int .i64 (2), .int .i64 (1), .int .i64 (0), .int .i64 (1), .int .i64 (0), .int .i64 (-1), .int .i64 (1), .int .i64 (0), .int .i64 (0), .int .i64 (0), .lit (.slice none 0 0), .lit (.slice none 0 0), .lit (.slice none 0 0), .int .i64 (2), .int .i64 (13), .int .i64 (7), .int .i64 (0), .int .i64 (0), .int .i64 (-1), .int .i64 (3), .int .i64 (0), .int .i64 (0), .int .i64 (0), .lit (.slice none 0 0), .lit (.slice none 0 0), .lit (.slice none 0 0)]⟩, ⟨2314, 13, [.int .i64 (8), .int .i64 (0), .int .i64 (-1), .int .i64 (-1), .int .i64 (5), .int .i64 (0), .int .i64 (0), .int .i64 (0), .int .i64 (0), .int .i64 (0), .lit (.slice none 0 0), .lit (.slice none 0 0), .lit (.slice none 0 0)]⟩, ⟨2531, 13, [.int .i64 (1), .int .i64 (0), .int .i64 (1), .int .i64 (0), .int .i64 (0), .int .i64 (0), .int .i64 (0), .int .i64 (0), .int .i64 (0), .int .i64 (0), .lit (.slice none 0 0), .lit (.slice none 0 0), .lit (.slice none 0 0)]⟩, ⟨2345, 2, [.int .i64 (-1), .int .i64 (0), .int .i64 (0), .int .i64 (0)]⟩, ⟨2335, 1, [.int .i64 (0), .int .i64 (1)]⟩], none⟩
theorem t131 : Tab2Ok Tryz.prog [⟨f124, [0, 1, 2, 3, 4, 5, 6, 7, 8, 9], []⟩, ⟨f124, [422, 1, 415, 3, 4, 5, 6, 420, 8, 9], []⟩, ⟨f126, [929, 808, 922, 777, 782, 792, 807, 927, 838, 828], []⟩, ⟨f128, [1466, 1350, 1459, 1319, 1324, 1349, 1464, 1380, 1370], []⟩, ⟨f130, [1976, 1863, 1969, 1842, 1847, 1974, 1893, 1883], []⟩] := fun x hx => by
  simp only [List.mem_cons, List.not_mem_nil, or_false] at hx
  rcases hx with rfl | rfl | rfl | rfl | rfl
  · exact ⟨r124, x124, by kernel_rfl⟩
  · exact ⟨r124, x124, by kernel_rfl⟩
  · exact ⟨r126, x126, by kernel_rfl⟩
  · exact ⟨r128, x128, by kernel_rfl⟩
  · exact ⟨r130, x130, by kernel_rfl⟩
set_option maxRecDepth 1000000 in
theorem q131 : evEnt Tryz.prog 417 100000 [] [⟨f124, [0, 1, 2, 3, 4, 5, 6, 7, 8, 9], []⟩, ⟨f124, [422, 1, 415, 3, 4, 5, 6, 420, 8, 9], []⟩, ⟨f126, [929, 808, 922, 777, 782, 792, 807, 927, 838, 828], []⟩, ⟨f128, [1466, 1350, 1459, 1319, 1324, 1349, 1464, 1380, 1370], []⟩, ⟨f130, [1976, 1863, 1969, 1842, 1847, 1974, 1893, 1883], []⟩] 60 f131 = true := by kernel_rfl
theorem r131 : FEntOk Tryz.prog f131 := fent_of_ev none_ok t131 mixed (fnsOk_of 417 fns) rfl q131
theorem x131 : fitE f131 = true := by kernel_rfl
noncomputable def f132 : FEnt := ⟨12, [.agg [.lit (.slice none 0 0), .lit (.slice none 0 0), .slr 0 0 2 0, .int .i64 (0)], .agg [.int .i64 (-1), .lit (.slice none 0 0)]], 10, 0, i27, .int .i64 (0), 2528, 0, [], none⟩
theorem t132 : Tab2Ok Tryz.prog [⟨f131, [0, 1, 2, 3, 4, 5, 6, 7, 8, 9], []⟩] := fun x hx => by
  simp only [List.mem_cons, List.not_mem_nil, or_false] at hx
  rcases hx with rfl
  · exact ⟨r131, x131, by kernel_rfl⟩
set_option maxRecDepth 1000000 in
theorem q132 : evEnt Tryz.prog 417 100000 [] [⟨f131, [0, 1, 2, 3, 4, 5, 6, 7, 8, 9], []⟩] 60 f132 = true := by kernel_rfl
theorem r132 : FEntOk Tryz.prog f132 := fent_of_ev none_ok t132 mixed (fnsOk_of 417 fns) rfl q132
theorem x132 : fitE f132 = true := by kernel_rfl
noncomputable def f133 : FEnt := ⟨14, [.agg [.lit (.slice none 0 0), .lit (.slice none 0 0), .slr 0 0 2 0, .int .i64 (0)], .int .i64 (0), .agg [.int .i64 (0), .lit (.slice none 0 0)]], 10, 0, i27, .tup [.agg [.lit (.slice none 0 0), .lit (.slice none 0 0), .slr 475 0 2 0, .int .i64 (0)], .lit (.slice none 0 0), .int .i64 (0)], 466, 0, [⟨475, 6, [.lit (.string (bs [102])), .int .i64 (0), .int .i64 (8), .bool false, .lit (.slice none 0 0), .slr 345 0 5 0, .lit (.string (bs [103])), .int .i64 (1), .int .i64 (2), .bool true, .lit (.slice none 0 0), .slr 468 0 1 0]⟩, ⟨345, 6, [.lit (.slice none 0 0), .int .i64 (1), .int .i64 (0), .int .i64 (0), .int .i64 (1), .int .i64 (0), .slr 369 0 4 0, .int .i64 (1), .int .i64 (0), .int .i64 (0), .int .i64 (3), .int .i64 (0), .slr 374 0 1 0, .int .i64 (3), .int .i64 (0), .int .i64 (0), .int .i64 (0), .int .i64 (0), .slr 384 0 2 0, .int .i64 (1), .int .i64 (0), .int .i64 (0), .int .i64 (4), .int .i64 (0), .slr 399 0 3 0, .int .i64 (2), .int .i64 (7), .int .i64 (0), .int .i64 (1), .int .i64 (2)]⟩, ⟨468, 6, [.slr 473 0 1 0, .int .i64 (3), .int .i64 (1), .int .i64 (0), .int .i64 (0), .int .i64 (0)]⟩, ⟨369, 13, [.int .i64 (10), .int .i64 (0), .int .i64 (0), .int .i64 (0), .int .i64 (0), .int .i64 (0), .int .i64 (0), .int .i64 (0), .int .i64 (0), .int .i64 (0), .slr 350 0 2 0, .lit (.slice none 0 0), .slr 352 0 2 0, .int .i64 (1), .int .i64 (0), .int .i64 (1), .int .i64 (-1), .int .i64 (5), .int .i64 (0), .int .i64 (0), .int .i64 (0), .int .i64 (0), .int .i64 (0), .lit (.slice none 0 0), .lit (.slice none 0 0), .lit (.slice none 0 0), .int .i64 (1), .int .i64 (0), .int .i64 (2), .int .i64 (0), .int .i64 (0), .int .i64 (0), .int .i64 (0), .int .i64 (0), .int .i64 (0), .int .i64 (0), .lit (.slice none 0 0), .lit (.slice none 0 0), .lit (.slice none 0 0), .int .i64 (1), .int .i64 (0), .int .i64 (3), .int .i64 (-1), .int .i64 (0), .int .i64 (0), .int .i64 (0), .int .i64 (0), .int .i64 (0), .int .i64 (0), .lit (.slice none 0 0), .lit (.slice none 0 0), .lit (.slice none 0 0)]⟩, ⟨374, 13, [.int .i64 (8), .int .i64 (0), .int .i64 (-1), .int .i64 (-1), .int .i64 (5), .int .i64 (0), .int .i64 (0), .int .i64 (0), .int .i64 (0), .int .i64 (0), .lit (.slice none 0 0), .lit (.slice none 0 0), .lit (.slice none 0 0)]⟩, ⟨384, 13, [.int .i64 (1), .int .i64 (0), .int .i64 (4), .int .i64 (0), .int .i64 (0), .int .i64 (0), .int .i64 (0), .int .i64 (0), .int .i64 (0), .int .i64 (0), .lit (.slice none 0 0), .lit (.slice none 0 0), .lit (.slice none 0 0), .int .i64 (1), .int .i64 (0), .int .i64 (5), .int .i64 (4), .int .i64 (0), .int .i64 (0), .int .i64 (0), .int .i64 (0), .int .i64 (0), .int .i64 (0), .lit (.slice none 0 0), .lit (.slice none 0 0), .lit (.slice none 0 0)]⟩, ⟨399, 13, [.int .i64 (8), .int .i64 (0), .int .i64 (-1), .int .i64 (4), .int .i64 (0), .int .i64 (0), .int .i64 (0), .int .i64 (0), .int .i64 (0), .int .i64 (0), .lit (.slice none 0 0), .lit (.slice none 0 0), .lit (.slice none 0 0), .int .i64 (2), .int .i64 (1), .int .i64 (6), .int .i64 (0), .int .i64 (0), .int .i64 (-1), .int .i64 (1), .int .i64 (0), .int .i64 (0), .int .i64 (0), .lit (.slice none 0 0), .lit (.slice none 0 0), .lit (.slice none 0 0), .int .i64 (2), .int .i64 (13), .int .i64 (7), .int .i64 (6), .int .i64 (0), .int .i64 (-1), .int .i64 (3), .int .i64 (0), .int .i64 (0), .int .i64 (0), .lit (.slice none 0 0), .lit (.slice none 0 0), .lit (.slice none 0 0)]⟩, ⟨473, 13, [.int .i64 (1), .int .i64 (0), .int .i64 (1), .int .i64 (0), .int .i64 (0), .int .i64 (0), .int .i64 (0), .int .i64 (0), .int .i64 (0), .int .i64 (0), .lit (.slice none 0 0), .lit (.slice none 0 0), .lit (.slice none 0 0)]⟩, ⟨350, 2, [.int .i64 (-1), .int .i64 (0), .int .i64 (6), .int .i64 (0)]⟩, ⟨352, 1, [.int .i64 (0), .int .i64 (4)]⟩], none⟩
theorem t133 : Tab2Ok Tryz.prog [⟨f124, [0, 1, 2, 3, 4, 5, 6, 7, 8, 9], []⟩] := fun x hx => by
  simp only [List.mem_cons, List.not_mem_nil, or_false] at hx
  rcases hx with rfl
  · exact ⟨r124, x124, by kernel_rfl⟩
set_option maxRecDepth 1000000 in
theorem q133 : evEnt Tryz.prog 417 100000 [] [⟨f124, [0, 1, 2, 3, 4, 5, 6, 7, 8, 9], []⟩] 60 f133 = true := by kernel_rfl
theorem r133 : FEntOk Tryz.prog f133 := fent_of_ev none_ok t133 mixed (fnsOk_of 417 fns) rfl q133
theorem x133 : fitE f133 = true := by kernel_rfl
noncomputable def f134 : FEnt := ⟨48, [.agg [.lit (.slice none 0 0), .lit (.slice none 0 0), .slr 0 0 2 0, .int .i64 (0)], .int .i64 (0)], 10, 0, i27, .int .i64 (0), 539, 0, [], none⟩
theorem t134 : Tab2Ok Tryz.prog [⟨f124, [0, 1, 2, 3, 4, 5, 6, 7, 8, 9], []⟩] := fun x hx => by
  simp only [List.mem_cons, List.not_mem_nil, or_false] at hx
  rcases hx with rfl
  · exact ⟨r124, x124, by kernel_rfl⟩
set_option maxRecDepth 1000000 in
theorem q134 : evEnt Tryz.prog 417 100000 [] [⟨f124, [0, 1, 2, 3, 4, 5, 6, 7, 8, 9], []⟩] 60 f134 = true := by kernel_rfl
theorem r134 : FEntOk Tryz.prog f134 := fent_of_ev none_ok t134 mixed (fnsOk_of 417 fns) rfl q134
theorem x134 : fitE f134 = true := by kernel_rfl
noncomputable def f135 : FEnt := ⟨180, [.agg [.lit (.slice none 0 0), .lit (.slice none 0 0), .slr 0 0 2 0, .int .i64 (0)]], 11, 0, i31, .int .i64 (0), 239, 0, [], none⟩
theorem t135 : Tab2Ok Tryz.prog [] := fun x hx => by cases hx
set_option maxRecDepth 1000000 in
theorem q135 : evEnt Tryz.prog 417 100000 [] [] 60 f135 = true := by kernel_rfl
theorem r135 : FEntOk Tryz.prog f135 := fent_of_ev none_ok t135 mixed (fnsOk_of 417 fns) rfl q135
theorem x135 : fitE f135 = true := by kernel_rfl
noncomputable def f136 : FEnt := ⟨70, [.agg [.lit (.slice none 0 0), .lit (.slice none 0 0), .slr 0 0 2 0, .int .i64 (0)], .int .i64 (0)], 11, 0, i31, .tup [.agg [.sl 255 0 5 5, .sl 256 0 5 5, .slr 296 0 5 0, .sl 257 0 5 5, .sl 258 0 5 5], .int .i64 (0)], 324, 0, [⟨255, 0, [.lit (.slice none 0 0), .slr 281 0 2 0, .slr 283 0 1 0, .slr 269 0 1 0, .slr 276 0 1 0]⟩, ⟨256, 0, [.sl 262 0 1 1, .sl 267 0 1 1, .lit (.slice none 0 0), .sl 274 0 1 1, .sl 279 0 2 2]⟩, ⟨296, 1, [.int .i64 (0), .int .i64 (1), .int .i64 (3), .int .i64 (4), .int .i64 (2)]⟩, ⟨257, 0, [.int .i64 (-1), .int .i64 (0), .int .i64 (4), .int .i64 (1), .int .i64 (3)]⟩, ⟨258, 0, [.lit (.slice none 0 0), .slr 329 0 1 0, .lit (.slice none 0 0), .slr 331 0 1 0, .slr 333 0 1 0]⟩, ⟨281, 1, [.int .i64 (0), .int .i64 (4)]⟩, ⟨283, 1, [.int .i64 (4)]⟩, ⟨269, 1, [.int .i64 (1)]⟩, ⟨276, 1, [.int .i64 (3)]⟩, ⟨262, 0, [.int .i64 (1)]⟩, ⟨267, 0, [.int .i64 (3)]⟩, ⟨274, 0, [.int .i64 (4)]⟩, ⟨279, 0, [.int .i64 (1), .int .i64 (2)]⟩, ⟨329, 1, [.int .i64 (1)]⟩, ⟨331, 1, [.int .i64 (1)]⟩, ⟨333, 1, [.int .i64 (1)]⟩], none⟩
theorem t136 : Tab2Ok Tryz.prog [⟨f135, [0, 1, 2, 3, 4, 5, 6, 7, 8, 9, 10], []⟩, ⟨f3, [], []⟩, ⟨f4, [], []⟩, ⟨f31, [], []⟩, ⟨f32, [], []⟩, ⟨f33, [], []⟩] := fun x hx => by
  simp only [List.mem_cons, List.not_mem_nil, or_false] at hx
  rcases hx with rfl | rfl | rfl | rfl | rfl | rfl
  · exact ⟨r135, x135, by kernel_rfl⟩
  · exact ⟨r3, x3, by kernel_rfl⟩
  · exact ⟨r4, x4, by kernel_rfl⟩
  · exact ⟨r31, x31, by kernel_rfl⟩
  · exact ⟨r32, x32, by kernel_rfl⟩
  · exact ⟨r33, x33, by kernel_rfl⟩
set_option maxRecDepth 1000000 in
theorem q136 : evEnt Tryz.prog 417 100000 [] [⟨f135, [0, 1, 2, 3, 4, 5, 6, 7, 8, 9, 10], []⟩, ⟨f3, [], []⟩, ⟨f4, [], []⟩, ⟨f31, [], []⟩, ⟨f32, [], []⟩, ⟨f33, [], []⟩] 60 f136 = true := by kernel_rfl
theorem r136 : FEntOk Tryz.prog f136 := fent_of_ev none_ok t136 mixed (fnsOk_of 417 fns) rfl q136
theorem x136 : fitE f136 = true := by kernel_rfl
noncomputable def f137 : FEnt := ⟨180, [.agg [.lit (.slice none 0 0), .lit (.slice none 0 0), .slr 0 0 2 0, .int .i64 (0)]], 11, 0, i32, .int .i64 (0), 239, 0, [], none⟩
theorem t137 : Tab2Ok Tryz.prog [] := fun x hx => by cases hx
set_option maxRecDepth 1000000 in
theorem q137 : evEnt Tryz.prog 417 100000 [] [] 60 f137 = true := by kernel_rfl
theorem r137 : FEntOk Tryz.prog f137 := fent_of_ev none_ok t137 mixed (fnsOk_of 417 fns) rfl q137
theorem x137 : fitE f137 = true := by kernel_rfl
end Go.Proofs.YtbkgehknhjkaoaaGreatDoor.Pipe
