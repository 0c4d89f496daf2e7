/- Calls of the law's run: what each finds, hands back and lays. -/
import Derived.Test.YtbkgehknhjkaoaaGreatDoorPipeG1
import Derived.Test.YtbkgehknhjkaoaaGreatDoorPipeG5
import Derived.Test.YtbkgehknhjkaoaaGreatDoorPipeG32
namespace Go.Proofs.YtbkgehknhjkaoaaGreatDoor.Pipe
open Go Go.Proofs.YtbkgehknhjkaoaaGreatDoor.Ev
noncomputable def f221 : FEnt := ⟨70, [.agg [.lit (.slice none 0 0), .lit (.slice none 0 0), .slr 0 0 2 0, .int .i64 (0)], .int .i64 (0)], 7, 0, i54, .tup [.agg [.sl 157 0 3 3, .sl 158 0 3 3, .slr 184 0 3 0, .sl 159 0 3 3, .sl 160 0 3 3], .int .i64 (0)], 194, 0, [⟨157, 0, [.lit (.slice none 0 0), .slr 171 0 2 0, .slr 173 0 1 0]⟩, ⟨158, 0, [.sl 164 0 1 1, .sl 169 0 2 2, .lit (.slice none 0 0)]⟩, ⟨184, 1, [.int .i64 (0), .int .i64 (1), .int .i64 (2)]⟩, ⟨159, 0, [.int .i64 (-1), .int .i64 (0), .int .i64 (1)]⟩, ⟨160, 0, [.lit (.slice none 0 0), .slr 199 0 1 0, .lit (.slice none 0 0)]⟩, ⟨171, 1, [.int .i64 (0), .int .i64 (1)]⟩, ⟨173, 1, [.int .i64 (1)]⟩, ⟨164, 0, [.int .i64 (1)]⟩, ⟨169, 0, [.int .i64 (1), .int .i64 (2)]⟩, ⟨199, 1, [.int .i64 (1)]⟩], none⟩
theorem t221 : Tab2Ok Tryz.prog [⟨f220, [0, 1, 2, 3, 4, 5, 6], []⟩, ⟨f3, [], []⟩, ⟨f4, [], []⟩, ⟨f5, [], []⟩] := fun x hx => by
  simp only [List.mem_cons, List.not_mem_nil, or_false] at hx
  rcases hx with rfl | rfl | rfl | rfl
  · exact ⟨r220, x220, by kernel_rfl⟩
  · exact ⟨r3, x3, by kernel_rfl⟩
  · exact ⟨r4, x4, by kernel_rfl⟩
  · exact ⟨r5, x5, by kernel_rfl⟩
set_option maxRecDepth 1000000 in
theorem q221 : evEnt Tryz.prog 417 100000 [] [⟨f220, [0, 1, 2, 3, 4, 5, 6], []⟩, ⟨f3, [], []⟩, ⟨f4, [], []⟩, ⟨f5, [], []⟩] 60 f221 = true := by kernel_rfl
theorem r221 : FEntOk Tryz.prog f221 := fent_of_ev none_ok t221 mixed (fnsOk_of 417 fns) rfl q221
theorem x221 : fitE f221 = true := by kernel_rfl
noncomputable def f222 : FEnt := ⟨14, [.agg [.lit (.slice none 0 0), .lit (.slice none 0 0), .slr 0 0 2 0, .int .i64 (0)], .int .i64 (0), .agg [.int .i64 (-1), .lit (.slice none 0 0)]], 9, 0, i50, .tup [.agg [.lit (.slice none 0 0), .lit (.slice none 0 0), .slr 1854 0 2 0, .int .i64 (0)], .sl 1855 0 1 1, .int .i64 (0)], 1847, 0, [⟨1854, 6, [.lit (.string (bs [102])), .int .i64 (0), .int .i64 (3), .bool false, .lit (.slice none 0 0), .sl 1712 0 3 3, .lit (.string (bs [103])), .int .i64 (1), .int .i64 (2), .bool true, .lit (.slice none 0 0), .slr 1852 0 1 0]⟩, ⟨1855, 0, [.int .i64 (3), .int .i64 (0), .int .i64 (0), .int .i64 (0), .int .i64 (-1)]⟩, ⟨1712, 0, [.lit (.slice none 0 0), .int .i64 (1), .int .i64 (0), .int .i64 (0), .int .i64 (1), .int .i64 (0), .slr 1706 0 4 0, .int .i64 (2), .int .i64 (2), .int .i64 (0), .int .i64 (1), .int .i64 (2), .slr 1711 0 1 0, .int .i64 (3), .int .i64 (0), .int .i64 (0), .int .i64 (0), .int .i64 (0)]⟩, ⟨1852, 6, [.lit (.slice none 0 0), .int .i64 (3), .int .i64 (0), .int .i64 (0), .int .i64 (0), .int .i64 (0)]⟩, ⟨1706, 13, [.int .i64 (10), .int .i64 (0), .int .i64 (1), .int .i64 (0), .int .i64 (0), .int .i64 (0), .int .i64 (0), .int .i64 (0), .int .i64 (0), .int .i64 (0), .slr 1742 0 2 0, .lit (.slice none 0 0), .slr 1732 0 2 0, .int .i64 (8), .int .i64 (0), .int .i64 (-1), .int .i64 (1), .int .i64 (0), .int .i64 (0), .int .i64 (0), .int .i64 (0), .int .i64 (0), .int .i64 (0), .lit (.slice none 0 0), .lit (.slice none 0 0), .lit (.slice none 0 0), .int .i64 (2), .int .i64 (1), .int .i64 (0), .int .i64 (1), .int .i64 (0), .int .i64 (-1), .int .i64 (1), .int .i64 (0), .int .i64 (0), .int .i64 (0), .lit (.slice none 0 0), .lit (.slice none 0 0), .lit (.slice none 0 0), .int .i64 (2), .int .i64 (13), .int .i64 (2), .int .i64 (0), .int .i64 (0), .int .i64 (-1), .int .i64 (3), .int .i64 (0), .int .i64 (0), .int .i64 (0), .lit (.slice none 0 0), .lit (.slice none 0 0), .lit (.slice none 0 0)]⟩, ⟨1711, 13, [.int .i64 (8), .int .i64 (0), .int .i64 (-1), .int .i64 (-1), .int .i64 (5), .int .i64 (0), .int .i64 (0), .int .i64 (0), .int .i64 (0), .int .i64 (0), .lit (.slice none 0 0), .lit (.slice none 0 0), .lit (.slice none 0 0)]⟩, ⟨1742, 2, [.int .i64 (-1), .int .i64 (0), .int .i64 (0), .int .i64 (0)]⟩, ⟨1732, 1, [.int .i64 (0), .int .i64 (1)]⟩], none⟩
theorem t222 : Tab2Ok Tryz.prog [⟨f213, [0, 1, 2, 3, 4, 5, 6, 7, 8], []⟩, ⟨f215, [319, 1, 317, 3, 4, 5, 7, 8], []⟩, ⟨f217, [697, 608, 695, 587, 592, 607, 637, 627], []⟩, ⟨f219, [1087, 1002, 1085, 981, 986, 1001, 1031, 1021], []⟩, ⟨f221, [1470, 1387, 1468, 1366, 1371, 1417, 1407], []⟩] := fun x hx => by
  simp only [List.mem_cons, List.not_mem_nil, or_false] at hx
  rcases hx with rfl | rfl | rfl | rfl | rfl
  · exact ⟨r213, x213, by kernel_rfl⟩
  · exact ⟨r215, x215, by kernel_rfl⟩
  · exact ⟨r217, x217, by kernel_rfl⟩
  · exact ⟨r219, x219, by kernel_rfl⟩
  · exact ⟨r221, x221, by kernel_rfl⟩
set_option maxRecDepth 1000000 in
theorem q222 : evEnt Tryz.prog 417 100000 [] [⟨f213, [0, 1, 2, 3, 4, 5, 6, 7, 8], []⟩, ⟨f215, [319, 1, 317, 3, 4, 5, 7, 8], []⟩, ⟨f217, [697, 608, 695, 587, 592, 607, 637, 627], []⟩, ⟨f219, [1087, 1002, 1085, 981, 986, 1001, 1031, 1021], []⟩, ⟨f221, [1470, 1387, 1468, 1366, 1371, 1417, 1407], []⟩] 60 f222 = true := by kernel_rfl
theorem r222 : FEntOk Tryz.prog f222 := fent_of_ev none_ok t222 mixed (fnsOk_of 417 fns) rfl q222
theorem x222 : fitE f222 = true := by kernel_rfl
noncomputable def f223 : FEnt := ⟨12, [.agg [.lit (.slice none 0 0), .lit (.slice none 0 0), .slr 0 0 2 0, .int .i64 (0)], .agg [.int .i64 (-1), .lit (.slice none 0 0)]], 9, 0, i50, .int .i64 (0), 1850, 0, [], none⟩
theorem t223 : Tab2Ok Tryz.prog [⟨f222, [0, 1, 2, 3, 4, 5, 6, 7, 8], []⟩] := fun x hx => by
  simp only [List.mem_cons, List.not_mem_nil, or_false] at hx
  rcases hx with rfl
  · exact ⟨r222, x222, by kernel_rfl⟩
set_option maxRecDepth 1000000 in
theorem q223 : evEnt Tryz.prog 417 100000 [] [⟨f222, [0, 1, 2, 3, 4, 5, 6, 7, 8], []⟩] 60 f223 = true := by kernel_rfl
theorem r223 : FEntOk Tryz.prog f223 := fent_of_ev none_ok t223 mixed (fnsOk_of 417 fns) rfl q223
theorem x223 : fitE f223 = true := by kernel_rfl
noncomputable def f224 : FEnt := ⟨48, [.agg [.lit (.slice none 0 0), .lit (.slice none 0 0), .slr 0 0 2 0, .int .i64 (0)], .int .i64 (0)], 9, 0, i50, .int .i64 (0), 377, 0, [], none⟩
theorem t224 : Tab2Ok Tryz.prog [⟨f213, [0, 1, 2, 3, 4, 5, 6, 7, 8], []⟩] := fun x hx => by
  simp only [List.mem_cons, List.not_mem_nil, or_false] at hx
  rcases hx with rfl
  · exact ⟨r213, x213, by kernel_rfl⟩
set_option maxRecDepth 1000000 in
theorem q224 : evEnt Tryz.prog 417 100000 [] [⟨f213, [0, 1, 2, 3, 4, 5, 6, 7, 8], []⟩] 60 f224 = true := by kernel_rfl
theorem r224 : FEntOk Tryz.prog f224 := fent_of_ev none_ok t224 mixed (fnsOk_of 417 fns) rfl q224
theorem x224 : fitE f224 = true := by kernel_rfl
noncomputable def f225 : FEnt := ⟨18, [.agg [.lit (.slice none 0 0), .lit (.slice none 0 0), .slr 0 0 2 0, .int .i64 (0)], .int .i64 (0), .agg [.int .i64 (-1), .lit (.slice none 0 0)]], 9, 0, i50, .tup [.agg [.lit (.slice none 0 0), .lit (.slice none 0 0), .slr 1073 0 2 0, .int .i64 (0)], .sl 1074 0 1 1, .int .i64 (0)], 1066, 3, [⟨1073, 6, [.lit (.string (bs [102])), .int .i64 (0), .int .i64 (8), .bool false, .lit (.slice none 0 0), .slr 1001 0 6 0, .lit (.string (bs [103])), .int .i64 (1), .int .i64 (2), .bool true, .lit (.slice none 0 0), .slr 1071 0 1 0]⟩, ⟨1074, 0, [.int .i64 (2), .int .i64 (0), .int .i64 (0), .int .i64 (0), .int .i64 (-1)]⟩, ⟨1001, 6, [.slr 998 0 1 0, .int .i64 (1), .int .i64 (0), .int .i64 (0), .int .i64 (1), .int .i64 (0), .emp 2 656 13 1, .int .i64 (1), .int .i64 (0), .int .i64 (0), .int .i64 (3), .int .i64 (0), .slr 661 0 1 0, .int .i64 (3), .int .i64 (0), .int .i64 (0), .int .i64 (0), .int .i64 (0), .lit (.slice none 0 0), .int .i64 (1), .int .i64 (0), .int .i64 (0), .int .i64 (4), .int .i64 (0), .slr 676 0 3 0, .int .i64 (2), .int .i64 (7), .int .i64 (0), .int .i64 (5), .int .i64 (2), .slr 1015 0 1 0, .int .i64 (1), .int .i64 (0), .int .i64 (0), .int .i64 (1), .int .i64 (0)]⟩, ⟨1071, 6, [.lit (.slice none 0 0), .int .i64 (3), .int .i64 (0), .int .i64 (0), .int .i64 (0), .int .i64 (0)]⟩, ⟨998, 13, [.int .i64 (1), .int .i64 (0), .int .i64 (0), .int .i64 (-1), .int .i64 (0), .int .i64 (0), .int .i64 (0), .int .i64 (0), .int .i64 (0), .int .i64 (0), .lit (.slice none 0 0), .lit (.slice none 0 0), .lit (.slice none 0 0)]⟩, ⟨656, 13, [.int .i64 (10), .int .i64 (0), .int .i64 (0), .int .i64 (0), .int .i64 (0), .int .i64 (0), .int .i64 (0), .int .i64 (0), .int .i64 (0), .int .i64 (0), .slr 652 0 2 0, .lit (.slice none 0 0), .slr 654 0 2 0]⟩, ⟨661, 13, [.int .i64 (8), .int .i64 (0), .int .i64 (-1), .int .i64 (-1), .int .i64 (5), .int .i64 (0), .int .i64 (0), .int .i64 (0), .int .i64 (0), .int .i64 (0), .lit (.slice none 0 0), .lit (.slice none 0 0), .lit (.slice none 0 0)]⟩, ⟨676, 13, [.int .i64 (8), .int .i64 (0), .int .i64 (-1), .int .i64 (0), .int .i64 (0), .int .i64 (0), .int .i64 (0), .int .i64 (0), .int .i64 (0), .int .i64 (0), .lit (.slice none 0 0), .lit (.slice none 0 0), .lit (.slice none 0 0), .int .i64 (2), .int .i64 (1), .int .i64 (6), .int .i64 (0), .int .i64 (0), .int .i64 (-1), .int .i64 (1), .int .i64 (0), .int .i64 (0), .int .i64 (0), .lit (.slice none 0 0), .lit (.slice none 0 0), .lit (.slice none 0 0), .int .i64 (2), .int .i64 (13), .int .i64 (7), .int .i64 (6), .int .i64 (0), .int .i64 (-1), .int .i64 (3), .int .i64 (0), .int .i64 (0), .int .i64 (0), .lit (.slice none 0 0), .lit (.slice none 0 0), .lit (.slice none 0 0)]⟩, ⟨1015, 13, [.int .i64 (1), .int .i64 (0), .int .i64 (0), .int .i64 (6), .int .i64 (0), .int .i64 (0), .int .i64 (0), .int .i64 (0), .int .i64 (0), .int .i64 (0), .lit (.slice none 0 0), .lit (.slice none 0 0), .lit (.slice none 0 0)]⟩, ⟨652, 2, [.int .i64 (-1), .int .i64 (0), .int .i64 (6), .int .i64 (0)]⟩, ⟨654, 1, [.int .i64 (0), .int .i64 (4)]⟩], none⟩
theorem t225 : Tab2Ok Tryz.prog [⟨f213, [0, 1, 2, 3, 4, 5, 6, 7, 8], []⟩, ⟨f224, [0, 1, 2, 3, 4, 5, 6, 7, 8], []⟩, ⟨f215, [726, 647, 724, 656, 661, 676, 652, 654], []⟩] := fun x hx => by
  simp only [List.mem_cons, List.not_mem_nil, or_false] at hx
  rcases hx with rfl | rfl | rfl
  · exact ⟨r213, x213, by kernel_rfl⟩
  · exact ⟨r224, x224, by kernel_rfl⟩
  · exact ⟨r215, x215, by kernel_rfl⟩
set_option maxRecDepth 1000000 in
theorem q225 : evEnt Tryz.prog 417 100000 [] [⟨f213, [0, 1, 2, 3, 4, 5, 6, 7, 8], []⟩, ⟨f224, [0, 1, 2, 3, 4, 5, 6, 7, 8], []⟩, ⟨f215, [726, 647, 724, 656, 661, 676, 652, 654], []⟩] 60 f225 = true := by kernel_rfl
theorem r225 : FEntOk Tryz.prog f225 := fent_of_ev none_ok t225 mixed (fnsOk_of 417 fns) rfl q225
theorem x225 : fitE f225 = true := by kernel_rfl
noncomputable def f226 : FEnt := ⟨180, [.agg [.lit (.slice none 0 0), .lit (.slice none 0 0), .slr 0 0 2 0, .int .i64 (0)]], 10, 1, i55, .int .i64 (0), 172, 0, [], none⟩
theorem t226 : Tab2Ok Tryz.prog [] := fun x hx => by cases hx
set_option maxRecDepth 1000000 in
theorem q226 : evEnt Tryz.prog 417 100000 [] [] 60 f226 = true := by kernel_rfl
theorem r226 : FEntOk Tryz.prog f226 := fent_of_ev none_ok t226 mixed (fnsOk_of 417 fns) rfl q226
theorem x226 : fitE f226 = true := by kernel_rfl
noncomputable def f227 : FEnt := ⟨185, [.agg [.bool true, .bool true, .bool false, .bool true, .bool true, .bool true, .bool false, .bool false, .bool false, .bool false, .bool false, .bool false, .bool false, .bool false, .bool false, .bool false, .bool false, .bool false, .bool false, .bool false, .bool false, .bool false, .bool false, .bool false, .bool false, .bool false, .bool false, .bool false, .bool false, .bool false, .bool false, .bool false, .bool false, .bool false, .bool false, .bool false, .bool false, .bool false, .bool false, .bool false, .bool false, .bool false, .bool false, .bool false, .bool false, .bool false, .bool false, .bool false, .bool false, .bool false, .bool false, .bool false, .bool false, .bool false, .bool false, .bool false, .bool false, .bool false, .bool false, .bool false]], 0, 0, [], .int .i64 (5), 1, 0, [], none⟩
theorem t227 : Tab2Ok Tryz.prog [] := fun x hx => by cases hx
set_option maxRecDepth 1000000 in
theorem q227 : evEnt Tryz.prog 417 100000 [] [] 60 f227 = true := by kernel_rfl
theorem r227 : FEntOk Tryz.prog f227 := fent_of_ev none_ok t227 mixed (fnsOk_of 417 fns) rfl q227
theorem x227 : fitE f227 = true := by kernel_rfl
noncomputable def f228 : FEnt := ⟨70, [.agg [.lit (.slice none 0 0), .lit (.slice none 0 0), .slr 0 0 2 0, .int .i64 (0)], .int .i64 (0)], 10, 1, i55, .tup [.agg [.sl 187 0 6 6, .sl 188 0 6 6, .slr 235 0 6 0, .sl 189 0 6 6, .sl 190 0 6 6], .int .i64 (0)], 278, 0, [⟨187, 0, [.lit (.slice none 0 0), .slr 220 0 2 0, .slr 213 0 1 0, .slr 201 0 1 0, .slr 208 0 1 0, .slr 215 0 1 0]⟩, ⟨188, 0, [.sl 194 0 1 1, .sl 199 0 1 1, .lit (.slice none 0 0), .sl 206 0 1 1, .sl 211 0 2 2, .sl 218 0 1 1]⟩, ⟨235, 1, [.int .i64 (0), .int .i64 (1), .int .i64 (3), .int .i64 (4), .int .i64 (5), .int .i64 (2)]⟩, ⟨189, 0, [.int .i64 (-1), .int .i64 (0), .int .i64 (4), .int .i64 (1), .int .i64 (3), .int .i64 (4)]⟩, ⟨190, 0, [.lit (.slice none 0 0), .slr 280 0 1 0, .lit (.slice none 0 0), .slr 282 0 1 0, .slr 284 0 1 0, .slr 286 0 1 0]⟩, ⟨220, 1, [.int .i64 (0), .int .i64 (5)]⟩, ⟨213, 1, [.int .i64 (4)]⟩, ⟨201, 1, [.int .i64 (1)]⟩, ⟨208, 1, [.int .i64 (3)]⟩, ⟨215, 1, [.int .i64 (4)]⟩, ⟨194, 0, [.int .i64 (1)]⟩, ⟨199, 0, [.int .i64 (3)]⟩, ⟨206, 0, [.int .i64 (4)]⟩, ⟨211, 0, [.int .i64 (2), .int .i64 (5)]⟩, ⟨218, 0, [.int .i64 (1)]⟩, ⟨280, 1, [.int .i64 (1)]⟩, ⟨282, 1, [.int .i64 (1)]⟩, ⟨284, 1, [.int .i64 (1)]⟩, ⟨286, 1, [.int .i64 (1)]⟩], none⟩
theorem t228 : Tab2Ok Tryz.prog [⟨f226, [0, 1, 2, 3, 4, 5, 6, 7, 8, 9], [0]⟩, ⟨f3, [], []⟩, ⟨f4, [], []⟩, ⟨f31, [], []⟩, ⟨f32, [], []⟩, ⟨f33, [], []⟩, ⟨f227, [], []⟩] := fun x hx => by
  simp only [List.mem_cons, List.not_mem_nil, or_false] at hx
  rcases hx with rfl | rfl | rfl | rfl | rfl | rfl | rfl
  · exact ⟨r226, x226, by kernel_rfl⟩
  · exact ⟨r3, x3, by kernel_rfl⟩
  · exact ⟨r4, x4, by kernel_rfl⟩
  · exact ⟨r31, x31, by kernel_rfl⟩
  · exact ⟨r32, x32, by kernel_rfl⟩
  · exact ⟨r33, x33, by kernel_rfl⟩
  · exact ⟨r227, x227, by kernel_rfl⟩
set_option maxRecDepth 1000000 in
theorem q228 : evEnt Tryz.prog 417 100000 [] [⟨f226, [0, 1, 2, 3, 4, 5, 6, 7, 8, 9], [0]⟩, ⟨f3, [], []⟩, ⟨f4, [], []⟩, ⟨f31, [], []⟩, ⟨f32, [], []⟩, ⟨f33, [], []⟩, ⟨f227, [], []⟩] 60 f228 = true := by kernel_rfl
theorem r228 : FEntOk Tryz.prog f228 := fent_of_ev none_ok t228 mixed (fnsOk_of 417 fns) rfl q228
theorem x228 : fitE f228 = true := by kernel_rfl
noncomputable def f229 : FEnt := ⟨180, [.agg [.lit (.slice none 0 0), .lit (.slice none 0 0), .slr 0 0 2 0, .int .i64 (0)]], 7, 0, i56, .int .i64 (0), 172, 0, [], none⟩
theorem t229 : Tab2Ok Tryz.prog [] := fun x hx => by cases hx
set_option maxRecDepth 1000000 in
theorem q229 : evEnt Tryz.prog 417 100000 [] [] 60 f229 = true := by kernel_rfl
theorem r229 : FEntOk Tryz.prog f229 := fent_of_ev none_ok t229 mixed (fnsOk_of 417 fns) rfl q229
theorem x229 : fitE f229 = true := by kernel_rfl
end Go.Proofs.YtbkgehknhjkaoaaGreatDoor.Pipe
