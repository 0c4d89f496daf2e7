/- Calls of the law's run: what each finds, hands back and lays. -/
import Derived.Test.YtbkgehknhjkaoaaGreatDoorPipeG1
import Derived.Test.YtbkgehknhjkaoaaGreatDoorPipeG2
import Derived.Test.YtbkgehknhjkaoaaGreatDoorPipeG5
import Derived.Test.YtbkgehknhjkaoaaGreatDoorPipeG9
namespace Go.Proofs.YtbkgehknhjkaoaaGreatDoor.Pipe
open Go Go.Proofs.YtbkgehknhjkaoaaGreatDoor.Ev
noncomputable def f62 : FEnt := ⟨180, [.agg [.lit (.slice none 0 0), .lit (.slice none 0 0), .slr 0 0 2 0, .int .i64 (0)]], 10, 0, i13, .int .i64 (0), 239, 0, [], none⟩
theorem t62 : Tab2Ok Tryz.prog [] := fun x hx => by cases hx
set_option maxRecDepth 1000000 in
theorem q62 : evEnt Tryz.prog 417 100000 [] [] 60 f62 = true := by kernel_rfl
theorem r62 : FEntOk Tryz.prog f62 := fent_of_ev none_ok t62 mixed (fnsOk_of 417 fns) rfl q62
theorem x62 : fitE f62 = true := by kernel_rfl
noncomputable def f63 : FEnt := ⟨70, [.agg [.lit (.slice none 0 0), .lit (.slice none 0 0), .slr 0 0 2 0, .int .i64 (0)], .int .i64 (1)], 10, 0, i13, .tup [.agg [.sl 254 0 1 1, .sl 255 0 1 1, .slr 265 0 1 0, .sl 256 0 1 1, .sl 257 0 1 1], .int .i64 (0)], 260, 2, [⟨254, 0, [.lit (.slice none 0 0)]⟩, ⟨255, 0, [.lit (.slice none 0 0)]⟩, ⟨265, 1, [.int .i64 (0)]⟩, ⟨256, 0, [.int .i64 (-1)]⟩, ⟨257, 0, [.lit (.slice none 0 0)]⟩], none⟩
theorem t63 : Tab2Ok Tryz.prog [⟨f62, [0, 1, 2, 3, 4, 5, 6, 7, 8, 9], []⟩] := fun x hx => by
  simp only [List.mem_cons, List.not_mem_nil, or_false] at hx
  rcases hx with rfl
  · exact ⟨r62, x62, by kernel_rfl⟩
set_option maxRecDepth 1000000 in
theorem q63 : evEnt Tryz.prog 417 100000 [] [⟨f62, [0, 1, 2, 3, 4, 5, 6, 7, 8, 9], []⟩] 60 f63 = true := by kernel_rfl
theorem r63 : FEntOk Tryz.prog f63 := fent_of_ev none_ok t63 mixed (fnsOk_of 417 fns) rfl q63
theorem x63 : fitE f63 = true := by kernel_rfl
noncomputable def f64 : FEnt := ⟨180, [.agg [.lit (.slice none 0 0), .lit (.slice none 0 0), .slr 0 0 2 0, .int .i64 (0)]], 10, 0, i14, .int .i64 (0), 239, 0, [], none⟩
theorem t64 : Tab2Ok Tryz.prog [] := fun x hx => by cases hx
set_option maxRecDepth 1000000 in
theorem q64 : evEnt Tryz.prog 417 100000 [] [] 60 f64 = true := by kernel_rfl
theorem r64 : FEntOk Tryz.prog f64 := fent_of_ev none_ok t64 mixed (fnsOk_of 417 fns) rfl q64
theorem x64 : fitE f64 = true := by kernel_rfl
noncomputable def f65 : FEnt := ⟨70, [.agg [.lit (.slice none 0 0), .lit (.slice none 0 0), .slr 0 0 2 0, .int .i64 (0)], .int .i64 (1)], 10, 0, i14, .tup [.agg [.sl 254 0 1 1, .sl 255 0 1 1, .slr 265 0 1 0, .sl 256 0 1 1, .sl 257 0 1 1], .int .i64 (0)], 260, 2, [⟨254, 0, [.lit (.slice none 0 0)]⟩, ⟨255, 0, [.lit (.slice none 0 0)]⟩, ⟨265, 1, [.int .i64 (0)]⟩, ⟨256, 0, [.int .i64 (-1)]⟩, ⟨257, 0, [.lit (.slice none 0 0)]⟩], none⟩
theorem t65 : Tab2Ok Tryz.prog [⟨f64, [0, 1, 2, 3, 4, 5, 6, 7, 8, 9], []⟩] := fun x hx => by
  simp only [List.mem_cons, List.not_mem_nil, or_false] at hx
  rcases hx with rfl
  · exact ⟨r64, x64, by kernel_rfl⟩
set_option maxRecDepth 1000000 in
theorem q65 : evEnt Tryz.prog 417 100000 [] [⟨f64, [0, 1, 2, 3, 4, 5, 6, 7, 8, 9], []⟩] 60 f65 = true := by kernel_rfl
theorem r65 : FEntOk Tryz.prog f65 := fent_of_ev none_ok t65 mixed (fnsOk_of 417 fns) rfl q65
theorem x65 : fitE f65 = true := by kernel_rfl
noncomputable def f66 : FEnt := ⟨129, [.agg [.lit (.slice none 0 0), .lit (.slice none 0 0), .slr 0 0 2 0, .int .i64 (0)], .int .i64 (1)], 10, 0, i14, .tup [.slr 290 0 1 0, .slr 293 0 1 0, .int .i64 (0)], 284, 0, [⟨290, 1, [.slr 288 0 1 0]⟩, ⟨293, 1, [.lit (.slice none 0 0)]⟩, ⟨288, 1, [.int .i64 (0)]⟩], none⟩
theorem t66 : Tab2Ok Tryz.prog [⟨f64, [0, 1, 2, 3, 4, 5, 6, 7, 8, 9], []⟩, ⟨f15, [273], []⟩, ⟨f18, [255], []⟩] := fun x hx => by
  simp only [List.mem_cons, List.not_mem_nil, or_false] at hx
  rcases hx with rfl | rfl | rfl
  · exact ⟨r64, x64, by kernel_rfl⟩
  · exact ⟨r15, x15, by kernel_rfl⟩
  · exact ⟨r18, x18, by kernel_rfl⟩
set_option maxRecDepth 1000000 in
theorem q66 : evEntS Tryz.prog 417 100000 [] [⟨f64, [0, 1, 2, 3, 4, 5, 6, 7, 8, 9], []⟩, ⟨f15, [273], []⟩, ⟨f18, [255], []⟩] 60 ty 198 4070811997647550268413196792806740848985787173436392308761484007985810440183 f66 = true := by kernel_rfl
theorem r66 : FEntOk Tryz.prog f66 := fent_of_evS none_ok t66 mixed (fnsOk_of 417 fns) ty_ok rfl q66
theorem x66 : fitE f66 = true := by kernel_rfl
noncomputable def f67 : FEnt := ⟨84, [.agg [.lit (.slice none 0 0), .lit (.slice none 0 0), .slr 0 0 2 0, .int .i64 (0)], .int .i64 (1), .agg [.int .i64 (-1), .lit (.slice none 0 0)]], 10, 0, i9, .tup [.agg [.lit (.slice none 0 0), .lit (.slice none 0 0), .slr 1480 0 2 0, .int .i64 (0)], .sl 1481 0 1 1, .int .i64 (0)], 1472, 7, [⟨1480, 6, [.lit (.string (bs [102])), .int .i64 (0), .int .i64 (8), .bool false, .lit (.slice none 0 0), .slr 1412 0 5 0, .lit (.string (bs [103])), .int .i64 (1), .int .i64 (2), .bool true, .lit (.slice none 0 0), .sl 634 0 1 1]⟩, ⟨1481, 0, [.int .i64 (1), .int .i64 (0), .int .i64 (1), .int .i64 (0), .int .i64 (-1)]⟩, ⟨1412, 6, [.lit (.slice none 0 0), .int .i64 (1), .int .i64 (0), .int .i64 (0), .int .i64 (1), .int .i64 (0), .slr 1436 0 4 0, .int .i64 (1), .int .i64 (0), .int .i64 (0), .int .i64 (3), .int .i64 (0), .slr 1441 0 1 0, .int .i64 (3), .int .i64 (0), .int .i64 (0), .int .i64 (0), .int .i64 (0), .slr 1451 0 2 0, .int .i64 (1), .int .i64 (0), .int .i64 (0), .int .i64 (4), .int .i64 (0), .slr 1466 0 3 0, .int .i64 (2), .int .i64 (7), .int .i64 (0), .int .i64 (1), .int .i64 (2)]⟩, ⟨634, 0, [.slr 1400 0 1 0, .int .i64 (3), .int .i64 (1), .int .i64 (0), .int .i64 (0), .int .i64 (0)]⟩, ⟨1436, 13, [.int .i64 (10), .int .i64 (0), .int .i64 (0), .int .i64 (0), .int .i64 (0), .int .i64 (0), .int .i64 (0), .int .i64 (0), .int .i64 (0), .int .i64 (0), .slr 1417 0 2 0, .lit (.slice none 0 0), .slr 1419 0 2 0, .int .i64 (2), .int .i64 (1), .int .i64 (1), .int .i64 (-1), .int .i64 (2), .int .i64 (-1), .int .i64 (3), .int .i64 (0), .int .i64 (0), .int .i64 (0), .lit (.slice none 0 0), .lit (.slice none 0 0), .lit (.slice none 0 0), .int .i64 (1), .int .i64 (0), .int .i64 (2), .int .i64 (0), .int .i64 (0), .int .i64 (0), .int .i64 (0), .int .i64 (0), .int .i64 (0), .int .i64 (0), .lit (.slice none 0 0), .lit (.slice none 0 0), .lit (.slice none 0 0), .int .i64 (1), .int .i64 (0), .int .i64 (3), .int .i64 (-1), .int .i64 (0), .int .i64 (0), .int .i64 (0), .int .i64 (0), .int .i64 (0), .int .i64 (0), .lit (.slice none 0 0), .lit (.slice none 0 0), .lit (.slice none 0 0)]⟩, ⟨1441, 13, [.int .i64 (8), .int .i64 (0), .int .i64 (-1), .int .i64 (1), .int .i64 (0), .int .i64 (0), .int .i64 (0), .int .i64 (0), .int .i64 (0), .int .i64 (0), .lit (.slice none 0 0), .lit (.slice none 0 0), .lit (.slice none 0 0)]⟩, ⟨1451, 13, [.int .i64 (2), .int .i64 (3), .int .i64 (4), .int .i64 (2), .int .i64 (0), .int .i64 (-1), .int .i64 (1), .int .i64 (0), .int .i64 (0), .int .i64 (0), .lit (.slice none 0 0), .lit (.slice none 0 0), .lit (.slice none 0 0), .int .i64 (1), .int .i64 (0), .int .i64 (5), .int .i64 (4), .int .i64 (0), .int .i64 (0), .int .i64 (0), .int .i64 (0), .int .i64 (0), .int .i64 (0), .lit (.slice none 0 0), .lit (.slice none 0 0), .lit (.slice none 0 0)]⟩, ⟨1466, 13, [.int .i64 (8), .int .i64 (0), .int .i64 (-1), .int .i64 (5), .int .i64 (0), .int .i64 (0), .int .i64 (0), .int .i64 (0), .int .i64 (0), .int .i64 (0), .lit (.slice none 0 0), .lit (.slice none 0 0), .lit (.slice none 0 0), .int .i64 (2), .int .i64 (1), .int .i64 (6), .int .i64 (0), .int .i64 (0), .int .i64 (-1), .int .i64 (1), .int .i64 (0), .int .i64 (0), .int .i64 (0), .lit (.slice none 0 0), .lit (.slice none 0 0), .lit (.slice none 0 0), .int .i64 (2), .int .i64 (13), .int .i64 (7), .int .i64 (6), .int .i64 (0), .int .i64 (-1), .int .i64 (3), .int .i64 (0), .int .i64 (0), .int .i64 (0), .lit (.slice none 0 0), .lit (.slice none 0 0), .lit (.slice none 0 0)]⟩, ⟨1400, 13, [.int .i64 (2), .int .i64 (3), .int .i64 (1), .int .i64 (0), .int .i64 (0), .int .i64 (-1), .int .i64 (1), .int .i64 (0), .int .i64 (0), .int .i64 (0), .lit (.slice none 0 0), .lit (.slice none 0 0), .lit (.slice none 0 0)]⟩, ⟨1417, 2, [.int .i64 (-1), .int .i64 (0), .int .i64 (6), .int .i64 (0)]⟩, ⟨1419, 1, [.int .i64 (0), .int .i64 (4)]⟩], none⟩
theorem t67 : Tab2Ok Tryz.prog [⟨f61, [0, 1, 2, 3, 4, 5, 6, 7, 8, 9], []⟩, ⟨f63, [361, 293, 2, 317, 322, 332, 347, 7, 298, 300], []⟩, ⟨f65, [794, 726, 634, 750, 755, 765, 780, 633, 731, 733], []⟩, ⟨f66, [714, 646, 634, 670, 675, 685, 700, 633, 651, 653], []⟩] := fun x hx => by
  simp only [List.mem_cons, List.not_mem_nil, or_false] at hx
  rcases hx with rfl | rfl | rfl | rfl
  · exact ⟨r61, x61, by kernel_rfl⟩
  · exact ⟨r63, x63, by kernel_rfl⟩
  · exact ⟨r65, x65, by kernel_rfl⟩
  · exact ⟨r66, x66, by kernel_rfl⟩
set_option maxRecDepth 1000000 in
theorem q67 : evEnt Tryz.prog 417 100000 [] [⟨f61, [0, 1, 2, 3, 4, 5, 6, 7, 8, 9], []⟩, ⟨f63, [361, 293, 2, 317, 322, 332, 347, 7, 298, 300], []⟩, ⟨f65, [794, 726, 634, 750, 755, 765, 780, 633, 731, 733], []⟩, ⟨f66, [714, 646, 634, 670, 675, 685, 700, 633, 651, 653], []⟩] 60 f67 = true := by kernel_rfl
theorem r67 : FEntOk Tryz.prog f67 := fent_of_ev none_ok t67 mixed (fnsOk_of 417 fns) rfl q67
theorem x67 : fitE f67 = true := by kernel_rfl
noncomputable def f68 : FEnt := ⟨70, [.agg [.lit (.slice none 0 0), .lit (.slice none 0 0), .slr 0 0 2 0, .int .i64 (0)], .int .i64 (0)], 10, 0, i14, .tup [.agg [.sl 254 0 5 5, .sl 255 0 5 5, .slr 295 0 5 0, .sl 256 0 5 5, .sl 257 0 5 5], .int .i64 (0)], 324, 0, [⟨254, 0, [.lit (.slice none 0 0), .slr 280 0 2 0, .slr 282 0 1 0, .slr 268 0 1 0, .slr 275 0 1 0]⟩, ⟨255, 0, [.sl 261 0 1 1, .sl 266 0 1 1, .lit (.slice none 0 0), .sl 273 0 1 1, .sl 278 0 2 2]⟩, ⟨295, 1, [.int .i64 (0), .int .i64 (1), .int .i64 (3), .int .i64 (4), .int .i64 (2)]⟩, ⟨256, 0, [.int .i64 (-1), .int .i64 (0), .int .i64 (4), .int .i64 (1), .int .i64 (3)]⟩, ⟨257, 0, [.lit (.slice none 0 0), .slr 328 0 1 0, .lit (.slice none 0 0), .slr 330 0 1 0, .slr 332 0 1 0]⟩, ⟨280, 1, [.int .i64 (0), .int .i64 (4)]⟩, ⟨282, 1, [.int .i64 (4)]⟩, ⟨268, 1, [.int .i64 (1)]⟩, ⟨275, 1, [.int .i64 (3)]⟩, ⟨261, 0, [.int .i64 (1)]⟩, ⟨266, 0, [.int .i64 (3)]⟩, ⟨273, 0, [.int .i64 (4)]⟩, ⟨278, 0, [.int .i64 (1), .int .i64 (2)]⟩, ⟨328, 1, [.int .i64 (1)]⟩, ⟨330, 1, [.int .i64 (1)]⟩, ⟨332, 1, [.int .i64 (1)]⟩], none⟩
theorem t68 : Tab2Ok Tryz.prog [⟨f64, [0, 1, 2, 3, 4, 5, 6, 7, 8, 9], []⟩, ⟨f3, [], []⟩, ⟨f4, [], []⟩, ⟨f31, [], []⟩, ⟨f32, [], []⟩, ⟨f33, [], []⟩] := fun x hx => by
  simp only [List.mem_cons, List.not_mem_nil, or_false] at hx
  rcases hx with rfl | rfl | rfl | rfl | rfl | rfl
  · exact ⟨r64, x64, by kernel_rfl⟩
  · exact ⟨r3, x3, by kernel_rfl⟩
  · exact ⟨r4, x4, by kernel_rfl⟩
  · exact ⟨r31, x31, by kernel_rfl⟩
  · exact ⟨r32, x32, by kernel_rfl⟩
  · exact ⟨r33, x33, by kernel_rfl⟩
set_option maxRecDepth 1000000 in
theorem q68 : evEnt Tryz.prog 417 100000 [] [⟨f64, [0, 1, 2, 3, 4, 5, 6, 7, 8, 9], []⟩, ⟨f3, [], []⟩, ⟨f4, [], []⟩, ⟨f31, [], []⟩, ⟨f32, [], []⟩, ⟨f33, [], []⟩] 60 f68 = true := by kernel_rfl
theorem r68 : FEntOk Tryz.prog f68 := fent_of_ev none_ok t68 mixed (fnsOk_of 417 fns) rfl q68
theorem x68 : fitE f68 = true := by kernel_rfl
end Go.Proofs.YtbkgehknhjkaoaaGreatDoor.Pipe
