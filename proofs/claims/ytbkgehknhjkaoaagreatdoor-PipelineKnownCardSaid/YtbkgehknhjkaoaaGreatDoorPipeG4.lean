/- Calls of the law's run: what each finds, hands back and lays. -/
import Derived.Test.YtbkgehknhjkaoaaGreatDoorPipeG1
import Derived.Test.YtbkgehknhjkaoaaGreatDoorPipeG2
import Derived.Test.YtbkgehknhjkaoaaGreatDoorPipeG3
namespace Go.Proofs.YtbkgehknhjkaoaaGreatDoor.Pipe
open Go Go.Proofs.YtbkgehknhjkaoaaGreatDoor.Ev
noncomputable def f20 : FEnt := ⟨84, [.agg [.lit (.slice none 0 0), .lit (.slice none 0 0), .slr 0 0 2 0, .int .i64 (0)], .int .i64 (0), .agg [.int .i64 (-1), .lit (.slice none 0 0)]], 7, 0, i1, .tup [.agg [.lit (.slice none 0 0), .lit (.slice none 0 0), .slr 1540 0 2 0, .int .i64 (0)], .sl 1541 0 1 1, .int .i64 (0)], 1535, 4, [⟨1540, 6, [.lit (.string (bs [102])), .int .i64 (0), .int .i64 (5), .bool false, .lit (.slice none 0 0), .sl 551 0 3 3, .lit (.string (bs [103])), .int .i64 (1), .int .i64 (2), .bool true, .lit (.slice none 0 0), .slr 1533 0 1 0]⟩, ⟨1541, 0, [.int .i64 (1), .int .i64 (0), .int .i64 (0), .int .i64 (0), .int .i64 (-1)]⟩, ⟨551, 0, [.lit (.slice none 0 0), .int .i64 (1), .int .i64 (0), .int .i64 (0), .int .i64 (1), .int .i64 (0), .slr 1460 0 6 0, .int .i64 (2), .int .i64 (4), .int .i64 (0), .int .i64 (1), .int .i64 (2), .slr 1480 0 1 0, .int .i64 (3), .int .i64 (0), .int .i64 (0), .int .i64 (0), .int .i64 (0)]⟩, ⟨1533, 6, [.slr 1538 0 1 0, .int .i64 (3), .int .i64 (1), .int .i64 (0), .int .i64 (0), .int .i64 (0)]⟩, ⟨1460, 13, [.int .i64 (10), .int .i64 (0), .int .i64 (0), .int .i64 (0), .int .i64 (0), .int .i64 (0), .int .i64 (0), .int .i64 (0), .int .i64 (0), .int .i64 (0), .sl 1365 0 2 2, .lit (.slice none 0 0), .slr 1364 0 2 0, .int .i64 (2), .int .i64 (1), .int .i64 (1), .int .i64 (-1), .int .i64 (2), .int .i64 (-1), .int .i64 (3), .int .i64 (0), .int .i64 (0), .int .i64 (0), .lit (.slice none 0 0), .lit (.slice none 0 0), .lit (.slice none 0 0), .int .i64 (9), .int .i64 (0), .int .i64 (2), .int .i64 (0), .int .i64 (0), .int .i64 (0), .int .i64 (0), .int .i64 (0), .int .i64 (0), .int .i64 (1), .slr 1399 0 1 0, .lit (.slice none 0 0), .lit (.slice none 0 0), .int .i64 (8), .int .i64 (0), .int .i64 (-1), .int .i64 (2), .int .i64 (0), .int .i64 (0), .int .i64 (0), .int .i64 (0), .int .i64 (0), .int .i64 (0), .lit (.slice none 0 0), .lit (.slice none 0 0), .lit (.slice none 0 0), .int .i64 (2), .int .i64 (1), .int .i64 (3), .int .i64 (0), .int .i64 (0), .int .i64 (-1), .int .i64 (1), .int .i64 (0), .int .i64 (0), .int .i64 (0), .lit (.slice none 0 0), .lit (.slice none 0 0), .lit (.slice none 0 0), .int .i64 (2), .int .i64 (13), .int .i64 (4), .int .i64 (3), .int .i64 (0), .int .i64 (-1), .int .i64 (3), .int .i64 (0), .int .i64 (0), .int .i64 (0), .lit (.slice none 0 0), .lit (.slice none 0 0), .lit (.slice none 0 0)]⟩, ⟨1480, 13, [.int .i64 (8), .int .i64 (0), .int .i64 (-1), .int .i64 (1), .int .i64 (0), .int .i64 (0), .int .i64 (0), .int .i64 (0), .int .i64 (0), .int .i64 (0), .lit (.slice none 0 0), .lit (.slice none 0 0), .lit (.slice none 0 0)]⟩, ⟨1538, 13, [.int .i64 (2), .int .i64 (3), .int .i64 (1), .int .i64 (0), .int .i64 (0), .int .i64 (-1), .int .i64 (1), .int .i64 (0), .int .i64 (0), .int .i64 (0), .lit (.slice none 0 0), .lit (.slice none 0 0), .lit (.slice none 0 0)]⟩, ⟨1365, 0, [.int .i64 (-1), .int .i64 (0), .int .i64 (3), .int .i64 (0)]⟩, ⟨1364, 1, [.int .i64 (0), .int .i64 (1)]⟩, ⟨1399, 2, [.int .i64 (0), .int .i64 (0)]⟩], none⟩
theorem t20 : Tab2Ok Tryz.prog [⟨f6, [0, 1, 2, 3, 4, 5, 6], []⟩, ⟨f6, [296, 1, 289, 3, 4, 294, 6], []⟩, ⟨f11, [672, 551, 665, 545, 550, 670, 528], []⟩, ⟨f19, [614, 551, 607, 545, 550, 612, 528], []⟩] := fun x hx => by
  simp only [List.mem_cons, List.not_mem_nil, or_false] at hx
  rcases hx with rfl | rfl | rfl | rfl
  · exact ⟨r6, x6, by kernel_rfl⟩
  · exact ⟨r6, x6, by kernel_rfl⟩
  · exact ⟨r11, x11, by kernel_rfl⟩
  · exact ⟨r19, x19, by kernel_rfl⟩
set_option maxRecDepth 1000000 in
theorem q20 : evEnt Tryz.prog 417 100000 [] [⟨f6, [0, 1, 2, 3, 4, 5, 6], []⟩, ⟨f6, [296, 1, 289, 3, 4, 294, 6], []⟩, ⟨f11, [672, 551, 665, 545, 550, 670, 528], []⟩, ⟨f19, [614, 551, 607, 545, 550, 612, 528], []⟩] 60 f20 = true := by kernel_rfl
theorem r20 : FEntOk Tryz.prog f20 := fent_of_ev none_ok t20 mixed (fnsOk_of 417 fns) rfl q20
theorem x20 : fitE f20 = true := by kernel_rfl
noncomputable def f21 : FEnt := ⟨180, [.agg [.lit (.slice none 0 0), .lit (.slice none 0 0), .slr 0 0 2 0, .int .i64 (0)]], 9, 0, i3, .int .i64 (0), 187, 0, [], none⟩
theorem t21 : Tab2Ok Tryz.prog [] := fun x hx => by cases hx
set_option maxRecDepth 1000000 in
theorem q21 : evEnt Tryz.prog 417 100000 [] [] 60 f21 = true := by kernel_rfl
theorem r21 : FEntOk Tryz.prog f21 := fent_of_ev none_ok t21 mixed (fnsOk_of 417 fns) rfl q21
theorem x21 : fitE f21 = true := by kernel_rfl
noncomputable def f22 : FEnt := ⟨70, [.agg [.lit (.slice none 0 0), .lit (.slice none 0 0), .slr 0 0 2 0, .int .i64 (0)], .int .i64 (0)], 9, 0, i3, .tup [.agg [.sl 201 0 3 3, .sl 202 0 3 3, .slr 228 0 3 0, .sl 203 0 3 3, .sl 204 0 3 3], .int .i64 (0)], 236, 0, [⟨201, 0, [.lit (.slice none 0 0), .slr 215 0 2 0, .slr 217 0 1 0]⟩, ⟨202, 0, [.sl 208 0 1 1, .sl 213 0 2 2, .lit (.slice none 0 0)]⟩, ⟨228, 1, [.int .i64 (0), .int .i64 (1), .int .i64 (2)]⟩, ⟨203, 0, [.int .i64 (-1), .int .i64 (0), .int .i64 (1)]⟩, ⟨204, 0, [.lit (.slice none 0 0), .slr 243 0 1 0, .lit (.slice none 0 0)]⟩, ⟨215, 1, [.int .i64 (0), .int .i64 (1)]⟩, ⟨217, 1, [.int .i64 (1)]⟩, ⟨208, 0, [.int .i64 (1)]⟩, ⟨213, 0, [.int .i64 (1), .int .i64 (2)]⟩, ⟨243, 1, [.int .i64 (1)]⟩], none⟩
theorem t22 : Tab2Ok Tryz.prog [⟨f21, [0, 1, 2, 3, 4, 5, 6, 7, 8], []⟩, ⟨f3, [], []⟩, ⟨f4, [], []⟩, ⟨f5, [], []⟩] := fun x hx => by
  simp only [List.mem_cons, List.not_mem_nil, or_false] at hx
  rcases hx with rfl | rfl | rfl | rfl
  · exact ⟨r21, x21, by kernel_rfl⟩
  · exact ⟨r3, x3, by kernel_rfl⟩
  · exact ⟨r4, x4, by kernel_rfl⟩
  · exact ⟨r5, x5, by kernel_rfl⟩
set_option maxRecDepth 1000000 in
theorem q22 : evEnt Tryz.prog 417 100000 [] [⟨f21, [0, 1, 2, 3, 4, 5, 6, 7, 8], []⟩, ⟨f3, [], []⟩, ⟨f4, [], []⟩, ⟨f5, [], []⟩] 60 f22 = true := by kernel_rfl
theorem r22 : FEntOk Tryz.prog f22 := fent_of_ev none_ok t22 mixed (fnsOk_of 417 fns) rfl q22
theorem x22 : fitE f22 = true := by kernel_rfl
noncomputable def f23 : FEnt := ⟨48, [.agg [.lit (.slice none 0 0), .lit (.slice none 0 0), .slr 0 0 2 0, .int .i64 (0)], .int .i64 (0)], 9, 0, i3, .int .i64 (0), 395, 0, [], none⟩
theorem t23 : Tab2Ok Tryz.prog [⟨f22, [0, 1, 2, 3, 4, 5, 6, 7, 8], []⟩] := fun x hx => by
  simp only [List.mem_cons, List.not_mem_nil, or_false] at hx
  rcases hx with rfl
  · exact ⟨r22, x22, by kernel_rfl⟩
set_option maxRecDepth 1000000 in
theorem q23 : evEnt Tryz.prog 417 100000 [] [⟨f22, [0, 1, 2, 3, 4, 5, 6, 7, 8], []⟩] 60 f23 = true := by kernel_rfl
theorem r23 : FEntOk Tryz.prog f23 := fent_of_ev none_ok t23 mixed (fnsOk_of 417 fns) rfl q23
theorem x23 : fitE f23 = true := by kernel_rfl
noncomputable def f24 : FEnt := ⟨180, [.agg [.lit (.slice none 0 0), .lit (.slice none 0 0), .slr 0 0 2 0, .int .i64 (0)]], 9, 0, i4, .int .i64 (0), 187, 0, [], none⟩
theorem t24 : Tab2Ok Tryz.prog [] := fun x hx => by cases hx
set_option maxRecDepth 1000000 in
theorem q24 : evEnt Tryz.prog 417 100000 [] [] 60 f24 = true := by kernel_rfl
theorem r24 : FEntOk Tryz.prog f24 := fent_of_ev none_ok t24 mixed (fnsOk_of 417 fns) rfl q24
theorem x24 : fitE f24 = true := by kernel_rfl
noncomputable def f25 : FEnt := ⟨70, [.agg [.lit (.slice none 0 0), .lit (.slice none 0 0), .slr 0 0 2 0, .int .i64 (0)], .int .i64 (0)], 9, 0, i4, .tup [.agg [.sl 201 0 3 3, .sl 202 0 3 3, .slr 228 0 3 0, .sl 203 0 3 3, .sl 204 0 3 3], .int .i64 (0)], 236, 0, [⟨201, 0, [.lit (.slice none 0 0), .slr 215 0 2 0, .slr 217 0 1 0]⟩, ⟨202, 0, [.sl 208 0 1 1, .sl 213 0 2 2, .lit (.slice none 0 0)]⟩, ⟨228, 1, [.int .i64 (0), .int .i64 (1), .int .i64 (2)]⟩, ⟨203, 0, [.int .i64 (-1), .int .i64 (0), .int .i64 (1)]⟩, ⟨204, 0, [.lit (.slice none 0 0), .slr 243 0 1 0, .lit (.slice none 0 0)]⟩, ⟨215, 1, [.int .i64 (0), .int .i64 (1)]⟩, ⟨217, 1, [.int .i64 (1)]⟩, ⟨208, 0, [.int .i64 (1)]⟩, ⟨213, 0, [.int .i64 (1), .int .i64 (2)]⟩, ⟨243, 1, [.int .i64 (1)]⟩], none⟩
theorem t25 : Tab2Ok Tryz.prog [⟨f24, [0, 1, 2, 3, 4, 5, 6, 7, 8], []⟩, ⟨f3, [], []⟩, ⟨f4, [], []⟩, ⟨f5, [], []⟩] := fun x hx => by
  simp only [List.mem_cons, List.not_mem_nil, or_false] at hx
  rcases hx with rfl | rfl | rfl | rfl
  · exact ⟨r24, x24, by kernel_rfl⟩
  · exact ⟨r3, x3, by kernel_rfl⟩
  · exact ⟨r4, x4, by kernel_rfl⟩
  · exact ⟨r5, x5, by kernel_rfl⟩
set_option maxRecDepth 1000000 in
theorem q25 : evEnt Tryz.prog 417 100000 [] [⟨f24, [0, 1, 2, 3, 4, 5, 6, 7, 8], []⟩, ⟨f3, [], []⟩, ⟨f4, [], []⟩, ⟨f5, [], []⟩] 60 f25 = true := by kernel_rfl
theorem r25 : FEntOk Tryz.prog f25 := fent_of_ev none_ok t25 mixed (fnsOk_of 417 fns) rfl q25
theorem x25 : fitE f25 = true := by kernel_rfl
noncomputable def f26 : FEnt := ⟨18, [.agg [.lit (.slice none 0 0), .lit (.slice none 0 0), .slr 0 0 2 0, .int .i64 (0)], .int .i64 (0), .agg [.int .i64 (-1), .lit (.slice none 0 0)]], 9, 0, i3, .tup [.agg [.lit (.slice none 0 0), .lit (.slice none 0 0), .slr 1101 0 2 0, .int .i64 (0)], .sl 1102 0 1 1, .int .i64 (0)], 1094, 2, [⟨1101, 6, [.lit (.string (bs [102])), .int .i64 (0), .int .i64 (5), .bool false, .lit (.slice none 0 0), .slr 1017 0 4 0, .lit (.string (bs [103])), .int .i64 (1), .int .i64 (2), .bool true, .lit (.slice none 0 0), .slr 1094 0 1 0]⟩, ⟨1102, 0, [.int .i64 (2), .int .i64 (0), .int .i64 (0), .int .i64 (0), .int .i64 (-1)]⟩, ⟨1017, 6, [.slr 1014 0 1 0, .int .i64 (1), .int .i64 (0), .int .i64 (0), .int .i64 (1), .int .i64 (0), .slr 685 13 5 1, .int .i64 (2), .int .i64 (4), .int .i64 (0), .int .i64 (3), .int .i64 (2), .slr 690 0 1 0, .int .i64 (3), .int .i64 (0), .int .i64 (0), .int .i64 (0), .int .i64 (0), .slr 1031 0 1 0, .int .i64 (1), .int .i64 (0), .int .i64 (0), .int .i64 (1), .int .i64 (0)]⟩, ⟨1094, 6, [.slr 1099 0 1 0, .int .i64 (3), .int .i64 (1), .int .i64 (0), .int .i64 (0), .int .i64 (0)]⟩, ⟨1014, 13, [.int .i64 (1), .int .i64 (0), .int .i64 (0), .int .i64 (-1), .int .i64 (0), .int .i64 (0), .int .i64 (0), .int .i64 (0), .int .i64 (0), .int .i64 (0), .lit (.slice none 0 0), .lit (.slice none 0 0), .lit (.slice none 0 0)]⟩, ⟨685, 13, [.int .i64 (10), .int .i64 (0), .int .i64 (0), .int .i64 (0), .int .i64 (0), .int .i64 (0), .int .i64 (0), .int .i64 (0), .int .i64 (0), .int .i64 (0), .slr 654 0 2 0, .lit (.slice none 0 0), .slr 656 0 2 0, .int .i64 (2), .int .i64 (1), .int .i64 (1), .int .i64 (-1), .int .i64 (2), .int .i64 (-1), .int .i64 (3), .int .i64 (0), .int .i64 (0), .int .i64 (0), .lit (.slice none 0 0), .lit (.slice none 0 0), .lit (.slice none 0 0), .int .i64 (9), .int .i64 (0), .int .i64 (2), .int .i64 (0), .int .i64 (0), .int .i64 (0), .int .i64 (0), .int .i64 (0), .int .i64 (0), .int .i64 (1), .slr 668 0 1 0, .lit (.slice none 0 0), .lit (.slice none 0 0), .int .i64 (8), .int .i64 (0), .int .i64 (-1), .int .i64 (2), .int .i64 (0), .int .i64 (0), .int .i64 (0), .int .i64 (0), .int .i64 (0), .int .i64 (0), .lit (.slice none 0 0), .lit (.slice none 0 0), .lit (.slice none 0 0), .int .i64 (2), .int .i64 (1), .int .i64 (3), .int .i64 (0), .int .i64 (0), .int .i64 (-1), .int .i64 (1), .int .i64 (0), .int .i64 (0), .int .i64 (0), .lit (.slice none 0 0), .lit (.slice none 0 0), .lit (.slice none 0 0), .int .i64 (2), .int .i64 (13), .int .i64 (4), .int .i64 (3), .int .i64 (0), .int .i64 (-1), .int .i64 (3), .int .i64 (0), .int .i64 (0), .int .i64 (0), .lit (.slice none 0 0), .lit (.slice none 0 0), .lit (.slice none 0 0)]⟩, ⟨690, 13, [.int .i64 (8), .int .i64 (0), .int .i64 (-1), .int .i64 (1), .int .i64 (0), .int .i64 (0), .int .i64 (0), .int .i64 (0), .int .i64 (0), .int .i64 (0), .lit (.slice none 0 0), .lit (.slice none 0 0), .lit (.slice none 0 0)]⟩, ⟨1031, 13, [.int .i64 (1), .int .i64 (0), .int .i64 (0), .int .i64 (3), .int .i64 (0), .int .i64 (0), .int .i64 (0), .int .i64 (0), .int .i64 (0), .int .i64 (0), .lit (.slice none 0 0), .lit (.slice none 0 0), .lit (.slice none 0 0)]⟩, ⟨1099, 13, [.int .i64 (2), .int .i64 (3), .int .i64 (1), .int .i64 (0), .int .i64 (0), .int .i64 (-1), .int .i64 (1), .int .i64 (0), .int .i64 (0), .int .i64 (0), .lit (.slice none 0 0), .lit (.slice none 0 0), .lit (.slice none 0 0)]⟩, ⟨654, 2, [.int .i64 (-1), .int .i64 (0), .int .i64 (3), .int .i64 (0)]⟩, ⟨656, 1, [.int .i64 (0), .int .i64 (1)]⟩, ⟨668, 2, [.int .i64 (0), .int .i64 (0)]⟩], none⟩
theorem t26 : Tab2Ok Tryz.prog [⟨f22, [0, 1, 2, 3, 4, 5, 6, 7, 8], []⟩, ⟨f23, [0, 1, 2, 3, 4, 5, 6, 7, 8], []⟩, ⟨f25, [757, 649, 750, 685, 690, 755, 654, 656, 668], []⟩] := fun x hx => by
  simp only [List.mem_cons, List.not_mem_nil, or_false] at hx
  rcases hx with rfl | rfl | rfl
  · exact ⟨r22, x22, by kernel_rfl⟩
  · exact ⟨r23, x23, by kernel_rfl⟩
  · exact ⟨r25, x25, by kernel_rfl⟩
set_option maxRecDepth 1000000 in
theorem q26 : evEnt Tryz.prog 417 100000 [] [⟨f22, [0, 1, 2, 3, 4, 5, 6, 7, 8], []⟩, ⟨f23, [0, 1, 2, 3, 4, 5, 6, 7, 8], []⟩, ⟨f25, [757, 649, 750, 685, 690, 755, 654, 656, 668], []⟩] 60 f26 = true := by kernel_rfl
theorem r26 : FEntOk Tryz.prog f26 := fent_of_ev none_ok t26 mixed (fnsOk_of 417 fns) rfl q26
theorem x26 : fitE f26 = true := by kernel_rfl
noncomputable def f27 : FEnt := ⟨5, [.agg [.lit (.slice none 0 0), .lit (.slice none 0 0), .slr 0 0 2 0, .int .i64 (0)], .int .i64 (2)], 7, 0, i1, .tup [.slr 359 0 18 0, .int .i64 (0)], 353, 0, [⟨359, 2, [.int .i64 (1), .int .i64 (0), .int .i64 (1), .int .i64 (1), .int .i64 (4), .int .i64 (0), .int .i64 (4), .int .i64 (1), .int .i64 (5), .int .i64 (0), .int .i64 (5), .int .i64 (1), .int .i64 (7), .int .i64 (0), .int .i64 (7), .int .i64 (1), .int .i64 (4), .int .i64 (0), .int .i64 (4), .int .i64 (1), .int .i64 (5), .int .i64 (0), .int .i64 (5), .int .i64 (1), .int .i64 (6), .int .i64 (0), .int .i64 (6), .int .i64 (1), .int .i64 (2), .int .i64 (0), .int .i64 (2), .int .i64 (1), .int .i64 (3), .int .i64 (0), .int .i64 (3), .int .i64 (1)]⟩], none⟩
theorem t27 : Tab2Ok Tryz.prog [⟨f8, [0, 1, 2, 3, 4, 5, 6], []⟩] := fun x hx => by
  simp only [List.mem_cons, List.not_mem_nil, or_false] at hx
  rcases hx with rfl
  · exact ⟨r8, x8, by kernel_rfl⟩
set_option maxRecDepth 1000000 in
theorem q27 : evEnt Tryz.prog 417 100000 [] [⟨f8, [0, 1, 2, 3, 4, 5, 6], []⟩] 60 f27 = true := by kernel_rfl
theorem r27 : FEntOk Tryz.prog f27 := fent_of_ev none_ok t27 mixed (fnsOk_of 417 fns) rfl q27
theorem x27 : fitE f27 = true := by kernel_rfl
noncomputable def f28 : FEnt := ⟨5, [.agg [.lit (.slice none 0 0), .lit (.slice none 0 0), .slr 0 0 2 0, .int .i64 (0)], .int .i64 (4)], 7, 0, i1, .tup [.lit (.slice none 0 0), .int .i64 (190)], 317, 0, [], none⟩
theorem t28 : Tab2Ok Tryz.prog [⟨f8, [0, 1, 2, 3, 4, 5, 6], []⟩] := fun x hx => by
  simp only [List.mem_cons, List.not_mem_nil, or_false] at hx
  rcases hx with rfl
  · exact ⟨r8, x8, by kernel_rfl⟩
set_option maxRecDepth 1000000 in
theorem q28 : evEnt Tryz.prog 417 100000 [] [⟨f8, [0, 1, 2, 3, 4, 5, 6], []⟩] 60 f28 = true := by kernel_rfl
theorem r28 : FEntOk Tryz.prog f28 := fent_of_ev none_ok t28 mixed (fnsOk_of 417 fns) rfl q28
theorem x28 : fitE f28 = true := by kernel_rfl
noncomputable def f29 : FEnt := ⟨90, [.agg [.lit (.slice none 0 0), .lit (.slice none 0 0), .slr 0 0 2 0, .int .i64 (0)], .int .i64 (0), .agg [.int .i64 (-1), .lit (.slice none 0 0)]], 7, 0, i1, .tup [.agg [.lit (.slice none 0 0), .lit (.slice none 0 0), .slr 322 0 2 0, .int .i64 (0)], .slr 414 0 1 0, .int .i64 (0)], 426, 0, [⟨322, 6, [.lit (.string (bs [102])), .int .i64 (0), .int .i64 (5), .bool false, .lit (.slice none 0 0), .slr 403 0 5 0, .lit (.string (bs [103])), .int .i64 (1), .int .i64 (2), .bool true, .lit (.slice none 0 0), .slr 315 0 1 0]⟩, ⟨414, 5, [.int .i64 (9), .int .i64 (1), .int .i64 (0), .int .i64 (1), .int .i64 (1)]⟩, ⟨403, 6, [.lit (.slice none 0 0), .int .i64 (1), .int .i64 (0), .int .i64 (0), .int .i64 (1), .int .i64 (0), .slr 361 0 3 0, .int .i64 (1), .int .i64 (0), .int .i64 (0), .int .i64 (3), .int .i64 (0), .slr 268 0 1 0, .int .i64 (3), .int .i64 (0), .int .i64 (0), .int .i64 (0), .int .i64 (0), .slr 395 0 2 0, .int .i64 (1), .int .i64 (0), .int .i64 (0), .int .i64 (4), .int .i64 (0), .slr 401 0 3 0, .int .i64 (2), .int .i64 (2), .int .i64 (0), .int .i64 (1), .int .i64 (2)]⟩, ⟨315, 6, [.slr 320 0 1 0, .int .i64 (3), .int .i64 (1), .int .i64 (0), .int .i64 (0), .int .i64 (0)]⟩, ⟨361, 13, [.int .i64 (2), .int .i64 (1), .int .i64 (1), .int .i64 (-1), .int .i64 (2), .int .i64 (-1), .int .i64 (3), .int .i64 (0), .int .i64 (0), .int .i64 (0), .lit (.slice none 0 0), .lit (.slice none 0 0), .lit (.slice none 0 0), .int .i64 (1), .int .i64 (0), .int .i64 (3), .int .i64 (0), .int .i64 (0), .int .i64 (0), .int .i64 (0), .int .i64 (0), .int .i64 (0), .int .i64 (0), .lit (.slice none 0 0), .lit (.slice none 0 0), .lit (.slice none 0 0), .int .i64 (1), .int .i64 (0), .int .i64 (4), .int .i64 (-1), .int .i64 (0), .int .i64 (0), .int .i64 (0), .int .i64 (0), .int .i64 (0), .int .i64 (0), .lit (.slice none 0 0), .lit (.slice none 0 0), .lit (.slice none 0 0)]⟩, ⟨268, 13, [.int .i64 (8), .int .i64 (0), .int .i64 (-1), .int .i64 (1), .int .i64 (0), .int .i64 (0), .int .i64 (0), .int .i64 (0), .int .i64 (0), .int .i64 (0), .lit (.slice none 0 0), .lit (.slice none 0 0), .lit (.slice none 0 0)]⟩, ⟨395, 13, [.int .i64 (2), .int .i64 (3), .int .i64 (4), .int .i64 (3), .int .i64 (0), .int .i64 (-1), .int .i64 (1), .int .i64 (0), .int .i64 (0), .int .i64 (0), .lit (.slice none 0 0), .lit (.slice none 0 0), .lit (.slice none 0 0), .int .i64 (1), .int .i64 (0), .int .i64 (2), .int .i64 (4), .int .i64 (0), .int .i64 (0), .int .i64 (0), .int .i64 (0), .int .i64 (0), .int .i64 (0), .lit (.slice none 0 0), .lit (.slice none 0 0), .lit (.slice none 0 0)]⟩, ⟨401, 13, [.int .i64 (8), .int .i64 (0), .int .i64 (-1), .int .i64 (2), .int .i64 (0), .int .i64 (0), .int .i64 (0), .int .i64 (0), .int .i64 (0), .int .i64 (0), .lit (.slice none 0 0), .lit (.slice none 0 0), .lit (.slice none 0 0), .int .i64 (2), .int .i64 (1), .int .i64 (0), .int .i64 (0), .int .i64 (0), .int .i64 (-1), .int .i64 (1), .int .i64 (0), .int .i64 (0), .int .i64 (0), .lit (.slice none 0 0), .lit (.slice none 0 0), .lit (.slice none 0 0), .int .i64 (2), .int .i64 (13), .int .i64 (2), .int .i64 (0), .int .i64 (0), .int .i64 (-1), .int .i64 (3), .int .i64 (0), .int .i64 (0), .int .i64 (0), .lit (.slice none 0 0), .lit (.slice none 0 0), .lit (.slice none 0 0)]⟩, ⟨320, 13, [.int .i64 (2), .int .i64 (3), .int .i64 (1), .int .i64 (0), .int .i64 (0), .int .i64 (-1), .int .i64 (1), .int .i64 (0), .int .i64 (0), .int .i64 (0), .lit (.slice none 0 0), .lit (.slice none 0 0), .lit (.slice none 0 0)]⟩], none⟩
theorem t29 : Tab2Ok Tryz.prog [⟨f7, [0, 1, 2, 3, 4, 5, 6], []⟩] := fun x hx => by
  simp only [List.mem_cons, List.not_mem_nil, or_false] at hx
  rcases hx with rfl
  · exact ⟨r7, x7, by kernel_rfl⟩
set_option maxRecDepth 1000000 in
theorem q29 : evEnt Tryz.prog 417 100000 [] [⟨f7, [0, 1, 2, 3, 4, 5, 6], []⟩] 60 f29 = true := by kernel_rfl
theorem r29 : FEntOk Tryz.prog f29 := fent_of_ev none_ok t29 mixed (fnsOk_of 417 fns) rfl q29
theorem x29 : fitE f29 = true := by kernel_rfl
end Go.Proofs.YtbkgehknhjkaoaaGreatDoor.Pipe
