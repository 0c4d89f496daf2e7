/- Calls of the law's run: what each finds, hands back and lays. -/
import Derived.Test.YtbkgehknhjkaoaaGreatDoorPipeG1
namespace Go.Proofs.YtbkgehknhjkaoaaGreatDoor.Pipe
open Go Go.Proofs.YtbkgehknhjkaoaaGreatDoor.Ev
noncomputable def f6 : FEnt := ⟨70, [.agg [.lit (.slice none 0 0), .lit (.slice none 0 0), .slr 0 0 2 0, .int .i64 (0)], .int .i64 (0)], 7, 0, i1, .tup [.agg [.sl 178 0 3 3, .sl 179 0 3 3, .slr 205 0 3 0, .sl 180 0 3 3, .sl 181 0 3 3], .int .i64 (0)], 215, 0, [⟨178, 0, [.lit (.slice none 0 0), .slr 192 0 2 0, .slr 194 0 1 0]⟩, ⟨179, 0, [.sl 185 0 1 1, .sl 190 0 2 2, .lit (.slice none 0 0)]⟩, ⟨205, 1, [.int .i64 (0), .int .i64 (1), .int .i64 (2)]⟩, ⟨180, 0, [.int .i64 (-1), .int .i64 (0), .int .i64 (1)]⟩, ⟨181, 0, [.lit (.slice none 0 0), .slr 220 0 1 0, .lit (.slice none 0 0)]⟩, ⟨192, 1, [.int .i64 (0), .int .i64 (1)]⟩, ⟨194, 1, [.int .i64 (1)]⟩, ⟨185, 0, [.int .i64 (1)]⟩, ⟨190, 0, [.int .i64 (1), .int .i64 (2)]⟩, ⟨220, 1, [.int .i64 (1)]⟩], none⟩
theorem t6 : Tab2Ok Tryz.prog [⟨f2, [0, 1, 2, 3, 4, 5, 6], []⟩, ⟨f3, [], []⟩, ⟨f4, [], []⟩, ⟨f5, [], []⟩] := fun x hx => by
  simp only [List.mem_cons, List.not_mem_nil, or_false] at hx
  rcases hx with rfl | rfl | rfl | rfl
  · exact ⟨r2, x2, by kernel_rfl⟩
  · exact ⟨r3, x3, by kernel_rfl⟩
  · exact ⟨r4, x4, by kernel_rfl⟩
  · exact ⟨r5, x5, by kernel_rfl⟩
set_option maxRecDepth 1000000 in
theorem q6 : evEnt Tryz.prog 417 100000 [] [⟨f2, [0, 1, 2, 3, 4, 5, 6], []⟩, ⟨f3, [], []⟩, ⟨f4, [], []⟩, ⟨f5, [], []⟩] 60 f6 = true := by kernel_rfl
theorem r6 : FEntOk Tryz.prog f6 := fent_of_ev none_ok t6 mixed (fnsOk_of 417 fns) rfl q6
theorem x6 : fitE f6 = true := by kernel_rfl
noncomputable def f7 : FEnt := ⟨14, [.agg [.lit (.slice none 0 0), .lit (.slice none 0 0), .slr 0 0 2 0, .int .i64 (0)], .int .i64 (0), .agg [.int .i64 (0), .lit (.slice none 0 0)]], 7, 0, i1, .tup [.agg [.lit (.slice none 0 0), .lit (.slice none 0 0), .slr 319 0 2 0, .int .i64 (0)], .lit (.slice none 0 0), .int .i64 (0)], 313, 0, [⟨319, 6, [.lit (.string (bs [102])), .int .i64 (0), .int .i64 (3), .bool false, .lit (.slice none 0 0), .slr 233 0 3 0, .lit (.string (bs [103])), .int .i64 (1), .int .i64 (2), .bool true, .lit (.slice none 0 0), .slr 312 0 1 0]⟩, ⟨233, 6, [.lit (.slice none 0 0), .int .i64 (1), .int .i64 (0), .int .i64 (0), .int .i64 (1), .int .i64 (0), .slr 260 0 5 0, .int .i64 (2), .int .i64 (2), .int .i64 (0), .int .i64 (1), .int .i64 (2), .slr 265 0 1 0, .int .i64 (3), .int .i64 (0), .int .i64 (0), .int .i64 (0), .int .i64 (0)]⟩, ⟨312, 6, [.slr 317 0 1 0, .int .i64 (3), .int .i64 (1), .int .i64 (0), .int .i64 (0), .int .i64 (0)]⟩, ⟨260, 13, [.int .i64 (2), .int .i64 (1), .int .i64 (1), .int .i64 (-1), .int .i64 (2), .int .i64 (-1), .int .i64 (3), .int .i64 (0), .int .i64 (0), .int .i64 (0), .lit (.slice none 0 0), .lit (.slice none 0 0), .lit (.slice none 0 0), .int .i64 (9), .int .i64 (0), .int .i64 (2), .int .i64 (0), .int .i64 (0), .int .i64 (0), .int .i64 (0), .int .i64 (0), .int .i64 (0), .int .i64 (1), .slr 243 0 1 0, .lit (.slice none 0 0), .lit (.slice none 0 0), .int .i64 (8), .int .i64 (0), .int .i64 (-1), .int .i64 (2), .int .i64 (0), .int .i64 (0), .int .i64 (0), .int .i64 (0), .int .i64 (0), .int .i64 (0), .lit (.slice none 0 0), .lit (.slice none 0 0), .lit (.slice none 0 0), .int .i64 (2), .int .i64 (1), .int .i64 (0), .int .i64 (0), .int .i64 (0), .int .i64 (-1), .int .i64 (1), .int .i64 (0), .int .i64 (0), .int .i64 (0), .lit (.slice none 0 0), .lit (.slice none 0 0), .lit (.slice none 0 0), .int .i64 (2), .int .i64 (13), .int .i64 (2), .int .i64 (0), .int .i64 (0), .int .i64 (-1), .int .i64 (3), .int .i64 (0), .int .i64 (0), .int .i64 (0), .lit (.slice none 0 0), .lit (.slice none 0 0), .lit (.slice none 0 0)]⟩, ⟨265, 13, [.int .i64 (8), .int .i64 (0), .int .i64 (-1), .int .i64 (1), .int .i64 (0), .int .i64 (0), .int .i64 (0), .int .i64 (0), .int .i64 (0), .int .i64 (0), .lit (.slice none 0 0), .lit (.slice none 0 0), .lit (.slice none 0 0)]⟩, ⟨317, 13, [.int .i64 (2), .int .i64 (3), .int .i64 (1), .int .i64 (0), .int .i64 (0), .int .i64 (-1), .int .i64 (1), .int .i64 (0), .int .i64 (0), .int .i64 (0), .lit (.slice none 0 0), .lit (.slice none 0 0), .lit (.slice none 0 0)]⟩, ⟨243, 2, [.int .i64 (0), .int .i64 (0)]⟩], none⟩
theorem t7 : Tab2Ok Tryz.prog [⟨f6, [0, 1, 2, 3, 4, 5, 6], []⟩] := fun x hx => by
  simp only [List.mem_cons, List.not_mem_nil, or_false] at hx
  rcases hx with rfl
  · exact ⟨r6, x6, by kernel_rfl⟩
set_option maxRecDepth 1000000 in
theorem q7 : evEnt Tryz.prog 417 100000 [] [⟨f6, [0, 1, 2, 3, 4, 5, 6], []⟩] 60 f7 = true := by kernel_rfl
theorem r7 : FEntOk Tryz.prog f7 := fent_of_ev none_ok t7 mixed (fnsOk_of 417 fns) rfl q7
theorem x7 : fitE f7 = true := by kernel_rfl
noncomputable def f8 : FEnt := ⟨12, [.agg [.lit (.slice none 0 0), .lit (.slice none 0 0), .slr 0 0 2 0, .int .i64 (0)], .agg [.int .i64 (0), .lit (.slice none 0 0)]], 7, 0, i1, .int .i64 (0), 316, 0, [], none⟩
theorem t8 : Tab2Ok Tryz.prog [⟨f7, [0, 1, 2, 3, 4, 5, 6], []⟩] := fun x hx => by
  simp only [List.mem_cons, List.not_mem_nil, or_false] at hx
  rcases hx with rfl
  · exact ⟨r7, x7, by kernel_rfl⟩
set_option maxRecDepth 1000000 in
theorem q8 : evEnt Tryz.prog 417 100000 [] [⟨f7, [0, 1, 2, 3, 4, 5, 6], []⟩] 60 f8 = true := by kernel_rfl
theorem r8 : FEntOk Tryz.prog f8 := fent_of_ev none_ok t8 mixed (fnsOk_of 417 fns) rfl q8
theorem x8 : fitE f8 = true := by kernel_rfl
noncomputable def f9 : FEnt := ⟨5, [.agg [.lit (.slice none 0 0), .lit (.slice none 0 0), .slr 0 0 2 0, .int .i64 (0)], .int .i64 (3)], 7, 0, i1, .tup [.slr 371 0 24 0, .int .i64 (0)], 365, 0, [⟨371, 2, [.int .i64 (9), .int .i64 (0), .int .i64 (9), .int .i64 (1), .int .i64 (1), .int .i64 (0), .int .i64 (1), .int .i64 (1), .int .i64 (4), .int .i64 (0), .int .i64 (4), .int .i64 (1), .int .i64 (5), .int .i64 (0), .int .i64 (5), .int .i64 (1), .int .i64 (7), .int .i64 (0), .int .i64 (7), .int .i64 (1), .int .i64 (8), .int .i64 (0), .int .i64 (8), .int .i64 (1), .int .i64 (4), .int .i64 (0), .int .i64 (4), .int .i64 (1), .int .i64 (5), .int .i64 (0), .int .i64 (5), .int .i64 (1), .int .i64 (7), .int .i64 (0), .int .i64 (7), .int .i64 (1), .int .i64 (6), .int .i64 (0), .int .i64 (6), .int .i64 (1), .int .i64 (2), .int .i64 (0), .int .i64 (2), .int .i64 (1), .int .i64 (3), .int .i64 (0), .int .i64 (3), .int .i64 (1)]⟩], none⟩
theorem t9 : Tab2Ok Tryz.prog [⟨f8, [0, 1, 2, 3, 4, 5, 6], []⟩] := fun x hx => by
  simp only [List.mem_cons, List.not_mem_nil, or_false] at hx
  rcases hx with rfl
  · exact ⟨r8, x8, by kernel_rfl⟩
set_option maxRecDepth 1000000 in
theorem q9 : evEnt Tryz.prog 417 100000 [] [⟨f8, [0, 1, 2, 3, 4, 5, 6], []⟩] 60 f9 = true := by kernel_rfl
theorem r9 : FEntOk Tryz.prog f9 := fent_of_ev none_ok t9 mixed (fnsOk_of 417 fns) rfl q9
theorem x9 : fitE f9 = true := by kernel_rfl
noncomputable def f10 : FEnt := ⟨180, [.agg [.lit (.slice none 0 0), .lit (.slice none 0 0), .slr 0 0 2 0, .int .i64 (0)]], 7, 0, i2, .int .i64 (0), 166, 0, [], none⟩
theorem t10 : Tab2Ok Tryz.prog [] := fun x hx => by cases hx
set_option maxRecDepth 1000000 in
theorem q10 : evEnt Tryz.prog 417 100000 [] [] 60 f10 = true := by kernel_rfl
theorem r10 : FEntOk Tryz.prog f10 := fent_of_ev none_ok t10 mixed (fnsOk_of 417 fns) rfl q10
theorem x10 : fitE f10 = true := by kernel_rfl
noncomputable def f11 : FEnt := ⟨70, [.agg [.lit (.slice none 0 0), .lit (.slice none 0 0), .slr 0 0 2 0, .int .i64 (0)], .int .i64 (0)], 7, 0, i2, .tup [.agg [.sl 178 0 3 3, .sl 179 0 3 3, .slr 205 0 3 0, .sl 180 0 3 3, .sl 181 0 3 3], .int .i64 (0)], 215, 0, [⟨178, 0, [.lit (.slice none 0 0), .slr 192 0 2 0, .slr 194 0 1 0]⟩, ⟨179, 0, [.sl 185 0 1 1, .sl 190 0 2 2, .lit (.slice none 0 0)]⟩, ⟨205, 1, [.int .i64 (0), .int .i64 (1), .int .i64 (2)]⟩, ⟨180, 0, [.int .i64 (-1), .int .i64 (0), .int .i64 (1)]⟩, ⟨181, 0, [.lit (.slice none 0 0), .slr 220 0 1 0, .lit (.slice none 0 0)]⟩, ⟨192, 1, [.int .i64 (0), .int .i64 (1)]⟩, ⟨194, 1, [.int .i64 (1)]⟩, ⟨185, 0, [.int .i64 (1)]⟩, ⟨190, 0, [.int .i64 (1), .int .i64 (2)]⟩, ⟨220, 1, [.int .i64 (1)]⟩], none⟩
theorem t11 : Tab2Ok Tryz.prog [⟨f10, [0, 1, 2, 3, 4, 5, 6], []⟩, ⟨f3, [], []⟩, ⟨f4, [], []⟩, ⟨f5, [], []⟩] := fun x hx => by
  simp only [List.mem_cons, List.not_mem_nil, or_false] at hx
  rcases hx with rfl | rfl | rfl | rfl
  · exact ⟨r10, x10, by kernel_rfl⟩
  · exact ⟨r3, x3, by kernel_rfl⟩
  · exact ⟨r4, x4, by kernel_rfl⟩
  · exact ⟨r5, x5, by kernel_rfl⟩
set_option maxRecDepth 1000000 in
theorem q11 : evEnt Tryz.prog 417 100000 [] [⟨f10, [0, 1, 2, 3, 4, 5, 6], []⟩, ⟨f3, [], []⟩, ⟨f4, [], []⟩, ⟨f5, [], []⟩] 60 f11 = true := by kernel_rfl
theorem r11 : FEntOk Tryz.prog f11 := fent_of_ev none_ok t11 mixed (fnsOk_of 417 fns) rfl q11
theorem x11 : fitE f11 = true := by kernel_rfl
noncomputable def f12 : FEnt := ⟨14, [.agg [.lit (.slice none 0 0), .lit (.slice none 0 0), .slr 0 0 2 0, .int .i64 (0)], .int .i64 (0), .agg [.int .i64 (-1), .lit (.slice none 0 0)]], 7, 0, i1, .tup [.agg [.lit (.slice none 0 0), .lit (.slice none 0 0), .slr 1012 0 2 0, .int .i64 (0)], .sl 1013 0 1 1, .int .i64 (0)], 1007, 0, [⟨1012, 6, [.lit (.string (bs [102])), .int .i64 (0), .int .i64 (3), .bool false, .lit (.slice none 0 0), .sl 877 0 3 3, .lit (.string (bs [103])), .int .i64 (1), .int .i64 (2), .bool true, .lit (.slice none 0 0), .slr 1005 0 1 0]⟩, ⟨1013, 0, [.int .i64 (3), .int .i64 (0), .int .i64 (0), .int .i64 (0), .int .i64 (-1)]⟩, ⟨877, 0, [.lit (.slice none 0 0), .int .i64 (1), .int .i64 (0), .int .i64 (0), .int .i64 (1), .int .i64 (0), .slr 871 0 5 0, .int .i64 (2), .int .i64 (2), .int .i64 (0), .int .i64 (1), .int .i64 (2), .slr 876 0 1 0, .int .i64 (3), .int .i64 (0), .int .i64 (0), .int .i64 (0), .int .i64 (0)]⟩, ⟨1005, 6, [.slr 1010 0 1 0, .int .i64 (3), .int .i64 (1), .int .i64 (0), .int .i64 (0), .int .i64 (0)]⟩, ⟨871, 13, [.int .i64 (2), .int .i64 (1), .int .i64 (0), .int .i64 (-1), .int .i64 (2), .int .i64 (-1), .int .i64 (3), .int .i64 (0), .int .i64 (0), .int .i64 (0), .lit (.slice none 0 0), .lit (.slice none 0 0), .lit (.slice none 0 0), .int .i64 (9), .int .i64 (0), .int .i64 (2), .int .i64 (0), .int .i64 (0), .int .i64 (0), .int .i64 (0), .int .i64 (0), .int .i64 (0), .int .i64 (1), .slr 854 0 1 0, .lit (.slice none 0 0), .lit (.slice none 0 0), .int .i64 (8), .int .i64 (0), .int .i64 (-1), .int .i64 (2), .int .i64 (0), .int .i64 (0), .int .i64 (0), .int .i64 (0), .int .i64 (0), .int .i64 (0), .lit (.slice none 0 0), .lit (.slice none 0 0), .lit (.slice none 0 0), .int .i64 (2), .int .i64 (1), .int .i64 (1), .int .i64 (1), .int .i64 (0), .int .i64 (-1), .int .i64 (1), .int .i64 (0), .int .i64 (0), .int .i64 (0), .lit (.slice none 0 0), .lit (.slice none 0 0), .lit (.slice none 0 0), .int .i64 (2), .int .i64 (13), .int .i64 (2), .int .i64 (1), .int .i64 (0), .int .i64 (-1), .int .i64 (3), .int .i64 (0), .int .i64 (0), .int .i64 (0), .lit (.slice none 0 0), .lit (.slice none 0 0), .lit (.slice none 0 0)]⟩, ⟨876, 13, [.int .i64 (8), .int .i64 (0), .int .i64 (-1), .int .i64 (0), .int .i64 (0), .int .i64 (0), .int .i64 (0), .int .i64 (0), .int .i64 (0), .int .i64 (0), .lit (.slice none 0 0), .lit (.slice none 0 0), .lit (.slice none 0 0)]⟩, ⟨1010, 13, [.int .i64 (2), .int .i64 (3), .int .i64 (1), .int .i64 (0), .int .i64 (0), .int .i64 (-1), .int .i64 (1), .int .i64 (0), .int .i64 (0), .int .i64 (0), .lit (.slice none 0 0), .lit (.slice none 0 0), .lit (.slice none 0 0)]⟩, ⟨854, 2, [.int .i64 (1), .int .i64 (0)]⟩], none⟩
theorem t12 : Tab2Ok Tryz.prog [⟨f6, [0, 1, 2, 3, 4, 5, 6], []⟩, ⟨f6, [288, 1, 281, 3, 4, 286, 6], []⟩, ⟨f11, [611, 543, 604, 537, 542, 609, 520], []⟩] := fun x hx => by
  simp only [List.mem_cons, List.not_mem_nil, or_false] at hx
  rcases hx with rfl | rfl | rfl
  · exact ⟨r6, x6, by kernel_rfl⟩
  · exact ⟨r6, x6, by kernel_rfl⟩
  · exact ⟨r11, x11, by kernel_rfl⟩
set_option maxRecDepth 1000000 in
theorem q12 : evEnt Tryz.prog 417 100000 [] [⟨f6, [0, 1, 2, 3, 4, 5, 6], []⟩, ⟨f6, [288, 1, 281, 3, 4, 286, 6], []⟩, ⟨f11, [611, 543, 604, 537, 542, 609, 520], []⟩] 60 f12 = true := by kernel_rfl
theorem r12 : FEntOk Tryz.prog f12 := fent_of_ev none_ok t12 mixed (fnsOk_of 417 fns) rfl q12
theorem x12 : fitE f12 = true := by kernel_rfl
noncomputable def f13 : FEnt := ⟨12, [.agg [.lit (.slice none 0 0), .lit (.slice none 0 0), .slr 0 0 2 0, .int .i64 (0)], .agg [.int .i64 (-1), .lit (.slice none 0 0)]], 7, 0, i1, .int .i64 (0), 1010, 0, [], none⟩
theorem t13 : Tab2Ok Tryz.prog [⟨f12, [0, 1, 2, 3, 4, 5, 6], []⟩] := fun x hx => by
  simp only [List.mem_cons, List.not_mem_nil, or_false] at hx
  rcases hx with rfl
  · exact ⟨r12, x12, by kernel_rfl⟩
set_option maxRecDepth 1000000 in
theorem q13 : evEnt Tryz.prog 417 100000 [] [⟨f12, [0, 1, 2, 3, 4, 5, 6], []⟩] 60 f13 = true := by kernel_rfl
theorem r13 : FEntOk Tryz.prog f13 := fent_of_ev none_ok t13 mixed (fnsOk_of 417 fns) rfl q13
theorem x13 : fitE f13 = true := by kernel_rfl
noncomputable def f14 : FEnt := ⟨5, [.agg [.lit (.slice none 0 0), .lit (.slice none 0 0), .slr 0 0 2 0, .int .i64 (0)], .int .i64 (1)], 7, 0, i1, .tup [.slr 343 0 10 0, .int .i64 (0)], 337, 0, [⟨343, 2, [.int .i64 (1), .int .i64 (0), .int .i64 (1), .int .i64 (1), .int .i64 (4), .int .i64 (0), .int .i64 (4), .int .i64 (1), .int .i64 (6), .int .i64 (0), .int .i64 (6), .int .i64 (1), .int .i64 (2), .int .i64 (0), .int .i64 (2), .int .i64 (1), .int .i64 (3), .int .i64 (0), .int .i64 (3), .int .i64 (1)]⟩], none⟩
theorem t14 : Tab2Ok Tryz.prog [⟨f8, [0, 1, 2, 3, 4, 5, 6], []⟩] := fun x hx => by
  simp only [List.mem_cons, List.not_mem_nil, or_false] at hx
  rcases hx with rfl
  · exact ⟨r8, x8, by kernel_rfl⟩
set_option maxRecDepth 1000000 in
theorem q14 : evEnt Tryz.prog 417 100000 [] [⟨f8, [0, 1, 2, 3, 4, 5, 6], []⟩] 60 f14 = true := by kernel_rfl
theorem r14 : FEntOk Tryz.prog f14 := fent_of_ev none_ok t14 mixed (fnsOk_of 417 fns) rfl q14
theorem x14 : fitE f14 = true := by kernel_rfl
noncomputable def f15 : FEnt := ⟨198, [.map 0], 1, 0, [], .slr 3 0 1 0, 3, 0, [⟨3, 1, [.int .i64 (0)]⟩], some [0]⟩
theorem t15 : Tab2Ok Tryz.prog [] := fun x hx => by cases hx
set_option maxRecDepth 1000000 in
theorem q15 : evEntQ Tryz.prog 417 100000 [] [] 60 ty [0] f15 = true := by kernel_rfl
theorem r15 : FEntOk Tryz.prog f15 := fent_of_evQ none_ok t15 mixed (fnsOk_of 417 fns) ty_ok rfl rfl rfl rfl q15
theorem x15 : fitE f15 = true := by kernel_rfl
noncomputable def f16 : FEnt := ⟨198, [.map 0], 1, 0, [], .slr 5 0 2 0, 5, 0, [⟨5, 1, [.int .i64 (0), .int .i64 (1)]⟩], some [0, 1]⟩
theorem t16 : Tab2Ok Tryz.prog [] := fun x hx => by cases hx
set_option maxRecDepth 1000000 in
theorem q16 : evEntQ Tryz.prog 417 100000 [] [] 60 ty [0, 1] f16 = true := by kernel_rfl
theorem r16 : FEntOk Tryz.prog f16 := fent_of_evQ none_ok t16 mixed (fnsOk_of 417 fns) ty_ok rfl rfl rfl rfl q16
theorem x16 : fitE f16 = true := by kernel_rfl
noncomputable def f17 : FEnt := ⟨198, [.map 0], 1, 0, [], .slr 3 0 1 0, 3, 0, [⟨3, 1, [.int .i64 (1)]⟩], some [1]⟩
theorem t17 : Tab2Ok Tryz.prog [] := fun x hx => by cases hx
set_option maxRecDepth 1000000 in
theorem q17 : evEntQ Tryz.prog 417 100000 [] [] 60 ty [1] f17 = true := by kernel_rfl
theorem r17 : FEntOk Tryz.prog f17 := fent_of_evQ none_ok t17 mixed (fnsOk_of 417 fns) ty_ok rfl rfl rfl rfl q17
theorem x17 : fitE f17 = true := by kernel_rfl
noncomputable def f18 : FEnt := ⟨198, [.map 0], 1, 0, [], .lit (.slice none 0 0), 1, 0, [], some []⟩
theorem t18 : Tab2Ok Tryz.prog [] := fun x hx => by cases hx
set_option maxRecDepth 1000000 in
theorem q18 : evEntQ Tryz.prog 417 100000 [] [] 60 ty [] f18 = true := by kernel_rfl
theorem r18 : FEntOk Tryz.prog f18 := fent_of_evQ none_ok t18 mixed (fnsOk_of 417 fns) ty_ok rfl rfl rfl rfl q18
theorem x18 : fitE f18 = true := by kernel_rfl
end Go.Proofs.YtbkgehknhjkaoaaGreatDoor.Pipe
