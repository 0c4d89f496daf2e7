/- Calls of the law's run: what each finds, hands back and lays. -/
import Derived.Test.YtbkgehknhjkaoaaGreatDoorPipeG1
import Derived.Test.YtbkgehknhjkaoaaGreatDoorPipeG30
namespace Go.Proofs.YtbkgehknhjkaoaaGreatDoor.Pipe
open Go Go.Proofs.YtbkgehknhjkaoaaGreatDoor.Ev
noncomputable def f201 : FEnt := ⟨180, [.agg [.lit (.slice none 0 0), .lit (.slice none 0 0), .slr 0 0 2 0, .int .i64 (0)]], 8, 0, i48, .int .i64 (0), 157, 0, [], none⟩
theorem t201 : Tab2Ok Tryz.prog [] := fun x hx => by cases hx
set_option maxRecDepth 1000000 in
theorem q201 : evEnt Tryz.prog 417 100000 [] [] 60 f201 = true := by kernel_rfl
theorem r201 : FEntOk Tryz.prog f201 := fent_of_ev none_ok t201 mixed (fnsOk_of 417 fns) rfl q201
theorem x201 : fitE f201 = true := by kernel_rfl
noncomputable def f202 : FEnt := ⟨70, [.agg [.lit (.slice none 0 0), .lit (.slice none 0 0), .slr 0 0 2 0, .int .i64 (0)], .int .i64 (0)], 8, 0, i48, .tup [.agg [.sl 170 0 3 3, .sl 171 0 3 3, .slr 197 0 3 0, .sl 172 0 3 3, .sl 173 0 3 3], .int .i64 (0)], 206, 0, [⟨170, 0, [.lit (.slice none 0 0), .slr 184 0 2 0, .slr 186 0 1 0]⟩, ⟨171, 0, [.sl 177 0 1 1, .sl 182 0 2 2, .lit (.slice none 0 0)]⟩, ⟨197, 1, [.int .i64 (0), .int .i64 (1), .int .i64 (2)]⟩, ⟨172, 0, [.int .i64 (-1), .int .i64 (0), .int .i64 (1)]⟩, ⟨173, 0, [.lit (.slice none 0 0), .slr 212 0 1 0, .lit (.slice none 0 0)]⟩, ⟨184, 1, [.int .i64 (0), .int .i64 (1)]⟩, ⟨186, 1, [.int .i64 (1)]⟩, ⟨177, 0, [.int .i64 (1)]⟩, ⟨182, 0, [.int .i64 (1), .int .i64 (2)]⟩, ⟨212, 1, [.int .i64 (1)]⟩], none⟩
theorem t202 : Tab2Ok Tryz.prog [⟨f201, [0, 1, 2, 3, 4, 5, 6, 7], []⟩, ⟨f3, [], []⟩, ⟨f4, [], []⟩, ⟨f5, [], []⟩] := fun x hx => by
  simp only [List.mem_cons, List.not_mem_nil, or_false] at hx
  rcases hx with rfl | rfl | rfl | rfl
  · exact ⟨r201, x201, by kernel_rfl⟩
  · exact ⟨r3, x3, by kernel_rfl⟩
  · exact ⟨r4, x4, by kernel_rfl⟩
  · exact ⟨r5, x5, by kernel_rfl⟩
set_option maxRecDepth 1000000 in
theorem q202 : evEnt Tryz.prog 417 100000 [] [⟨f201, [0, 1, 2, 3, 4, 5, 6, 7], []⟩, ⟨f3, [], []⟩, ⟨f4, [], []⟩, ⟨f5, [], []⟩] 60 f202 = true := by kernel_rfl
theorem r202 : FEntOk Tryz.prog f202 := fent_of_ev none_ok t202 mixed (fnsOk_of 417 fns) rfl q202
theorem x202 : fitE f202 = true := by kernel_rfl
noncomputable def f203 : FEnt := ⟨14, [.agg [.lit (.slice none 0 0), .lit (.slice none 0 0), .slr 0 0 2 0, .int .i64 (0)], .int .i64 (0), .agg [.int .i64 (-1), .lit (.slice none 0 0)]], 11, 0, i45, .tup [.agg [.lit (.slice none 0 0), .lit (.slice none 0 0), .slr 1941 0 2 0, .int .i64 (0)], .sl 1942 0 1 1, .int .i64 (0)], 1932, 0, [⟨1941, 6, [.lit (.string (bs [102])), .int .i64 (0), .int .i64 (3), .bool false, .lit (.slice none 0 0), .sl 1794 0 3 3, .lit (.string (bs [103])), .int .i64 (1), .int .i64 (2), .bool true, .lit (.slice none 0 0), .slr 1934 0 1 0]⟩, ⟨1942, 0, [.int .i64 (3), .int .i64 (0), .int .i64 (0), .int .i64 (0), .int .i64 (-1)]⟩, ⟨1794, 0, [.lit (.slice none 0 0), .int .i64 (1), .int .i64 (0), .int .i64 (0), .int .i64 (1), .int .i64 (0), .slr 1788 0 4 0, .int .i64 (2), .int .i64 (2), .int .i64 (0), .int .i64 (1), .int .i64 (2), .slr 1793 0 1 0, .int .i64 (3), .int .i64 (0), .int .i64 (0), .int .i64 (0), .int .i64 (0)]⟩, ⟨1934, 6, [.slr 1939 0 1 0, .int .i64 (3), .int .i64 (0), .int .i64 (0), .int .i64 (0), .int .i64 (0)]⟩, ⟨1788, 13, [.int .i64 (10), .int .i64 (0), .int .i64 (1), .int .i64 (0), .int .i64 (0), .int .i64 (0), .int .i64 (0), .int .i64 (0), .int .i64 (0), .int .i64 (0), .slr 1824 0 2 0, .lit (.slice none 0 0), .slr 1814 0 2 0, .int .i64 (8), .int .i64 (0), .int .i64 (-1), .int .i64 (1), .int .i64 (0), .int .i64 (0), .int .i64 (0), .int .i64 (0), .int .i64 (0), .int .i64 (0), .lit (.slice none 0 0), .lit (.slice none 0 0), .lit (.slice none 0 0), .int .i64 (2), .int .i64 (1), .int .i64 (0), .int .i64 (1), .int .i64 (0), .int .i64 (-1), .int .i64 (1), .int .i64 (0), .int .i64 (0), .int .i64 (0), .lit (.slice none 0 0), .lit (.slice none 0 0), .lit (.slice none 0 0), .int .i64 (2), .int .i64 (13), .int .i64 (2), .int .i64 (0), .int .i64 (0), .int .i64 (-1), .int .i64 (3), .int .i64 (0), .int .i64 (0), .int .i64 (0), .lit (.slice none 0 0), .lit (.slice none 0 0), .lit (.slice none 0 0)]⟩, ⟨1793, 13, [.int .i64 (8), .int .i64 (0), .int .i64 (-1), .int .i64 (-1), .int .i64 (5), .int .i64 (0), .int .i64 (0), .int .i64 (0), .int .i64 (0), .int .i64 (0), .lit (.slice none 0 0), .lit (.slice none 0 0), .lit (.slice none 0 0)]⟩, ⟨1939, 13, [.int .i64 (1), .int .i64 (0), .int .i64 (1), .int .i64 (0), .int .i64 (0), .int .i64 (0), .int .i64 (0), .int .i64 (0), .int .i64 (0), .int .i64 (0), .lit (.slice none 0 0), .lit (.slice none 0 0), .lit (.slice none 0 0)]⟩, ⟨1824, 2, [.int .i64 (-1), .int .i64 (0), .int .i64 (0), .int .i64 (0)]⟩, ⟨1814, 1, [.int .i64 (0), .int .i64 (1)]⟩], none⟩
theorem t203 : Tab2Ok Tryz.prog [⟨f195, [0, 1, 2, 3, 4, 5, 6, 7, 8, 9, 10], []⟩, ⟨f195, [338, 1, 331, 3, 4, 5, 6, 7, 336, 9, 10], []⟩, ⟨f198, [733, 639, 726, 618, 623, 638, 731, 668, 658], []⟩, ⟨f200, [1140, 1050, 1133, 1029, 1034, 1049, 1138, 1079, 1069], []⟩, ⟨f202, [1540, 1452, 1533, 1431, 1436, 1538, 1482, 1472], []⟩] := fun x hx => by
  simp only [List.mem_cons, List.not_mem_nil, or_false] at hx
  rcases hx with rfl | rfl | rfl | rfl | rfl
  · exact ⟨r195, x195, by kernel_rfl⟩
  · exact ⟨r195, x195, by kernel_rfl⟩
  · exact ⟨r198, x198, by kernel_rfl⟩
  · exact ⟨r200, x200, by kernel_rfl⟩
  · exact ⟨r202, x202, by kernel_rfl⟩
set_option maxRecDepth 1000000 in
theorem q203 : evEnt Tryz.prog 417 100000 [] [⟨f195, [0, 1, 2, 3, 4, 5, 6, 7, 8, 9, 10], []⟩, ⟨f195, [338, 1, 331, 3, 4, 5, 6, 7, 336, 9, 10], []⟩, ⟨f198, [733, 639, 726, 618, 623, 638, 731, 668, 658], []⟩, ⟨f200, [1140, 1050, 1133, 1029, 1034, 1049, 1138, 1079, 1069], []⟩, ⟨f202, [1540, 1452, 1533, 1431, 1436, 1538, 1482, 1472], []⟩] 60 f203 = true := by kernel_rfl
theorem r203 : FEntOk Tryz.prog f203 := fent_of_ev none_ok t203 mixed (fnsOk_of 417 fns) rfl q203
theorem x203 : fitE f203 = true := by kernel_rfl
noncomputable def f204 : FEnt := ⟨12, [.agg [.lit (.slice none 0 0), .lit (.slice none 0 0), .slr 0 0 2 0, .int .i64 (0)], .agg [.int .i64 (-1), .lit (.slice none 0 0)]], 11, 0, i45, .int .i64 (0), 1935, 0, [], none⟩
theorem t204 : Tab2Ok Tryz.prog [⟨f203, [0, 1, 2, 3, 4, 5, 6, 7, 8, 9, 10], []⟩] := fun x hx => by
  simp only [List.mem_cons, List.not_mem_nil, or_false] at hx
  rcases hx with rfl
  · exact ⟨r203, x203, by kernel_rfl⟩
set_option maxRecDepth 1000000 in
theorem q204 : evEnt Tryz.prog 417 100000 [] [⟨f203, [0, 1, 2, 3, 4, 5, 6, 7, 8, 9, 10], []⟩] 60 f204 = true := by kernel_rfl
theorem r204 : FEntOk Tryz.prog f204 := fent_of_ev none_ok t204 mixed (fnsOk_of 417 fns) rfl q204
theorem x204 : fitE f204 = true := by kernel_rfl
noncomputable def f205 : FEnt := ⟨70, [.agg [.lit (.slice none 0 0), .lit (.slice none 0 0), .slr 0 0 2 0, .int .i64 (0)], .int .i64 (1)], 11, 0, i45, .tup [.agg [.sl 195 0 1 1, .sl 196 0 1 1, .slr 206 0 1 0, .sl 197 0 1 1, .sl 198 0 1 1], .int .i64 (0)], 200, 2, [⟨195, 0, [.lit (.slice none 0 0)]⟩, ⟨196, 0, [.lit (.slice none 0 0)]⟩, ⟨206, 1, [.int .i64 (0)]⟩, ⟨197, 0, [.int .i64 (-1)]⟩, ⟨198, 0, [.lit (.slice none 0 0)]⟩], none⟩
theorem t205 : Tab2Ok Tryz.prog [⟨f194, [0, 1, 2, 3, 4, 5, 6, 7, 8, 9, 10], []⟩] := fun x hx => by
  simp only [List.mem_cons, List.not_mem_nil, or_false] at hx
  rcases hx with rfl
  · exact ⟨r194, x194, by kernel_rfl⟩
set_option maxRecDepth 1000000 in
theorem q205 : evEnt Tryz.prog 417 100000 [] [⟨f194, [0, 1, 2, 3, 4, 5, 6, 7, 8, 9, 10], []⟩] 60 f205 = true := by kernel_rfl
theorem r205 : FEntOk Tryz.prog f205 := fent_of_ev none_ok t205 mixed (fnsOk_of 417 fns) rfl q205
theorem x205 : fitE f205 = true := by kernel_rfl
noncomputable def f206 : FEnt := ⟨14, [.agg [.lit (.slice none 0 0), .lit (.slice none 0 0), .slr 0 0 2 0, .int .i64 (0)], .int .i64 (1), .agg [.int .i64 (0), .lit (.slice none 0 0)]], 11, 0, i45, .tup [.agg [.lit (.slice none 0 0), .lit (.slice none 0 0), .slr 302 0 2 0, .int .i64 (0)], .lit (.slice none 0 0), .int .i64 (0)], 292, 2, [⟨302, 6, [.lit (.string (bs [102])), .int .i64 (0), .int .i64 (8), .bool false, .lit (.slice none 0 0), .slr 222 0 5 0, .lit (.string (bs [103])), .int .i64 (1), .int .i64 (2), .bool true, .lit (.slice none 0 0), .slr 295 0 1 0]⟩, ⟨222, 6, [.lit (.slice none 0 0), .int .i64 (1), .int .i64 (0), .int .i64 (0), .int .i64 (1), .int .i64 (0), .slr 231 0 1 0, .int .i64 (1), .int .i64 (0), .int .i64 (0), .int .i64 (3), .int .i64 (0), .slr 236 0 1 0, .int .i64 (3), .int .i64 (0), .int .i64 (0), .int .i64 (0), .int .i64 (0), .lit (.slice none 0 0), .int .i64 (1), .int .i64 (0), .int .i64 (0), .int .i64 (4), .int .i64 (0), .slr 251 0 3 0, .int .i64 (2), .int .i64 (7), .int .i64 (0), .int .i64 (1), .int .i64 (2)]⟩, ⟨295, 6, [.slr 300 0 1 0, .int .i64 (3), .int .i64 (0), .int .i64 (0), .int .i64 (0), .int .i64 (0)]⟩, ⟨231, 13, [.int .i64 (10), .int .i64 (0), .int .i64 (0), .int .i64 (0), .int .i64 (0), .int .i64 (0), .int .i64 (0), .int .i64 (0), .int .i64 (0), .int .i64 (0), .slr 227 0 2 0, .lit (.slice none 0 0), .slr 229 0 2 0]⟩, ⟨236, 13, [.int .i64 (8), .int .i64 (0), .int .i64 (-1), .int .i64 (-1), .int .i64 (5), .int .i64 (0), .int .i64 (0), .int .i64 (0), .int .i64 (0), .int .i64 (0), .lit (.slice none 0 0), .lit (.slice none 0 0), .lit (.slice none 0 0)]⟩, ⟨251, 13, [.int .i64 (8), .int .i64 (0), .int .i64 (-1), .int .i64 (0), .int .i64 (0), .int .i64 (0), .int .i64 (0), .int .i64 (0), .int .i64 (0), .int .i64 (0), .lit (.slice none 0 0), .lit (.slice none 0 0), .lit (.slice none 0 0), .int .i64 (2), .int .i64 (1), .int .i64 (6), .int .i64 (0), .int .i64 (0), .int .i64 (-1), .int .i64 (1), .int .i64 (0), .int .i64 (0), .int .i64 (0), .lit (.slice none 0 0), .lit (.slice none 0 0), .lit (.slice none 0 0), .int .i64 (2), .int .i64 (13), .int .i64 (7), .int .i64 (6), .int .i64 (0), .int .i64 (-1), .int .i64 (3), .int .i64 (0), .int .i64 (0), .int .i64 (0), .lit (.slice none 0 0), .lit (.slice none 0 0), .lit (.slice none 0 0)]⟩, ⟨300, 13, [.int .i64 (1), .int .i64 (0), .int .i64 (1), .int .i64 (0), .int .i64 (0), .int .i64 (0), .int .i64 (0), .int .i64 (0), .int .i64 (0), .int .i64 (0), .lit (.slice none 0 0), .lit (.slice none 0 0), .lit (.slice none 0 0)]⟩, ⟨227, 2, [.int .i64 (-1), .int .i64 (0), .int .i64 (6), .int .i64 (0)]⟩, ⟨229, 1, [.int .i64 (0), .int .i64 (4)]⟩], none⟩
theorem t206 : Tab2Ok Tryz.prog [⟨f205, [0, 1, 2, 3, 4, 5, 6, 7, 8, 9, 10], []⟩] := fun x hx => by
  simp only [List.mem_cons, List.not_mem_nil, or_false] at hx
  rcases hx with rfl
  · exact ⟨r205, x205, by kernel_rfl⟩
set_option maxRecDepth 1000000 in
theorem q206 : evEnt Tryz.prog 417 100000 [] [⟨f205, [0, 1, 2, 3, 4, 5, 6, 7, 8, 9, 10], []⟩] 60 f206 = true := by kernel_rfl
theorem r206 : FEntOk Tryz.prog f206 := fent_of_ev none_ok t206 mixed (fnsOk_of 417 fns) rfl q206
theorem x206 : fitE f206 = true := by kernel_rfl
noncomputable def f207 : FEnt := ⟨180, [.agg [.lit (.slice none 0 0), .lit (.slice none 0 0), .slr 0 0 2 0, .int .i64 (0)]], 9, 0, i49, .int .i64 (0), 179, 0, [], none⟩
theorem t207 : Tab2Ok Tryz.prog [] := fun x hx => by cases hx
set_option maxRecDepth 1000000 in
theorem q207 : evEnt Tryz.prog 417 100000 [] [] 60 f207 = true := by kernel_rfl
theorem r207 : FEntOk Tryz.prog f207 := fent_of_ev none_ok t207 mixed (fnsOk_of 417 fns) rfl q207
theorem x207 : fitE f207 = true := by kernel_rfl
noncomputable def f208 : FEnt := ⟨70, [.agg [.lit (.slice none 0 0), .lit (.slice none 0 0), .slr 0 0 2 0, .int .i64 (0)], .int .i64 (1)], 9, 0, i49, .tup [.agg [.sl 193 0 1 1, .sl 194 0 1 1, .slr 204 0 1 0, .sl 195 0 1 1, .sl 196 0 1 1], .int .i64 (0)], 200, 2, [⟨193, 0, [.lit (.slice none 0 0)]⟩, ⟨194, 0, [.lit (.slice none 0 0)]⟩, ⟨204, 1, [.int .i64 (0)]⟩, ⟨195, 0, [.int .i64 (-1)]⟩, ⟨196, 0, [.lit (.slice none 0 0)]⟩], none⟩
theorem t208 : Tab2Ok Tryz.prog [⟨f207, [0, 1, 2, 3, 4, 5, 6, 7, 8], []⟩] := fun x hx => by
  simp only [List.mem_cons, List.not_mem_nil, or_false] at hx
  rcases hx with rfl
  · exact ⟨r207, x207, by kernel_rfl⟩
set_option maxRecDepth 1000000 in
theorem q208 : evEnt Tryz.prog 417 100000 [] [⟨f207, [0, 1, 2, 3, 4, 5, 6, 7, 8], []⟩] 60 f208 = true := by kernel_rfl
theorem r208 : FEntOk Tryz.prog f208 := fent_of_ev none_ok t208 mixed (fnsOk_of 417 fns) rfl q208
theorem x208 : fitE f208 = true := by kernel_rfl
noncomputable def f209 : FEnt := ⟨48, [.agg [.lit (.slice none 0 0), .lit (.slice none 0 0), .slr 0 0 2 0, .int .i64 (0)], .int .i64 (1)], 9, 0, i49, .int .i64 (0), 231, 2, [], none⟩
theorem t209 : Tab2Ok Tryz.prog [⟨f208, [0, 1, 2, 3, 4, 5, 6, 7, 8], []⟩] := fun x hx => by
  simp only [List.mem_cons, List.not_mem_nil, or_false] at hx
  rcases hx with rfl
  · exact ⟨r208, x208, by kernel_rfl⟩
set_option maxRecDepth 1000000 in
theorem q209 : evEnt Tryz.prog 417 100000 [] [⟨f208, [0, 1, 2, 3, 4, 5, 6, 7, 8], []⟩] 60 f209 = true := by kernel_rfl
theorem r209 : FEntOk Tryz.prog f209 := fent_of_ev none_ok t209 mixed (fnsOk_of 417 fns) rfl q209
theorem x209 : fitE f209 = true := by kernel_rfl
noncomputable def f210 : FEnt := ⟨180, [.agg [.lit (.slice none 0 0), .lit (.slice none 0 0), .slr 0 0 2 0, .int .i64 (0)]], 9, 0, i50, .int .i64 (0), 167, 0, [], none⟩
theorem t210 : Tab2Ok Tryz.prog [] := fun x hx => by cases hx
set_option maxRecDepth 1000000 in
theorem q210 : evEnt Tryz.prog 417 100000 [] [] 60 f210 = true := by kernel_rfl
theorem r210 : FEntOk Tryz.prog f210 := fent_of_ev none_ok t210 mixed (fnsOk_of 417 fns) rfl q210
theorem x210 : fitE f210 = true := by kernel_rfl
noncomputable def f211 : FEnt := ⟨70, [.agg [.lit (.slice none 0 0), .lit (.slice none 0 0), .slr 0 0 2 0, .int .i64 (0)], .int .i64 (1)], 9, 0, i50, .tup [.agg [.sl 181 0 1 1, .sl 182 0 1 1, .slr 192 0 1 0, .sl 183 0 1 1, .sl 184 0 1 1], .int .i64 (0)], 188, 2, [⟨181, 0, [.lit (.slice none 0 0)]⟩, ⟨182, 0, [.lit (.slice none 0 0)]⟩, ⟨192, 1, [.int .i64 (0)]⟩, ⟨183, 0, [.int .i64 (-1)]⟩, ⟨184, 0, [.lit (.slice none 0 0)]⟩], none⟩
theorem t211 : Tab2Ok Tryz.prog [⟨f210, [0, 1, 2, 3, 4, 5, 6, 7, 8], []⟩] := fun x hx => by
  simp only [List.mem_cons, List.not_mem_nil, or_false] at hx
  rcases hx with rfl
  · exact ⟨r210, x210, by kernel_rfl⟩
set_option maxRecDepth 1000000 in
theorem q211 : evEnt Tryz.prog 417 100000 [] [⟨f210, [0, 1, 2, 3, 4, 5, 6, 7, 8], []⟩] 60 f211 = true := by kernel_rfl
theorem r211 : FEntOk Tryz.prog f211 := fent_of_ev none_ok t211 mixed (fnsOk_of 417 fns) rfl q211
theorem x211 : fitE f211 = true := by kernel_rfl
end Go.Proofs.YtbkgehknhjkaoaaGreatDoor.Pipe
