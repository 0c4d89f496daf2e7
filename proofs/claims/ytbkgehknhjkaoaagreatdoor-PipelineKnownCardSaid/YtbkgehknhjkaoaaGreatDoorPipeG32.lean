/- Calls of the law's run: what each finds, hands back and lays. -/
import Derived.Test.YtbkgehknhjkaoaaGreatDoorPipeG1
import Derived.Test.YtbkgehknhjkaoaaGreatDoorPipeG5
import Derived.Test.YtbkgehknhjkaoaaGreatDoorPipeG31
namespace Go.Proofs.YtbkgehknhjkaoaaGreatDoor.Pipe
open Go Go.Proofs.YtbkgehknhjkaoaaGreatDoor.Ev
noncomputable def f212 : FEnt := ⟨87, [.agg [.lit (.slice none 0 0), .lit (.slice none 0 0), .slr 0 0 2 0, .int .i64 (0)], .int .i64 (1), .agg [.int .i64 (-1), .lit (.slice none 0 0)]], 11, 0, i45, .tup [.agg [.lit (.slice none 0 0), .lit (.slice none 0 0), .slr 305 0 2 0, .int .i64 (0)], .slr 552 0 1 0, .int .i64 (0)], 928, 9, [⟨305, 6, [.lit (.string (bs [102])), .int .i64 (0), .int .i64 (8), .bool false, .lit (.slice none 0 0), .slr 225 0 5 0, .lit (.string (bs [103])), .int .i64 (1), .int .i64 (2), .bool true, .lit (.slice none 0 0), .slr 298 0 1 0]⟩, ⟨552, 5, [.int .i64 (6), .int .i64 (1), .int .i64 (1), .int .i64 (0), .int .i64 (0)]⟩, ⟨225, 6, [.lit (.slice none 0 0), .int .i64 (1), .int .i64 (0), .int .i64 (0), .int .i64 (1), .int .i64 (0), .slr 234 0 1 0, .int .i64 (1), .int .i64 (0), .int .i64 (0), .int .i64 (3), .int .i64 (0), .slr 239 0 1 0, .int .i64 (3), .int .i64 (0), .int .i64 (0), .int .i64 (0), .int .i64 (0), .lit (.slice none 0 0), .int .i64 (1), .int .i64 (0), .int .i64 (0), .int .i64 (4), .int .i64 (0), .slr 254 0 3 0, .int .i64 (2), .int .i64 (7), .int .i64 (0), .int .i64 (1), .int .i64 (2)]⟩, ⟨298, 6, [.slr 303 0 0 0, .int .i64 (3), .int .i64 (0), .int .i64 (0), .int .i64 (0), .int .i64 (0)]⟩, ⟨234, 13, [.int .i64 (10), .int .i64 (0), .int .i64 (0), .int .i64 (0), .int .i64 (0), .int .i64 (0), .int .i64 (0), .int .i64 (0), .int .i64 (0), .int .i64 (0), .slr 230 0 2 0, .lit (.slice none 0 0), .slr 232 0 2 0]⟩, ⟨239, 13, [.int .i64 (8), .int .i64 (0), .int .i64 (-1), .int .i64 (-1), .int .i64 (5), .int .i64 (0), .int .i64 (0), .int .i64 (0), .int .i64 (0), .int .i64 (0), .lit (.slice none 0 0), .lit (.slice none 0 0), .lit (.slice none 0 0)]⟩, ⟨254, 13, [.int .i64 (8), .int .i64 (0), .int .i64 (-1), .int .i64 (0), .int .i64 (0), .int .i64 (0), .int .i64 (0), .int .i64 (0), .int .i64 (0), .int .i64 (0), .lit (.slice none 0 0), .lit (.slice none 0 0), .lit (.slice none 0 0), .int .i64 (2), .int .i64 (1), .int .i64 (6), .int .i64 (0), .int .i64 (0), .int .i64 (-1), .int .i64 (1), .int .i64 (0), .int .i64 (0), .int .i64 (0), .lit (.slice none 0 0), .lit (.slice none 0 0), .lit (.slice none 0 0), .int .i64 (2), .int .i64 (13), .int .i64 (7), .int .i64 (6), .int .i64 (0), .int .i64 (-1), .int .i64 (3), .int .i64 (0), .int .i64 (0), .int .i64 (0), .lit (.slice none 0 0), .lit (.slice none 0 0), .lit (.slice none 0 0)]⟩, ⟨303, 13, [.int .i64 (0), .int .i64 (0), .int .i64 (0), .int .i64 (0), .int .i64 (0), .int .i64 (0), .int .i64 (0), .int .i64 (0), .int .i64 (0), .int .i64 (0), .lit (.slice none 0 0), .lit (.slice none 0 0), .lit (.slice none 0 0)]⟩, ⟨230, 2, [.int .i64 (-1), .int .i64 (0), .int .i64 (6), .int .i64 (0)]⟩, ⟨232, 1, [.int .i64 (0), .int .i64 (4)]⟩], none⟩
theorem t212 : Tab2Ok Tryz.prog [⟨f206, [0, 1, 2, 3, 4, 5, 6, 7, 8, 9, 10], []⟩, ⟨f209, [305, 225, 298, 234, 239, 254, 303, 230, 232], []⟩, ⟨f211, [305, 225, 298, 234, 239, 254, 303, 230, 232], []⟩] := fun x hx => by
  simp only [List.mem_cons, List.not_mem_nil, or_false] at hx
  rcases hx with rfl | rfl | rfl
  · exact ⟨r206, x206, by kernel_rfl⟩
  · exact ⟨r209, x209, by kernel_rfl⟩
  · exact ⟨r211, x211, by kernel_rfl⟩
set_option maxRecDepth 1000000 in
theorem q212 : evEnt Tryz.prog 417 100000 [] [⟨f206, [0, 1, 2, 3, 4, 5, 6, 7, 8, 9, 10], []⟩, ⟨f209, [305, 225, 298, 234, 239, 254, 303, 230, 232], []⟩, ⟨f211, [305, 225, 298, 234, 239, 254, 303, 230, 232], []⟩] 60 f212 = true := by kernel_rfl
theorem r212 : FEntOk Tryz.prog f212 := fent_of_ev none_ok t212 mixed (fnsOk_of 417 fns) rfl q212
theorem x212 : fitE f212 = true := by kernel_rfl
noncomputable def f213 : FEnt := ⟨70, [.agg [.lit (.slice none 0 0), .lit (.slice none 0 0), .slr 0 0 2 0, .int .i64 (0)], .int .i64 (0)], 9, 0, i50, .tup [.agg [.sl 181 0 5 5, .sl 182 0 5 5, .slr 222 0 5 0, .sl 183 0 5 5, .sl 184 0 5 5], .int .i64 (0)], 252, 0, [⟨181, 0, [.lit (.slice none 0 0), .slr 207 0 2 0, .slr 209 0 1 0, .slr 195 0 1 0, .slr 202 0 1 0]⟩, ⟨182, 0, [.sl 188 0 1 1, .sl 193 0 1 1, .lit (.slice none 0 0), .sl 200 0 1 1, .sl 205 0 2 2]⟩, ⟨222, 1, [.int .i64 (0), .int .i64 (1), .int .i64 (3), .int .i64 (4), .int .i64 (2)]⟩, ⟨183, 0, [.int .i64 (-1), .int .i64 (0), .int .i64 (4), .int .i64 (1), .int .i64 (3)]⟩, ⟨184, 0, [.lit (.slice none 0 0), .slr 255 0 1 0, .lit (.slice none 0 0), .slr 257 0 1 0, .slr 259 0 1 0]⟩, ⟨207, 1, [.int .i64 (0), .int .i64 (4)]⟩, ⟨209, 1, [.int .i64 (4)]⟩, ⟨195, 1, [.int .i64 (1)]⟩, ⟨202, 1, [.int .i64 (3)]⟩, ⟨188, 0, [.int .i64 (1)]⟩, ⟨193, 0, [.int .i64 (3)]⟩, ⟨200, 0, [.int .i64 (4)]⟩, ⟨205, 0, [.int .i64 (1), .int .i64 (2)]⟩, ⟨255, 1, [.int .i64 (1)]⟩, ⟨257, 1, [.int .i64 (1)]⟩, ⟨259, 1, [.int .i64 (1)]⟩], none⟩
theorem t213 : Tab2Ok Tryz.prog [⟨f210, [0, 1, 2, 3, 4, 5, 6, 7, 8], []⟩, ⟨f3, [], []⟩, ⟨f4, [], []⟩, ⟨f31, [], []⟩, ⟨f32, [], []⟩, ⟨f33, [], []⟩] := fun x hx => by
  simp only [List.mem_cons, List.not_mem_nil, or_false] at hx
  rcases hx with rfl | rfl | rfl | rfl | rfl | rfl
  · exact ⟨r210, x210, by kernel_rfl⟩
  · exact ⟨r3, x3, by kernel_rfl⟩
  · exact ⟨r4, x4, by kernel_rfl⟩
  · exact ⟨r31, x31, by kernel_rfl⟩
  · exact ⟨r32, x32, by kernel_rfl⟩
  · exact ⟨r33, x33, by kernel_rfl⟩
set_option maxRecDepth 1000000 in
theorem q213 : evEnt Tryz.prog 417 100000 [] [⟨f210, [0, 1, 2, 3, 4, 5, 6, 7, 8], []⟩, ⟨f3, [], []⟩, ⟨f4, [], []⟩, ⟨f31, [], []⟩, ⟨f32, [], []⟩, ⟨f33, [], []⟩] 60 f213 = true := by kernel_rfl
theorem r213 : FEntOk Tryz.prog f213 := fent_of_ev none_ok t213 mixed (fnsOk_of 417 fns) rfl q213
theorem x213 : fitE f213 = true := by kernel_rfl
noncomputable def f214 : FEnt := ⟨180, [.agg [.lit (.slice none 0 0), .lit (.slice none 0 0), .slr 0 0 2 0, .int .i64 (0)]], 8, 0, i51, .int .i64 (0), 167, 0, [], none⟩
theorem t214 : Tab2Ok Tryz.prog [] := fun x hx => by cases hx
set_option maxRecDepth 1000000 in
theorem q214 : evEnt Tryz.prog 417 100000 [] [] 60 f214 = true := by kernel_rfl
theorem r214 : FEntOk Tryz.prog f214 := fent_of_ev none_ok t214 mixed (fnsOk_of 417 fns) rfl q214
theorem x214 : fitE f214 = true := by kernel_rfl
noncomputable def f215 : FEnt := ⟨70, [.agg [.lit (.slice none 0 0), .lit (.slice none 0 0), .slr 0 0 2 0, .int .i64 (0)], .int .i64 (0)], 8, 0, i51, .tup [.agg [.sl 180 0 5 5, .sl 181 0 5 5, .slr 221 0 5 0, .sl 182 0 5 5, .sl 183 0 5 5], .int .i64 (0)], 252, 0, [⟨180, 0, [.lit (.slice none 0 0), .slr 206 0 2 0, .slr 208 0 1 0, .slr 194 0 1 0, .slr 201 0 1 0]⟩, ⟨181, 0, [.sl 187 0 1 1, .sl 192 0 1 1, .lit (.slice none 0 0), .sl 199 0 1 1, .sl 204 0 2 2]⟩, ⟨221, 1, [.int .i64 (0), .int .i64 (1), .int .i64 (3), .int .i64 (4), .int .i64 (2)]⟩, ⟨182, 0, [.int .i64 (-1), .int .i64 (0), .int .i64 (4), .int .i64 (1), .int .i64 (3)]⟩, ⟨183, 0, [.lit (.slice none 0 0), .slr 254 0 1 0, .lit (.slice none 0 0), .slr 256 0 1 0, .slr 258 0 1 0]⟩, ⟨206, 1, [.int .i64 (0), .int .i64 (4)]⟩, ⟨208, 1, [.int .i64 (4)]⟩, ⟨194, 1, [.int .i64 (1)]⟩, ⟨201, 1, [.int .i64 (3)]⟩, ⟨187, 0, [.int .i64 (1)]⟩, ⟨192, 0, [.int .i64 (3)]⟩, ⟨199, 0, [.int .i64 (4)]⟩, ⟨204, 0, [.int .i64 (1), .int .i64 (2)]⟩, ⟨254, 1, [.int .i64 (1)]⟩, ⟨256, 1, [.int .i64 (1)]⟩, ⟨258, 1, [.int .i64 (1)]⟩], none⟩
theorem t215 : Tab2Ok Tryz.prog [⟨f214, [0, 1, 2, 3, 4, 5, 6, 7], []⟩, ⟨f3, [], []⟩, ⟨f4, [], []⟩, ⟨f31, [], []⟩, ⟨f32, [], []⟩, ⟨f33, [], []⟩] := fun x hx => by
  simp only [List.mem_cons, List.not_mem_nil, or_false] at hx
  rcases hx with rfl | rfl | rfl | rfl | rfl | rfl
  · exact ⟨r214, x214, by kernel_rfl⟩
  · exact ⟨r3, x3, by kernel_rfl⟩
  · exact ⟨r4, x4, by kernel_rfl⟩
  · exact ⟨r31, x31, by kernel_rfl⟩
  · exact ⟨r32, x32, by kernel_rfl⟩
  · exact ⟨r33, x33, by kernel_rfl⟩
set_option maxRecDepth 1000000 in
theorem q215 : evEnt Tryz.prog 417 100000 [] [⟨f214, [0, 1, 2, 3, 4, 5, 6, 7], []⟩, ⟨f3, [], []⟩, ⟨f4, [], []⟩, ⟨f31, [], []⟩, ⟨f32, [], []⟩, ⟨f33, [], []⟩] 60 f215 = true := by kernel_rfl
theorem r215 : FEntOk Tryz.prog f215 := fent_of_ev none_ok t215 mixed (fnsOk_of 417 fns) rfl q215
theorem x215 : fitE f215 = true := by kernel_rfl
noncomputable def f216 : FEnt := ⟨180, [.agg [.lit (.slice none 0 0), .lit (.slice none 0 0), .slr 0 0 2 0, .int .i64 (0)]], 8, 0, i52, .int .i64 (0), 167, 0, [], none⟩
theorem t216 : Tab2Ok Tryz.prog [] := fun x hx => by cases hx
set_option maxRecDepth 1000000 in
theorem q216 : evEnt Tryz.prog 417 100000 [] [] 60 f216 = true := by kernel_rfl
theorem r216 : FEntOk Tryz.prog f216 := fent_of_ev none_ok t216 mixed (fnsOk_of 417 fns) rfl q216
theorem x216 : fitE f216 = true := by kernel_rfl
noncomputable def f217 : FEnt := ⟨70, [.agg [.lit (.slice none 0 0), .lit (.slice none 0 0), .slr 0 0 2 0, .int .i64 (0)], .int .i64 (0)], 8, 0, i52, .tup [.agg [.sl 180 0 5 5, .sl 181 0 5 5, .slr 221 0 5 0, .sl 182 0 5 5, .sl 183 0 5 5], .int .i64 (0)], 252, 0, [⟨180, 0, [.lit (.slice none 0 0), .slr 206 0 2 0, .slr 208 0 1 0, .slr 194 0 1 0, .slr 201 0 1 0]⟩, ⟨181, 0, [.sl 187 0 1 1, .sl 192 0 1 1, .lit (.slice none 0 0), .sl 199 0 1 1, .sl 204 0 2 2]⟩, ⟨221, 1, [.int .i64 (0), .int .i64 (1), .int .i64 (3), .int .i64 (4), .int .i64 (2)]⟩, ⟨182, 0, [.int .i64 (-1), .int .i64 (0), .int .i64 (4), .int .i64 (1), .int .i64 (3)]⟩, ⟨183, 0, [.lit (.slice none 0 0), .slr 254 0 1 0, .lit (.slice none 0 0), .slr 256 0 1 0, .slr 258 0 1 0]⟩, ⟨206, 1, [.int .i64 (0), .int .i64 (4)]⟩, ⟨208, 1, [.int .i64 (4)]⟩, ⟨194, 1, [.int .i64 (1)]⟩, ⟨201, 1, [.int .i64 (3)]⟩, ⟨187, 0, [.int .i64 (1)]⟩, ⟨192, 0, [.int .i64 (3)]⟩, ⟨199, 0, [.int .i64 (4)]⟩, ⟨204, 0, [.int .i64 (1), .int .i64 (2)]⟩, ⟨254, 1, [.int .i64 (1)]⟩, ⟨256, 1, [.int .i64 (1)]⟩, ⟨258, 1, [.int .i64 (1)]⟩], none⟩
theorem t217 : Tab2Ok Tryz.prog [⟨f216, [0, 1, 2, 3, 4, 5, 6, 7], []⟩, ⟨f3, [], []⟩, ⟨f4, [], []⟩, ⟨f31, [], []⟩, ⟨f32, [], []⟩, ⟨f33, [], []⟩] := fun x hx => by
  simp only [List.mem_cons, List.not_mem_nil, or_false] at hx
  rcases hx with rfl | rfl | rfl | rfl | rfl | rfl
  · exact ⟨r216, x216, by kernel_rfl⟩
  · exact ⟨r3, x3, by kernel_rfl⟩
  · exact ⟨r4, x4, by kernel_rfl⟩
  · exact ⟨r31, x31, by kernel_rfl⟩
  · exact ⟨r32, x32, by kernel_rfl⟩
  · exact ⟨r33, x33, by kernel_rfl⟩
set_option maxRecDepth 1000000 in
theorem q217 : evEnt Tryz.prog 417 100000 [] [⟨f216, [0, 1, 2, 3, 4, 5, 6, 7], []⟩, ⟨f3, [], []⟩, ⟨f4, [], []⟩, ⟨f31, [], []⟩, ⟨f32, [], []⟩, ⟨f33, [], []⟩] 60 f217 = true := by kernel_rfl
theorem r217 : FEntOk Tryz.prog f217 := fent_of_ev none_ok t217 mixed (fnsOk_of 417 fns) rfl q217
theorem x217 : fitE f217 = true := by kernel_rfl
noncomputable def f218 : FEnt := ⟨180, [.agg [.lit (.slice none 0 0), .lit (.slice none 0 0), .slr 0 0 2 0, .int .i64 (0)]], 8, 0, i53, .int .i64 (0), 156, 0, [], none⟩
theorem t218 : Tab2Ok Tryz.prog [] := fun x hx => by cases hx
set_option maxRecDepth 1000000 in
theorem q218 : evEnt Tryz.prog 417 100000 [] [] 60 f218 = true := by kernel_rfl
theorem r218 : FEntOk Tryz.prog f218 := fent_of_ev none_ok t218 mixed (fnsOk_of 417 fns) rfl q218
theorem x218 : fitE f218 = true := by kernel_rfl
noncomputable def f219 : FEnt := ⟨70, [.agg [.lit (.slice none 0 0), .lit (.slice none 0 0), .slr 0 0 2 0, .int .i64 (0)], .int .i64 (0)], 8, 0, i53, .tup [.agg [.sl 169 0 4 4, .sl 170 0 4 4, .slr 203 0 4 0, .sl 171 0 4 4, .sl 172 0 4 4], .int .i64 (0)], 222, 0, [⟨169, 0, [.lit (.slice none 0 0), .slr 190 0 2 0, .slr 192 0 1 0, .slr 183 0 1 0]⟩, ⟨170, 0, [.sl 176 0 1 1, .sl 181 0 1 1, .lit (.slice none 0 0), .sl 188 0 2 2]⟩, ⟨203, 1, [.int .i64 (0), .int .i64 (1), .int .i64 (3), .int .i64 (2)]⟩, ⟨171, 0, [.int .i64 (-1), .int .i64 (0), .int .i64 (3), .int .i64 (1)]⟩, ⟨172, 0, [.lit (.slice none 0 0), .slr 226 0 1 0, .lit (.slice none 0 0), .slr 228 0 1 0]⟩, ⟨190, 1, [.int .i64 (0), .int .i64 (3)]⟩, ⟨192, 1, [.int .i64 (3)]⟩, ⟨183, 1, [.int .i64 (1)]⟩, ⟨176, 0, [.int .i64 (1)]⟩, ⟨181, 0, [.int .i64 (3)]⟩, ⟨188, 0, [.int .i64 (1), .int .i64 (2)]⟩, ⟨226, 1, [.int .i64 (1)]⟩, ⟨228, 1, [.int .i64 (1)]⟩], none⟩
theorem t219 : Tab2Ok Tryz.prog [⟨f218, [0, 1, 2, 3, 4, 5, 6, 7], []⟩, ⟨f3, [], []⟩, ⟨f4, [], []⟩, ⟨f38, [], []⟩, ⟨f32, [], []⟩] := fun x hx => by
  simp only [List.mem_cons, List.not_mem_nil, or_false] at hx
  rcases hx with rfl | rfl | rfl | rfl | rfl
  · exact ⟨r218, x218, by kernel_rfl⟩
  · exact ⟨r3, x3, by kernel_rfl⟩
  · exact ⟨r4, x4, by kernel_rfl⟩
  · exact ⟨r38, x38, by kernel_rfl⟩
  · exact ⟨r32, x32, by kernel_rfl⟩
set_option maxRecDepth 1000000 in
theorem q219 : evEnt Tryz.prog 417 100000 [] [⟨f218, [0, 1, 2, 3, 4, 5, 6, 7], []⟩, ⟨f3, [], []⟩, ⟨f4, [], []⟩, ⟨f38, [], []⟩, ⟨f32, [], []⟩] 60 f219 = true := by kernel_rfl
theorem r219 : FEntOk Tryz.prog f219 := fent_of_ev none_ok t219 mixed (fnsOk_of 417 fns) rfl q219
theorem x219 : fitE f219 = true := by kernel_rfl
noncomputable def f220 : FEnt := ⟨180, [.agg [.lit (.slice none 0 0), .lit (.slice none 0 0), .slr 0 0 2 0, .int .i64 (0)]], 7, 0, i54, .int .i64 (0), 145, 0, [], none⟩
theorem t220 : Tab2Ok Tryz.prog [] := fun x hx => by cases hx
set_option maxRecDepth 1000000 in
theorem q220 : evEnt Tryz.prog 417 100000 [] [] 60 f220 = true := by kernel_rfl
theorem r220 : FEntOk Tryz.prog f220 := fent_of_ev none_ok t220 mixed (fnsOk_of 417 fns) rfl q220
theorem x220 : fitE f220 = true := by kernel_rfl
end Go.Proofs.YtbkgehknhjkaoaaGreatDoor.Pipe
