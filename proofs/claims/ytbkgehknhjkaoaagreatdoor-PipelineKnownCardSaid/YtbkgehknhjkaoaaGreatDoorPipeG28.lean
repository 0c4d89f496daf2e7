/- Calls of the law's run: what each finds, hands back and lays. -/
import Derived.Test.YtbkgehknhjkaoaaGreatDoorPipeG1
import Derived.Test.YtbkgehknhjkaoaaGreatDoorPipeG5
namespace Go.Proofs.YtbkgehknhjkaoaaGreatDoor.Pipe
open Go Go.Proofs.YtbkgehknhjkaoaaGreatDoor.Ev
noncomputable def f179 : FEnt := ⟨180, [.agg [.lit (.slice none 0 0), .lit (.slice none 0 0), .slr 0 0 2 0, .int .i64 (0)]], 11, 0, i42, .int .i64 (0), 239, 0, [], none⟩
theorem t179 : Tab2Ok Tryz.prog [] := fun x hx => by cases hx
set_option maxRecDepth 1000000 in
theorem q179 : evEnt Tryz.prog 417 100000 [] [] 60 f179 = true := by kernel_rfl
theorem r179 : FEntOk Tryz.prog f179 := fent_of_ev none_ok t179 mixed (fnsOk_of 417 fns) rfl q179
theorem x179 : fitE f179 = true := by kernel_rfl
noncomputable def f180 : FEnt := ⟨70, [.agg [.lit (.slice none 0 0), .lit (.slice none 0 0), .slr 0 0 2 0, .int .i64 (0)], .int .i64 (0)], 11, 0, i42, .tup [.agg [.sl 255 0 5 5, .sl 256 0 5 5, .slr 296 0 5 0, .sl 257 0 5 5, .sl 258 0 5 5], .int .i64 (0)], 324, 0, [⟨255, 0, [.lit (.slice none 0 0), .slr 281 0 2 0, .slr 283 0 1 0, .slr 269 0 1 0, .slr 276 0 1 0]⟩, ⟨256, 0, [.sl 262 0 1 1, .sl 267 0 1 1, .lit (.slice none 0 0), .sl 274 0 1 1, .sl 279 0 2 2]⟩, ⟨296, 1, [.int .i64 (0), .int .i64 (1), .int .i64 (3), .int .i64 (4), .int .i64 (2)]⟩, ⟨257, 0, [.int .i64 (-1), .int .i64 (0), .int .i64 (4), .int .i64 (1), .int .i64 (3)]⟩, ⟨258, 0, [.lit (.slice none 0 0), .slr 329 0 1 0, .lit (.slice none 0 0), .slr 331 0 1 0, .slr 333 0 1 0]⟩, ⟨281, 1, [.int .i64 (0), .int .i64 (4)]⟩, ⟨283, 1, [.int .i64 (4)]⟩, ⟨269, 1, [.int .i64 (1)]⟩, ⟨276, 1, [.int .i64 (3)]⟩, ⟨262, 0, [.int .i64 (1)]⟩, ⟨267, 0, [.int .i64 (3)]⟩, ⟨274, 0, [.int .i64 (4)]⟩, ⟨279, 0, [.int .i64 (1), .int .i64 (2)]⟩, ⟨329, 1, [.int .i64 (1)]⟩, ⟨331, 1, [.int .i64 (1)]⟩, ⟨333, 1, [.int .i64 (1)]⟩], none⟩
theorem t180 : Tab2Ok Tryz.prog [⟨f179, [0, 1, 2, 3, 4, 5, 6, 7, 8, 9, 10], []⟩, ⟨f3, [], []⟩, ⟨f4, [], []⟩, ⟨f31, [], []⟩, ⟨f32, [], []⟩, ⟨f33, [], []⟩] := fun x hx => by
  simp only [List.mem_cons, List.not_mem_nil, or_false] at hx
  rcases hx with rfl | rfl | rfl | rfl | rfl | rfl
  · exact ⟨r179, x179, by kernel_rfl⟩
  · exact ⟨r3, x3, by kernel_rfl⟩
  · exact ⟨r4, x4, by kernel_rfl⟩
  · exact ⟨r31, x31, by kernel_rfl⟩
  · exact ⟨r32, x32, by kernel_rfl⟩
  · exact ⟨r33, x33, by kernel_rfl⟩
set_option maxRecDepth 1000000 in
theorem q180 : evEnt Tryz.prog 417 100000 [] [⟨f179, [0, 1, 2, 3, 4, 5, 6, 7, 8, 9, 10], []⟩, ⟨f3, [], []⟩, ⟨f4, [], []⟩, ⟨f31, [], []⟩, ⟨f32, [], []⟩, ⟨f33, [], []⟩] 60 f180 = true := by kernel_rfl
theorem r180 : FEntOk Tryz.prog f180 := fent_of_ev none_ok t180 mixed (fnsOk_of 417 fns) rfl q180
theorem x180 : fitE f180 = true := by kernel_rfl
noncomputable def f181 : FEnt := ⟨180, [.agg [.lit (.slice none 0 0), .lit (.slice none 0 0), .slr 0 0 2 0, .int .i64 (0)]], 10, 0, i43, .int .i64 (0), 228, 0, [], none⟩
theorem t181 : Tab2Ok Tryz.prog [] := fun x hx => by cases hx
set_option maxRecDepth 1000000 in
theorem q181 : evEnt Tryz.prog 417 100000 [] [] 60 f181 = true := by kernel_rfl
theorem r181 : FEntOk Tryz.prog f181 := fent_of_ev none_ok t181 mixed (fnsOk_of 417 fns) rfl q181
theorem x181 : fitE f181 = true := by kernel_rfl
noncomputable def f182 : FEnt := ⟨70, [.agg [.lit (.slice none 0 0), .lit (.slice none 0 0), .slr 0 0 2 0, .int .i64 (0)], .int .i64 (0)], 10, 0, i43, .tup [.agg [.sl 243 0 4 4, .sl 244 0 4 4, .slr 277 0 4 0, .sl 245 0 4 4, .sl 246 0 4 4], .int .i64 (0)], 294, 0, [⟨243, 0, [.lit (.slice none 0 0), .slr 264 0 2 0, .slr 266 0 1 0, .slr 257 0 1 0]⟩, ⟨244, 0, [.sl 250 0 1 1, .sl 255 0 1 1, .lit (.slice none 0 0), .sl 262 0 2 2]⟩, ⟨277, 1, [.int .i64 (0), .int .i64 (1), .int .i64 (3), .int .i64 (2)]⟩, ⟨245, 0, [.int .i64 (-1), .int .i64 (0), .int .i64 (3), .int .i64 (1)]⟩, ⟨246, 0, [.lit (.slice none 0 0), .slr 300 0 1 0, .lit (.slice none 0 0), .slr 302 0 1 0]⟩, ⟨264, 1, [.int .i64 (0), .int .i64 (3)]⟩, ⟨266, 1, [.int .i64 (3)]⟩, ⟨257, 1, [.int .i64 (1)]⟩, ⟨250, 0, [.int .i64 (1)]⟩, ⟨255, 0, [.int .i64 (3)]⟩, ⟨262, 0, [.int .i64 (1), .int .i64 (2)]⟩, ⟨300, 1, [.int .i64 (1)]⟩, ⟨302, 1, [.int .i64 (1)]⟩], none⟩
theorem t182 : Tab2Ok Tryz.prog [⟨f181, [0, 1, 2, 3, 4, 5, 6, 7, 8, 9], []⟩, ⟨f3, [], []⟩, ⟨f4, [], []⟩, ⟨f38, [], []⟩, ⟨f32, [], []⟩] := fun x hx => by
  simp only [List.mem_cons, List.not_mem_nil, or_false] at hx
  rcases hx with rfl | rfl | rfl | rfl | rfl
  · exact ⟨r181, x181, by kernel_rfl⟩
  · exact ⟨r3, x3, by kernel_rfl⟩
  · exact ⟨r4, x4, by kernel_rfl⟩
  · exact ⟨r38, x38, by kernel_rfl⟩
  · exact ⟨r32, x32, by kernel_rfl⟩
set_option maxRecDepth 1000000 in
theorem q182 : evEnt Tryz.prog 417 100000 [] [⟨f181, [0, 1, 2, 3, 4, 5, 6, 7, 8, 9], []⟩, ⟨f3, [], []⟩, ⟨f4, [], []⟩, ⟨f38, [], []⟩, ⟨f32, [], []⟩] 60 f182 = true := by kernel_rfl
theorem r182 : FEntOk Tryz.prog f182 := fent_of_ev none_ok t182 mixed (fnsOk_of 417 fns) rfl q182
theorem x182 : fitE f182 = true := by kernel_rfl
noncomputable def f183 : FEnt := ⟨180, [.agg [.lit (.slice none 0 0), .lit (.slice none 0 0), .slr 0 0 2 0, .int .i64 (0)]], 9, 0, i44, .int .i64 (0), 217, 0, [], none⟩
theorem t183 : Tab2Ok Tryz.prog [] := fun x hx => by cases hx
set_option maxRecDepth 1000000 in
theorem q183 : evEnt Tryz.prog 417 100000 [] [] 60 f183 = true := by kernel_rfl
theorem r183 : FEntOk Tryz.prog f183 := fent_of_ev none_ok t183 mixed (fnsOk_of 417 fns) rfl q183
theorem x183 : fitE f183 = true := by kernel_rfl
noncomputable def f184 : FEnt := ⟨70, [.agg [.lit (.slice none 0 0), .lit (.slice none 0 0), .slr 0 0 2 0, .int .i64 (0)], .int .i64 (0)], 9, 0, i44, .tup [.agg [.sl 231 0 3 3, .sl 232 0 3 3, .slr 258 0 3 0, .sl 233 0 3 3, .sl 234 0 3 3], .int .i64 (0)], 266, 0, [⟨231, 0, [.lit (.slice none 0 0), .slr 245 0 2 0, .slr 247 0 1 0]⟩, ⟨232, 0, [.sl 238 0 1 1, .sl 243 0 2 2, .lit (.slice none 0 0)]⟩, ⟨258, 1, [.int .i64 (0), .int .i64 (1), .int .i64 (2)]⟩, ⟨233, 0, [.int .i64 (-1), .int .i64 (0), .int .i64 (1)]⟩, ⟨234, 0, [.lit (.slice none 0 0), .slr 273 0 1 0, .lit (.slice none 0 0)]⟩, ⟨245, 1, [.int .i64 (0), .int .i64 (1)]⟩, ⟨247, 1, [.int .i64 (1)]⟩, ⟨238, 0, [.int .i64 (1)]⟩, ⟨243, 0, [.int .i64 (1), .int .i64 (2)]⟩, ⟨273, 1, [.int .i64 (1)]⟩], none⟩
theorem t184 : Tab2Ok Tryz.prog [⟨f183, [0, 1, 2, 3, 4, 5, 6, 7, 8], []⟩, ⟨f3, [], []⟩, ⟨f4, [], []⟩, ⟨f5, [], []⟩] := fun x hx => by
  simp only [List.mem_cons, List.not_mem_nil, or_false] at hx
  rcases hx with rfl | rfl | rfl | rfl
  · exact ⟨r183, x183, by kernel_rfl⟩
  · exact ⟨r3, x3, by kernel_rfl⟩
  · exact ⟨r4, x4, by kernel_rfl⟩
  · exact ⟨r5, x5, by kernel_rfl⟩
set_option maxRecDepth 1000000 in
theorem q184 : evEnt Tryz.prog 417 100000 [] [⟨f183, [0, 1, 2, 3, 4, 5, 6, 7, 8], []⟩, ⟨f3, [], []⟩, ⟨f4, [], []⟩, ⟨f5, [], []⟩] 60 f184 = true := by kernel_rfl
theorem r184 : FEntOk Tryz.prog f184 := fent_of_ev none_ok t184 mixed (fnsOk_of 417 fns) rfl q184
theorem x184 : fitE f184 = true := by kernel_rfl
end Go.Proofs.YtbkgehknhjkaoaaGreatDoor.Pipe
