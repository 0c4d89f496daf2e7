/- Calls of the law's run: what each finds, hands back and lays. -/
import Derived.Test.YtbkgehknhjkaoaaGreatDoorPipeG1
import Derived.Test.YtbkgehknhjkaoaaGreatDoorPipeG5
namespace Go.Proofs.YtbkgehknhjkaoaaGreatDoor.Pipe
open Go Go.Proofs.YtbkgehknhjkaoaaGreatDoor.Ev
noncomputable def f163 : FEnt := ⟨180, [.agg [.lit (.slice none 0 0), .lit (.slice none 0 0), .slr 0 0 2 0, .int .i64 (0)]], 11, 0, i37, .int .i64 (0), 239, 0, [], none⟩
theorem t163 : Tab2Ok Tryz.prog [] := fun x hx => by cases hx
set_option maxRecDepth 1000000 in
theorem q163 : evEnt Tryz.prog 417 100000 [] [] 60 f163 = true := by kernel_rfl
theorem r163 : FEntOk Tryz.prog f163 := fent_of_ev none_ok t163 mixed (fnsOk_of 417 fns) rfl q163
theorem x163 : fitE f163 = true := by kernel_rfl
noncomputable def f164 : FEnt := ⟨70, [.agg [.lit (.slice none 0 0), .lit (.slice none 0 0), .slr 0 0 2 0, .int .i64 (0)], .int .i64 (0)], 11, 0, i37, .tup [.agg [.sl 255 0 5 5, .sl 256 0 5 5, .slr 296 0 5 0, .sl 257 0 5 5, .sl 258 0 5 5], .int .i64 (0)], 324, 0, [⟨255, 0, [.lit (.slice none 0 0), .slr 281 0 2 0, .slr 283 0 1 0, .slr 269 0 1 0, .slr 276 0 1 0]⟩, ⟨256, 0, [.sl 262 0 1 1, .sl 267 0 1 1, .lit (.slice none 0 0), .sl 274 0 1 1, .sl 279 0 2 2]⟩, ⟨296, 1, [.int .i64 (0), .int .i64 (1), .int .i64 (3), .int .i64 (4), .int .i64 (2)]⟩, ⟨257, 0, [.int .i64 (-1), .int .i64 (0), .int .i64 (4), .int .i64 (1), .int .i64 (3)]⟩, ⟨258, 0, [.lit (.slice none 0 0), .slr 329 0 1 0, .lit (.slice none 0 0), .slr 331 0 1 0, .slr 333 0 1 0]⟩, ⟨281, 1, [.int .i64 (0), .int .i64 (4)]⟩, ⟨283, 1, [.int .i64 (4)]⟩, ⟨269, 1, [.int .i64 (1)]⟩, ⟨276, 1, [.int .i64 (3)]⟩, ⟨262, 0, [.int .i64 (1)]⟩, ⟨267, 0, [.int .i64 (3)]⟩, ⟨274, 0, [.int .i64 (4)]⟩, ⟨279, 0, [.int .i64 (1), .int .i64 (2)]⟩, ⟨329, 1, [.int .i64 (1)]⟩, ⟨331, 1, [.int .i64 (1)]⟩, ⟨333, 1, [.int .i64 (1)]⟩], none⟩
theorem t164 : Tab2Ok Tryz.prog [⟨f163, [0, 1, 2, 3, 4, 5, 6, 7, 8, 9, 10], []⟩, ⟨f3, [], []⟩, ⟨f4, [], []⟩, ⟨f31, [], []⟩, ⟨f32, [], []⟩, ⟨f33, [], []⟩] := fun x hx => by
  simp only [List.mem_cons, List.not_mem_nil, or_false] at hx
  rcases hx with rfl | rfl | rfl | rfl | rfl | rfl
  · exact ⟨r163, x163, by kernel_rfl⟩
  · exact ⟨r3, x3, by kernel_rfl⟩
  · exact ⟨r4, x4, by kernel_rfl⟩
  · exact ⟨r31, x31, by kernel_rfl⟩
  · exact ⟨r32, x32, by kernel_rfl⟩
  · exact ⟨r33, x33, by kernel_rfl⟩
set_option maxRecDepth 1000000 in
theorem q164 : evEnt Tryz.prog 417 100000 [] [⟨f163, [0, 1, 2, 3, 4, 5, 6, 7, 8, 9, 10], []⟩, ⟨f3, [], []⟩, ⟨f4, [], []⟩, ⟨f31, [], []⟩, ⟨f32, [], []⟩, ⟨f33, [], []⟩] 60 f164 = true := by kernel_rfl
theorem r164 : FEntOk Tryz.prog f164 := fent_of_ev none_ok t164 mixed (fnsOk_of 417 fns) rfl q164
theorem x164 : fitE f164 = true := by kernel_rfl
noncomputable def f165 : FEnt := ⟨180, [.agg [.lit (.slice none 0 0), .lit (.slice none 0 0), .slr 0 0 2 0, .int .i64 (0)]], 11, 0, i38, .int .i64 (0), 239, 0, [], none⟩
theorem t165 : Tab2Ok Tryz.prog [] := fun x hx => by cases hx
set_option maxRecDepth 1000000 in
theorem q165 : evEnt Tryz.prog 417 100000 [] [] 60 f165 = true := by kernel_rfl
theorem r165 : FEntOk Tryz.prog f165 := fent_of_ev none_ok t165 mixed (fnsOk_of 417 fns) rfl q165
theorem x165 : fitE f165 = true := by kernel_rfl
noncomputable def f166 : FEnt := ⟨70, [.agg [.lit (.slice none 0 0), .lit (.slice none 0 0), .slr 0 0 2 0, .int .i64 (0)], .int .i64 (0)], 11, 0, i38, .tup [.agg [.sl 255 0 5 5, .sl 256 0 5 5, .slr 296 0 5 0, .sl 257 0 5 5, .sl 258 0 5 5], .int .i64 (0)], 324, 0, [⟨255, 0, [.lit (.slice none 0 0), .slr 281 0 2 0, .slr 283 0 1 0, .slr 269 0 1 0, .slr 276 0 1 0]⟩, ⟨256, 0, [.sl 262 0 1 1, .sl 267 0 1 1, .lit (.slice none 0 0), .sl 274 0 1 1, .sl 279 0 2 2]⟩, ⟨296, 1, [.int .i64 (0), .int .i64 (1), .int .i64 (3), .int .i64 (4), .int .i64 (2)]⟩, ⟨257, 0, [.int .i64 (-1), .int .i64 (0), .int .i64 (4), .int .i64 (1), .int .i64 (3)]⟩, ⟨258, 0, [.lit (.slice none 0 0), .slr 329 0 1 0, .lit (.slice none 0 0), .slr 331 0 1 0, .slr 333 0 1 0]⟩, ⟨281, 1, [.int .i64 (0), .int .i64 (4)]⟩, ⟨283, 1, [.int .i64 (4)]⟩, ⟨269, 1, [.int .i64 (1)]⟩, ⟨276, 1, [.int .i64 (3)]⟩, ⟨262, 0, [.int .i64 (1)]⟩, ⟨267, 0, [.int .i64 (3)]⟩, ⟨274, 0, [.int .i64 (4)]⟩, ⟨279, 0, [.int .i64 (1), .int .i64 (2)]⟩, ⟨329, 1, [.int .i64 (1)]⟩, ⟨331, 1, [.int .i64 (1)]⟩, ⟨333, 1, [.int .i64 (1)]⟩], none⟩
theorem t166 : Tab2Ok Tryz.prog [⟨f165, [0, 1, 2, 3, 4, 5, 6, 7, 8, 9, 10], []⟩, ⟨f3, [], []⟩, ⟨f4, [], []⟩, ⟨f31, [], []⟩, ⟨f32, [], []⟩, ⟨f33, [], []⟩] := fun x hx => by
  simp only [List.mem_cons, List.not_mem_nil, or_false] at hx
  rcases hx with rfl | rfl | rfl | rfl | rfl | rfl
  · exact ⟨r165, x165, by kernel_rfl⟩
  · exact ⟨r3, x3, by kernel_rfl⟩
  · exact ⟨r4, x4, by kernel_rfl⟩
  · exact ⟨r31, x31, by kernel_rfl⟩
  · exact ⟨r32, x32, by kernel_rfl⟩
  · exact ⟨r33, x33, by kernel_rfl⟩
set_option maxRecDepth 1000000 in
theorem q166 : evEnt Tryz.prog 417 100000 [] [⟨f165, [0, 1, 2, 3, 4, 5, 6, 7, 8, 9, 10], []⟩, ⟨f3, [], []⟩, ⟨f4, [], []⟩, ⟨f31, [], []⟩, ⟨f32, [], []⟩, ⟨f33, [], []⟩] 60 f166 = true := by kernel_rfl
theorem r166 : FEntOk Tryz.prog f166 := fent_of_ev none_ok t166 mixed (fnsOk_of 417 fns) rfl q166
theorem x166 : fitE f166 = true := by kernel_rfl
noncomputable def f167 : FEnt := ⟨180, [.agg [.lit (.slice none 0 0), .lit (.slice none 0 0), .slr 0 0 2 0, .int .i64 (0)]], 10, 0, i39, .int .i64 (0), 228, 0, [], none⟩
theorem t167 : Tab2Ok Tryz.prog [] := fun x hx => by cases hx
set_option maxRecDepth 1000000 in
theorem q167 : evEnt Tryz.prog 417 100000 [] [] 60 f167 = true := by kernel_rfl
theorem r167 : FEntOk Tryz.prog f167 := fent_of_ev none_ok t167 mixed (fnsOk_of 417 fns) rfl q167
theorem x167 : fitE f167 = true := by kernel_rfl
noncomputable def f168 : FEnt := ⟨70, [.agg [.lit (.slice none 0 0), .lit (.slice none 0 0), .slr 0 0 2 0, .int .i64 (0)], .int .i64 (0)], 10, 0, i39, .tup [.agg [.sl 243 0 4 4, .sl 244 0 4 4, .slr 277 0 4 0, .sl 245 0 4 4, .sl 246 0 4 4], .int .i64 (0)], 294, 0, [⟨243, 0, [.lit (.slice none 0 0), .slr 264 0 2 0, .slr 266 0 1 0, .slr 257 0 1 0]⟩, ⟨244, 0, [.sl 250 0 1 1, .sl 255 0 1 1, .lit (.slice none 0 0), .sl 262 0 2 2]⟩, ⟨277, 1, [.int .i64 (0), .int .i64 (1), .int .i64 (3), .int .i64 (2)]⟩, ⟨245, 0, [.int .i64 (-1), .int .i64 (0), .int .i64 (3), .int .i64 (1)]⟩, ⟨246, 0, [.lit (.slice none 0 0), .slr 300 0 1 0, .lit (.slice none 0 0), .slr 302 0 1 0]⟩, ⟨264, 1, [.int .i64 (0), .int .i64 (3)]⟩, ⟨266, 1, [.int .i64 (3)]⟩, ⟨257, 1, [.int .i64 (1)]⟩, ⟨250, 0, [.int .i64 (1)]⟩, ⟨255, 0, [.int .i64 (3)]⟩, ⟨262, 0, [.int .i64 (1), .int .i64 (2)]⟩, ⟨300, 1, [.int .i64 (1)]⟩, ⟨302, 1, [.int .i64 (1)]⟩], none⟩
theorem t168 : Tab2Ok Tryz.prog [⟨f167, [0, 1, 2, 3, 4, 5, 6, 7, 8, 9], []⟩, ⟨f3, [], []⟩, ⟨f4, [], []⟩, ⟨f38, [], []⟩, ⟨f32, [], []⟩] := fun x hx => by
  simp only [List.mem_cons, List.not_mem_nil, or_false] at hx
  rcases hx with rfl | rfl | rfl | rfl | rfl
  · exact ⟨r167, x167, by kernel_rfl⟩
  · exact ⟨r3, x3, by kernel_rfl⟩
  · exact ⟨r4, x4, by kernel_rfl⟩
  · exact ⟨r38, x38, by kernel_rfl⟩
  · exact ⟨r32, x32, by kernel_rfl⟩
set_option maxRecDepth 1000000 in
theorem q168 : evEnt Tryz.prog 417 100000 [] [⟨f167, [0, 1, 2, 3, 4, 5, 6, 7, 8, 9], []⟩, ⟨f3, [], []⟩, ⟨f4, [], []⟩, ⟨f38, [], []⟩, ⟨f32, [], []⟩] 60 f168 = true := by kernel_rfl
theorem r168 : FEntOk Tryz.prog f168 := fent_of_ev none_ok t168 mixed (fnsOk_of 417 fns) rfl q168
theorem x168 : fitE f168 = true := by kernel_rfl
noncomputable def f169 : FEnt := ⟨180, [.agg [.lit (.slice none 0 0), .lit (.slice none 0 0), .slr 0 0 2 0, .int .i64 (0)]], 9, 0, i40, .int .i64 (0), 217, 0, [], none⟩
theorem t169 : Tab2Ok Tryz.prog [] := fun x hx => by cases hx
set_option maxRecDepth 1000000 in
theorem q169 : evEnt Tryz.prog 417 100000 [] [] 60 f169 = true := by kernel_rfl
theorem r169 : FEntOk Tryz.prog f169 := fent_of_ev none_ok t169 mixed (fnsOk_of 417 fns) rfl q169
theorem x169 : fitE f169 = true := by kernel_rfl
end Go.Proofs.YtbkgehknhjkaoaaGreatDoor.Pipe
