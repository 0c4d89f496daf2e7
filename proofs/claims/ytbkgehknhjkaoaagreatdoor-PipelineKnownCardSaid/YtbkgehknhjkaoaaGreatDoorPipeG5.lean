/- Calls of the law's run: what each finds, hands back and lays. -/
import Derived.Test.YtbkgehknhjkaoaaGreatDoorPipeG1
namespace Go.Proofs.YtbkgehknhjkaoaaGreatDoor.Pipe
open Go Go.Proofs.YtbkgehknhjkaoaaGreatDoor.Ev
noncomputable def f30 : FEnt := ⟨180, [.agg [.lit (.slice none 0 0), .lit (.slice none 0 0), .slr 0 0 2 0, .int .i64 (0)]], 8, 0, i5, .int .i64 (0), 212, 0, [], none⟩
theorem t30 : Tab2Ok Tryz.prog [] := fun x hx => by cases hx
set_option maxRecDepth 1000000 in
theorem q30 : evEnt Tryz.prog 417 100000 [] [] 60 f30 = true := by kernel_rfl
theorem r30 : FEntOk Tryz.prog f30 := fent_of_ev none_ok t30 mixed (fnsOk_of 417 fns) rfl q30
theorem x30 : fitE f30 = true := by kernel_rfl
noncomputable def f31 : FEnt := ⟨185, [.agg [.bool true, .bool true, .bool true, .bool true, .bool true, .bool false, .bool false, .bool false, .bool false, .bool false, .bool false, .bool false, .bool false, .bool false, .bool false, .bool false, .bool false, .bool false, .bool false, .bool false, .bool false, .bool false, .bool false, .bool false, .bool false, .bool false, .bool false, .bool false, .bool false, .bool false, .bool false, .bool false, .bool false, .bool false, .bool false, .bool false, .bool false, .bool false, .bool false, .bool false, .bool false, .bool false, .bool false, .bool false, .bool false, .bool false, .bool false, .bool false, .bool false, .bool false, .bool false, .bool false, .bool false, .bool false, .bool false, .bool false, .bool false, .bool false, .bool false, .bool false]], 0, 0, [], .int .i64 (5), 1, 0, [], none⟩
theorem t31 : Tab2Ok Tryz.prog [] := fun x hx => by cases hx
set_option maxRecDepth 1000000 in
theorem q31 : evEnt Tryz.prog 417 100000 [] [] 60 f31 = true := by kernel_rfl
theorem r31 : FEntOk Tryz.prog f31 := fent_of_ev none_ok t31 mixed (fnsOk_of 417 fns) rfl q31
theorem x31 : fitE f31 = true := by kernel_rfl
noncomputable def f32 : FEnt := ⟨185, [.agg [.bool true, .bool true, .bool false, .bool true, .bool false, .bool false, .bool false, .bool false, .bool false, .bool false, .bool false, .bool false, .bool false, .bool false, .bool false, .bool false, .bool false, .bool false, .bool false, .bool false, .bool false, .bool false, .bool false, .bool false, .bool false, .bool false, .bool false, .bool false, .bool false, .bool false, .bool false, .bool false, .bool false, .bool false, .bool false, .bool false, .bool false, .bool false, .bool false, .bool false, .bool false, .bool false, .bool false, .bool false, .bool false, .bool false, .bool false, .bool false, .bool false, .bool false, .bool false, .bool false, .bool false, .bool false, .bool false, .bool false, .bool false, .bool false, .bool false, .bool false]], 0, 0, [], .int .i64 (3), 1, 0, [], none⟩
theorem t32 : Tab2Ok Tryz.prog [] := fun x hx => by cases hx
set_option maxRecDepth 1000000 in
theorem q32 : evEnt Tryz.prog 417 100000 [] [] 60 f32 = true := by kernel_rfl
theorem r32 : FEntOk Tryz.prog f32 := fent_of_ev none_ok t32 mixed (fnsOk_of 417 fns) rfl q32
theorem x32 : fitE f32 = true := by kernel_rfl
noncomputable def f33 : FEnt := ⟨185, [.agg [.bool true, .bool true, .bool false, .bool true, .bool true, .bool false, .bool false, .bool false, .bool false, .bool false, .bool false, .bool false, .bool false, .bool false, .bool false, .bool false, .bool false, .bool false, .bool false, .bool false, .bool false, .bool false, .bool false, .bool false, .bool false, .bool false, .bool false, .bool false, .bool false, .bool false, .bool false, .bool false, .bool false, .bool false, .bool false, .bool false, .bool false, .bool false, .bool false, .bool false, .bool false, .bool false, .bool false, .bool false, .bool false, .bool false, .bool false, .bool false, .bool false, .bool false, .bool false, .bool false, .bool false, .bool false, .bool false, .bool false, .bool false, .bool false, .bool false, .bool false]], 0, 0, [], .int .i64 (4), 1, 0, [], none⟩
theorem t33 : Tab2Ok Tryz.prog [] := fun x hx => by cases hx
set_option maxRecDepth 1000000 in
theorem q33 : evEnt Tryz.prog 417 100000 [] [] 60 f33 = true := by kernel_rfl
theorem r33 : FEntOk Tryz.prog f33 := fent_of_ev none_ok t33 mixed (fnsOk_of 417 fns) rfl q33
theorem x33 : fitE f33 = true := by kernel_rfl
noncomputable def f34 : FEnt := ⟨70, [.agg [.lit (.slice none 0 0), .lit (.slice none 0 0), .slr 0 0 2 0, .int .i64 (0)], .int .i64 (0)], 8, 0, i5, .tup [.agg [.sl 225 0 5 5, .sl 226 0 5 5, .slr 266 0 5 0, .sl 227 0 5 5, .sl 228 0 5 5], .int .i64 (0)], 297, 0, [⟨225, 0, [.lit (.slice none 0 0), .slr 251 0 2 0, .slr 253 0 1 0, .slr 239 0 1 0, .slr 246 0 1 0]⟩, ⟨226, 0, [.sl 232 0 1 1, .sl 237 0 1 1, .lit (.slice none 0 0), .sl 244 0 1 1, .sl 249 0 2 2]⟩, ⟨266, 1, [.int .i64 (0), .int .i64 (1), .int .i64 (3), .int .i64 (4), .int .i64 (2)]⟩, ⟨227, 0, [.int .i64 (-1), .int .i64 (0), .int .i64 (4), .int .i64 (1), .int .i64 (3)]⟩, ⟨228, 0, [.lit (.slice none 0 0), .slr 299 0 1 0, .lit (.slice none 0 0), .slr 301 0 1 0, .slr 303 0 1 0]⟩, ⟨251, 1, [.int .i64 (0), .int .i64 (4)]⟩, ⟨253, 1, [.int .i64 (4)]⟩, ⟨239, 1, [.int .i64 (1)]⟩, ⟨246, 1, [.int .i64 (3)]⟩, ⟨232, 0, [.int .i64 (1)]⟩, ⟨237, 0, [.int .i64 (3)]⟩, ⟨244, 0, [.int .i64 (4)]⟩, ⟨249, 0, [.int .i64 (1), .int .i64 (2)]⟩, ⟨299, 1, [.int .i64 (1)]⟩, ⟨301, 1, [.int .i64 (1)]⟩, ⟨303, 1, [.int .i64 (1)]⟩], none⟩
theorem t34 : Tab2Ok Tryz.prog [⟨f30, [0, 1, 2, 3, 4, 5, 6, 7], []⟩, ⟨f3, [], []⟩, ⟨f4, [], []⟩, ⟨f31, [], []⟩, ⟨f32, [], []⟩, ⟨f33, [], []⟩] := fun x hx => by
  simp only [List.mem_cons, List.not_mem_nil, or_false] at hx
  rcases hx with rfl | rfl | rfl | rfl | rfl | rfl
  · exact ⟨r30, x30, by kernel_rfl⟩
  · exact ⟨r3, x3, by kernel_rfl⟩
  · exact ⟨r4, x4, by kernel_rfl⟩
  · exact ⟨r31, x31, by kernel_rfl⟩
  · exact ⟨r32, x32, by kernel_rfl⟩
  · exact ⟨r33, x33, by kernel_rfl⟩
set_option maxRecDepth 1000000 in
theorem q34 : evEnt Tryz.prog 417 100000 [] [⟨f30, [0, 1, 2, 3, 4, 5, 6, 7], []⟩, ⟨f3, [], []⟩, ⟨f4, [], []⟩, ⟨f31, [], []⟩, ⟨f32, [], []⟩, ⟨f33, [], []⟩] 60 f34 = true := by kernel_rfl
theorem r34 : FEntOk Tryz.prog f34 := fent_of_ev none_ok t34 mixed (fnsOk_of 417 fns) rfl q34
theorem x34 : fitE f34 = true := by kernel_rfl
noncomputable def f35 : FEnt := ⟨180, [.agg [.lit (.slice none 0 0), .lit (.slice none 0 0), .slr 0 0 2 0, .int .i64 (0)]], 8, 0, i6, .int .i64 (0), 212, 0, [], none⟩
theorem t35 : Tab2Ok Tryz.prog [] := fun x hx => by cases hx
set_option maxRecDepth 1000000 in
theorem q35 : evEnt Tryz.prog 417 100000 [] [] 60 f35 = true := by kernel_rfl
theorem r35 : FEntOk Tryz.prog f35 := fent_of_ev none_ok t35 mixed (fnsOk_of 417 fns) rfl q35
theorem x35 : fitE f35 = true := by kernel_rfl
noncomputable def f36 : FEnt := ⟨70, [.agg [.lit (.slice none 0 0), .lit (.slice none 0 0), .slr 0 0 2 0, .int .i64 (0)], .int .i64 (0)], 8, 0, i6, .tup [.agg [.sl 225 0 5 5, .sl 226 0 5 5, .slr 266 0 5 0, .sl 227 0 5 5, .sl 228 0 5 5], .int .i64 (0)], 297, 0, [⟨225, 0, [.lit (.slice none 0 0), .slr 251 0 2 0, .slr 253 0 1 0, .slr 239 0 1 0, .slr 246 0 1 0]⟩, ⟨226, 0, [.sl 232 0 1 1, .sl 237 0 1 1, .lit (.slice none 0 0), .sl 244 0 1 1, .sl 249 0 2 2]⟩, ⟨266, 1, [.int .i64 (0), .int .i64 (1), .int .i64 (3), .int .i64 (4), .int .i64 (2)]⟩, ⟨227, 0, [.int .i64 (-1), .int .i64 (0), .int .i64 (4), .int .i64 (1), .int .i64 (3)]⟩, ⟨228, 0, [.lit (.slice none 0 0), .slr 299 0 1 0, .lit (.slice none 0 0), .slr 301 0 1 0, .slr 303 0 1 0]⟩, ⟨251, 1, [.int .i64 (0), .int .i64 (4)]⟩, ⟨253, 1, [.int .i64 (4)]⟩, ⟨239, 1, [.int .i64 (1)]⟩, ⟨246, 1, [.int .i64 (3)]⟩, ⟨232, 0, [.int .i64 (1)]⟩, ⟨237, 0, [.int .i64 (3)]⟩, ⟨244, 0, [.int .i64 (4)]⟩, ⟨249, 0, [.int .i64 (1), .int .i64 (2)]⟩, ⟨299, 1, [.int .i64 (1)]⟩, ⟨301, 1, [.int .i64 (1)]⟩, ⟨303, 1, [.int .i64 (1)]⟩], none⟩
theorem t36 : Tab2Ok Tryz.prog [⟨f35, [0, 1, 2, 3, 4, 5, 6, 7], []⟩, ⟨f3, [], []⟩, ⟨f4, [], []⟩, ⟨f31, [], []⟩, ⟨f32, [], []⟩, ⟨f33, [], []⟩] := fun x hx => by
  simp only [List.mem_cons, List.not_mem_nil, or_false] at hx
  rcases hx with rfl | rfl | rfl | rfl | rfl | rfl
  · exact ⟨r35, x35, by kernel_rfl⟩
  · exact ⟨r3, x3, by kernel_rfl⟩
  · exact ⟨r4, x4, by kernel_rfl⟩
  · exact ⟨r31, x31, by kernel_rfl⟩
  · exact ⟨r32, x32, by kernel_rfl⟩
  · exact ⟨r33, x33, by kernel_rfl⟩
set_option maxRecDepth 1000000 in
theorem q36 : evEnt Tryz.prog 417 100000 [] [⟨f35, [0, 1, 2, 3, 4, 5, 6, 7], []⟩, ⟨f3, [], []⟩, ⟨f4, [], []⟩, ⟨f31, [], []⟩, ⟨f32, [], []⟩, ⟨f33, [], []⟩] 60 f36 = true := by kernel_rfl
theorem r36 : FEntOk Tryz.prog f36 := fent_of_ev none_ok t36 mixed (fnsOk_of 417 fns) rfl q36
theorem x36 : fitE f36 = true := by kernel_rfl
noncomputable def f37 : FEnt := ⟨180, [.agg [.lit (.slice none 0 0), .lit (.slice none 0 0), .slr 0 0 2 0, .int .i64 (0)]], 7, 0, i7, .int .i64 (0), 204, 0, [], none⟩
theorem t37 : Tab2Ok Tryz.prog [] := fun x hx => by cases hx
set_option maxRecDepth 1000000 in
theorem q37 : evEnt Tryz.prog 417 100000 [] [] 60 f37 = true := by kernel_rfl
theorem r37 : FEntOk Tryz.prog f37 := fent_of_ev none_ok t37 mixed (fnsOk_of 417 fns) rfl q37
theorem x37 : fitE f37 = true := by kernel_rfl
noncomputable def f38 : FEnt := ⟨185, [.agg [.bool true, .bool true, .bool true, .bool true, .bool false, .bool false, .bool false, .bool false, .bool false, .bool false, .bool false, .bool false, .bool false, .bool false, .bool false, .bool false, .bool false, .bool false, .bool false, .bool false, .bool false, .bool false, .bool false, .bool false, .bool false, .bool false, .bool false, .bool false, .bool false, .bool false, .bool false, .bool false, .bool false, .bool false, .bool false, .bool false, .bool false, .bool false, .bool false, .bool false, .bool false, .bool false, .bool false, .bool false, .bool false, .bool false, .bool false, .bool false, .bool false, .bool false, .bool false, .bool false, .bool false, .bool false, .bool false, .bool false, .bool false, .bool false, .bool false, .bool false]], 0, 0, [], .int .i64 (4), 1, 0, [], none⟩
theorem t38 : Tab2Ok Tryz.prog [] := fun x hx => by cases hx
set_option maxRecDepth 1000000 in
theorem q38 : evEnt Tryz.prog 417 100000 [] [] 60 f38 = true := by kernel_rfl
theorem r38 : FEntOk Tryz.prog f38 := fent_of_ev none_ok t38 mixed (fnsOk_of 417 fns) rfl q38
theorem x38 : fitE f38 = true := by kernel_rfl
noncomputable def f39 : FEnt := ⟨70, [.agg [.lit (.slice none 0 0), .lit (.slice none 0 0), .slr 0 0 2 0, .int .i64 (0)], .int .i64 (0)], 7, 0, i7, .tup [.agg [.sl 216 0 4 4, .sl 217 0 4 4, .slr 250 0 4 0, .sl 218 0 4 4, .sl 219 0 4 4], .int .i64 (0)], 270, 0, [⟨216, 0, [.lit (.slice none 0 0), .slr 237 0 2 0, .slr 239 0 1 0, .slr 230 0 1 0]⟩, ⟨217, 0, [.sl 223 0 1 1, .sl 228 0 1 1, .lit (.slice none 0 0), .sl 235 0 2 2]⟩, ⟨250, 1, [.int .i64 (0), .int .i64 (1), .int .i64 (3), .int .i64 (2)]⟩, ⟨218, 0, [.int .i64 (-1), .int .i64 (0), .int .i64 (3), .int .i64 (1)]⟩, ⟨219, 0, [.lit (.slice none 0 0), .slr 273 0 1 0, .lit (.slice none 0 0), .slr 275 0 1 0]⟩, ⟨237, 1, [.int .i64 (0), .int .i64 (3)]⟩, ⟨239, 1, [.int .i64 (3)]⟩, ⟨230, 1, [.int .i64 (1)]⟩, ⟨223, 0, [.int .i64 (1)]⟩, ⟨228, 0, [.int .i64 (3)]⟩, ⟨235, 0, [.int .i64 (1), .int .i64 (2)]⟩, ⟨273, 1, [.int .i64 (1)]⟩, ⟨275, 1, [.int .i64 (1)]⟩], none⟩
theorem t39 : Tab2Ok Tryz.prog [⟨f37, [0, 1, 2, 3, 4, 5, 6], []⟩, ⟨f3, [], []⟩, ⟨f4, [], []⟩, ⟨f38, [], []⟩, ⟨f32, [], []⟩] := fun x hx => by
  simp only [List.mem_cons, List.not_mem_nil, or_false] at hx
  rcases hx with rfl | rfl | rfl | rfl | rfl
  · exact ⟨r37, x37, by kernel_rfl⟩
  · exact ⟨r3, x3, by kernel_rfl⟩
  · exact ⟨r4, x4, by kernel_rfl⟩
  · exact ⟨r38, x38, by kernel_rfl⟩
  · exact ⟨r32, x32, by kernel_rfl⟩
set_option maxRecDepth 1000000 in
theorem q39 : evEnt Tryz.prog 417 100000 [] [⟨f37, [0, 1, 2, 3, 4, 5, 6], []⟩, ⟨f3, [], []⟩, ⟨f4, [], []⟩, ⟨f38, [], []⟩, ⟨f32, [], []⟩] 60 f39 = true := by kernel_rfl
theorem r39 : FEntOk Tryz.prog f39 := fent_of_ev none_ok t39 mixed (fnsOk_of 417 fns) rfl q39
theorem x39 : fitE f39 = true := by kernel_rfl
end Go.Proofs.YtbkgehknhjkaoaaGreatDoor.Pipe
