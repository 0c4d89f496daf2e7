/- Calls of the law's run: what each finds, hands back and lays. -/
import Derived.Test.YtbkgehknhjkaoaaGreatDoorPipeG35
namespace Go.Proofs.YtbkgehknhjkaoaaGreatDoor.Pipe
open Go Go.Proofs.YtbkgehknhjkaoaaGreatDoor.Ev
noncomputable def f247 : FEnt := ⟨14, [.agg [.lit (.slice none 0 0), .lit (.slice none 0 0), .slr 0 0 2 0, .int .i64 (0)], .int .i64 (0), .agg [.int .i64 (-1), .lit (.slice none 0 0)]], 7, 0, i60, .tup [.agg [.lit (.slice none 0 0), .lit (.slice none 0 0), .slr 1017 0 2 0, .int .i64 (0)], .sl 1018 0 1 1, .int .i64 (0)], 1012, 0, [⟨1017, 6, [.lit (.string (bs [102])), .int .i64 (0), .int .i64 (3), .bool false, .lit (.slice none 0 0), .sl 886 0 4 4, .lit (.string (bs [103])), .int .i64 (1), .int .i64 (2), .bool true, .lit (.slice none 0 0), .slr 1015 0 1 0]⟩, ⟨1018, 0, [.int .i64 (3), .int .i64 (0), .int .i64 (0), .int .i64 (0), .int .i64 (-1)]⟩, ⟨886, 0, [.slr 860 0 1 0, .int .i64 (1), .int .i64 (0), .int .i64 (0), .int .i64 (1), .int .i64 (0), .slr 875 0 3 0, .int .i64 (2), .int .i64 (2), .int .i64 (0), .int .i64 (2), .int .i64 (3), .slr 880 0 1 0, .int .i64 (1), .int .i64 (0), .int .i64 (0), .int .i64 (1), .int .i64 (0), .slr 885 0 1 0, .int .i64 (3), .int .i64 (0), .int .i64 (0), .int .i64 (0), .int .i64 (0)]⟩, ⟨1015, 6, [.lit (.slice none 0 0), .int .i64 (3), .int .i64 (0), .int .i64 (0), .int .i64 (0), .int .i64 (0)]⟩, ⟨860, 13, [.int .i64 (1), .int .i64 (0), .int .i64 (0), .int .i64 (-1), .int .i64 (0), .int .i64 (0), .int .i64 (0), .int .i64 (0), .int .i64 (0), .int .i64 (0), .lit (.slice none 0 0), .lit (.slice none 0 0), .lit (.slice none 0 0)]⟩, ⟨875, 13, [.int .i64 (8), .int .i64 (0), .int .i64 (-1), .int .i64 (0), .int .i64 (0), .int .i64 (0), .int .i64 (0), .int .i64 (0), .int .i64 (0), .int .i64 (0), .lit (.slice none 0 0), .lit (.slice none 0 0), .lit (.slice none 0 0), .int .i64 (2), .int .i64 (1), .int .i64 (1), .int .i64 (0), .int .i64 (0), .int .i64 (-1), .int .i64 (1), .int .i64 (0), .int .i64 (0), .int .i64 (0), .lit (.slice none 0 0), .lit (.slice none 0 0), .lit (.slice none 0 0), .int .i64 (2), .int .i64 (13), .int .i64 (2), .int .i64 (1), .int .i64 (0), .int .i64 (-1), .int .i64 (3), .int .i64 (0), .int .i64 (0), .int .i64 (0), .lit (.slice none 0 0), .lit (.slice none 0 0), .lit (.slice none 0 0)]⟩, ⟨880, 13, [.int .i64 (1), .int .i64 (0), .int .i64 (0), .int .i64 (1), .int .i64 (0), .int .i64 (0), .int .i64 (0), .int .i64 (0), .int .i64 (0), .int .i64 (0), .lit (.slice none 0 0), .lit (.slice none 0 0), .lit (.slice none 0 0)]⟩, ⟨885, 13, [.int .i64 (8), .int .i64 (0), .int .i64 (-1), .int .i64 (-1), .int .i64 (5), .int .i64 (0), .int .i64 (0), .int .i64 (0), .int .i64 (0), .int .i64 (0), .lit (.slice none 0 0), .lit (.slice none 0 0), .lit (.slice none 0 0)]⟩], none⟩
theorem t247 : Tab2Ok Tryz.prog [⟨f246, [0, 1, 2, 3, 4, 5, 6], []⟩, ⟨f246, [288, 1, 286, 3, 4, 5, 6], []⟩, ⟨f246, [613, 548, 611, 522, 537, 542, 547], []⟩] := fun x hx => by
  simp only [List.mem_cons, List.not_mem_nil, or_false] at hx
  rcases hx with rfl | rfl | rfl
  · exact ⟨r246, x246, by kernel_rfl⟩
  · exact ⟨r246, x246, by kernel_rfl⟩
  · exact ⟨r246, x246, by kernel_rfl⟩
set_option maxRecDepth 1000000 in
theorem q247 : evEnt Tryz.prog 417 100000 [] [⟨f246, [0, 1, 2, 3, 4, 5, 6], []⟩, ⟨f246, [288, 1, 286, 3, 4, 5, 6], []⟩, ⟨f246, [613, 548, 611, 522, 537, 542, 547], []⟩] 60 f247 = true := by kernel_rfl
theorem r247 : FEntOk Tryz.prog f247 := fent_of_ev none_ok t247 mixed (fnsOk_of 417 fns) rfl q247
theorem x247 : fitE f247 = true := by kernel_rfl
noncomputable def f248 : FEnt := ⟨12, [.agg [.lit (.slice none 0 0), .lit (.slice none 0 0), .slr 0 0 2 0, .int .i64 (0)], .agg [.int .i64 (-1), .lit (.slice none 0 0)]], 7, 0, i60, .int .i64 (0), 1015, 0, [], none⟩
theorem t248 : Tab2Ok Tryz.prog [⟨f247, [0, 1, 2, 3, 4, 5, 6], []⟩] := fun x hx => by
  simp only [List.mem_cons, List.not_mem_nil, or_false] at hx
  rcases hx with rfl
  · exact ⟨r247, x247, by kernel_rfl⟩
set_option maxRecDepth 1000000 in
theorem q248 : evEnt Tryz.prog 417 100000 [] [⟨f247, [0, 1, 2, 3, 4, 5, 6], []⟩] 60 f248 = true := by kernel_rfl
theorem r248 : FEntOk Tryz.prog f248 := fent_of_ev none_ok t248 mixed (fnsOk_of 417 fns) rfl q248
theorem x248 : fitE f248 = true := by kernel_rfl
noncomputable def f249 : FEnt := ⟨70, [.agg [.lit (.slice none 0 0), .lit (.slice none 0 0), .slr 0 0 2 0, .int .i64 (0)], .int .i64 (1)], 7, 0, i60, .tup [.agg [.sl 168 0 1 1, .sl 169 0 1 1, .slr 179 0 1 0, .sl 170 0 1 1, .sl 171 0 1 1], .int .i64 (0)], 177, 2, [⟨168, 0, [.lit (.slice none 0 0)]⟩, ⟨169, 0, [.lit (.slice none 0 0)]⟩, ⟨179, 1, [.int .i64 (0)]⟩, ⟨170, 0, [.int .i64 (-1)]⟩, ⟨171, 0, [.lit (.slice none 0 0)]⟩], none⟩
theorem t249 : Tab2Ok Tryz.prog [⟨f245, [0, 1, 2, 3, 4, 5, 6], []⟩] := fun x hx => by
  simp only [List.mem_cons, List.not_mem_nil, or_false] at hx
  rcases hx with rfl
  · exact ⟨r245, x245, by kernel_rfl⟩
set_option maxRecDepth 1000000 in
theorem q249 : evEnt Tryz.prog 417 100000 [] [⟨f245, [0, 1, 2, 3, 4, 5, 6], []⟩] 60 f249 = true := by kernel_rfl
theorem r249 : FEntOk Tryz.prog f249 := fent_of_ev none_ok t249 mixed (fnsOk_of 417 fns) rfl q249
theorem x249 : fitE f249 = true := by kernel_rfl
noncomputable def f250 : FEnt := ⟨180, [.agg [.lit (.slice none 0 0), .lit (.slice none 0 0), .slr 0 0 2 0, .int .i64 (0)]], 7, 0, i61, .int .i64 (0), 156, 0, [], none⟩
theorem t250 : Tab2Ok Tryz.prog [] := fun x hx => by cases hx
set_option maxRecDepth 1000000 in
theorem q250 : evEnt Tryz.prog 417 100000 [] [] 60 f250 = true := by kernel_rfl
theorem r250 : FEntOk Tryz.prog f250 := fent_of_ev none_ok t250 mixed (fnsOk_of 417 fns) rfl q250
theorem x250 : fitE f250 = true := by kernel_rfl
noncomputable def f251 : FEnt := ⟨70, [.agg [.lit (.slice none 0 0), .lit (.slice none 0 0), .slr 0 0 2 0, .int .i64 (0)], .int .i64 (1)], 7, 0, i61, .tup [.agg [.sl 168 0 1 1, .sl 169 0 1 1, .slr 179 0 1 0, .sl 170 0 1 1, .sl 171 0 1 1], .int .i64 (0)], 177, 2, [⟨168, 0, [.lit (.slice none 0 0)]⟩, ⟨169, 0, [.lit (.slice none 0 0)]⟩, ⟨179, 1, [.int .i64 (0)]⟩, ⟨170, 0, [.int .i64 (-1)]⟩, ⟨171, 0, [.lit (.slice none 0 0)]⟩], none⟩
theorem t251 : Tab2Ok Tryz.prog [⟨f250, [0, 1, 2, 3, 4, 5, 6], []⟩] := fun x hx => by
  simp only [List.mem_cons, List.not_mem_nil, or_false] at hx
  rcases hx with rfl
  · exact ⟨r250, x250, by kernel_rfl⟩
set_option maxRecDepth 1000000 in
theorem q251 : evEnt Tryz.prog 417 100000 [] [⟨f250, [0, 1, 2, 3, 4, 5, 6], []⟩] 60 f251 = true := by kernel_rfl
theorem r251 : FEntOk Tryz.prog f251 := fent_of_ev none_ok t251 mixed (fnsOk_of 417 fns) rfl q251
theorem x251 : fitE f251 = true := by kernel_rfl
noncomputable def f252 : FEnt := ⟨180, [.agg [.lit (.slice none 0 0), .lit (.slice none 0 0), .slr 0 0 2 0, .int .i64 (0)]], 7, 0, i62, .int .i64 (0), 156, 0, [], none⟩
theorem t252 : Tab2Ok Tryz.prog [] := fun x hx => by cases hx
set_option maxRecDepth 1000000 in
theorem q252 : evEnt Tryz.prog 417 100000 [] [] 60 f252 = true := by kernel_rfl
theorem r252 : FEntOk Tryz.prog f252 := fent_of_ev none_ok t252 mixed (fnsOk_of 417 fns) rfl q252
theorem x252 : fitE f252 = true := by kernel_rfl
noncomputable def f253 : FEnt := ⟨70, [.agg [.lit (.slice none 0 0), .lit (.slice none 0 0), .slr 0 0 2 0, .int .i64 (0)], .int .i64 (1)], 7, 0, i62, .tup [.agg [.sl 168 0 1 1, .sl 169 0 1 1, .slr 179 0 1 0, .sl 170 0 1 1, .sl 171 0 1 1], .int .i64 (0)], 177, 2, [⟨168, 0, [.lit (.slice none 0 0)]⟩, ⟨169, 0, [.lit (.slice none 0 0)]⟩, ⟨179, 1, [.int .i64 (0)]⟩, ⟨170, 0, [.int .i64 (-1)]⟩, ⟨171, 0, [.lit (.slice none 0 0)]⟩], none⟩
theorem t253 : Tab2Ok Tryz.prog [⟨f252, [0, 1, 2, 3, 4, 5, 6], []⟩] := fun x hx => by
  simp only [List.mem_cons, List.not_mem_nil, or_false] at hx
  rcases hx with rfl
  · exact ⟨r252, x252, by kernel_rfl⟩
set_option maxRecDepth 1000000 in
theorem q253 : evEnt Tryz.prog 417 100000 [] [⟨f252, [0, 1, 2, 3, 4, 5, 6], []⟩] 60 f253 = true := by kernel_rfl
theorem r253 : FEntOk Tryz.prog f253 := fent_of_ev none_ok t253 mixed (fnsOk_of 417 fns) rfl q253
theorem x253 : fitE f253 = true := by kernel_rfl
noncomputable def f254 : FEnt := ⟨14, [.agg [.lit (.slice none 0 0), .lit (.slice none 0 0), .slr 0 0 2 0, .int .i64 (0)], .int .i64 (1), .agg [.int .i64 (-1), .lit (.slice none 0 0)]], 7, 0, i60, .tup [.agg [.lit (.slice none 0 0), .lit (.slice none 0 0), .slr 728 0 2 0, .int .i64 (0)], .sl 729 0 1 1, .int .i64 (0)], 723, 6, [⟨728, 6, [.lit (.string (bs [102])), .int .i64 (0), .int .i64 (3), .bool false, .lit (.slice none 0 0), .slr 689 0 4 0, .lit (.string (bs [103])), .int .i64 (1), .int .i64 (1), .bool true, .lit (.slice none 0 0), .sl 675 0 1 1]⟩, ⟨729, 0, [.int .i64 (3), .int .i64 (0), .int .i64 (1), .int .i64 (0), .int .i64 (-1)]⟩, ⟨689, 6, [.slr 694 0 1 0, .int .i64 (1), .int .i64 (0), .int .i64 (0), .int .i64 (1), .int .i64 (0), .slr 709 0 3 0, .int .i64 (2), .int .i64 (2), .int .i64 (0), .int .i64 (2), .int .i64 (3), .slr 714 0 1 0, .int .i64 (1), .int .i64 (0), .int .i64 (0), .int .i64 (1), .int .i64 (0), .slr 719 0 1 0, .int .i64 (3), .int .i64 (0), .int .i64 (0), .int .i64 (0), .int .i64 (0)]⟩, ⟨675, 0, [.lit (.slice none 0 0), .int .i64 (3), .int .i64 (0), .int .i64 (0), .int .i64 (0), .int .i64 (0)]⟩, ⟨694, 13, [.int .i64 (1), .int .i64 (0), .int .i64 (0), .int .i64 (-1), .int .i64 (0), .int .i64 (0), .int .i64 (0), .int .i64 (0), .int .i64 (0), .int .i64 (0), .lit (.slice none 0 0), .lit (.slice none 0 0), .lit (.slice none 0 0)]⟩, ⟨709, 13, [.int .i64 (8), .int .i64 (0), .int .i64 (-1), .int .i64 (0), .int .i64 (0), .int .i64 (0), .int .i64 (0), .int .i64 (0), .int .i64 (0), .int .i64 (0), .lit (.slice none 0 0), .lit (.slice none 0 0), .lit (.slice none 0 0), .int .i64 (2), .int .i64 (1), .int .i64 (1), .int .i64 (0), .int .i64 (0), .int .i64 (-1), .int .i64 (1), .int .i64 (0), .int .i64 (0), .int .i64 (0), .lit (.slice none 0 0), .lit (.slice none 0 0), .lit (.slice none 0 0), .int .i64 (2), .int .i64 (13), .int .i64 (2), .int .i64 (1), .int .i64 (0), .int .i64 (-1), .int .i64 (3), .int .i64 (0), .int .i64 (0), .int .i64 (0), .lit (.slice none 0 0), .lit (.slice none 0 0), .lit (.slice none 0 0)]⟩, ⟨714, 13, [.int .i64 (1), .int .i64 (0), .int .i64 (0), .int .i64 (1), .int .i64 (0), .int .i64 (0), .int .i64 (0), .int .i64 (0), .int .i64 (0), .int .i64 (0), .lit (.slice none 0 0), .lit (.slice none 0 0), .lit (.slice none 0 0)]⟩, ⟨719, 13, [.int .i64 (8), .int .i64 (0), .int .i64 (-1), .int .i64 (-1), .int .i64 (5), .int .i64 (0), .int .i64 (0), .int .i64 (0), .int .i64 (0), .int .i64 (0), .lit (.slice none 0 0), .lit (.slice none 0 0), .lit (.slice none 0 0)]⟩], none⟩
theorem t254 : Tab2Ok Tryz.prog [⟨f249, [0, 1, 2, 3, 4, 5, 6], []⟩, ⟨f251, [243, 204, 2, 209, 224, 229, 234], []⟩, ⟨f253, [483, 444, 428, 449, 464, 469, 474], []⟩] := fun x hx => by
  simp only [List.mem_cons, List.not_mem_nil, or_false] at hx
  rcases hx with rfl | rfl | rfl
  · exact ⟨r249, x249, by kernel_rfl⟩
  · exact ⟨r251, x251, by kernel_rfl⟩
  · exact ⟨r253, x253, by kernel_rfl⟩
set_option maxRecDepth 1000000 in
theorem q254 : evEnt Tryz.prog 417 100000 [] [⟨f249, [0, 1, 2, 3, 4, 5, 6], []⟩, ⟨f251, [243, 204, 2, 209, 224, 229, 234], []⟩, ⟨f253, [483, 444, 428, 449, 464, 469, 474], []⟩] 60 f254 = true := by kernel_rfl
theorem r254 : FEntOk Tryz.prog f254 := fent_of_ev none_ok t254 mixed (fnsOk_of 417 fns) rfl q254
theorem x254 : fitE f254 = true := by kernel_rfl
noncomputable def f255 : FEnt := ⟨21, [.agg [.lit (.slice none 0 0), .lit (.slice none 0 0), .slr 0 0 2 0, .int .i64 (0)], .int .i64 (200)], 7, 0, i63, .tup [.agg [.slr 175 0 4 0, .int .i64 (1), .int .i64 (0)], .int .i64 (0)], 170, 0, [⟨175, 1, [.int .i64 (0), .int .i64 (1), .int .i64 (2), .int .i64 (5)]⟩], none⟩
theorem t255 : Tab2Ok Tryz.prog [] := fun x hx => by cases hx
set_option maxRecDepth 1000000 in
theorem q255 : evEnt Tryz.prog 417 100000 [] [] 60 f255 = true := by kernel_rfl
theorem r255 : FEntOk Tryz.prog f255 := fent_of_ev none_ok t255 mixed (fnsOk_of 417 fns) rfl q255
theorem x255 : fitE f255 = true := by kernel_rfl
end Go.Proofs.YtbkgehknhjkaoaaGreatDoor.Pipe
