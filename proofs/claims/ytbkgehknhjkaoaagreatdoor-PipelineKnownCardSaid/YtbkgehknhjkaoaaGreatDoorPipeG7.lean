/- Calls of the law's run: what each finds, hands back and lays. -/
import Derived.Test.YtbkgehknhjkaoaaGreatDoorPipeG2
import Derived.Test.YtbkgehknhjkaoaaGreatDoorPipeG5
import Derived.Test.YtbkgehknhjkaoaaGreatDoorPipeG6
namespace Go.Proofs.YtbkgehknhjkaoaaGreatDoor.Pipe
open Go Go.Proofs.YtbkgehknhjkaoaaGreatDoor.Ev
noncomputable def f49 : FEnt := ⟨129, [.agg [.lit (.slice none 0 0), .lit (.slice none 0 0), .slr 0 0 2 0, .int .i64 (0)], .int .i64 (0)], 8, 0, i6, .tup [.slr 635 0 5 0, .slr 642 0 5 0, .int .i64 (0)], 635, 0, [⟨635, 1, [.slr 579 0 1 0, .slr 589 0 1 0, .slr 603 0 1 0, .slr 615 0 3 0, .slr 633 0 3 0]⟩, ⟨642, 1, [.slr 584 0 1 0, .slr 598 0 3 0, .lit (.slice none 0 0), .slr 624 0 3 0, .slr 640 0 2 0]⟩, ⟨579, 1, [.int .i64 (0)]⟩, ⟨589, 1, [.int .i64 (0)]⟩, ⟨603, 1, [.int .i64 (1)]⟩, ⟨615, 1, [.int .i64 (0), .int .i64 (1), .int .i64 (3)]⟩, ⟨633, 1, [.int .i64 (0), .int .i64 (1), .int .i64 (2)]⟩, ⟨584, 1, [.int .i64 (0)]⟩, ⟨598, 1, [.int .i64 (0), .int .i64 (1), .int .i64 (3)]⟩, ⟨624, 1, [.int .i64 (0), .int .i64 (1), .int .i64 (2)]⟩, ⟨640, 1, [.int .i64 (0), .int .i64 (1)]⟩], none⟩
theorem t49 : Tab2Ok Tryz.prog [⟨f35, [0, 1, 2, 3, 4, 5, 6, 7], []⟩, ⟨f15, [575], []⟩, ⟨f15, [226], []⟩, ⟨f15, [545], []⟩, ⟨f47, [228], []⟩, ⟨f17, [530], []⟩, ⟨f18, [230], []⟩, ⟨f47, [507], []⟩, ⟨f48, [232], []⟩, ⟨f48, [470], []⟩, ⟨f16, [234], []⟩] := fun x hx => by
  simp only [List.mem_cons, List.not_mem_nil, or_false] at hx
  rcases hx with rfl | rfl | rfl | rfl | rfl | rfl | rfl | rfl | rfl | rfl | rfl
  · exact ⟨r35, x35, by kernel_rfl⟩
  · exact ⟨r15, x15, by kernel_rfl⟩
  · exact ⟨r15, x15, by kernel_rfl⟩
  · exact ⟨r15, x15, by kernel_rfl⟩
  · exact ⟨r47, x47, by kernel_rfl⟩
  · exact ⟨r17, x17, by kernel_rfl⟩
  · exact ⟨r18, x18, by kernel_rfl⟩
  · exact ⟨r47, x47, by kernel_rfl⟩
  · exact ⟨r48, x48, by kernel_rfl⟩
  · exact ⟨r48, x48, by kernel_rfl⟩
  · exact ⟨r16, x16, by kernel_rfl⟩
set_option maxRecDepth 1000000 in
theorem q49 : evEntS Tryz.prog 417 100000 [] [⟨f35, [0, 1, 2, 3, 4, 5, 6, 7], []⟩, ⟨f15, [575], []⟩, ⟨f15, [226], []⟩, ⟨f15, [545], []⟩, ⟨f47, [228], []⟩, ⟨f17, [530], []⟩, ⟨f18, [230], []⟩, ⟨f47, [507], []⟩, ⟨f48, [232], []⟩, ⟨f48, [470], []⟩, ⟨f16, [234], []⟩] 60 ty 198 4070811997647550268413196792806740848985787173436392308761484007985810440183 f49 = true := by kernel_rfl
theorem r49 : FEntOk Tryz.prog f49 := fent_of_evS none_ok t49 mixed (fnsOk_of 417 fns) ty_ok rfl q49
theorem x49 : fitE f49 = true := by kernel_rfl
end Go.Proofs.YtbkgehknhjkaoaaGreatDoor.Pipe
