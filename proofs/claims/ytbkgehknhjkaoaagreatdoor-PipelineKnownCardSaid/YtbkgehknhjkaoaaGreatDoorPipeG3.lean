/- Calls of the law's run: what each finds, hands back and lays. -/
import Derived.Test.YtbkgehknhjkaoaaGreatDoorPipeG2
namespace Go.Proofs.YtbkgehknhjkaoaaGreatDoor.Pipe
open Go Go.Proofs.YtbkgehknhjkaoaaGreatDoor.Ev
noncomputable def f19 : FEnt := ⟨129, [.agg [.lit (.slice none 0 0), .lit (.slice none 0 0), .slr 0 0 2 0, .int .i64 (0)], .int .i64 (0)], 7, 0, i2, .tup [.slr 356 0 3 0, .slr 359 0 3 0, .int .i64 (0)], 353, 0, [⟨356, 1, [.slr 332 0 1 0, .slr 342 0 1 0, .slr 354 0 1 0]⟩, ⟨359, 1, [.slr 337 0 1 0, .slr 349 0 2 0, .lit (.slice none 0 0)]⟩, ⟨332, 1, [.int .i64 (0)]⟩, ⟨342, 1, [.int .i64 (0)]⟩, ⟨354, 1, [.int .i64 (1)]⟩, ⟨337, 1, [.int .i64 (0)]⟩, ⟨349, 1, [.int .i64 (0), .int .i64 (1)]⟩], none⟩
theorem t19 : Tab2Ok Tryz.prog [⟨f10, [0, 1, 2, 3, 4, 5, 6], []⟩, ⟨f15, [328], []⟩, ⟨f15, [179], []⟩, ⟨f15, [276], []⟩, ⟨f16, [181], []⟩, ⟨f17, [259], []⟩, ⟨f18, [183], []⟩] := fun x hx => by
  simp only [List.mem_cons, List.not_mem_nil, or_false] at hx
  rcases hx with rfl | rfl | rfl | rfl | rfl | rfl | rfl
  · exact ⟨r10, x10, by kernel_rfl⟩
  · exact ⟨r15, x15, by kernel_rfl⟩
  · exact ⟨r15, x15, by kernel_rfl⟩
  · exact ⟨r15, x15, by kernel_rfl⟩
  · exact ⟨r16, x16, by kernel_rfl⟩
  · exact ⟨r17, x17, by kernel_rfl⟩
  · exact ⟨r18, x18, by kernel_rfl⟩
set_option maxRecDepth 1000000 in
theorem q19 : evEntS Tryz.prog 417 100000 [] [⟨f10, [0, 1, 2, 3, 4, 5, 6], []⟩, ⟨f15, [328], []⟩, ⟨f15, [179], []⟩, ⟨f15, [276], []⟩, ⟨f16, [181], []⟩, ⟨f17, [259], []⟩, ⟨f18, [183], []⟩] 60 ty 198 4070811997647550268413196792806740848985787173436392308761484007985810440183 f19 = true := by kernel_rfl
theorem r19 : FEntOk Tryz.prog f19 := fent_of_evS none_ok t19 mixed (fnsOk_of 417 fns) ty_ok rfl q19
theorem x19 : fitE f19 = true := by kernel_rfl
end Go.Proofs.YtbkgehknhjkaoaaGreatDoor.Pipe
