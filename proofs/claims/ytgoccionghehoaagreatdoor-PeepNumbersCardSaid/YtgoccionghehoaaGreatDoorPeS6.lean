/- The beginning of peep.Run is seen. -/
import Derived.Test.YtgoccionghehoaaGreatDoorPe5
set_option linter.unusedSimpArgs false
set_option linter.unusedVariables false
set_option linter.unusedSectionVars false
namespace Go.Proofs.YtgoccionghehoaaGreatDoor.Ev
open Go Go.Proofs

set_option maxHeartbeats 4000000 in
theorem sh24 {W0 : World} [GOk W0] (A B C k n : Int) : Seen6 W0 A B C [I 2, knd k, I 3, I 0, I 0, I 1, I 0, I 0, I 0, I 0, nilS, nilS, nilS] [I 2, knd n, I 4, I (-1), I C, I (-1), I C, I 0, I 0, I 0, nilS, nilS, nilS] := by
  intro F q
  kernel_rfl
set_option maxHeartbeats 4000000 in
theorem sh25 {W0 : World} [GOk W0] (A B C k n : Int) : Seen6 W0 A B C [I 2, knd k, I 3, I (-1), I A, I 1, I 0, I 0, I 0, I 0, nilS, nilS, nilS] [I 2, knd n, I 4, I (-1), I C, I (-1), I C, I 0, I 0, I 0, nilS, nilS, nilS] := by
  intro F q
  kernel_rfl
set_option maxHeartbeats 4000000 in
theorem sh26 {W0 : World} [GOk W0] (A B C k n : Int) : Seen6 W0 A B C [I 2, knd k, I 3, I 0, I 0, I (-1), I B, I 0, I 0, I 0, nilS, nilS, nilS] [I 2, knd n, I 4, I (-1), I C, I (-1), I C, I 0, I 0, I 0, nilS, nilS, nilS] := by
  intro F q
  kernel_rfl
set_option maxHeartbeats 4000000 in
theorem sh27 {W0 : World} [GOk W0] (A B C k n : Int) : Seen6 W0 A B C [I 2, knd k, I 3, I (-1), I A, I (-1), I B, I 0, I 0, I 0, nilS, nilS, nilS] [I 2, knd n, I 4, I (-1), I C, I (-1), I C, I 0, I 0, I 0, nilS, nilS, nilS] := by
  intro F q
  kernel_rfl
end Go.Proofs.YtgoccionghehoaaGreatDoor.Ev
