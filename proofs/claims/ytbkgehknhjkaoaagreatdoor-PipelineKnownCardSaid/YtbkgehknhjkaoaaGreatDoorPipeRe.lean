/- Closed facts on the program, for the law's card. -/
import Derived.Test.YtbkgehknhjkaoaaGreatDoorRows
import Derived.Test.YtbkgehknhjkaoaaGreatDoorCards
import Derived.SevenTiedAt
import Derived.ProofKit
namespace Go.Proofs.YtbkgehknhjkaoaaGreatDoor.Pipe
open Go Go.ChangeShapes Go.WideShapes Go.ChangeAt Go.RowKit Go.Proofs
theorem c_g : false = Rows.pipelineKnownRow.goesBy Tryz.pinned.checked.prog := by kernel_rfl
end Go.Proofs.YtbkgehknhjkaoaaGreatDoor.Pipe
