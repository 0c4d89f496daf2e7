/- Closed facts on the program, for the law's row. -/
import Derived.Test.YtbkgehknhjkaoaaGreatDoorRows
import Derived.JoinedOf
import Derived.ProofKit
namespace Go.Proofs.YtbkgehknhjkaoaaGreatDoor.Pipe
open Go Go.ChangeShapes Go.WideShapes Go.ChangeAt Go.RowKit Go.Proofs
set_option maxRecDepth 100000 in
theorem j13 : ((Rows.pipelineKnownRow.named == Tryz.pinned.checked.prog.varsNamed 3)) = true := by kernel_rfl
end Go.Proofs.YtbkgehknhjkaoaaGreatDoor.Pipe
