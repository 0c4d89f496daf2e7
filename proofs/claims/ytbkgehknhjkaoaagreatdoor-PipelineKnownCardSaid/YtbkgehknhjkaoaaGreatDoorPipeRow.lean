/- Proved: the law PipelineKnown returns true (it takes no argument), and its tied card. Conditions: the four listed variables hold when the call begins what the program's text lays in them (the card ties it to the text). -/
import Derived.Test.YtbkgehknhjkaoaaGreatDoorRows
import Derived.Test.YtbkgehknhjkaoaaGreatDoorCards
import Derived.Test.YtbkgehknhjkaoaaGreatDoorTie
import Derived.Test.YtbkgehknhjkaoaaGreatDoorPipeRb
import Derived.Test.YtbkgehknhjkaoaaGreatDoorPipeRe
import Derived.Test.YtbkgehknhjkaoaaGreatDoorPipeJ7
import Derived.SevenTiedAt
namespace Go.Proofs.YtbkgehknhjkaoaaGreatDoor.Pipe
open Go Go.ChangeShapes Go.WideShapes Go.ChangeAt Go.RowKit Go.Proofs Go.Joins
theorem card_said : Rows.PipelineKnownCardSaid :=
  Claim7.holds_tied_plain_at .later [] [.data, .data, .data, .widerDeep] true (true, "0899ef69bead8c457aea26a8cc422af233d9dab18dfc4d583eee7923a645ca07") false
    said (fun _ h => by cases h) c_w (fun _ h => by cases h) pipelineKnown_row_tie rfl ⟨rfl, rfl⟩ c_m rfl
    (fun f fn hf hfn => by
      obtain rfl : f = 3 := Option.some.inj (c_n.symm.trans hf) |>.symm
      obtain rfl : fn = Tryz.f3 := (Option.some.inj (Tryz.func3.symm.trans hfn)).symm
      exact ⟨c_l, fun j t ht => by
        rw [Tryz.params3] at ht
        simp at ht⟩)
    c_g
end Go.Proofs.YtbkgehknhjkaoaaGreatDoor.Pipe
