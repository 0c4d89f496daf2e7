/-
  DERIVED. GIVEN WITH THE SEED: THE CARDS: each row of YtbkgehknhjkaoaaGreatDoorRows.lean that lists a variable, with what it lists TIED to the program's text (the seventh form; the later family's looks); each row that meets fmt, with fmt's text TOLD by the authors' own Lean function (tested against real Go, not proved from fmt's source: count such statements apart). THE CARD IS WHAT COUNTS. Prove the row's statement (the work); the ties are given (YtbkgehknhjkaoaaGreatDoorTie.lean); close each card by the builder's one call (the guide's Derived/Test/ToyasCard.lean, 'card_holds'). Laid BY PROGRAM, IN A SANDBOX (cutbox-door.mjs). By AI agents, Wed Nov 11 2026. No macro, syntax, notation, axiom, sorry.
-/
import Derived.Test.YtbkgehknhjkaoaaGreatDoorRows
import GoSem.ClaimSeven
namespace Go.Proofs.YtbkgehknhjkaoaaGreatDoor
namespace Rows

/-- THE TIED CARD OF 'cupellaw19.PipelineKnown'. -/
def pipelineKnownCard : Claim7 := { stood := { row := pipelineKnownRow, standIns := [], harness := (true, "0899ef69bead8c457aea26a8cc422af233d9dab18dfc4d583eee7923a645ca07"), looks := false }, kinds := [], alts := [], laidByText := true, laidKinds := [.data, .data, .data, .widerDeep], laidTests := true, laidLooks := .later }
def PipelineKnownCardSaid : Prop := Claim7.holds Tryz.pinned (.plain (OpenSpec.ofChange pipelineKnownSpec)) pipelineKnownCard

/-- THE SECOND FORM's CARD OF 'cupellaw19.PipelineKnown'. -/
def pipelineKnownUptoCard : Claim7 := { stood := { row := pipelineKnownUptoRow, standIns := [], harness := (true, "0899ef69bead8c457aea26a8cc422af233d9dab18dfc4d583eee7923a645ca07"), looks := false }, kinds := [], alts := [], laidByText := true, laidKinds := [.data, .data, .data, .widerDeep], laidTests := true, laidLooks := .later }
def PipelineKnownUptoCardSaid : Prop := Claim7.holds Tryz.pinned (.plain (OpenSpec.upto pipelineKnownSpec)) pipelineKnownUptoCard
end Rows
end Go.Proofs.YtbkgehknhjkaoaaGreatDoor
