/-
  DERIVED. GIVEN WITH THE SEED: THE CARDS: each row of YtgoccionghehoaaGreatDoorRows.lean that lists a variable, with what it lists TIED to the program's text (the seventh form; the later family's looks); each row that meets fmt, with fmt's text TOLD by the authors' own Lean function (tested against real Go, not proved from fmt's source: count such statements apart). THE CARD IS WHAT COUNTS. Prove the row's statement (the work); the ties are given (YtgoccionghehoaaGreatDoorTie.lean); close each card by the builder's one call (the guide's Derived/Test/ToyasCard.lean, 'card_holds'). Laid BY PROGRAM, IN A SANDBOX (cutbox-door.mjs). By AI agents, Wed Nov 11 2026. No macro, syntax, notation, axiom, sorry.
-/
import Derived.Test.YtgoccionghehoaaGreatDoorRows
import GoSem.ClaimSeven
namespace Go.Proofs.YtgoccionghehoaaGreatDoor
namespace Rows

/-- THE TIED CARD OF 'cupellaw16.PeepNumbers'. -/
def peepNumbersCard : Claim7 := { stood := { row := peepNumbersRow, standIns := [], harness := (true, "5fb3ffe8555c759c82949b0cf9299865fbc1c48af3beb3195dcf13298f9fd538"), looks := false }, kinds := [], alts := [], laidByText := true, laidKinds := [.data], laidTests := true, laidLooks := .later }
def PeepNumbersCardSaid : Prop := Claim7.holds Tryz.pinned (.plain (OpenSpec.ofChange peepNumbersSpec)) peepNumbersCard

/-- THE SECOND FORM's CARD OF 'cupellaw16.PeepNumbers'. -/
def peepNumbersUptoCard : Claim7 := { stood := { row := peepNumbersUptoRow, standIns := [], harness := (true, "5fb3ffe8555c759c82949b0cf9299865fbc1c48af3beb3195dcf13298f9fd538"), looks := false }, kinds := [], alts := [], laidByText := true, laidKinds := [.data], laidTests := true, laidLooks := .later }
def PeepNumbersUptoCardSaid : Prop := Claim7.holds Tryz.pinned (.plain (OpenSpec.upto peepNumbersSpec)) peepNumbersUptoCard
end Rows
end Go.Proofs.YtgoccionghehoaaGreatDoor
