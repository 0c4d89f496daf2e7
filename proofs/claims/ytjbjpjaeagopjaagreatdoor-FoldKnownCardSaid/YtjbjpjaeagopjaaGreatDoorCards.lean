/-
  DERIVED. GIVEN WITH THE SEED: THE CARDS: each row of YtjbjpjaeagopjaaGreatDoorRows.lean that lists a variable, with what it lists TIED to the program's text (the seventh form; the later family's looks); each row that meets fmt, with fmt's text TOLD by the authors' own Lean function (tested against real Go, not proved from fmt's source: count such statements apart). THE CARD IS WHAT COUNTS. Prove the row's statement (the work); the ties are given (YtjbjpjaeagopjaaGreatDoorTie.lean); close each card by the builder's one call (the guide's Derived/Test/ToyasCard.lean, 'card_holds'). Laid BY PROGRAM, IN A SANDBOX (cutbox-door.mjs). By AI agents, Wed Nov 11 2026. No macro, syntax, notation, axiom, sorry.
-/
import Derived.Test.YtjbjpjaeagopjaaGreatDoorRows
import GoSem.ClaimSeven
namespace Go.Proofs.YtjbjpjaeagopjaaGreatDoor
namespace Rows

/-- THE TIED CARD OF 'cupellaw13.FoldKnown'. -/
def foldKnownCard : Claim7 := { stood := { row := foldKnownRow, standIns := [], harness := (true, "f58609aacf221bcd9c4f85e93f1a72833065a14ded436a3752a2495d6e83c43b"), looks := false }, kinds := [], alts := [], laidByText := true, laidKinds := [.data], laidTests := true, laidLooks := .later }
def FoldKnownCardSaid : Prop := Claim7.holds Tryz.pinned (.plain (OpenSpec.ofChange foldKnownSpec)) foldKnownCard

/-- THE TIED CARD OF 'cupellaw16.PeepKnown'. -/
def peepKnownCard : Claim7 := { stood := { row := peepKnownRow, standIns := [], harness := (true, "f58609aacf221bcd9c4f85e93f1a72833065a14ded436a3752a2495d6e83c43b"), looks := false }, kinds := [], alts := [], laidByText := true, laidKinds := [.data], laidTests := true, laidLooks := .later }
def PeepKnownCardSaid : Prop := Claim7.holds Tryz.pinned (.plain (OpenSpec.ofChange peepKnownSpec)) peepKnownCard

/-- THE SECOND FORM's CARD OF 'cupellaw13.FoldKnown'. -/
def foldKnownUptoCard : Claim7 := { stood := { row := foldKnownUptoRow, standIns := [], harness := (true, "f58609aacf221bcd9c4f85e93f1a72833065a14ded436a3752a2495d6e83c43b"), looks := false }, kinds := [], alts := [], laidByText := true, laidKinds := [.data], laidTests := true, laidLooks := .later }
def FoldKnownUptoCardSaid : Prop := Claim7.holds Tryz.pinned (.plain (OpenSpec.upto foldKnownSpec)) foldKnownUptoCard

/-- THE SECOND FORM's CARD OF 'cupellaw16.PeepKnown'. -/
def peepKnownUptoCard : Claim7 := { stood := { row := peepKnownUptoRow, standIns := [], harness := (true, "f58609aacf221bcd9c4f85e93f1a72833065a14ded436a3752a2495d6e83c43b"), looks := false }, kinds := [], alts := [], laidByText := true, laidKinds := [.data], laidTests := true, laidLooks := .later }
def PeepKnownUptoCardSaid : Prop := Claim7.holds Tryz.pinned (.plain (OpenSpec.upto peepKnownSpec)) peepKnownUptoCard
end Rows
end Go.Proofs.YtjbjpjaeagopjaaGreatDoor
