/-
  DERIVED. GIVEN WITH THE SEED: THE CARDS: each row of YtledkbgjjmdflaaDoorRows.lean that lists a variable, with what it lists TIED to the program's text (the seventh form; the later family's looks); each row that meets fmt, with fmt's text TOLD by the authors' own Lean function (tested against real Go, not proved from fmt's source: count such statements apart). THE CARD IS WHAT COUNTS. Prove the row's statement (the work); the ties are given (YtledkbgjjmdflaaDoorTie.lean); close each card by the builder's one call (the guide's Derived/Test/ToyasCard.lean, 'card_holds'). Laid BY PROGRAM, IN A SANDBOX (cutbox-door.mjs). By AI agents, Wed Nov 11 2026. No macro, syntax, notation, axiom, sorry.
-/
import Derived.Test.YtledkbgjjmdflaaDoorRows
import GoSem.ClaimSeven
namespace Go.Proofs.YtledkbgjjmdflaaDoor
namespace Rows

/-- THE TIED CARD OF 'cupellaw26.ObserveDiffers'. -/
def observeDiffersCard : Claim7 := { stood := { row := observeDiffersRow, standIns := [], harness := (true, "656e0f6d9b6f49f6950e2560ec810af77979dd2eaa5bef64ddd9fe9daf37edf0"), looks := false }, kinds := [], alts := [], laidByText := true, laidKinds := [.data, .data, .data], laidTests := true, laidLooks := .later }
def ObserveDiffersCardSaid : Prop := Claim7.holds Tryd.pinned (.plain (OpenSpec.ofChange observeDiffersSpec)) observeDiffersCard

/-- THE TIED CARD OF 'cupellaw26.ObserveTexts'. -/
def observeTextsCard : Claim7 := { stood := { row := observeTextsRow, standIns := [], harness := (true, "656e0f6d9b6f49f6950e2560ec810af77979dd2eaa5bef64ddd9fe9daf37edf0"), looks := false }, kinds := [], alts := [], laidByText := true, laidKinds := [.data, .data, .data], laidTests := true, laidLooks := .later }
def ObserveTextsCardSaid : Prop := Claim7.holds Tryd.pinned (.plain (OpenSpec.ofChange observeTextsSpec)) observeTextsCard

/-- THE SECOND FORM's CARD OF 'cupellaw26.ObserveDiffers'. -/
def observeDiffersUptoCard : Claim7 := { stood := { row := observeDiffersUptoRow, standIns := [], harness := (true, "656e0f6d9b6f49f6950e2560ec810af77979dd2eaa5bef64ddd9fe9daf37edf0"), looks := false }, kinds := [], alts := [], laidByText := true, laidKinds := [.data, .data, .data], laidTests := true, laidLooks := .later }
def ObserveDiffersUptoCardSaid : Prop := Claim7.holds Tryd.pinned (.plain (OpenSpec.upto observeDiffersSpec)) observeDiffersUptoCard

/-- THE SECOND FORM's CARD OF 'cupellaw26.ObserveTexts'. -/
def observeTextsUptoCard : Claim7 := { stood := { row := observeTextsUptoRow, standIns := [], harness := (true, "656e0f6d9b6f49f6950e2560ec810af77979dd2eaa5bef64ddd9fe9daf37edf0"), looks := false }, kinds := [], alts := [], laidByText := true, laidKinds := [.data, .data, .data], laidTests := true, laidLooks := .later }
def ObserveTextsUptoCardSaid : Prop := Claim7.holds Tryd.pinned (.plain (OpenSpec.upto observeTextsSpec)) observeTextsUptoCard
end Rows
end Go.Proofs.YtledkbgjjmdflaaDoor
