/-
  No cell of these rows narrows 'for every input' (looked for: loops, veiled, ifaces, maps, wideKeys, modest, calm, conditions, laid).
  DERIVED. THE GIVEN ROWS OF THIS SEAT. 3 by the template 'for every input the law returns true; each argument reads behind the call as it read before'; 0 by the template 'total and deterministic' (their statements: YtjbjpjaeagopjaaGreatTotals.lean).
  GIVEN WITH THE SEED: the statements are not yours to turn. If you find one false, say at which input.
  Laid BY PROGRAM, IN A SANDBOX (cutbox-rows.mjs): the forced cells as the released guide's own fill.sh prints them over the translation 9d6495145839be89… (all of the seat's roots in one cut). By AI agents, Wed Nov 11 2026. No macro, syntax, notation, axiom, sorry.
-/
import Derived.Test.YtjbjpjaeagopjaaGreatChecked
import GoSem.Claim
import GoSem.ClaimJoined
import GoSem.ClaimMapViews
import Derived.JoinedTies
import Derived.KernelRfl
namespace Go.Proofs.YtjbjpjaeagopjaaGreat
/- THE CELL 'sum', in the pinned program and in every row, IS THE sha256 OF THE DUMP (.gsa) THAT YtjbjpjaeagopjaaGreatProg.lean LOADS. Nothing in Lean hashes anything: it is a label: what it is worth is what the hold of that sum in a sandbox is worth. -/
noncomputable def Tryz.pinned : Pinned := { name := "ytjbjpjaeagopjaagreat", sum := "9d6495145839be897ffb4fb1412a2a4598303b2a5a6c63c59d985003c4880a40", checked := Tryz.checked }
namespace Rows
def none {H : Type} : Left H := { results := [], args := [] }

/-- 'cupellaw15.DeadKnown': WHATEVER THE INPUT: true; the input reads as it did. -/
def deadKnownSpec : ChangeSpec := { name := "deadKnown", fn := fun _ => fun
  | [] => { results := [.lit (.bool true)], args := [] }
  | _ => none }
def deadKnownRow : OpenClaim := { program := "ytjbjpjaeagopjaagreat", sum := "9d6495145839be897ffb4fb1412a2a4598303b2a5a6c63c59d985003c4880a40", func := "cupel/cupellaw15.DeadKnown", spec := "deadKnown", unfollowed := true, recurses := true, apart := false }
def DeadKnownSaid : Prop := deadKnownRow.holds Tryz.pinned (OpenSpec.ofChange deadKnownSpec)

/-- ITS FALSE NEIGHBOUR: 'it returns false'. Refute it at one input. -/
def deadKnownWrong : ChangeSpec := { name := "deadKnown", fn := fun _ => fun
  | [] => { results := [.lit (.bool false)], args := [] }
  | _ => none }
def DeadKnownWrongFalsely : Prop := deadKnownRow.holds Tryz.pinned (OpenSpec.ofChange deadKnownWrong)

/-- 'cupellaw14.CopiesKnown': WHATEVER THE INPUT: true; the input reads as it did. -/
def copiesKnownSpec : ChangeSpec := { name := "copiesKnown", fn := fun _ => fun
  | [] => { results := [.lit (.bool true)], args := [] }
  | _ => none }
def copiesKnownRow : OpenClaim := { program := "ytjbjpjaeagopjaagreat", sum := "9d6495145839be897ffb4fb1412a2a4598303b2a5a6c63c59d985003c4880a40", func := "cupel/cupellaw14.CopiesKnown", spec := "copiesKnown", inPlace := ["slices.overlaps[cupel/api.Instr]"], unfollowed := true, recurses := true, apart := false }
def CopiesKnownSaid : Prop := copiesKnownRow.holds Tryz.pinned (OpenSpec.ofChange copiesKnownSpec)

/-- ITS FALSE NEIGHBOUR: 'it returns false'. Refute it at one input. -/
def copiesKnownWrong : ChangeSpec := { name := "copiesKnown", fn := fun _ => fun
  | [] => { results := [.lit (.bool false)], args := [] }
  | _ => none }
def CopiesKnownWrongFalsely : Prop := copiesKnownRow.holds Tryz.pinned (OpenSpec.ofChange copiesKnownWrong)

/-- 'cupellaw17.HoistKnown': WHATEVER THE INPUT: true; the input reads as it did. -/
def hoistKnownSpec : ChangeSpec := { name := "hoistKnown", fn := fun _ => fun
  | [] => { results := [.lit (.bool true)], args := [] }
  | _ => none }
def hoistKnownRow : OpenClaim := { program := "ytjbjpjaeagopjaagreat", sum := "9d6495145839be897ffb4fb1412a2a4598303b2a5a6c63c59d985003c4880a40", func := "cupel/cupellaw17.HoistKnown", spec := "hoistKnown", unfollowed := true, recurses := true, apart := false }
def HoistKnownSaid : Prop := hoistKnownRow.holds Tryz.pinned (OpenSpec.ofChange hoistKnownSpec)

/-- ITS FALSE NEIGHBOUR: 'it returns false'. Refute it at one input. -/
def hoistKnownWrong : ChangeSpec := { name := "hoistKnown", fn := fun _ => fun
  | [] => { results := [.lit (.bool false)], args := [] }
  | _ => none }
def HoistKnownWrongFalsely : Prop := hoistKnownRow.holds Tryz.pinned (OpenSpec.ofChange hoistKnownWrong)

/- THE SECOND FORM. 'bulk': how many values and letters a reading holds, each counted each time it is reached (what is shared counts as often as it is met; a slice's spare places count too). A statement '..UptoSaid' is the law's where the arguments, and the package variables that the reading takes, are together of bulk at most 1048576: NARROWER than '..Said'. Prove '..Said' where nothing that the law and all that it calls make is longer than what came in: it says more and counts as full. Else prove '..UptoSaid'. A law counts once. -/
mutual
def uptoBulk {H : Type} : DataW H → Nat
  | .lit (.string bytes) => bytes.length + 1
  | .lit _ => 1
  | .nil => 1
  | .ptr d => uptoBulk d + 1
  | .slice elems spare => uptoBulkAll elems + uptoBulkAll spare + 1
  | .agg parts => uptoBulkAll parts + 1
  | .iface _ d => uptoBulk d + 1
  | .map entries => uptoBulkEntries entries + 1
  | .held _ => 1
def uptoBulkAll {H : Type} : List (DataW H) → Nat
  | [] => 0
  | d :: r => uptoBulk d + uptoBulkAll r
def uptoBulkEntries {H : Type} : List (Lit × DataW H) → Nat
  | [] => 0
  | x :: r => uptoBulkEntry x + uptoBulkEntries r
def uptoBulkEntry {H : Type} : Lit × DataW H → Nat
  | (.string bytes, d) => bytes.length + uptoBulk d + 1
  | (_, d) => uptoBulk d + 1
 end
def uptoSmall : (H : Type) → List (DataW H) → Bool := fun _ ds => decide (uptoBulkAll ds ≤ 1048576)
def OpenSpec.upto (s : _root_.Go.ChangeSpec) : _root_.Go.OpenSpec := { _root_.Go.OpenSpec.ofChange s with cond := some uptoSmall }

/-- 'cupellaw15.DeadKnown', WHERE WHAT IT READS IS OF BULK AT MOST 1048576: true; the input reads as it did. -/
def deadKnownUptoRow : OpenClaim := { program := "ytjbjpjaeagopjaagreat", sum := "9d6495145839be897ffb4fb1412a2a4598303b2a5a6c63c59d985003c4880a40", func := "cupel/cupellaw15.DeadKnown", spec := "deadKnown", unfollowed := true, recurses := true, apart := false, narrowed := true }
def DeadKnownUptoSaid : Prop := deadKnownUptoRow.holds Tryz.pinned (OpenSpec.upto deadKnownSpec)

/-- 'cupellaw14.CopiesKnown', WHERE WHAT IT READS IS OF BULK AT MOST 1048576: true; the input reads as it did. -/
def copiesKnownUptoRow : OpenClaim := { program := "ytjbjpjaeagopjaagreat", sum := "9d6495145839be897ffb4fb1412a2a4598303b2a5a6c63c59d985003c4880a40", func := "cupel/cupellaw14.CopiesKnown", spec := "copiesKnown", inPlace := ["slices.overlaps[cupel/api.Instr]"], unfollowed := true, recurses := true, apart := false, narrowed := true }
def CopiesKnownUptoSaid : Prop := copiesKnownUptoRow.holds Tryz.pinned (OpenSpec.upto copiesKnownSpec)

/-- 'cupellaw17.HoistKnown', WHERE WHAT IT READS IS OF BULK AT MOST 1048576: true; the input reads as it did. -/
def hoistKnownUptoRow : OpenClaim := { program := "ytjbjpjaeagopjaagreat", sum := "9d6495145839be897ffb4fb1412a2a4598303b2a5a6c63c59d985003c4880a40", func := "cupel/cupellaw17.HoistKnown", spec := "hoistKnown", unfollowed := true, recurses := true, apart := false, narrowed := true }
def HoistKnownUptoSaid : Prop := hoistKnownUptoRow.holds Tryz.pinned (OpenSpec.upto hoistKnownSpec)

end Rows
end Go.Proofs.YtjbjpjaeagopjaaGreat
