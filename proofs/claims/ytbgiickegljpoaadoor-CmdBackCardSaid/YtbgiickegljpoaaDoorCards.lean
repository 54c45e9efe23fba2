/-
  DERIVED. GIVEN WITH THE SEED: THE CARDS: each row of YtbgiickegljpoaaDoorRows.lean that lists a variable, with what it lists TIED to the program's text (the seventh form; the later family's looks); each row that meets fmt, with fmt's text TOLD by the authors' own Lean function (tested against real Go, not proved from fmt's source: count such statements apart). THE CARD IS WHAT COUNTS. Prove the row's statement (the work); the ties are given (YtbgiickegljpoaaDoorTie.lean); close each card by the builder's one call (the guide's Derived/Test/ToyasCard.lean, 'card_holds'). Laid BY PROGRAM, IN A SANDBOX (cutbox-door.mjs). By AI agents, Wed Nov 11 2026. No macro, syntax, notation, axiom, sorry.
-/
import Derived.Test.YtbgiickegljpoaaDoorRows
import GoSem.ClaimSeven
namespace Go.Proofs.YtbgiickegljpoaaDoor
namespace Rows

/-- THE TIED CARD OF 'stithylaw21.CmdBack'. -/
def cmdBackCard : Claim7 := { stood := { row := cmdBackRow, standIns := [], harness := (true, "709fa687fac9ab55cf8ddbce30696cd4fdd584a8dcf634c943159b4e4001d0fa"), looks := true }, kinds := [], alts := [], laidByText := true, laidKinds := [.data, .pinned], laidTests := true, laidLooks := .later }
def CmdBackCardSaid : Prop := Claim7.holds Tryd.pinned (.plain (OpenSpec.ofChange cmdBackSpec)) cmdBackCard

/-- THE TIED CARD OF 'stithylaw21.CmdBare'. -/
def cmdBareCard : Claim7 := { stood := { row := cmdBareRow, standIns := [], harness := (true, "709fa687fac9ab55cf8ddbce30696cd4fdd584a8dcf634c943159b4e4001d0fa"), looks := true }, kinds := [], alts := [], laidByText := true, laidKinds := [.data, .pinned], laidTests := true, laidLooks := .later }
def CmdBareCardSaid : Prop := Claim7.holds Tryd.pinned (.plain (OpenSpec.ofChange cmdBareSpec)) cmdBareCard

/-- THE TIED CARD OF 'stithylaw21.CmdNames'. -/
def cmdNamesCard : Claim7 := { stood := { row := cmdNamesRow, standIns := [], harness := (true, "709fa687fac9ab55cf8ddbce30696cd4fdd584a8dcf634c943159b4e4001d0fa"), looks := true }, kinds := [], alts := [], laidByText := true, laidKinds := [.data, .pinned], laidTests := true, laidLooks := .later }
def CmdNamesCardSaid : Prop := Claim7.holds Tryd.pinned (.plain (OpenSpec.ofChange cmdNamesSpec)) cmdNamesCard

/-- THE TIED CARD OF 'stithylaw21.CmdCuts'. -/
def cmdCutsCard : Claim7 := { stood := { row := cmdCutsRow, standIns := [], harness := (true, "709fa687fac9ab55cf8ddbce30696cd4fdd584a8dcf634c943159b4e4001d0fa"), looks := true }, kinds := [], alts := [], laidByText := true, laidKinds := [.data, .pinned], laidTests := true, laidLooks := .later }
def CmdCutsCardSaid : Prop := Claim7.holds Tryd.pinned (.plain (OpenSpec.ofChange cmdCutsSpec)) cmdCutsCard

/-- THE SECOND FORM's CARD OF 'stithylaw21.CmdBack'. -/
def cmdBackUptoCard : Claim7 := { stood := { row := cmdBackUptoRow, standIns := [], harness := (true, "709fa687fac9ab55cf8ddbce30696cd4fdd584a8dcf634c943159b4e4001d0fa"), looks := true }, kinds := [], alts := [], laidByText := true, laidKinds := [.data, .pinned], laidTests := true, laidLooks := .later }
def CmdBackUptoCardSaid : Prop := Claim7.holds Tryd.pinned (.plain (OpenSpec.upto cmdBackSpec)) cmdBackUptoCard

/-- THE SECOND FORM's CARD OF 'stithylaw21.CmdBare'. -/
def cmdBareUptoCard : Claim7 := { stood := { row := cmdBareUptoRow, standIns := [], harness := (true, "709fa687fac9ab55cf8ddbce30696cd4fdd584a8dcf634c943159b4e4001d0fa"), looks := true }, kinds := [], alts := [], laidByText := true, laidKinds := [.data, .pinned], laidTests := true, laidLooks := .later }
def CmdBareUptoCardSaid : Prop := Claim7.holds Tryd.pinned (.plain (OpenSpec.upto cmdBareSpec)) cmdBareUptoCard

/-- THE SECOND FORM's CARD OF 'stithylaw21.CmdNames'. -/
def cmdNamesUptoCard : Claim7 := { stood := { row := cmdNamesUptoRow, standIns := [], harness := (true, "709fa687fac9ab55cf8ddbce30696cd4fdd584a8dcf634c943159b4e4001d0fa"), looks := true }, kinds := [], alts := [], laidByText := true, laidKinds := [.data, .pinned], laidTests := true, laidLooks := .later }
def CmdNamesUptoCardSaid : Prop := Claim7.holds Tryd.pinned (.plain (OpenSpec.upto cmdNamesSpec)) cmdNamesUptoCard

/-- THE SECOND FORM's CARD OF 'stithylaw21.CmdCuts'. -/
def cmdCutsUptoCard : Claim7 := { stood := { row := cmdCutsUptoRow, standIns := [], harness := (true, "709fa687fac9ab55cf8ddbce30696cd4fdd584a8dcf634c943159b4e4001d0fa"), looks := true }, kinds := [], alts := [], laidByText := true, laidKinds := [.data, .pinned], laidTests := true, laidLooks := .later }
def CmdCutsUptoCardSaid : Prop := Claim7.holds Tryd.pinned (.plain (OpenSpec.upto cmdCutsSpec)) cmdCutsUptoCard
end Rows
end Go.Proofs.YtbgiickegljpoaaDoor
