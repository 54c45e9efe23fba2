/-
  DERIVED. GIVEN WITH THE SEED: THE CARDS: each row of YtajbaocfdlopbaaDoorRows.lean that lists a variable, with what it lists TIED to the program's text (the seventh form; the later family's looks); each row that meets fmt, with fmt's text TOLD by the authors' own Lean function (tested against real Go, not proved from fmt's source: count such statements apart). THE CARD IS WHAT COUNTS. Prove the row's statement (the work); the ties are given (YtajbaocfdlopbaaDoorTie.lean); close each card by the builder's one call (the guide's Derived/Test/ToyasCard.lean, 'card_holds'). Laid BY PROGRAM, IN A SANDBOX (cutbox-door.mjs). By AI agents, Wed Nov 11 2026. No macro, syntax, notation, axiom, sorry.
-/
import Derived.Test.YtajbaocfdlopbaaDoorRows
import GoSem.ClaimSeven
namespace Go.Proofs.YtajbaocfdlopbaaDoor
namespace Rows

/-- THE TIED CARD OF 'stithylaw01.WordBack'. -/
def wordBackCard : Claim7 := { stood := { row := wordBackRow, standIns := [], harness := (true, "f0d280bb2615b101771213ac2de296ad68f02ffc0c929636f6b4999d32a274a9"), looks := false }, kinds := [], alts := [], laidByText := true, laidKinds := [.data, .pinned], laidTests := true, laidLooks := .later }
def WordBackCardSaid : Prop := Claim7.holds Tryd.pinned (.plain (OpenSpec.ofChange wordBackSpec)) wordBackCard

/-- THE TIED CARD OF 'stithylaw01.WordTurns'. -/
def wordTurnsCard : Claim7 := { stood := { row := wordTurnsRow, standIns := [], harness := (true, "f0d280bb2615b101771213ac2de296ad68f02ffc0c929636f6b4999d32a274a9"), looks := false }, kinds := [], alts := [], laidByText := true, laidKinds := [.data, .pinned], laidTests := true, laidLooks := .later }
def WordTurnsCardSaid : Prop := Claim7.holds Tryd.pinned (.plain (OpenSpec.ofChange wordTurnsSpec)) wordTurnsCard

/-- THE TIED CARD OF 'stithylaw01.WordMoves'. -/
def wordMovesCard : Claim7 := { stood := { row := wordMovesRow, standIns := [], harness := (true, "f0d280bb2615b101771213ac2de296ad68f02ffc0c929636f6b4999d32a274a9"), looks := false }, kinds := [], alts := [], laidByText := true, laidKinds := [.data, .pinned], laidTests := true, laidLooks := .later }
def WordMovesCardSaid : Prop := Claim7.holds Tryd.pinned (.plain (OpenSpec.ofChange wordMovesSpec)) wordMovesCard

/-- THE TIED CARD OF 'stithylaw01.WordBits'. -/
def wordBitsCard : Claim7 := { stood := { row := wordBitsRow, standIns := [], harness := (true, "f0d280bb2615b101771213ac2de296ad68f02ffc0c929636f6b4999d32a274a9"), looks := false }, kinds := [], alts := [], laidByText := true, laidKinds := [.data, .pinned], laidTests := true, laidLooks := .later }
def WordBitsCardSaid : Prop := Claim7.holds Tryd.pinned (.plain (OpenSpec.ofChange wordBitsSpec)) wordBitsCard

/-- THE TIED CARD OF 'stithylaw01.WordShifts'. -/
def wordShiftsCard : Claim7 := { stood := { row := wordShiftsRow, standIns := [], harness := (true, "f0d280bb2615b101771213ac2de296ad68f02ffc0c929636f6b4999d32a274a9"), looks := false }, kinds := [], alts := [], laidByText := true, laidKinds := [.data, .pinned], laidTests := true, laidLooks := .later }
def WordShiftsCardSaid : Prop := Claim7.holds Tryd.pinned (.plain (OpenSpec.ofChange wordShiftsSpec)) wordShiftsCard

/-- THE TIED CARD OF 'stithylaw01.WordReckons'. -/
def wordReckonsCard : Claim7 := { stood := { row := wordReckonsRow, standIns := [], harness := (true, "f0d280bb2615b101771213ac2de296ad68f02ffc0c929636f6b4999d32a274a9"), looks := false }, kinds := [], alts := [], laidByText := true, laidKinds := [.data, .pinned], laidTests := true, laidLooks := .later }
def WordReckonsCardSaid : Prop := Claim7.holds Tryd.pinned (.plain (OpenSpec.ofChange wordReckonsSpec)) wordReckonsCard

/-- THE TIED CARD OF 'stithylaw01.WordDivides'. -/
def wordDividesCard : Claim7 := { stood := { row := wordDividesRow, standIns := [], harness := (true, "f0d280bb2615b101771213ac2de296ad68f02ffc0c929636f6b4999d32a274a9"), looks := false }, kinds := [], alts := [], laidByText := true, laidKinds := [.data, .pinned], laidTests := true, laidLooks := .later }
def WordDividesCardSaid : Prop := Claim7.holds Tryd.pinned (.plain (OpenSpec.ofChange wordDividesSpec)) wordDividesCard

/-- THE TIED CARD OF 'stithylaw02.ModularSize'. -/
def modularSizeCard : Claim7 := { stood := { row := modularSizeRow, standIns := [], harness := (true, "f0d280bb2615b101771213ac2de296ad68f02ffc0c929636f6b4999d32a274a9"), looks := false }, kinds := [], alts := [], laidByText := true, laidKinds := [.data, .pinned], laidTests := true, laidLooks := .later }
def ModularSizeCardSaid : Prop := Claim7.holds Tryd.pinned (.plain (OpenSpec.ofChange modularSizeSpec)) modularSizeCard

/-- THE TIED CARD OF 'stithylaw14.GasCosts'. -/
def gasCostsCard : Claim7 := { stood := { row := gasCostsRow, standIns := [], harness := (true, "f0d280bb2615b101771213ac2de296ad68f02ffc0c929636f6b4999d32a274a9"), looks := false }, kinds := [], alts := [], laidByText := true, laidKinds := [.data, .pinned], laidTests := true, laidLooks := .later }
def GasCostsCardSaid : Prop := Claim7.holds Tryd.pinned (.plain (OpenSpec.ofChange gasCostsSpec)) gasCostsCard

/-- THE TIED CARD OF 'stithylaw02.ModularDivides'. -/
def modularDividesCard : Claim7 := { stood := { row := modularDividesRow, standIns := [], harness := (true, "f0d280bb2615b101771213ac2de296ad68f02ffc0c929636f6b4999d32a274a9"), looks := false }, kinds := [], alts := [], laidByText := true, laidKinds := [.data, .pinned], laidTests := true, laidLooks := .later }
def ModularDividesCardSaid : Prop := Claim7.holds Tryd.pinned (.plain (OpenSpec.ofChange modularDividesSpec)) modularDividesCard

/-- THE TIED CARD OF 'stithylaw02.ModularSigns'. -/
def modularSignsCard : Claim7 := { stood := { row := modularSignsRow, standIns := [], harness := (true, "f0d280bb2615b101771213ac2de296ad68f02ffc0c929636f6b4999d32a274a9"), looks := false }, kinds := [], alts := [], laidByText := true, laidKinds := [.data, .pinned], laidTests := true, laidLooks := .later }
def ModularSignsCardSaid : Prop := Claim7.holds Tryd.pinned (.plain (OpenSpec.ofChange modularSignsSpec)) modularSignsCard

/-- THE SECOND FORM's CARD OF 'stithylaw01.WordBack'. -/
def wordBackUptoCard : Claim7 := { stood := { row := wordBackUptoRow, standIns := [], harness := (true, "f0d280bb2615b101771213ac2de296ad68f02ffc0c929636f6b4999d32a274a9"), looks := false }, kinds := [], alts := [], laidByText := true, laidKinds := [.data, .pinned], laidTests := true, laidLooks := .later }
def WordBackUptoCardSaid : Prop := Claim7.holds Tryd.pinned (.plain (OpenSpec.upto wordBackSpec)) wordBackUptoCard

/-- THE SECOND FORM's CARD OF 'stithylaw01.WordTurns'. -/
def wordTurnsUptoCard : Claim7 := { stood := { row := wordTurnsUptoRow, standIns := [], harness := (true, "f0d280bb2615b101771213ac2de296ad68f02ffc0c929636f6b4999d32a274a9"), looks := false }, kinds := [], alts := [], laidByText := true, laidKinds := [.data, .pinned], laidTests := true, laidLooks := .later }
def WordTurnsUptoCardSaid : Prop := Claim7.holds Tryd.pinned (.plain (OpenSpec.upto wordTurnsSpec)) wordTurnsUptoCard

/-- THE SECOND FORM's CARD OF 'stithylaw01.WordMoves'. -/
def wordMovesUptoCard : Claim7 := { stood := { row := wordMovesUptoRow, standIns := [], harness := (true, "f0d280bb2615b101771213ac2de296ad68f02ffc0c929636f6b4999d32a274a9"), looks := false }, kinds := [], alts := [], laidByText := true, laidKinds := [.data, .pinned], laidTests := true, laidLooks := .later }
def WordMovesUptoCardSaid : Prop := Claim7.holds Tryd.pinned (.plain (OpenSpec.upto wordMovesSpec)) wordMovesUptoCard

/-- THE SECOND FORM's CARD OF 'stithylaw01.WordBits'. -/
def wordBitsUptoCard : Claim7 := { stood := { row := wordBitsUptoRow, standIns := [], harness := (true, "f0d280bb2615b101771213ac2de296ad68f02ffc0c929636f6b4999d32a274a9"), looks := false }, kinds := [], alts := [], laidByText := true, laidKinds := [.data, .pinned], laidTests := true, laidLooks := .later }
def WordBitsUptoCardSaid : Prop := Claim7.holds Tryd.pinned (.plain (OpenSpec.upto wordBitsSpec)) wordBitsUptoCard

/-- THE SECOND FORM's CARD OF 'stithylaw01.WordShifts'. -/
def wordShiftsUptoCard : Claim7 := { stood := { row := wordShiftsUptoRow, standIns := [], harness := (true, "f0d280bb2615b101771213ac2de296ad68f02ffc0c929636f6b4999d32a274a9"), looks := false }, kinds := [], alts := [], laidByText := true, laidKinds := [.data, .pinned], laidTests := true, laidLooks := .later }
def WordShiftsUptoCardSaid : Prop := Claim7.holds Tryd.pinned (.plain (OpenSpec.upto wordShiftsSpec)) wordShiftsUptoCard

/-- THE SECOND FORM's CARD OF 'stithylaw01.WordReckons'. -/
def wordReckonsUptoCard : Claim7 := { stood := { row := wordReckonsUptoRow, standIns := [], harness := (true, "f0d280bb2615b101771213ac2de296ad68f02ffc0c929636f6b4999d32a274a9"), looks := false }, kinds := [], alts := [], laidByText := true, laidKinds := [.data, .pinned], laidTests := true, laidLooks := .later }
def WordReckonsUptoCardSaid : Prop := Claim7.holds Tryd.pinned (.plain (OpenSpec.upto wordReckonsSpec)) wordReckonsUptoCard

/-- THE SECOND FORM's CARD OF 'stithylaw01.WordDivides'. -/
def wordDividesUptoCard : Claim7 := { stood := { row := wordDividesUptoRow, standIns := [], harness := (true, "f0d280bb2615b101771213ac2de296ad68f02ffc0c929636f6b4999d32a274a9"), looks := false }, kinds := [], alts := [], laidByText := true, laidKinds := [.data, .pinned], laidTests := true, laidLooks := .later }
def WordDividesUptoCardSaid : Prop := Claim7.holds Tryd.pinned (.plain (OpenSpec.upto wordDividesSpec)) wordDividesUptoCard

/-- THE SECOND FORM's CARD OF 'stithylaw02.ModularSize'. -/
def modularSizeUptoCard : Claim7 := { stood := { row := modularSizeUptoRow, standIns := [], harness := (true, "f0d280bb2615b101771213ac2de296ad68f02ffc0c929636f6b4999d32a274a9"), looks := false }, kinds := [], alts := [], laidByText := true, laidKinds := [.data, .pinned], laidTests := true, laidLooks := .later }
def ModularSizeUptoCardSaid : Prop := Claim7.holds Tryd.pinned (.plain (OpenSpec.upto modularSizeSpec)) modularSizeUptoCard

/-- THE SECOND FORM's CARD OF 'stithylaw14.GasCosts'. -/
def gasCostsUptoCard : Claim7 := { stood := { row := gasCostsUptoRow, standIns := [], harness := (true, "f0d280bb2615b101771213ac2de296ad68f02ffc0c929636f6b4999d32a274a9"), looks := false }, kinds := [], alts := [], laidByText := true, laidKinds := [.data, .pinned], laidTests := true, laidLooks := .later }
def GasCostsUptoCardSaid : Prop := Claim7.holds Tryd.pinned (.plain (OpenSpec.upto gasCostsSpec)) gasCostsUptoCard

/-- THE SECOND FORM's CARD OF 'stithylaw02.ModularDivides'. -/
def modularDividesUptoCard : Claim7 := { stood := { row := modularDividesUptoRow, standIns := [], harness := (true, "f0d280bb2615b101771213ac2de296ad68f02ffc0c929636f6b4999d32a274a9"), looks := false }, kinds := [], alts := [], laidByText := true, laidKinds := [.data, .pinned], laidTests := true, laidLooks := .later }
def ModularDividesUptoCardSaid : Prop := Claim7.holds Tryd.pinned (.plain (OpenSpec.upto modularDividesSpec)) modularDividesUptoCard

/-- THE SECOND FORM's CARD OF 'stithylaw02.ModularSigns'. -/
def modularSignsUptoCard : Claim7 := { stood := { row := modularSignsUptoRow, standIns := [], harness := (true, "f0d280bb2615b101771213ac2de296ad68f02ffc0c929636f6b4999d32a274a9"), looks := false }, kinds := [], alts := [], laidByText := true, laidKinds := [.data, .pinned], laidTests := true, laidLooks := .later }
def ModularSignsUptoCardSaid : Prop := Claim7.holds Tryd.pinned (.plain (OpenSpec.upto modularSignsSpec)) modularSignsUptoCard
end Rows
end Go.Proofs.YtajbaocfdlopbaaDoor
