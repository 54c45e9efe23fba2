/-
  DERIVED. GIVEN WITH THE SEED: THE CARDS: each row of YtnafebinaheclaaDoorRows.lean that lists a variable, with what it lists TIED to the program's text (the seventh form; the later family's looks); each row that meets fmt, with fmt's text TOLD by the authors' own Lean function (tested against real Go, not proved from fmt's source: count such statements apart). THE CARD IS WHAT COUNTS. Prove the row's statement (the work); the ties are given (YtnafebinaheclaaDoorTie.lean); close each card by the builder's one call (the guide's Derived/Test/ToyasCard.lean, 'card_holds'). Laid BY PROGRAM, IN A SANDBOX (cutbox-door.mjs). By AI agents, Wed Nov 11 2026. No macro, syntax, notation, axiom, sorry.
-/
import Derived.Test.YtnafebinaheclaaDoorRows
import GoSem.ClaimSeven
namespace Go.Proofs.YtnafebinaheclaaDoor
namespace Rows

/-- THE TIED CARD OF 'stithylaw04.RlpWrites'. -/
def rlpWritesCard : Claim7 := { stood := { row := rlpWritesRow, standIns := [], harness := (true, "9ff402f1bc92674684905864ccca8e63b8015376d44cc63d123eafe644928dd7"), looks := true }, kinds := [], alts := [], laidByText := true, laidKinds := [.data, .pinned], laidTests := true, laidLooks := .later }
def RlpWritesCardSaid : Prop := Claim7.holds Tryd.pinned (.plain (OpenSpec.ofChange rlpWritesSpec)) rlpWritesCard

/-- THE TIED CARD OF 'stithylaw04.RlpReads'. -/
def rlpReadsCard : Claim7 := { stood := { row := rlpReadsRow, standIns := [], harness := (true, "9ff402f1bc92674684905864ccca8e63b8015376d44cc63d123eafe644928dd7"), looks := true }, kinds := [], alts := [], laidByText := true, laidKinds := [.data, .pinned], laidTests := true, laidLooks := .later }
def RlpReadsCardSaid : Prop := Claim7.holds Tryd.pinned (.plain (OpenSpec.ofChange rlpReadsSpec)) rlpReadsCard

/-- THE TIED CARD OF 'stithylaw04.RlpBack'. -/
def rlpBackCard : Claim7 := { stood := { row := rlpBackRow, standIns := [], harness := (true, "9ff402f1bc92674684905864ccca8e63b8015376d44cc63d123eafe644928dd7"), looks := true }, kinds := [], alts := [], laidByText := true, laidKinds := [.data, .pinned], laidTests := true, laidLooks := .later }
def RlpBackCardSaid : Prop := Claim7.holds Tryd.pinned (.plain (OpenSpec.ofChange rlpBackSpec)) rlpBackCard

/-- THE TIED CARD OF 'stithylaw04.RlpAgain'. -/
def rlpAgainCard : Claim7 := { stood := { row := rlpAgainRow, standIns := [], harness := (true, "9ff402f1bc92674684905864ccca8e63b8015376d44cc63d123eafe644928dd7"), looks := true }, kinds := [], alts := [], laidByText := true, laidKinds := [.data, .pinned], laidTests := true, laidLooks := .later }
def RlpAgainCardSaid : Prop := Claim7.holds Tryd.pinned (.plain (OpenSpec.ofChange rlpAgainSpec)) rlpAgainCard

/-- THE TIED CARD OF 'stithylaw04.RlpDeep'. -/
def rlpDeepCard : Claim7 := { stood := { row := rlpDeepRow, standIns := [], harness := (true, "9ff402f1bc92674684905864ccca8e63b8015376d44cc63d123eafe644928dd7"), looks := true }, kinds := [], alts := [], laidByText := true, laidKinds := [.data, .pinned], laidTests := true, laidLooks := .later }
def RlpDeepCardSaid : Prop := Claim7.holds Tryd.pinned (.plain (OpenSpec.ofChange rlpDeepSpec)) rlpDeepCard

/-- THE TIED CARD OF 'stithylaw04.RlpNumbers'. -/
def rlpNumbersCard : Claim7 := { stood := { row := rlpNumbersRow, standIns := [], harness := (true, "9ff402f1bc92674684905864ccca8e63b8015376d44cc63d123eafe644928dd7"), looks := true }, kinds := [], alts := [], laidByText := true, laidKinds := [.data, .pinned], laidTests := true, laidLooks := .later }
def RlpNumbersCardSaid : Prop := Claim7.holds Tryd.pinned (.plain (OpenSpec.ofChange rlpNumbersSpec)) rlpNumbersCard

/-- THE TIED CARD OF 'stithylaw04.RlpShort'. -/
def rlpShortCard : Claim7 := { stood := { row := rlpShortRow, standIns := [], harness := (true, "9ff402f1bc92674684905864ccca8e63b8015376d44cc63d123eafe644928dd7"), looks := true }, kinds := [], alts := [], laidByText := true, laidKinds := [.data, .pinned], laidTests := true, laidLooks := .later }
def RlpShortCardSaid : Prop := Claim7.holds Tryd.pinned (.plain (OpenSpec.ofChange rlpShortSpec)) rlpShortCard

/-- THE SECOND FORM's CARD OF 'stithylaw04.RlpWrites'. -/
def rlpWritesUptoCard : Claim7 := { stood := { row := rlpWritesUptoRow, standIns := [], harness := (true, "9ff402f1bc92674684905864ccca8e63b8015376d44cc63d123eafe644928dd7"), looks := true }, kinds := [], alts := [], laidByText := true, laidKinds := [.data, .pinned], laidTests := true, laidLooks := .later }
def RlpWritesUptoCardSaid : Prop := Claim7.holds Tryd.pinned (.plain (OpenSpec.upto rlpWritesSpec)) rlpWritesUptoCard

/-- THE SECOND FORM's CARD OF 'stithylaw04.RlpReads'. -/
def rlpReadsUptoCard : Claim7 := { stood := { row := rlpReadsUptoRow, standIns := [], harness := (true, "9ff402f1bc92674684905864ccca8e63b8015376d44cc63d123eafe644928dd7"), looks := true }, kinds := [], alts := [], laidByText := true, laidKinds := [.data, .pinned], laidTests := true, laidLooks := .later }
def RlpReadsUptoCardSaid : Prop := Claim7.holds Tryd.pinned (.plain (OpenSpec.upto rlpReadsSpec)) rlpReadsUptoCard

/-- THE SECOND FORM's CARD OF 'stithylaw04.RlpBack'. -/
def rlpBackUptoCard : Claim7 := { stood := { row := rlpBackUptoRow, standIns := [], harness := (true, "9ff402f1bc92674684905864ccca8e63b8015376d44cc63d123eafe644928dd7"), looks := true }, kinds := [], alts := [], laidByText := true, laidKinds := [.data, .pinned], laidTests := true, laidLooks := .later }
def RlpBackUptoCardSaid : Prop := Claim7.holds Tryd.pinned (.plain (OpenSpec.upto rlpBackSpec)) rlpBackUptoCard

/-- THE SECOND FORM's CARD OF 'stithylaw04.RlpAgain'. -/
def rlpAgainUptoCard : Claim7 := { stood := { row := rlpAgainUptoRow, standIns := [], harness := (true, "9ff402f1bc92674684905864ccca8e63b8015376d44cc63d123eafe644928dd7"), looks := true }, kinds := [], alts := [], laidByText := true, laidKinds := [.data, .pinned], laidTests := true, laidLooks := .later }
def RlpAgainUptoCardSaid : Prop := Claim7.holds Tryd.pinned (.plain (OpenSpec.upto rlpAgainSpec)) rlpAgainUptoCard

/-- THE SECOND FORM's CARD OF 'stithylaw04.RlpDeep'. -/
def rlpDeepUptoCard : Claim7 := { stood := { row := rlpDeepUptoRow, standIns := [], harness := (true, "9ff402f1bc92674684905864ccca8e63b8015376d44cc63d123eafe644928dd7"), looks := true }, kinds := [], alts := [], laidByText := true, laidKinds := [.data, .pinned], laidTests := true, laidLooks := .later }
def RlpDeepUptoCardSaid : Prop := Claim7.holds Tryd.pinned (.plain (OpenSpec.upto rlpDeepSpec)) rlpDeepUptoCard

/-- THE SECOND FORM's CARD OF 'stithylaw04.RlpNumbers'. -/
def rlpNumbersUptoCard : Claim7 := { stood := { row := rlpNumbersUptoRow, standIns := [], harness := (true, "9ff402f1bc92674684905864ccca8e63b8015376d44cc63d123eafe644928dd7"), looks := true }, kinds := [], alts := [], laidByText := true, laidKinds := [.data, .pinned], laidTests := true, laidLooks := .later }
def RlpNumbersUptoCardSaid : Prop := Claim7.holds Tryd.pinned (.plain (OpenSpec.upto rlpNumbersSpec)) rlpNumbersUptoCard

/-- THE SECOND FORM's CARD OF 'stithylaw04.RlpShort'. -/
def rlpShortUptoCard : Claim7 := { stood := { row := rlpShortUptoRow, standIns := [], harness := (true, "9ff402f1bc92674684905864ccca8e63b8015376d44cc63d123eafe644928dd7"), looks := true }, kinds := [], alts := [], laidByText := true, laidKinds := [.data, .pinned], laidTests := true, laidLooks := .later }
def RlpShortUptoCardSaid : Prop := Claim7.holds Tryd.pinned (.plain (OpenSpec.upto rlpShortSpec)) rlpShortUptoCard
end Rows
end Go.Proofs.YtnafebinaheclaaDoor
