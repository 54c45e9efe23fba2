/-
  NARROWER THAN 'FOR EVERY INPUT', by the rows' own cells (each row's printed sentence says how): RlpWrites: laid · RlpReads: laid · RlpBack: laid · RlpAgain: laid · RlpDeep: laid · RlpNumbers: laid · RlpShort: laid.
  DERIVED. THE GIVEN ROWS OF THIS SEAT. 7 by the template 'for every input the law returns true; each argument reads behind the call as it read before'; 0 by the template 'total and deterministic' (their statements: YtnafebinaheclaaDoorTotals.lean).
  GIVEN WITH THE SEED: the statements are not yours to turn. If you find one false, say at which input.
  Laid BY PROGRAM, IN A SANDBOX (cutbox-rows.mjs): the forced cells as the released guide's own fill.sh prints them over the translation 8f7fb759170b9168… (all of the seat's roots in one cut). By AI agents, Wed Nov 11 2026. No macro, syntax, notation, axiom, sorry.
-/
import Derived.Test.YtnafebinaheclaaDoorChecked
import GoSem.PinnedTables
import GoSem.Claim
import GoSem.ClaimJoined
import GoSem.ClaimMapViews
import Derived.JoinedTies
import Derived.KernelRfl
namespace Go.Proofs.YtnafebinaheclaaDoor
/- THE CELL 'sum', in the pinned program and in every row, IS THE sha256 OF THE DUMP (.gsa) THAT YtnafebinaheclaaDoorProg.lean LOADS. Nothing in Lean hashes anything: it is a label: what it is worth is what the hold of that sum in a sandbox is worth. -/
noncomputable def Tryd.pinned : Pinned := { name := "ytnafebinaheclaadoor", sum := "8f7fb759170b91684c9015b3da8497cf337cf1e99ad55cdd9dd1b2b99df3bce3", checked := Tryd.checked }
namespace Rows
def none {H : Type} : Left H := { results := [], args := [] }

/- WHAT THE LISTED PACKAGE-LEVEL VARIABLES READ AS WHEN THE CALL BEGINS. Each datum BY PROGRAM (the guide's laid-datum.mjs) off the statement by which the dump's own 'gosem.cut.vars' lays the variable. In a bare row this is a premise. The card (YtnafebinaheclaaDoorCards.lean) ties it to the program's text. -/
def laid_unicode_utf8_acceptRanges {H : Type} : DataW H := .agg [.agg [.lit (.int .u8 128), .lit (.int .u8 191)], .agg [.lit (.int .u8 160), .lit (.int .u8 191)], .agg [.lit (.int .u8 128), .lit (.int .u8 159)], .agg [.lit (.int .u8 144), .lit (.int .u8 191)], .agg [.lit (.int .u8 128), .lit (.int .u8 143)], .agg [.lit (.int .u8 0), .lit (.int .u8 0)], .agg [.lit (.int .u8 0), .lit (.int .u8 0)], .agg [.lit (.int .u8 0), .lit (.int .u8 0)], .agg [.lit (.int .u8 0), .lit (.int .u8 0)], .agg [.lit (.int .u8 0), .lit (.int .u8 0)], .agg [.lit (.int .u8 0), .lit (.int .u8 0)], .agg [.lit (.int .u8 0), .lit (.int .u8 0)], .agg [.lit (.int .u8 0), .lit (.int .u8 0)], .agg [.lit (.int .u8 0), .lit (.int .u8 0)], .agg [.lit (.int .u8 0), .lit (.int .u8 0)], .agg [.lit (.int .u8 0), .lit (.int .u8 0)]]
/-- One of Go's own tables, pinned by name: the form's constant. -/
def laid_unicode_utf8_first : DataW Unit := Go.Pinned.utf8First

/-- 'stithylaw04.RlpWrites': WHATEVER THE INPUT: true; the input reads as it did. -/
def rlpWritesSpec : ChangeSpec := { name := "rlpWrites", fn := fun _ => fun
  | [d1, d2] => { results := [.lit (.bool true)], args := [d1, d2] }
  | _ => none }
def rlpWritesRow : OpenClaim := { program := "ytnafebinaheclaadoor", sum := "8f7fb759170b91684c9015b3da8497cf337cf1e99ad55cdd9dd1b2b99df3bce3", func := "stithy/stithylaw04.RlpWrites", spec := "rlpWrites", inPlace := ["internal/bytealg.IndexByteString", "internal/bytealg.IndexString", "internal/abi.NoEscape", "internal/bytealg.MakeNoZero"], unfollowed := true, recurses := true, named := ["unicode/utf8.first", "unicode/utf8.acceptRanges", "internal/bytealg.MaxLen"], apart := false, laid := [("unicode/utf8.acceptRanges", laid_unicode_utf8_acceptRanges), ("unicode/utf8.first", laid_unicode_utf8_first)] }
def RlpWritesSaid : Prop := rlpWritesRow.holds Tryd.pinned (OpenSpec.ofChange rlpWritesSpec)

/-- ITS FALSE NEIGHBOUR: 'it returns false'. Refute it at one input. -/
def rlpWritesWrong : ChangeSpec := { name := "rlpWrites", fn := fun _ => fun
  | [d1, d2] => { results := [.lit (.bool false)], args := [d1, d2] }
  | _ => none }
def RlpWritesWrongFalsely : Prop := rlpWritesRow.holds Tryd.pinned (OpenSpec.ofChange rlpWritesWrong)

/-- 'stithylaw04.RlpReads': WHATEVER THE INPUT: true; the input reads as it did. -/
def rlpReadsSpec : ChangeSpec := { name := "rlpReads", fn := fun _ => fun
  | [d1, d2, d3, d4, d5, d6] => { results := [.lit (.bool true)], args := [d1, d2, d3, d4, d5, d6] }
  | _ => none }
def rlpReadsRow : OpenClaim := { program := "ytnafebinaheclaadoor", sum := "8f7fb759170b91684c9015b3da8497cf337cf1e99ad55cdd9dd1b2b99df3bce3", func := "stithy/stithylaw04.RlpReads", spec := "rlpReads", inPlace := ["internal/bytealg.IndexByteString", "internal/bytealg.IndexString", "internal/abi.NoEscape", "internal/bytealg.MakeNoZero"], unfollowed := true, recurses := true, named := ["unicode/utf8.first", "unicode/utf8.acceptRanges", "internal/bytealg.MaxLen"], apart := false, laid := [("unicode/utf8.acceptRanges", laid_unicode_utf8_acceptRanges), ("unicode/utf8.first", laid_unicode_utf8_first)] }
def RlpReadsSaid : Prop := rlpReadsRow.holds Tryd.pinned (OpenSpec.ofChange rlpReadsSpec)

/-- ITS FALSE NEIGHBOUR: 'it returns false'. Refute it at one input. -/
def rlpReadsWrong : ChangeSpec := { name := "rlpReads", fn := fun _ => fun
  | [d1, d2, d3, d4, d5, d6] => { results := [.lit (.bool false)], args := [d1, d2, d3, d4, d5, d6] }
  | _ => none }
def RlpReadsWrongFalsely : Prop := rlpReadsRow.holds Tryd.pinned (OpenSpec.ofChange rlpReadsWrong)

/-- 'stithylaw04.RlpBack': WHATEVER THE INPUT: true; the input reads as it did. -/
def rlpBackSpec : ChangeSpec := { name := "rlpBack", fn := fun _ => fun
  | [d1, d2] => { results := [.lit (.bool true)], args := [d1, d2] }
  | _ => none }
def rlpBackRow : OpenClaim := { program := "ytnafebinaheclaadoor", sum := "8f7fb759170b91684c9015b3da8497cf337cf1e99ad55cdd9dd1b2b99df3bce3", func := "stithy/stithylaw04.RlpBack", spec := "rlpBack", inPlace := ["internal/bytealg.IndexByteString", "internal/bytealg.IndexString", "internal/abi.NoEscape", "internal/bytealg.MakeNoZero"], unfollowed := true, recurses := true, named := ["unicode/utf8.first", "unicode/utf8.acceptRanges", "internal/bytealg.MaxLen"], apart := false, laid := [("unicode/utf8.acceptRanges", laid_unicode_utf8_acceptRanges), ("unicode/utf8.first", laid_unicode_utf8_first)] }
def RlpBackSaid : Prop := rlpBackRow.holds Tryd.pinned (OpenSpec.ofChange rlpBackSpec)

/-- ITS FALSE NEIGHBOUR: 'it returns false'. Refute it at one input. -/
def rlpBackWrong : ChangeSpec := { name := "rlpBack", fn := fun _ => fun
  | [d1, d2] => { results := [.lit (.bool false)], args := [d1, d2] }
  | _ => none }
def RlpBackWrongFalsely : Prop := rlpBackRow.holds Tryd.pinned (OpenSpec.ofChange rlpBackWrong)

/-- 'stithylaw04.RlpAgain': WHATEVER THE INPUT: true; the input reads as it did. -/
def rlpAgainSpec : ChangeSpec := { name := "rlpAgain", fn := fun _ => fun
  | [d] => { results := [.lit (.bool true)], args := [d] }
  | _ => none }
def rlpAgainRow : OpenClaim := { program := "ytnafebinaheclaadoor", sum := "8f7fb759170b91684c9015b3da8497cf337cf1e99ad55cdd9dd1b2b99df3bce3", func := "stithy/stithylaw04.RlpAgain", spec := "rlpAgain", inPlace := ["internal/bytealg.IndexByteString", "internal/bytealg.IndexString", "internal/abi.NoEscape", "internal/bytealg.MakeNoZero"], unfollowed := true, recurses := true, named := ["unicode/utf8.first", "unicode/utf8.acceptRanges", "internal/bytealg.MaxLen"], apart := false, laid := [("unicode/utf8.acceptRanges", laid_unicode_utf8_acceptRanges), ("unicode/utf8.first", laid_unicode_utf8_first)] }
def RlpAgainSaid : Prop := rlpAgainRow.holds Tryd.pinned (OpenSpec.ofChange rlpAgainSpec)

/-- ITS FALSE NEIGHBOUR: 'it returns false'. Refute it at one input. -/
def rlpAgainWrong : ChangeSpec := { name := "rlpAgain", fn := fun _ => fun
  | [d] => { results := [.lit (.bool false)], args := [d] }
  | _ => none }
def RlpAgainWrongFalsely : Prop := rlpAgainRow.holds Tryd.pinned (OpenSpec.ofChange rlpAgainWrong)

/-- 'stithylaw04.RlpDeep': WHATEVER THE INPUT: true; the input reads as it did. -/
def rlpDeepSpec : ChangeSpec := { name := "rlpDeep", fn := fun _ => fun
  | [d] => { results := [.lit (.bool true)], args := [d] }
  | _ => none }
def rlpDeepRow : OpenClaim := { program := "ytnafebinaheclaadoor", sum := "8f7fb759170b91684c9015b3da8497cf337cf1e99ad55cdd9dd1b2b99df3bce3", func := "stithy/stithylaw04.RlpDeep", spec := "rlpDeep", inPlace := ["internal/bytealg.IndexByteString", "internal/bytealg.IndexString", "internal/abi.NoEscape", "internal/bytealg.MakeNoZero"], unfollowed := true, recurses := true, named := ["unicode/utf8.first", "unicode/utf8.acceptRanges", "internal/bytealg.MaxLen"], apart := false, laid := [("unicode/utf8.acceptRanges", laid_unicode_utf8_acceptRanges), ("unicode/utf8.first", laid_unicode_utf8_first)] }
def RlpDeepSaid : Prop := rlpDeepRow.holds Tryd.pinned (OpenSpec.ofChange rlpDeepSpec)

/-- ITS FALSE NEIGHBOUR: 'it returns false'. Refute it at one input. -/
def rlpDeepWrong : ChangeSpec := { name := "rlpDeep", fn := fun _ => fun
  | [d] => { results := [.lit (.bool false)], args := [d] }
  | _ => none }
def RlpDeepWrongFalsely : Prop := rlpDeepRow.holds Tryd.pinned (OpenSpec.ofChange rlpDeepWrong)

/-- 'stithylaw04.RlpNumbers': WHATEVER THE INPUT: true; the input reads as it did. -/
def rlpNumbersSpec : ChangeSpec := { name := "rlpNumbers", fn := fun _ => fun
  | [d1, d2] => { results := [.lit (.bool true)], args := [d1, d2] }
  | _ => none }
def rlpNumbersRow : OpenClaim := { program := "ytnafebinaheclaadoor", sum := "8f7fb759170b91684c9015b3da8497cf337cf1e99ad55cdd9dd1b2b99df3bce3", func := "stithy/stithylaw04.RlpNumbers", spec := "rlpNumbers", inPlace := ["internal/bytealg.IndexByteString", "internal/bytealg.IndexString", "internal/abi.NoEscape", "internal/bytealg.MakeNoZero"], unfollowed := true, recurses := true, named := ["unicode/utf8.first", "unicode/utf8.acceptRanges", "internal/bytealg.MaxLen"], apart := false, laid := [("unicode/utf8.acceptRanges", laid_unicode_utf8_acceptRanges), ("unicode/utf8.first", laid_unicode_utf8_first)] }
def RlpNumbersSaid : Prop := rlpNumbersRow.holds Tryd.pinned (OpenSpec.ofChange rlpNumbersSpec)

/-- ITS FALSE NEIGHBOUR: 'it returns false'. Refute it at one input. -/
def rlpNumbersWrong : ChangeSpec := { name := "rlpNumbers", fn := fun _ => fun
  | [d1, d2] => { results := [.lit (.bool false)], args := [d1, d2] }
  | _ => none }
def RlpNumbersWrongFalsely : Prop := rlpNumbersRow.holds Tryd.pinned (OpenSpec.ofChange rlpNumbersWrong)

/-- 'stithylaw04.RlpShort': WHATEVER THE INPUT: true; the input reads as it did. -/
def rlpShortSpec : ChangeSpec := { name := "rlpShort", fn := fun _ => fun
  | [d] => { results := [.lit (.bool true)], args := [d] }
  | _ => none }
def rlpShortRow : OpenClaim := { program := "ytnafebinaheclaadoor", sum := "8f7fb759170b91684c9015b3da8497cf337cf1e99ad55cdd9dd1b2b99df3bce3", func := "stithy/stithylaw04.RlpShort", spec := "rlpShort", inPlace := ["internal/bytealg.IndexByteString", "internal/bytealg.IndexString", "internal/abi.NoEscape", "internal/bytealg.MakeNoZero"], unfollowed := true, recurses := true, named := ["unicode/utf8.first", "unicode/utf8.acceptRanges", "internal/bytealg.MaxLen"], apart := false, laid := [("unicode/utf8.acceptRanges", laid_unicode_utf8_acceptRanges), ("unicode/utf8.first", laid_unicode_utf8_first)] }
def RlpShortSaid : Prop := rlpShortRow.holds Tryd.pinned (OpenSpec.ofChange rlpShortSpec)

/-- ITS FALSE NEIGHBOUR: 'it returns false'. Refute it at one input. -/
def rlpShortWrong : ChangeSpec := { name := "rlpShort", fn := fun _ => fun
  | [d] => { results := [.lit (.bool false)], args := [d] }
  | _ => none }
def RlpShortWrongFalsely : Prop := rlpShortRow.holds Tryd.pinned (OpenSpec.ofChange rlpShortWrong)

/- THE SECOND FORM. 'bulk': how many values and letters a reading holds, each counted each time it is reached (what is shared counts as often as it is met; a slice's spare places count too). A statement '..UptoSaid' is the law's where the arguments, and the package variables that the reading takes, are together of bulk at most 1048576: NARROWER than '..Said'. Prove '..Said' where nothing that the law and all that it calls make is longer than what came in: it says more and counts as full. Else prove '..UptoSaid'. A law counts once. -/
mutual
def uptoBulk {H : Type} : DataW H → Nat
  | .lit (.string bytes) => bytes.length + 1
  | .lit _ => 1
  | .nil => 1
  | .ptr d => uptoBulk d + 1
  | .slice elems spare => uptoBulkAll elems + uptoBulkAll spare + 1
  | .agg parts => uptoBulkAll parts + 1
  | .iface _ d => uptoBulk d + 1
  | .map entries => uptoBulkEntries entries + 1
  | .held _ => 1
def uptoBulkAll {H : Type} : List (DataW H) → Nat
  | [] => 0
  | d :: r => uptoBulk d + uptoBulkAll r
def uptoBulkEntries {H : Type} : List (Lit × DataW H) → Nat
  | [] => 0
  | x :: r => uptoBulkEntry x + uptoBulkEntries r
def uptoBulkEntry {H : Type} : Lit × DataW H → Nat
  | (.string bytes, d) => bytes.length + uptoBulk d + 1
  | (_, d) => uptoBulk d + 1
 end
def uptoSmall : (H : Type) → List (DataW H) → Bool := fun _ ds => decide (uptoBulkAll ds ≤ 1048576)
def OpenSpec.upto (s : _root_.Go.ChangeSpec) : _root_.Go.OpenSpec := { _root_.Go.OpenSpec.ofChange s with cond := some uptoSmall }

/-- 'stithylaw04.RlpWrites', WHERE WHAT IT READS IS OF BULK AT MOST 1048576: true; the input reads as it did. -/
def rlpWritesUptoRow : OpenClaim := { program := "ytnafebinaheclaadoor", sum := "8f7fb759170b91684c9015b3da8497cf337cf1e99ad55cdd9dd1b2b99df3bce3", func := "stithy/stithylaw04.RlpWrites", spec := "rlpWrites", inPlace := ["internal/bytealg.IndexByteString", "internal/bytealg.IndexString", "internal/abi.NoEscape", "internal/bytealg.MakeNoZero"], unfollowed := true, recurses := true, named := ["unicode/utf8.first", "unicode/utf8.acceptRanges", "internal/bytealg.MaxLen"], apart := false, laid := [("unicode/utf8.acceptRanges", laid_unicode_utf8_acceptRanges), ("unicode/utf8.first", laid_unicode_utf8_first)], narrowed := true }
def RlpWritesUptoSaid : Prop := rlpWritesUptoRow.holds Tryd.pinned (OpenSpec.upto rlpWritesSpec)

/-- 'stithylaw04.RlpReads', WHERE WHAT IT READS IS OF BULK AT MOST 1048576: true; the input reads as it did. -/
def rlpReadsUptoRow : OpenClaim := { program := "ytnafebinaheclaadoor", sum := "8f7fb759170b91684c9015b3da8497cf337cf1e99ad55cdd9dd1b2b99df3bce3", func := "stithy/stithylaw04.RlpReads", spec := "rlpReads", inPlace := ["internal/bytealg.IndexByteString", "internal/bytealg.IndexString", "internal/abi.NoEscape", "internal/bytealg.MakeNoZero"], unfollowed := true, recurses := true, named := ["unicode/utf8.first", "unicode/utf8.acceptRanges", "internal/bytealg.MaxLen"], apart := false, laid := [("unicode/utf8.acceptRanges", laid_unicode_utf8_acceptRanges), ("unicode/utf8.first", laid_unicode_utf8_first)], narrowed := true }
def RlpReadsUptoSaid : Prop := rlpReadsUptoRow.holds Tryd.pinned (OpenSpec.upto rlpReadsSpec)

/-- 'stithylaw04.RlpBack', WHERE WHAT IT READS IS OF BULK AT MOST 1048576: true; the input reads as it did. -/
def rlpBackUptoRow : OpenClaim := { program := "ytnafebinaheclaadoor", sum := "8f7fb759170b91684c9015b3da8497cf337cf1e99ad55cdd9dd1b2b99df3bce3", func := "stithy/stithylaw04.RlpBack", spec := "rlpBack", inPlace := ["internal/bytealg.IndexByteString", "internal/bytealg.IndexString", "internal/abi.NoEscape", "internal/bytealg.MakeNoZero"], unfollowed := true, recurses := true, named := ["unicode/utf8.first", "unicode/utf8.acceptRanges", "internal/bytealg.MaxLen"], apart := false, laid := [("unicode/utf8.acceptRanges", laid_unicode_utf8_acceptRanges), ("unicode/utf8.first", laid_unicode_utf8_first)], narrowed := true }
def RlpBackUptoSaid : Prop := rlpBackUptoRow.holds Tryd.pinned (OpenSpec.upto rlpBackSpec)

/-- 'stithylaw04.RlpAgain', WHERE WHAT IT READS IS OF BULK AT MOST 1048576: true; the input reads as it did. -/
def rlpAgainUptoRow : OpenClaim := { program := "ytnafebinaheclaadoor", sum := "8f7fb759170b91684c9015b3da8497cf337cf1e99ad55cdd9dd1b2b99df3bce3", func := "stithy/stithylaw04.RlpAgain", spec := "rlpAgain", inPlace := ["internal/bytealg.IndexByteString", "internal/bytealg.IndexString", "internal/abi.NoEscape", "internal/bytealg.MakeNoZero"], unfollowed := true, recurses := true, named := ["unicode/utf8.first", "unicode/utf8.acceptRanges", "internal/bytealg.MaxLen"], apart := false, laid := [("unicode/utf8.acceptRanges", laid_unicode_utf8_acceptRanges), ("unicode/utf8.first", laid_unicode_utf8_first)], narrowed := true }
def RlpAgainUptoSaid : Prop := rlpAgainUptoRow.holds Tryd.pinned (OpenSpec.upto rlpAgainSpec)

/-- 'stithylaw04.RlpDeep', WHERE WHAT IT READS IS OF BULK AT MOST 1048576: true; the input reads as it did. -/
def rlpDeepUptoRow : OpenClaim := { program := "ytnafebinaheclaadoor", sum := "8f7fb759170b91684c9015b3da8497cf337cf1e99ad55cdd9dd1b2b99df3bce3", func := "stithy/stithylaw04.RlpDeep", spec := "rlpDeep", inPlace := ["internal/bytealg.IndexByteString", "internal/bytealg.IndexString", "internal/abi.NoEscape", "internal/bytealg.MakeNoZero"], unfollowed := true, recurses := true, named := ["unicode/utf8.first", "unicode/utf8.acceptRanges", "internal/bytealg.MaxLen"], apart := false, laid := [("unicode/utf8.acceptRanges", laid_unicode_utf8_acceptRanges), ("unicode/utf8.first", laid_unicode_utf8_first)], narrowed := true }
def RlpDeepUptoSaid : Prop := rlpDeepUptoRow.holds Tryd.pinned (OpenSpec.upto rlpDeepSpec)

/-- 'stithylaw04.RlpNumbers', WHERE WHAT IT READS IS OF BULK AT MOST 1048576: true; the input reads as it did. -/
def rlpNumbersUptoRow : OpenClaim := { program := "ytnafebinaheclaadoor", sum := "8f7fb759170b91684c9015b3da8497cf337cf1e99ad55cdd9dd1b2b99df3bce3", func := "stithy/stithylaw04.RlpNumbers", spec := "rlpNumbers", inPlace := ["internal/bytealg.IndexByteString", "internal/bytealg.IndexString", "internal/abi.NoEscape", "internal/bytealg.MakeNoZero"], unfollowed := true, recurses := true, named := ["unicode/utf8.first", "unicode/utf8.acceptRanges", "internal/bytealg.MaxLen"], apart := false, laid := [("unicode/utf8.acceptRanges", laid_unicode_utf8_acceptRanges), ("unicode/utf8.first", laid_unicode_utf8_first)], narrowed := true }
def RlpNumbersUptoSaid : Prop := rlpNumbersUptoRow.holds Tryd.pinned (OpenSpec.upto rlpNumbersSpec)

/-- 'stithylaw04.RlpShort', WHERE WHAT IT READS IS OF BULK AT MOST 1048576: true; the input reads as it did. -/
def rlpShortUptoRow : OpenClaim := { program := "ytnafebinaheclaadoor", sum := "8f7fb759170b91684c9015b3da8497cf337cf1e99ad55cdd9dd1b2b99df3bce3", func := "stithy/stithylaw04.RlpShort", spec := "rlpShort", inPlace := ["internal/bytealg.IndexByteString", "internal/bytealg.IndexString", "internal/abi.NoEscape", "internal/bytealg.MakeNoZero"], unfollowed := true, recurses := true, named := ["unicode/utf8.first", "unicode/utf8.acceptRanges", "internal/bytealg.MaxLen"], apart := false, laid := [("unicode/utf8.acceptRanges", laid_unicode_utf8_acceptRanges), ("unicode/utf8.first", laid_unicode_utf8_first)], narrowed := true }
def RlpShortUptoSaid : Prop := rlpShortUptoRow.holds Tryd.pinned (OpenSpec.upto rlpShortSpec)

end Rows
end Go.Proofs.YtnafebinaheclaaDoor
