/-
  No cell of these rows narrows 'for every input' (looked for: loops, veiled, ifaces, maps, wideKeys, modest, calm, conditions, laid).
  DERIVED. THE GIVEN ROWS OF THIS SEAT. 16 by the template 'for every input the law returns true; each argument reads behind the call as it read before'; 0 by the template 'total and deterministic' (their statements: YtajbaocfdlopbaaTotals.lean).
  GIVEN WITH THE SEED: the statements are not yours to turn. If you find one false, say at which input.
  Laid BY PROGRAM, IN A SANDBOX (cutbox-rows.mjs): the forced cells as the released guide's own fill.sh prints them over the translation b1bf6368c4e74e41… (all of the seat's roots in one cut). By AI agents, Wed Nov 11 2026. No macro, syntax, notation, axiom, sorry.
-/
import Derived.Test.YtajbaocfdlopbaaChecked
import GoSem.Claim
import GoSem.ClaimJoined
import GoSem.ClaimMapViews
import Derived.JoinedTies
import Derived.KernelRfl
namespace Go.Proofs.Ytajbaocfdlopbaa
/- THE CELL 'sum', in the pinned program and in every row, IS THE sha256 OF THE DUMP (.gsa) THAT YtajbaocfdlopbaaProg.lean LOADS. Nothing in Lean hashes anything: it is a label: what it is worth is what the hold of that sum in a sandbox is worth. -/
noncomputable def Try.pinned : Pinned := { name := "ytajbaocfdlopbaa", sum := "b1bf6368c4e74e418bedf5cbc83d5ca166dafe11152221e7a25359d714819f53", checked := Try.checked }
namespace Rows
def none {H : Type} : Left H := { results := [], args := [] }

/-- 'stithylaw13.MemParts': WHATEVER THE INPUT: true; the input reads as it did. -/
def memPartsSpec : ChangeSpec := { name := "memParts", fn := fun _ => fun
  | [d1, d2, d3, d4, d5] => { results := [.lit (.bool true)], args := [d1, d2, d3, d4, d5] }
  | _ => none }
def memPartsRow : OpenClaim := { program := "ytajbaocfdlopbaa", sum := "b1bf6368c4e74e418bedf5cbc83d5ca166dafe11152221e7a25359d714819f53", func := "stithy/stithylaw13.MemParts", spec := "memParts", unfollowed := true, recurses := true, apart := false }
def MemPartsSaid : Prop := memPartsRow.holds Try.pinned (OpenSpec.ofChange memPartsSpec)

/-- ITS FALSE NEIGHBOUR: 'it returns false'. Refute it at one input. -/
def memPartsWrong : ChangeSpec := { name := "memParts", fn := fun _ => fun
  | [d1, d2, d3, d4, d5] => { results := [.lit (.bool false)], args := [d1, d2, d3, d4, d5] }
  | _ => none }
def MemPartsWrongFalsely : Prop := memPartsRow.holds Try.pinned (OpenSpec.ofChange memPartsWrong)

/-- 'stithylaw13.MemCosts': WHATEVER THE INPUT: true; the input reads as it did. -/
def memCostsSpec : ChangeSpec := { name := "memCosts", fn := fun _ => fun
  | [d1, d2, d3, d4] => { results := [.lit (.bool true)], args := [d1, d2, d3, d4] }
  | _ => none }
def memCostsRow : OpenClaim := { program := "ytajbaocfdlopbaa", sum := "b1bf6368c4e74e418bedf5cbc83d5ca166dafe11152221e7a25359d714819f53", func := "stithy/stithylaw13.MemCosts", spec := "memCosts", unfollowed := true, recurses := true, apart := false }
def MemCostsSaid : Prop := memCostsRow.holds Try.pinned (OpenSpec.ofChange memCostsSpec)

/-- ITS FALSE NEIGHBOUR: 'it returns false'. Refute it at one input. -/
def memCostsWrong : ChangeSpec := { name := "memCosts", fn := fun _ => fun
  | [d1, d2, d3, d4] => { results := [.lit (.bool false)], args := [d1, d2, d3, d4] }
  | _ => none }
def MemCostsWrongFalsely : Prop := memCostsRow.holds Try.pinned (OpenSpec.ofChange memCostsWrong)

/-- 'stithylaw13.MemPlays': WHATEVER THE INPUT: true; the input reads as it did. -/
def memPlaysSpec : ChangeSpec := { name := "memPlays", fn := fun _ => fun
  | [d] => { results := [.lit (.bool true)], args := [d] }
  | _ => none }
def memPlaysRow : OpenClaim := { program := "ytajbaocfdlopbaa", sum := "b1bf6368c4e74e418bedf5cbc83d5ca166dafe11152221e7a25359d714819f53", func := "stithy/stithylaw13.MemPlays", spec := "memPlays", unfollowed := true, recurses := true, apart := false }
def MemPlaysSaid : Prop := memPlaysRow.holds Try.pinned (OpenSpec.ofChange memPlaysSpec)

/-- ITS FALSE NEIGHBOUR: 'it returns false'. Refute it at one input. -/
def memPlaysWrong : ChangeSpec := { name := "memPlays", fn := fun _ => fun
  | [d] => { results := [.lit (.bool false)], args := [d] }
  | _ => none }
def MemPlaysWrongFalsely : Prop := memPlaysRow.holds Try.pinned (OpenSpec.ofChange memPlaysWrong)

/-- 'stithylaw13.MemBack': WHATEVER THE INPUT: true; the input reads as it did. -/
def memBackSpec : ChangeSpec := { name := "memBack", fn := fun _ => fun
  | [d1, d2, d3] => { results := [.lit (.bool true)], args := [d1, d2, d3] }
  | _ => none }
def memBackRow : OpenClaim := { program := "ytajbaocfdlopbaa", sum := "b1bf6368c4e74e418bedf5cbc83d5ca166dafe11152221e7a25359d714819f53", func := "stithy/stithylaw13.MemBack", spec := "memBack", unfollowed := true, recurses := true, apart := false }
def MemBackSaid : Prop := memBackRow.holds Try.pinned (OpenSpec.ofChange memBackSpec)

/-- ITS FALSE NEIGHBOUR: 'it returns false'. Refute it at one input. -/
def memBackWrong : ChangeSpec := { name := "memBack", fn := fun _ => fun
  | [d1, d2, d3] => { results := [.lit (.bool false)], args := [d1, d2, d3] }
  | _ => none }
def MemBackWrongFalsely : Prop := memBackRow.holds Try.pinned (OpenSpec.ofChange memBackWrong)

/-- 'stithylaw13.MemFar': WHATEVER THE INPUT: true; the input reads as it did. -/
def memFarSpec : ChangeSpec := { name := "memFar", fn := fun _ => fun
  | [d1, d2, d3] => { results := [.lit (.bool true)], args := [d1, d2, d3] }
  | _ => none }
def memFarRow : OpenClaim := { program := "ytajbaocfdlopbaa", sum := "b1bf6368c4e74e418bedf5cbc83d5ca166dafe11152221e7a25359d714819f53", func := "stithy/stithylaw13.MemFar", spec := "memFar", unfollowed := true, recurses := true, apart := false }
def MemFarSaid : Prop := memFarRow.holds Try.pinned (OpenSpec.ofChange memFarSpec)

/-- ITS FALSE NEIGHBOUR: 'it returns false'. Refute it at one input. -/
def memFarWrong : ChangeSpec := { name := "memFar", fn := fun _ => fun
  | [d1, d2, d3] => { results := [.lit (.bool false)], args := [d1, d2, d3] }
  | _ => none }
def MemFarWrongFalsely : Prop := memFarRow.holds Try.pinned (OpenSpec.ofChange memFarWrong)

/-- 'stithylaw17.FeeNext': WHATEVER THE INPUT: true; the input reads as it did. -/
def feeNextSpec : ChangeSpec := { name := "feeNext", fn := fun _ => fun
  | [d1, d2, d3] => { results := [.lit (.bool true)], args := [d1, d2, d3] }
  | _ => none }
def feeNextRow : OpenClaim := { program := "ytajbaocfdlopbaa", sum := "b1bf6368c4e74e418bedf5cbc83d5ca166dafe11152221e7a25359d714819f53", func := "stithy/stithylaw17.FeeNext", spec := "feeNext", inPlace := ["math/bits.Sub64", "math/bits.Add64"], unfollowed := true, recurses := true, apart := false }
def FeeNextSaid : Prop := feeNextRow.holds Try.pinned (OpenSpec.ofChange feeNextSpec)

/-- ITS FALSE NEIGHBOUR: 'it returns false'. Refute it at one input. -/
def feeNextWrong : ChangeSpec := { name := "feeNext", fn := fun _ => fun
  | [d1, d2, d3] => { results := [.lit (.bool false)], args := [d1, d2, d3] }
  | _ => none }
def FeeNextWrongFalsely : Prop := feeNextRow.holds Try.pinned (OpenSpec.ofChange feeNextWrong)

/-- 'stithylaw17.FeePrice': WHATEVER THE INPUT: true; the input reads as it did. -/
def feePriceSpec : ChangeSpec := { name := "feePrice", fn := fun _ => fun
  | [d1, d2, d3, d4] => { results := [.lit (.bool true)], args := [d1, d2, d3, d4] }
  | _ => none }
def feePriceRow : OpenClaim := { program := "ytajbaocfdlopbaa", sum := "b1bf6368c4e74e418bedf5cbc83d5ca166dafe11152221e7a25359d714819f53", func := "stithy/stithylaw17.FeePrice", spec := "feePrice", inPlace := ["math/bits.Sub64", "math/bits.Add64"], unfollowed := true, recurses := true, apart := false }
def FeePriceSaid : Prop := feePriceRow.holds Try.pinned (OpenSpec.ofChange feePriceSpec)

/-- ITS FALSE NEIGHBOUR: 'it returns false'. Refute it at one input. -/
def feePriceWrong : ChangeSpec := { name := "feePrice", fn := fun _ => fun
  | [d1, d2, d3, d4] => { results := [.lit (.bool false)], args := [d1, d2, d3, d4] }
  | _ => none }
def FeePriceWrongFalsely : Prop := feePriceRow.holds Try.pinned (OpenSpec.ofChange feePriceWrong)

/-- 'stithylaw17.FeeSteps': WHATEVER THE INPUT: true; the input reads as it did. -/
def feeStepsSpec : ChangeSpec := { name := "feeSteps", fn := fun _ => fun
  | [d1, d2, d3] => { results := [.lit (.bool true)], args := [d1, d2, d3] }
  | _ => none }
def feeStepsRow : OpenClaim := { program := "ytajbaocfdlopbaa", sum := "b1bf6368c4e74e418bedf5cbc83d5ca166dafe11152221e7a25359d714819f53", func := "stithy/stithylaw17.FeeSteps", spec := "feeSteps", inPlace := ["math/bits.Sub64", "math/bits.Add64"], unfollowed := true, recurses := true, apart := false }
def FeeStepsSaid : Prop := feeStepsRow.holds Try.pinned (OpenSpec.ofChange feeStepsSpec)

/-- ITS FALSE NEIGHBOUR: 'it returns false'. Refute it at one input. -/
def feeStepsWrong : ChangeSpec := { name := "feeSteps", fn := fun _ => fun
  | [d1, d2, d3] => { results := [.lit (.bool false)], args := [d1, d2, d3] }
  | _ => none }
def FeeStepsWrongFalsely : Prop := feeStepsRow.holds Try.pinned (OpenSpec.ofChange feeStepsWrong)

/-- 'stithylaw14.GasStores': WHATEVER THE INPUT: true; the input reads as it did. -/
def gasStoresSpec : ChangeSpec := { name := "gasStores", fn := fun _ => fun
  | [d1, d2, d3, d4, d5, d6] => { results := [.lit (.bool true)], args := [d1, d2, d3, d4, d5, d6] }
  | _ => none }
def gasStoresRow : OpenClaim := { program := "ytajbaocfdlopbaa", sum := "b1bf6368c4e74e418bedf5cbc83d5ca166dafe11152221e7a25359d714819f53", func := "stithy/stithylaw14.GasStores", spec := "gasStores", inPlace := ["internal/bytealg.CountString", "internal/bytealg.IndexByteString", "internal/bytealg.IndexString"], unfollowed := true, recurses := true, named := ["internal/bytealg.MaxLen"], apart := false }
def GasStoresSaid : Prop := gasStoresRow.holds Try.pinned (OpenSpec.ofChange gasStoresSpec)

/-- ITS FALSE NEIGHBOUR: 'it returns false'. Refute it at one input. -/
def gasStoresWrong : ChangeSpec := { name := "gasStores", fn := fun _ => fun
  | [d1, d2, d3, d4, d5, d6] => { results := [.lit (.bool false)], args := [d1, d2, d3, d4, d5, d6] }
  | _ => none }
def GasStoresWrongFalsely : Prop := gasStoresRow.holds Try.pinned (OpenSpec.ofChange gasStoresWrong)

/-- 'stithylaw14.GasRoundTrip': WHATEVER THE INPUT: true; the input reads as it did. -/
def gasRoundTripSpec : ChangeSpec := { name := "gasRoundTrip", fn := fun _ => fun
  | [d] => { results := [.lit (.bool true)], args := [d] }
  | _ => none }
def gasRoundTripRow : OpenClaim := { program := "ytajbaocfdlopbaa", sum := "b1bf6368c4e74e418bedf5cbc83d5ca166dafe11152221e7a25359d714819f53", func := "stithy/stithylaw14.GasRoundTrip", spec := "gasRoundTrip", inPlace := ["internal/bytealg.CountString", "internal/bytealg.IndexByteString", "internal/bytealg.IndexString"], unfollowed := true, recurses := true, named := ["internal/bytealg.MaxLen"], apart := false }
def GasRoundTripSaid : Prop := gasRoundTripRow.holds Try.pinned (OpenSpec.ofChange gasRoundTripSpec)

/-- ITS FALSE NEIGHBOUR: 'it returns false'. Refute it at one input. -/
def gasRoundTripWrong : ChangeSpec := { name := "gasRoundTrip", fn := fun _ => fun
  | [d] => { results := [.lit (.bool false)], args := [d] }
  | _ => none }
def GasRoundTripWrongFalsely : Prop := gasRoundTripRow.holds Try.pinned (OpenSpec.ofChange gasRoundTripWrong)

/-- 'stithylaw14.GasData': WHATEVER THE INPUT: true; the input reads as it did. -/
def gasDataSpec : ChangeSpec := { name := "gasData", fn := fun _ => fun
  | [d1, d2, d3, d4] => { results := [.lit (.bool true)], args := [d1, d2, d3, d4] }
  | _ => none }
def gasDataRow : OpenClaim := { program := "ytajbaocfdlopbaa", sum := "b1bf6368c4e74e418bedf5cbc83d5ca166dafe11152221e7a25359d714819f53", func := "stithy/stithylaw14.GasData", spec := "gasData", inPlace := ["internal/bytealg.CountString", "internal/bytealg.IndexByteString", "internal/bytealg.IndexString"], unfollowed := true, recurses := true, named := ["internal/bytealg.MaxLen"], apart := false }
def GasDataSaid : Prop := gasDataRow.holds Try.pinned (OpenSpec.ofChange gasDataSpec)

/-- ITS FALSE NEIGHBOUR: 'it returns false'. Refute it at one input. -/
def gasDataWrong : ChangeSpec := { name := "gasData", fn := fun _ => fun
  | [d1, d2, d3, d4] => { results := [.lit (.bool false)], args := [d1, d2, d3, d4] }
  | _ => none }
def GasDataWrongFalsely : Prop := gasDataRow.holds Try.pinned (OpenSpec.ofChange gasDataWrong)

/-- 'stithylaw14.GasColds': WHATEVER THE INPUT: true; the input reads as it did. -/
def gasColdsSpec : ChangeSpec := { name := "gasColds", fn := fun _ => fun
  | [d1, d2, d3, d4] => { results := [.lit (.bool true)], args := [d1, d2, d3, d4] }
  | _ => none }
def gasColdsRow : OpenClaim := { program := "ytajbaocfdlopbaa", sum := "b1bf6368c4e74e418bedf5cbc83d5ca166dafe11152221e7a25359d714819f53", func := "stithy/stithylaw14.GasColds", spec := "gasColds", inPlace := ["internal/bytealg.CountString", "internal/bytealg.IndexByteString", "internal/bytealg.IndexString"], unfollowed := true, recurses := true, named := ["internal/bytealg.MaxLen"], apart := false }
def GasColdsSaid : Prop := gasColdsRow.holds Try.pinned (OpenSpec.ofChange gasColdsSpec)

/-- ITS FALSE NEIGHBOUR: 'it returns false'. Refute it at one input. -/
def gasColdsWrong : ChangeSpec := { name := "gasColds", fn := fun _ => fun
  | [d1, d2, d3, d4] => { results := [.lit (.bool false)], args := [d1, d2, d3, d4] }
  | _ => none }
def GasColdsWrongFalsely : Prop := gasColdsRow.holds Try.pinned (OpenSpec.ofChange gasColdsWrong)

/-- 'stithylaw14.GasKeeps': WHATEVER THE INPUT: true; the input reads as it did. -/
def gasKeepsSpec : ChangeSpec := { name := "gasKeeps", fn := fun _ => fun
  | [d1, d2, d3, d4] => { results := [.lit (.bool true)], args := [d1, d2, d3, d4] }
  | _ => none }
def gasKeepsRow : OpenClaim := { program := "ytajbaocfdlopbaa", sum := "b1bf6368c4e74e418bedf5cbc83d5ca166dafe11152221e7a25359d714819f53", func := "stithy/stithylaw14.GasKeeps", spec := "gasKeeps", inPlace := ["internal/bytealg.CountString", "internal/bytealg.IndexByteString", "internal/bytealg.IndexString"], unfollowed := true, recurses := true, named := ["internal/bytealg.MaxLen"], apart := false }
def GasKeepsSaid : Prop := gasKeepsRow.holds Try.pinned (OpenSpec.ofChange gasKeepsSpec)

/-- ITS FALSE NEIGHBOUR: 'it returns false'. Refute it at one input. -/
def gasKeepsWrong : ChangeSpec := { name := "gasKeeps", fn := fun _ => fun
  | [d1, d2, d3, d4] => { results := [.lit (.bool false)], args := [d1, d2, d3, d4] }
  | _ => none }
def GasKeepsWrongFalsely : Prop := gasKeepsRow.holds Try.pinned (OpenSpec.ofChange gasKeepsWrong)

/-- 'stithylaw17.FeeReckons': WHATEVER THE INPUT: true; the input reads as it did. -/
def feeReckonsSpec : ChangeSpec := { name := "feeReckons", fn := fun _ => fun
  | [d1, d2, d3, d4, d5] => { results := [.lit (.bool true)], args := [d1, d2, d3, d4, d5] }
  | _ => none }
def feeReckonsRow : OpenClaim := { program := "ytajbaocfdlopbaa", sum := "b1bf6368c4e74e418bedf5cbc83d5ca166dafe11152221e7a25359d714819f53", func := "stithy/stithylaw17.FeeReckons", spec := "feeReckons", inPlace := ["math/bits.Sub64", "math/bits.Add64"], unfollowed := true, recurses := true, apart := false }
def FeeReckonsSaid : Prop := feeReckonsRow.holds Try.pinned (OpenSpec.ofChange feeReckonsSpec)

/-- ITS FALSE NEIGHBOUR: 'it returns false'. Refute it at one input. -/
def feeReckonsWrong : ChangeSpec := { name := "feeReckons", fn := fun _ => fun
  | [d1, d2, d3, d4, d5] => { results := [.lit (.bool false)], args := [d1, d2, d3, d4, d5] }
  | _ => none }
def FeeReckonsWrongFalsely : Prop := feeReckonsRow.holds Try.pinned (OpenSpec.ofChange feeReckonsWrong)

/-- 'stithylaw14.GasWords': WHATEVER THE INPUT: true; the input reads as it did. -/
def gasWordsSpec : ChangeSpec := { name := "gasWords", fn := fun _ => fun
  | [d1, d2] => { results := [.lit (.bool true)], args := [d1, d2] }
  | _ => none }
def gasWordsRow : OpenClaim := { program := "ytajbaocfdlopbaa", sum := "b1bf6368c4e74e418bedf5cbc83d5ca166dafe11152221e7a25359d714819f53", func := "stithy/stithylaw14.GasWords", spec := "gasWords", inPlace := ["internal/bytealg.CountString", "internal/bytealg.IndexByteString", "internal/bytealg.IndexString"], unfollowed := true, recurses := true, named := ["internal/bytealg.MaxLen"], apart := false }
def GasWordsSaid : Prop := gasWordsRow.holds Try.pinned (OpenSpec.ofChange gasWordsSpec)

/-- ITS FALSE NEIGHBOUR: 'it returns false'. Refute it at one input. -/
def gasWordsWrong : ChangeSpec := { name := "gasWords", fn := fun _ => fun
  | [d1, d2] => { results := [.lit (.bool false)], args := [d1, d2] }
  | _ => none }
def GasWordsWrongFalsely : Prop := gasWordsRow.holds Try.pinned (OpenSpec.ofChange gasWordsWrong)

/-- 'stithylaw17.FeeMost': WHATEVER THE INPUT: true; the input reads as it did. -/
def feeMostSpec : ChangeSpec := { name := "feeMost", fn := fun _ => fun
  | [d1, d2, d3, d4] => { results := [.lit (.bool true)], args := [d1, d2, d3, d4] }
  | _ => none }
def feeMostRow : OpenClaim := { program := "ytajbaocfdlopbaa", sum := "b1bf6368c4e74e418bedf5cbc83d5ca166dafe11152221e7a25359d714819f53", func := "stithy/stithylaw17.FeeMost", spec := "feeMost", inPlace := ["math/bits.Sub64", "math/bits.Add64"], unfollowed := true, recurses := true, apart := false }
def FeeMostSaid : Prop := feeMostRow.holds Try.pinned (OpenSpec.ofChange feeMostSpec)

/-- ITS FALSE NEIGHBOUR: 'it returns false'. Refute it at one input. -/
def feeMostWrong : ChangeSpec := { name := "feeMost", fn := fun _ => fun
  | [d1, d2, d3, d4] => { results := [.lit (.bool false)], args := [d1, d2, d3, d4] }
  | _ => none }
def FeeMostWrongFalsely : Prop := feeMostRow.holds Try.pinned (OpenSpec.ofChange feeMostWrong)

/- THE SECOND FORM. 'bulk': how many values and letters a reading holds, each counted each time it is reached (what is shared counts as often as it is met; a slice's spare places count too). A statement '..UptoSaid' is the law's where the arguments, and the package variables that the reading takes, are together of bulk at most 1048576: NARROWER than '..Said'. Prove '..Said' where nothing that the law and all that it calls make is longer than what came in: it says more and counts as full. Else prove '..UptoSaid'. A law counts once. -/
mutual
def uptoBulk {H : Type} : DataW H → Nat
  | .lit (.string bytes) => bytes.length + 1
  | .lit _ => 1
  | .nil => 1
  | .ptr d => uptoBulk d + 1
  | .slice elems spare => uptoBulkAll elems + uptoBulkAll spare + 1
  | .agg parts => uptoBulkAll parts + 1
  | .iface _ d => uptoBulk d + 1
  | .map entries => uptoBulkEntries entries + 1
  | .held _ => 1
def uptoBulkAll {H : Type} : List (DataW H) → Nat
  | [] => 0
  | d :: r => uptoBulk d + uptoBulkAll r
def uptoBulkEntries {H : Type} : List (Lit × DataW H) → Nat
  | [] => 0
  | x :: r => uptoBulkEntry x + uptoBulkEntries r
def uptoBulkEntry {H : Type} : Lit × DataW H → Nat
  | (.string bytes, d) => bytes.length + uptoBulk d + 1
  | (_, d) => uptoBulk d + 1
 end
def uptoSmall : (H : Type) → List (DataW H) → Bool := fun _ ds => decide (uptoBulkAll ds ≤ 1048576)
def OpenSpec.upto (s : _root_.Go.ChangeSpec) : _root_.Go.OpenSpec := { _root_.Go.OpenSpec.ofChange s with cond := some uptoSmall }

/-- 'stithylaw13.MemParts', WHERE WHAT IT READS IS OF BULK AT MOST 1048576: true; the input reads as it did. -/
def memPartsUptoRow : OpenClaim := { program := "ytajbaocfdlopbaa", sum := "b1bf6368c4e74e418bedf5cbc83d5ca166dafe11152221e7a25359d714819f53", func := "stithy/stithylaw13.MemParts", spec := "memParts", unfollowed := true, recurses := true, apart := false, narrowed := true }
def MemPartsUptoSaid : Prop := memPartsUptoRow.holds Try.pinned (OpenSpec.upto memPartsSpec)

/-- 'stithylaw13.MemCosts', WHERE WHAT IT READS IS OF BULK AT MOST 1048576: true; the input reads as it did. -/
def memCostsUptoRow : OpenClaim := { program := "ytajbaocfdlopbaa", sum := "b1bf6368c4e74e418bedf5cbc83d5ca166dafe11152221e7a25359d714819f53", func := "stithy/stithylaw13.MemCosts", spec := "memCosts", unfollowed := true, recurses := true, apart := false, narrowed := true }
def MemCostsUptoSaid : Prop := memCostsUptoRow.holds Try.pinned (OpenSpec.upto memCostsSpec)

/-- 'stithylaw13.MemPlays', WHERE WHAT IT READS IS OF BULK AT MOST 1048576: true; the input reads as it did. -/
def memPlaysUptoRow : OpenClaim := { program := "ytajbaocfdlopbaa", sum := "b1bf6368c4e74e418bedf5cbc83d5ca166dafe11152221e7a25359d714819f53", func := "stithy/stithylaw13.MemPlays", spec := "memPlays", unfollowed := true, recurses := true, apart := false, narrowed := true }
def MemPlaysUptoSaid : Prop := memPlaysUptoRow.holds Try.pinned (OpenSpec.upto memPlaysSpec)

/-- 'stithylaw13.MemBack', WHERE WHAT IT READS IS OF BULK AT MOST 1048576: true; the input reads as it did. -/
def memBackUptoRow : OpenClaim := { program := "ytajbaocfdlopbaa", sum := "b1bf6368c4e74e418bedf5cbc83d5ca166dafe11152221e7a25359d714819f53", func := "stithy/stithylaw13.MemBack", spec := "memBack", unfollowed := true, recurses := true, apart := false, narrowed := true }
def MemBackUptoSaid : Prop := memBackUptoRow.holds Try.pinned (OpenSpec.upto memBackSpec)

/-- 'stithylaw13.MemFar', WHERE WHAT IT READS IS OF BULK AT MOST 1048576: true; the input reads as it did. -/
def memFarUptoRow : OpenClaim := { program := "ytajbaocfdlopbaa", sum := "b1bf6368c4e74e418bedf5cbc83d5ca166dafe11152221e7a25359d714819f53", func := "stithy/stithylaw13.MemFar", spec := "memFar", unfollowed := true, recurses := true, apart := false, narrowed := true }
def MemFarUptoSaid : Prop := memFarUptoRow.holds Try.pinned (OpenSpec.upto memFarSpec)

/-- 'stithylaw17.FeeNext', WHERE WHAT IT READS IS OF BULK AT MOST 1048576: true; the input reads as it did. -/
def feeNextUptoRow : OpenClaim := { program := "ytajbaocfdlopbaa", sum := "b1bf6368c4e74e418bedf5cbc83d5ca166dafe11152221e7a25359d714819f53", func := "stithy/stithylaw17.FeeNext", spec := "feeNext", inPlace := ["math/bits.Sub64", "math/bits.Add64"], unfollowed := true, recurses := true, apart := false, narrowed := true }
def FeeNextUptoSaid : Prop := feeNextUptoRow.holds Try.pinned (OpenSpec.upto feeNextSpec)

/-- 'stithylaw17.FeePrice', WHERE WHAT IT READS IS OF BULK AT MOST 1048576: true; the input reads as it did. -/
def feePriceUptoRow : OpenClaim := { program := "ytajbaocfdlopbaa", sum := "b1bf6368c4e74e418bedf5cbc83d5ca166dafe11152221e7a25359d714819f53", func := "stithy/stithylaw17.FeePrice", spec := "feePrice", inPlace := ["math/bits.Sub64", "math/bits.Add64"], unfollowed := true, recurses := true, apart := false, narrowed := true }
def FeePriceUptoSaid : Prop := feePriceUptoRow.holds Try.pinned (OpenSpec.upto feePriceSpec)

/-- 'stithylaw17.FeeSteps', WHERE WHAT IT READS IS OF BULK AT MOST 1048576: true; the input reads as it did. -/
def feeStepsUptoRow : OpenClaim := { program := "ytajbaocfdlopbaa", sum := "b1bf6368c4e74e418bedf5cbc83d5ca166dafe11152221e7a25359d714819f53", func := "stithy/stithylaw17.FeeSteps", spec := "feeSteps", inPlace := ["math/bits.Sub64", "math/bits.Add64"], unfollowed := true, recurses := true, apart := false, narrowed := true }
def FeeStepsUptoSaid : Prop := feeStepsUptoRow.holds Try.pinned (OpenSpec.upto feeStepsSpec)

/-- 'stithylaw14.GasStores', WHERE WHAT IT READS IS OF BULK AT MOST 1048576: true; the input reads as it did. -/
def gasStoresUptoRow : OpenClaim := { program := "ytajbaocfdlopbaa", sum := "b1bf6368c4e74e418bedf5cbc83d5ca166dafe11152221e7a25359d714819f53", func := "stithy/stithylaw14.GasStores", spec := "gasStores", inPlace := ["internal/bytealg.CountString", "internal/bytealg.IndexByteString", "internal/bytealg.IndexString"], unfollowed := true, recurses := true, named := ["internal/bytealg.MaxLen"], apart := false, narrowed := true }
def GasStoresUptoSaid : Prop := gasStoresUptoRow.holds Try.pinned (OpenSpec.upto gasStoresSpec)

/-- 'stithylaw14.GasRoundTrip', WHERE WHAT IT READS IS OF BULK AT MOST 1048576: true; the input reads as it did. -/
def gasRoundTripUptoRow : OpenClaim := { program := "ytajbaocfdlopbaa", sum := "b1bf6368c4e74e418bedf5cbc83d5ca166dafe11152221e7a25359d714819f53", func := "stithy/stithylaw14.GasRoundTrip", spec := "gasRoundTrip", inPlace := ["internal/bytealg.CountString", "internal/bytealg.IndexByteString", "internal/bytealg.IndexString"], unfollowed := true, recurses := true, named := ["internal/bytealg.MaxLen"], apart := false, narrowed := true }
def GasRoundTripUptoSaid : Prop := gasRoundTripUptoRow.holds Try.pinned (OpenSpec.upto gasRoundTripSpec)

/-- 'stithylaw14.GasData', WHERE WHAT IT READS IS OF BULK AT MOST 1048576: true; the input reads as it did. -/
def gasDataUptoRow : OpenClaim := { program := "ytajbaocfdlopbaa", sum := "b1bf6368c4e74e418bedf5cbc83d5ca166dafe11152221e7a25359d714819f53", func := "stithy/stithylaw14.GasData", spec := "gasData", inPlace := ["internal/bytealg.CountString", "internal/bytealg.IndexByteString", "internal/bytealg.IndexString"], unfollowed := true, recurses := true, named := ["internal/bytealg.MaxLen"], apart := false, narrowed := true }
def GasDataUptoSaid : Prop := gasDataUptoRow.holds Try.pinned (OpenSpec.upto gasDataSpec)

/-- 'stithylaw14.GasColds', WHERE WHAT IT READS IS OF BULK AT MOST 1048576: true; the input reads as it did. -/
def gasColdsUptoRow : OpenClaim := { program := "ytajbaocfdlopbaa", sum := "b1bf6368c4e74e418bedf5cbc83d5ca166dafe11152221e7a25359d714819f53", func := "stithy/stithylaw14.GasColds", spec := "gasColds", inPlace := ["internal/bytealg.CountString", "internal/bytealg.IndexByteString", "internal/bytealg.IndexString"], unfollowed := true, recurses := true, named := ["internal/bytealg.MaxLen"], apart := false, narrowed := true }
def GasColdsUptoSaid : Prop := gasColdsUptoRow.holds Try.pinned (OpenSpec.upto gasColdsSpec)

/-- 'stithylaw14.GasKeeps', WHERE WHAT IT READS IS OF BULK AT MOST 1048576: true; the input reads as it did. -/
def gasKeepsUptoRow : OpenClaim := { program := "ytajbaocfdlopbaa", sum := "b1bf6368c4e74e418bedf5cbc83d5ca166dafe11152221e7a25359d714819f53", func := "stithy/stithylaw14.GasKeeps", spec := "gasKeeps", inPlace := ["internal/bytealg.CountString", "internal/bytealg.IndexByteString", "internal/bytealg.IndexString"], unfollowed := true, recurses := true, named := ["internal/bytealg.MaxLen"], apart := false, narrowed := true }
def GasKeepsUptoSaid : Prop := gasKeepsUptoRow.holds Try.pinned (OpenSpec.upto gasKeepsSpec)

/-- 'stithylaw17.FeeReckons', WHERE WHAT IT READS IS OF BULK AT MOST 1048576: true; the input reads as it did. -/
def feeReckonsUptoRow : OpenClaim := { program := "ytajbaocfdlopbaa", sum := "b1bf6368c4e74e418bedf5cbc83d5ca166dafe11152221e7a25359d714819f53", func := "stithy/stithylaw17.FeeReckons", spec := "feeReckons", inPlace := ["math/bits.Sub64", "math/bits.Add64"], unfollowed := true, recurses := true, apart := false, narrowed := true }
def FeeReckonsUptoSaid : Prop := feeReckonsUptoRow.holds Try.pinned (OpenSpec.upto feeReckonsSpec)

/-- 'stithylaw14.GasWords', WHERE WHAT IT READS IS OF BULK AT MOST 1048576: true; the input reads as it did. -/
def gasWordsUptoRow : OpenClaim := { program := "ytajbaocfdlopbaa", sum := "b1bf6368c4e74e418bedf5cbc83d5ca166dafe11152221e7a25359d714819f53", func := "stithy/stithylaw14.GasWords", spec := "gasWords", inPlace := ["internal/bytealg.CountString", "internal/bytealg.IndexByteString", "internal/bytealg.IndexString"], unfollowed := true, recurses := true, named := ["internal/bytealg.MaxLen"], apart := false, narrowed := true }
def GasWordsUptoSaid : Prop := gasWordsUptoRow.holds Try.pinned (OpenSpec.upto gasWordsSpec)

/-- 'stithylaw17.FeeMost', WHERE WHAT IT READS IS OF BULK AT MOST 1048576: true; the input reads as it did. -/
def feeMostUptoRow : OpenClaim := { program := "ytajbaocfdlopbaa", sum := "b1bf6368c4e74e418bedf5cbc83d5ca166dafe11152221e7a25359d714819f53", func := "stithy/stithylaw17.FeeMost", spec := "feeMost", inPlace := ["math/bits.Sub64", "math/bits.Add64"], unfollowed := true, recurses := true, apart := false, narrowed := true }
def FeeMostUptoSaid : Prop := feeMostUptoRow.holds Try.pinned (OpenSpec.upto feeMostSpec)

end Rows
end Go.Proofs.Ytajbaocfdlopbaa
