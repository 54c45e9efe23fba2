/-
  No cell of these rows narrows 'for every input' (looked for: loops, veiled, ifaces, maps, wideKeys, modest, calm, conditions, laid).
  DERIVED. THE GIVEN ROWS OF THIS SEAT. 4 by the template 'for every input the law returns true; each argument reads behind the call as it read before'; 0 by the template 'total and deterministic' (their statements: YtklgiongdiojcaaTotals.lean).
  GIVEN WITH THE SEED: the statements are not yours to turn. If you find one false, say at which input.
  Laid BY PROGRAM, IN A SANDBOX (cutbox-rows.mjs): the forced cells as the released guide's own fill.sh prints them over the translation 5e9b9a1c0926d417… (all of the seat's roots in one cut). By AI agents, Wed Nov 11 2026. No macro, syntax, notation, axiom, sorry.
-/
import Derived.Test.YtklgiongdiojcaaChecked
import GoSem.Claim
import GoSem.ClaimJoined
import GoSem.ClaimMapViews
import Derived.JoinedTies
import Derived.KernelRfl
namespace Go.Proofs.Ytklgiongdiojcaa
/- THE CELL 'sum', in the pinned program and in every row, IS THE sha256 OF THE DUMP (.gsa) THAT YtklgiongdiojcaaProg.lean LOADS. Nothing in Lean hashes anything: it is a label: what it is worth is what the hold of that sum in a sandbox is worth. -/
noncomputable def Try.pinned : Pinned := { name := "ytklgiongdiojcaa", sum := "5e9b9a1c0926d417f9f18cf74ed7b316a39e92570098340d0780ec170200f0b9", checked := Try.checked }
namespace Rows
def none {H : Type} : Left H := { results := [], args := [] }

/-- 'stithylaw16.BloomHas': WHATEVER THE INPUT: true; the input reads as it did. -/
def bloomHasSpec : ChangeSpec := { name := "bloomHas", fn := fun _ => fun
  | [d1, d2, d3] => { results := [.lit (.bool true)], args := [d1, d2, d3] }
  | _ => none }
def bloomHasRow : OpenClaim := { program := "ytklgiongdiojcaa", sum := "5e9b9a1c0926d417f9f18cf74ed7b316a39e92570098340d0780ec170200f0b9", func := "stithy/stithylaw16.BloomHas", spec := "bloomHas", unfollowed := true, recurses := true, apart := false }
def BloomHasSaid : Prop := bloomHasRow.holds Try.pinned (OpenSpec.ofChange bloomHasSpec)

/-- ITS FALSE NEIGHBOUR: 'it returns false'. Refute it at one input. -/
def bloomHasWrong : ChangeSpec := { name := "bloomHas", fn := fun _ => fun
  | [d1, d2, d3] => { results := [.lit (.bool false)], args := [d1, d2, d3] }
  | _ => none }
def BloomHasWrongFalsely : Prop := bloomHasRow.holds Try.pinned (OpenSpec.ofChange bloomHasWrong)

/-- 'stithylaw16.BloomBits': WHATEVER THE INPUT: true; the input reads as it did. -/
def bloomBitsSpec : ChangeSpec := { name := "bloomBits", fn := fun _ => fun
  | [d1, d2] => { results := [.lit (.bool true)], args := [d1, d2] }
  | _ => none }
def bloomBitsRow : OpenClaim := { program := "ytklgiongdiojcaa", sum := "5e9b9a1c0926d417f9f18cf74ed7b316a39e92570098340d0780ec170200f0b9", func := "stithy/stithylaw16.BloomBits", spec := "bloomBits", unfollowed := true, recurses := true, apart := false }
def BloomBitsSaid : Prop := bloomBitsRow.holds Try.pinned (OpenSpec.ofChange bloomBitsSpec)

/-- ITS FALSE NEIGHBOUR: 'it returns false'. Refute it at one input. -/
def bloomBitsWrong : ChangeSpec := { name := "bloomBits", fn := fun _ => fun
  | [d1, d2] => { results := [.lit (.bool false)], args := [d1, d2] }
  | _ => none }
def BloomBitsWrongFalsely : Prop := bloomBitsRow.holds Try.pinned (OpenSpec.ofChange bloomBitsWrong)

/-- 'stithylaw16.BloomAdds': WHATEVER THE INPUT: true; the input reads as it did. -/
def bloomAddsSpec : ChangeSpec := { name := "bloomAdds", fn := fun _ => fun
  | [d1, d2, d3, d4, d5, d6] => { results := [.lit (.bool true)], args := [d1, d2, d3, d4, d5, d6] }
  | _ => none }
def bloomAddsRow : OpenClaim := { program := "ytklgiongdiojcaa", sum := "5e9b9a1c0926d417f9f18cf74ed7b316a39e92570098340d0780ec170200f0b9", func := "stithy/stithylaw16.BloomAdds", spec := "bloomAdds", unfollowed := true, recurses := true, apart := false }
def BloomAddsSaid : Prop := bloomAddsRow.holds Try.pinned (OpenSpec.ofChange bloomAddsSpec)

/-- ITS FALSE NEIGHBOUR: 'it returns false'. Refute it at one input. -/
def bloomAddsWrong : ChangeSpec := { name := "bloomAdds", fn := fun _ => fun
  | [d1, d2, d3, d4, d5, d6] => { results := [.lit (.bool false)], args := [d1, d2, d3, d4, d5, d6] }
  | _ => none }
def BloomAddsWrongFalsely : Prop := bloomAddsRow.holds Try.pinned (OpenSpec.ofChange bloomAddsWrong)

/-- 'stithylaw16.BloomLogs': WHATEVER THE INPUT: true; the input reads as it did. -/
def bloomLogsSpec : ChangeSpec := { name := "bloomLogs", fn := fun _ => fun
  | [d1, d2] => { results := [.lit (.bool true)], args := [d1, d2] }
  | _ => none }
def bloomLogsRow : OpenClaim := { program := "ytklgiongdiojcaa", sum := "5e9b9a1c0926d417f9f18cf74ed7b316a39e92570098340d0780ec170200f0b9", func := "stithy/stithylaw16.BloomLogs", spec := "bloomLogs", unfollowed := true, recurses := true, apart := false }
def BloomLogsSaid : Prop := bloomLogsRow.holds Try.pinned (OpenSpec.ofChange bloomLogsSpec)

/-- ITS FALSE NEIGHBOUR: 'it returns false'. Refute it at one input. -/
def bloomLogsWrong : ChangeSpec := { name := "bloomLogs", fn := fun _ => fun
  | [d1, d2] => { results := [.lit (.bool false)], args := [d1, d2] }
  | _ => none }
def BloomLogsWrongFalsely : Prop := bloomLogsRow.holds Try.pinned (OpenSpec.ofChange bloomLogsWrong)

/- THE SECOND FORM. 'bulk': how many values and letters a reading holds, each counted each time it is reached (what is shared counts as often as it is met; a slice's spare places count too). A statement '..UptoSaid' is the law's where the arguments, and the package variables that the reading takes, are together of bulk at most 1048576: NARROWER than '..Said'. Prove '..Said' where nothing that the law and all that it calls make is longer than what came in: it says more and counts as full. Else prove '..UptoSaid'. A law counts once. -/
mutual
def uptoBulk {H : Type} : DataW H → Nat
  | .lit (.string bytes) => bytes.length + 1
  | .lit _ => 1
  | .nil => 1
  | .ptr d => uptoBulk d + 1
  | .slice elems spare => uptoBulkAll elems + uptoBulkAll spare + 1
  | .agg parts => uptoBulkAll parts + 1
  | .iface _ d => uptoBulk d + 1
  | .map entries => uptoBulkEntries entries + 1
  | .held _ => 1
def uptoBulkAll {H : Type} : List (DataW H) → Nat
  | [] => 0
  | d :: r => uptoBulk d + uptoBulkAll r
def uptoBulkEntries {H : Type} : List (Lit × DataW H) → Nat
  | [] => 0
  | x :: r => uptoBulkEntry x + uptoBulkEntries r
def uptoBulkEntry {H : Type} : Lit × DataW H → Nat
  | (.string bytes, d) => bytes.length + uptoBulk d + 1
  | (_, d) => uptoBulk d + 1
 end
def uptoSmall : (H : Type) → List (DataW H) → Bool := fun _ ds => decide (uptoBulkAll ds ≤ 1048576)
def OpenSpec.upto (s : _root_.Go.ChangeSpec) : _root_.Go.OpenSpec := { _root_.Go.OpenSpec.ofChange s with cond := some uptoSmall }

/-- 'stithylaw16.BloomHas', WHERE WHAT IT READS IS OF BULK AT MOST 1048576: true; the input reads as it did. -/
def bloomHasUptoRow : OpenClaim := { program := "ytklgiongdiojcaa", sum := "5e9b9a1c0926d417f9f18cf74ed7b316a39e92570098340d0780ec170200f0b9", func := "stithy/stithylaw16.BloomHas", spec := "bloomHas", unfollowed := true, recurses := true, apart := false, narrowed := true }
def BloomHasUptoSaid : Prop := bloomHasUptoRow.holds Try.pinned (OpenSpec.upto bloomHasSpec)

/-- 'stithylaw16.BloomBits', WHERE WHAT IT READS IS OF BULK AT MOST 1048576: true; the input reads as it did. -/
def bloomBitsUptoRow : OpenClaim := { program := "ytklgiongdiojcaa", sum := "5e9b9a1c0926d417f9f18cf74ed7b316a39e92570098340d0780ec170200f0b9", func := "stithy/stithylaw16.BloomBits", spec := "bloomBits", unfollowed := true, recurses := true, apart := false, narrowed := true }
def BloomBitsUptoSaid : Prop := bloomBitsUptoRow.holds Try.pinned (OpenSpec.upto bloomBitsSpec)

/-- 'stithylaw16.BloomAdds', WHERE WHAT IT READS IS OF BULK AT MOST 1048576: true; the input reads as it did. -/
def bloomAddsUptoRow : OpenClaim := { program := "ytklgiongdiojcaa", sum := "5e9b9a1c0926d417f9f18cf74ed7b316a39e92570098340d0780ec170200f0b9", func := "stithy/stithylaw16.BloomAdds", spec := "bloomAdds", unfollowed := true, recurses := true, apart := false, narrowed := true }
def BloomAddsUptoSaid : Prop := bloomAddsUptoRow.holds Try.pinned (OpenSpec.upto bloomAddsSpec)

/-- 'stithylaw16.BloomLogs', WHERE WHAT IT READS IS OF BULK AT MOST 1048576: true; the input reads as it did. -/
def bloomLogsUptoRow : OpenClaim := { program := "ytklgiongdiojcaa", sum := "5e9b9a1c0926d417f9f18cf74ed7b316a39e92570098340d0780ec170200f0b9", func := "stithy/stithylaw16.BloomLogs", spec := "bloomLogs", unfollowed := true, recurses := true, apart := false, narrowed := true }
def BloomLogsUptoSaid : Prop := bloomLogsUptoRow.holds Try.pinned (OpenSpec.upto bloomLogsSpec)

end Rows
end Go.Proofs.Ytklgiongdiojcaa
