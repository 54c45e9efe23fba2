/- The functions that this law reaches: what each comes to. -/
import Derived.Test.YtajbaocfdlopbaaProg
import Derived.Test.YtajbaocfdlopbaaLh5
set_option linter.unusedSimpArgs false
set_option linter.unusedVariables false
section
open Go Go.Lh
namespace Go.Proofs.Ytajbaocfdlopbaa.K
noncomputable section
set_option maxRecDepth 100000
abbrev Pr : Program := Go.Proofs.Try.prog
theorem mixed : Pr.follows .mixedOrders = true := by kernel_rfl
def ext : FuncId → List V → Option (Bool × V) := extL [(82, subX), (84, addX), (114, cntX)]
theorem ext_ok : ExtOk Pr ext :=
  extL_cons (subX_at (fn := Go.Proofs.Try.f82) (by kernel_rfl) (by kernel_rfl) (by kernel_rfl) (by kernel_rfl) (by kernel_rfl))
  (extL_cons (addX_at (fn := Go.Proofs.Try.f84) (by kernel_rfl) (by kernel_rfl) (by kernel_rfl) (by kernel_rfl) (by kernel_rfl))
  (extL_cons (cntX_at (fn := Go.Proofs.Try.f114) (by kernel_rfl) (by kernel_rfl) (by kernel_rfl) (by kernel_rfl) (by kernel_rfl)) extL_nil))
end
end Go.Proofs.Ytajbaocfdlopbaa.K
end
section
open Go Go.Lh
namespace Go.Proofs.Ytajbaocfdlopbaa.K
noncomputable section
set_option maxRecDepth 100000
def OG0 : Orc := auto Pr ext [] [43, 45, 47, 49, 50, 51, 56, 57, 58, 59, 60, 61, 65, 86, 87, 89, 90] 8
theorem OG0_sound : OrcSound Pr OG0 := auto_sound mixed ext_ok KOk.nil (by kernel_rfl) 8
theorem gex_x : execF Pr OG0 noLoops 100 Go.Proofs.Try.f42 [] [] = some (true, .ret (.bool true), []) := by kernel_rfl
def gex_g := ct (fun (args : List V) (h : Heap) => match args, h with | [], [] => some () | _, _ => none) (fun _ => true) (fun _ => .ret (.bool true)) (fun _ => [])
theorem gex_ok : ∀ args h fin h', gex_g args h = some (true, fin, h') → LFn Pr 42 args h fin h' := by
  refine ct_ok (fun _ => []) (fun _ => []) ?_ ?_
  · intro args h a e
    split at e <;> cases e
    exact ⟨rfl, rfl⟩
  · intro a _
    exact execF_sound (fn := Go.Proofs.Try.f42) OG0_sound mixed (by kernel_rfl) (fun _ _ _ _ => LoopOk.none) gex_x
theorem gex_en : Enters Pr 42 := Enters.of (fn := Go.Proofs.Try.f42) (by kernel_rfl) (by kernel_rfl)
def OG : Orc := auto Pr ext [(42, gex_g)] [43, 45, 47, 49, 50, 51, 56, 57, 58, 59, 60, 61, 65, 86, 87, 89, 90] 8
theorem OG_sound : OrcSound Pr OG := auto_sound mixed ext_ok (KOk.cons gex_en gex_ok KOk.nil) (by kernel_rfl) 8
theorem keepsA (a : BitVec 64) (b : BitVec 64) (c : BitVec 64) (r : Int) :
  execF Pr
  (withAsm OG
    [((29 : Nat), true), ((34 : Nat), true), ((39 : Nat), true), ((47 : Nat), true), ((54 : Nat), true),
      ((60 : Nat), true), ((68 : Nat), false), ((71 : Nat), true)])
  noLoops (100 : Nat) Go.Proofs.Try.f15 [V.u64 a, V.u64 b, V.u64 c, V.int IntKind.i64 r] [] =
  some
  (decide
            ((if a - a / BitVec.ofInt (64 : Nat) (64 : Int) < b then a - a / BitVec.ofInt (64 : Nat) (64 : Int)
              else b) ≤
              a) &&
          (decide
              ((if a - a / BitVec.ofInt (64 : Nat) (64 : Int) < b then a - a / BitVec.ofInt (64 : Nat) (64 : Int)
                else b) ≤
                b) &&
            (a - a / BitVec.ofInt (64 : Nat) (64 : Int) == a - a / BitVec.ofInt (64 : Nat) (64 : Int) &&
              (((if a - a / BitVec.ofInt (64 : Nat) (64 : Int) < b then a - a / BitVec.ofInt (64 : Nat) (64 : Int)
                  else b) ==
                  if b < a - a / BitVec.ofInt (64 : Nat) (64 : Int) then b
                  else a - a / BitVec.ofInt (64 : Nat) (64 : Int)) &&
                (decide
                    ((if
                          c / BitVec.ofInt (64 : Nat) (5 : Int) <
                            BitVec.ofInt (64 : Nat) (if (0 : Int) > r then (0 : Int) else r) then
                        c / BitVec.ofInt (64 : Nat) (5 : Int)
                      else BitVec.ofInt (64 : Nat) (if (0 : Int) > r then (0 : Int) else r)) ≤
                      c / BitVec.ofInt (64 : Nat) (5 : Int)) &&
                  (decide (r > (0 : Int)) &&
                    (!decide (r ≤ (0 : Int)) &&
                      (decide
                          ((if
                                c / BitVec.ofInt (64 : Nat) (5 : Int) <
                                  BitVec.ofInt (64 : Nat) (if (0 : Int) > r then (0 : Int) else r) then
                              c / BitVec.ofInt (64 : Nat) (5 : Int)
                            else BitVec.ofInt (64 : Nat) (if (0 : Int) > r then (0 : Int) else r)) ≤
                            BitVec.ofInt (64 : Nat) r) &&
                        true))))))) &&
        true &&
      true,
    Fin.ret (V.bool true), []) := by kernel_rfl
theorem keepsB (a : BitVec 64) (b : BitVec 64) (c : BitVec 64) (r : Int) :
  execF Pr
  (withAsm OG
    [((29 : Nat), true), ((34 : Nat), true), ((39 : Nat), true), ((47 : Nat), true), ((54 : Nat), true),
      ((60 : Nat), false), ((63 : Nat), true), ((68 : Nat), true)])
  noLoops (100 : Nat) Go.Proofs.Try.f15 [V.u64 a, V.u64 b, V.u64 c, V.int IntKind.i64 r] [] =
  some
  (decide
            ((if a - a / BitVec.ofInt (64 : Nat) (64 : Int) < b then a - a / BitVec.ofInt (64 : Nat) (64 : Int)
              else b) ≤
              a) &&
          (decide
              ((if a - a / BitVec.ofInt (64 : Nat) (64 : Int) < b then a - a / BitVec.ofInt (64 : Nat) (64 : Int)
                else b) ≤
                b) &&
            (a - a / BitVec.ofInt (64 : Nat) (64 : Int) == a - a / BitVec.ofInt (64 : Nat) (64 : Int) &&
              (((if a - a / BitVec.ofInt (64 : Nat) (64 : Int) < b then a - a / BitVec.ofInt (64 : Nat) (64 : Int)
                  else b) ==
                  if b < a - a / BitVec.ofInt (64 : Nat) (64 : Int) then b
                  else a - a / BitVec.ofInt (64 : Nat) (64 : Int)) &&
                (decide
                    ((if
                          c / BitVec.ofInt (64 : Nat) (5 : Int) <
                            BitVec.ofInt (64 : Nat) (if (0 : Int) > r then (0 : Int) else r) then
                        c / BitVec.ofInt (64 : Nat) (5 : Int)
                      else BitVec.ofInt (64 : Nat) (if (0 : Int) > r then (0 : Int) else r)) ≤
                      c / BitVec.ofInt (64 : Nat) (5 : Int)) &&
                  (!decide (r > (0 : Int)) &&
                    ((if
                            c / BitVec.ofInt (64 : Nat) (5 : Int) <
                              BitVec.ofInt (64 : Nat) (if (0 : Int) > r then (0 : Int) else r) then
                          c / BitVec.ofInt (64 : Nat) (5 : Int)
                        else BitVec.ofInt (64 : Nat) (if (0 : Int) > r then (0 : Int) else r)) ==
                        BitVec.ofInt (64 : Nat) (0 : Int) &&
                      (decide (r ≤ (0 : Int)) && true))))))) &&
        true &&
      true,
    Fin.ret (V.bool true), []) := by kernel_rfl
theorem wordsA (a : BitVec 64) (b : BitVec 64) :
  execF Pr
  (withAsm OG
    [((26 : Nat), true), ((31 : Nat), true), ((49 : Nat), false), ((53 : Nat), true), ((61 : Nat), true),
      ((68 : Nat), true), ((75 : Nat), true), ((82 : Nat), true), ((89 : Nat), true), ((97 : Nat), true)])
  noLoops (100 : Nat) Go.Proofs.Try.f17 [V.u64 a, V.u64 b] [] =
  some
  (decide
            (((if BitVec.ofInt (64 : Nat) (4294967296 : Int) < if b < a then b else a then
                    BitVec.ofInt (64 : Nat) (4294967296 : Int)
                  else if b < a then b else a) +
                  BitVec.ofInt (64 : Nat) (31 : Int)) /
                BitVec.ofInt (64 : Nat) (32 : Int) ≤
              ((if BitVec.ofInt (64 : Nat) (4294967296 : Int) < if a < b then b else a then
                    BitVec.ofInt (64 : Nat) (4294967296 : Int)
                  else if a < b then b else a) +
                  BitVec.ofInt (64 : Nat) (31 : Int)) /
                BitVec.ofInt (64 : Nat) (32 : Int)) &&
          (decide (BitVec.ofInt (64 : Nat) (4294967296 : Int) < if b < a then b else a) &&
            (!decide ((if a < b then b else a) ≤ BitVec.ofInt (64 : Nat) (4294967296 : Int)) &&
              (((if BitVec.ofInt (64 : Nat) (4294967296 : Int) < if a < b then b else a then
                        BitVec.ofInt (64 : Nat) (4294967296 : Int)
                      else if a < b then b else a) +
                      BitVec.ofInt (64 : Nat) (31 : Int)) /
                    BitVec.ofInt (64 : Nat) (32 : Int) ==
                  BitVec.ofInt (64 : Nat) (4294967296 : Int) / BitVec.ofInt (64 : Nat) (32 : Int) &&
                (BitVec.ofInt (64 : Nat) (3 : Int) *
                      (((if BitVec.ofInt (64 : Nat) (4294967296 : Int) < if b < a then b else a then
                            BitVec.ofInt (64 : Nat) (4294967296 : Int)
                          else if b < a then b else a) +
                          BitVec.ofInt (64 : Nat) (31 : Int)) /
                        BitVec.ofInt (64 : Nat) (32 : Int)) ==
                    BitVec.ofInt (64 : Nat) (3 : Int) *
                      (((if BitVec.ofInt (64 : Nat) (4294967296 : Int) < if b < a then b else a then
                            BitVec.ofInt (64 : Nat) (4294967296 : Int)
                          else if b < a then b else a) +
                          BitVec.ofInt (64 : Nat) (31 : Int)) /
                        BitVec.ofInt (64 : Nat) (32 : Int)) &&
                  (BitVec.ofInt (64 : Nat) (6 : Int) *
                        (((if BitVec.ofInt (64 : Nat) (4294967296 : Int) < if b < a then b else a then
                              BitVec.ofInt (64 : Nat) (4294967296 : Int)
                            else if b < a then b else a) +
                            BitVec.ofInt (64 : Nat) (31 : Int)) /
                          BitVec.ofInt (64 : Nat) (32 : Int)) ==
                      BitVec.ofInt (64 : Nat) (6 : Int) *
                        (((if BitVec.ofInt (64 : Nat) (4294967296 : Int) < if b < a then b else a then
                              BitVec.ofInt (64 : Nat) (4294967296 : Int)
                            else if b < a then b else a) +
                            BitVec.ofInt (64 : Nat) (31 : Int)) /
                          BitVec.ofInt (64 : Nat) (32 : Int)) &&
                    (BitVec.ofInt (64 : Nat) (2 : Int) *
                          (((if BitVec.ofInt (64 : Nat) (4294967296 : Int) < if b < a then b else a then
                                BitVec.ofInt (64 : Nat) (4294967296 : Int)
                              else if b < a then b else a) +
                              BitVec.ofInt (64 : Nat) (31 : Int)) /
                            BitVec.ofInt (64 : Nat) (32 : Int)) ==
                        BitVec.ofInt (64 : Nat) (2 : Int) *
                          (((if BitVec.ofInt (64 : Nat) (4294967296 : Int) < if b < a then b else a then
                                BitVec.ofInt (64 : Nat) (4294967296 : Int)
                              else if b < a then b else a) +
                              BitVec.ofInt (64 : Nat) (31 : Int)) /
                            BitVec.ofInt (64 : Nat) (32 : Int)) &&
                      (decide
                          ((BitVec.ofInt (64 : Nat) (200 : Int) *
                              if BitVec.ofInt (64 : Nat) (4294967296 : Int) < if a < b then b else a then
                                BitVec.ofInt (64 : Nat) (4294967296 : Int)
                              else if a < b then b else a) ≤
                            BitVec.ofInt (64 : Nat) (200 : Int) * BitVec.ofInt (64 : Nat) (4294967296 : Int)) &&
                        (((BitVec.ofInt (64 : Nat) (8 : Int) *
                              if BitVec.ofInt (64 : Nat) (4294967296 : Int) < if b < a then b else a then
                                BitVec.ofInt (64 : Nat) (4294967296 : Int)
                              else if b < a then b else a) ==
                            BitVec.ofInt (64 : Nat) (8 : Int) *
                              if BitVec.ofInt (64 : Nat) (4294967296 : Int) < if b < a then b else a then
                                BitVec.ofInt (64 : Nat) (4294967296 : Int)
                              else if b < a then b else a) &&
                          true)))))))) &&
        true &&
      true,
    Fin.ret (V.bool true), []) := by kernel_rfl
theorem wordsB (a : BitVec 64) (b : BitVec 64) :
  execF Pr
  (withAsm OG
    [((26 : Nat), true), ((31 : Nat), false), ((36 : Nat), true), ((41 : Nat), true), ((49 : Nat), false),
      ((53 : Nat), true), ((61 : Nat), true), ((68 : Nat), true), ((75 : Nat), true), ((82 : Nat), true),
      ((89 : Nat), true), ((97 : Nat), true)])
  noLoops (100 : Nat) Go.Proofs.Try.f17 [V.u64 a, V.u64 b] [] =
  some
  (decide
            (((if BitVec.ofInt (64 : Nat) (4294967296 : Int) < if b < a then b else a then
                    BitVec.ofInt (64 : Nat) (4294967296 : Int)
                  else if b < a then b else a) +
                  BitVec.ofInt (64 : Nat) (31 : Int)) /
                BitVec.ofInt (64 : Nat) (32 : Int) ≤
              ((if BitVec.ofInt (64 : Nat) (4294967296 : Int) < if a < b then b else a then
                    BitVec.ofInt (64 : Nat) (4294967296 : Int)
                  else if a < b then b else a) +
                  BitVec.ofInt (64 : Nat) (31 : Int)) /
                BitVec.ofInt (64 : Nat) (32 : Int)) &&
          (!decide (BitVec.ofInt (64 : Nat) (4294967296 : Int) < if b < a then b else a) &&
            (decide
                ((if b < a then b else a) ≤
                  ((if BitVec.ofInt (64 : Nat) (4294967296 : Int) < if b < a then b else a then
                          BitVec.ofInt (64 : Nat) (4294967296 : Int)
                        else if b < a then b else a) +
                        BitVec.ofInt (64 : Nat) (31 : Int)) /
                      BitVec.ofInt (64 : Nat) (32 : Int) *
                    BitVec.ofInt (64 : Nat) (32 : Int)) &&
              (decide
                  (((if BitVec.ofInt (64 : Nat) (4294967296 : Int) < if b < a then b else a then
                            BitVec.ofInt (64 : Nat) (4294967296 : Int)
                          else if b < a then b else a) +
                          BitVec.ofInt (64 : Nat) (31 : Int)) /
                        BitVec.ofInt (64 : Nat) (32 : Int) *
                      BitVec.ofInt (64 : Nat) (32 : Int) <
                    (if b < a then b else a) + BitVec.ofInt (64 : Nat) (32 : Int)) &&
                (!decide ((if a < b then b else a) ≤ BitVec.ofInt (64 : Nat) (4294967296 : Int)) &&
                  (((if BitVec.ofInt (64 : Nat) (4294967296 : Int) < if a < b then b else a then
                            BitVec.ofInt (64 : Nat) (4294967296 : Int)
                          else if a < b then b else a) +
                          BitVec.ofInt (64 : Nat) (31 : Int)) /
                        BitVec.ofInt (64 : Nat) (32 : Int) ==
                      BitVec.ofInt (64 : Nat) (4294967296 : Int) / BitVec.ofInt (64 : Nat) (32 : Int) &&
                    (BitVec.ofInt (64 : Nat) (3 : Int) *
                          (((if BitVec.ofInt (64 : Nat) (4294967296 : Int) < if b < a then b else a then
                                BitVec.ofInt (64 : Nat) (4294967296 : Int)
                              else if b < a then b else a) +
                              BitVec.ofInt (64 : Nat) (31 : Int)) /
                            BitVec.ofInt (64 : Nat) (32 : Int)) ==
                        BitVec.ofInt (64 : Nat) (3 : Int) *
                          (((if BitVec.ofInt (64 : Nat) (4294967296 : Int) < if b < a then b else a then
                                BitVec.ofInt (64 : Nat) (4294967296 : Int)
                              else if b < a then b else a) +
                              BitVec.ofInt (64 : Nat) (31 : Int)) /
                            BitVec.ofInt (64 : Nat) (32 : Int)) &&
                      (BitVec.ofInt (64 : Nat) (6 : Int) *
                            (((if BitVec.ofInt (64 : Nat) (4294967296 : Int) < if b < a then b else a then
                                  BitVec.ofInt (64 : Nat) (4294967296 : Int)
                                else if b < a then b else a) +
                                BitVec.ofInt (64 : Nat) (31 : Int)) /
                              BitVec.ofInt (64 : Nat) (32 : Int)) ==
                          BitVec.ofInt (64 : Nat) (6 : Int) *
                            (((if BitVec.ofInt (64 : Nat) (4294967296 : Int) < if b < a then b else a then
                                  BitVec.ofInt (64 : Nat) (4294967296 : Int)
                                else if b < a then b else a) +
                                BitVec.ofInt (64 : Nat) (31 : Int)) /
                              BitVec.ofInt (64 : Nat) (32 : Int)) &&
                        (BitVec.ofInt (64 : Nat) (2 : Int) *
                              (((if BitVec.ofInt (64 : Nat) (4294967296 : Int) < if b < a then b else a then
                                    BitVec.ofInt (64 : Nat) (4294967296 : Int)
                                  else if b < a then b else a) +
                                  BitVec.ofInt (64 : Nat) (31 : Int)) /
                                BitVec.ofInt (64 : Nat) (32 : Int)) ==
                            BitVec.ofInt (64 : Nat) (2 : Int) *
                              (((if BitVec.ofInt (64 : Nat) (4294967296 : Int) < if b < a then b else a then
                                    BitVec.ofInt (64 : Nat) (4294967296 : Int)
                                  else if b < a then b else a) +
                                  BitVec.ofInt (64 : Nat) (31 : Int)) /
                                BitVec.ofInt (64 : Nat) (32 : Int)) &&
                          (decide
                              ((BitVec.ofInt (64 : Nat) (200 : Int) *
                                  if BitVec.ofInt (64 : Nat) (4294967296 : Int) < if a < b then b else a then
                                    BitVec.ofInt (64 : Nat) (4294967296 : Int)
                                  else if a < b then b else a) ≤
                                BitVec.ofInt (64 : Nat) (200 : Int) * BitVec.ofInt (64 : Nat) (4294967296 : Int)) &&
                            (((BitVec.ofInt (64 : Nat) (8 : Int) *
                                  if BitVec.ofInt (64 : Nat) (4294967296 : Int) < if b < a then b else a then
                                    BitVec.ofInt (64 : Nat) (4294967296 : Int)
                                  else if b < a then b else a) ==
                                BitVec.ofInt (64 : Nat) (8 : Int) *
                                  if BitVec.ofInt (64 : Nat) (4294967296 : Int) < if b < a then b else a then
                                    BitVec.ofInt (64 : Nat) (4294967296 : Int)
                                  else if b < a then b else a) &&
                              true)))))))))) &&
        true &&
      true,
    Fin.ret (V.bool true), []) := by kernel_rfl
theorem wordsC (a : BitVec 64) (b : BitVec 64) :
  execF Pr
  (withAsm OG
    [((26 : Nat), true), ((31 : Nat), false), ((36 : Nat), true), ((41 : Nat), true), ((49 : Nat), true),
      ((61 : Nat), true), ((68 : Nat), true), ((75 : Nat), true), ((82 : Nat), true), ((89 : Nat), true),
      ((97 : Nat), true)])
  noLoops (100 : Nat) Go.Proofs.Try.f17 [V.u64 a, V.u64 b] [] =
  some
  (decide
            (((if BitVec.ofInt (64 : Nat) (4294967296 : Int) < if b < a then b else a then
                    BitVec.ofInt (64 : Nat) (4294967296 : Int)
                  else if b < a then b else a) +
                  BitVec.ofInt (64 : Nat) (31 : Int)) /
                BitVec.ofInt (64 : Nat) (32 : Int) ≤
              ((if BitVec.ofInt (64 : Nat) (4294967296 : Int) < if a < b then b else a then
                    BitVec.ofInt (64 : Nat) (4294967296 : Int)
                  else if a < b then b else a) +
                  BitVec.ofInt (64 : Nat) (31 : Int)) /
                BitVec.ofInt (64 : Nat) (32 : Int)) &&
          (!decide (BitVec.ofInt (64 : Nat) (4294967296 : Int) < if b < a then b else a) &&
            (decide
                ((if b < a then b else a) ≤
                  ((if BitVec.ofInt (64 : Nat) (4294967296 : Int) < if b < a then b else a then
                          BitVec.ofInt (64 : Nat) (4294967296 : Int)
                        else if b < a then b else a) +
                        BitVec.ofInt (64 : Nat) (31 : Int)) /
                      BitVec.ofInt (64 : Nat) (32 : Int) *
                    BitVec.ofInt (64 : Nat) (32 : Int)) &&
              (decide
                  (((if BitVec.ofInt (64 : Nat) (4294967296 : Int) < if b < a then b else a then
                            BitVec.ofInt (64 : Nat) (4294967296 : Int)
                          else if b < a then b else a) +
                          BitVec.ofInt (64 : Nat) (31 : Int)) /
                        BitVec.ofInt (64 : Nat) (32 : Int) *
                      BitVec.ofInt (64 : Nat) (32 : Int) <
                    (if b < a then b else a) + BitVec.ofInt (64 : Nat) (32 : Int)) &&
                (decide ((if a < b then b else a) ≤ BitVec.ofInt (64 : Nat) (4294967296 : Int)) &&
                  (BitVec.ofInt (64 : Nat) (3 : Int) *
                        (((if BitVec.ofInt (64 : Nat) (4294967296 : Int) < if b < a then b else a then
                              BitVec.ofInt (64 : Nat) (4294967296 : Int)
                            else if b < a then b else a) +
                            BitVec.ofInt (64 : Nat) (31 : Int)) /
                          BitVec.ofInt (64 : Nat) (32 : Int)) ==
                      BitVec.ofInt (64 : Nat) (3 : Int) *
                        (((if BitVec.ofInt (64 : Nat) (4294967296 : Int) < if b < a then b else a then
                              BitVec.ofInt (64 : Nat) (4294967296 : Int)
                            else if b < a then b else a) +
                            BitVec.ofInt (64 : Nat) (31 : Int)) /
                          BitVec.ofInt (64 : Nat) (32 : Int)) &&
                    (BitVec.ofInt (64 : Nat) (6 : Int) *
                          (((if BitVec.ofInt (64 : Nat) (4294967296 : Int) < if b < a then b else a then
                                BitVec.ofInt (64 : Nat) (4294967296 : Int)
                              else if b < a then b else a) +
                              BitVec.ofInt (64 : Nat) (31 : Int)) /
                            BitVec.ofInt (64 : Nat) (32 : Int)) ==
                        BitVec.ofInt (64 : Nat) (6 : Int) *
                          (((if BitVec.ofInt (64 : Nat) (4294967296 : Int) < if b < a then b else a then
                                BitVec.ofInt (64 : Nat) (4294967296 : Int)
                              else if b < a then b else a) +
                              BitVec.ofInt (64 : Nat) (31 : Int)) /
                            BitVec.ofInt (64 : Nat) (32 : Int)) &&
                      (BitVec.ofInt (64 : Nat) (2 : Int) *
                            (((if BitVec.ofInt (64 : Nat) (4294967296 : Int) < if b < a then b else a then
                                  BitVec.ofInt (64 : Nat) (4294967296 : Int)
                                else if b < a then b else a) +
                                BitVec.ofInt (64 : Nat) (31 : Int)) /
                              BitVec.ofInt (64 : Nat) (32 : Int)) ==
                          BitVec.ofInt (64 : Nat) (2 : Int) *
                            (((if BitVec.ofInt (64 : Nat) (4294967296 : Int) < if b < a then b else a then
                                  BitVec.ofInt (64 : Nat) (4294967296 : Int)
                                else if b < a then b else a) +
                                BitVec.ofInt (64 : Nat) (31 : Int)) /
                              BitVec.ofInt (64 : Nat) (32 : Int)) &&
                        (decide
                            ((BitVec.ofInt (64 : Nat) (200 : Int) *
                                if BitVec.ofInt (64 : Nat) (4294967296 : Int) < if a < b then b else a then
                                  BitVec.ofInt (64 : Nat) (4294967296 : Int)
                                else if a < b then b else a) ≤
                              BitVec.ofInt (64 : Nat) (200 : Int) * BitVec.ofInt (64 : Nat) (4294967296 : Int)) &&
                          (((BitVec.ofInt (64 : Nat) (8 : Int) *
                                if BitVec.ofInt (64 : Nat) (4294967296 : Int) < if b < a then b else a then
                                  BitVec.ofInt (64 : Nat) (4294967296 : Int)
                                else if b < a then b else a) ==
                              BitVec.ofInt (64 : Nat) (8 : Int) *
                                if BitVec.ofInt (64 : Nat) (4294967296 : Int) < if b < a then b else a then
                                  BitVec.ofInt (64 : Nat) (4294967296 : Int)
                                else if b < a then b else a) &&
                            true))))))))) &&
        true &&
      true,
    Fin.ret (V.bool true), []) := by kernel_rfl
theorem toNat_ite {n : Nat} (p : Prop) [Decidable p] (x y : BitVec n) : (if p then x else y).toNat = if p then x.toNat else y.toNat := by split <;> rfl
theorem left_toNat (a : BitVec 64) : (a - a / 64#64).toNat = a.toNat - a.toNat / 64 := by
  have ha := a.isLt
  have hq := Nat.div_le_self a.toNat 64
  rw [BitVec.toNat_sub, BitVec.toNat_udiv, show (64#64 : BitVec 64).toNat = 64 from rfl]
  generalize a.toNat / 64 = q at *
  omega
theorem keeps_a (a b c : BitVec 64) (r : Int) (h : 0 < r) (h2 : r < 9223372036854775808) : execF Pr (withAsm OG [(29,true),(34,true),(39,true),(47,true),(54,true),(60,true),(68,false),(71,true)]) noLoops 100 Go.Proofs.Try.f15 [.u64 a, .u64 b, .u64 c, .int .i64 r] [] = some (true, .ret (.bool true), []) := by
  rw [keepsA]
  have e : (BitVec.ofInt 64 r).toNat = r.toNat := by rw [BitVec.toNat_ofInt]; congr 1; omega
  have hg : ¬ (0 : Int) > r := by omega
  have := a.isLt; have := b.isLt; have := c.isLt
  refine stF ?_ rfl rfl
  simp only [hg, if_false, Bool.and_eq_true, Bool.and_true, decide_eq_true_eq, beq_self_eq_true, Bool.not_eq_true', decide_eq_false_iff_not, beq_iff_eq, ← BitVec.toNat_inj, BitVec.le_def, BitVec.lt_def, toNat_ite, left_toNat, BitVec.toNat_udiv, BitVec.ofInt_ofNat, BitVec.toNat_ofNat, Nat.reduceMod, Nat.reducePow, Nat.reduceMul, e]
  (repeat' apply And.intro) <;> first | omega | assumption | exact True.intro | (split <;> omega) | (split <;> split <;> omega)
theorem keeps_b (a b c : BitVec 64) (r : Int) (h : r ≤ 0) : execF Pr (withAsm OG [(29,true),(34,true),(39,true),(47,true),(54,true),(60,false),(63,true),(68,true)]) noLoops 100 Go.Proofs.Try.f15 [.u64 a, .u64 b, .u64 c, .int .i64 r] [] = some (true, .ret (.bool true), []) := by
  rw [keepsB]
  have e : (if (0 : Int) > r then (0 : Int) else r) = 0 := by split <;> omega
  have e0 : (BitVec.ofInt 64 0).toNat = 0 := rfl
  have := a.isLt; have := b.isLt; have := c.isLt
  rw [e]
  refine stF ?_ rfl rfl
  simp only [Bool.and_eq_true, Bool.and_true, decide_eq_true_eq, beq_self_eq_true, Bool.not_eq_true', decide_eq_false_iff_not, beq_iff_eq, ← BitVec.toNat_inj, BitVec.le_def, BitVec.lt_def, toNat_ite, left_toNat, BitVec.toNat_udiv, e0, BitVec.ofInt_ofNat, BitVec.toNat_ofNat, Nat.reduceMod, Nat.reducePow, Nat.reduceMul]
  (repeat' apply And.intro) <;> first | omega | assumption | exact True.intro | (split <;> omega) | (split <;> split <;> omega)
theorem keeps_fn (a b c : BitVec 64) (r : Int) (h : r < 9223372036854775808) : LFn Pr 15 [.u64 a, .u64 b, .u64 c, .int .i64 r] [] (.ret (.bool true)) [] := by
  by_cases h0 : 0 < r
  · exact execF_sound (fn := Go.Proofs.Try.f15) (withAsm_sound OG_sound) mixed (by kernel_rfl) (fun _ _ _ _ => LoopOk.none) (keeps_a a b c r h0 h)
  · exact execF_sound (fn := Go.Proofs.Try.f15) (withAsm_sound OG_sound) mixed (by kernel_rfl) (fun _ _ _ _ => LoopOk.none) (keeps_b a b c r (by omega))
theorem words_fn (a b : BitVec 64) : LFn Pr 17 [.u64 a, .u64 b] [] (.ret (.bool true)) [] := by
  have ha := a.isLt; have hb := b.isLt
  obtain ⟨x, hx, hx'⟩ : ∃ x : BitVec 64, (if b < a then b else a) = x ∧ x.toNat = min a.toNat b.toNat := ⟨_, rfl, by rw [toNat_ite]; simp only [BitVec.lt_def]; split <;> omega⟩
  obtain ⟨y, hy, hy'⟩ : ∃ y : BitVec 64, (if a < b then b else a) = y ∧ y.toNat = max a.toNat b.toNat := ⟨_, rfl, by rw [toNat_ite]; simp only [BitVec.lt_def]; split <;> omega⟩
  have e32 : (BitVec.ofInt 64 4294967296).toNat = 4294967296 := rfl
  obtain ⟨cx, hcx, hcx'⟩ : ∃ c : BitVec 64, (if BitVec.ofInt 64 4294967296 < x then BitVec.ofInt 64 4294967296 else x) = c ∧ c.toNat = min x.toNat 4294967296 := ⟨_, rfl, by rw [toNat_ite]; simp only [BitVec.lt_def, e32]; split <;> omega⟩
  obtain ⟨cy, hcy, hcy'⟩ : ∃ c : BitVec 64, (if BitVec.ofInt 64 4294967296 < y then BitVec.ofInt 64 4294967296 else y) = c ∧ c.toNat = min y.toNat 4294967296 := ⟨_, rfl, by rw [toNat_ite]; simp only [BitVec.lt_def, e32]; split <;> omega⟩
  have w : ∀ c : BitVec 64, c.toNat ≤ 4294967296 → ((c + 31#64) / 32#64).toNat = (c.toNat + 31) / 32 := by
    intro c hc
    rw [BitVec.toNat_udiv, BitVec.toNat_add]
    simp only [BitVec.toNat_ofNat, Nat.reduceMod, Nat.reducePow]
    rw [Nat.mod_eq_of_lt (by omega)]
  have wx := w cx (by omega)
  have wy := w cy (by omega)
  have lc : cy.toNat ≤ 4294967296 := by omega
  have m1 : 200 * cy.toNat % 18446744073709551616 ≤ 858993459200 := by rw [Nat.mod_eq_of_lt (by omega)]; omega
  by_cases h1 : 4294967296 < min a.toNat b.toNat
  · refine execF_sound (fn := Go.Proofs.Try.f17) (withAsm_sound OG_sound) mixed (by kernel_rfl) (fun _ _ _ _ => LoopOk.none) ((wordsA a b).trans ?_)
    refine stF ?_ rfl rfl
    simp only [hx, hy, hcx, hcy]
    simp only [wx, wy, Bool.and_eq_true, Bool.and_true, decide_eq_true_eq, beq_self_eq_true, Bool.not_eq_true', decide_eq_false_iff_not, beq_iff_eq, ← BitVec.toNat_inj, BitVec.le_def, BitVec.lt_def, toNat_ite, BitVec.toNat_add, BitVec.toNat_mul, BitVec.toNat_sub, BitVec.toNat_udiv, BitVec.ofInt_ofNat, BitVec.toNat_ofNat, Nat.reduceMod, Nat.reducePow, Nat.reduceMul, hx', hy']
    (repeat' apply And.intro) <;> first | omega | assumption | exact True.intro | (split <;> omega) | (split <;> split <;> omega)
  · by_cases h2 : max a.toNat b.toNat ≤ 4294967296
    · refine execF_sound (fn := Go.Proofs.Try.f17) (withAsm_sound OG_sound) mixed (by kernel_rfl) (fun _ _ _ _ => LoopOk.none) ((wordsC a b).trans ?_)
      refine stF ?_ rfl rfl
      simp only [hx, hy, hcx, hcy]
      simp only [wx, wy, Bool.and_eq_true, Bool.and_true, decide_eq_true_eq, beq_self_eq_true, Bool.not_eq_true', decide_eq_false_iff_not, beq_iff_eq, ← BitVec.toNat_inj, BitVec.le_def, BitVec.lt_def, toNat_ite, BitVec.toNat_add, BitVec.toNat_mul, BitVec.toNat_sub, BitVec.toNat_udiv, BitVec.ofInt_ofNat, BitVec.toNat_ofNat, Nat.reduceMod, Nat.reducePow, Nat.reduceMul, hx', hy']
      (repeat' apply And.intro) <;> first | omega | assumption | exact True.intro | (split <;> omega) | (split <;> split <;> omega)
    · refine execF_sound (fn := Go.Proofs.Try.f17) (withAsm_sound OG_sound) mixed (by kernel_rfl) (fun _ _ _ _ => LoopOk.none) ((wordsB a b).trans ?_)
      refine stF ?_ rfl rfl
      simp only [hx, hy, hcx, hcy]
      simp only [wx, wy, Bool.and_eq_true, Bool.and_true, decide_eq_true_eq, beq_self_eq_true, Bool.not_eq_true', decide_eq_false_iff_not, beq_iff_eq, ← BitVec.toNat_inj, BitVec.le_def, BitVec.lt_def, toNat_ite, BitVec.toNat_add, BitVec.toNat_mul, BitVec.toNat_sub, BitVec.toNat_udiv, BitVec.ofInt_ofNat, BitVec.toNat_ofNat, Nat.reduceMod, Nat.reducePow, Nat.reduceMul, hx', hy']
      (repeat' apply And.intro) <;> first | omega | assumption | exact True.intro | (split <;> omega) | (split <;> split <;> omega)
end
end Go.Proofs.Ytajbaocfdlopbaa.K
end
section
open Go Go.Lh
namespace Go.Proofs.Ytajbaocfdlopbaa.K
noncomputable section
set_option maxRecDepth 100000
def sm4 (b0 b1 b2 b3 : Bool) : Int := (if b0 then -4800 else 0) + (if b1 then 4800 else 0) + (if b2 then 19900 else 0) + (if b3 then 2800 else 0)
theorem sum4_x (b0 b1 b2 b3 : Bool) (cp : Option Nat) : execF Pr noOrc noLoops 100 Go.Proofs.Try.f87 [.sl 0 0 2 4 cp] [.vals [.bool b0, .int .i64 (-4800), .bool b1, .int .i64 4800, .bool b2, .int .i64 19900, .bool b3, .int .i64 2800]] =
    some (true, .ret (.int .i64 (sm4 b0 b1 b2 b3)), [.vals [.bool b0, .int .i64 (-4800), .bool b1, .int .i64 4800, .bool b2, .int .i64 19900, .bool b3, .int .i64 2800]]) := by
  cases b0 <;> cases b1 <;> cases b2 <;> cases b3 <;> kernel_rfl
theorem sum1_x (b : Bool) (cp : Option Nat) : execF Pr noOrc noLoops 100 Go.Proofs.Try.f87 [.sl 0 0 2 1 cp] [.vals [.bool b, .int .i64 4800]] = some (true, .ret (.int .i64 (if b then 4800 else 0)), [.vals [.bool b, .int .i64 4800]]) := by
  cases b <;> kernel_rfl
structure S4 where
  b0 : Bool
  b1 : Bool
  b2 : Bool
  b3 : Bool
  r0 : Int
  r1 : Int
  r2 : Int
  r3 : Int
  cp : Option Nat
def sum4_g := ct (fun (args : List V) (h : Heap) => match args, h with
  | [.sl 0 0 2 4 cp], [.vals [.bool b0, .int .i64 r0, .bool b1, .int .i64 r1, .bool b2, .int .i64 r2, .bool b3, .int .i64 r3]] => some (S4.mk b0 b1 b2 b3 r0 r1 r2 r3 cp)
  | _, _ => none) (fun a => decide (a.r0 = -4800) && decide (a.r1 = 4800) && decide (a.r2 = 19900) && decide (a.r3 = 2800)) (fun a => .ret (.int .i64 (sm4 a.b0 a.b1 a.b2 a.b3)))
  (fun a => [.vals [.bool a.b0, .int .i64 a.r0, .bool a.b1, .int .i64 a.r1, .bool a.b2, .int .i64 a.r2, .bool a.b3, .int .i64 a.r3]])
theorem sum4_ok : ∀ args h fin h', sum4_g args h = some (true, fin, h') → LFn Pr 87 args h fin h' := by
  refine ct_ok (fun a => [.sl 0 0 2 4 a.cp]) (fun a => [.vals [.bool a.b0, .int .i64 a.r0, .bool a.b1, .int .i64 a.r1, .bool a.b2, .int .i64 a.r2, .bool a.b3, .int .i64 a.r3]]) ?_ ?_
  · intro args h a e
    split at e <;> cases e
    exact ⟨rfl, rfl⟩
  · rintro ⟨b0, b1, b2, b3, r0, r1, r2, r3, cp⟩ hok
    simp only [Bool.and_eq_true, decide_eq_true_eq] at hok
    obtain ⟨⟨⟨rfl, rfl⟩, rfl⟩, rfl⟩ := hok
    exact execF_sound (fn := Go.Proofs.Try.f87) (noOrc_sound _) mixed (by kernel_rfl) (fun _ _ _ _ => LoopOk.none) (sum4_x b0 b1 b2 b3 cp)
structure S1 where
  b : Bool
  r : Int
  cp : Option Nat
def sum1_g := ct (fun (args : List V) (h : Heap) => match args, h with
  | [.sl 0 0 2 1 cp], [.vals [.bool b, .int .i64 r]] => some (S1.mk b r cp)
  | _, _ => none) (fun a => decide (a.r = 4800)) (fun a => .ret (.int .i64 (if a.b then 4800 else 0))) (fun a => [.vals [.bool a.b, .int .i64 a.r]])
theorem sum1_ok : ∀ args h fin h', sum1_g args h = some (true, fin, h') → LFn Pr 87 args h fin h' := by
  refine ct_ok (fun a => [.sl 0 0 2 1 a.cp]) (fun a => [.vals [.bool a.b, .int .i64 a.r]]) ?_ ?_
  · intro args h a e
    split at e <;> cases e
    exact ⟨rfl, rfl⟩
  · rintro ⟨b, r, cp⟩ hok
    have : r = 4800 := of_decide_eq_true hok
    subst this
    exact execF_sound (fn := Go.Proofs.Try.f87) (noOrc_sound _) mixed (by kernel_rfl) (fun _ _ _ _ => LoopOk.none) (sum1_x b cp)
theorem sum_en : Enters Pr 87 := Enters.of (fn := Go.Proofs.Try.f87) (by kernel_rfl) (by kernel_rfl)
def OS4 : Orc := auto Pr ext [(87, sum4_g)] [86] 3
theorem OS4_sound : OrcSound Pr OS4 := auto_sound mixed ext_ok (KOk.cons sum_en sum4_ok KOk.nil) (by kernel_rfl) 3
def OS1 : Orc := auto Pr ext [(87, sum1_g)] [86] 3
theorem OS1_sound : OrcSound Pr OS1 := auto_sound mixed ext_ok (KOk.cons sum_en sum1_ok KOk.nil) (by kernel_rfl) 3
def eqB (x y : W4) : Bool := x.a == y.a && (x.b == y.b && (x.c == y.c && (x.d == y.d && true)))
def eqZ (x : W4) : Bool := x.a == BitVec.ofInt 64 0 && (x.b == BitVec.ofInt 64 0 && (x.c == BitVec.ofInt 64 0 && (x.d == BitVec.ofInt 64 0 && true)))
theorem eqB_iff (x y : W4) : eqB x y = decide (x = y) := by
  unfold eqB; rw [Bool.eq_iff_iff]; cases x; cases y; simp
theorem eqZ_iff (x : W4) : eqZ x = decide (x = W4.zero) := by
  rw [← eqB_iff]; rfl
theorem st1t (o : W4) (c : W4) (v : W4) :
  execFD Pr OS1 noLoops [((16 : Nat), true)] (100 : Nat) Go.Proofs.Try.f43 [o.v, c.v, v.v, V.bool true] [] =
  some
  (eqB v c && true && true,
    Fin.ret
      (V.tup
        [V.u64 (BitVec.ofInt (64 : Nat) (2100 : Int) + BitVec.ofInt (64 : Nat) (100 : Int)),
          V.int IntKind.i64 (0 : Int)]),
    []) := by kernel_rfl
theorem st1f (o : W4) (c : W4) (v : W4) :
  execFD Pr OS1 noLoops [((16 : Nat), true)] (100 : Nat) Go.Proofs.Try.f43 [o.v, c.v, v.v, V.bool false] [] =
  some
  (eqB v c && true && true,
    Fin.ret
      (V.tup
        [V.u64 (BitVec.ofInt (64 : Nat) (0 : Int) + BitVec.ofInt (64 : Nat) (100 : Int)), V.int IntKind.i64 (0 : Int)]),
    []) := by kernel_rfl
theorem st2t (o : W4) (c : W4) (v : W4) :
  execFD Pr (withAsm OS1 [((11 : Nat), true)]) noLoops [((16 : Nat), false), ((22 : Nat), true)] (100 : Nat)
  Go.Proofs.Try.f43 [o.v, c.v, v.v, V.bool true] [] =
  some
  (!eqB v c && (eqB c o && true && ((bif true then eqZ o else false) && true)) && true,
    Fin.ret
      (V.tup
        [V.u64 (BitVec.ofInt (64 : Nat) (2100 : Int) + BitVec.ofInt (64 : Nat) (20000 : Int)),
          V.int IntKind.i64 (0 : Int)]),
    []) := by kernel_rfl
theorem st2f (o : W4) (c : W4) (v : W4) :
  execFD Pr (withAsm OS1 [((11 : Nat), true)]) noLoops [((16 : Nat), false), ((22 : Nat), true)] (100 : Nat)
  Go.Proofs.Try.f43 [o.v, c.v, v.v, V.bool false] [] =
  some
  (!eqB v c && (eqB c o && true && ((bif true then eqZ o else false) && true)) && true,
    Fin.ret
      (V.tup
        [V.u64 (BitVec.ofInt (64 : Nat) (0 : Int) + BitVec.ofInt (64 : Nat) (20000 : Int)),
          V.int IntKind.i64 (0 : Int)]),
    []) := by kernel_rfl
theorem st3t (o : W4) (c : W4) (v : W4) :
  execFD Pr (withAsm OS1 [((11 : Nat), true)]) noLoops [((16 : Nat), false), ((22 : Nat), false)] (100 : Nat)
  Go.Proofs.Try.f43 [o.v, c.v, v.v, V.bool true] [] =
  some
  (!eqB v c &&
        (eqB c o && true &&
          ((!bif true then eqZ o else false) &&
            (eqB c o && true &&
              ((fun a ↦ decide (a.r = (4800 : Int))) (S1.mk (eqZ v) (4800 : Int) (some (1 : Nat))) && true &&
                true)))) &&
      true,
    Fin.ret
      (V.tup
        [V.u64 (BitVec.ofInt (64 : Nat) (2100 : Int) + BitVec.ofInt (64 : Nat) (2900 : Int)),
          V.int IntKind.i64
            (if (S1.mk (eqZ v) (4800 : Int) (some (1 : Nat))).b = true then (4800 : Int) else (0 : Int))]),
    []) := by kernel_rfl
theorem st3f (o : W4) (c : W4) (v : W4) :
  execFD Pr (withAsm OS1 [((11 : Nat), true)]) noLoops [((16 : Nat), false), ((22 : Nat), false)] (100 : Nat)
  Go.Proofs.Try.f43 [o.v, c.v, v.v, V.bool false] [] =
  some
  (!eqB v c &&
        (eqB c o && true &&
          ((!bif true then eqZ o else false) &&
            (eqB c o && true &&
              ((fun a ↦ decide (a.r = (4800 : Int))) (S1.mk (eqZ v) (4800 : Int) (some (1 : Nat))) && true &&
                true)))) &&
      true,
    Fin.ret
      (V.tup
        [V.u64 (BitVec.ofInt (64 : Nat) (0 : Int) + BitVec.ofInt (64 : Nat) (2900 : Int)),
          V.int IntKind.i64
            (if (S1.mk (eqZ v) (4800 : Int) (some (1 : Nat))).b = true then (4800 : Int) else (0 : Int))]),
    []) := by kernel_rfl
theorem st4at (o : W4) (c : W4) (v : W4) :
  execFD Pr
  (withAsm OS4 [((11 : Nat), false), ((46 : Nat), false), ((56 : Nat), false), ((71 : Nat), true), ((80 : Nat), true)])
  noLoops [((16 : Nat), false)] (100 : Nat) Go.Proofs.Try.f43 [o.v, c.v, v.v, V.bool true] [] =
  some
  (!eqB v c && (!eqB c o && true && (!eqB c o && true && true)) &&
        (!!eqZ o &&
            (!!eqZ o &&
              (eqB v o &&
                (eqB v o &&
                  ((fun a ↦
                        decide (a.r0 = (-4800 : Int)) && decide (a.r1 = (4800 : Int)) &&
                            decide (a.r2 = (19900 : Int)) &&
                          decide (a.r3 = (2800 : Int)))
                      (S4.mk false false (bif true then eqZ o else false) (bif true then !eqZ o else false)
                        (-4800 : Int) (4800 : Int) (19900 : Int) (2800 : Int) (some (4 : Nat))) &&
                    true)))) &&
          true) &&
      true,
    Fin.ret
      (V.tup
        [V.u64 (BitVec.ofInt (64 : Nat) (2100 : Int) + BitVec.ofInt (64 : Nat) (100 : Int)),
          V.int IntKind.i64
            (sm4
              (S4.mk false false (bif true then eqZ o else false) (bif true then !eqZ o else false) (-4800 : Int)
                  (4800 : Int) (19900 : Int) (2800 : Int) (some (4 : Nat))).b0
              (S4.mk false false (bif true then eqZ o else false) (bif true then !eqZ o else false) (-4800 : Int)
                  (4800 : Int) (19900 : Int) (2800 : Int) (some (4 : Nat))).b1
              (S4.mk false false (bif true then eqZ o else false) (bif true then !eqZ o else false) (-4800 : Int)
                  (4800 : Int) (19900 : Int) (2800 : Int) (some (4 : Nat))).b2
              (S4.mk false false (bif true then eqZ o else false) (bif true then !eqZ o else false) (-4800 : Int)
                  (4800 : Int) (19900 : Int) (2800 : Int) (some (4 : Nat))).b3)]),
    []) := by kernel_rfl
theorem st4af (o : W4) (c : W4) (v : W4) :
  execFD Pr
  (withAsm OS4 [((11 : Nat), false), ((46 : Nat), false), ((56 : Nat), false), ((71 : Nat), true), ((80 : Nat), true)])
  noLoops [((16 : Nat), false)] (100 : Nat) Go.Proofs.Try.f43 [o.v, c.v, v.v, V.bool false] [] =
  some
  (!eqB v c && (!eqB c o && true && (!eqB c o && true && true)) &&
        (!!eqZ o &&
            (!!eqZ o &&
              (eqB v o &&
                (eqB v o &&
                  ((fun a ↦
                        decide (a.r0 = (-4800 : Int)) && decide (a.r1 = (4800 : Int)) &&
                            decide (a.r2 = (19900 : Int)) &&
                          decide (a.r3 = (2800 : Int)))
                      (S4.mk false false (bif true then eqZ o else false) (bif true then !eqZ o else false)
                        (-4800 : Int) (4800 : Int) (19900 : Int) (2800 : Int) (some (4 : Nat))) &&
                    true)))) &&
          true) &&
      true,
    Fin.ret
      (V.tup
        [V.u64 (BitVec.ofInt (64 : Nat) (0 : Int) + BitVec.ofInt (64 : Nat) (100 : Int)),
          V.int IntKind.i64
            (sm4
              (S4.mk false false (bif true then eqZ o else false) (bif true then !eqZ o else false) (-4800 : Int)
                  (4800 : Int) (19900 : Int) (2800 : Int) (some (4 : Nat))).b0
              (S4.mk false false (bif true then eqZ o else false) (bif true then !eqZ o else false) (-4800 : Int)
                  (4800 : Int) (19900 : Int) (2800 : Int) (some (4 : Nat))).b1
              (S4.mk false false (bif true then eqZ o else false) (bif true then !eqZ o else false) (-4800 : Int)
                  (4800 : Int) (19900 : Int) (2800 : Int) (some (4 : Nat))).b2
              (S4.mk false false (bif true then eqZ o else false) (bif true then !eqZ o else false) (-4800 : Int)
                  (4800 : Int) (19900 : Int) (2800 : Int) (some (4 : Nat))).b3)]),
    []) := by kernel_rfl
theorem st4bt (o : W4) (c : W4) (v : W4) :
  execFD Pr
  (withAsm OS4
    [((11 : Nat), false), ((46 : Nat), false), ((56 : Nat), false), ((71 : Nat), false), ((80 : Nat), false)])
  noLoops [((16 : Nat), false)] (100 : Nat) Go.Proofs.Try.f43 [o.v, c.v, v.v, V.bool true] [] =
  some
  (!eqB v c && (!eqB c o && true && (!eqB c o && true && true)) &&
        (!!eqZ o && (!!eqZ o && (!eqB v o && (!eqB v o && true))) && true) &&
      true,
    Fin.ret
      (V.tup
        [V.u64 (BitVec.ofInt (64 : Nat) (2100 : Int) + BitVec.ofInt (64 : Nat) (100 : Int)),
          V.int IntKind.i64 (0 : Int)]),
    []) := by kernel_rfl
theorem st4bf (o : W4) (c : W4) (v : W4) :
  execFD Pr
  (withAsm OS4
    [((11 : Nat), false), ((46 : Nat), false), ((56 : Nat), false), ((71 : Nat), false), ((80 : Nat), false)])
  noLoops [((16 : Nat), false)] (100 : Nat) Go.Proofs.Try.f43 [o.v, c.v, v.v, V.bool false] [] =
  some
  (!eqB v c && (!eqB c o && true && (!eqB c o && true && true)) &&
        (!!eqZ o && (!!eqZ o && (!eqB v o && (!eqB v o && true))) && true) &&
      true,
    Fin.ret
      (V.tup
        [V.u64 (BitVec.ofInt (64 : Nat) (0 : Int) + BitVec.ofInt (64 : Nat) (100 : Int)), V.int IntKind.i64 (0 : Int)]),
    []) := by kernel_rfl
theorem st4ct (o : W4) (c : W4) (v : W4) :
  execFD Pr
  (withAsm OS4
    [((11 : Nat), false), ((46 : Nat), true), ((56 : Nat), true), ((62 : Nat), true), ((71 : Nat), true),
      ((80 : Nat), true)])
  noLoops [((16 : Nat), false)] (100 : Nat) Go.Proofs.Try.f43 [o.v, c.v, v.v, V.bool true] [] =
  some
  (!eqB v c && (!eqB c o && true && (!eqB c o && true && true)) &&
        (!eqZ o &&
            (!eqZ o &&
              ((bif true then !eqZ c else false) &&
                (eqB v o &&
                  (eqB v o &&
                    ((fun a ↦
                          decide (a.r0 = (-4800 : Int)) && decide (a.r1 = (4800 : Int)) &&
                              decide (a.r2 = (19900 : Int)) &&
                            decide (a.r3 = (2800 : Int)))
                        (S4.mk (bif true then eqZ c else false) (bif true then eqZ v else false)
                          (bif true then eqZ o else false) (bif true then !eqZ o else false) (-4800 : Int) (4800 : Int)
                          (19900 : Int) (2800 : Int) (some (4 : Nat))) &&
                      true))))) &&
          true) &&
      true,
    Fin.ret
      (V.tup
        [V.u64 (BitVec.ofInt (64 : Nat) (2100 : Int) + BitVec.ofInt (64 : Nat) (100 : Int)),
          V.int IntKind.i64
            (sm4
              (S4.mk (bif true then eqZ c else false) (bif true then eqZ v else false) (bif true then eqZ o else false)
                  (bif true then !eqZ o else false) (-4800 : Int) (4800 : Int) (19900 : Int) (2800 : Int)
                  (some (4 : Nat))).b0
              (S4.mk (bif true then eqZ c else false) (bif true then eqZ v else false) (bif true then eqZ o else false)
                  (bif true then !eqZ o else false) (-4800 : Int) (4800 : Int) (19900 : Int) (2800 : Int)
                  (some (4 : Nat))).b1
              (S4.mk (bif true then eqZ c else false) (bif true then eqZ v else false) (bif true then eqZ o else false)
                  (bif true then !eqZ o else false) (-4800 : Int) (4800 : Int) (19900 : Int) (2800 : Int)
                  (some (4 : Nat))).b2
              (S4.mk (bif true then eqZ c else false) (bif true then eqZ v else false) (bif true then eqZ o else false)
                  (bif true then !eqZ o else false) (-4800 : Int) (4800 : Int) (19900 : Int) (2800 : Int)
                  (some (4 : Nat))).b3)]),
    []) := by kernel_rfl
theorem st4cf (o : W4) (c : W4) (v : W4) :
  execFD Pr
  (withAsm OS4
    [((11 : Nat), false), ((46 : Nat), true), ((56 : Nat), true), ((62 : Nat), true), ((71 : Nat), true),
      ((80 : Nat), true)])
  noLoops [((16 : Nat), false)] (100 : Nat) Go.Proofs.Try.f43 [o.v, c.v, v.v, V.bool false] [] =
  some
  (!eqB v c && (!eqB c o && true && (!eqB c o && true && true)) &&
        (!eqZ o &&
            (!eqZ o &&
              ((bif true then !eqZ c else false) &&
                (eqB v o &&
                  (eqB v o &&
                    ((fun a ↦
                          decide (a.r0 = (-4800 : Int)) && decide (a.r1 = (4800 : Int)) &&
                              decide (a.r2 = (19900 : Int)) &&
                            decide (a.r3 = (2800 : Int)))
                        (S4.mk (bif true then eqZ c else false) (bif true then eqZ v else false)
                          (bif true then eqZ o else false) (bif true then !eqZ o else false) (-4800 : Int) (4800 : Int)
                          (19900 : Int) (2800 : Int) (some (4 : Nat))) &&
                      true))))) &&
          true) &&
      true,
    Fin.ret
      (V.tup
        [V.u64 (BitVec.ofInt (64 : Nat) (0 : Int) + BitVec.ofInt (64 : Nat) (100 : Int)),
          V.int IntKind.i64
            (sm4
              (S4.mk (bif true then eqZ c else false) (bif true then eqZ v else false) (bif true then eqZ o else false)
                  (bif true then !eqZ o else false) (-4800 : Int) (4800 : Int) (19900 : Int) (2800 : Int)
                  (some (4 : Nat))).b0
              (S4.mk (bif true then eqZ c else false) (bif true then eqZ v else false) (bif true then eqZ o else false)
                  (bif true then !eqZ o else false) (-4800 : Int) (4800 : Int) (19900 : Int) (2800 : Int)
                  (some (4 : Nat))).b1
              (S4.mk (bif true then eqZ c else false) (bif true then eqZ v else false) (bif true then eqZ o else false)
                  (bif true then !eqZ o else false) (-4800 : Int) (4800 : Int) (19900 : Int) (2800 : Int)
                  (some (4 : Nat))).b2
              (S4.mk (bif true then eqZ c else false) (bif true then eqZ v else false) (bif true then eqZ o else false)
                  (bif true then !eqZ o else false) (-4800 : Int) (4800 : Int) (19900 : Int) (2800 : Int)
                  (some (4 : Nat))).b3)]),
    []) := by kernel_rfl
theorem st4dt (o : W4) (c : W4) (v : W4) :
  execFD Pr
  (withAsm OS4
    [((11 : Nat), false), ((46 : Nat), true), ((56 : Nat), true), ((62 : Nat), true), ((71 : Nat), false),
      ((80 : Nat), false)])
  noLoops [((16 : Nat), false)] (100 : Nat) Go.Proofs.Try.f43 [o.v, c.v, v.v, V.bool true] [] =
  some
  (!eqB v c && (!eqB c o && true && (!eqB c o && true && true)) &&
        (!eqZ o &&
            (!eqZ o &&
              ((bif true then !eqZ c else false) &&
                (!eqB v o &&
                  (!eqB v o &&
                    ((fun a ↦
                          decide (a.r0 = (-4800 : Int)) && decide (a.r1 = (4800 : Int)) &&
                              decide (a.r2 = (19900 : Int)) &&
                            decide (a.r3 = (2800 : Int)))
                        (S4.mk (bif true then eqZ c else false) (bif true then eqZ v else false) false false
                          (-4800 : Int) (4800 : Int) (19900 : Int) (2800 : Int) (some (4 : Nat))) &&
                      true))))) &&
          true) &&
      true,
    Fin.ret
      (V.tup
        [V.u64 (BitVec.ofInt (64 : Nat) (2100 : Int) + BitVec.ofInt (64 : Nat) (100 : Int)),
          V.int IntKind.i64
            (sm4
              (S4.mk (bif true then eqZ c else false) (bif true then eqZ v else false) false false (-4800 : Int)
                  (4800 : Int) (19900 : Int) (2800 : Int) (some (4 : Nat))).b0
              (S4.mk (bif true then eqZ c else false) (bif true then eqZ v else false) false false (-4800 : Int)
                  (4800 : Int) (19900 : Int) (2800 : Int) (some (4 : Nat))).b1
              (S4.mk (bif true then eqZ c else false) (bif true then eqZ v else false) false false (-4800 : Int)
                  (4800 : Int) (19900 : Int) (2800 : Int) (some (4 : Nat))).b2
              (S4.mk (bif true then eqZ c else false) (bif true then eqZ v else false) false false (-4800 : Int)
                  (4800 : Int) (19900 : Int) (2800 : Int) (some (4 : Nat))).b3)]),
    []) := by kernel_rfl
theorem st4df (o : W4) (c : W4) (v : W4) :
  execFD Pr
  (withAsm OS4
    [((11 : Nat), false), ((46 : Nat), true), ((56 : Nat), true), ((62 : Nat), true), ((71 : Nat), false),
      ((80 : Nat), false)])
  noLoops [((16 : Nat), false)] (100 : Nat) Go.Proofs.Try.f43 [o.v, c.v, v.v, V.bool false] [] =
  some
  (!eqB v c && (!eqB c o && true && (!eqB c o && true && true)) &&
        (!eqZ o &&
            (!eqZ o &&
              ((bif true then !eqZ c else false) &&
                (!eqB v o &&
                  (!eqB v o &&
                    ((fun a ↦
                          decide (a.r0 = (-4800 : Int)) && decide (a.r1 = (4800 : Int)) &&
                              decide (a.r2 = (19900 : Int)) &&
                            decide (a.r3 = (2800 : Int)))
                        (S4.mk (bif true then eqZ c else false) (bif true then eqZ v else false) false false
                          (-4800 : Int) (4800 : Int) (19900 : Int) (2800 : Int) (some (4 : Nat))) &&
                      true))))) &&
          true) &&
      true,
    Fin.ret
      (V.tup
        [V.u64 (BitVec.ofInt (64 : Nat) (0 : Int) + BitVec.ofInt (64 : Nat) (100 : Int)),
          V.int IntKind.i64
            (sm4
              (S4.mk (bif true then eqZ c else false) (bif true then eqZ v else false) false false (-4800 : Int)
                  (4800 : Int) (19900 : Int) (2800 : Int) (some (4 : Nat))).b0
              (S4.mk (bif true then eqZ c else false) (bif true then eqZ v else false) false false (-4800 : Int)
                  (4800 : Int) (19900 : Int) (2800 : Int) (some (4 : Nat))).b1
              (S4.mk (bif true then eqZ c else false) (bif true then eqZ v else false) false false (-4800 : Int)
                  (4800 : Int) (19900 : Int) (2800 : Int) (some (4 : Nat))).b2
              (S4.mk (bif true then eqZ c else false) (bif true then eqZ v else false) false false (-4800 : Int)
                  (4800 : Int) (19900 : Int) (2800 : Int) (some (4 : Nat))).b3)]),
    []) := by kernel_rfl
theorem st4et (o : W4) (c : W4) (v : W4) :
  execFD Pr
  (withAsm OS4
    [((11 : Nat), false), ((46 : Nat), true), ((56 : Nat), true), ((62 : Nat), false), ((71 : Nat), true),
      ((80 : Nat), true)])
  noLoops [((16 : Nat), false)] (100 : Nat) Go.Proofs.Try.f43 [o.v, c.v, v.v, V.bool true] [] =
  some
  (!eqB v c && (!eqB c o && true && (!eqB c o && true && true)) &&
        (!eqZ o &&
            (!eqZ o &&
              ((!bif true then !eqZ c else false) &&
                (eqB v o &&
                  (eqB v o &&
                    ((fun a ↦
                          decide (a.r0 = (-4800 : Int)) && decide (a.r1 = (4800 : Int)) &&
                              decide (a.r2 = (19900 : Int)) &&
                            decide (a.r3 = (2800 : Int)))
                        (S4.mk (bif true then eqZ c else false) false (bif true then eqZ o else false)
                          (bif true then !eqZ o else false) (-4800 : Int) (4800 : Int) (19900 : Int) (2800 : Int)
                          (some (4 : Nat))) &&
                      true))))) &&
          true) &&
      true,
    Fin.ret
      (V.tup
        [V.u64 (BitVec.ofInt (64 : Nat) (2100 : Int) + BitVec.ofInt (64 : Nat) (100 : Int)),
          V.int IntKind.i64
            (sm4
              (S4.mk (bif true then eqZ c else false) false (bif true then eqZ o else false)
                  (bif true then !eqZ o else false) (-4800 : Int) (4800 : Int) (19900 : Int) (2800 : Int)
                  (some (4 : Nat))).b0
              (S4.mk (bif true then eqZ c else false) false (bif true then eqZ o else false)
                  (bif true then !eqZ o else false) (-4800 : Int) (4800 : Int) (19900 : Int) (2800 : Int)
                  (some (4 : Nat))).b1
              (S4.mk (bif true then eqZ c else false) false (bif true then eqZ o else false)
                  (bif true then !eqZ o else false) (-4800 : Int) (4800 : Int) (19900 : Int) (2800 : Int)
                  (some (4 : Nat))).b2
              (S4.mk (bif true then eqZ c else false) false (bif true then eqZ o else false)
                  (bif true then !eqZ o else false) (-4800 : Int) (4800 : Int) (19900 : Int) (2800 : Int)
                  (some (4 : Nat))).b3)]),
    []) := by kernel_rfl
theorem st4ef (o : W4) (c : W4) (v : W4) :
  execFD Pr
  (withAsm OS4
    [((11 : Nat), false), ((46 : Nat), true), ((56 : Nat), true), ((62 : Nat), false), ((71 : Nat), true),
      ((80 : Nat), true)])
  noLoops [((16 : Nat), false)] (100 : Nat) Go.Proofs.Try.f43 [o.v, c.v, v.v, V.bool false] [] =
  some
  (!eqB v c && (!eqB c o && true && (!eqB c o && true && true)) &&
        (!eqZ o &&
            (!eqZ o &&
              ((!bif true then !eqZ c else false) &&
                (eqB v o &&
                  (eqB v o &&
                    ((fun a ↦
                          decide (a.r0 = (-4800 : Int)) && decide (a.r1 = (4800 : Int)) &&
                              decide (a.r2 = (19900 : Int)) &&
                            decide (a.r3 = (2800 : Int)))
                        (S4.mk (bif true then eqZ c else false) false (bif true then eqZ o else false)
                          (bif true then !eqZ o else false) (-4800 : Int) (4800 : Int) (19900 : Int) (2800 : Int)
                          (some (4 : Nat))) &&
                      true))))) &&
          true) &&
      true,
    Fin.ret
      (V.tup
        [V.u64 (BitVec.ofInt (64 : Nat) (0 : Int) + BitVec.ofInt (64 : Nat) (100 : Int)),
          V.int IntKind.i64
            (sm4
              (S4.mk (bif true then eqZ c else false) false (bif true then eqZ o else false)
                  (bif true then !eqZ o else false) (-4800 : Int) (4800 : Int) (19900 : Int) (2800 : Int)
                  (some (4 : Nat))).b0
              (S4.mk (bif true then eqZ c else false) false (bif true then eqZ o else false)
                  (bif true then !eqZ o else false) (-4800 : Int) (4800 : Int) (19900 : Int) (2800 : Int)
                  (some (4 : Nat))).b1
              (S4.mk (bif true then eqZ c else false) false (bif true then eqZ o else false)
                  (bif true then !eqZ o else false) (-4800 : Int) (4800 : Int) (19900 : Int) (2800 : Int)
                  (some (4 : Nat))).b2
              (S4.mk (bif true then eqZ c else false) false (bif true then eqZ o else false)
                  (bif true then !eqZ o else false) (-4800 : Int) (4800 : Int) (19900 : Int) (2800 : Int)
                  (some (4 : Nat))).b3)]),
    []) := by kernel_rfl
theorem st4ft (o : W4) (c : W4) (v : W4) :
  execFD Pr
  (withAsm OS4
    [((11 : Nat), false), ((46 : Nat), true), ((56 : Nat), true), ((62 : Nat), false), ((71 : Nat), false),
      ((80 : Nat), false)])
  noLoops [((16 : Nat), false)] (100 : Nat) Go.Proofs.Try.f43 [o.v, c.v, v.v, V.bool true] [] =
  some
  (!eqB v c && (!eqB c o && true && (!eqB c o && true && true)) &&
        (!eqZ o &&
            (!eqZ o &&
              ((!bif true then !eqZ c else false) &&
                (!eqB v o &&
                  (!eqB v o &&
                    ((fun a ↦
                          decide (a.r0 = (-4800 : Int)) && decide (a.r1 = (4800 : Int)) &&
                              decide (a.r2 = (19900 : Int)) &&
                            decide (a.r3 = (2800 : Int)))
                        (S4.mk (bif true then eqZ c else false) false false false (-4800 : Int) (4800 : Int)
                          (19900 : Int) (2800 : Int) (some (4 : Nat))) &&
                      true))))) &&
          true) &&
      true,
    Fin.ret
      (V.tup
        [V.u64 (BitVec.ofInt (64 : Nat) (2100 : Int) + BitVec.ofInt (64 : Nat) (100 : Int)),
          V.int IntKind.i64
            (sm4
              (S4.mk (bif true then eqZ c else false) false false false (-4800 : Int) (4800 : Int) (19900 : Int)
                  (2800 : Int) (some (4 : Nat))).b0
              (S4.mk (bif true then eqZ c else false) false false false (-4800 : Int) (4800 : Int) (19900 : Int)
                  (2800 : Int) (some (4 : Nat))).b1
              (S4.mk (bif true then eqZ c else false) false false false (-4800 : Int) (4800 : Int) (19900 : Int)
                  (2800 : Int) (some (4 : Nat))).b2
              (S4.mk (bif true then eqZ c else false) false false false (-4800 : Int) (4800 : Int) (19900 : Int)
                  (2800 : Int) (some (4 : Nat))).b3)]),
    []) := by kernel_rfl
theorem st4ff (o : W4) (c : W4) (v : W4) :
  execFD Pr
  (withAsm OS4
    [((11 : Nat), false), ((46 : Nat), true), ((56 : Nat), true), ((62 : Nat), false), ((71 : Nat), false),
      ((80 : Nat), false)])
  noLoops [((16 : Nat), false)] (100 : Nat) Go.Proofs.Try.f43 [o.v, c.v, v.v, V.bool false] [] =
  some
  (!eqB v c && (!eqB c o && true && (!eqB c o && true && true)) &&
        (!eqZ o &&
            (!eqZ o &&
              ((!bif true then !eqZ c else false) &&
                (!eqB v o &&
                  (!eqB v o &&
                    ((fun a ↦
                          decide (a.r0 = (-4800 : Int)) && decide (a.r1 = (4800 : Int)) &&
                              decide (a.r2 = (19900 : Int)) &&
                            decide (a.r3 = (2800 : Int)))
                        (S4.mk (bif true then eqZ c else false) false false false (-4800 : Int) (4800 : Int)
                          (19900 : Int) (2800 : Int) (some (4 : Nat))) &&
                      true))))) &&
          true) &&
      true,
    Fin.ret
      (V.tup
        [V.u64 (BitVec.ofInt (64 : Nat) (0 : Int) + BitVec.ofInt (64 : Nat) (100 : Int)),
          V.int IntKind.i64
            (sm4
              (S4.mk (bif true then eqZ c else false) false false false (-4800 : Int) (4800 : Int) (19900 : Int)
                  (2800 : Int) (some (4 : Nat))).b0
              (S4.mk (bif true then eqZ c else false) false false false (-4800 : Int) (4800 : Int) (19900 : Int)
                  (2800 : Int) (some (4 : Nat))).b1
              (S4.mk (bif true then eqZ c else false) false false false (-4800 : Int) (4800 : Int) (19900 : Int)
                  (2800 : Int) (some (4 : Nat))).b2
              (S4.mk (bif true then eqZ c else false) false false false (-4800 : Int) (4800 : Int) (19900 : Int)
                  (2800 : Int) (some (4 : Nat))).b3)]),
    []) := by kernel_rfl
/-- what a slot costs, and gives back -/
def stC (o c v : W4) (cold : Bool) : BitVec 64 × Int :=
  let b : BitVec 64 := if cold then 2100#64 else 0#64
  if v = c then (b + 100#64, 0)
  else if c = o then (if o = W4.zero then (b + 20000#64, 0) else (b + 2900#64, if v = W4.zero then 4800 else 0))
  else (b + 100#64, (if ¬ o = W4.zero ∧ c = W4.zero then -4800 else 0) + (if ¬ o = W4.zero ∧ ¬ c = W4.zero ∧ v = W4.zero then 4800 else 0) + (if v = o ∧ o = W4.zero then 19900 else 0) + (if v = o ∧ ¬ o = W4.zero then 2800 else 0))
theorem store_fn (o c v : W4) (cold : Bool) : LFn Pr 43 [o.v, c.v, v.v, .bool cold] [] (.ret (.tup [.u64 (stC o c v cold).1, .int .i64 (stC o c v cold).2])) [] := by
  have b0 : BitVec.ofInt 64 0 = 0#64 := rfl
  by_cases e1 : v = c
  · try have f1 : ¬ v = o := fun h => e1 (h.trans e2.symm)
    try have f2 : ¬ v = W4.zero := fun h => e1 ((h.trans e3.symm).trans e2.symm)
    try have f3 : ¬ c = W4.zero := fun h => e2 (h.trans e3.symm)
    try have f4 : ¬ v = W4.zero := fun h => e1 (h.trans e5.symm)
    try have f5 : ¬ o = c := fun h => e2 h.symm
    try have f6 : ¬ c = W4.zero := fun h => e3 (e2.symm.trans h)
    try have f7 : ¬ W4.zero = c := fun h => e2 (h.symm.trans e3.symm)
    try have f8 : ¬ v = W4.zero := fun h => e4 (h.trans e3.symm)
    try have f9 : ¬ W4.zero = o := fun h => e3 h.symm
    try have fa : ¬ o = W4.zero := fun h => e2 (e5.trans h.symm)
    try have fb : ¬ W4.zero = v := fun h => e1 (h.symm.trans e5.symm)
    cases cold with
    | true =>
      refine execFD_sound (fn := Go.Proofs.Try.f43) OS1_sound mixed (by kernel_rfl) (fun _ _ _ _ => LoopOk.none) ((st1t o c v).trans (stF ?_ ?_ rfl))
      · simp [eqB_iff, eqZ_iff, *]
      · simp [stC, sm4, eqB_iff, eqZ_iff, *]
    | false =>
      refine execFD_sound (fn := Go.Proofs.Try.f43) OS1_sound mixed (by kernel_rfl) (fun _ _ _ _ => LoopOk.none) ((st1f o c v).trans (stF ?_ ?_ rfl))
      · simp [eqB_iff, eqZ_iff, *]
      · simp [stC, sm4, eqB_iff, eqZ_iff, *]
  · by_cases e2 : c = o
    · by_cases e3 : o = W4.zero
      · try have f1 : ¬ v = o := fun h => e1 (h.trans e2.symm)
        try have f2 : ¬ v = W4.zero := fun h => e1 ((h.trans e3.symm).trans e2.symm)
        try have f3 : ¬ c = W4.zero := fun h => e2 (h.trans e3.symm)
        try have f4 : ¬ v = W4.zero := fun h => e1 (h.trans e5.symm)
        try have f5 : ¬ o = c := fun h => e2 h.symm
        try have f6 : ¬ c = W4.zero := fun h => e3 (e2.symm.trans h)
        try have f7 : ¬ W4.zero = c := fun h => e2 (h.symm.trans e3.symm)
        try have f8 : ¬ v = W4.zero := fun h => e4 (h.trans e3.symm)
        try have f9 : ¬ W4.zero = o := fun h => e3 h.symm
        try have fa : ¬ o = W4.zero := fun h => e2 (e5.trans h.symm)
        try have fb : ¬ W4.zero = v := fun h => e1 (h.symm.trans e5.symm)
        cases cold with
        | true =>
          refine execFD_sound (fn := Go.Proofs.Try.f43) (withAsm_sound OS1_sound) mixed (by kernel_rfl) (fun _ _ _ _ => LoopOk.none) ((st2t o c v).trans (stF ?_ ?_ rfl))
          · simp [eqB_iff, eqZ_iff, *]
          · simp [stC, sm4, eqB_iff, eqZ_iff, *]
        | false =>
          refine execFD_sound (fn := Go.Proofs.Try.f43) (withAsm_sound OS1_sound) mixed (by kernel_rfl) (fun _ _ _ _ => LoopOk.none) ((st2f o c v).trans (stF ?_ ?_ rfl))
          · simp [eqB_iff, eqZ_iff, *]
          · simp [stC, sm4, eqB_iff, eqZ_iff, *]
      · try have f1 : ¬ v = o := fun h => e1 (h.trans e2.symm)
        try have f2 : ¬ v = W4.zero := fun h => e1 ((h.trans e3.symm).trans e2.symm)
        try have f3 : ¬ c = W4.zero := fun h => e2 (h.trans e3.symm)
        try have f4 : ¬ v = W4.zero := fun h => e1 (h.trans e5.symm)
        try have f5 : ¬ o = c := fun h => e2 h.symm
        try have f6 : ¬ c = W4.zero := fun h => e3 (e2.symm.trans h)
        try have f7 : ¬ W4.zero = c := fun h => e2 (h.symm.trans e3.symm)
        try have f8 : ¬ v = W4.zero := fun h => e4 (h.trans e3.symm)
        try have f9 : ¬ W4.zero = o := fun h => e3 h.symm
        try have fa : ¬ o = W4.zero := fun h => e2 (e5.trans h.symm)
        try have fb : ¬ W4.zero = v := fun h => e1 (h.symm.trans e5.symm)
        cases cold with
        | true =>
          refine execFD_sound (fn := Go.Proofs.Try.f43) (withAsm_sound OS1_sound) mixed (by kernel_rfl) (fun _ _ _ _ => LoopOk.none) ((st3t o c v).trans (stF ?_ ?_ rfl))
          · simp [eqB_iff, eqZ_iff, *]
          · simp [stC, sm4, eqB_iff, eqZ_iff, *]
        | false =>
          refine execFD_sound (fn := Go.Proofs.Try.f43) (withAsm_sound OS1_sound) mixed (by kernel_rfl) (fun _ _ _ _ => LoopOk.none) ((st3f o c v).trans (stF ?_ ?_ rfl))
          · simp [eqB_iff, eqZ_iff, *]
          · simp [stC, sm4, eqB_iff, eqZ_iff, *]
    · by_cases e3 : o = W4.zero
      · by_cases e4 : v = o
        · try have f1 : ¬ v = o := fun h => e1 (h.trans e2.symm)
          try have f2 : ¬ v = W4.zero := fun h => e1 ((h.trans e3.symm).trans e2.symm)
          try have f3 : ¬ c = W4.zero := fun h => e2 (h.trans e3.symm)
          try have f4 : ¬ v = W4.zero := fun h => e1 (h.trans e5.symm)
          try have f5 : ¬ o = c := fun h => e2 h.symm
          try have f6 : ¬ c = W4.zero := fun h => e3 (e2.symm.trans h)
          try have f7 : ¬ W4.zero = c := fun h => e2 (h.symm.trans e3.symm)
          try have f8 : ¬ v = W4.zero := fun h => e4 (h.trans e3.symm)
          try have f9 : ¬ W4.zero = o := fun h => e3 h.symm
          try have fa : ¬ o = W4.zero := fun h => e2 (e5.trans h.symm)
          try have fb : ¬ W4.zero = v := fun h => e1 (h.symm.trans e5.symm)
          cases cold with
          | true =>
            refine execFD_sound (fn := Go.Proofs.Try.f43) (withAsm_sound OS4_sound) mixed (by kernel_rfl) (fun _ _ _ _ => LoopOk.none) ((st4at o c v).trans (stF ?_ ?_ rfl))
            · simp [eqB_iff, eqZ_iff, *]
            · simp [stC, sm4, eqB_iff, eqZ_iff, *]
          | false =>
            refine execFD_sound (fn := Go.Proofs.Try.f43) (withAsm_sound OS4_sound) mixed (by kernel_rfl) (fun _ _ _ _ => LoopOk.none) ((st4af o c v).trans (stF ?_ ?_ rfl))
            · simp [eqB_iff, eqZ_iff, *]
            · simp [stC, sm4, eqB_iff, eqZ_iff, *]
        · try have f1 : ¬ v = o := fun h => e1 (h.trans e2.symm)
          try have f2 : ¬ v = W4.zero := fun h => e1 ((h.trans e3.symm).trans e2.symm)
          try have f3 : ¬ c = W4.zero := fun h => e2 (h.trans e3.symm)
          try have f4 : ¬ v = W4.zero := fun h => e1 (h.trans e5.symm)
          try have f5 : ¬ o = c := fun h => e2 h.symm
          try have f6 : ¬ c = W4.zero := fun h => e3 (e2.symm.trans h)
          try have f7 : ¬ W4.zero = c := fun h => e2 (h.symm.trans e3.symm)
          try have f8 : ¬ v = W4.zero := fun h => e4 (h.trans e3.symm)
          try have f9 : ¬ W4.zero = o := fun h => e3 h.symm
          try have fa : ¬ o = W4.zero := fun h => e2 (e5.trans h.symm)
          try have fb : ¬ W4.zero = v := fun h => e1 (h.symm.trans e5.symm)
          cases cold with
          | true =>
            refine execFD_sound (fn := Go.Proofs.Try.f43) (withAsm_sound OS4_sound) mixed (by kernel_rfl) (fun _ _ _ _ => LoopOk.none) ((st4bt o c v).trans (stF ?_ ?_ rfl))
            · simp [eqB_iff, eqZ_iff, *]
            · simp [stC, sm4, eqB_iff, eqZ_iff, *]
          | false =>
            refine execFD_sound (fn := Go.Proofs.Try.f43) (withAsm_sound OS4_sound) mixed (by kernel_rfl) (fun _ _ _ _ => LoopOk.none) ((st4bf o c v).trans (stF ?_ ?_ rfl))
            · simp [eqB_iff, eqZ_iff, *]
            · simp [stC, sm4, eqB_iff, eqZ_iff, *]
      · by_cases e5 : c = W4.zero
        · by_cases e4 : v = o
          · try have f1 : ¬ v = o := fun h => e1 (h.trans e2.symm)
            try have f2 : ¬ v = W4.zero := fun h => e1 ((h.trans e3.symm).trans e2.symm)
            try have f3 : ¬ c = W4.zero := fun h => e2 (h.trans e3.symm)
            try have f4 : ¬ v = W4.zero := fun h => e1 (h.trans e5.symm)
            try have f5 : ¬ o = c := fun h => e2 h.symm
            try have f6 : ¬ c = W4.zero := fun h => e3 (e2.symm.trans h)
            try have f7 : ¬ W4.zero = c := fun h => e2 (h.symm.trans e3.symm)
            try have f8 : ¬ v = W4.zero := fun h => e4 (h.trans e3.symm)
            try have f9 : ¬ W4.zero = o := fun h => e3 h.symm
            try have fa : ¬ o = W4.zero := fun h => e2 (e5.trans h.symm)
            try have fb : ¬ W4.zero = v := fun h => e1 (h.symm.trans e5.symm)
            cases cold with
            | true =>
              refine execFD_sound (fn := Go.Proofs.Try.f43) (withAsm_sound OS4_sound) mixed (by kernel_rfl) (fun _ _ _ _ => LoopOk.none) ((st4et o c v).trans (stF ?_ ?_ rfl))
              · simp [eqB_iff, eqZ_iff, *]
              · simp [stC, sm4, eqB_iff, eqZ_iff, *]
            | false =>
              refine execFD_sound (fn := Go.Proofs.Try.f43) (withAsm_sound OS4_sound) mixed (by kernel_rfl) (fun _ _ _ _ => LoopOk.none) ((st4ef o c v).trans (stF ?_ ?_ rfl))
              · simp [eqB_iff, eqZ_iff, *]
              · simp [stC, sm4, eqB_iff, eqZ_iff, *]
          · try have f1 : ¬ v = o := fun h => e1 (h.trans e2.symm)
            try have f2 : ¬ v = W4.zero := fun h => e1 ((h.trans e3.symm).trans e2.symm)
            try have f3 : ¬ c = W4.zero := fun h => e2 (h.trans e3.symm)
            try have f4 : ¬ v = W4.zero := fun h => e1 (h.trans e5.symm)
            try have f5 : ¬ o = c := fun h => e2 h.symm
            try have f6 : ¬ c = W4.zero := fun h => e3 (e2.symm.trans h)
            try have f7 : ¬ W4.zero = c := fun h => e2 (h.symm.trans e3.symm)
            try have f8 : ¬ v = W4.zero := fun h => e4 (h.trans e3.symm)
            try have f9 : ¬ W4.zero = o := fun h => e3 h.symm
            try have fa : ¬ o = W4.zero := fun h => e2 (e5.trans h.symm)
            try have fb : ¬ W4.zero = v := fun h => e1 (h.symm.trans e5.symm)
            cases cold with
            | true =>
              refine execFD_sound (fn := Go.Proofs.Try.f43) (withAsm_sound OS4_sound) mixed (by kernel_rfl) (fun _ _ _ _ => LoopOk.none) ((st4ft o c v).trans (stF ?_ ?_ rfl))
              · simp [eqB_iff, eqZ_iff, *]
              · simp [stC, sm4, eqB_iff, eqZ_iff, *]
            | false =>
              refine execFD_sound (fn := Go.Proofs.Try.f43) (withAsm_sound OS4_sound) mixed (by kernel_rfl) (fun _ _ _ _ => LoopOk.none) ((st4ff o c v).trans (stF ?_ ?_ rfl))
              · simp [eqB_iff, eqZ_iff, *]
              · simp [stC, sm4, eqB_iff, eqZ_iff, *]
        · by_cases e4 : v = o
          · try have f1 : ¬ v = o := fun h => e1 (h.trans e2.symm)
            try have f2 : ¬ v = W4.zero := fun h => e1 ((h.trans e3.symm).trans e2.symm)
            try have f3 : ¬ c = W4.zero := fun h => e2 (h.trans e3.symm)
            try have f4 : ¬ v = W4.zero := fun h => e1 (h.trans e5.symm)
            try have f5 : ¬ o = c := fun h => e2 h.symm
            try have f6 : ¬ c = W4.zero := fun h => e3 (e2.symm.trans h)
            try have f7 : ¬ W4.zero = c := fun h => e2 (h.symm.trans e3.symm)
            try have f8 : ¬ v = W4.zero := fun h => e4 (h.trans e3.symm)
            try have f9 : ¬ W4.zero = o := fun h => e3 h.symm
            try have fa : ¬ o = W4.zero := fun h => e2 (e5.trans h.symm)
            try have fb : ¬ W4.zero = v := fun h => e1 (h.symm.trans e5.symm)
            cases cold with
            | true =>
              refine execFD_sound (fn := Go.Proofs.Try.f43) (withAsm_sound OS4_sound) mixed (by kernel_rfl) (fun _ _ _ _ => LoopOk.none) ((st4ct o c v).trans (stF ?_ ?_ rfl))
              · simp [eqB_iff, eqZ_iff, *]
              · simp [stC, sm4, eqB_iff, eqZ_iff, *]
            | false =>
              refine execFD_sound (fn := Go.Proofs.Try.f43) (withAsm_sound OS4_sound) mixed (by kernel_rfl) (fun _ _ _ _ => LoopOk.none) ((st4cf o c v).trans (stF ?_ ?_ rfl))
              · simp [eqB_iff, eqZ_iff, *]
              · simp [stC, sm4, eqB_iff, eqZ_iff, *]
          · try have f1 : ¬ v = o := fun h => e1 (h.trans e2.symm)
            try have f2 : ¬ v = W4.zero := fun h => e1 ((h.trans e3.symm).trans e2.symm)
            try have f3 : ¬ c = W4.zero := fun h => e2 (h.trans e3.symm)
            try have f4 : ¬ v = W4.zero := fun h => e1 (h.trans e5.symm)
            try have f5 : ¬ o = c := fun h => e2 h.symm
            try have f6 : ¬ c = W4.zero := fun h => e3 (e2.symm.trans h)
            try have f7 : ¬ W4.zero = c := fun h => e2 (h.symm.trans e3.symm)
            try have f8 : ¬ v = W4.zero := fun h => e4 (h.trans e3.symm)
            try have f9 : ¬ W4.zero = o := fun h => e3 h.symm
            try have fa : ¬ o = W4.zero := fun h => e2 (e5.trans h.symm)
            try have fb : ¬ W4.zero = v := fun h => e1 (h.symm.trans e5.symm)
            cases cold with
            | true =>
              refine execFD_sound (fn := Go.Proofs.Try.f43) (withAsm_sound OS4_sound) mixed (by kernel_rfl) (fun _ _ _ _ => LoopOk.none) ((st4dt o c v).trans (stF ?_ ?_ rfl))
              · simp [eqB_iff, eqZ_iff, *]
              · simp [stC, sm4, eqB_iff, eqZ_iff, *]
            | false =>
              refine execFD_sound (fn := Go.Proofs.Try.f43) (withAsm_sound OS4_sound) mixed (by kernel_rfl) (fun _ _ _ _ => LoopOk.none) ((st4df o c v).trans (stF ?_ ?_ rfl))
              · simp [eqB_iff, eqZ_iff, *]
              · simp [stC, sm4, eqB_iff, eqZ_iff, *]
end
end Go.Proofs.Ytajbaocfdlopbaa.K
end
section
open Go Go.Lh
namespace Go.Proofs.Ytajbaocfdlopbaa.K
noncomputable section
set_option maxRecDepth 100000
structure SA where
  o : W4
  c : W4
  v : W4
  cold : Bool
def store_read : List V → Heap → Option SA := fun args h => match args, h with
  | [.agg [.u64 o0, .u64 o1, .u64 o2, .u64 o3], .agg [.u64 c0, .u64 c1, .u64 c2, .u64 c3], .agg [.u64 v0, .u64 v1, .u64 v2, .u64 v3], .bool cold], [] => some ⟨⟨o0, o1, o2, o3⟩, ⟨c0, c1, c2, c3⟩, ⟨v0, v1, v2, v3⟩, cold⟩
  | _, _ => none
def store_g := ct store_read (fun _ => true) (fun a => .ret (.tup [.u64 (stC a.o a.c a.v a.cold).1, .int .i64 (stC a.o a.c a.v a.cold).2])) (fun _ => [])
theorem store_ok : ∀ args h fin h', store_g args h = some (true, fin, h') → LFn Pr 43 args h fin h' := by
  refine ct_ok (fun a => [a.o.v, a.c.v, a.v.v, .bool a.cold]) (fun _ => []) ?_ ?_
  · intro args h a e
    unfold store_read at e
    split at e <;> cases e
    exact ⟨rfl, rfl⟩
  · intro a _
    exact store_fn a.o a.c a.v a.cold
def OGS : Orc := auto Pr ext [(42, gex_g), (43, store_g)] [45, 47, 49, 50, 51, 56, 57, 58, 59, 60, 61, 65, 86, 87, 89, 90] 8
theorem OGS_sound : OrcSound Pr OGS := auto_sound mixed ext_ok (KOk.cons gex_en gex_ok (KOk.cons (Enters.of (fn := Go.Proofs.Try.f43) (by kernel_rfl) (by kernel_rfl)) store_ok KOk.nil)) (by kernel_rfl) 8
/-- one of three words -/
def wd (k : Nat) : W4 := W4.mk ([BitVec.ofInt (64 : Nat) (0 : Int), BitVec.ofInt (64 : Nat) (0 : Int), BitVec.ofInt (64 : Nat) (0 : Int), BitVec.ofInt (64 : Nat) (0 : Int), BitVec.ofInt (64 : Nat) (0 : Int), BitVec.ofInt (64 : Nat) (0 : Int), BitVec.ofInt (64 : Nat) (0 : Int), BitVec.ofInt (64 : Nat) (1 : Int), BitVec.ofInt (64 : Nat) (0 : Int), BitVec.ofInt (64 : Nat) (0 : Int), BitVec.ofInt (64 : Nat) (0 : Int), BitVec.ofInt (64 : Nat) (2 : Int)].getD ((0 : Nat) + k * (4 : Nat)) (0 : BitVec 64)) ([BitVec.ofInt (64 : Nat) (0 : Int), BitVec.ofInt (64 : Nat) (0 : Int), BitVec.ofInt (64 : Nat) (0 : Int), BitVec.ofInt (64 : Nat) (0 : Int), BitVec.ofInt (64 : Nat) (0 : Int), BitVec.ofInt (64 : Nat) (0 : Int), BitVec.ofInt (64 : Nat) (0 : Int), BitVec.ofInt (64 : Nat) (1 : Int), BitVec.ofInt (64 : Nat) (0 : Int), BitVec.ofInt (64 : Nat) (0 : Int), BitVec.ofInt (64 : Nat) (0 : Int), BitVec.ofInt (64 : Nat) (2 : Int)].getD ((0 : Nat) + k * (4 : Nat) + (1 : Nat)) (0 : BitVec 64)) ([BitVec.ofInt (64 : Nat) (0 : Int), BitVec.ofInt (64 : Nat) (0 : Int), BitVec.ofInt (64 : Nat) (0 : Int), BitVec.ofInt (64 : Nat) (0 : Int), BitVec.ofInt (64 : Nat) (0 : Int), BitVec.ofInt (64 : Nat) (0 : Int), BitVec.ofInt (64 : Nat) (0 : Int), BitVec.ofInt (64 : Nat) (1 : Int), BitVec.ofInt (64 : Nat) (0 : Int), BitVec.ofInt (64 : Nat) (0 : Int), BitVec.ofInt (64 : Nat) (0 : Int), BitVec.ofInt (64 : Nat) (2 : Int)].getD ((0 : Nat) + k * (4 : Nat) + (1 : Nat) + (1 : Nat)) (0 : BitVec 64)) ([BitVec.ofInt (64 : Nat) (0 : Int), BitVec.ofInt (64 : Nat) (0 : Int), BitVec.ofInt (64 : Nat) (0 : Int), BitVec.ofInt (64 : Nat) (0 : Int), BitVec.ofInt (64 : Nat) (0 : Int), BitVec.ofInt (64 : Nat) (0 : Int), BitVec.ofInt (64 : Nat) (0 : Int), BitVec.ofInt (64 : Nat) (1 : Int), BitVec.ofInt (64 : Nat) (0 : Int), BitVec.ofInt (64 : Nat) (0 : Int), BitVec.ofInt (64 : Nat) (0 : Int), BitVec.ofInt (64 : Nat) (2 : Int)].getD ((0 : Nat) + k * (4 : Nat) + (1 : Nat) + (1 : Nat) + (1 : Nat)) (0 : BitVec 64))
def k1 (w : BitVec 8) : Nat := (w % BitVec.ofInt (8 : Nat) (3 : Int)).toNat
def k2 (w : BitVec 8) : Nat := (w / BitVec.ofInt (8 : Nat) (3 : Int) % BitVec.ofInt (8 : Nat) (3 : Int)).toNat
def k3 (w : BitVec 8) : Nat := (w / BitVec.ofInt (8 : Nat) (9 : Int) % BitVec.ofInt (8 : Nat) (3 : Int)).toNat
theorem rt_x (w : BitVec 8) :
  execFD Pr (withAsm OGS [((74 : Nat), true), ((79 : Nat), true), ((87 : Nat), true)]) noLoops [((61 : Nat), false)]
  (100 : Nat) Go.Proofs.Try.f12 [V.u8 w] [] =
  some
  (decide ((↑(k1 w) : Int) < (3 : Int)) && (decide ((0 : Nat) + k1 w * (4 : Nat) + (4 : Nat) ≤ (12 : Nat)) && true) &&
        (decide ((↑(k2 w) : Int) < (3 : Int)) &&
            (decide ((0 : Nat) + k2 w * (4 : Nat) + (4 : Nat) ≤ (12 : Nat)) && true) &&
          (decide ((↑(k3 w) : Int) < (3 : Int)) &&
              (decide ((0 : Nat) + k3 w * (4 : Nat) + (4 : Nat) ≤ (12 : Nat)) && true) &&
            (!decide ((stC (wd (k1 w)) (wd (k1 w)) (wd (k2 w)) true).fst < BitVec.ofInt (64 : Nat) (100 : Int)) &&
                      true &&
                    true &&
                  true &&
                (!decide ((stC (wd (k1 w)) (wd (k2 w)) (wd (k3 w)) false).fst < BitVec.ofInt (64 : Nat) (100 : Int)) &&
                        true &&
                      true &&
                    true &&
                  (!decide
                              ((stC (wd (k1 w)) (wd (k3 w)) (wd (k1 w)) false).fst <
                                BitVec.ofInt (64 : Nat) (100 : Int)) &&
                          true &&
                        true &&
                      true &&
                    true)) &&
              (decide
                    (wrapI IntKind.i64
                        (wrapI IntKind.i64
                            (wrapI IntKind.i64 ((0 : Int) + (stC (wd (k1 w)) (wd (k1 w)) (wd (k2 w)) true).snd) +
                              (stC (wd (k1 w)) (wd (k2 w)) (wd (k3 w)) false).snd) +
                          (stC (wd (k1 w)) (wd (k3 w)) (wd (k1 w)) false).snd) ≥
                      (0 : Int)) &&
                  (decide
                      (BitVec.ofInt (64 : Nat)
                          (wrapI IntKind.i64
                            (wrapI IntKind.i64
                                (wrapI IntKind.i64 ((0 : Int) + (stC (wd (k1 w)) (wd (k1 w)) (wd (k2 w)) true).snd) +
                                  (stC (wd (k1 w)) (wd (k2 w)) (wd (k3 w)) false).snd) +
                              (stC (wd (k1 w)) (wd (k3 w)) (wd (k1 w)) false).snd)) ≤
                        BitVec.ofInt (64 : Nat) (0 : Int) + (stC (wd (k1 w)) (wd (k1 w)) (wd (k2 w)) true).fst +
                            (stC (wd (k1 w)) (wd (k2 w)) (wd (k3 w)) false).fst +
                          (stC (wd (k1 w)) (wd (k3 w)) (wd (k1 w)) false).fst) &&
                    (BitVec.ofInt (64 : Nat) (0 : Int) + (stC (wd (k1 w)) (wd (k1 w)) (wd (k2 w)) true).fst +
                              (stC (wd (k1 w)) (wd (k2 w)) (wd (k3 w)) false).fst +
                            (stC (wd (k1 w)) (wd (k3 w)) (wd (k1 w)) false).fst -
                          BitVec.ofInt (64 : Nat)
                            (wrapI IntKind.i64
                              (wrapI IntKind.i64
                                  (wrapI IntKind.i64 ((0 : Int) + (stC (wd (k1 w)) (wd (k1 w)) (wd (k2 w)) true).snd) +
                                    (stC (wd (k1 w)) (wd (k2 w)) (wd (k3 w)) false).snd) +
                                (stC (wd (k1 w)) (wd (k3 w)) (wd (k1 w)) false).snd)) ==
                        BitVec.ofInt (64 : Nat) (2400 : Int) &&
                      true)) &&
                true)))) &&
      true,
    Fin.ret (V.bool true), []) := by kernel_rfl
theorem cold1 (a : W4) (b : W4) (c : W4) (w : BitVec 8) :
  execFD Pr
  (withAsm OGS
    [((66 : Nat), true), ((72 : Nat), true), ((77 : Nat), true), ((81 : Nat), true), ((85 : Nat), true),
      ((90 : Nat), true), ((94 : Nat), true), ((98 : Nat), true)])
  noLoops [((25 : Nat), false)] (100 : Nat) Go.Proofs.Try.f14 [a.v, b.v, c.v, V.u8 w] [] =
  some
  (!decide (w < BitVec.ofInt (8 : Nat) (200 : Int)) && true &&
        ((stC a b c true).fst == (stC a b c false).fst + BitVec.ofInt (64 : Nat) (2100 : Int) &&
            ((stC a b c true).snd == (stC a b c false).snd &&
              ((stC a b b false).fst == BitVec.ofInt (64 : Nat) (100 : Int) &&
                ((stC a b b false).snd == (0 : Int) &&
                  (decide ((stC a b b false).fst ≤ (stC a b c false).fst) &&
                    (decide ((stC a b c false).fst ≤ BitVec.ofInt (64 : Nat) (20000 : Int)) &&
                      (decide ((stC a b c true).snd ≤ (19900 : Int)) &&
                        (decide ((stC a b c true).snd ≥ (-4800 : Int)) && true))))))) &&
          true) &&
      true,
    Fin.ret (V.bool true), []) := by kernel_rfl
theorem cold2 (a : W4) (b : W4) (c : W4) (w : BitVec 8) :
  execFD Pr
  (withAsm OGS
    [((66 : Nat), true), ((72 : Nat), true), ((77 : Nat), true), ((81 : Nat), true), ((85 : Nat), true),
      ((90 : Nat), true), ((94 : Nat), true), ((98 : Nat), true)])
  noLoops [((25 : Nat), true)] (100 : Nat) Go.Proofs.Try.f14 [a.v, b.v, c.v, V.u8 w] [] =
  some
  (decide (w < BitVec.ofInt (8 : Nat) (200 : Int)) &&
          (decide ((↑(k1 w) : Int) < (3 : Int)) &&
              (decide ((0 : Nat) + k1 w * (4 : Nat) + (4 : Nat) ≤ (12 : Nat)) && true) &&
            (decide ((↑(k2 w) : Int) < (3 : Int)) &&
                (decide ((0 : Nat) + k2 w * (4 : Nat) + (4 : Nat) ≤ (12 : Nat)) && true) &&
              (decide ((↑(k3 w) : Int) < (3 : Int)) &&
                (decide ((0 : Nat) + k3 w * (4 : Nat) + (4 : Nat) ≤ (12 : Nat)) && true)))) &&
        ((stC (wd (k1 w)) (wd (k2 w)) (wd (k3 w)) true).fst ==
              (stC (wd (k1 w)) (wd (k2 w)) (wd (k3 w)) false).fst + BitVec.ofInt (64 : Nat) (2100 : Int) &&
            ((stC (wd (k1 w)) (wd (k2 w)) (wd (k3 w)) true).snd ==
                (stC (wd (k1 w)) (wd (k2 w)) (wd (k3 w)) false).snd &&
              ((stC (wd (k1 w)) (wd (k2 w)) (wd (k2 w)) false).fst == BitVec.ofInt (64 : Nat) (100 : Int) &&
                ((stC (wd (k1 w)) (wd (k2 w)) (wd (k2 w)) false).snd == (0 : Int) &&
                  (decide
                      ((stC (wd (k1 w)) (wd (k2 w)) (wd (k2 w)) false).fst ≤
                        (stC (wd (k1 w)) (wd (k2 w)) (wd (k3 w)) false).fst) &&
                    (decide
                        ((stC (wd (k1 w)) (wd (k2 w)) (wd (k3 w)) false).fst ≤ BitVec.ofInt (64 : Nat) (20000 : Int)) &&
                      (decide ((stC (wd (k1 w)) (wd (k2 w)) (wd (k3 w)) true).snd ≤ (19900 : Int)) &&
                        (decide ((stC (wd (k1 w)) (wd (k2 w)) (wd (k3 w)) true).snd ≥ (-4800 : Int)) && true))))))) &&
          true) &&
      true,
    Fin.ret (V.bool true), []) := by kernel_rfl
theorem k1_lt (w : BitVec 8) : k1 w < 3 := by unfold k1; rw [BitVec.toNat_umod]; exact Nat.mod_lt _ (by decide)
theorem k2_lt (w : BitVec 8) : k2 w < 3 := by unfold k2; rw [BitVec.toNat_umod]; exact Nat.mod_lt _ (by decide)
theorem k3_lt (w : BitVec 8) : k3 w < 3 := by unfold k3; rw [BitVec.toNat_umod]; exact Nat.mod_lt _ (by decide)
theorem three {n : Nat} (h : n < 3) : n = 0 ∨ n = 1 ∨ n = 2 := by omega
theorem rt_fn (w : BitVec 8) : LFn Pr 12 [.u8 w] [] (.ret (.bool true)) [] := by
  refine execFD_sound (fn := Go.Proofs.Try.f12) (withAsm_sound OGS_sound) mixed (by kernel_rfl) (fun _ _ _ _ => LoopOk.none) ((rt_x w).trans (stF ?_ rfl rfl))
  have h1 := three (k1_lt w)
  have h2 := three (k2_lt w)
  have h3 := three (k3_lt w)
  generalize k1 w = i at *
  generalize k2 w = j at *
  generalize k3 w = k at *
  rcases h1 with rfl | rfl | rfl <;> rcases h2 with rfl | rfl | rfl <;> rcases h3 with rfl | rfl | rfl <;> decide +kernel
theorem stC_cold (o c v : W4) : (stC o c v true).1 = (stC o c v false).1 + 2100#64 ∧ (stC o c v true).2 = (stC o c v false).2 := by
  unfold stC
  by_cases e1 : v = c
  · simp [e1]
  · by_cases e2 : c = o
    · by_cases e3 : o = W4.zero
      · simp only [e1, e2, e3, if_true, if_false]
        split <;> simp
      · simp only [e1, e2, e3, if_true, if_false]
        split <;> simp
    · simp [e1, e2]
theorem stC_same (o c : W4) (b : Bool) : stC o c c b = ((if b then 2100#64 else 0#64) + 100#64, 0) := by simp [stC]
theorem stC_warm (o c v : W4) : 100 ≤ (stC o c v false).1.toNat ∧ (stC o c v false).1.toNat ≤ 20000 ∧ -4800 ≤ (stC o c v false).2 ∧ (stC o c v false).2 ≤ 19900 := by
  unfold stC
  by_cases e1 : v = c
  · simp [e1]
  · by_cases e2 : c = o
    · by_cases e3 : o = W4.zero
      · simp only [e1, e2, e3, if_true, if_false]
        split <;> simp
      · simp only [e1, e2, e3, if_true, if_false]
        split <;> (try simp) <;> split <;> decide
    · simp only [e1, e2, if_false, Bool.false_eq_true]
      refine ⟨by decide, by decide, ?_, ?_⟩
      · split <;> split <;> split <;> split <;> first | omega | simp_all
      · split <;> split <;> split <;> split <;> first | omega | simp_all
theorem colds_fn (a b c : W4) (w : BitVec 8) : LFn Pr 14 [a.v, b.v, c.v, .u8 w] [] (.ret (.bool true)) [] := by
  have key : ∀ (a b c : W4), ((stC a b c true).fst == (stC a b c false).fst + BitVec.ofInt 64 2100 && ((stC a b c true).snd == (stC a b c false).snd && ((stC a b b false).fst == BitVec.ofInt 64 100 && ((stC a b b false).snd == (0 : Int) && (decide ((stC a b b false).fst ≤ (stC a b c false).fst) && (decide ((stC a b c false).fst ≤ BitVec.ofInt 64 20000) && (decide ((stC a b c true).snd ≤ (19900 : Int)) && (decide ((stC a b c true).snd ≥ (-4800 : Int)) && true)))))))) = true := by
    intro a b c
    obtain ⟨c1, c2⟩ := stC_cold a b c
    obtain ⟨w1, w2, w3, w4⟩ := stC_warm a b c
    have e1 : BitVec.ofInt 64 2100 = 2100#64 := rfl
    have e2 : BitVec.ofInt 64 100 = 100#64 := rfl
    have e3 : (BitVec.ofInt 64 20000).toNat = 20000 := rfl
    have e4 : ((if false = true then 2100#64 else 0#64) + 100#64 : BitVec 64).toNat = 100 := rfl
    have e5 : ((if false = true then 2100#64 else 0#64) + 100#64 : BitVec 64) = 100#64 := rfl
    simp only [c1, c2, stC_same, e1, e2, e5, BitVec.le_def, e3, beq_self_eq_true, Bool.true_and, Bool.and_true, Bool.and_eq_true, decide_eq_true_eq]
    refine ⟨?_, w2, w4, w3⟩
    exact w1
  by_cases h : w < BitVec.ofInt 8 200
  · refine execFD_sound (fn := Go.Proofs.Try.f14) (withAsm_sound OGS_sound) mixed (by kernel_rfl) (fun _ _ _ _ => LoopOk.none) ((cold2 a b c w).trans (stF ?_ rfl rfl))
    have h1 := k1_lt w
    have h2 := k2_lt w
    have h3 := k3_lt w
    rw [key]
    simp only [Bool.and_eq_true, Bool.and_true, Bool.true_and, decide_eq_true_eq]
    (repeat' apply And.intro) <;> first | exact h | omega
  · refine execFD_sound (fn := Go.Proofs.Try.f14) (withAsm_sound OGS_sound) mixed (by kernel_rfl) (fun _ _ _ _ => LoopOk.none) ((cold1 a b c w).trans (stF ?_ rfl rfl))
    rw [key]
    simp only [Bool.and_eq_true, Bool.and_true, Bool.true_and, decide_eq_true_eq, Bool.not_eq_true', decide_eq_false_iff_not]
    exact h
end
end Go.Proofs.Ytajbaocfdlopbaa.K
end
section
open Go Go.Lh
namespace Go.Proofs.Ytajbaocfdlopbaa.K
noncomputable section
set_option maxRecDepth 100000
def zC (s : List (BitVec 8)) : Nat := List.count ((bytesOf (ByteArray.mk #[OfNat.ofNat (0 : Nat)])).getD (0 : Nat) (0 : BitVec 8)) s
def dC (s : List (BitVec 8)) : BitVec 64 := BitVec.ofInt (64 : Nat) (wrapI IntKind.i64 (wrapI IntKind.i64 ((16 : Int) * (↑s.length : Int)) - wrapI IntKind.i64 ((12 : Int) * (↑(zC s) : Int))))
def kC (n : BitVec 8) : Nat := (n % BitVec.ofInt (8 : Nat) (21 : Int)).toNat
theorem data_x (s : List (BitVec 8)) :
  execFD Pr OGS noLoops [] (100 : Nat) Go.Proofs.Try.f47 [V.str s] [] =
  some
  (true,
    Fin.ret
      (V.u64
        (BitVec.ofInt (64 : Nat)
          (wrapI IntKind.i64
            (wrapI IntKind.i64 ((16 : Int) * (↑s.length : Int)) -
              wrapI IntKind.i64
                ((12 : Int) *
                  (↑(List.count
                        ((bytesOf (ByteArray.mk #[OfNat.ofNat (0 : Nat)])).getD (0 : Nat) (OfNat.ofNat (0 : Nat))) s) :
                    Int)))))),
    []) := by kernel_rfl
theorem data_fn (s : List (BitVec 8)) : LFn Pr 47 [.str s] [] (.ret (.u64 (dC s))) [] :=
  execFD_sound (fn := Go.Proofs.Try.f47) OGS_sound mixed (by kernel_rfl) (fun _ _ _ _ => LoopOk.none) ((data_x s).trans (stF rfl rfl rfl))
def data_g := ct (fun (args : List V) (h : Heap) => match args, h with | [.str s], [] => some s | _, _ => none) (fun _ => true) (fun s => .ret (.u64 (dC s))) (fun _ => [])
theorem data_ok : ∀ args h fin h', data_g args h = some (true, fin, h') → LFn Pr 47 args h fin h' := by
  refine ct_ok (fun s => [.str s]) (fun _ => []) ?_ ?_
  · intro args h a e
    split at e <;> cases e
    exact ⟨rfl, rfl⟩
  · intro s _
    exact data_fn s
def OGD : Orc := auto Pr ext [(42, gex_g), (43, store_g), (47, data_g)] [45, 49, 50, 51, 56, 57, 58, 59, 60, 61, 65, 86, 87, 89, 90] 8
theorem OGD_sound : OrcSound Pr OGD := auto_sound mixed ext_ok (KOk.cons gex_en gex_ok (KOk.cons (Enters.of (fn := Go.Proofs.Try.f43) (by kernel_rfl) (by kernel_rfl)) store_ok (KOk.cons (Enters.of (fn := Go.Proofs.Try.f47) (by kernel_rfl) (by kernel_rfl)) data_ok KOk.nil))) (by kernel_rfl) 8
theorem dataA (s : List (BitVec 8)) (t : List (BitVec 8)) (n : BitVec 8) :
  execFD Pr (withAsm OGD [((57 : Nat), true), ((67 : Nat), true), ((76 : Nat), true), ((85 : Nat), true)]) noLoops
  [((39 : Nat), false)] (100 : Nat) Go.Proofs.Try.f13 [V.str s, V.str t, V.u8 n, V.bool true] [] =
  some
  (decide (s.length + t.length ≤ (9223372036854775807 : Nat)) &&
          (decide ((↑(kC n) : Int) ≤ (↑(kC n) : Int)) && decide ((↑(kC n) : Int) ≤ (281474976710656 : Int)) &&
                decide (kC n * (32 : Nat) ≤ (281474976710656 : Nat)) &&
              decide
                ((List.replicate (kC n)
                        [BitVec.ofInt (64 : Nat) (0 : Int), BitVec.ofInt (64 : Nat) (0 : Int),
                          BitVec.ofInt (64 : Nat) (0 : Int), BitVec.ofInt (64 : Nat) (0 : Int)]).flatten.length =
                  kC n * (4 : Nat)) &&
            true) &&
        (decide (s.length + t.length ≤ (9223372036854775807 : Nat)) &&
            (dC (s ++ t) == dC s + dC t &&
              (decide (BitVec.ofInt (64 : Nat) (4 : Int) * BitVec.ofInt (64 : Nat) (↑s.length : Int) ≤ dC s) &&
                (decide (dC s ≤ BitVec.ofInt (64 : Nat) (16 : Int) * BitVec.ofInt (64 : Nat) (↑s.length : Int)) &&
                  (BitVec.ofInt (64 : Nat) (21000 : Int) + dC (s ++ t) +
                        (BitVec.ofInt (64 : Nat) (2400 : Int) +
                          BitVec.ofInt (64 : Nat) (1900 : Int) * BitVec.ofInt (64 : Nat) (↑(kC n) : Int)) ==
                      BitVec.ofInt (64 : Nat) (21000 : Int) + dC s + dC t + BitVec.ofInt (64 : Nat) (2400 : Int) +
                        BitVec.ofInt (64 : Nat) (1900 : Int) * BitVec.ofInt (64 : Nat) (↑(kC n) : Int) &&
                    true)))) &&
          true) &&
      true,
    Fin.ret (V.bool true), []) := by kernel_rfl
theorem dataB (s : List (BitVec 8)) (t : List (BitVec 8)) (n : BitVec 8) :
  execFD Pr (withAsm OGD [((57 : Nat), true), ((67 : Nat), true), ((76 : Nat), true), ((85 : Nat), true)]) noLoops
  [((39 : Nat), true)] (100 : Nat) Go.Proofs.Try.f13 [V.str s, V.str t, V.u8 n, V.bool false] [] =
  some
  (decide (s.length + t.length ≤ (9223372036854775807 : Nat)) &&
          (decide ((↑(kC n) : Int) ≤ (↑(kC n) : Int)) && decide ((↑(kC n) : Int) ≤ (281474976710656 : Int)) &&
                decide (kC n * (32 : Nat) ≤ (281474976710656 : Nat)) &&
              decide
                ((List.replicate (kC n)
                        [BitVec.ofInt (64 : Nat) (0 : Int), BitVec.ofInt (64 : Nat) (0 : Int),
                          BitVec.ofInt (64 : Nat) (0 : Int), BitVec.ofInt (64 : Nat) (0 : Int)]).flatten.length =
                  kC n * (4 : Nat)) &&
            true) &&
        (decide (s.length + t.length ≤ (9223372036854775807 : Nat)) &&
            (dC (s ++ t) == dC s + dC t &&
              (decide (BitVec.ofInt (64 : Nat) (4 : Int) * BitVec.ofInt (64 : Nat) (↑s.length : Int) ≤ dC s) &&
                (decide (dC s ≤ BitVec.ofInt (64 : Nat) (16 : Int) * BitVec.ofInt (64 : Nat) (↑s.length : Int)) &&
                  (BitVec.ofInt (64 : Nat) (21000 : Int) + dC (s ++ t) +
                          (BitVec.ofInt (64 : Nat) (2400 : Int) +
                            BitVec.ofInt (64 : Nat) (1900 : Int) * BitVec.ofInt (64 : Nat) (↑(kC n) : Int)) +
                        (BitVec.ofInt (64 : Nat) (32000 : Int) +
                          BitVec.ofInt (64 : Nat) (2 : Int) *
                            (((if
                                    BitVec.ofInt (64 : Nat) (4294967296 : Int) <
                                      BitVec.ofInt (64 : Nat) (↑(s ++ t).length : Int) then
                                  BitVec.ofInt (64 : Nat) (4294967296 : Int)
                                else BitVec.ofInt (64 : Nat) (↑(s ++ t).length : Int)) +
                                BitVec.ofInt (64 : Nat) (31 : Int)) /
                              BitVec.ofInt (64 : Nat) (32 : Int))) ==
                      BitVec.ofInt (64 : Nat) (21000 : Int) + dC s + dC t + BitVec.ofInt (64 : Nat) (2400 : Int) +
                            BitVec.ofInt (64 : Nat) (1900 : Int) * BitVec.ofInt (64 : Nat) (↑(kC n) : Int) +
                          BitVec.ofInt (64 : Nat) (32000 : Int) +
                        BitVec.ofInt (64 : Nat) (2 : Int) *
                          (((if
                                  BitVec.ofInt (64 : Nat) (4294967296 : Int) <
                                    BitVec.ofInt (64 : Nat)
                                      (wrapI IntKind.i64 ((↑s.length : Int) + (↑t.length : Int))) then
                                BitVec.ofInt (64 : Nat) (4294967296 : Int)
                              else
                                BitVec.ofInt (64 : Nat) (wrapI IntKind.i64 ((↑s.length : Int) + (↑t.length : Int)))) +
                              BitVec.ofInt (64 : Nat) (31 : Int)) /
                            BitVec.ofInt (64 : Nat) (32 : Int)) &&
                    true)))) &&
          true) &&
      true,
    Fin.ret (V.bool true), []) := by kernel_rfl
theorem zC_le (s : List (BitVec 8)) : zC s ≤ s.length := List.count_le_length
theorem zC_append (s t : List (BitVec 8)) : zC (s ++ t) = zC s + zC t := List.count_append
theorem ofInt_nat {w : Nat} (n : Nat) : BitVec.ofInt w (n : Int) = BitVec.ofNat w n := by
  apply BitVec.eq_of_toNat_eq
  rw [BitVec.toNat_ofInt, BitVec.toNat_ofNat]
  exact_mod_cast Int.toNat_natCast _
theorem dC_eq (s : List (BitVec 8)) (h : s.length < 2 ^ 50) : dC s = BitVec.ofNat 64 (16 * s.length - 12 * zC s) := by
  have hz := zC_le s
  unfold dC
  rw [lit_mul, lit_mul, wrapI_nat (by omega), wrapI_nat (by omega), sub_nat _ _ (by omega), wrapI_nat (by omega), ofInt_nat]
theorem kC_lt (n : BitVec 8) : kC n < 21 := by unfold kC; rw [BitVec.toNat_umod]; exact Nat.mod_lt _ (by decide)
theorem dC_append (s t : List (BitVec 8)) (hs : s.length < 2 ^ 48) (ht : t.length < 2 ^ 48) : dC (s ++ t) = dC s + dC t := by
  have h1 := zC_le s
  have h2 := zC_le t
  rw [dC_eq s (by omega), dC_eq t (by omega), dC_eq (s ++ t) (by rw [List.length_append]; omega), zC_append, List.length_append]
  apply BitVec.eq_of_toNat_eq
  rw [BitVec.toNat_add]
  simp only [BitVec.toNat_ofNat]
  omega
theorem dC_toNat (s : List (BitVec 8)) (hs : s.length < 2 ^ 48) : (dC s).toNat = 16 * s.length - 12 * zC s := by
  rw [dC_eq s (by omega), BitVec.toNat_ofNat]
  have := zC_le s
  omega
theorem gdata_fn (s t : List (BitVec 8)) (n : BitVec 8) (to : Bool) (hs : s.length < 2 ^ 47) (ht : t.length < 2 ^ 47) : LFn Pr 13 [.str s, .str t, .u8 n, .bool to] [] (.ret (.bool true)) [] := by
  have hk := kC_lt n
  have hz := zC_le s
  have hd := dC_toNat s (by omega)
  have e4 : (BitVec.ofInt 64 4 * BitVec.ofInt 64 (s.length : Int)).toNat = 4 * s.length := by
    rw [ofInt_nat, show BitVec.ofInt 64 4 = BitVec.ofNat 64 4 from rfl, BitVec.toNat_mul]; simp only [BitVec.toNat_ofNat]; omega
  have e16 : (BitVec.ofInt 64 16 * BitVec.ofInt 64 (s.length : Int)).toNat = 16 * s.length := by
    rw [ofInt_nat, show BitVec.ofInt 64 16 = BitVec.ofNat 64 16 from rfl, BitVec.toNat_mul]; simp only [BitVec.toNat_ofNat]; omega
  have ew : wrapI .i64 ((s.length : Int) + (t.length : Int)) = ((s ++ t).length : Int) := by rw [add_nat, wrapI_nat (by omega), List.length_append]
  have hf : (List.replicate (kC n) [BitVec.ofInt 64 0, BitVec.ofInt 64 0, BitVec.ofInt 64 0, BitVec.ofInt 64 0]).flatten.length = kC n * 4 := by simp
  cases to with
  | true =>
    refine execFD_sound (fn := Go.Proofs.Try.f13) (withAsm_sound OGD_sound) mixed (by kernel_rfl) (fun _ _ _ _ => LoopOk.none) ((dataA s t n).trans (stF ?_ rfl rfl))
    rw [dC_append s t (by omega) (by omega), hf]
    simp only [Bool.and_eq_true, Bool.and_true, Bool.true_and, decide_eq_true_eq, beq_iff_eq, BitVec.le_def, e4, e16, hd]
    (repeat' apply And.intro) <;> first | omega | exact True.intro | ac_rfl
  | false =>
    refine execFD_sound (fn := Go.Proofs.Try.f13) (withAsm_sound OGD_sound) mixed (by kernel_rfl) (fun _ _ _ _ => LoopOk.none) ((dataB s t n).trans (stF ?_ rfl rfl))
    rw [dC_append s t (by omega) (by omega), hf, ew]
    generalize (if BitVec.ofInt 64 4294967296 < BitVec.ofInt 64 ((s ++ t).length : Int) then BitVec.ofInt 64 4294967296 else BitVec.ofInt 64 ((s ++ t).length : Int)) = c
    simp only [Bool.and_eq_true, Bool.and_true, Bool.true_and, decide_eq_true_eq, beq_iff_eq, BitVec.le_def, e4, e16, hd]
    (repeat' apply And.intro) <;> first | omega | exact True.intro | ac_rfl
end
end Go.Proofs.Ytajbaocfdlopbaa.K
end
