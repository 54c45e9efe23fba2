/- Gas. -/
import Derived.Test.YtajbaocfdlopbaaB0
set_option linter.unusedSimpArgs false
set_option linter.unusedVariables false
open Go Go.Lh
namespace Go.Proofs.Ytajbaocfdlopbaa.K
noncomputable section
set_option maxRecDepth 100000
def OG0 : Orc := auto Pr ext [] [43, 45, 47, 49, 50, 51, 56, 57, 58, 59, 60, 61, 65, 86, 87, 89, 90] 8
theorem OG0_sound : OrcSound Pr OG0 := auto_sound mixed ext_ok KOk.nil (by kernel_rfl) 8
theorem gex_x : execF Pr OG0 noLoops 100 Go.Proofs.Try.f42 [] [] = some (true, .ret (.bool true), []) := by kernel_rfl
def gex_g := ct (fun (args : List V) (h : Heap) => match args, h with | [], [] => some () | _, _ => none) (fun _ => true) (fun _ => .ret (.bool true)) (fun _ => [])
theorem gex_ok : ∀ args h fin h', gex_g args h = some (true, fin, h') → LFn Pr 42 args h fin h' := by
  refine ct_ok (fun _ => []) (fun _ => []) ?_ ?_
  · intro args h a e
    split at e <;> cases e
    exact ⟨rfl, rfl⟩
  · intro a _
    exact execF_sound (fn := Go.Proofs.Try.f42) OG0_sound mixed (by kernel_rfl) (fun _ _ _ _ => LoopOk.none) gex_x
theorem gex_en : Enters Pr 42 := Enters.of (fn := Go.Proofs.Try.f42) (by kernel_rfl) (by kernel_rfl)
def OG : Orc := auto Pr ext [(42, gex_g)] [43, 45, 47, 49, 50, 51, 56, 57, 58, 59, 60, 61, 65, 86, 87, 89, 90] 8
theorem OG_sound : OrcSound Pr OG := auto_sound mixed ext_ok (KOk.cons gex_en gex_ok KOk.nil) (by kernel_rfl) 8
theorem keepsA (a : BitVec 64) (b : BitVec 64) (c : BitVec 64) (r : Int) :
  execF Pr
  (withAsm OG
    [((29 : Nat), true), ((34 : Nat), true), ((39 : Nat), true), ((47 : Nat), true), ((54 : Nat), true),
      ((60 : Nat), true), ((68 : Nat), false), ((71 : Nat), true)])
  noLoops (100 : Nat) Go.Proofs.Try.f15 [V.u64 a, V.u64 b, V.u64 c, V.int IntKind.i64 r] [] =
  some
  (decide
            ((if a - a / BitVec.ofInt (64 : Nat) (64 : Int) < b then a - a / BitVec.ofInt (64 : Nat) (64 : Int)
              else b) ≤
              a) &&
          (decide
              ((if a - a / BitVec.ofInt (64 : Nat) (64 : Int) < b then a - a / BitVec.ofInt (64 : Nat) (64 : Int)
                else b) ≤
                b) &&
            (a - a / BitVec.ofInt (64 : Nat) (64 : Int) == a - a / BitVec.ofInt (64 : Nat) (64 : Int) &&
              (((if a - a / BitVec.ofInt (64 : Nat) (64 : Int) < b then a - a / BitVec.ofInt (64 : Nat) (64 : Int)
                  else b) ==
                  if b < a - a / BitVec.ofInt (64 : Nat) (64 : Int) then b
                  else a - a / BitVec.ofInt (64 : Nat) (64 : Int)) &&
                (decide
                    ((if
                          c / BitVec.ofInt (64 : Nat) (5 : Int) <
                            BitVec.ofInt (64 : Nat) (if (0 : Int) > r then (0 : Int) else r) then
                        c / BitVec.ofInt (64 : Nat) (5 : Int)
                      else BitVec.ofInt (64 : Nat) (if (0 : Int) > r then (0 : Int) else r)) ≤
                      c / BitVec.ofInt (64 : Nat) (5 : Int)) &&
                  (decide (r > (0 : Int)) &&
                    (!decide (r ≤ (0 : Int)) &&
                      (decide
                          ((if
                                c / BitVec.ofInt (64 : Nat) (5 : Int) <
                                  BitVec.ofInt (64 : Nat) (if (0 : Int) > r then (0 : Int) else r) then
                              c / BitVec.ofInt (64 : Nat) (5 : Int)
                            else BitVec.ofInt (64 : Nat) (if (0 : Int) > r then (0 : Int) else r)) ≤
                            BitVec.ofInt (64 : Nat) r) &&
                        true))))))) &&
        true &&
      true,
    Fin.ret (V.bool true), []) := by kernel_rfl
theorem keepsB (a : BitVec 64) (b : BitVec 64) (c : BitVec 64) (r : Int) :
  execF Pr
  (withAsm OG
    [((29 : Nat), true), ((34 : Nat), true), ((39 : Nat), true), ((47 : Nat), true), ((54 : Nat), true),
      ((60 : Nat), false), ((63 : Nat), true), ((68 : Nat), true)])
  noLoops (100 : Nat) Go.Proofs.Try.f15 [V.u64 a, V.u64 b, V.u64 c, V.int IntKind.i64 r] [] =
  some
  (decide
            ((if a - a / BitVec.ofInt (64 : Nat) (64 : Int) < b then a - a / BitVec.ofInt (64 : Nat) (64 : Int)
              else b) ≤
              a) &&
          (decide
              ((if a - a / BitVec.ofInt (64 : Nat) (64 : Int) < b then a - a / BitVec.ofInt (64 : Nat) (64 : Int)
                else b) ≤
                b) &&
            (a - a / BitVec.ofInt (64 : Nat) (64 : Int) == a - a / BitVec.ofInt (64 : Nat) (64 : Int) &&
              (((if a - a / BitVec.ofInt (64 : Nat) (64 : Int) < b then a - a / BitVec.ofInt (64 : Nat) (64 : Int)
                  else b) ==
                  if b < a - a / BitVec.ofInt (64 : Nat) (64 : Int) then b
                  else a - a / BitVec.ofInt (64 : Nat) (64 : Int)) &&
                (decide
                    ((if
                          c / BitVec.ofInt (64 : Nat) (5 : Int) <
                            BitVec.ofInt (64 : Nat) (if (0 : Int) > r then (0 : Int) else r) then
                        c / BitVec.ofInt (64 : Nat) (5 : Int)
                      else BitVec.ofInt (64 : Nat) (if (0 : Int) > r then (0 : Int) else r)) ≤
                      c / BitVec.ofInt (64 : Nat) (5 : Int)) &&
                  (!decide (r > (0 : Int)) &&
                    ((if
                            c / BitVec.ofInt (64 : Nat) (5 : Int) <
                              BitVec.ofInt (64 : Nat) (if (0 : Int) > r then (0 : Int) else r) then
                          c / BitVec.ofInt (64 : Nat) (5 : Int)
                        else BitVec.ofInt (64 : Nat) (if (0 : Int) > r then (0 : Int) else r)) ==
                        BitVec.ofInt (64 : Nat) (0 : Int) &&
                      (decide (r ≤ (0 : Int)) && true))))))) &&
        true &&
      true,
    Fin.ret (V.bool true), []) := by kernel_rfl
theorem wordsA (a : BitVec 64) (b : BitVec 64) :
  execF Pr
  (withAsm OG
    [((26 : Nat), true), ((31 : Nat), true), ((49 : Nat), false), ((53 : Nat), true), ((61 : Nat), true),
      ((68 : Nat), true), ((75 : Nat), true), ((82 : Nat), true), ((89 : Nat), true), ((97 : Nat), true)])
  noLoops (100 : Nat) Go.Proofs.Try.f17 [V.u64 a, V.u64 b] [] =
  some
  (decide
            (((if BitVec.ofInt (64 : Nat) (4294967296 : Int) < if b < a then b else a then
                    BitVec.ofInt (64 : Nat) (4294967296 : Int)
                  else if b < a then b else a) +
                  BitVec.ofInt (64 : Nat) (31 : Int)) /
                BitVec.ofInt (64 : Nat) (32 : Int) ≤
              ((if BitVec.ofInt (64 : Nat) (4294967296 : Int) < if a < b then b else a then
                    BitVec.ofInt (64 : Nat) (4294967296 : Int)
                  else if a < b then b else a) +
                  BitVec.ofInt (64 : Nat) (31 : Int)) /
                BitVec.ofInt (64 : Nat) (32 : Int)) &&
          (decide (BitVec.ofInt (64 : Nat) (4294967296 : Int) < if b < a then b else a) &&
            (!decide ((if a < b then b else a) ≤ BitVec.ofInt (64 : Nat) (4294967296 : Int)) &&
              (((if BitVec.ofInt (64 : Nat) (4294967296 : Int) < if a < b then b else a then
                        BitVec.ofInt (64 : Nat) (4294967296 : Int)
                      else if a < b then b else a) +
                      BitVec.ofInt (64 : Nat) (31 : Int)) /
                    BitVec.ofInt (64 : Nat) (32 : Int) ==
                  BitVec.ofInt (64 : Nat) (4294967296 : Int) / BitVec.ofInt (64 : Nat) (32 : Int) &&
                (BitVec.ofInt (64 : Nat) (3 : Int) *
                      (((if BitVec.ofInt (64 : Nat) (4294967296 : Int) < if b < a then b else a then
                            BitVec.ofInt (64 : Nat) (4294967296 : Int)
                          else if b < a then b else a) +
                          BitVec.ofInt (64 : Nat) (31 : Int)) /
                        BitVec.ofInt (64 : Nat) (32 : Int)) ==
                    BitVec.ofInt (64 : Nat) (3 : Int) *
                      (((if BitVec.ofInt (64 : Nat) (4294967296 : Int) < if b < a then b else a then
                            BitVec.ofInt (64 : Nat) (4294967296 : Int)
                          else if b < a then b else a) +
                          BitVec.ofInt (64 : Nat) (31 : Int)) /
                        BitVec.ofInt (64 : Nat) (32 : Int)) &&
                  (BitVec.ofInt (64 : Nat) (6 : Int) *
                        (((if BitVec.ofInt (64 : Nat) (4294967296 : Int) < if b < a then b else a then
                              BitVec.ofInt (64 : Nat) (4294967296 : Int)
                            else if b < a then b else a) +
                            BitVec.ofInt (64 : Nat) (31 : Int)) /
                          BitVec.ofInt (64 : Nat) (32 : Int)) ==
                      BitVec.ofInt (64 : Nat) (6 : Int) *
                        (((if BitVec.ofInt (64 : Nat) (4294967296 : Int) < if b < a then b else a then
                              BitVec.ofInt (64 : Nat) (4294967296 : Int)
                            else if b < a then b else a) +
                            BitVec.ofInt (64 : Nat) (31 : Int)) /
                          BitVec.ofInt (64 : Nat) (32 : Int)) &&
                    (BitVec.ofInt (64 : Nat) (2 : Int) *
                          (((if BitVec.ofInt (64 : Nat) (4294967296 : Int) < if b < a then b else a then
                                BitVec.ofInt (64 : Nat) (4294967296 : Int)
                              else if b < a then b else a) +
                              BitVec.ofInt (64 : Nat) (31 : Int)) /
                            BitVec.ofInt (64 : Nat) (32 : Int)) ==
                        BitVec.ofInt (64 : Nat) (2 : Int) *
                          (((if BitVec.ofInt (64 : Nat) (4294967296 : Int) < if b < a then b else a then
                                BitVec.ofInt (64 : Nat) (4294967296 : Int)
                              else if b < a then b else a) +
                              BitVec.ofInt (64 : Nat) (31 : Int)) /
                            BitVec.ofInt (64 : Nat) (32 : Int)) &&
                      (decide
                          ((BitVec.ofInt (64 : Nat) (200 : Int) *
                              if BitVec.ofInt (64 : Nat) (4294967296 : Int) < if a < b then b else a then
                                BitVec.ofInt (64 : Nat) (4294967296 : Int)
                              else if a < b then b else a) ≤
                            BitVec.ofInt (64 : Nat) (200 : Int) * BitVec.ofInt (64 : Nat) (4294967296 : Int)) &&
                        (((BitVec.ofInt (64 : Nat) (8 : Int) *
                              if BitVec.ofInt (64 : Nat) (4294967296 : Int) < if b < a then b else a then
                                BitVec.ofInt (64 : Nat) (4294967296 : Int)
                              else if b < a then b else a) ==
                            BitVec.ofInt (64 : Nat) (8 : Int) *
                              if BitVec.ofInt (64 : Nat) (4294967296 : Int) < if b < a then b else a then
                                BitVec.ofInt (64 : Nat) (4294967296 : Int)
                              else if b < a then b else a) &&
                          true)))))))) &&
        true &&
      true,
    Fin.ret (V.bool true), []) := by kernel_rfl
theorem wordsB (a : BitVec 64) (b : BitVec 64) :
  execF Pr
  (withAsm OG
    [((26 : Nat), true), ((31 : Nat), false), ((36 : Nat), true), ((41 : Nat), true), ((49 : Nat), false),
      ((53 : Nat), true), ((61 : Nat), true), ((68 : Nat), true), ((75 : Nat), true), ((82 : Nat), true),
      ((89 : Nat), true), ((97 : Nat), true)])
  noLoops (100 : Nat) Go.Proofs.Try.f17 [V.u64 a, V.u64 b] [] =
  some
  (decide
            (((if BitVec.ofInt (64 : Nat) (4294967296 : Int) < if b < a then b else a then
                    BitVec.ofInt (64 : Nat) (4294967296 : Int)
                  else if b < a then b else a) +
                  BitVec.ofInt (64 : Nat) (31 : Int)) /
                BitVec.ofInt (64 : Nat) (32 : Int) ≤
              ((if BitVec.ofInt (64 : Nat) (4294967296 : Int) < if a < b then b else a then
                    BitVec.ofInt (64 : Nat) (4294967296 : Int)
                  else if a < b then b else a) +
                  BitVec.ofInt (64 : Nat) (31 : Int)) /
                BitVec.ofInt (64 : Nat) (32 : Int)) &&
          (!decide (BitVec.ofInt (64 : Nat) (4294967296 : Int) < if b < a then b else a) &&
            (decide
                ((if b < a then b else a) ≤
                  ((if BitVec.ofInt (64 : Nat) (4294967296 : Int) < if b < a then b else a then
                          BitVec.ofInt (64 : Nat) (4294967296 : Int)
                        else if b < a then b else a) +
                        BitVec.ofInt (64 : Nat) (31 : Int)) /
                      BitVec.ofInt (64 : Nat) (32 : Int) *
                    BitVec.ofInt (64 : Nat) (32 : Int)) &&
              (decide
                  (((if BitVec.ofInt (64 : Nat) (4294967296 : Int) < if b < a then b else a then
                            BitVec.ofInt (64 : Nat) (4294967296 : Int)
                          else if b < a then b else a) +
                          BitVec.ofInt (64 : Nat) (31 : Int)) /
                        BitVec.ofInt (64 : Nat) (32 : Int) *
                      BitVec.ofInt (64 : Nat) (32 : Int) <
                    (if b < a then b else a) + BitVec.ofInt (64 : Nat) (32 : Int)) &&
                (!decide ((if a < b then b else a) ≤ BitVec.ofInt (64 : Nat) (4294967296 : Int)) &&
                  (((if BitVec.ofInt (64 : Nat) (4294967296 : Int) < if a < b then b else a then
                            BitVec.ofInt (64 : Nat) (4294967296 : Int)
                          else if a < b then b else a) +
                          BitVec.ofInt (64 : Nat) (31 : Int)) /
                        BitVec.ofInt (64 : Nat) (32 : Int) ==
                      BitVec.ofInt (64 : Nat) (4294967296 : Int) / BitVec.ofInt (64 : Nat) (32 : Int) &&
                    (BitVec.ofInt (64 : Nat) (3 : Int) *
                          (((if BitVec.ofInt (64 : Nat) (4294967296 : Int) < if b < a then b else a then
                                BitVec.ofInt (64 : Nat) (4294967296 : Int)
                              else if b < a then b else a) +
                              BitVec.ofInt (64 : Nat) (31 : Int)) /
                            BitVec.ofInt (64 : Nat) (32 : Int)) ==
                        BitVec.ofInt (64 : Nat) (3 : Int) *
                          (((if BitVec.ofInt (64 : Nat) (4294967296 : Int) < if b < a then b else a then
                                BitVec.ofInt (64 : Nat) (4294967296 : Int)
                              else if b < a then b else a) +
                              BitVec.ofInt (64 : Nat) (31 : Int)) /
                            BitVec.ofInt (64 : Nat) (32 : Int)) &&
                      (BitVec.ofInt (64 : Nat) (6 : Int) *
                            (((if BitVec.ofInt (64 : Nat) (4294967296 : Int) < if b < a then b else a then
                                  BitVec.ofInt (64 : Nat) (4294967296 : Int)
                                else if b < a then b else a) +
                                BitVec.ofInt (64 : Nat) (31 : Int)) /
                              BitVec.ofInt (64 : Nat) (32 : Int)) ==
                          BitVec.ofInt (64 : Nat) (6 : Int) *
                            (((if BitVec.ofInt (64 : Nat) (4294967296 : Int) < if b < a then b else a then
                                  BitVec.ofInt (64 : Nat) (4294967296 : Int)
                                else if b < a then b else a) +
                                BitVec.ofInt (64 : Nat) (31 : Int)) /
                              BitVec.ofInt (64 : Nat) (32 : Int)) &&
                        (BitVec.ofInt (64 : Nat) (2 : Int) *
                              (((if BitVec.ofInt (64 : Nat) (4294967296 : Int) < if b < a then b else a then
                                    BitVec.ofInt (64 : Nat) (4294967296 : Int)
                                  else if b < a then b else a) +
                                  BitVec.ofInt (64 : Nat) (31 : Int)) /
                                BitVec.ofInt (64 : Nat) (32 : Int)) ==
                            BitVec.ofInt (64 : Nat) (2 : Int) *
                              (((if BitVec.ofInt (64 : Nat) (4294967296 : Int) < if b < a then b else a then
                                    BitVec.ofInt (64 : Nat) (4294967296 : Int)
                                  else if b < a then b else a) +
                                  BitVec.ofInt (64 : Nat) (31 : Int)) /
                                BitVec.ofInt (64 : Nat) (32 : Int)) &&
                          (decide
                              ((BitVec.ofInt (64 : Nat) (200 : Int) *
                                  if BitVec.ofInt (64 : Nat) (4294967296 : Int) < if a < b then b else a then
                                    BitVec.ofInt (64 : Nat) (4294967296 : Int)
                                  else if a < b then b else a) ≤
                                BitVec.ofInt (64 : Nat) (200 : Int) * BitVec.ofInt (64 : Nat) (4294967296 : Int)) &&
                            (((BitVec.ofInt (64 : Nat) (8 : Int) *
                                  if BitVec.ofInt (64 : Nat) (4294967296 : Int) < if b < a then b else a then
                                    BitVec.ofInt (64 : Nat) (4294967296 : Int)
                                  else if b < a then b else a) ==
                                BitVec.ofInt (64 : Nat) (8 : Int) *
                                  if BitVec.ofInt (64 : Nat) (4294967296 : Int) < if b < a then b else a then
                                    BitVec.ofInt (64 : Nat) (4294967296 : Int)
                                  else if b < a then b else a) &&
                              true)))))))))) &&
        true &&
      true,
    Fin.ret (V.bool true), []) := by kernel_rfl
theorem wordsC (a : BitVec 64) (b : BitVec 64) :
  execF Pr
  (withAsm OG
    [((26 : Nat), true), ((31 : Nat), false), ((36 : Nat), true), ((41 : Nat), true), ((49 : Nat), true),
      ((61 : Nat), true), ((68 : Nat), true), ((75 : Nat), true), ((82 : Nat), true), ((89 : Nat), true),
      ((97 : Nat), true)])
  noLoops (100 : Nat) Go.Proofs.Try.f17 [V.u64 a, V.u64 b] [] =
  some
  (decide
            (((if BitVec.ofInt (64 : Nat) (4294967296 : Int) < if b < a then b else a then
                    BitVec.ofInt (64 : Nat) (4294967296 : Int)
                  else if b < a then b else a) +
                  BitVec.ofInt (64 : Nat) (31 : Int)) /
                BitVec.ofInt (64 : Nat) (32 : Int) ≤
              ((if BitVec.ofInt (64 : Nat) (4294967296 : Int) < if a < b then b else a then
                    BitVec.ofInt (64 : Nat) (4294967296 : Int)
                  else if a < b then b else a) +
                  BitVec.ofInt (64 : Nat) (31 : Int)) /
                BitVec.ofInt (64 : Nat) (32 : Int)) &&
          (!decide (BitVec.ofInt (64 : Nat) (4294967296 : Int) < if b < a then b else a) &&
            (decide
                ((if b < a then b else a) ≤
                  ((if BitVec.ofInt (64 : Nat) (4294967296 : Int) < if b < a then b else a then
                          BitVec.ofInt (64 : Nat) (4294967296 : Int)
                        else if b < a then b else a) +
                        BitVec.ofInt (64 : Nat) (31 : Int)) /
                      BitVec.ofInt (64 : Nat) (32 : Int) *
                    BitVec.ofInt (64 : Nat) (32 : Int)) &&
              (decide
                  (((if BitVec.ofInt (64 : Nat) (4294967296 : Int) < if b < a then b else a then
                            BitVec.ofInt (64 : Nat) (4294967296 : Int)
                          else if b < a then b else a) +
                          BitVec.ofInt (64 : Nat) (31 : Int)) /
                        BitVec.ofInt (64 : Nat) (32 : Int) *
                      BitVec.ofInt (64 : Nat) (32 : Int) <
                    (if b < a then b else a) + BitVec.ofInt (64 : Nat) (32 : Int)) &&
                (decide ((if a < b then b else a) ≤ BitVec.ofInt (64 : Nat) (4294967296 : Int)) &&
                  (BitVec.ofInt (64 : Nat) (3 : Int) *
                        (((if BitVec.ofInt (64 : Nat) (4294967296 : Int) < if b < a then b else a then
                              BitVec.ofInt (64 : Nat) (4294967296 : Int)
                            else if b < a then b else a) +
                            BitVec.ofInt (64 : Nat) (31 : Int)) /
                          BitVec.ofInt (64 : Nat) (32 : Int)) ==
                      BitVec.ofInt (64 : Nat) (3 : Int) *
                        (((if BitVec.ofInt (64 : Nat) (4294967296 : Int) < if b < a then b else a then
                              BitVec.ofInt (64 : Nat) (4294967296 : Int)
                            else if b < a then b else a) +
                            BitVec.ofInt (64 : Nat) (31 : Int)) /
                          BitVec.ofInt (64 : Nat) (32 : Int)) &&
                    (BitVec.ofInt (64 : Nat) (6 : Int) *
                          (((if BitVec.ofInt (64 : Nat) (4294967296 : Int) < if b < a then b else a then
                                BitVec.ofInt (64 : Nat) (4294967296 : Int)
                              else if b < a then b else a) +
                              BitVec.ofInt (64 : Nat) (31 : Int)) /
                            BitVec.ofInt (64 : Nat) (32 : Int)) ==
                        BitVec.ofInt (64 : Nat) (6 : Int) *
                          (((if BitVec.ofInt (64 : Nat) (4294967296 : Int) < if b < a then b else a then
                                BitVec.ofInt (64 : Nat) (4294967296 : Int)
                              else if b < a then b else a) +
                              BitVec.ofInt (64 : Nat) (31 : Int)) /
                            BitVec.ofInt (64 : Nat) (32 : Int)) &&
                      (BitVec.ofInt (64 : Nat) (2 : Int) *
                            (((if BitVec.ofInt (64 : Nat) (4294967296 : Int) < if b < a then b else a then
                                  BitVec.ofInt (64 : Nat) (4294967296 : Int)
                                else if b < a then b else a) +
                                BitVec.ofInt (64 : Nat) (31 : Int)) /
                              BitVec.ofInt (64 : Nat) (32 : Int)) ==
                          BitVec.ofInt (64 : Nat) (2 : Int) *
                            (((if BitVec.ofInt (64 : Nat) (4294967296 : Int) < if b < a then b else a then
                                  BitVec.ofInt (64 : Nat) (4294967296 : Int)
                                else if b < a then b else a) +
                                BitVec.ofInt (64 : Nat) (31 : Int)) /
                              BitVec.ofInt (64 : Nat) (32 : Int)) &&
                        (decide
                            ((BitVec.ofInt (64 : Nat) (200 : Int) *
                                if BitVec.ofInt (64 : Nat) (4294967296 : Int) < if a < b then b else a then
                                  BitVec.ofInt (64 : Nat) (4294967296 : Int)
                                else if a < b then b else a) ≤
                              BitVec.ofInt (64 : Nat) (200 : Int) * BitVec.ofInt (64 : Nat) (4294967296 : Int)) &&
                          (((BitVec.ofInt (64 : Nat) (8 : Int) *
                                if BitVec.ofInt (64 : Nat) (4294967296 : Int) < if b < a then b else a then
                                  BitVec.ofInt (64 : Nat) (4294967296 : Int)
                                else if b < a then b else a) ==
                              BitVec.ofInt (64 : Nat) (8 : Int) *
                                if BitVec.ofInt (64 : Nat) (4294967296 : Int) < if b < a then b else a then
                                  BitVec.ofInt (64 : Nat) (4294967296 : Int)
                                else if b < a then b else a) &&
                            true))))))))) &&
        true &&
      true,
    Fin.ret (V.bool true), []) := by kernel_rfl
theorem toNat_ite {n : Nat} (p : Prop) [Decidable p] (x y : BitVec n) : (if p then x else y).toNat = if p then x.toNat else y.toNat := by split <;> rfl
theorem left_toNat (a : BitVec 64) : (a - a / 64#64).toNat = a.toNat - a.toNat / 64 := by
  have ha := a.isLt
  have hq := Nat.div_le_self a.toNat 64
  rw [BitVec.toNat_sub, BitVec.toNat_udiv, show (64#64 : BitVec 64).toNat = 64 from rfl]
  generalize a.toNat / 64 = q at *
  omega
theorem keeps_a (a b c : BitVec 64) (r : Int) (h : 0 < r) (h2 : r < 9223372036854775808) : execF Pr (withAsm OG [(29,true),(34,true),(39,true),(47,true),(54,true),(60,true),(68,false),(71,true)]) noLoops 100 Go.Proofs.Try.f15 [.u64 a, .u64 b, .u64 c, .int .i64 r] [] = some (true, .ret (.bool true), []) := by
  rw [keepsA]
  have e : (BitVec.ofInt 64 r).toNat = r.toNat := by rw [BitVec.toNat_ofInt]; congr 1; omega
  have hg : ¬ (0 : Int) > r := by omega
  have := a.isLt; have := b.isLt; have := c.isLt
  refine stF ?_ rfl rfl
  simp only [hg, if_false, Bool.and_eq_true, Bool.and_true, decide_eq_true_eq, beq_self_eq_true, Bool.not_eq_true', decide_eq_false_iff_not, beq_iff_eq, ← BitVec.toNat_inj, BitVec.le_def, BitVec.lt_def, toNat_ite, left_toNat, BitVec.toNat_udiv, BitVec.ofInt_ofNat, BitVec.toNat_ofNat, Nat.reduceMod, Nat.reducePow, Nat.reduceMul, e]
  (repeat' apply And.intro) <;> first | omega | assumption | exact True.intro | (split <;> omega) | (split <;> split <;> omega)
theorem keeps_b (a b c : BitVec 64) (r : Int) (h : r ≤ 0) : execF Pr (withAsm OG [(29,true),(34,true),(39,true),(47,true),(54,true),(60,false),(63,true),(68,true)]) noLoops 100 Go.Proofs.Try.f15 [.u64 a, .u64 b, .u64 c, .int .i64 r] [] = some (true, .ret (.bool true), []) := by
  rw [keepsB]
  have e : (if (0 : Int) > r then (0 : Int) else r) = 0 := by split <;> omega
  have e0 : (BitVec.ofInt 64 0).toNat = 0 := rfl
  have := a.isLt; have := b.isLt; have := c.isLt
  rw [e]
  refine stF ?_ rfl rfl
  simp only [Bool.and_eq_true, Bool.and_true, decide_eq_true_eq, beq_self_eq_true, Bool.not_eq_true', decide_eq_false_iff_not, beq_iff_eq, ← BitVec.toNat_inj, BitVec.le_def, BitVec.lt_def, toNat_ite, left_toNat, BitVec.toNat_udiv, e0, BitVec.ofInt_ofNat, BitVec.toNat_ofNat, Nat.reduceMod, Nat.reducePow, Nat.reduceMul]
  (repeat' apply And.intro) <;> first | omega | assumption | exact True.intro | (split <;> omega) | (split <;> split <;> omega)
theorem keeps_fn (a b c : BitVec 64) (r : Int) (h : r < 9223372036854775808) : LFn Pr 15 [.u64 a, .u64 b, .u64 c, .int .i64 r] [] (.ret (.bool true)) [] := by
  by_cases h0 : 0 < r
  · exact execF_sound (fn := Go.Proofs.Try.f15) (withAsm_sound OG_sound) mixed (by kernel_rfl) (fun _ _ _ _ => LoopOk.none) (keeps_a a b c r h0 h)
  · exact execF_sound (fn := Go.Proofs.Try.f15) (withAsm_sound OG_sound) mixed (by kernel_rfl) (fun _ _ _ _ => LoopOk.none) (keeps_b a b c r (by omega))
theorem words_fn (a b : BitVec 64) : LFn Pr 17 [.u64 a, .u64 b] [] (.ret (.bool true)) [] := by
  have ha := a.isLt; have hb := b.isLt
  obtain ⟨x, hx, hx'⟩ : ∃ x : BitVec 64, (if b < a then b else a) = x ∧ x.toNat = min a.toNat b.toNat := ⟨_, rfl, by rw [toNat_ite]; simp only [BitVec.lt_def]; split <;> omega⟩
  obtain ⟨y, hy, hy'⟩ : ∃ y : BitVec 64, (if a < b then b else a) = y ∧ y.toNat = max a.toNat b.toNat := ⟨_, rfl, by rw [toNat_ite]; simp only [BitVec.lt_def]; split <;> omega⟩
  have e32 : (BitVec.ofInt 64 4294967296).toNat = 4294967296 := rfl
  obtain ⟨cx, hcx, hcx'⟩ : ∃ c : BitVec 64, (if BitVec.ofInt 64 4294967296 < x then BitVec.ofInt 64 4294967296 else x) = c ∧ c.toNat = min x.toNat 4294967296 := ⟨_, rfl, by rw [toNat_ite]; simp only [BitVec.lt_def, e32]; split <;> omega⟩
  obtain ⟨cy, hcy, hcy'⟩ : ∃ c : BitVec 64, (if BitVec.ofInt 64 4294967296 < y then BitVec.ofInt 64 4294967296 else y) = c ∧ c.toNat = min y.toNat 4294967296 := ⟨_, rfl, by rw [toNat_ite]; simp only [BitVec.lt_def, e32]; split <;> omega⟩
  have w : ∀ c : BitVec 64, c.toNat ≤ 4294967296 → ((c + 31#64) / 32#64).toNat = (c.toNat + 31) / 32 := by
    intro c hc
    rw [BitVec.toNat_udiv, BitVec.toNat_add]
    simp only [BitVec.toNat_ofNat, Nat.reduceMod, Nat.reducePow]
    rw [Nat.mod_eq_of_lt (by omega)]
  have wx := w cx (by omega)
  have wy := w cy (by omega)
  have lc : cy.toNat ≤ 4294967296 := by omega
  have m1 : 200 * cy.toNat % 18446744073709551616 ≤ 858993459200 := by rw [Nat.mod_eq_of_lt (by omega)]; omega
  by_cases h1 : 4294967296 < min a.toNat b.toNat
  · refine execF_sound (fn := Go.Proofs.Try.f17) (withAsm_sound OG_sound) mixed (by kernel_rfl) (fun _ _ _ _ => LoopOk.none) ((wordsA a b).trans ?_)
    refine stF ?_ rfl rfl
    simp only [hx, hy, hcx, hcy]
    simp only [wx, wy, Bool.and_eq_true, Bool.and_true, decide_eq_true_eq, beq_self_eq_true, Bool.not_eq_true', decide_eq_false_iff_not, beq_iff_eq, ← BitVec.toNat_inj, BitVec.le_def, BitVec.lt_def, toNat_ite, BitVec.toNat_add, BitVec.toNat_mul, BitVec.toNat_sub, BitVec.toNat_udiv, BitVec.ofInt_ofNat, BitVec.toNat_ofNat, Nat.reduceMod, Nat.reducePow, Nat.reduceMul, hx', hy']
    (repeat' apply And.intro) <;> first | omega | assumption | exact True.intro | (split <;> omega) | (split <;> split <;> omega)
  · by_cases h2 : max a.toNat b.toNat ≤ 4294967296
    · refine execF_sound (fn := Go.Proofs.Try.f17) (withAsm_sound OG_sound) mixed (by kernel_rfl) (fun _ _ _ _ => LoopOk.none) ((wordsC a b).trans ?_)
      refine stF ?_ rfl rfl
      simp only [hx, hy, hcx, hcy]
      simp only [wx, wy, Bool.and_eq_true, Bool.and_true, decide_eq_true_eq, beq_self_eq_true, Bool.not_eq_true', decide_eq_false_iff_not, beq_iff_eq, ← BitVec.toNat_inj, BitVec.le_def, BitVec.lt_def, toNat_ite, BitVec.toNat_add, BitVec.toNat_mul, BitVec.toNat_sub, BitVec.toNat_udiv, BitVec.ofInt_ofNat, BitVec.toNat_ofNat, Nat.reduceMod, Nat.reducePow, Nat.reduceMul, hx', hy']
      (repeat' apply And.intro) <;> first | omega | assumption | exact True.intro | (split <;> omega) | (split <;> split <;> omega)
    · refine execF_sound (fn := Go.Proofs.Try.f17) (withAsm_sound OG_sound) mixed (by kernel_rfl) (fun _ _ _ _ => LoopOk.none) ((wordsB a b).trans ?_)
      refine stF ?_ rfl rfl
      simp only [hx, hy, hcx, hcy]
      simp only [wx, wy, Bool.and_eq_true, Bool.and_true, decide_eq_true_eq, beq_self_eq_true, Bool.not_eq_true', decide_eq_false_iff_not, beq_iff_eq, ← BitVec.toNat_inj, BitVec.le_def, BitVec.lt_def, toNat_ite, BitVec.toNat_add, BitVec.toNat_mul, BitVec.toNat_sub, BitVec.toNat_udiv, BitVec.ofInt_ofNat, BitVec.toNat_ofNat, Nat.reduceMod, Nat.reducePow, Nat.reduceMul, hx', hy']
      (repeat' apply And.intro) <;> first | omega | assumption | exact True.intro | (split <;> omega) | (split <;> split <;> omega)
end
end Go.Proofs.Ytajbaocfdlopbaa.K
