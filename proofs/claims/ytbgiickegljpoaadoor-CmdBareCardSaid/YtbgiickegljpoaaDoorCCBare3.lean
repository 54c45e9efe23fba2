/- The functions that this law reaches: what each comes to. -/
import Derived.Test.YtbgiickegljpoaaDoorCCBare2
set_option linter.unusedSimpArgs false
set_option linter.unusedVariables false
section
open Go Go.Lh
namespace Go.Proofs.YtbgiickegljpoaaDoor.K
noncomputable section
set_option maxRecDepth 100000
def barB : Code := bodyOf Go.Proofs.Tryd.f4
theorem br1_x (a : List B) (s : List B) (n : BitVec 64) (w : W4) : Tr.prune (Tr.Sh.any.r)
 (execBYE Pr OL2 noLoopsT (100 : Nat) Go.Proofs.Tryd.f4 (0 : Nat)
 (Tell.mk [(0 : Nat), (1 : Nat), (3 : Nat), (6 : Nat), (9 : Nat)] [(0 : Nat)] []) (Tell.mk [] [] [])
 (takeSeq (2 : Nat) barB) [((0 : Nat), V.str a), ((1 : Nat), V.u64 n), ((2 : Nat), w.v), ((3 : Nat), V.str s)] []) =
 Tr.chk true
 (Tr.leaf
 (Sum.inr
 (X.normal,
 [((0 : Nat), V.str a), ((1 : Nat), V.u64 n), ((3 : Nat), V.str s), ((6 : Nat), V.ptr (0 : Nat) (0 : Nat)),
 ((9 : Nat), V.bool true)],
 [Blk.b64 [w.a, w.b, w.c, w.d]]))) := by kernel_rfl
theorem br2_x (a : List B) (s : List B) (n : BitVec 64) (w : W4) : Tr.prune (Tr.Sh.any.both Tr.Sh.any)
 (execBYE Pr OL2 noLoopsT (100 : Nat) Go.Proofs.Tryd.f4 (0 : Nat)
 (Tell.mk [(0 : Nat), (1 : Nat), (3 : Nat), (6 : Nat), (9 : Nat), (11 : Nat)] [(0 : Nat)] []) (Tell.mk [] [] [])
 (takeSeq (0 : Nat) (dropSeq (2 : Nat) barB))
 [((0 : Nat), V.str a), ((1 : Nat), V.u64 n), ((3 : Nat), V.str s), ((6 : Nat), V.ptr (0 : Nat) (0 : Nat)),
 ((9 : Nat), V.bool true)]
 [Blk.b64 [w.a, w.b, w.c, w.d]]) =
 Tr.chk
 (eeB
 (CM.mk
 (bytesOf
 (ByteArray.mk
 #[OfNat.ofNat (98 : Nat), OfNat.ofNat (97 : Nat), OfNat.ofNat (108 : Nat), OfNat.ofNat (97 : Nat),
 OfNat.ofNat (110 : Nat), OfNat.ofNat (99 : Nat), OfNat.ofNat (101 : Nat)]))
 a (BitVec.ofInt (64 : Nat) (0 : Int))
 (W4.mk (BitVec.ofInt (64 : Nat) (0 : Int)) (BitVec.ofInt (64 : Nat) (0 : Int)) (BitVec.ofInt (64 : Nat) (0 : Int))
 (BitVec.ofInt (64 : Nat) (0 : Int)))
 (W4.mk (BitVec.ofInt (64 : Nat) (0 : Int)) (BitVec.ofInt (64 : Nat) (0 : Int)) (BitVec.ofInt (64 : Nat) (0 : Int))
 (BitVec.ofInt (64 : Nat) (0 : Int)))
 (bytesOf (ByteArray.mk #[])) (0 : Int) (bytesOf (ByteArray.mk #[])) (bytesOf (ByteArray.mk #[]))
 (BitVec.ofInt (64 : Nat) (0 : Int)) (BitVec.ofInt (64 : Nat) (0 : Int))
 (W4.mk (BitVec.ofInt (64 : Nat) (0 : Int)) (BitVec.ofInt (64 : Nat) (0 : Int)) (BitVec.ofInt (64 : Nat) (0 : Int))
 (BitVec.ofInt (64 : Nat) (0 : Int)))
 (W4.mk (BitVec.ofInt (64 : Nat) (0 : Int)) (BitVec.ofInt (64 : Nat) (0 : Int)) (BitVec.ofInt (64 : Nat) (0 : Int))
 (BitVec.ofInt (64 : Nat) (0 : Int)))
 (W4.mk (BitVec.ofInt (64 : Nat) (0 : Int)) (BitVec.ofInt (64 : Nat) (0 : Int)) (BitVec.ofInt (64 : Nat) (0 : Int))
 (BitVec.ofInt (64 : Nat) (0 : Int)))
 (bytesOf (ByteArray.mk #[]))))
 (Tr.br
 (eeO
 (CM.mk
 (bytesOf
 (ByteArray.mk
 #[OfNat.ofNat (98 : Nat), OfNat.ofNat (97 : Nat), OfNat.ofNat (108 : Nat), OfNat.ofNat (97 : Nat),
 OfNat.ofNat (110 : Nat), OfNat.ofNat (99 : Nat), OfNat.ofNat (101 : Nat)]))
 a (BitVec.ofInt (64 : Nat) (0 : Int))
 (W4.mk (BitVec.ofInt (64 : Nat) (0 : Int)) (BitVec.ofInt (64 : Nat) (0 : Int))
 (BitVec.ofInt (64 : Nat) (0 : Int)) (BitVec.ofInt (64 : Nat) (0 : Int)))
 (W4.mk (BitVec.ofInt (64 : Nat) (0 : Int)) (BitVec.ofInt (64 : Nat) (0 : Int))
 (BitVec.ofInt (64 : Nat) (0 : Int)) (BitVec.ofInt (64 : Nat) (0 : Int)))
 (bytesOf (ByteArray.mk #[])) (0 : Int) (bytesOf (ByteArray.mk #[])) (bytesOf (ByteArray.mk #[]))
 (BitVec.ofInt (64 : Nat) (0 : Int)) (BitVec.ofInt (64 : Nat) (0 : Int))
 (W4.mk (BitVec.ofInt (64 : Nat) (0 : Int)) (BitVec.ofInt (64 : Nat) (0 : Int))
 (BitVec.ofInt (64 : Nat) (0 : Int)) (BitVec.ofInt (64 : Nat) (0 : Int)))
 (W4.mk (BitVec.ofInt (64 : Nat) (0 : Int)) (BitVec.ofInt (64 : Nat) (0 : Int))
 (BitVec.ofInt (64 : Nat) (0 : Int)) (BitVec.ofInt (64 : Nat) (0 : Int)))
 (W4.mk (BitVec.ofInt (64 : Nat) (0 : Int)) (BitVec.ofInt (64 : Nat) (0 : Int))
 (BitVec.ofInt (64 : Nat) (0 : Int)) (BitVec.ofInt (64 : Nat) (0 : Int)))
 (bytesOf (ByteArray.mk #[]))))
 (Tr.chk true
 (Tr.leaf
 (Sum.inr
 (X.normal,
 [((0 : Nat), V.str a), ((1 : Nat), V.u64 n), ((3 : Nat), V.str s), ((6 : Nat), V.ptr (0 : Nat) (0 : Nat)),
 ((9 : Nat), V.bool true), ((11 : Nat), V.bool true)],
 [Blk.b64 [w.a, w.b, w.c, w.d]]))))
 (Tr.chk true
 (Tr.leaf
 (Sum.inr
 (X.normal,
 [((0 : Nat), V.str a), ((1 : Nat), V.u64 n), ((3 : Nat), V.str s), ((6 : Nat), V.ptr (0 : Nat) (0 : Nat)),
 ((9 : Nat), V.bool true), ((11 : Nat), V.bool false)],
 [Blk.b64 [w.a, w.b, w.c, w.d]]))))) := by kernel_rfl
theorem br3_x (a : List B) (s : List B) (n : BitVec 64) (w : W4) (o1 : Bool) : Tr.prune (Tr.Sh.any.both Tr.Sh.any)
 (execBYE Pr OL2 noLoopsT (100 : Nat) Go.Proofs.Tryd.f4 (0 : Nat)
 (Tell.mk [(0 : Nat), (1 : Nat), (3 : Nat), (6 : Nat), (9 : Nat), (11 : Nat), (13 : Nat)] [(0 : Nat)] [])
 (Tell.mk [] [] []) (takeSeq (0 : Nat) (dropSeq (3 : Nat) barB))
 [((0 : Nat), V.str a), ((1 : Nat), V.u64 n), ((3 : Nat), V.str s), ((6 : Nat), V.ptr (0 : Nat) (0 : Nat)),
 ((9 : Nat), V.bool true), ((11 : Nat), V.bool o1)]
 [Blk.b64 [w.a, w.b, w.c, w.d]]) =
 Tr.chk
 (eeB
 (CM.mk
 (bytesOf
 (ByteArray.mk
 #[OfNat.ofNat (115 : Nat), OfNat.ofNat (110 : Nat), OfNat.ofNat (97 : Nat), OfNat.ofNat (112 : Nat),
 OfNat.ofNat (115 : Nat), OfNat.ofNat (104 : Nat), OfNat.ofNat (111 : Nat), OfNat.ofNat (116 : Nat)]))
 (bytesOf (ByteArray.mk #[])) n
 (W4.mk (BitVec.ofInt (64 : Nat) (0 : Int)) (BitVec.ofInt (64 : Nat) (0 : Int)) (BitVec.ofInt (64 : Nat) (0 : Int))
 (BitVec.ofInt (64 : Nat) (0 : Int)))
 (W4.mk (BitVec.ofInt (64 : Nat) (0 : Int)) (BitVec.ofInt (64 : Nat) (0 : Int)) (BitVec.ofInt (64 : Nat) (0 : Int))
 (BitVec.ofInt (64 : Nat) (0 : Int)))
 (bytesOf (ByteArray.mk #[])) (0 : Int) (bytesOf (ByteArray.mk #[])) (bytesOf (ByteArray.mk #[]))
 (BitVec.ofInt (64 : Nat) (0 : Int)) (BitVec.ofInt (64 : Nat) (0 : Int))
 (W4.mk (BitVec.ofInt (64 : Nat) (0 : Int)) (BitVec.ofInt (64 : Nat) (0 : Int)) (BitVec.ofInt (64 : Nat) (0 : Int))
 (BitVec.ofInt (64 : Nat) (0 : Int)))
 (W4.mk (BitVec.ofInt (64 : Nat) (0 : Int)) (BitVec.ofInt (64 : Nat) (0 : Int)) (BitVec.ofInt (64 : Nat) (0 : Int))
 (BitVec.ofInt (64 : Nat) (0 : Int)))
 (W4.mk (BitVec.ofInt (64 : Nat) (0 : Int)) (BitVec.ofInt (64 : Nat) (0 : Int)) (BitVec.ofInt (64 : Nat) (0 : Int))
 (BitVec.ofInt (64 : Nat) (0 : Int)))
 (bytesOf (ByteArray.mk #[]))))
 (Tr.br
 (eeO
 (CM.mk
 (bytesOf
 (ByteArray.mk
 #[OfNat.ofNat (115 : Nat), OfNat.ofNat (110 : Nat), OfNat.ofNat (97 : Nat), OfNat.ofNat (112 : Nat),
 OfNat.ofNat (115 : Nat), OfNat.ofNat (104 : Nat), OfNat.ofNat (111 : Nat), OfNat.ofNat (116 : Nat)]))
 (bytesOf (ByteArray.mk #[])) n
 (W4.mk (BitVec.ofInt (64 : Nat) (0 : Int)) (BitVec.ofInt (64 : Nat) (0 : Int))
 (BitVec.ofInt (64 : Nat) (0 : Int)) (BitVec.ofInt (64 : Nat) (0 : Int)))
 (W4.mk (BitVec.ofInt (64 : Nat) (0 : Int)) (BitVec.ofInt (64 : Nat) (0 : Int))
 (BitVec.ofInt (64 : Nat) (0 : Int)) (BitVec.ofInt (64 : Nat) (0 : Int)))
 (bytesOf (ByteArray.mk #[])) (0 : Int) (bytesOf (ByteArray.mk #[])) (bytesOf (ByteArray.mk #[]))
 (BitVec.ofInt (64 : Nat) (0 : Int)) (BitVec.ofInt (64 : Nat) (0 : Int))
 (W4.mk (BitVec.ofInt (64 : Nat) (0 : Int)) (BitVec.ofInt (64 : Nat) (0 : Int))
 (BitVec.ofInt (64 : Nat) (0 : Int)) (BitVec.ofInt (64 : Nat) (0 : Int)))
 (W4.mk (BitVec.ofInt (64 : Nat) (0 : Int)) (BitVec.ofInt (64 : Nat) (0 : Int))
 (BitVec.ofInt (64 : Nat) (0 : Int)) (BitVec.ofInt (64 : Nat) (0 : Int)))
 (W4.mk (BitVec.ofInt (64 : Nat) (0 : Int)) (BitVec.ofInt (64 : Nat) (0 : Int))
 (BitVec.ofInt (64 : Nat) (0 : Int)) (BitVec.ofInt (64 : Nat) (0 : Int)))
 (bytesOf (ByteArray.mk #[]))))
 (Tr.chk true
 (Tr.leaf
 (Sum.inr
 (X.normal,
 [((0 : Nat), V.str a), ((1 : Nat), V.u64 n), ((3 : Nat), V.str s), ((6 : Nat), V.ptr (0 : Nat) (0 : Nat)),
 ((9 : Nat), V.bool true), ((11 : Nat), V.bool o1), ((13 : Nat), V.bool true)],
 [Blk.b64 [w.a, w.b, w.c, w.d]]))))
 (Tr.chk true
 (Tr.leaf
 (Sum.inr
 (X.normal,
 [((0 : Nat), V.str a), ((1 : Nat), V.u64 n), ((3 : Nat), V.str s), ((6 : Nat), V.ptr (0 : Nat) (0 : Nat)),
 ((9 : Nat), V.bool true), ((11 : Nat), V.bool o1), ((13 : Nat), V.bool false)],
 [Blk.b64 [w.a, w.b, w.c, w.d]]))))) := by kernel_rfl
theorem br4_x (a : List B) (s : List B) (n : BitVec 64) (w : W4) (o1 : Bool) (o2 : Bool) : Tr.prune (Tr.Sh.any.both
 Tr.Sh.any)
 (execBYE Pr OL2 noLoopsT (100 : Nat) Go.Proofs.Tryd.f4 (0 : Nat)
 (Tell.mk [(0 : Nat), (1 : Nat), (3 : Nat), (6 : Nat), (9 : Nat), (11 : Nat), (13 : Nat), (15 : Nat)] [(0 : Nat)] [])
 (Tell.mk [] [] []) (takeSeq (0 : Nat) (dropSeq (4 : Nat) barB))
 [((0 : Nat), V.str a), ((1 : Nat), V.u64 n), ((3 : Nat), V.str s), ((6 : Nat), V.ptr (0 : Nat) (0 : Nat)),
 ((9 : Nat), V.bool true), ((11 : Nat), V.bool o1), ((13 : Nat), V.bool o2)]
 [Blk.b64 [w.a, w.b, w.c, w.d]]) =
 Tr.chk
 (eeB
 (CM.mk
 (bytesOf
 (ByteArray.mk
 #[OfNat.ofNat (115 : Nat), OfNat.ofNat (110 : Nat), OfNat.ofNat (97 : Nat), OfNat.ofNat (112 : Nat),
 OfNat.ofNat (115 : Nat), OfNat.ofNat (104 : Nat), OfNat.ofNat (111 : Nat), OfNat.ofNat (116 : Nat)]))
 (bytesOf (ByteArray.mk #[])) (BitVec.ofInt (64 : Nat) (0 : Int)) w
 (W4.mk (BitVec.ofInt (64 : Nat) (0 : Int)) (BitVec.ofInt (64 : Nat) (0 : Int)) (BitVec.ofInt (64 : Nat) (0 : Int))
 (BitVec.ofInt (64 : Nat) (0 : Int)))
 (bytesOf (ByteArray.mk #[])) (0 : Int) (bytesOf (ByteArray.mk #[])) (bytesOf (ByteArray.mk #[]))
 (BitVec.ofInt (64 : Nat) (0 : Int)) (BitVec.ofInt (64 : Nat) (0 : Int))
 (W4.mk (BitVec.ofInt (64 : Nat) (0 : Int)) (BitVec.ofInt (64 : Nat) (0 : Int)) (BitVec.ofInt (64 : Nat) (0 : Int))
 (BitVec.ofInt (64 : Nat) (0 : Int)))
 (W4.mk (BitVec.ofInt (64 : Nat) (0 : Int)) (BitVec.ofInt (64 : Nat) (0 : Int)) (BitVec.ofInt (64 : Nat) (0 : Int))
 (BitVec.ofInt (64 : Nat) (0 : Int)))
 (W4.mk (BitVec.ofInt (64 : Nat) (0 : Int)) (BitVec.ofInt (64 : Nat) (0 : Int)) (BitVec.ofInt (64 : Nat) (0 : Int))
 (BitVec.ofInt (64 : Nat) (0 : Int)))
 (bytesOf (ByteArray.mk #[]))))
 (Tr.br
 (eeO
 (CM.mk
 (bytesOf
 (ByteArray.mk
 #[OfNat.ofNat (115 : Nat), OfNat.ofNat (110 : Nat), OfNat.ofNat (97 : Nat), OfNat.ofNat (112 : Nat),
 OfNat.ofNat (115 : Nat), OfNat.ofNat (104 : Nat), OfNat.ofNat (111 : Nat), OfNat.ofNat (116 : Nat)]))
 (bytesOf (ByteArray.mk #[])) (BitVec.ofInt (64 : Nat) (0 : Int)) w
 (W4.mk (BitVec.ofInt (64 : Nat) (0 : Int)) (BitVec.ofInt (64 : Nat) (0 : Int))
 (BitVec.ofInt (64 : Nat) (0 : Int)) (BitVec.ofInt (64 : Nat) (0 : Int)))
 (bytesOf (ByteArray.mk #[])) (0 : Int) (bytesOf (ByteArray.mk #[])) (bytesOf (ByteArray.mk #[]))
 (BitVec.ofInt (64 : Nat) (0 : Int)) (BitVec.ofInt (64 : Nat) (0 : Int))
 (W4.mk (BitVec.ofInt (64 : Nat) (0 : Int)) (BitVec.ofInt (64 : Nat) (0 : Int))
 (BitVec.ofInt (64 : Nat) (0 : Int)) (BitVec.ofInt (64 : Nat) (0 : Int)))
 (W4.mk (BitVec.ofInt (64 : Nat) (0 : Int)) (BitVec.ofInt (64 : Nat) (0 : Int))
 (BitVec.ofInt (64 : Nat) (0 : Int)) (BitVec.ofInt (64 : Nat) (0 : Int)))
 (W4.mk (BitVec.ofInt (64 : Nat) (0 : Int)) (BitVec.ofInt (64 : Nat) (0 : Int))
 (BitVec.ofInt (64 : Nat) (0 : Int)) (BitVec.ofInt (64 : Nat) (0 : Int)))
 (bytesOf (ByteArray.mk #[]))))
 (Tr.chk true
 (Tr.leaf
 (Sum.inr
 (X.normal,
 [((0 : Nat), V.str a), ((1 : Nat), V.u64 n), ((3 : Nat), V.str s), ((6 : Nat), V.ptr (0 : Nat) (0 : Nat)),
 ((9 : Nat), V.bool true), ((11 : Nat), V.bool o1), ((13 : Nat), V.bool o2), ((15 : Nat), V.bool true)],
 [Blk.b64 [w.a, w.b, w.c, w.d]]))))
 (Tr.chk true
 (Tr.leaf
 (Sum.inr
 (X.normal,
 [((0 : Nat), V.str a), ((1 : Nat), V.u64 n), ((3 : Nat), V.str s), ((6 : Nat), V.ptr (0 : Nat) (0 : Nat)),
 ((9 : Nat), V.bool true), ((11 : Nat), V.bool o1), ((13 : Nat), V.bool o2), ((15 : Nat), V.bool false)],
 [Blk.b64 [w.a, w.b, w.c, w.d]]))))) := by kernel_rfl
theorem br5_x (a : List B) (s : List B) (n : BitVec 64) (w : W4) (o1 : Bool) (o2 : Bool) (o3 : Bool) : Tr.prune (Tr.Sh.any.both
 Tr.Sh.any)
 (execBYE Pr OL2 noLoopsT (100 : Nat) Go.Proofs.Tryd.f4 (0 : Nat)
 (Tell.mk [(0 : Nat), (1 : Nat), (3 : Nat), (6 : Nat), (9 : Nat), (11 : Nat), (13 : Nat), (15 : Nat), (17 : Nat)]
 [(0 : Nat)] [])
 (Tell.mk [] [] []) (takeSeq (0 : Nat) (dropSeq (5 : Nat) barB))
 [((0 : Nat), V.str a), ((1 : Nat), V.u64 n), ((3 : Nat), V.str s), ((6 : Nat), V.ptr (0 : Nat) (0 : Nat)),
 ((9 : Nat), V.bool true), ((11 : Nat), V.bool o1), ((13 : Nat), V.bool o2), ((15 : Nat), V.bool o3)]
 [Blk.b64 [w.a, w.b, w.c, w.d]]) =
 Tr.chk
 (eeB
 (CM.mk
 (bytesOf
 (ByteArray.mk
 #[OfNat.ofNat (100 : Nat), OfNat.ofNat (117 : Nat), OfNat.ofNat (109 : Nat), OfNat.ofNat (112 : Nat)]))
 (bytesOf (ByteArray.mk #[])) (BitVec.ofInt (64 : Nat) (0 : Int))
 (W4.mk (BitVec.ofInt (64 : Nat) (0 : Int)) (BitVec.ofInt (64 : Nat) (0 : Int)) (BitVec.ofInt (64 : Nat) (0 : Int))
 (BitVec.ofInt (64 : Nat) (0 : Int)))
 (W4.mk (BitVec.ofInt (64 : Nat) (0 : Int)) (BitVec.ofInt (64 : Nat) (0 : Int)) (BitVec.ofInt (64 : Nat) (0 : Int))
 (BitVec.ofInt (64 : Nat) (0 : Int)))
 s (0 : Int) (bytesOf (ByteArray.mk #[])) (bytesOf (ByteArray.mk #[])) (BitVec.ofInt (64 : Nat) (0 : Int))
 (BitVec.ofInt (64 : Nat) (0 : Int))
 (W4.mk (BitVec.ofInt (64 : Nat) (0 : Int)) (BitVec.ofInt (64 : Nat) (0 : Int)) (BitVec.ofInt (64 : Nat) (0 : Int))
 (BitVec.ofInt (64 : Nat) (0 : Int)))
 (W4.mk (BitVec.ofInt (64 : Nat) (0 : Int)) (BitVec.ofInt (64 : Nat) (0 : Int)) (BitVec.ofInt (64 : Nat) (0 : Int))
 (BitVec.ofInt (64 : Nat) (0 : Int)))
 (W4.mk (BitVec.ofInt (64 : Nat) (0 : Int)) (BitVec.ofInt (64 : Nat) (0 : Int)) (BitVec.ofInt (64 : Nat) (0 : Int))
 (BitVec.ofInt (64 : Nat) (0 : Int)))
 (bytesOf (ByteArray.mk #[]))))
 (Tr.br
 (eeO
 (CM.mk
 (bytesOf
 (ByteArray.mk
 #[OfNat.ofNat (100 : Nat), OfNat.ofNat (117 : Nat), OfNat.ofNat (109 : Nat), OfNat.ofNat (112 : Nat)]))
 (bytesOf (ByteArray.mk #[])) (BitVec.ofInt (64 : Nat) (0 : Int))
 (W4.mk (BitVec.ofInt (64 : Nat) (0 : Int)) (BitVec.ofInt (64 : Nat) (0 : Int))
 (BitVec.ofInt (64 : Nat) (0 : Int)) (BitVec.ofInt (64 : Nat) (0 : Int)))
 (W4.mk (BitVec.ofInt (64 : Nat) (0 : Int)) (BitVec.ofInt (64 : Nat) (0 : Int))
 (BitVec.ofInt (64 : Nat) (0 : Int)) (BitVec.ofInt (64 : Nat) (0 : Int)))
 s (0 : Int) (bytesOf (ByteArray.mk #[])) (bytesOf (ByteArray.mk #[])) (BitVec.ofInt (64 : Nat) (0 : Int))
 (BitVec.ofInt (64 : Nat) (0 : Int))
 (W4.mk (BitVec.ofInt (64 : Nat) (0 : Int)) (BitVec.ofInt (64 : Nat) (0 : Int))
 (BitVec.ofInt (64 : Nat) (0 : Int)) (BitVec.ofInt (64 : Nat) (0 : Int)))
 (W4.mk (BitVec.ofInt (64 : Nat) (0 : Int)) (BitVec.ofInt (64 : Nat) (0 : Int))
 (BitVec.ofInt (64 : Nat) (0 : Int)) (BitVec.ofInt (64 : Nat) (0 : Int)))
 (W4.mk (BitVec.ofInt (64 : Nat) (0 : Int)) (BitVec.ofInt (64 : Nat) (0 : Int))
 (BitVec.ofInt (64 : Nat) (0 : Int)) (BitVec.ofInt (64 : Nat) (0 : Int)))
 (bytesOf (ByteArray.mk #[]))))
 (Tr.chk true
 (Tr.leaf
 (Sum.inr
 (X.normal,
 [((0 : Nat), V.str a), ((1 : Nat), V.u64 n), ((3 : Nat), V.str s), ((6 : Nat), V.ptr (0 : Nat) (0 : Nat)),
 ((9 : Nat), V.bool true), ((11 : Nat), V.bool o1), ((13 : Nat), V.bool o2), ((15 : Nat), V.bool o3),
 ((17 : Nat), V.bool true)],
 [Blk.b64 [w.a, w.b, w.c, w.d]]))))
 (Tr.chk true
 (Tr.leaf
 (Sum.inr
 (X.normal,
 [((0 : Nat), V.str a), ((1 : Nat), V.u64 n), ((3 : Nat), V.str s), ((6 : Nat), V.ptr (0 : Nat) (0 : Nat)),
 ((9 : Nat), V.bool true), ((11 : Nat), V.bool o1), ((13 : Nat), V.bool o2), ((15 : Nat), V.bool o3),
 ((17 : Nat), V.bool false)],
 [Blk.b64 [w.a, w.b, w.c, w.d]]))))) := by kernel_rfl
theorem br6_x (a : List B) (s : List B) (n : BitVec 64) (w : W4) (o1 : Bool) (o2 : Bool) (o3 : Bool) (o4 : Bool) : Tr.prune (Tr.Sh.any.both
 Tr.Sh.any)
 (execBYE Pr OL2 noLoopsT (100 : Nat) Go.Proofs.Tryd.f4 (0 : Nat)
 (Tell.mk
 [(0 : Nat), (1 : Nat), (3 : Nat), (6 : Nat), (9 : Nat), (11 : Nat), (13 : Nat), (15 : Nat), (17 : Nat), (19 : Nat)]
 [(0 : Nat)] [])
 (Tell.mk [] [] []) (takeSeq (0 : Nat) (dropSeq (6 : Nat) barB))
 [((0 : Nat), V.str a), ((1 : Nat), V.u64 n), ((3 : Nat), V.str s), ((6 : Nat), V.ptr (0 : Nat) (0 : Nat)),
 ((9 : Nat), V.bool true), ((11 : Nat), V.bool o1), ((13 : Nat), V.bool o2), ((15 : Nat), V.bool o3),
 ((17 : Nat), V.bool o4)]
 [Blk.b64 [w.a, w.b, w.c, w.d]]) =
 Tr.chk
 (eeB
 (CM.mk
 (bytesOf
 (ByteArray.mk
 #[OfNat.ofNat (109 : Nat), OfNat.ofNat (105 : Nat), OfNat.ofNat (110 : Nat), OfNat.ofNat (101 : Nat)]))
 (bytesOf (ByteArray.mk #[])) (BitVec.ofInt (64 : Nat) (1 : Int))
 (W4.mk (BitVec.ofInt (64 : Nat) (0 : Int)) (BitVec.ofInt (64 : Nat) (0 : Int)) (BitVec.ofInt (64 : Nat) (0 : Int))
 (BitVec.ofInt (64 : Nat) (0 : Int)))
 (W4.mk (BitVec.ofInt (64 : Nat) (0 : Int)) (BitVec.ofInt (64 : Nat) (0 : Int)) (BitVec.ofInt (64 : Nat) (0 : Int))
 (BitVec.ofInt (64 : Nat) (0 : Int)))
 (bytesOf (ByteArray.mk #[])) (0 : Int) (bytesOf (ByteArray.mk #[])) (bytesOf (ByteArray.mk #[])) n
 (BitVec.ofInt (64 : Nat) (0 : Int))
 (W4.mk (BitVec.ofInt (64 : Nat) (0 : Int)) (BitVec.ofInt (64 : Nat) (0 : Int)) (BitVec.ofInt (64 : Nat) (0 : Int))
 (BitVec.ofInt (64 : Nat) (0 : Int)))
 (W4.mk (BitVec.ofInt (64 : Nat) (0 : Int)) (BitVec.ofInt (64 : Nat) (0 : Int)) (BitVec.ofInt (64 : Nat) (0 : Int))
 (BitVec.ofInt (64 : Nat) (0 : Int)))
 (W4.mk (BitVec.ofInt (64 : Nat) (0 : Int)) (BitVec.ofInt (64 : Nat) (0 : Int)) (BitVec.ofInt (64 : Nat) (0 : Int))
 (BitVec.ofInt (64 : Nat) (0 : Int)))
 (bytesOf (ByteArray.mk #[]))))
 (Tr.br
 (eeO
 (CM.mk
 (bytesOf
 (ByteArray.mk
 #[OfNat.ofNat (109 : Nat), OfNat.ofNat (105 : Nat), OfNat.ofNat (110 : Nat), OfNat.ofNat (101 : Nat)]))
 (bytesOf (ByteArray.mk #[])) (BitVec.ofInt (64 : Nat) (1 : Int))
 (W4.mk (BitVec.ofInt (64 : Nat) (0 : Int)) (BitVec.ofInt (64 : Nat) (0 : Int))
 (BitVec.ofInt (64 : Nat) (0 : Int)) (BitVec.ofInt (64 : Nat) (0 : Int)))
 (W4.mk (BitVec.ofInt (64 : Nat) (0 : Int)) (BitVec.ofInt (64 : Nat) (0 : Int))
 (BitVec.ofInt (64 : Nat) (0 : Int)) (BitVec.ofInt (64 : Nat) (0 : Int)))
 (bytesOf (ByteArray.mk #[])) (0 : Int) (bytesOf (ByteArray.mk #[])) (bytesOf (ByteArray.mk #[])) n
 (BitVec.ofInt (64 : Nat) (0 : Int))
 (W4.mk (BitVec.ofInt (64 : Nat) (0 : Int)) (BitVec.ofInt (64 : Nat) (0 : Int))
 (BitVec.ofInt (64 : Nat) (0 : Int)) (BitVec.ofInt (64 : Nat) (0 : Int)))
 (W4.mk (BitVec.ofInt (64 : Nat) (0 : Int)) (BitVec.ofInt (64 : Nat) (0 : Int))
 (BitVec.ofInt (64 : Nat) (0 : Int)) (BitVec.ofInt (64 : Nat) (0 : Int)))
 (W4.mk (BitVec.ofInt (64 : Nat) (0 : Int)) (BitVec.ofInt (64 : Nat) (0 : Int))
 (BitVec.ofInt (64 : Nat) (0 : Int)) (BitVec.ofInt (64 : Nat) (0 : Int)))
 (bytesOf (ByteArray.mk #[]))))
 (Tr.chk true
 (Tr.leaf
 (Sum.inr
 (X.normal,
 [((0 : Nat), V.str a), ((1 : Nat), V.u64 n), ((3 : Nat), V.str s), ((6 : Nat), V.ptr (0 : Nat) (0 : Nat)),
 ((9 : Nat), V.bool true), ((11 : Nat), V.bool o1), ((13 : Nat), V.bool o2), ((15 : Nat), V.bool o3),
 ((17 : Nat), V.bool o4), ((19 : Nat), V.bool true)],
 [Blk.b64 [w.a, w.b, w.c, w.d]]))))
 (Tr.chk true
 (Tr.leaf
 (Sum.inr
 (X.normal,
 [((0 : Nat), V.str a), ((1 : Nat), V.u64 n), ((3 : Nat), V.str s), ((6 : Nat), V.ptr (0 : Nat) (0 : Nat)),
 ((9 : Nat), V.bool true), ((11 : Nat), V.bool o1), ((13 : Nat), V.bool o2), ((15 : Nat), V.bool o3),
 ((17 : Nat), V.bool o4), ((19 : Nat), V.bool false)],
 [Blk.b64 [w.a, w.b, w.c, w.d]]))))) := by kernel_rfl
def setLen (m : Int) : Op → Op
  | .makeSlice t _ _ => .makeSlice t (.const (.int .i64 m)) (.const (.int .i64 m))
  | op => op
def longR (m : Int) : Code := match takeSeq 0 (dropSeq 7 barB) with
  | .region id ops d => .region id ⟨ops.toList.map fun o => { o with op := setLen m o.op }⟩ d
  | c => c
theorem longR_eq : longR 32769 = takeSeq 0 (dropSeq 7 barB) := by kernel_rfl
theorem br7_x (m : Int) (a : List B) (s : List B) (n : BitVec 64) (w : W4) (o1 : Bool) (o2 : Bool) (o3 : Bool) (o4 : Bool) (o5 : Bool) : Tr.prune (Tr.Sh.any.both
 Tr.Sh.any)
 (execBYE Pr OL2 noLoopsT (100 : Nat) Go.Proofs.Tryd.f4 (0 : Nat)
 (Tell.mk
 [(0 : Nat), (1 : Nat), (3 : Nat), (6 : Nat), (9 : Nat), (11 : Nat), (13 : Nat), (15 : Nat), (17 : Nat), (19 : Nat),
 (21 : Nat)]
 [(0 : Nat)] [])
 (Tell.mk [] [] []) (longR m)
 [((0 : Nat), V.str a), ((1 : Nat), V.u64 n), ((3 : Nat), V.str s), ((6 : Nat), V.ptr (0 : Nat) (0 : Nat)),
 ((9 : Nat), V.bool true), ((11 : Nat), V.bool o1), ((13 : Nat), V.bool o2), ((15 : Nat), V.bool o3),
 ((17 : Nat), V.bool o4), ((19 : Nat), V.bool o5)]
 [Blk.b64 [w.a, w.b, w.c, w.d]]) =
 Tr.chk
 (decide ((0 : Int) ≤ m) && decide (m ≤ m) && decide (m ≤ (281474976710656 : Int)) &&
 decide (m.toNat * (1 : Nat) ≤ (281474976710656 : Nat)) &&
 decide ((List.replicate m.toNat (BitVec.ofInt (8 : Nat) (0 : Int))).length = m.toNat * (1 : Nat)) &&
 (decide ((0 : Nat) + m.toNat ≤ (List.replicate m.toNat (BitVec.ofInt (8 : Nat) (0 : Int))).length) &&
 eeB
 (CM.mk
 (bytesOf
 (ByteArray.mk
 #[OfNat.ofNat (108 : Nat), OfNat.ofNat (111 : Nat), OfNat.ofNat (97 : Nat), OfNat.ofNat (100 : Nat)]))
 (bytesOf (ByteArray.mk #[])) (BitVec.ofInt (64 : Nat) (0 : Int))
 (W4.mk (BitVec.ofInt (64 : Nat) (0 : Int)) (BitVec.ofInt (64 : Nat) (0 : Int))
 (BitVec.ofInt (64 : Nat) (0 : Int)) (BitVec.ofInt (64 : Nat) (0 : Int)))
 (W4.mk (BitVec.ofInt (64 : Nat) (0 : Int)) (BitVec.ofInt (64 : Nat) (0 : Int))
 (BitVec.ofInt (64 : Nat) (0 : Int)) (BitVec.ofInt (64 : Nat) (0 : Int)))
 (List.take m.toNat (List.replicate m.toNat (BitVec.ofInt (8 : Nat) (0 : Int)))) (0 : Int)
 (bytesOf (ByteArray.mk #[])) (bytesOf (ByteArray.mk #[])) (BitVec.ofInt (64 : Nat) (0 : Int))
 (BitVec.ofInt (64 : Nat) (0 : Int))
 (W4.mk (BitVec.ofInt (64 : Nat) (0 : Int)) (BitVec.ofInt (64 : Nat) (0 : Int))
 (BitVec.ofInt (64 : Nat) (0 : Int)) (BitVec.ofInt (64 : Nat) (0 : Int)))
 (W4.mk (BitVec.ofInt (64 : Nat) (0 : Int)) (BitVec.ofInt (64 : Nat) (0 : Int))
 (BitVec.ofInt (64 : Nat) (0 : Int)) (BitVec.ofInt (64 : Nat) (0 : Int)))
 (W4.mk (BitVec.ofInt (64 : Nat) (0 : Int)) (BitVec.ofInt (64 : Nat) (0 : Int))
 (BitVec.ofInt (64 : Nat) (0 : Int)) (BitVec.ofInt (64 : Nat) (0 : Int)))
 (bytesOf (ByteArray.mk #[])))))
 (Tr.br
 (eeO
 (CM.mk
 (bytesOf
 (ByteArray.mk
 #[OfNat.ofNat (108 : Nat), OfNat.ofNat (111 : Nat), OfNat.ofNat (97 : Nat), OfNat.ofNat (100 : Nat)]))
 (bytesOf (ByteArray.mk #[])) (BitVec.ofInt (64 : Nat) (0 : Int))
 (W4.mk (BitVec.ofInt (64 : Nat) (0 : Int)) (BitVec.ofInt (64 : Nat) (0 : Int))
 (BitVec.ofInt (64 : Nat) (0 : Int)) (BitVec.ofInt (64 : Nat) (0 : Int)))
 (W4.mk (BitVec.ofInt (64 : Nat) (0 : Int)) (BitVec.ofInt (64 : Nat) (0 : Int))
 (BitVec.ofInt (64 : Nat) (0 : Int)) (BitVec.ofInt (64 : Nat) (0 : Int)))
 (List.take m.toNat (List.replicate m.toNat (BitVec.ofInt (8 : Nat) (0 : Int)))) (0 : Int)
 (bytesOf (ByteArray.mk #[])) (bytesOf (ByteArray.mk #[])) (BitVec.ofInt (64 : Nat) (0 : Int))
 (BitVec.ofInt (64 : Nat) (0 : Int))
 (W4.mk (BitVec.ofInt (64 : Nat) (0 : Int)) (BitVec.ofInt (64 : Nat) (0 : Int))
 (BitVec.ofInt (64 : Nat) (0 : Int)) (BitVec.ofInt (64 : Nat) (0 : Int)))
 (W4.mk (BitVec.ofInt (64 : Nat) (0 : Int)) (BitVec.ofInt (64 : Nat) (0 : Int))
 (BitVec.ofInt (64 : Nat) (0 : Int)) (BitVec.ofInt (64 : Nat) (0 : Int)))
 (W4.mk (BitVec.ofInt (64 : Nat) (0 : Int)) (BitVec.ofInt (64 : Nat) (0 : Int))
 (BitVec.ofInt (64 : Nat) (0 : Int)) (BitVec.ofInt (64 : Nat) (0 : Int)))
 (bytesOf (ByteArray.mk #[]))))
 (Tr.chk true
 (Tr.leaf
 (Sum.inr
 (X.normal,
 [((0 : Nat), V.str a), ((1 : Nat), V.u64 n), ((3 : Nat), V.str s), ((6 : Nat), V.ptr (0 : Nat) (0 : Nat)),
 ((9 : Nat), V.bool true), ((11 : Nat), V.bool o1), ((13 : Nat), V.bool o2), ((15 : Nat), V.bool o3),
 ((17 : Nat), V.bool o4), ((19 : Nat), V.bool o5), ((21 : Nat), V.bool true)],
 [Blk.b64 [w.a, w.b, w.c, w.d]]))))
 (Tr.chk true
 (Tr.leaf
 (Sum.inr
 (X.normal,
 [((0 : Nat), V.str a), ((1 : Nat), V.u64 n), ((3 : Nat), V.str s), ((6 : Nat), V.ptr (0 : Nat) (0 : Nat)),
 ((9 : Nat), V.bool true), ((11 : Nat), V.bool o1), ((13 : Nat), V.bool o2), ((15 : Nat), V.bool o3),
 ((17 : Nat), V.bool o4), ((19 : Nat), V.bool o5), ((21 : Nat), V.bool false)],
 [Blk.b64 [w.a, w.b, w.c, w.d]]))))) := by kernel_rfl
theorem br8_x (a : List B) (s : List B) (n : BitVec 64) (w : W4) (o1 : Bool) (o2 : Bool) (o3 : Bool) (o4 : Bool) (o5 : Bool) (o6 : Bool) : Tr.prune ((((((Tr.Sh.any.l.both
 Tr.Sh.any.r).l.l.l.both
 Tr.Sh.any.r.r.r.r.r).l.l.l.both
 Tr.Sh.any.r.r.r.r.r.r.r.r.r).l.l.l.l.both
 Tr.Sh.any.r.r.r.r.r.r.r.r.r.r.r.r.r.r).l.l.l.both
 Tr.Sh.any.r.r.r.r.r.r.r.r.r.r.r.r.r.r.r.r.r.r).l.l.l.l.l)
 (execBR Pr OL2 noLoopsT (100 : Nat) Go.Proofs.Tryd.f4 (0 : Nat) (dropSeq (8 : Nat) barB)
 [((0 : Nat), V.str a), ((1 : Nat), V.u64 n), ((3 : Nat), V.str s), ((6 : Nat), V.ptr (0 : Nat) (0 : Nat)),
 ((9 : Nat), V.bool true), ((11 : Nat), V.bool o1), ((13 : Nat), V.bool o2), ((15 : Nat), V.bool o3),
 ((17 : Nat), V.bool o4), ((19 : Nat), V.bool o5), ((21 : Nat), V.bool o6)]
 [Blk.b64 [w.a, w.b, w.c, w.d]]) =
 Tr.chk true
 (Tr.br (o1 == ((↑a.length : Int) == (20 : Int)))
 (Tr.chk true
 (Tr.br (o2 == (n == BitVec.ofInt (64 : Nat) (0 : Int)))
 (Tr.chk true
 (Tr.br
 (o3 ==
 (w.a == BitVec.ofInt (64 : Nat) (0 : Int) &&
 (w.b == BitVec.ofInt (64 : Nat) (0 : Int) &&
 (w.c == BitVec.ofInt (64 : Nat) (0 : Int) && (w.d == BitVec.ofInt (64 : Nat) (0 : Int) && true)))))
 (Tr.chk true
 (Tr.br (o4 == (s == bytesOf (ByteArray.mk #[])))
 (Tr.chk true
 (Tr.br (o5 == (n == BitVec.ofInt (64 : Nat) (0 : Int)))
 (Tr.chk true (Tr.leaf (Fin.ret (V.bool !o6), [])))
 (Tr.chk true (Tr.leaf (Fin.ret (V.bool false), [])))))
 (Tr.chk true (Tr.leaf (Fin.ret (V.bool false), [])))))
 (Tr.chk true (Tr.leaf (Fin.ret (V.bool false), [])))))
 (Tr.chk true (Tr.leaf (Fin.ret (V.bool false), [])))))
 (Tr.chk true (Tr.leaf (Fin.ret (V.bool false), [])))) := by kernel_rfl
end
end Go.Proofs.YtbgiickegljpoaaDoor.K
end
section
open Go Go.Lh
namespace Go.Proofs.YtbgiickegljpoaaDoor.K
noncomputable section
set_option maxRecDepth 100000
def b1 (a : List B) : CM := { CM0 n_balance with ad := a }
def b2 (n : BitVec 64) : CM := { CM0 n_snapshot with n := n }
def b3 (w : W4) : CM := { CM0 n_snapshot with k := w }
def b4 (s : List B) : CM := { CM0 n_dump with s := s }
def b5 (n : BitVec 64) : CM := { CM0 n_mine with n := BitVec.ofInt 64 1, tn := n }
def b6 (m : Int) : CM := { CM0 n_load with s := List.take m.toNat (List.replicate m.toNat (BitVec.ofInt 8 0)) }
theorem fk_ba : fkP f_a n_balance := ⟨by decide, by decide⟩
theorem fk_sp : fkP f_e n_snapshot := ⟨by decide, by decide⟩
theorem fk_du : fkP f_e n_dump := ⟨by decide, by decide⟩
theorem fk_lo : fkP f_s n_load := ⟨by decide, by decide⟩
theorem eo1 (a : List B) : eeO (b1 a) = ((a.length : Int) == (20 : Int)) := by
  rw [eo_a (b1 a) fk_ba, eok_a, bareB_a]
  show (((a.length : Int) == (20 : Int)) && true) = _
  rw [Bool.and_true]
theorem eo2 (n : BitVec 64) : eeO (b2 n) = zn n := by
  rw [eo_e (b2 n) fk_sp, eok_e, bareB_e, Bool.and_true]
  show (zn n && true) = _
  rw [Bool.and_true]
theorem eo3 (w : W4) : eeO (b3 w) = zw w := by
  rw [eo_e (b3 w) fk_sp, eok_e, bareB_e, Bool.and_true]
  show (zw w && true) = _
  rw [Bool.and_true]
theorem eo4 (s : List B) : eeO (b4 s) = emp s := by
  rw [eo_e (b4 s) fk_du, eok_e, bareB_e, Bool.and_true]
  show (emp s && true) = _
  rw [Bool.and_true]
theorem eo5 (n : BitVec 64) : eeO (b5 n) = zn n := by
  rw [eo_n (b5 n) fk_mine, eok_n, bareB_n, Bool.and_true]
  show (zn n && true) = _
  rw [Bool.and_true]
theorem eo6 : eeO (b6 32769) = false := by
  rw [eo_s (b6 32769) fk_lo, eok_s]
  have h : decide (((b6 32769).s.length : Int) ≤ (32768 : Int)) = false := by
    refine decide_eq_false ?_
    show ¬ (((List.take (32769 : Int).toNat (List.replicate (32769 : Int).toNat (BitVec.ofInt 8 0))).length : Int) ≤ 32768)
    rw [List.length_take, List.length_replicate, Nat.min_self]
    decide
  rw [h]
  rw [Bool.false_and, Bool.and_false]
theorem bq (b : Bool) : (b == b) = true := by cases b <;> rfl
theorem cmdBare_fn (a s : List B) (n : BitVec 64) (w : W4) : LFn Pr 4 [.str a, .u64 n, w.v, .str s] [] (.ret (.bool true)) [] := by
  have p1 : eeB (b1 a) = true := eeB_t (ep_a (b1 a) fk_ba (by show 0 + 0 + 0 ≤ _; decide))
  have p2 : eeB (b2 n) = true := eeB_t (ep_e (b2 n) fk_sp (by show 0 + 0 + 0 ≤ _; decide))
  have p3 : eeB (b3 w) = true := eeB_t (ep_e (b3 w) fk_sp (by show 0 + 0 + 0 ≤ _; decide))
  have p4 : eeB (b4 s) = true := eeB_t (ep_e (b4 s) fk_du (by show 0 + 0 + 0 ≤ _; decide))
  have p5 : eeB (b5 n) = true := eeB_t (ep_n (b5 n) fk_mine (by show 0 + 0 + 0 ≤ _; decide))
  have p6 : ∀ m, eeB (b6 m) = true := fun m => eeB_t (ep_s (b6 m) fk_lo (by show 0 + 0 + 0 ≤ _; decide))
  obtain ⟨o1, q1⟩ : ∃ b, b = eeO (b1 a) := ⟨_, rfl⟩
  obtain ⟨o2, q2⟩ : ∃ b, b = eeO (b2 n) := ⟨_, rfl⟩
  obtain ⟨o3, q3⟩ : ∃ b, b = eeO (b3 w) := ⟨_, rfl⟩
  obtain ⟨o4, q4⟩ : ∃ b, b = eeO (b4 s) := ⟨_, rfl⟩
  obtain ⟨o5, q5⟩ : ∃ b, b = eeO (b5 n) := ⟨_, rfl⟩
  have H8 : EndsIn Pr Go.Proofs.Tryd.f4 0 (dropSeq 8 barB) [(0,.str a),(1,.u64 n),(3,.str s),(6,.ptr 0 0),(9,.bool true),(11,.bool o1),(13,.bool o2),(15,.bool o3),(17,.bool o4),(19,.bool o5),(21,.bool false)] [.b64 [w.a,w.b,w.c,w.d]] (.ret (.bool true)) [] := by
    refine EndsIn.last (L := noLoopsT) OL2_sound mixed noLoops_all (by kernel_rfl) (br8_x a s n w o1 o2 o3 o4 o5 false) ?_
    have h1 : (o1 == ((a.length : Int) == (20 : Int))) = true := by rw [q1, eo1]; exact bq _
    have h2 : (o2 == (n == BitVec.ofInt 64 0)) = true := by rw [q2, eo2]; exact bq _
    have h3 : (o3 == zw w) = true := by rw [q3, eo3]; exact bq _
    have h4 : (o4 == (s == bytesOf (ByteArray.mk #[]))) = true := by rw [q4, eo4]; exact bq _
    have h5 : (o5 == (n == BitVec.ofInt 64 0)) = true := by rw [q5, eo5]; exact bq _
    exact wp_chk_true.2 (wp_br.2 ⟨fun _ => wp_chk_true.2 (wp_br.2 ⟨fun _ => wp_chk_true.2 (wp_br.2 ⟨fun _ => wp_chk_true.2 (wp_br.2 ⟨fun _ => wp_chk_true.2 (wp_br.2 ⟨fun _ => wp_chk_true.2 (wp_leaf.2 rfl), fun e => absurd (h5.symm.trans e) (by decide)⟩), fun e => absurd (h4.symm.trans e) (by decide)⟩), fun e => absurd (h3.symm.trans e) (by decide)⟩), fun e => absurd (h2.symm.trans e) (by decide)⟩), fun e => absurd (h1.symm.trans e) (by decide)⟩)
  have H7 : EndsIn Pr Go.Proofs.Tryd.f4 0 (dropSeq 7 barB) [(0,.str a),(1,.u64 n),(3,.str s),(6,.ptr 0 0),(9,.bool true),(11,.bool o1),(13,.bool o2),(15,.bool o3),(17,.bool o4),(19,.bool o5)] [.b64 [w.a,w.b,w.c,w.d]] (.ret (.bool true)) [] := by
    have h7 := br7_x 32769 a s n w o1 o2 o3 o4 o5
    rw [longR_eq] at h7
    refine EndsIn.cutY (L := noLoopsT) 0 OL2_sound mixed (by kernel_rfl) noLoops_all (by kernel_rfl) h7 ?_
    refine wp_chk.2 ⟨?_, wp_br.2 ⟨fun e => absurd (eo6.symm.trans e) (by decide), fun _ => wp_chk_true.2 (wp_leaf.2 ⟨clo_nil, .inl ⟨_, _, rfl, H8⟩⟩)⟩⟩
    have hp : eeB (b6 32769) = true := p6 _
    have hl : (List.replicate (32769 : Int).toNat (BitVec.ofInt 8 0)).length = (32769 : Int).toNat * 1 := by rw [List.length_replicate, Nat.mul_one]
    refine Bool.and_eq_true_iff.2 ⟨?_, Bool.and_eq_true_iff.2 ⟨?_, hp⟩⟩
    · rw [decide_eq_true hl]; decide
    · refine decide_eq_true ?_
      rw [hl, Nat.mul_one, Nat.zero_add]
      exact Nat.le_refl _
  have H6 : EndsIn Pr Go.Proofs.Tryd.f4 0 (dropSeq 6 barB) [(0,.str a),(1,.u64 n),(3,.str s),(6,.ptr 0 0),(9,.bool true),(11,.bool o1),(13,.bool o2),(15,.bool o3),(17,.bool o4)] [.b64 [w.a,w.b,w.c,w.d]] (.ret (.bool true)) [] := by
    refine EndsIn.cutY (L := noLoopsT) 0 OL2_sound mixed (by kernel_rfl) noLoops_all (by kernel_rfl) (br6_x a s n w o1 o2 o3 o4) ?_
    refine wp_chk.2 ⟨p5, wp_br.2 ⟨fun e => wp_chk_true.2 (wp_leaf.2 ⟨clo_nil, .inl ⟨_, _, rfl, ?_⟩⟩), fun e => wp_chk_true.2 (wp_leaf.2 ⟨clo_nil, .inl ⟨_, _, rfl, ?_⟩⟩)⟩⟩
    · obtain rfl : o5 = true := q5.trans e
      exact H7
    · obtain rfl : o5 = false := q5.trans e
      exact H7
  have H5 : EndsIn Pr Go.Proofs.Tryd.f4 0 (dropSeq 5 barB) [(0,.str a),(1,.u64 n),(3,.str s),(6,.ptr 0 0),(9,.bool true),(11,.bool o1),(13,.bool o2),(15,.bool o3)] [.b64 [w.a,w.b,w.c,w.d]] (.ret (.bool true)) [] := by
    refine EndsIn.cutY (L := noLoopsT) 0 OL2_sound mixed (by kernel_rfl) noLoops_all (by kernel_rfl) (br5_x a s n w o1 o2 o3) ?_
    refine wp_chk.2 ⟨p4, wp_br.2 ⟨fun e => wp_chk_true.2 (wp_leaf.2 ⟨clo_nil, .inl ⟨_, _, rfl, ?_⟩⟩), fun e => wp_chk_true.2 (wp_leaf.2 ⟨clo_nil, .inl ⟨_, _, rfl, ?_⟩⟩)⟩⟩
    · obtain rfl : o4 = true := q4.trans e
      exact H6
    · obtain rfl : o4 = false := q4.trans e
      exact H6
  have H4 : EndsIn Pr Go.Proofs.Tryd.f4 0 (dropSeq 4 barB) [(0,.str a),(1,.u64 n),(3,.str s),(6,.ptr 0 0),(9,.bool true),(11,.bool o1),(13,.bool o2)] [.b64 [w.a,w.b,w.c,w.d]] (.ret (.bool true)) [] := by
    refine EndsIn.cutY (L := noLoopsT) 0 OL2_sound mixed (by kernel_rfl) noLoops_all (by kernel_rfl) (br4_x a s n w o1 o2) ?_
    refine wp_chk.2 ⟨p3, wp_br.2 ⟨fun e => wp_chk_true.2 (wp_leaf.2 ⟨clo_nil, .inl ⟨_, _, rfl, ?_⟩⟩), fun e => wp_chk_true.2 (wp_leaf.2 ⟨clo_nil, .inl ⟨_, _, rfl, ?_⟩⟩)⟩⟩
    · obtain rfl : o3 = true := q3.trans e
      exact H5
    · obtain rfl : o3 = false := q3.trans e
      exact H5
  have H3 : EndsIn Pr Go.Proofs.Tryd.f4 0 (dropSeq 3 barB) [(0,.str a),(1,.u64 n),(3,.str s),(6,.ptr 0 0),(9,.bool true),(11,.bool o1)] [.b64 [w.a,w.b,w.c,w.d]] (.ret (.bool true)) [] := by
    refine EndsIn.cutY (L := noLoopsT) 0 OL2_sound mixed (by kernel_rfl) noLoops_all (by kernel_rfl) (br3_x a s n w o1) ?_
    refine wp_chk.2 ⟨p2, wp_br.2 ⟨fun e => wp_chk_true.2 (wp_leaf.2 ⟨clo_nil, .inl ⟨_, _, rfl, ?_⟩⟩), fun e => wp_chk_true.2 (wp_leaf.2 ⟨clo_nil, .inl ⟨_, _, rfl, ?_⟩⟩)⟩⟩
    · obtain rfl : o2 = true := q2.trans e
      exact H4
    · obtain rfl : o2 = false := q2.trans e
      exact H4
  have H2 : EndsIn Pr Go.Proofs.Tryd.f4 0 (dropSeq 2 barB) [(0,.str a),(1,.u64 n),(3,.str s),(6,.ptr 0 0),(9,.bool true)] [.b64 [w.a,w.b,w.c,w.d]] (.ret (.bool true)) [] := by
    refine EndsIn.cutY (L := noLoopsT) 0 OL2_sound mixed (by kernel_rfl) noLoops_all (by kernel_rfl) (br2_x a s n w ) ?_
    refine wp_chk.2 ⟨p1, wp_br.2 ⟨fun e => wp_chk_true.2 (wp_leaf.2 ⟨clo_nil, .inl ⟨_, _, rfl, ?_⟩⟩), fun e => wp_chk_true.2 (wp_leaf.2 ⟨clo_nil, .inl ⟨_, _, rfl, ?_⟩⟩)⟩⟩
    · obtain rfl : o1 = true := q1.trans e
      exact H3
    · obtain rfl : o1 = false := q1.trans e
      exact H3
  refine EndsIn.done (fn := Go.Proofs.Tryd.f4) (by kernel_rfl) (by kernel_rfl) (by kernel_rfl) ?_
  refine EndsIn.cutY (L := noLoopsT) 2 OL2_sound mixed (by kernel_rfl) noLoops_all (by kernel_rfl) (br1_x a s n w) ?_
  exact wp_chk_true.2 (wp_leaf.2 ⟨clo_nil, .inl ⟨_, _, rfl, H2⟩⟩)
end
end Go.Proofs.YtbgiickegljpoaaDoor.K
end
