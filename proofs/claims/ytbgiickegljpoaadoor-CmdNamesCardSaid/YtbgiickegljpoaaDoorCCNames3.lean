/- The functions that this law reaches: what each comes to. -/
import Derived.Test.YtbgiickegljpoaaDoorCCNames2
set_option linter.unusedSimpArgs false
set_option linter.unusedVariables false
section
open Go Go.Lh
namespace Go.Proofs.YtbgiickegljpoaaDoor.K
noncomputable section
set_option maxRecDepth 100000
theorem bq (b : Bool) : (b == b) = true := by cases b <;> rfl
def lsh : Nat → Tr.Sh → Tr.Sh
  | 0, s => s
  | n + 1, s => (lsh n s).l
def allL : List (List B) := [n_send, n_call, n_mine, n_warp, n_auto, n_balance, n_nonce, n_code, n_slot, n_setbalance, n_setnonce, n_setcode, n_setslot, n_impersonate, n_stop, n_snapshot, n_revert, n_block, n_receipt, n_logs, n_dump, n_load]
def nmB : Code := bodyOf Go.Proofs.Tryd.f5
def nH : Heap := [.vals [.str n_send, .str n_call, .str n_mine, .str n_warp, .str n_auto, .str n_balance, .str n_nonce, .str n_code, .str n_slot, .str n_setbalance, .str n_setnonce, .str n_setcode, .str n_setslot, .str n_impersonate, .str n_stop, .str n_snapshot, .str n_revert, .str n_block, .str n_receipt, .str n_logs, .str n_dump, .str n_load]]
theorem na1_x (name : List B) (which : B) : Tr.prune Tr.Sh.any.r (execBYE Pr OL2 noLoopsT 100 Go.Proofs.Tryd.f5 0 ⟨[0,1,5,6],[0],[]⟩ ⟨[],[],[]⟩ (takeSeq 3 nmB) [(0,.str name),(1,.u8 which)] []) =
 .chk true (.leaf (.inr (.normal, [(0,.str name),(1,.u8 which),(5,.bool true),(6,.sl 0 0 1 22 (some 22))], nH))) := by kernel_rfl
theorem na2_x (name : List B) (which : B) : Tr.prune (Tr.Sh.any)
 (execB Pr OL2 noLoopsT (100 : Nat) (partA (6 : Nat) (dropSeq (3 : Nat) nmB))
 [((0 : Nat), V.str name), ((1 : Nat), V.u8 which), ((5 : Nat), V.bool true),
 ((6 : Nat), V.sl (0 : Nat) (0 : Nat) (1 : Nat) (22 : Nat) (some (22 : Nat)))]
 nH) =
 Tr.chk true
 (Tr.leaf
 (X.normal,
 [((0 : Nat), V.str name), ((1 : Nat), V.u8 which), ((5 : Nat), V.bool true),
 ((6 : Nat), V.sl (0 : Nat) (0 : Nat) (1 : Nat) (22 : Nat) (some (22 : Nat))),
 ((21 : Nat), V.sl (0 : Nat) (0 : Nat) (1 : Nat) (22 : Nat) (some (22 : Nat))), ((22 : Nat), V.u8 which),
 ((23 : Nat), V.int IntKind.i64 (↑(BitVec.toNat which) : Int)),
 ((24 : Nat), V.sl (0 : Nat) (0 : Nat) (1 : Nat) (22 : Nat) (some (22 : Nat))),
 ((25 : Nat), V.int IntKind.i64 (22 : Int)),
 ((26 : Nat), V.int IntKind.i64 ((↑(BitVec.toNat which) : Int).tmod (22 : Int)))],
 [Blk.vals
 [V.str n_send, V.str n_call, V.str n_mine, V.str n_warp, V.str n_auto, V.str n_balance, V.str n_nonce,
 V.str n_code, V.str n_slot, V.str n_setbalance, V.str n_setnonce, V.str n_setcode, V.str n_setslot,
 V.str n_impersonate, V.str n_stop, V.str n_snapshot, V.str n_revert, V.str n_block, V.str n_receipt,
 V.str n_logs, V.str n_dump, V.str n_load]])) := by kernel_rfl
theorem na3_x (name : List B) (s : List B) (cs : List V) : Tr.prune (Tr.Sh.any)
 (execBYE Pr OL2 noLoopsT (100 : Nat) Go.Proofs.Tryd.f5 (0 : Nat)
 (Tell.mk [(0 : Nat), (5 : Nat), (6 : Nat), (7 : Nat), (8 : Nat), (9 : Nat)] [(0 : Nat)] [(0 : Nat)])
 (Tell.mk [] [] []) (takeSeq (0 : Nat) (dropSeq (4 : Nat) nmB))
 [((0 : Nat), V.str name), ((5 : Nat), V.bool true),
 ((6 : Nat), V.sl (0 : Nat) (0 : Nat) (1 : Nat) (22 : Nat) (some (22 : Nat))), ((7 : Nat), V.str s)]
 [Blk.vals cs]) =
 Tr.chk true
 (Tr.leaf
 (Sum.inr
 (X.normal,
 [((0 : Nat), V.str name), ((5 : Nat), V.bool true),
 ((6 : Nat), V.sl (0 : Nat) (0 : Nat) (1 : Nat) (22 : Nat) (some (22 : Nat))), ((7 : Nat), V.str s),
 ((8 : Nat), V.str (lookS fieldsL s)), ((9 : Nat), V.bool (hasS fieldsL s))],
 [Blk.vals cs]))) := by kernel_rfl
theorem na4_x (name : List B) (s : List B) (f : List B) (ok : Bool) : Tr.prune (((lsh 145 Tr.Sh.any.r).both
 ((lsh 138 Tr.Sh.any.r).both
 ((lsh 131 Tr.Sh.any.r).both
 ((lsh 124 Tr.Sh.any.r).both
 ((lsh 117 Tr.Sh.any.r).both
 ((lsh 110 Tr.Sh.any.r).both
 ((lsh 103 Tr.Sh.any.r).both
 ((lsh 96 Tr.Sh.any.r).both
 ((lsh 89 Tr.Sh.any.r).both
 ((lsh 82 Tr.Sh.any.r).both
 ((lsh 75 Tr.Sh.any.r).both
 ((lsh 68 Tr.Sh.any.r).both
 ((lsh 61 Tr.Sh.any.r).both
 ((lsh 54 Tr.Sh.any.r).both
 ((lsh 47 Tr.Sh.any.r).both
 ((lsh 40 Tr.Sh.any.r).both
 ((lsh 33 Tr.Sh.any.r).both
 ((lsh 26 Tr.Sh.any.r).both
 ((lsh 19 Tr.Sh.any.r).both
 ((lsh 12 Tr.Sh.any.r).both
 (Tr.Sh.any.r.l.l.l.l.l.both
 Tr.Sh.any.r.r.r.r.r.r).l.r.r.r.r.r).l.r.r.r.r.r).l.r.r.r.r.r).l.r.r.r.r.r).l.r.r.r.r.r).l.r.r.r.r.r).l.r.r.r.r.r).l.r.r.r.r.r).l.r.r.r.r.r).l.r.r.r.r.r).l.r.r.r.r.r).l.r.r.r.r.r).l.r.r.r.r.r).l.r.r.r.r.r).l.r.r.r.r.r).l.r.r.r.r.r).l.r.r.r.r.r).l.r.r.r.r.r).l.r.r.r.r.r).l.r.r.r.r.r).l.r.r.r.r.r.r.l)
 (execBYE Pr OL2 noLoopsT (100 : Nat) Go.Proofs.Tryd.f5 (0 : Nat)
 (Tell.mk [(0 : Nat), (5 : Nat), (7 : Nat), (8 : Nat), (9 : Nat), (10 : Nat)] [] []) (Tell.mk [] [] [])
 (takeSeq (1 : Nat) (dropSeq (5 : Nat) nmB))
 [((0 : Nat), V.str name), ((5 : Nat), V.bool true),
 ((6 : Nat), V.sl (0 : Nat) (0 : Nat) (1 : Nat) (22 : Nat) (some (22 : Nat))), ((7 : Nat), V.str s),
 ((8 : Nat), V.str f), ((9 : Nat), V.bool ok)]
 nH) =
 Tr.chk true
 (Tr.br (n_send == name)
 (Tr.chk true
 (Tr.leaf
 (Sum.inr
 (X.normal,
 [((0 : Nat), V.str name), ((5 : Nat), V.bool true), ((7 : Nat), V.str s), ((8 : Nat), V.str f),
 ((9 : Nat), V.bool ok), ((10 : Nat), V.bool true)],
 []))))
 (Tr.chk true
 (Tr.br (n_call == name)
 (Tr.chk true
 (Tr.leaf
 (Sum.inr
 (X.normal,
 [((0 : Nat), V.str name), ((5 : Nat), V.bool true), ((7 : Nat), V.str s), ((8 : Nat), V.str f),
 ((9 : Nat), V.bool ok), ((10 : Nat), V.bool true)],
 []))))
 (Tr.chk true
 (Tr.br (n_mine == name)
 (Tr.chk true
 (Tr.leaf
 (Sum.inr
 (X.normal,
 [((0 : Nat), V.str name), ((5 : Nat), V.bool true), ((7 : Nat), V.str s), ((8 : Nat), V.str f),
 ((9 : Nat), V.bool ok), ((10 : Nat), V.bool true)],
 []))))
 (Tr.chk true
 (Tr.br (n_warp == name)
 (Tr.chk true
 (Tr.leaf
 (Sum.inr
 (X.normal,
 [((0 : Nat), V.str name), ((5 : Nat), V.bool true), ((7 : Nat), V.str s), ((8 : Nat), V.str f),
 ((9 : Nat), V.bool ok), ((10 : Nat), V.bool true)],
 []))))
 (Tr.chk true
 (Tr.br (n_auto == name)
 (Tr.chk true
 (Tr.leaf
 (Sum.inr
 (X.normal,
 [((0 : Nat), V.str name), ((5 : Nat), V.bool true), ((7 : Nat), V.str s),
 ((8 : Nat), V.str f), ((9 : Nat), V.bool ok), ((10 : Nat), V.bool true)],
 []))))
 (Tr.chk true
 (Tr.br (n_balance == name)
 (Tr.chk true
 (Tr.leaf
 (Sum.inr
 (X.normal,
 [((0 : Nat), V.str name), ((5 : Nat), V.bool true), ((7 : Nat), V.str s),
 ((8 : Nat), V.str f), ((9 : Nat), V.bool ok), ((10 : Nat), V.bool true)],
 []))))
 (Tr.chk true
 (Tr.br (n_nonce == name)
 (Tr.chk true
 (Tr.leaf
 (Sum.inr
 (X.normal,
 [((0 : Nat), V.str name), ((5 : Nat), V.bool true), ((7 : Nat), V.str s),
 ((8 : Nat), V.str f), ((9 : Nat), V.bool ok), ((10 : Nat), V.bool true)],
 []))))
 (Tr.chk true
 (Tr.br (n_code == name)
 (Tr.chk true
 (Tr.leaf
 (Sum.inr
 (X.normal,
 [((0 : Nat), V.str name), ((5 : Nat), V.bool true), ((7 : Nat), V.str s),
 ((8 : Nat), V.str f), ((9 : Nat), V.bool ok), ((10 : Nat), V.bool true)],
 []))))
 (Tr.chk true
 (Tr.br (n_slot == name)
 (Tr.chk true
 (Tr.leaf
 (Sum.inr
 (X.normal,
 [((0 : Nat), V.str name), ((5 : Nat), V.bool true), ((7 : Nat), V.str s),
 ((8 : Nat), V.str f), ((9 : Nat), V.bool ok), ((10 : Nat), V.bool true)],
 []))))
 (Tr.chk true
 (Tr.br (n_setbalance == name)
 (Tr.chk true
 (Tr.leaf
 (Sum.inr
 (X.normal,
 [((0 : Nat), V.str name), ((5 : Nat), V.bool true),
 ((7 : Nat), V.str s), ((8 : Nat), V.str f), ((9 : Nat), V.bool ok),
 ((10 : Nat), V.bool true)],
 []))))
 (Tr.chk true
 (Tr.br (n_setnonce == name)
 (Tr.chk true
 (Tr.leaf
 (Sum.inr
 (X.normal,
 [((0 : Nat), V.str name), ((5 : Nat), V.bool true),
 ((7 : Nat), V.str s), ((8 : Nat), V.str f),
 ((9 : Nat), V.bool ok), ((10 : Nat), V.bool true)],
 []))))
 (Tr.chk true
 (Tr.br (n_setcode == name)
 (Tr.chk true
 (Tr.leaf
 (Sum.inr
 (X.normal,
 [((0 : Nat), V.str name), ((5 : Nat), V.bool true),
 ((7 : Nat), V.str s), ((8 : Nat), V.str f),
 ((9 : Nat), V.bool ok), ((10 : Nat), V.bool true)],
 []))))
 (Tr.chk true
 (Tr.br (n_setslot == name)
 (Tr.chk true
 (Tr.leaf
 (Sum.inr
 (X.normal,
 [((0 : Nat), V.str name), ((5 : Nat), V.bool true),
 ((7 : Nat), V.str s), ((8 : Nat), V.str f),
 ((9 : Nat), V.bool ok), ((10 : Nat), V.bool true)],
 []))))
 (Tr.chk true
 (Tr.br (n_impersonate == name)
 (Tr.chk true
 (Tr.leaf
 (Sum.inr
 (X.normal,
 [((0 : Nat), V.str name), ((5 : Nat), V.bool true),
 ((7 : Nat), V.str s), ((8 : Nat), V.str f),
 ((9 : Nat), V.bool ok), ((10 : Nat), V.bool true)],
 []))))
 (Tr.chk true
 (Tr.br (n_stop == name)
 (Tr.chk true
 (Tr.leaf
 (Sum.inr
 (X.normal,
 [((0 : Nat), V.str name), ((5 : Nat), V.bool true),
 ((7 : Nat), V.str s), ((8 : Nat), V.str f),
 ((9 : Nat), V.bool ok),
 ((10 : Nat), V.bool true)],
 []))))
 (Tr.chk true
 (Tr.br (n_snapshot == name)
 (Tr.chk true
 (Tr.leaf
 (Sum.inr
 (X.normal,
 [((0 : Nat), V.str name),
 ((5 : Nat), V.bool true),
 ((7 : Nat), V.str s), ((8 : Nat), V.str f),
 ((9 : Nat), V.bool ok),
 ((10 : Nat), V.bool true)],
 []))))
 (Tr.chk true
 (Tr.br (n_revert == name)
 (Tr.chk true
 (Tr.leaf
 (Sum.inr
 (X.normal,
 [((0 : Nat), V.str name),
 ((5 : Nat), V.bool true),
 ((7 : Nat), V.str s),
 ((8 : Nat), V.str f),
 ((9 : Nat), V.bool ok),
 ((10 : Nat), V.bool true)],
 []))))
 (Tr.chk true
 (Tr.br (n_block == name)
 (Tr.chk true
 (Tr.leaf
 (Sum.inr
 (X.normal,
 [((0 : Nat), V.str name),
 ((5 : Nat), V.bool true),
 ((7 : Nat), V.str s),
 ((8 : Nat), V.str f),
 ((9 : Nat), V.bool ok),
 ((10 : Nat), V.bool true)],
 []))))
 (Tr.chk true
 (Tr.br (n_receipt == name)
 (Tr.chk true
 (Tr.leaf
 (Sum.inr
 (X.normal,
 [((0 : Nat), V.str name),
 ((5 : Nat), V.bool true),
 ((7 : Nat), V.str s),
 ((8 : Nat), V.str f),
 ((9 : Nat), V.bool ok),
 ((10 : Nat), V.bool true)],
 []))))
 (Tr.chk true
 (Tr.br (n_logs == name)
 (Tr.chk true
 (Tr.leaf
 (Sum.inr
 (X.normal,
 [((0 : Nat), V.str name),
 ((5 : Nat), V.bool true),
 ((7 : Nat), V.str s),
 ((8 : Nat), V.str f),
 ((9 : Nat), V.bool ok),
 ((10 : Nat), V.bool true)],
 []))))
 (Tr.chk true
 (Tr.br (n_dump == name)
 (Tr.chk true
 (Tr.leaf
 (Sum.inr
 (X.normal,
 [((0 : Nat), V.str name),
 ((5 : Nat), V.bool true),
 ((7 : Nat), V.str s),
 ((8 : Nat), V.str f),
 ((9 : Nat), V.bool ok),
 ((10 : Nat),
 V.bool true)],
 []))))
 (Tr.chk true
 (Tr.leaf
 (Sum.inr
 (X.normal,
 [((0 : Nat), V.str name),
 ((5 : Nat), V.bool true),
 ((7 : Nat), V.str s),
 ((8 : Nat), V.str f),
 ((9 : Nat), V.bool ok),
 ((10 : Nat),
 V.bool
 (n_load == name))],
 []))))))))))))))))))))))))))))))))))))))))))))) := by kernel_rfl
theorem na5_x (name : List B) (s : List B) (f : List B) (ok : Bool) (known : Bool) : Tr.prune (Tr.Sh.any)
 (execBYE Pr OL2 noLoopsT (100 : Nat) Go.Proofs.Tryd.f5 (0 : Nat)
 (Tell.mk [(0 : Nat), (5 : Nat), (7 : Nat), (8 : Nat), (9 : Nat), (10 : Nat), (12 : Nat), (13 : Nat)] [] [])
 (Tell.mk [] [] []) (takeSeq (0 : Nat) (dropSeq (7 : Nat) nmB))
 [((0 : Nat), V.str name), ((5 : Nat), V.bool true), ((7 : Nat), V.str s), ((8 : Nat), V.str f),
 ((9 : Nat), V.bool ok), ((10 : Nat), V.bool known)]
 []) =
 Tr.chk true
 (Tr.leaf
 (Sum.inr
 (X.normal,
 [((0 : Nat), V.str name), ((5 : Nat), V.bool true), ((7 : Nat), V.str s), ((8 : Nat), V.str f),
 ((9 : Nat), V.bool ok), ((10 : Nat), V.bool known), ((12 : Nat), V.str (lookS fieldsL name)),
 ((13 : Nat), V.bool (hasS fieldsL name))],
 []))) := by kernel_rfl
theorem na7_x (name : List B) (s : List B) (f : List B) (g : List B) (ok : Bool) (known : Bool) (is : Bool) : Tr.prune (Tr.Sh.any.l.l.both
 Tr.Sh.any.r.r)
 (execBYE Pr OL2 noLoopsT (100 : Nat) Go.Proofs.Tryd.f5 (0 : Nat)
 (Tell.mk [(0 : Nat), (5 : Nat), (7 : Nat), (8 : Nat), (9 : Nat), (10 : Nat), (12 : Nat), (13 : Nat), (16 : Nat)] []
 [])
 (Tell.mk [] [] []) (takeSeq (0 : Nat) (dropSeq (9 : Nat) nmB))
 [((0 : Nat), V.str name), ((5 : Nat), V.bool true), ((7 : Nat), V.str s), ((8 : Nat), V.str f),
 ((9 : Nat), V.bool ok), ((10 : Nat), V.bool known), ((12 : Nat), V.str g), ((13 : Nat), V.bool is)]
 []) =
 Tr.chk true
 (Tr.br (decide ((↑s.length : Int) > (3 : Int)))
 (Tr.chk (decide ((some (3 : Int)).getD (↑s.length : Int) ≤ (↑s.length : Int)) && true)
 (Tr.leaf
 (Sum.inr
 (X.normal,
 [((0 : Nat), V.str name), ((5 : Nat), V.bool true), ((7 : Nat), V.str s), ((8 : Nat), V.str f),
 ((9 : Nat), V.bool ok), ((10 : Nat), V.bool known), ((12 : Nat), V.str g), ((13 : Nat), V.bool is),
 ((16 : Nat),
 V.bool
 (List.take ((some (3 : Int)).getD (↑s.length : Int)).toNat s ==
 bytesOf
 (ByteArray.mk #[OfNat.ofNat (115 : Nat), OfNat.ofNat (101 : Nat), OfNat.ofNat (116 : Nat)])))],
 []))))
 (Tr.chk true
 (Tr.leaf
 (Sum.inr
 (X.normal,
 [((0 : Nat), V.str name), ((5 : Nat), V.bool true), ((7 : Nat), V.str s), ((8 : Nat), V.str f),
 ((9 : Nat), V.bool ok), ((10 : Nat), V.bool known), ((12 : Nat), V.str g), ((13 : Nat), V.bool is),
 ((16 : Nat), V.bool false)],
 []))))) := by kernel_rfl
theorem na8_x (name : List B) (s : List B) (f : List B) (g : List B) (ok : Bool) (known : Bool) (is : Bool) (set : Bool) : Tr.prune ((((((Tr.Sh.any.l.l.l.l.both
 (Tr.Sh.any.l.r.l.l.both Tr.Sh.any.l.r.r.r).r.r).l.l.l.l.l.l.l.both
 (((Tr.Sh.any.l.l.l.l.both (Tr.Sh.any.l.r.l.l.both Tr.Sh.any.l.r.r.r).r.r).l.l.both
 Tr.Sh.any.r.r.r).l.r.l.l.both
 Tr.Sh.any.r.r.r.r.l.r.r.r).r.r).l.both
 Tr.Sh.any.r.r.r.r.r.r).l.l.both
 Tr.Sh.any.r.r.r.r.r.r.r.r.r).l.l.both
 Tr.Sh.any.r.r.r.r.r.r.r.r.r.r.r.r).l)
 (execBR Pr OL2 noLoopsT (100 : Nat) Go.Proofs.Tryd.f5 (0 : Nat) (dropSeq (10 : Nat) nmB)
 [((0 : Nat), V.str name), ((5 : Nat), V.bool true), ((7 : Nat), V.str s), ((8 : Nat), V.str f),
 ((9 : Nat), V.bool ok), ((10 : Nat), V.bool known), ((12 : Nat), V.str g), ((13 : Nat), V.bool is),
 ((16 : Nat), V.bool set)]
 []) =
 Tr.chk true
 (Tr.br ok
 (Tr.chk true
 (Tr.br (decide ((↑f.length : Int) ≤ (3 : Int)))
 (Tr.chk true
 (Tr.br (is == known)
 (Tr.chk true
 (Tr.br known
 (Tr.chk true
 (Tr.br (!set) (Tr.chk true (Tr.leaf (Fin.ret (V.bool true), [])))
 (Tr.chk true
 (Tr.br (chgB s)
 (Tr.chk (decide ((0 : Int) < (↑f.length : Int)) && true)
 (Tr.leaf
 (Fin.ret
 (V.bool
 (f.getD (0 : Nat) (OfNat.ofNat (0 : Nat)) == BitVec.ofInt (8 : Nat) (97 : Int))),
 [])))
 (Tr.chk true (Tr.leaf (Fin.ret (V.bool false), [])))))))
 (Tr.chk true
 (Tr.br (g == bytesOf (ByteArray.mk #[]))
 (Tr.chk true
 (Tr.br (!chgB name)
 (Tr.chk true
 (Tr.br (!set) (Tr.chk true (Tr.leaf (Fin.ret (V.bool true), [])))
 (Tr.chk true
 (Tr.br (chgB s)
 (Tr.chk (decide ((0 : Int) < (↑f.length : Int)) && true)
 (Tr.leaf
 (Fin.ret
 (V.bool
 (f.getD (0 : Nat) (OfNat.ofNat (0 : Nat)) ==
 BitVec.ofInt (8 : Nat) (97 : Int))),
 [])))
 (Tr.chk true (Tr.leaf (Fin.ret (V.bool false), [])))))))
 (Tr.chk true (Tr.leaf (Fin.ret (V.bool false), [])))))
 (Tr.chk true (Tr.leaf (Fin.ret (V.bool false), [])))))))
 (Tr.chk true (Tr.leaf (Fin.ret (V.bool false), [])))))
 (Tr.chk true (Tr.leaf (Fin.ret (V.bool false), [])))))
 (Tr.chk true (Tr.leaf (Fin.ret (V.bool false), [])))) := by kernel_rfl
theorem na6_t_x (name : List B) (s : List B) (g : List B) (ok : Bool) (known : Bool) (is : Bool) : Tr.prune (Tr.Sh.any.r.r.l)
 (execBYE Pr OL2 noLoopsT (100 : Nat) Go.Proofs.Tryd.f5 (0 : Nat)
 (Tell.mk [(0 : Nat), (5 : Nat), (7 : Nat), (8 : Nat), (9 : Nat), (10 : Nat), (12 : Nat), (13 : Nat)] [] [])
 (Tell.mk [] [] []) (takeSeq (0 : Nat) (dropSeq (8 : Nat) nmB))
 [((0 : Nat), V.str name), ((5 : Nat), V.bool true), ((7 : Nat), V.str s), ((8 : Nat), V.str f_t),
 ((9 : Nat), V.bool ok), ((10 : Nat), V.bool known), ((12 : Nat), V.str g), ((13 : Nat), V.bool is)]
 []) =
 Tr.chk true
 (Tr.leaf
 (Sum.inr
 (X.normal,
 [((0 : Nat), V.str name), ((5 : Nat), V.bool true), ((7 : Nat), V.str s), ((8 : Nat), V.str f_t),
 ((9 : Nat), V.bool ok), ((10 : Nat), V.bool known), ((12 : Nat), V.str g), ((13 : Nat), V.bool is)],
 []))) := by kernel_rfl
theorem na6_n_x (name : List B) (s : List B) (g : List B) (ok : Bool) (known : Bool) (is : Bool) : Tr.prune (Tr.Sh.any.r.r.l)
 (execBYE Pr OL2 noLoopsT (100 : Nat) Go.Proofs.Tryd.f5 (0 : Nat)
 (Tell.mk [(0 : Nat), (5 : Nat), (7 : Nat), (8 : Nat), (9 : Nat), (10 : Nat), (12 : Nat), (13 : Nat)] [] [])
 (Tell.mk [] [] []) (takeSeq (0 : Nat) (dropSeq (8 : Nat) nmB))
 [((0 : Nat), V.str name), ((5 : Nat), V.bool true), ((7 : Nat), V.str s), ((8 : Nat), V.str f_n),
 ((9 : Nat), V.bool ok), ((10 : Nat), V.bool known), ((12 : Nat), V.str g), ((13 : Nat), V.bool is)]
 []) =
 Tr.chk true
 (Tr.leaf
 (Sum.inr
 (X.normal,
 [((0 : Nat), V.str name), ((5 : Nat), V.bool true), ((7 : Nat), V.str s), ((8 : Nat), V.str f_n),
 ((9 : Nat), V.bool ok), ((10 : Nat), V.bool known), ((12 : Nat), V.str g), ((13 : Nat), V.bool is)],
 []))) := by kernel_rfl
theorem na6_a_x (name : List B) (s : List B) (g : List B) (ok : Bool) (known : Bool) (is : Bool) : Tr.prune (Tr.Sh.any.r.r.l)
 (execBYE Pr OL2 noLoopsT (100 : Nat) Go.Proofs.Tryd.f5 (0 : Nat)
 (Tell.mk [(0 : Nat), (5 : Nat), (7 : Nat), (8 : Nat), (9 : Nat), (10 : Nat), (12 : Nat), (13 : Nat)] [] [])
 (Tell.mk [] [] []) (takeSeq (0 : Nat) (dropSeq (8 : Nat) nmB))
 [((0 : Nat), V.str name), ((5 : Nat), V.bool true), ((7 : Nat), V.str s), ((8 : Nat), V.str f_a),
 ((9 : Nat), V.bool ok), ((10 : Nat), V.bool known), ((12 : Nat), V.str g), ((13 : Nat), V.bool is)]
 []) =
 Tr.chk true
 (Tr.leaf
 (Sum.inr
 (X.normal,
 [((0 : Nat), V.str name), ((5 : Nat), V.bool true), ((7 : Nat), V.str s), ((8 : Nat), V.str f_a),
 ((9 : Nat), V.bool ok), ((10 : Nat), V.bool known), ((12 : Nat), V.str g), ((13 : Nat), V.bool is)],
 []))) := by kernel_rfl
theorem na6_ak_x (name : List B) (s : List B) (g : List B) (ok : Bool) (known : Bool) (is : Bool) : Tr.prune (Tr.Sh.any.r.r.r.l.l.r.l)
 (execBYE Pr OL2 noLoopsT (100 : Nat) Go.Proofs.Tryd.f5 (0 : Nat)
 (Tell.mk [(0 : Nat), (5 : Nat), (7 : Nat), (8 : Nat), (9 : Nat), (10 : Nat), (12 : Nat), (13 : Nat)] [] [])
 (Tell.mk [] [] []) (takeSeq (0 : Nat) (dropSeq (8 : Nat) nmB))
 [((0 : Nat), V.str name), ((5 : Nat), V.bool true), ((7 : Nat), V.str s), ((8 : Nat), V.str f_ak),
 ((9 : Nat), V.bool ok), ((10 : Nat), V.bool known), ((12 : Nat), V.str g), ((13 : Nat), V.bool is)]
 []) =
 Tr.chk true
 (Tr.leaf
 (Sum.inr
 (X.normal,
 [((0 : Nat), V.str name), ((5 : Nat), V.bool true), ((7 : Nat), V.str s), ((8 : Nat), V.str f_ak),
 ((9 : Nat), V.bool ok), ((10 : Nat), V.bool known), ((12 : Nat), V.str g), ((13 : Nat), V.bool is)],
 []))) := by kernel_rfl
theorem na6_av_x (name : List B) (s : List B) (g : List B) (ok : Bool) (known : Bool) (is : Bool) : Tr.prune (Tr.Sh.any.r.r.r.l.l.r.l)
 (execBYE Pr OL2 noLoopsT (100 : Nat) Go.Proofs.Tryd.f5 (0 : Nat)
 (Tell.mk [(0 : Nat), (5 : Nat), (7 : Nat), (8 : Nat), (9 : Nat), (10 : Nat), (12 : Nat), (13 : Nat)] [] [])
 (Tell.mk [] [] []) (takeSeq (0 : Nat) (dropSeq (8 : Nat) nmB))
 [((0 : Nat), V.str name), ((5 : Nat), V.bool true), ((7 : Nat), V.str s), ((8 : Nat), V.str f_av),
 ((9 : Nat), V.bool ok), ((10 : Nat), V.bool known), ((12 : Nat), V.str g), ((13 : Nat), V.bool is)]
 []) =
 Tr.chk true
 (Tr.leaf
 (Sum.inr
 (X.normal,
 [((0 : Nat), V.str name), ((5 : Nat), V.bool true), ((7 : Nat), V.str s), ((8 : Nat), V.str f_av),
 ((9 : Nat), V.bool ok), ((10 : Nat), V.bool known), ((12 : Nat), V.str g), ((13 : Nat), V.bool is)],
 []))) := by kernel_rfl
theorem na6_an_x (name : List B) (s : List B) (g : List B) (ok : Bool) (known : Bool) (is : Bool) : Tr.prune (Tr.Sh.any.r.r.r.l.l.r.l)
 (execBYE Pr OL2 noLoopsT (100 : Nat) Go.Proofs.Tryd.f5 (0 : Nat)
 (Tell.mk [(0 : Nat), (5 : Nat), (7 : Nat), (8 : Nat), (9 : Nat), (10 : Nat), (12 : Nat), (13 : Nat)] [] [])
 (Tell.mk [] [] []) (takeSeq (0 : Nat) (dropSeq (8 : Nat) nmB))
 [((0 : Nat), V.str name), ((5 : Nat), V.bool true), ((7 : Nat), V.str s), ((8 : Nat), V.str f_an),
 ((9 : Nat), V.bool ok), ((10 : Nat), V.bool known), ((12 : Nat), V.str g), ((13 : Nat), V.bool is)]
 []) =
 Tr.chk true
 (Tr.leaf
 (Sum.inr
 (X.normal,
 [((0 : Nat), V.str name), ((5 : Nat), V.bool true), ((7 : Nat), V.str s), ((8 : Nat), V.str f_an),
 ((9 : Nat), V.bool ok), ((10 : Nat), V.bool known), ((12 : Nat), V.str g), ((13 : Nat), V.bool is)],
 []))) := by kernel_rfl
theorem na6_as_x (name : List B) (s : List B) (g : List B) (ok : Bool) (known : Bool) (is : Bool) : Tr.prune (Tr.Sh.any.r.r.r.l.l.r.l)
 (execBYE Pr OL2 noLoopsT (100 : Nat) Go.Proofs.Tryd.f5 (0 : Nat)
 (Tell.mk [(0 : Nat), (5 : Nat), (7 : Nat), (8 : Nat), (9 : Nat), (10 : Nat), (12 : Nat), (13 : Nat)] [] [])
 (Tell.mk [] [] []) (takeSeq (0 : Nat) (dropSeq (8 : Nat) nmB))
 [((0 : Nat), V.str name), ((5 : Nat), V.bool true), ((7 : Nat), V.str s), ((8 : Nat), V.str f_as),
 ((9 : Nat), V.bool ok), ((10 : Nat), V.bool known), ((12 : Nat), V.str g), ((13 : Nat), V.bool is)]
 []) =
 Tr.chk true
 (Tr.leaf
 (Sum.inr
 (X.normal,
 [((0 : Nat), V.str name), ((5 : Nat), V.bool true), ((7 : Nat), V.str s), ((8 : Nat), V.str f_as),
 ((9 : Nat), V.bool ok), ((10 : Nat), V.bool known), ((12 : Nat), V.str g), ((13 : Nat), V.bool is)],
 []))) := by kernel_rfl
theorem na6_akv_x (name : List B) (s : List B) (g : List B) (ok : Bool) (known : Bool) (is : Bool) : Tr.prune (Tr.Sh.any.r.r.r.l.r.l.l.r.r.l.l.r.l)
 (execBYE Pr OL2 noLoopsT (100 : Nat) Go.Proofs.Tryd.f5 (0 : Nat)
 (Tell.mk [(0 : Nat), (5 : Nat), (7 : Nat), (8 : Nat), (9 : Nat), (10 : Nat), (12 : Nat), (13 : Nat)] [] [])
 (Tell.mk [] [] []) (takeSeq (0 : Nat) (dropSeq (8 : Nat) nmB))
 [((0 : Nat), V.str name), ((5 : Nat), V.bool true), ((7 : Nat), V.str s), ((8 : Nat), V.str f_akv),
 ((9 : Nat), V.bool ok), ((10 : Nat), V.bool known), ((12 : Nat), V.str g), ((13 : Nat), V.bool is)]
 []) =
 Tr.chk true
 (Tr.leaf
 (Sum.inr
 (X.normal,
 [((0 : Nat), V.str name), ((5 : Nat), V.bool true), ((7 : Nat), V.str s), ((8 : Nat), V.str f_akv),
 ((9 : Nat), V.bool ok), ((10 : Nat), V.bool known), ((12 : Nat), V.str g), ((13 : Nat), V.bool is)],
 []))) := by kernel_rfl
theorem na6_e_x (name : List B) (s : List B) (g : List B) (ok : Bool) (known : Bool) (is : Bool) : Tr.prune (Tr.Sh.any.r)
 (execBYE Pr OL2 noLoopsT (100 : Nat) Go.Proofs.Tryd.f5 (0 : Nat)
 (Tell.mk [(0 : Nat), (5 : Nat), (7 : Nat), (8 : Nat), (9 : Nat), (10 : Nat), (12 : Nat), (13 : Nat)] [] [])
 (Tell.mk [] [] []) (takeSeq (0 : Nat) (dropSeq (8 : Nat) nmB))
 [((0 : Nat), V.str name), ((5 : Nat), V.bool true), ((7 : Nat), V.str s), ((8 : Nat), V.str f_e),
 ((9 : Nat), V.bool ok), ((10 : Nat), V.bool known), ((12 : Nat), V.str g), ((13 : Nat), V.bool is)]
 []) =
 Tr.chk true
 (Tr.leaf
 (Sum.inr
 (X.normal,
 [((0 : Nat), V.str name), ((5 : Nat), V.bool true), ((7 : Nat), V.str s), ((8 : Nat), V.str f_e),
 ((9 : Nat), V.bool ok), ((10 : Nat), V.bool known), ((12 : Nat), V.str g), ((13 : Nat), V.bool is)],
 []))) := by kernel_rfl
theorem na6_s_x (name : List B) (s : List B) (g : List B) (ok : Bool) (known : Bool) (is : Bool) : Tr.prune (Tr.Sh.any.r.r.l)
 (execBYE Pr OL2 noLoopsT (100 : Nat) Go.Proofs.Tryd.f5 (0 : Nat)
 (Tell.mk [(0 : Nat), (5 : Nat), (7 : Nat), (8 : Nat), (9 : Nat), (10 : Nat), (12 : Nat), (13 : Nat)] [] [])
 (Tell.mk [] [] []) (takeSeq (0 : Nat) (dropSeq (8 : Nat) nmB))
 [((0 : Nat), V.str name), ((5 : Nat), V.bool true), ((7 : Nat), V.str s), ((8 : Nat), V.str f_s),
 ((9 : Nat), V.bool ok), ((10 : Nat), V.bool known), ((12 : Nat), V.str g), ((13 : Nat), V.bool is)]
 []) =
 Tr.chk true
 (Tr.leaf
 (Sum.inr
 (X.normal,
 [((0 : Nat), V.str name), ((5 : Nat), V.bool true), ((7 : Nat), V.str s), ((8 : Nat), V.str f_s),
 ((9 : Nat), V.bool ok), ((10 : Nat), V.bool known), ((12 : Nat), V.str g), ((13 : Nat), V.bool is)],
 []))) := by kernel_rfl
end
end Go.Proofs.YtbgiickegljpoaaDoor.K
end
section
open Go Go.Lh
namespace Go.Proofs.YtbgiickegljpoaaDoor.K
noncomputable section
set_option maxRecDepth 100000
def knB (name : List B) : Bool := (n_send == name) || ((n_call == name) || ((n_mine == name) || ((n_warp == name) || ((n_auto == name) || ((n_balance == name) || ((n_nonce == name) || ((n_code == name) || ((n_slot == name) || ((n_setbalance == name) || ((n_setnonce == name) || ((n_setcode == name) || ((n_setslot == name) || ((n_impersonate == name) || ((n_stop == name) || ((n_snapshot == name) || ((n_revert == name) || ((n_block == name) || ((n_receipt == name) || ((n_logs == name) || ((n_dump == name) || ((n_load == name))))))))))))))))))))))
theorem eqB_beq (a b : List B) : eqB a b = (a == b) := by
  rw [Bool.eq_iff_iff, eqB_iff, beq_iff_eq]
theorem cond_or (a b : Bool) : (bif a then true else b) = (a || b) := by cases a <;> rfl
theorem hasS_kn (name : List B) : hasS fieldsL name = knB name := by
  unfold fieldsL knB
  simp only [hasS, eqB_beq, cond_or, Bool.or_false]
theorem kn_chg {name : List B} (h : knB name = false) : chgB name = false := by
  unfold knB at h
  simp only [Bool.or_eq_false_iff, beq_eq_false_iff_ne, ne_eq] at h
  unfold chgB
  simp only [Bool.or_eq_false_iff, beq_eq_false_iff_ne, ne_eq]
  obtain ⟨h0, h1, h2, h3, h4, h5, h6, h7, h8, h9, h10, h11, h12, h13, h14, h15, h16, h17, h18, h19, h20, h21⟩ := h
  exact ⟨⟨⟨⟨⟨⟨⟨⟨⟨⟨⟨⟨(fun e => h0 e.symm), fun e => h2 e.symm⟩, fun e => h3 e.symm⟩, fun e => h4 e.symm⟩, fun e => h9 e.symm⟩, fun e => h10 e.symm⟩, fun e => h11 e.symm⟩, fun e => h12 e.symm⟩, fun e => h13 e.symm⟩, fun e => h14 e.symm⟩, fun e => h15 e.symm⟩, fun e => h16 e.symm⟩, fun e => h21 e.symm⟩
def nmP (s : List B) : Prop := hasS fieldsL s = true ∧ (lookS fieldsL s).length ≤ 3 ∧ ((decide (3 < s.length) && (s.take 3 == [115#8, 101#8, 116#8])) = true → chgB s = true ∧ (lookS fieldsL s).getD 0 0 = 97#8 ∧ 0 < (lookS fieldsL s).length)
theorem nm_facts (k : Nat) (hk : k < 22) : nmP (allL.getD k []) := by
  match k, hk with
  | 0, _ => exact ⟨by decide, by decide, by decide⟩
  | 1, _ => exact ⟨by decide, by decide, by decide⟩
  | 2, _ => exact ⟨by decide, by decide, by decide⟩
  | 3, _ => exact ⟨by decide, by decide, by decide⟩
  | 4, _ => exact ⟨by decide, by decide, by decide⟩
  | 5, _ => exact ⟨by decide, by decide, by decide⟩
  | 6, _ => exact ⟨by decide, by decide, by decide⟩
  | 7, _ => exact ⟨by decide, by decide, by decide⟩
  | 8, _ => exact ⟨by decide, by decide, by decide⟩
  | 9, _ => exact ⟨by decide, by decide, by decide⟩
  | 10, _ => exact ⟨by decide, by decide, by decide⟩
  | 11, _ => exact ⟨by decide, by decide, by decide⟩
  | 12, _ => exact ⟨by decide, by decide, by decide⟩
  | 13, _ => exact ⟨by decide, by decide, by decide⟩
  | 14, _ => exact ⟨by decide, by decide, by decide⟩
  | 15, _ => exact ⟨by decide, by decide, by decide⟩
  | 16, _ => exact ⟨by decide, by decide, by decide⟩
  | 17, _ => exact ⟨by decide, by decide, by decide⟩
  | 18, _ => exact ⟨by decide, by decide, by decide⟩
  | 19, _ => exact ⟨by decide, by decide, by decide⟩
  | 20, _ => exact ⟨by decide, by decide, by decide⟩
  | 21, _ => exact ⟨by decide, by decide, by decide⟩
  | k + 22, hk => exact absurd hk (by omega)
theorem nm_load (name : List B) (which : B) (k : Nat) (hk : k < 22) : (execBN Pr OL2 noLoopsT 100 0 [0,5,6,7] [] (partB 6 (dropSeq 3 nmB)) [(0,.str name),(1,.u8 which),(5,.bool true),(6,.sl 0 0 1 22 (some 22)),(21,.sl 0 0 1 22 (some 22)),(22,.u8 which),(23,.int .i64 (which.toNat : Int)),(24,.sl 0 0 1 22 (some 22)),(25,.int .i64 22),(26,.int .i64 (k : Int))] nH).is (.normal, [(0,.str name),(5,.bool true),(6,.sl 0 0 1 22 (some 22)),(7,.str (allL.getD k []))], nH) := by
  match k, hk with
  | 0, _ => exact tree_is (sh := .any) (f := true) (by kernel_rfl) rfl
  | 1, _ => exact tree_is (sh := .any) (f := true) (by kernel_rfl) rfl
  | 2, _ => exact tree_is (sh := .any) (f := true) (by kernel_rfl) rfl
  | 3, _ => exact tree_is (sh := .any) (f := true) (by kernel_rfl) rfl
  | 4, _ => exact tree_is (sh := .any) (f := true) (by kernel_rfl) rfl
  | 5, _ => exact tree_is (sh := .any) (f := true) (by kernel_rfl) rfl
  | 6, _ => exact tree_is (sh := .any) (f := true) (by kernel_rfl) rfl
  | 7, _ => exact tree_is (sh := .any) (f := true) (by kernel_rfl) rfl
  | 8, _ => exact tree_is (sh := .any) (f := true) (by kernel_rfl) rfl
  | 9, _ => exact tree_is (sh := .any) (f := true) (by kernel_rfl) rfl
  | 10, _ => exact tree_is (sh := .any) (f := true) (by kernel_rfl) rfl
  | 11, _ => exact tree_is (sh := .any) (f := true) (by kernel_rfl) rfl
  | 12, _ => exact tree_is (sh := .any) (f := true) (by kernel_rfl) rfl
  | 13, _ => exact tree_is (sh := .any) (f := true) (by kernel_rfl) rfl
  | 14, _ => exact tree_is (sh := .any) (f := true) (by kernel_rfl) rfl
  | 15, _ => exact tree_is (sh := .any) (f := true) (by kernel_rfl) rfl
  | 16, _ => exact tree_is (sh := .any) (f := true) (by kernel_rfl) rfl
  | 17, _ => exact tree_is (sh := .any) (f := true) (by kernel_rfl) rfl
  | 18, _ => exact tree_is (sh := .any) (f := true) (by kernel_rfl) rfl
  | 19, _ => exact tree_is (sh := .any) (f := true) (by kernel_rfl) rfl
  | 20, _ => exact tree_is (sh := .any) (f := true) (by kernel_rfl) rfl
  | 21, _ => exact tree_is (sh := .any) (f := true) (by kernel_rfl) rfl
  | k + 22, hk => exact absurd hk (by omega)
theorem wh (which : B) : ((which.toNat : Int).tmod 22) = ((which.toNat % 22 : Nat) : Int) := by
  rw [Int.tmod_eq_emod_of_nonneg (by omega)]; omega
theorem names_loop {f : List B} (hf : f = f_t ∨ isF f) (name s g : List B) (ok known is : Bool) {fin : Fin} {h' : Heap}
    (H : EndsIn Pr Go.Proofs.Tryd.f5 0 (dropSeq 9 nmB) [(0,.str name),(5,.bool true),(7,.str s),(8,.str f),(9,.bool ok),(10,.bool known),(12,.str g),(13,.bool is)] [] fin h') :
    EndsIn Pr Go.Proofs.Tryd.f5 0 (dropSeq 8 nmB) [(0,.str name),(5,.bool true),(7,.str s),(8,.str f),(9,.bool ok),(10,.bool known),(12,.str g),(13,.bool is)] [] fin h' := by
  rcases hf with rfl | rfl | rfl | rfl | rfl | rfl | rfl | rfl | rfl | rfl
  · exact EndsIn.cutY (L := noLoopsT) 0 OL2_sound mixed (by kernel_rfl) noLoops_all (by kernel_rfl) (na6_t_x name s g ok known is) (wp_chk_true.2 (wp_leaf.2 ⟨clo_nil, .inl ⟨_, _, rfl, H⟩⟩))
  · exact EndsIn.cutY (L := noLoopsT) 0 OL2_sound mixed (by kernel_rfl) noLoops_all (by kernel_rfl) (na6_n_x name s g ok known is) (wp_chk_true.2 (wp_leaf.2 ⟨clo_nil, .inl ⟨_, _, rfl, H⟩⟩))
  · exact EndsIn.cutY (L := noLoopsT) 0 OL2_sound mixed (by kernel_rfl) noLoops_all (by kernel_rfl) (na6_a_x name s g ok known is) (wp_chk_true.2 (wp_leaf.2 ⟨clo_nil, .inl ⟨_, _, rfl, H⟩⟩))
  · exact EndsIn.cutY (L := noLoopsT) 0 OL2_sound mixed (by kernel_rfl) noLoops_all (by kernel_rfl) (na6_ak_x name s g ok known is) (wp_chk_true.2 (wp_leaf.2 ⟨clo_nil, .inl ⟨_, _, rfl, H⟩⟩))
  · exact EndsIn.cutY (L := noLoopsT) 0 OL2_sound mixed (by kernel_rfl) noLoops_all (by kernel_rfl) (na6_av_x name s g ok known is) (wp_chk_true.2 (wp_leaf.2 ⟨clo_nil, .inl ⟨_, _, rfl, H⟩⟩))
  · exact EndsIn.cutY (L := noLoopsT) 0 OL2_sound mixed (by kernel_rfl) noLoops_all (by kernel_rfl) (na6_an_x name s g ok known is) (wp_chk_true.2 (wp_leaf.2 ⟨clo_nil, .inl ⟨_, _, rfl, H⟩⟩))
  · exact EndsIn.cutY (L := noLoopsT) 0 OL2_sound mixed (by kernel_rfl) noLoops_all (by kernel_rfl) (na6_as_x name s g ok known is) (wp_chk_true.2 (wp_leaf.2 ⟨clo_nil, .inl ⟨_, _, rfl, H⟩⟩))
  · exact EndsIn.cutY (L := noLoopsT) 0 OL2_sound mixed (by kernel_rfl) noLoops_all (by kernel_rfl) (na6_akv_x name s g ok known is) (wp_chk_true.2 (wp_leaf.2 ⟨clo_nil, .inl ⟨_, _, rfl, H⟩⟩))
  · exact EndsIn.cutY (L := noLoopsT) 0 OL2_sound mixed (by kernel_rfl) noLoops_all (by kernel_rfl) (na6_e_x name s g ok known is) (wp_chk_true.2 (wp_leaf.2 ⟨clo_nil, .inl ⟨_, _, rfl, H⟩⟩))
  · exact EndsIn.cutY (L := noLoopsT) 0 OL2_sound mixed (by kernel_rfl) noLoops_all (by kernel_rfl) (na6_s_x name s g ok known is) (wp_chk_true.2 (wp_leaf.2 ⟨clo_nil, .inl ⟨_, _, rfl, H⟩⟩))
theorem cmdNames_fn (name : List B) (which : B) : LFn Pr 5 [.str name, .u8 which] [] (.ret (.bool true)) [] := by
  have hk : which.toNat % 22 < 22 := Nat.mod_lt _ (by decide)
  obtain ⟨F1, F2, F3⟩ := nm_facts _ hk
  have FF := fk_isF F1
  obtain ⟨s, hs⟩ : ∃ s, s = allL.getD (which.toNat % 22) [] := ⟨_, rfl⟩
  rw [← hs] at F1 F2 F3 FF
  obtain ⟨known, hkn⟩ : ∃ b, b = knB name := ⟨_, rfl⟩
  have H7 : ∀ set : Bool, (set = true → (decide (3 < s.length) && (s.take 3 == [115#8, 101#8, 116#8])) = true) → EndsIn Pr Go.Proofs.Tryd.f5 0 (dropSeq 10 nmB) [(0,.str name),(5,.bool true),(7,.str s),(8,.str (lookS fieldsL s)),(9,.bool true),(10,.bool known),(12,.str (lookS fieldsL name)),(13,.bool (hasS fieldsL name)),(16,.bool set)] [] (.ret (.bool true)) [] := by
    intro set hset
    refine EndsIn.last (L := noLoopsT) OL2_sound mixed noLoops_all (by kernel_rfl) (na8_x name s (lookS fieldsL s) (lookS fieldsL name) true known (hasS fieldsL name) set) ?_
    have hi : (hasS fieldsL name == known) = true := by rw [hkn, hasS_kn]; exact bq _
    refine wp_chk_true.2 (wp_br.2 ⟨fun _ => wp_chk_true.2 (wp_br.2 ⟨fun _ => wp_chk_true.2 (wp_br.2 ⟨fun _ => wp_chk_true.2 (wp_br.2 ⟨fun _ => wp_chk_true.2 (wp_br.2 ⟨fun _ => wp_chk_true.2 (wp_leaf.2 rfl), fun es => ?_⟩), fun ek => wp_chk_true.2 (wp_br.2 ⟨fun _ => wp_chk_true.2 (wp_br.2 ⟨fun _ => wp_chk_true.2 (wp_br.2 ⟨fun _ => wp_chk_true.2 (wp_leaf.2 rfl), fun es => ?_⟩), fun e => ?_⟩), fun e => ?_⟩)⟩), fun e => absurd (hi.symm.trans e) (by decide)⟩), fun e => absurd (of_decide_eq_false e) (by omega)⟩), fun e => by cases e⟩)
    · obtain ⟨c1, c2, c3⟩ := F3 (hset (bn_f es))
      refine wp_chk_true.2 (wp_br.2 ⟨fun _ => wp_chk.2 ⟨by rw [decide_eq_true (show (0 : Int) < ((lookS fieldsL s).length : Int) by omega)]; rfl, wp_leaf.2 ?_⟩, fun e => absurd (c1.symm.trans e) (by decide)⟩)
      have : ((lookS fieldsL s).getD 0 0 == BitVec.ofInt 8 97) = true := by rw [c2]; decide
      show (Fin.ret (V.bool ((lookS fieldsL s).getD 0 0 == BitVec.ofInt 8 97)), ([] : Heap)) = _
      rw [this]
    · obtain ⟨c1, c2, c3⟩ := F3 (hset (bn_f es))
      refine wp_chk_true.2 (wp_br.2 ⟨fun _ => wp_chk.2 ⟨by rw [decide_eq_true (show (0 : Int) < ((lookS fieldsL s).length : Int) by omega)]; rfl, wp_leaf.2 ?_⟩, fun e => absurd (c1.symm.trans e) (by decide)⟩)
      have : ((lookS fieldsL s).getD 0 0 == BitVec.ofInt 8 97) = true := by rw [c2]; decide
      show (Fin.ret (V.bool ((lookS fieldsL s).getD 0 0 == BitVec.ofInt 8 97)), ([] : Heap)) = _
      rw [this]
    · have hc := kn_chg (hkn.symm.trans ek)
      rw [hc] at e
      cases e
    · have hl := lookS_no ((hasS_kn name).trans (hkn.symm.trans ek))
      rw [hl] at e
      exact absurd e (by decide)
  have H6 : EndsIn Pr Go.Proofs.Tryd.f5 0 (dropSeq 9 nmB) [(0,.str name),(5,.bool true),(7,.str s),(8,.str (lookS fieldsL s)),(9,.bool true),(10,.bool known),(12,.str (lookS fieldsL name)),(13,.bool (hasS fieldsL name))] [] (.ret (.bool true)) [] := by
    refine EndsIn.cutY (L := noLoopsT) 0 OL2_sound mixed (by kernel_rfl) noLoops_all (by kernel_rfl) (na7_x name s (lookS fieldsL s) (lookS fieldsL name) true known (hasS fieldsL name)) ?_
    refine wp_chk_true.2 (wp_br.2 ⟨fun e => wp_chk.2 ⟨?_, wp_leaf.2 ⟨clo_nil, .inl ⟨_, _, rfl, H7 _ ?_⟩⟩⟩, fun e => wp_chk_true.2 (wp_leaf.2 ⟨clo_nil, .inl ⟨_, _, rfl, H7 false (fun e => by cases e)⟩⟩)⟩)
    · have e := of_decide_eq_true e
      refine bw (decide_eq_true ?_)
      show (3 : Int) ≤ (s.length : Int)
      omega
    · intro h
      have e := of_decide_eq_true e
      rw [decide_eq_true (show 3 < s.length by omega)]
      exact h
  have H4 : EndsIn Pr Go.Proofs.Tryd.f5 0 (dropSeq 7 nmB) [(0,.str name),(5,.bool true),(7,.str s),(8,.str (lookS fieldsL s)),(9,.bool true),(10,.bool known)] [] (.ret (.bool true)) [] := by
    refine EndsIn.cutY (L := noLoopsT) 0 OL2_sound mixed (by kernel_rfl) noLoops_all (by kernel_rfl) (na5_x name s (lookS fieldsL s) true known) ?_
    exact wp_chk_true.2 (wp_leaf.2 ⟨clo_nil, .inl ⟨_, _, rfl, names_loop FF name s _ true known _ H6⟩⟩)
  have H3 : ∀ b, known = b → EndsIn Pr Go.Proofs.Tryd.f5 0 (dropSeq 7 nmB) [(0,.str name),(5,.bool true),(7,.str s),(8,.str (lookS fieldsL s)),(9,.bool true),(10,.bool b)] [] (.ret (.bool true)) [] := by
    rintro b rfl; exact H4
  refine EndsIn.done (fn := Go.Proofs.Tryd.f5) (by kernel_rfl) (by kernel_rfl) (by kernel_rfl) ?_
  refine EndsIn.cutY (L := noLoopsT) 3 OL2_sound mixed (by kernel_rfl) noLoops_all (by kernel_rfl) (na1_x name which) ?_
  refine wp_chk_true.2 (wp_leaf.2 ⟨clo_nil, .inl ⟨_, _, rfl, ?_⟩⟩)
  have hl := nm_load name which _ hk
  rw [← wh, ← hs] at hl
  refine EndsIn.two 6 OL2_sound mixed (by kernel_rfl) (by kernel_rfl) (tree_is (na2_x name which) rfl) (.inl ⟨rfl, rfl⟩) hl ?_
  have hx := na3_x name s [.str n_send, .str n_call, .str n_mine, .str n_warp, .str n_auto, .str n_balance, .str n_nonce, .str n_code, .str n_slot, .str n_setbalance, .str n_setnonce, .str n_setcode, .str n_setslot, .str n_impersonate, .str n_stop, .str n_snapshot, .str n_revert, .str n_block, .str n_receipt, .str n_logs, .str n_dump, .str n_load]
  refine EndsIn.cutY (L := noLoopsT) 0 OL2_sound mixed (by kernel_rfl) noLoops_all (by kernel_rfl) hx ?_
  refine wp_chk_true.2 (wp_leaf.2 ⟨clo_of 0 rfl (fun b hb => ?_), .inl ⟨_, _, rfl, ?_⟩⟩)
  · obtain rfl : b = .vals [.str n_send, .str n_call, .str n_mine, .str n_warp, .str n_auto, .str n_balance, .str n_nonce, .str n_code, .str n_slot, .str n_setbalance, .str n_setnonce, .str n_setcode, .str n_setslot, .str n_impersonate, .str n_stop, .str n_snapshot, .str n_revert, .str n_block, .str n_receipt, .str n_logs, .str n_dump, .str n_load] := by simpa using hb
    exact closed_vals (V.clos_mem (by kernel_rfl))
  rw [F1]
  refine EndsIn.cutY (L := noLoopsT) 1 OL2_sound mixed (by kernel_rfl) noLoops_all (by kernel_rfl) (na4_x name s (lookS fieldsL s) true) ?_
  refine wp_chk_true.2 (wp_br.2 ⟨fun e0 => wp_chk_true.2 (wp_leaf.2 ⟨clo_nil, .inl ⟨_, _, rfl, H3 _ ?_⟩⟩), fun e0 => wp_chk_true.2 (wp_br.2 ⟨fun e1 => wp_chk_true.2 (wp_leaf.2 ⟨clo_nil, .inl ⟨_, _, rfl, H3 _ ?_⟩⟩), fun e1 => wp_chk_true.2 (wp_br.2 ⟨fun e2 => wp_chk_true.2 (wp_leaf.2 ⟨clo_nil, .inl ⟨_, _, rfl, H3 _ ?_⟩⟩), fun e2 => wp_chk_true.2 (wp_br.2 ⟨fun e3 => wp_chk_true.2 (wp_leaf.2 ⟨clo_nil, .inl ⟨_, _, rfl, H3 _ ?_⟩⟩), fun e3 => wp_chk_true.2 (wp_br.2 ⟨fun e4 => wp_chk_true.2 (wp_leaf.2 ⟨clo_nil, .inl ⟨_, _, rfl, H3 _ ?_⟩⟩), fun e4 => wp_chk_true.2 (wp_br.2 ⟨fun e5 => wp_chk_true.2 (wp_leaf.2 ⟨clo_nil, .inl ⟨_, _, rfl, H3 _ ?_⟩⟩), fun e5 => wp_chk_true.2 (wp_br.2 ⟨fun e6 => wp_chk_true.2 (wp_leaf.2 ⟨clo_nil, .inl ⟨_, _, rfl, H3 _ ?_⟩⟩), fun e6 => wp_chk_true.2 (wp_br.2 ⟨fun e7 => wp_chk_true.2 (wp_leaf.2 ⟨clo_nil, .inl ⟨_, _, rfl, H3 _ ?_⟩⟩), fun e7 => wp_chk_true.2 (wp_br.2 ⟨fun e8 => wp_chk_true.2 (wp_leaf.2 ⟨clo_nil, .inl ⟨_, _, rfl, H3 _ ?_⟩⟩), fun e8 => wp_chk_true.2 (wp_br.2 ⟨fun e9 => wp_chk_true.2 (wp_leaf.2 ⟨clo_nil, .inl ⟨_, _, rfl, H3 _ ?_⟩⟩), fun e9 => wp_chk_true.2 (wp_br.2 ⟨fun e10 => wp_chk_true.2 (wp_leaf.2 ⟨clo_nil, .inl ⟨_, _, rfl, H3 _ ?_⟩⟩), fun e10 => wp_chk_true.2 (wp_br.2 ⟨fun e11 => wp_chk_true.2 (wp_leaf.2 ⟨clo_nil, .inl ⟨_, _, rfl, H3 _ ?_⟩⟩), fun e11 => wp_chk_true.2 (wp_br.2 ⟨fun e12 => wp_chk_true.2 (wp_leaf.2 ⟨clo_nil, .inl ⟨_, _, rfl, H3 _ ?_⟩⟩), fun e12 => wp_chk_true.2 (wp_br.2 ⟨fun e13 => wp_chk_true.2 (wp_leaf.2 ⟨clo_nil, .inl ⟨_, _, rfl, H3 _ ?_⟩⟩), fun e13 => wp_chk_true.2 (wp_br.2 ⟨fun e14 => wp_chk_true.2 (wp_leaf.2 ⟨clo_nil, .inl ⟨_, _, rfl, H3 _ ?_⟩⟩), fun e14 => wp_chk_true.2 (wp_br.2 ⟨fun e15 => wp_chk_true.2 (wp_leaf.2 ⟨clo_nil, .inl ⟨_, _, rfl, H3 _ ?_⟩⟩), fun e15 => wp_chk_true.2 (wp_br.2 ⟨fun e16 => wp_chk_true.2 (wp_leaf.2 ⟨clo_nil, .inl ⟨_, _, rfl, H3 _ ?_⟩⟩), fun e16 => wp_chk_true.2 (wp_br.2 ⟨fun e17 => wp_chk_true.2 (wp_leaf.2 ⟨clo_nil, .inl ⟨_, _, rfl, H3 _ ?_⟩⟩), fun e17 => wp_chk_true.2 (wp_br.2 ⟨fun e18 => wp_chk_true.2 (wp_leaf.2 ⟨clo_nil, .inl ⟨_, _, rfl, H3 _ ?_⟩⟩), fun e18 => wp_chk_true.2 (wp_br.2 ⟨fun e19 => wp_chk_true.2 (wp_leaf.2 ⟨clo_nil, .inl ⟨_, _, rfl, H3 _ ?_⟩⟩), fun e19 => wp_chk_true.2 (wp_br.2 ⟨fun e20 => wp_chk_true.2 (wp_leaf.2 ⟨clo_nil, .inl ⟨_, _, rfl, H3 _ ?_⟩⟩), fun e20 => wp_chk_true.2 (wp_leaf.2 ⟨clo_nil, .inl ⟨_, _, rfl, H3 _ ?_⟩⟩)⟩)⟩)⟩)⟩)⟩)⟩)⟩)⟩)⟩)⟩)⟩)⟩)⟩)⟩)⟩)⟩)⟩)⟩)⟩)⟩)⟩)
  · have h0 : (n_send == name) = true := e0
    rw [hkn]; simp only [knB, h0, Bool.true_or, Bool.or_true, Bool.false_or]
  · have h0 : (n_send == name) = false := e0
    have h1 : (n_call == name) = true := e1
    rw [hkn]; simp only [knB, h0, h1, Bool.true_or, Bool.or_true, Bool.false_or]
  · have h0 : (n_send == name) = false := e0
    have h1 : (n_call == name) = false := e1
    have h2 : (n_mine == name) = true := e2
    rw [hkn]; simp only [knB, h0, h1, h2, Bool.true_or, Bool.or_true, Bool.false_or]
  · have h0 : (n_send == name) = false := e0
    have h1 : (n_call == name) = false := e1
    have h2 : (n_mine == name) = false := e2
    have h3 : (n_warp == name) = true := e3
    rw [hkn]; simp only [knB, h0, h1, h2, h3, Bool.true_or, Bool.or_true, Bool.false_or]
  · have h0 : (n_send == name) = false := e0
    have h1 : (n_call == name) = false := e1
    have h2 : (n_mine == name) = false := e2
    have h3 : (n_warp == name) = false := e3
    have h4 : (n_auto == name) = true := e4
    rw [hkn]; simp only [knB, h0, h1, h2, h3, h4, Bool.true_or, Bool.or_true, Bool.false_or]
  · have h0 : (n_send == name) = false := e0
    have h1 : (n_call == name) = false := e1
    have h2 : (n_mine == name) = false := e2
    have h3 : (n_warp == name) = false := e3
    have h4 : (n_auto == name) = false := e4
    have h5 : (n_balance == name) = true := e5
    rw [hkn]; simp only [knB, h0, h1, h2, h3, h4, h5, Bool.true_or, Bool.or_true, Bool.false_or]
  · have h0 : (n_send == name) = false := e0
    have h1 : (n_call == name) = false := e1
    have h2 : (n_mine == name) = false := e2
    have h3 : (n_warp == name) = false := e3
    have h4 : (n_auto == name) = false := e4
    have h5 : (n_balance == name) = false := e5
    have h6 : (n_nonce == name) = true := e6
    rw [hkn]; simp only [knB, h0, h1, h2, h3, h4, h5, h6, Bool.true_or, Bool.or_true, Bool.false_or]
  · have h0 : (n_send == name) = false := e0
    have h1 : (n_call == name) = false := e1
    have h2 : (n_mine == name) = false := e2
    have h3 : (n_warp == name) = false := e3
    have h4 : (n_auto == name) = false := e4
    have h5 : (n_balance == name) = false := e5
    have h6 : (n_nonce == name) = false := e6
    have h7 : (n_code == name) = true := e7
    rw [hkn]; simp only [knB, h0, h1, h2, h3, h4, h5, h6, h7, Bool.true_or, Bool.or_true, Bool.false_or]
  · have h0 : (n_send == name) = false := e0
    have h1 : (n_call == name) = false := e1
    have h2 : (n_mine == name) = false := e2
    have h3 : (n_warp == name) = false := e3
    have h4 : (n_auto == name) = false := e4
    have h5 : (n_balance == name) = false := e5
    have h6 : (n_nonce == name) = false := e6
    have h7 : (n_code == name) = false := e7
    have h8 : (n_slot == name) = true := e8
    rw [hkn]; simp only [knB, h0, h1, h2, h3, h4, h5, h6, h7, h8, Bool.true_or, Bool.or_true, Bool.false_or]
  · have h0 : (n_send == name) = false := e0
    have h1 : (n_call == name) = false := e1
    have h2 : (n_mine == name) = false := e2
    have h3 : (n_warp == name) = false := e3
    have h4 : (n_auto == name) = false := e4
    have h5 : (n_balance == name) = false := e5
    have h6 : (n_nonce == name) = false := e6
    have h7 : (n_code == name) = false := e7
    have h8 : (n_slot == name) = false := e8
    have h9 : (n_setbalance == name) = true := e9
    rw [hkn]; simp only [knB, h0, h1, h2, h3, h4, h5, h6, h7, h8, h9, Bool.true_or, Bool.or_true, Bool.false_or]
  · have h0 : (n_send == name) = false := e0
    have h1 : (n_call == name) = false := e1
    have h2 : (n_mine == name) = false := e2
    have h3 : (n_warp == name) = false := e3
    have h4 : (n_auto == name) = false := e4
    have h5 : (n_balance == name) = false := e5
    have h6 : (n_nonce == name) = false := e6
    have h7 : (n_code == name) = false := e7
    have h8 : (n_slot == name) = false := e8
    have h9 : (n_setbalance == name) = false := e9
    have h10 : (n_setnonce == name) = true := e10
    rw [hkn]; simp only [knB, h0, h1, h2, h3, h4, h5, h6, h7, h8, h9, h10, Bool.true_or, Bool.or_true, Bool.false_or]
  · have h0 : (n_send == name) = false := e0
    have h1 : (n_call == name) = false := e1
    have h2 : (n_mine == name) = false := e2
    have h3 : (n_warp == name) = false := e3
    have h4 : (n_auto == name) = false := e4
    have h5 : (n_balance == name) = false := e5
    have h6 : (n_nonce == name) = false := e6
    have h7 : (n_code == name) = false := e7
    have h8 : (n_slot == name) = false := e8
    have h9 : (n_setbalance == name) = false := e9
    have h10 : (n_setnonce == name) = false := e10
    have h11 : (n_setcode == name) = true := e11
    rw [hkn]; simp only [knB, h0, h1, h2, h3, h4, h5, h6, h7, h8, h9, h10, h11, Bool.true_or, Bool.or_true, Bool.false_or]
  · have h0 : (n_send == name) = false := e0
    have h1 : (n_call == name) = false := e1
    have h2 : (n_mine == name) = false := e2
    have h3 : (n_warp == name) = false := e3
    have h4 : (n_auto == name) = false := e4
    have h5 : (n_balance == name) = false := e5
    have h6 : (n_nonce == name) = false := e6
    have h7 : (n_code == name) = false := e7
    have h8 : (n_slot == name) = false := e8
    have h9 : (n_setbalance == name) = false := e9
    have h10 : (n_setnonce == name) = false := e10
    have h11 : (n_setcode == name) = false := e11
    have h12 : (n_setslot == name) = true := e12
    rw [hkn]; simp only [knB, h0, h1, h2, h3, h4, h5, h6, h7, h8, h9, h10, h11, h12, Bool.true_or, Bool.or_true, Bool.false_or]
  · have h0 : (n_send == name) = false := e0
    have h1 : (n_call == name) = false := e1
    have h2 : (n_mine == name) = false := e2
    have h3 : (n_warp == name) = false := e3
    have h4 : (n_auto == name) = false := e4
    have h5 : (n_balance == name) = false := e5
    have h6 : (n_nonce == name) = false := e6
    have h7 : (n_code == name) = false := e7
    have h8 : (n_slot == name) = false := e8
    have h9 : (n_setbalance == name) = false := e9
    have h10 : (n_setnonce == name) = false := e10
    have h11 : (n_setcode == name) = false := e11
    have h12 : (n_setslot == name) = false := e12
    have h13 : (n_impersonate == name) = true := e13
    rw [hkn]; simp only [knB, h0, h1, h2, h3, h4, h5, h6, h7, h8, h9, h10, h11, h12, h13, Bool.true_or, Bool.or_true, Bool.false_or]
  · have h0 : (n_send == name) = false := e0
    have h1 : (n_call == name) = false := e1
    have h2 : (n_mine == name) = false := e2
    have h3 : (n_warp == name) = false := e3
    have h4 : (n_auto == name) = false := e4
    have h5 : (n_balance == name) = false := e5
    have h6 : (n_nonce == name) = false := e6
    have h7 : (n_code == name) = false := e7
    have h8 : (n_slot == name) = false := e8
    have h9 : (n_setbalance == name) = false := e9
    have h10 : (n_setnonce == name) = false := e10
    have h11 : (n_setcode == name) = false := e11
    have h12 : (n_setslot == name) = false := e12
    have h13 : (n_impersonate == name) = false := e13
    have h14 : (n_stop == name) = true := e14
    rw [hkn]; simp only [knB, h0, h1, h2, h3, h4, h5, h6, h7, h8, h9, h10, h11, h12, h13, h14, Bool.true_or, Bool.or_true, Bool.false_or]
  · have h0 : (n_send == name) = false := e0
    have h1 : (n_call == name) = false := e1
    have h2 : (n_mine == name) = false := e2
    have h3 : (n_warp == name) = false := e3
    have h4 : (n_auto == name) = false := e4
    have h5 : (n_balance == name) = false := e5
    have h6 : (n_nonce == name) = false := e6
    have h7 : (n_code == name) = false := e7
    have h8 : (n_slot == name) = false := e8
    have h9 : (n_setbalance == name) = false := e9
    have h10 : (n_setnonce == name) = false := e10
    have h11 : (n_setcode == name) = false := e11
    have h12 : (n_setslot == name) = false := e12
    have h13 : (n_impersonate == name) = false := e13
    have h14 : (n_stop == name) = false := e14
    have h15 : (n_snapshot == name) = true := e15
    rw [hkn]; simp only [knB, h0, h1, h2, h3, h4, h5, h6, h7, h8, h9, h10, h11, h12, h13, h14, h15, Bool.true_or, Bool.or_true, Bool.false_or]
  · have h0 : (n_send == name) = false := e0
    have h1 : (n_call == name) = false := e1
    have h2 : (n_mine == name) = false := e2
    have h3 : (n_warp == name) = false := e3
    have h4 : (n_auto == name) = false := e4
    have h5 : (n_balance == name) = false := e5
    have h6 : (n_nonce == name) = false := e6
    have h7 : (n_code == name) = false := e7
    have h8 : (n_slot == name) = false := e8
    have h9 : (n_setbalance == name) = false := e9
    have h10 : (n_setnonce == name) = false := e10
    have h11 : (n_setcode == name) = false := e11
    have h12 : (n_setslot == name) = false := e12
    have h13 : (n_impersonate == name) = false := e13
    have h14 : (n_stop == name) = false := e14
    have h15 : (n_snapshot == name) = false := e15
    have h16 : (n_revert == name) = true := e16
    rw [hkn]; simp only [knB, h0, h1, h2, h3, h4, h5, h6, h7, h8, h9, h10, h11, h12, h13, h14, h15, h16, Bool.true_or, Bool.or_true, Bool.false_or]
  · have h0 : (n_send == name) = false := e0
    have h1 : (n_call == name) = false := e1
    have h2 : (n_mine == name) = false := e2
    have h3 : (n_warp == name) = false := e3
    have h4 : (n_auto == name) = false := e4
    have h5 : (n_balance == name) = false := e5
    have h6 : (n_nonce == name) = false := e6
    have h7 : (n_code == name) = false := e7
    have h8 : (n_slot == name) = false := e8
    have h9 : (n_setbalance == name) = false := e9
    have h10 : (n_setnonce == name) = false := e10
    have h11 : (n_setcode == name) = false := e11
    have h12 : (n_setslot == name) = false := e12
    have h13 : (n_impersonate == name) = false := e13
    have h14 : (n_stop == name) = false := e14
    have h15 : (n_snapshot == name) = false := e15
    have h16 : (n_revert == name) = false := e16
    have h17 : (n_block == name) = true := e17
    rw [hkn]; simp only [knB, h0, h1, h2, h3, h4, h5, h6, h7, h8, h9, h10, h11, h12, h13, h14, h15, h16, h17, Bool.true_or, Bool.or_true, Bool.false_or]
  · have h0 : (n_send == name) = false := e0
    have h1 : (n_call == name) = false := e1
    have h2 : (n_mine == name) = false := e2
    have h3 : (n_warp == name) = false := e3
    have h4 : (n_auto == name) = false := e4
    have h5 : (n_balance == name) = false := e5
    have h6 : (n_nonce == name) = false := e6
    have h7 : (n_code == name) = false := e7
    have h8 : (n_slot == name) = false := e8
    have h9 : (n_setbalance == name) = false := e9
    have h10 : (n_setnonce == name) = false := e10
    have h11 : (n_setcode == name) = false := e11
    have h12 : (n_setslot == name) = false := e12
    have h13 : (n_impersonate == name) = false := e13
    have h14 : (n_stop == name) = false := e14
    have h15 : (n_snapshot == name) = false := e15
    have h16 : (n_revert == name) = false := e16
    have h17 : (n_block == name) = false := e17
    have h18 : (n_receipt == name) = true := e18
    rw [hkn]; simp only [knB, h0, h1, h2, h3, h4, h5, h6, h7, h8, h9, h10, h11, h12, h13, h14, h15, h16, h17, h18, Bool.true_or, Bool.or_true, Bool.false_or]
  · have h0 : (n_send == name) = false := e0
    have h1 : (n_call == name) = false := e1
    have h2 : (n_mine == name) = false := e2
    have h3 : (n_warp == name) = false := e3
    have h4 : (n_auto == name) = false := e4
    have h5 : (n_balance == name) = false := e5
    have h6 : (n_nonce == name) = false := e6
    have h7 : (n_code == name) = false := e7
    have h8 : (n_slot == name) = false := e8
    have h9 : (n_setbalance == name) = false := e9
    have h10 : (n_setnonce == name) = false := e10
    have h11 : (n_setcode == name) = false := e11
    have h12 : (n_setslot == name) = false := e12
    have h13 : (n_impersonate == name) = false := e13
    have h14 : (n_stop == name) = false := e14
    have h15 : (n_snapshot == name) = false := e15
    have h16 : (n_revert == name) = false := e16
    have h17 : (n_block == name) = false := e17
    have h18 : (n_receipt == name) = false := e18
    have h19 : (n_logs == name) = true := e19
    rw [hkn]; simp only [knB, h0, h1, h2, h3, h4, h5, h6, h7, h8, h9, h10, h11, h12, h13, h14, h15, h16, h17, h18, h19, Bool.true_or, Bool.or_true, Bool.false_or]
  · have h0 : (n_send == name) = false := e0
    have h1 : (n_call == name) = false := e1
    have h2 : (n_mine == name) = false := e2
    have h3 : (n_warp == name) = false := e3
    have h4 : (n_auto == name) = false := e4
    have h5 : (n_balance == name) = false := e5
    have h6 : (n_nonce == name) = false := e6
    have h7 : (n_code == name) = false := e7
    have h8 : (n_slot == name) = false := e8
    have h9 : (n_setbalance == name) = false := e9
    have h10 : (n_setnonce == name) = false := e10
    have h11 : (n_setcode == name) = false := e11
    have h12 : (n_setslot == name) = false := e12
    have h13 : (n_impersonate == name) = false := e13
    have h14 : (n_stop == name) = false := e14
    have h15 : (n_snapshot == name) = false := e15
    have h16 : (n_revert == name) = false := e16
    have h17 : (n_block == name) = false := e17
    have h18 : (n_receipt == name) = false := e18
    have h19 : (n_logs == name) = false := e19
    have h20 : (n_dump == name) = true := e20
    rw [hkn]; simp only [knB, h0, h1, h2, h3, h4, h5, h6, h7, h8, h9, h10, h11, h12, h13, h14, h15, h16, h17, h18, h19, h20, Bool.true_or, Bool.or_true, Bool.false_or]
  · have h0 : (n_send == name) = false := e0
    have h1 : (n_call == name) = false := e1
    have h2 : (n_mine == name) = false := e2
    have h3 : (n_warp == name) = false := e3
    have h4 : (n_auto == name) = false := e4
    have h5 : (n_balance == name) = false := e5
    have h6 : (n_nonce == name) = false := e6
    have h7 : (n_code == name) = false := e7
    have h8 : (n_slot == name) = false := e8
    have h9 : (n_setbalance == name) = false := e9
    have h10 : (n_setnonce == name) = false := e10
    have h11 : (n_setcode == name) = false := e11
    have h12 : (n_setslot == name) = false := e12
    have h13 : (n_impersonate == name) = false := e13
    have h14 : (n_stop == name) = false := e14
    have h15 : (n_snapshot == name) = false := e15
    have h16 : (n_revert == name) = false := e16
    have h17 : (n_block == name) = false := e17
    have h18 : (n_receipt == name) = false := e18
    have h19 : (n_logs == name) = false := e19
    have h20 : (n_dump == name) = false := e20
    rw [hkn]; simp only [knB, h0, h1, h2, h3, h4, h5, h6, h7, h8, h9, h10, h11, h12, h13, h14, h15, h16, h17, h18, h19, h20, Bool.false_or]
end
end Go.Proofs.YtbgiickegljpoaaDoor.K
end
