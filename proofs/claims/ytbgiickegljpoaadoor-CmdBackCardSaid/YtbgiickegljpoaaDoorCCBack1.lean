/- The functions that this law reaches: what each comes to. -/
import Derived.Test.YtbgiickegljpoaaDoorProg
import Derived.Test.YtbgiickegljpoaaDoorLh6
set_option linter.unusedSimpArgs false
set_option linter.unusedVariables false
section
open Go Go.Lh
namespace Go.Proofs.YtbgiickegljpoaaDoor.K
noncomputable section
set_option maxRecDepth 100000
abbrev Pr : Program := Go.Proofs.Tryd.prog
theorem mixed : Pr.follows .mixedOrders = true := by kernel_rfl
def ext : FuncId → List V → Option (Bool × V) := extL [(75, escX), (77, idxX)]
theorem ext_ok : ExtOk Pr ext :=
  (extL_cons (escX_at (fn := Go.Proofs.Tryd.f75) (by kernel_rfl) (by kernel_rfl) (by kernel_rfl) (by kernel_rfl) (by kernel_rfl))
  (extL_cons (idxX_at (fn := Go.Proofs.Tryd.f77) (by kernel_rfl) (by kernel_rfl) (by kernel_rfl) (by kernel_rfl) (by kernel_rfl))
  extL_nil))
end
end Go.Proofs.YtbgiickegljpoaaDoor.K
end
section
open Go Go.Lh
namespace Go.Proofs.YtbgiickegljpoaaDoor.K
noncomputable section
set_option maxRecDepth 100000
def OR0 : OrcT := autoT Pr ext [] [] 3
theorem OR0_sound : OrcSound Pr OR0.o := autoT_sound mixed ext_ok .nil (by kernel_rfl) 3
theorem tlb_x (s : List (BitVec 8)) (c : BitVec 8) : Tr.prune ((Tr.Sh.any.both Tr.Sh.any).l.l.l.both
 Tr.Sh.any.r.r.r.r)
 (execBN Pr OR0 noLoopsT (100 : Nat) (0 : Nat) [(0 : Nat), (1 : Nat)] [(0 : Nat)] (loopBody Go.Proofs.Tryd.f79 (0 : Nat))
 [((0 : Nat), V.str s), ((1 : Nat), V.u8 c)] []) =
 Tr.chk true
 (Tr.br (decide ((↑s.length : Int) > (0 : Int)))
 (Tr.chk (decide ((0 : Int) < (↑s.length : Int)) && true)
 (Tr.br (s.getD (0 : Nat) (OfNat.ofNat (0 : Nat)) == c)
 (Tr.chk
 (decide ((1 : Int) ≤ none.getD (↑s.length : Int)) &&
 decide (none.getD (↑s.length : Int) ≤ (↑s.length : Int)) &&
 true)
 (Tr.leaf
 (X.normal,
 [((0 : Nat), V.str (List.drop (1 : Nat) (List.take (none.getD (↑s.length : Int)).toNat s))),
 ((1 : Nat), V.u8 c)],
 [])))
 (Tr.leaf (X.exit (0 : Nat), [((0 : Nat), V.str s)], []))))
 (Tr.chk true (Tr.leaf (X.exit (0 : Nat), [((0 : Nat), V.str s)], [])))) := by kernel_rfl
structure TlS where
  s : List (BitVec 8)
  c : BitVec 8
def tl_S (a : TlS) : Fr × Heap := ([(0,.str a.s),(1,.u8 a.c)], [])
def tl_read : Fr → Heap → Option TlS := fun f h => match f, h with
  | [(0,.str s),(1,.u8 c)], [] => some ⟨s, c⟩
  | _, _ => none
def tl_E (a : TlS) : Tr (X × Fr × Heap) := .leaf (.exit 0, [(0,.str (trL a.c a.s))], [])
def tl_s : SmT := whT 1 [0,1] tl_read (fun _ => true) tl_E
theorem tl_at : SmAtT Pr Go.Proofs.Tryd.f79 0 tl_s 0 := by
  refine whT_x OR0_sound mixed tl_S (fun a => a.s.length) (fun a => tlb_x a.s a.c) (by kernel_rfl) (by kernel_rfl) (by kernel_rfl) LoopsOk.noneT ?_ ?_
  · intro f g a h
    unfold tl_read at h
    split at h <;> cases h
    rfl
  · rintro ⟨s, c⟩ q _ hq
    rw [tl_E, Tr.is_leaf] at hq
    simp only at hq ⊢
    simp only [wp_chk, wp_leaf, wp_br, decide_eq_true_eq, decide_eq_false_iff_not, true_and, Option.getD_none, Bool.and_true, Bool.and_eq_true]
    cases s with
    | nil =>
      refine ⟨fun h => absurd h (by simp), fun _ => .inr ⟨fun h => (by cases h), ?_⟩⟩
      rw [← hq]; rfl
    | cons x r =>
      refine ⟨fun _ => ⟨by simp only [List.length_cons]; omega, fun h => ⟨by simp only [List.length_cons]; omega, .inl ⟨⟨r, c⟩, ?_, ?_, ?_⟩⟩, fun h => .inr ⟨fun h => (by cases h), ?_⟩⟩, fun h => absurd (show ((x :: r).length : Int) > 0 by simp only [List.length_cons]; omega) h⟩
      · rw [tl_S, Int.toNat_natCast, List.take_length]; rfl
      · show r.length < (x :: r).length
        exact Nat.lt_succ_self _
      · rw [tl_E, Tr.is_leaf, ← hq]
        have e : x = c := by simpa using h
        simp only [trL, e, if_true]
      · rw [← hq]
        have e : ¬ x = c := by simpa using h
        simp only [trL, e, if_false]
theorem tl_Ls : LoopsOk Pr Go.Proofs.Tryd.f79 0 (smLT 0 [tl_s]).o := LoopsOk.one (by kernel_rfl) tl_at
theorem tlf_x (s : List (BitVec 8)) (c : BitVec 8) : Tr.prune (Tr.Sh.any)
 (execBF Pr OR0 (smLT (0 : Nat) [tl_s]) (100 : Nat) Go.Proofs.Tryd.f79 [V.str s, V.u8 c] []) =
 Tr.chk true (Tr.leaf (Fin.ret (V.str (trL c s)), [])) := by kernel_rfl
theorem tlf_fn (s : List (BitVec 8)) (c : BitVec 8) : LFn Pr 79 [.str s, .u8 c] [] (.ret (.str (trL c s))) [] :=
  fnT OR0_sound mixed (by kernel_rfl) tl_Ls (tlf_x s c) (tr1 rfl rfl)
def readSb : List V → Heap → Option (List (BitVec 8) × BitVec 8) := fun args h => match args, h with
  | [.str s, .u8 c], [] => some (s, c)
  | _, _ => none
def tlf_g : List V → Heap → Tr (Fin × Heap) := ctT readSb (fun a => .leaf (.ret (.str (trL a.2 a.1)), []))
theorem tlf_ok : ∀ args h r, (tlf_g args h).is r → LFn Pr 79 args h r.1 r.2 := by
  refine ctT_ok (fun a => [.str a.1, .u8 a.2]) (fun _ => []) ?_ (fun a r h => ?_)
  · intro args h a e
    unfold readSb at e
    split at e <;> cases e
    exact ⟨rfl, rfl⟩
  · rw [Tr.is_leaf] at h; subst h; exact tlf_fn a.1 a.2
def KR1 : KnownT := [(79, tlf_g)]
theorem KR1_ok : KOkT Pr KR1 := KOkT.cons (Enters.of (fn := Go.Proofs.Tryd.f79) (by kernel_rfl) (by kernel_rfl)) tlf_ok .nil
def OR1 : OrcT := autoT Pr ext KR1 [74,62,76,14] 3
theorem OR1_sound : OrcSound Pr OR1.o := autoT_sound mixed ext_ok KR1_ok (by kernel_rfl) 3
theorem num_x (n : BitVec 64) : Tr.prune (Tr.Sh.any.l.l.l.l.r.r.r.r.l.l.l.l.l.l.l.l)
 (execBF Pr OR1 noLoopsT (100 : Nat) Go.Proofs.Tryd.f54 [V.u64 n] []) =
 Tr.chk true
 (Tr.leaf
 (Fin.ret
 (V.str
 (trL (UInt8.toBitVec (OfNat.ofNat (0 : Nat)))
 [BitVec.setWidth (8 : Nat) (n >>> (56 : Nat)), BitVec.setWidth (8 : Nat) (n >>> (48 : Nat)),
 BitVec.setWidth (8 : Nat) (n >>> (40 : Nat)), BitVec.setWidth (8 : Nat) (n >>> (32 : Nat)),
 BitVec.setWidth (8 : Nat) (n >>> (24 : Nat)), BitVec.setWidth (8 : Nat) (n >>> (16 : Nat)),
 BitVec.setWidth (8 : Nat) (n >>> (8 : Nat)), BitVec.setWidth (8 : Nat) (n >>> (0 : Nat))])),
 [])) := by kernel_rfl
theorem smb_x (s : List (BitVec 8)) (n : BitVec 64) (L : Nat) (k : Nat) : Tr.prune (Tr.Sh.any.both Tr.Sh.any)
 (execBN Pr OR1 noLoopsT (100 : Nat) (0 : Nat) [(2 : Nat), (3 : Nat), (21 : Nat), (22 : Nat), (23 : Nat)]
 [(2 : Nat), (3 : Nat)] (loopBody Go.Proofs.Tryd.f50 (0 : Nat))
 [((2 : Nat), V.u64 n), ((3 : Nat), V.bool false), ((21 : Nat), V.sl (0 : Nat) (0 : Nat) (1 : Nat) L none),
 ((22 : Nat), V.int IntKind.i64 (↑L : Int)), ((23 : Nat), V.int IntKind.i64 (↑k : Int))]
 [Blk.b8 s]) =
 Tr.chk true
 (Tr.br (decide ((↑k : Int) < (↑L : Int)))
 (Tr.chk
 (decide ((↑k : Int) < (↑L : Int)) && (decide ((0 : Nat) + k * (1 : Nat) < s.length) && true) && true && true)
 (Tr.leaf
 (X.normal,
 [((2 : Nat),
 V.u64
 (n <<< (8 : Nat) |||
 BitVec.setWidth (64 : Nat) (s.getD ((0 : Nat) + k * (1 : Nat)) (OfNat.ofNat (0 : Nat))))),
 ((3 : Nat), V.bool false), ((21 : Nat), V.sl (0 : Nat) (0 : Nat) (1 : Nat) L none),
 ((22 : Nat), V.int IntKind.i64 (↑L : Int)),
 ((23 : Nat), V.int IntKind.i64 (wrapI IntKind.i64 ((↑k : Int) + (1 : Int))))],
 [Blk.b8 s])))
 (Tr.leaf (X.exit (0 : Nat), [((2 : Nat), V.u64 n), ((3 : Nat), V.bool false)], []))) := by kernel_rfl
end
end Go.Proofs.YtbgiickegljpoaaDoor.K
end
section
open Go Go.Lh
namespace Go.Proofs.YtbgiickegljpoaaDoor.K
noncomputable section
set_option maxRecDepth 100000
def be8 (n : BitVec 64) : List (BitVec 8) := [BitVec.setWidth 8 (n >>> 56), BitVec.setWidth 8 (n >>> 48), BitVec.setWidth 8 (n >>> 40), BitVec.setWidth 8 (n >>> 32), BitVec.setWidth 8 (n >>> 24), BitVec.setWidth 8 (n >>> 16), BitVec.setWidth 8 (n >>> 8), BitVec.setWidth 8 (n >>> 0)]
def numB (n : BitVec 64) : List (BitVec 8) := @ite _ True (Classical.propDecidable True) (trL 0#8 (be8 n)) []
theorem numB_eq (n : BitVec 64) : numB n = trL 0#8 (be8 n) := if_pos trivial
theorem num_fn (n : BitVec 64) : LFn Pr 54 [.u64 n] [] (.ret (.str (numB n))) [] :=
  fnT OR1_sound mixed (by kernel_rfl) LoopsOk.noneT (num_x n) (tr1 rfl (by rw [numB_eq]; rfl))
def foldB (n : BitVec 64) (s : List (BitVec 8)) : BitVec 64 := s.foldl (fun n b => n <<< 8 ||| b.setWidth 64) n
def valB (s : List (BitVec 8)) : BitVec 64 := @ite _ True (Classical.propDecidable True) (foldB 0 s) 0
theorem valB_eq (s : List (BitVec 8)) : valB s = foldB 0 s := if_pos trivial
theorem foldB_snoc (n : BitVec 64) (s : List (BitVec 8)) (k : Nat) (h : k < s.length) : foldB n (s.take (k + 1)) = foldB n (s.take k) <<< 8 ||| (s.getD k 0).setWidth 64 := by
  unfold foldB
  rw [List.take_add_one, List.foldl_append, List.getElem?_eq_getElem h]
  simp [h]
structure SB where
  n : BitVec 64
  s : List (BitVec 8)
  L : Nat
  M : Int
def sm_S (a : SB) (k : Nat) : Fr × Heap := ([(2,.u64 (foldB a.n (a.s.take k))),(3,.bool false),(21,.sl 0 0 1 a.L none),(22,.int .i64 a.M),(23,.int .i64 (k : Int))], [.b8 a.s])
def sm_read : Fr → Heap → Option SB := fun f h => match f, h with
  | [(2,.u64 n),(3,.bool false),(21,.sl 0 0 1 L none),(22,.int .i64 M),(23,.int .i64 0)], [.b8 s] => some ⟨n, s, L, M⟩
  | _, _ => none
def sm_ok (a : SB) : Bool := @decide (a.s.length < 2 ^ 63 ∧ a.L = a.s.length ∧ a.M = (a.s.length : Int)) (Classical.propDecidable _)
def sm_E (a : SB) : Tr (X × Fr × Heap) := .leaf (.exit 0, [(2,.u64 (foldB a.n a.s)),(3,.bool false)], [])
def sm_s : SmT := whT 4 [2,3,21,22,23] sm_read sm_ok sm_E
theorem sm_at : SmAtT Pr Go.Proofs.Tryd.f50 0 sm_s 0 := by
  refine cntT_at (L := noLoopsT) (fuel := 100) (on := [2,3,21,22,23]) (off := [2,3]) OR1_sound mixed sm_S (fun a => a.s.length) (by kernel_rfl) (by kernel_rfl) (by kernel_rfl) LoopsOk.noneT ?_ ?_
  · intro f g a h
    unfold sm_read at h
    split at h <;> cases h
    rfl
  · rintro ⟨n, s, L, M⟩ q hok hq k hk
    have hok := @of_decide_eq_true _ (Classical.propDecidable _) hok
    simp only at hok hk
    obtain ⟨hok, rfl, rfl⟩ := hok
    rw [sm_E, Tr.is_leaf] at hq
    simp only at hq
    have hS : ∀ k, sm_S ⟨n, s, s.length, s.length⟩ k = ([(2,.u64 (foldB n (s.take k))),(3,.bool false),(21,.sl 0 0 1 s.length none),(22,.int .i64 (s.length : Int)),(23,.int .i64 (k : Int))], [.b8 s]) := fun k => rfl
    rw [hS, hS]
    dsimp only
    have hw := smb_x s (foldB n (s.take k)) s.length k
    revert hw
    generalize (execBN Pr OR1 noLoopsT 100 0 [2,3,21,22,23] [2,3] (Go.Lh.loopBody Go.Proofs.Tryd.f50 0) [(2,.u64 (foldB n (s.take k))),(3,.bool false),(21,.sl 0 0 1 s.length none),(22,.int .i64 (s.length : Int)),(23,.int .i64 (k : Int))] [.b8 s]) = E
    intro hw
    refine Tr.wp_prune hw ?_
    refine wp_chk_true.2 (wp_br.2 ⟨fun h => ?_, fun h => ?_⟩)
    · have h := of_decide_eq_true h
      have hk' : k < s.length := by omega
      refine wp_chk.2 ⟨?_, wp_leaf.2 (.inl ⟨rfl, hk', ?_⟩)⟩
      · simp only [Bool.and_eq_true, Bool.and_true, decide_eq_true_eq]; omega
      · rw [show ((k : Int) + 1) = ((k + 1 : Nat) : Int) by omega, wrapI_nat (by omega), foldB_snoc n s k hk', Nat.mul_one, Nat.zero_add]
    · have h := of_decide_eq_false h
      have e : k = s.length := by omega
      subst e
      refine wp_leaf.2 (.inr ⟨fun h => (by cases h), ?_⟩)
      rw [← hq, List.take_length]
theorem sm_Ls : LoopsOk Pr Go.Proofs.Tryd.f50 0 (smLT 0 [sm_s]).o := LoopsOk.one (by kernel_rfl) sm_at
theorem small_x (l : Bool) (s : List (BitVec 8)) (z : V) : Tr.prune (Tr.Sh.any.l.l.l.l.l.l.l.both
 (Tr.Sh.any.l.l.l.both ((Tr.Sh.any.both Tr.Sh.any).l.l.l.l.l.both Tr.Sh.any.r.r.r.r.r.r).r.r).r.r.r)
 (execBF Pr OR1 (smLT (0 : Nat) [sm_s]) (100 : Nat) Go.Proofs.Tryd.f50 [V.agg [V.bool l, V.str s, z]] []) =
 Tr.chk true
 (Tr.br l (Tr.chk true (Tr.leaf (Fin.ret (V.tup [V.u64 (BitVec.ofInt (64 : Nat) (0 : Int)), V.bool false]), [])))
 (Tr.chk true
 (Tr.br (decide ((↑s.length : Int) > (8 : Int)))
 (Tr.chk true (Tr.leaf (Fin.ret (V.tup [V.u64 (BitVec.ofInt (64 : Nat) (0 : Int)), V.bool false]), [])))
 (Tr.chk true
 (Tr.br (decide ((↑s.length : Int) ≥ (1 : Int)))
 (Tr.chk (decide ((some (1 : Int)).getD (↑s.length : Int) ≤ (↑s.length : Int)) && true)
 (Tr.br
 (List.take ((some (1 : Int)).getD (↑s.length : Int)).toNat s ==
 bytesOf (ByteArray.mk #[OfNat.ofNat (0 : Nat)]))
 (Tr.chk true (Tr.leaf (Fin.ret (V.tup [V.u64 (BitVec.ofInt (64 : Nat) (0 : Int)), V.bool false]), [])))
 (Tr.chk (sm_ok (SB.mk (BitVec.ofInt (64 : Nat) (0 : Int)) s s.length (↑s.length : Int)) && true && true)
 (Tr.leaf (Fin.ret (V.tup [V.u64 (foldB (BitVec.ofInt (64 : Nat) (0 : Int)) s), V.bool true]), [])))))
 (Tr.chk (sm_ok (SB.mk (BitVec.ofInt (64 : Nat) (0 : Int)) s s.length (↑s.length : Int)) && true && true)
 (Tr.leaf
 (Fin.ret (V.tup [V.u64 (foldB (BitVec.ofInt (64 : Nat) (0 : Int)) s), V.bool true]),
 [])))))))) := by kernel_rfl
def num_read : List V → Heap → Option (BitVec 64) := fun a h => match a, h with
  | [.u64 n], [] => some n
  | _, _ => none
def num_g : List V → Heap → Tr (Fin × Heap) := ctT num_read (fun n => .leaf (.ret (.str (numB n)), []))
theorem num_ok : ∀ args h r, (num_g args h).is r → LFn Pr 54 args h r.1 r.2 := by
  refine ctT_ok (fun a => [.u64 a]) (fun _ => []) ?_ (fun a r h => ?_)
  · intro args h a e
    unfold num_read at e
    split at e <;> cases e
    exact ⟨rfl, rfl⟩
  · rw [Tr.is_leaf] at h; subst h; exact num_fn a
def KR2 : KnownT := (54, num_g) :: KR1
theorem KR2_ok : KOkT Pr KR2 := KOkT.cons (Enters.of (fn := Go.Proofs.Tryd.f54) (by kernel_rfl) (by kernel_rfl)) num_ok (KR1_ok)
def OR2 : OrcT := autoT Pr ext KR2 [14] 3
theorem OR2_sound : OrcSound Pr OR2.o := autoT_sound mixed ext_ok KR2_ok (by kernel_rfl) 3
theorem ahead_x (b : BitVec 8) (n : Nat) : Tr.prune (Tr.Sh.any.both Tr.Sh.any)
 (execBF Pr OR2 noLoopsT (100 : Nat) Go.Proofs.Tryd.f46 [V.u8 b, V.int IntKind.i64 (↑n : Int)] []) =
 Tr.chk true
 (Tr.br (decide ((↑n : Int) ≤ (55 : Int)))
 (Tr.chk true (Tr.leaf (Fin.ret (V.str [b + BitVec.ofInt (8 : Nat) (↑n : Int)]), [])))
 (Tr.chk
 (decide ((1 : Nat) + (numB (BitVec.ofInt (64 : Nat) (↑n : Int))).length ≤ (9223372036854775807 : Nat)) && true &&
 true)
 (Tr.leaf
 (Fin.ret
 (V.str
 ([b + BitVec.ofInt (8 : Nat) (55 : Int) +
 BitVec.ofInt (8 : Nat) (↑(numB (BitVec.ofInt (64 : Nat) (↑n : Int))).length : Int)] ++
 numB (BitVec.ofInt (64 : Nat) (↑n : Int)))),
 [])))) := by kernel_rfl
end
end Go.Proofs.YtbgiickegljpoaaDoor.K
end
section
open Go Go.Lh
namespace Go.Proofs.YtbgiickegljpoaaDoor.K
noncomputable section
set_option maxRecDepth 100000
abbrev B := BitVec 8
def smallB (l : Bool) (s : List B) : Bool := !l && decide (s.length ≤ 8) && !(s.take 1 == [0#8])
def smallO (l : Bool) (s : List B) : Bool := @ite _ True (Classical.propDecidable True) (smallB l s) false
theorem smallO_eq (l : Bool) (s : List B) : smallO l s = smallB l s := if_pos trivial
def smallN (l : Bool) (s : List B) : BitVec 64 := @ite _ (smallB l s = true) (Classical.propDecidable _) (valB s) 0
theorem small_fn (l : Bool) (s : List B) (z : V) : LFn Pr 50 [.agg [.bool l, .str s, z]] [] (.ret (.tup [.u64 (smallN l s), .bool (smallO l s)])) [] := by
  refine fnT OR1_sound mixed (by kernel_rfl) sm_Ls (small_x l s z) ?_
  rw [smallO_eq]
  unfold smallN
  have no : smallB l s = false → (V.tup [V.u64 (BitVec.ofInt 64 0), V.bool false]) = (V.tup [.u64 (@ite _ (smallB l s = true) (Classical.propDecidable _) (valB s) 0), .bool (smallB l s)]) := by
    intro h
    rw [if_neg (by rw [h]; decide), h]; rfl
  have yes : smallB l s = true → (V.tup [V.u64 (foldB (BitVec.ofInt 64 0) s), V.bool true]) = (V.tup [.u64 (@ite _ (smallB l s = true) (Classical.propDecidable _) (valB s) 0), .bool (smallB l s)]) := by
    intro h
    rw [if_pos h, h, valB_eq]; rfl
  refine wp_chk_true.2 (wp_br.2 ⟨fun h => wp_chk_true.2 (wp_leaf.2 ?_), fun h => wp_chk_true.2 (wp_br.2 ⟨fun h8 => wp_chk_true.2 (wp_leaf.2 ?_), fun h8 => wp_chk_true.2 (wp_br.2 ⟨fun h1 => wp_chk.2 ⟨?_, wp_br.2 ⟨fun h0 => wp_chk_true.2 (wp_leaf.2 ?_), fun h0 => wp_chk.2 ⟨?_, wp_leaf.2 ?_⟩⟩⟩, fun h1 => wp_chk.2 ⟨?_, wp_leaf.2 ?_⟩⟩)⟩)⟩)
  · rw [no (by unfold smallB; rw [h]; rfl)]
  · have h8 := of_decide_eq_true h8
    rw [no (by unfold smallB; rw [decide_eq_false (by omega)]; simp)]
  · have h1 := of_decide_eq_true h1
    simp only [Option.getD_some, Bool.and_true, decide_eq_true_eq]; omega
  · have e : (s.take 1 == [0#8]) = true := h0
    rw [no (by unfold smallB; rw [e]; simp)]
  · have h8 := of_decide_eq_false h8
    simp only [Bool.and_true]
    exact @decide_eq_true _ (Classical.propDecidable _) ⟨by simp only; omega, rfl, rfl⟩
  · have h8 := of_decide_eq_false h8
    have e : (s.take 1 == [0#8]) = false := h0
    rw [yes (by unfold smallB; rw [h, e, decide_eq_true (by omega)]; rfl)]
  · have h8 := of_decide_eq_false h8
    simp only [Bool.and_true]
    exact @decide_eq_true _ (Classical.propDecidable _) ⟨by simp only; omega, rfl, rfl⟩
  · have h8 := of_decide_eq_false h8
    have h1 := of_decide_eq_false h1
    have e : s = [] := by cases s with | nil => rfl | cons a r => simp only [List.length_cons] at h1; omega
    rw [yes (by unfold smallB; rw [h, decide_eq_true (by omega), e]; rfl)]
def headB (b : B) (n : Nat) : List B := if n ≤ 55 then [b + BitVec.ofNat 8 n] else (b + 55#8 + BitVec.ofNat 8 (numB (BitVec.ofNat 64 n)).length) :: numB (BitVec.ofNat 64 n)
def headO (b : B) (n : Nat) : List B := @ite _ True (Classical.propDecidable True) (headB b n) []
theorem headO_eq (b : B) (n : Nat) : headO b n = headB b n := if_pos trivial
theorem numB_len (n : BitVec 64) : (numB n).length ≤ 8 := by rw [numB_eq]; exact trL_length _ _
theorem ahead_fn (b : B) (n : Nat) : LFn Pr 46 [.u8 b, .int .i64 (n : Int)] [] (.ret (.str (headO b n))) [] := by
  refine fnT OR2_sound mixed (by kernel_rfl) LoopsOk.noneT (ahead_x b n) ?_
  rw [headO_eq]
  unfold headB
  refine wp_chk_true.2 (wp_br.2 ⟨fun h => wp_chk_true.2 (wp_leaf.2 ?_), fun h => wp_chk.2 ⟨?_, wp_leaf.2 ?_⟩⟩)
  · have h := of_decide_eq_true h
    rw [if_pos (by omega), BitVec.ofInt_natCast]
  · have := numB_len (BitVec.ofInt 64 n)
    simp only [Bool.and_true, decide_eq_true_eq]; omega
  · have h := of_decide_eq_false h
    rw [if_neg (by omega), BitVec.ofInt_natCast, BitVec.ofInt_natCast]; rfl
structure RB where
  n : BitVec 64
  s : List B
end
end Go.Proofs.YtbgiickegljpoaaDoor.K
end
section
open Go Go.Lh
namespace Go.Proofs.YtbgiickegljpoaaDoor.K
noncomputable section
set_option maxRecDepth 100000
def beK : Nat → BitVec 64 → List B
  | 0, _ => []
  | k + 1, n => beK k (n / 256#64) ++ [BitVec.setWidth 8 (n % 256#64)]
theorem c256 : (256#64).toNat = 256 := by decide
theorem beN_snoc (s : List B) (b : B) : beN (s ++ [b]) = beN s * 256 + b.toNat := by
  induction s with
  | nil => simp [beN]
  | cons x r ih =>
    rw [List.cons_append, beN, beN, ih, List.length_append, List.length_singleton, Nat.pow_succ, Nat.add_mul, Nat.mul_assoc, Nat.add_assoc]
theorem beN_beK : ∀ (k : Nat) (n : BitVec 64), n.toNat < 256 ^ k → beN (beK k n) = n.toNat
  | 0, n, h => by simp at h; rw [beK, beN, h]
  | k + 1, n, h => by
    have h2 : (n / 256#64).toNat < 256 ^ k := by
      rw [BitVec.toNat_udiv]
      exact Nat.div_lt_of_lt_mul (by rw [show (256#64).toNat = 256 by decide, Nat.mul_comm]; rw [Nat.pow_succ] at h; exact h)
    rw [beK, beN_snoc, beN_beK k _ h2]
    simp only [BitVec.toNat_udiv, BitVec.toNat_setWidth, BitVec.toNat_umod, c256]
    omega
theorem beK_8 (n : BitVec 64) : beK 8 n = be8 n := by
  simp only [beK, be8, List.nil_append, List.cons_append]
  have e : ∀ (m : BitVec 64) (k : Nat) , m.toNat = n.toNat / 2 ^ k → BitVec.setWidth 8 (m % 256#64) = BitVec.setWidth 8 (n >>> k) := by
    intro m k h
    apply BitVec.eq_of_toNat_eq
    simp only [BitVec.toNat_setWidth, BitVec.toNat_umod, c256, BitVec.toNat_ushiftRight, Nat.shiftRight_eq_div_pow, h]
    omega
  have d : ∀ (m : BitVec 64) (k : Nat), m.toNat = n.toNat / 2 ^ k → (m / 256#64).toNat = n.toNat / 2 ^ (k + 8) := by
    intro m k h
    rw [BitVec.toNat_udiv, h, show (256#64).toNat = 2 ^ 8 by decide, Nat.div_div_eq_div_mul, ← Nat.pow_add]
  have h0 : n.toNat = n.toNat / 2 ^ 0 := by simp
  have h1 := d _ _ h0
  have h2 := d _ _ h1
  have h3 := d _ _ h2
  have h4 := d _ _ h3
  have h5 := d _ _ h4
  have h6 := d _ _ h5
  have h7 := d _ _ h6
  rw [e _ _ h0, e _ _ h1, e _ _ h2, e _ _ h3, e _ _ h4, e _ _ h5, e _ _ h6, e _ _ h7]
theorem byte_step (n : BitVec 64) (b : B) : n <<< 8 ||| b.setWidth 64 = n * 256#64 + b.setWidth 64 := by
  have h : n <<< 8 &&& b.setWidth 64 = 0#64 := by
    apply BitVec.eq_of_getLsbD_eq
    intro i hi
    simp only [BitVec.getLsbD_and, BitVec.getLsbD_shiftLeft, BitVec.getLsbD_setWidth, BitVec.getLsbD_zero]
    rcases Nat.lt_or_ge i 8 with h | h
    · simp [h]
    · rw [BitVec.getLsbD_of_ge b i h]; simp
  rw [← BitVec.add_eq_or_of_and_eq_zero _ _ h, BitVec.shiftLeft_eq_mul_twoPow]
  rfl
end
end Go.Proofs.YtbgiickegljpoaaDoor.K
end
section
open Go Go.Lh
namespace Go.Proofs.YtbgiickegljpoaaDoor.K
noncomputable section
set_option maxRecDepth 100000
def small_read : List V → Heap → Option (Bool × List B × V) := fun a h => match a, h with
  | [.agg [.bool l, .str s, z]], [] => some (l, s, z)
  | _, _ => none
def small_g : List V → Heap → Tr (Fin × Heap) := ctT small_read (fun a => .leaf (.ret (.tup [.u64 (smallN a.1 a.2.1), .bool (smallO a.1 a.2.1)]), []))
theorem small_ok : ∀ args h r, (small_g args h).is r → LFn Pr 50 args h r.1 r.2 := by
  refine ctT_ok (fun a => [.agg [.bool a.1, .str a.2.1, a.2.2]]) (fun _ => []) ?_ (fun a r h => ?_)
  · intro args h a e
    unfold small_read at e
    split at e <;> cases e
    exact ⟨rfl, rfl⟩
  · rw [Tr.is_leaf] at h; subst h; exact small_fn _ _ _
def ahead_read : List V → Heap → Option (B × Int) := fun a h => match a, h with
  | [.u8 b, .int .i64 n], [] => some (b, n)
  | _, _ => none
def nat0 (n : Int) : Bool := @decide (0 ≤ n) (Classical.propDecidable _)
def ahead_g : List V → Heap → Tr (Fin × Heap) := ctT ahead_read (fun a => .chk (nat0 a.2) (.leaf (.ret (.str (headO a.1 a.2.toNat)), [])))
theorem ahead_ok : ∀ args h r, (ahead_g args h).is r → LFn Pr 46 args h r.1 r.2 := by
  refine ctT_ok (fun a => [.u8 a.1, .int .i64 a.2]) (fun _ => []) ?_ (fun a r h => ?_)
  · intro args h a e
    unfold ahead_read at e
    split at e <;> cases e
    exact ⟨rfl, rfl⟩
  · rw [Tr.is_chk, Tr.is_leaf] at h
    obtain ⟨h1, rfl⟩ := h
    have h1 : 0 ≤ a.2 := @of_decide_eq_true _ (Classical.propDecidable _) h1
    have := ahead_fn a.1 a.2.toNat
    rw [Int.toNat_of_nonneg h1] at this
    exact this
def KR5 : KnownT := (50, small_g) :: (46, ahead_g) :: KR2
theorem KR5_ok : KOkT Pr KR5 := KOkT.cons (Enters.of (fn := Go.Proofs.Tryd.f50) (by kernel_rfl) (by kernel_rfl)) small_ok (KOkT.cons (Enters.of (fn := Go.Proofs.Tryd.f46) (by kernel_rfl) (by kernel_rfl)) ahead_ok (KR2_ok))
def OR5 : OrcT := autoT Pr ext KR5 [14, 45, 61, 29, 47] 3
theorem OR5_sound : OrcSound Pr OR5.o := autoT_sound mixed ext_ok KR5_ok (by kernel_rfl) 3
inductive It where
  | txt (s : List B)
  | lst (l : List It)
mutual
def It.dep : It → Nat
  | .txt _ => 0
  | .lst l => It.deps l + 1
def It.deps : List It → Nat
  | [] => 0
  | x :: r => max (It.dep x) (It.deps r)
end
mutual
def enc : It → List B
  | .txt s => if s.length = 1 ∧ s.getD 0 0 < 128#8 then s else headO 128#8 s.length ++ s
  | .lst l => headO 192#8 (encs l).length ++ encs l
def encs : List It → List B
  | [] => []
  | x :: r => enc x ++ encs r
end
theorem dep_le : ∀ {l : List It} {x : It}, x ∈ l → x.dep ≤ It.deps l
  | y :: r, x, h => by
    rw [It.deps]
    rcases List.mem_cons.1 h with rfl | h
    · exact Nat.le_max_left _ _
    · exact Nat.le_trans (dep_le h) (Nat.le_max_right _ _)
theorem encs_append (l m : List It) : encs (l ++ m) = encs l ++ encs m := by
  induction l with
  | nil => rw [List.nil_append, encs]; rfl
  | cons x r ih => rw [List.cons_append, encs, encs, ih, List.append_assoc]
structure RW where
  b : Nat → Bool
  s : Nat → List B
  m : Nat → Nat
  g : Nat → Nat → Nat → V
def rwF (q : RW) : Nat → Nat → V := fun i j => match j with
  | 0 => .bool (q.b i)
  | 1 => .str (q.s i)
  | _ + 2 => .isl 3 (q.m i) (q.g i)
def bOfV : V → Bool | .bool b => b | _ => false
def sOfV : V → List B | .str s => s | _ => []
def mOfV : V → Nat | .isl _ n _ => n | _ => 0
def gOfV : V → Nat → Nat → V | .isl _ _ g => g | _ => fun _ _ => .any
def rdW (f : Nat → Nat → V) : RW := ⟨fun i => bOfV (f i 0), fun i => sOfV (f i 1), fun i => mOfV (f i 2), fun i => gOfV (f i 2)⟩
theorem rdW_rwF (q : RW) : rdW (rwF q) = q := rfl
def RW.at (q : RW) (i : Nat) : V := .agg [.bool (q.b i), .str (q.s i), .isl 3 (q.m i) (q.g i)]
inductive isIt : V → It → Prop where
  | txt (s : List B) (g : Nat → Nat → V) : isIt (.agg [.bool false, .str s, .isl 3 0 g]) (.txt s)
  | lst (q : RW) (l : List It) (h : ∀ i (hi : i < l.length), isIt (q.at i) l[i]) : isIt (.agg [.bool true, .str [], .isl 3 l.length (rwF q)]) (.lst l)
theorem isIt_one {v : V} {x : It} (h : isIt v x) : ∀ {y : It}, isIt v y → x = y := by
  induction h with
  | txt s => intro y h; cases h; rfl
  | lst q l h ih =>
    intro y h2
    generalize hv : V.agg [.bool true, .str [], .isl 3 l.length (rwF q)] = v at h2
    cases h2 with
    | txt s => cases hv
    | lst q2 m h3 =>
      injection hv with hv
      injection hv with _ hv
      injection hv with _ hv
      injection hv with hv _
      injection hv with _ hn hf
      have hq : q = q2 := by have := congrArg rdW hf; rwa [rdW_rwF, rdW_rwF] at this
      subst hq
      congr 1
      refine List.ext_getElem hn fun i h1 h2 => ?_
      exact ih i h1 (h3 i h2)
def theIt (v : V) : It := @dite _ (∃ x, isIt v x) (Classical.propDecidable _) (fun h => Classical.choose h) (fun _ => .txt [])
theorem theIt_eq {v : V} {x : It} (h : isIt v x) : theIt v = x := by
  have hx : ∃ x, isIt v x := ⟨x, h⟩
  unfold theIt
  rw [dif_pos hx]
  exact isIt_one (Classical.choose_spec hx) h
def nrm : V → V
  | .agg [.bool b, .str s, .nilSl] => .agg [.bool b, .str s, .isl 3 0 (fun _ _ => .any)]
  | v => v
theorem nrm_rel {I : Nat → Prop} {w : World} {ρ : Ren} {v : V} {u : Value} (h : VRel I w ρ v u) : VRel I w ρ (nrm v) u := by
  unfold nrm
  split
  · cases h with
    | agg _ _ _ h =>
      cases h with
      | cons _ _ v1 _ r1 h1 h =>
        cases h with
        | cons _ _ v2 _ r2 h2 h =>
          cases h with
          | cons _ _ v3 _ r3 h3 h =>
            cases h
            cases h3
            exact .agg _ _ _ (.cons _ _ _ _ _ h1 (.cons _ _ _ _ _ h2 (.cons _ _ _ _ _ (.islz _ _ _ _ _ (fun _ => rfl)) (.nil _))))
  · exact h
def encV (v : V) : List B := @ite _ True (Classical.propDecidable True) (enc (theIt (nrm v))) []
theorem encV_eq {v : V} {x : It} (h : isIt (nrm v) x) : encV v = enc x := by unfold encV; rw [if_pos trivial, theIt_eq h]
def encR (q : RW) : Nat → List B
  | 0 => []
  | k + 1 => encR q k ++ encV (q.at k)
def encRO (f : Nat → Nat → V) (n : Nat) : List B := @ite _ True (Classical.propDecidable True) (encR (rdW f) n) []
theorem encRO_eq (f : Nat → Nat → V) (n : Nat) : encRO f n = encR (rdW f) n := if_pos trivial
theorem encR_eq (q : RW) (l : List It) (h : ∀ i (hi : i < l.length), isIt (q.at i) l[i]) : ∀ k, k ≤ l.length → encR q k = encs (l.take k)
  | 0, _ => by rw [List.take_zero, encs, encR]
  | k + 1, hk => by
    rw [encR, encR_eq q l h k (by omega), encV_eq (v := q.at k) (x := l[k]) (h k (by omega)), List.take_add_one, List.getElem?_eq_getElem (by omega), encs_append]
    show _ ++ _ = _ ++ encs [l[k]]
    rw [encs, encs, List.append_nil]
theorem headO_len (b : B) (n : Nat) : 1 ≤ (headO b n).length ∧ (headO b n).length ≤ 9 := by
  rw [headO_eq]
  unfold headB
  split
  · exact ⟨Nat.le_refl _, by simp⟩
  · rw [List.length_cons]
    have := numB_len (BitVec.ofNat 64 n)
    omega
theorem enc_pos (x : It) : 1 ≤ (enc x).length := by
  cases x with
  | txt s =>
    rw [enc]
    split
    · rename_i h; omega
    · rw [List.length_append]; have := headO_len 128#8 s.length; omega
  | lst l => rw [enc, List.length_append]; have := headO_len 192#8 (encs l).length; omega
def most40 : Nat := 1099511627776
structure WI where
  b : Option (Nat × List B)
  v : V
def itOk (d : Nat) (a : WI) : Prop := (∃ x, isIt (nrm a.v) x ∧ x.dep < d) ∧ match a.b with | none => (encV a.v).length ≤ most40 | some (n, xs) => n = xs.length ∧ xs.length + (encV a.v).length ≤ most40
def it_read : List V → Heap → Option WI := fun a h => match a, h with
  | [.ptr 0 0, v], [.bld 70 .nilPtr .nilSl] => some ⟨none, v⟩
  | [.ptr 0 0, v], [.bld 70 (.ptr 0 0) (.sl 1 0 1 n none), .buf 5 xs] => some ⟨some (n, xs), v⟩
  | _, _ => none
def it_H (a : WI) : Heap := match a.b with
  | none => [.bld 70 .nilPtr .nilSl]
  | some (n, xs) => [.bld 70 (.ptr 0 0) (.sl 1 0 1 n none), .buf 5 xs]
def it_H' (a : WI) : Heap := match a.b with
  | none => [.bld 70 (.ptr 0 0) (.sl 1 0 1 (encV a.v).length none), .buf 5 (encV a.v)]
  | some (n, xs) => [.bld 70 (.ptr 0 0) (.sl 2 0 1 (n + (encV a.v).length) none), .dead, .buf 5 (xs ++ encV a.v)]
def itOkB (d : Nat) (a : WI) : Bool := @decide (itOk d a) (Classical.propDecidable _)
def it_f (d : Nat) (a : WI) : Tr (Fin × Heap) := .chk (itOkB d a) (.leaf (.ret (.tup []), it_H' a))
def it_g (d : Nat) : List V → Heap → Tr (Fin × Heap) := ctT it_read (it_f d)
def ItOk (d : Nat) : Prop := ∀ args h r, (it_g d args h).is r → LFn Pr 28 args h r.1 r.2
theorem it_ok_of {d : Nat} (H : ∀ a, itOk d a → LFn Pr 28 [.ptr 0 0, a.v] (it_H a) (.ret (.tup [])) (it_H' a)) : ItOk d := by
  refine ctT_ok (fun a => [.ptr 0 0, a.v]) it_H ?_ (fun a r h => ?_)
  · intro args h a e
    unfold it_read at e
    split at e <;> cases e <;> exact ⟨rfl, rfl⟩
  · rw [it_f, Tr.is_chk, Tr.is_leaf] at h
    obtain ⟨h1, rfl⟩ := h
    exact H a (@of_decide_eq_true _ (Classical.propDecidable _) h1)
def KI (d : Nat) : KnownT := (28, it_g d) :: KR5
theorem KI_ok {d : Nat} (h : ItOk d) : KOkT Pr (KI d) := KOkT.cons (Enters.of (fn := Go.Proofs.Tryd.f28) (by kernel_rfl) (by kernel_rfl)) h KR5_ok
def OI (d : Nat) : OrcT := autoT Pr ext (KI d) [14] 3
theorem OI_sound {d : Nat} (h : ItOk d) : OrcSound Pr (OI d).o := autoT_sound mixed ext_ok (KI_ok h) (by kernel_rfl) 3
theorem ea0_x (d : Nat) (n : Nat) (q : RW) : Tr.prune (Tr.Sh.any.both Tr.Sh.any)
 (execBN Pr (OI d) noLoopsT (100 : Nat) (1 : Nat) [(1 : Nat), (6 : Nat), (7 : Nat), (8 : Nat)] []
 (loopBody Go.Proofs.Tryd.f44 (0 : Nat))
 [((1 : Nat), V.fn (28 : FuncId) [V.ptr (0 : Nat) (0 : Nat)] []), ((6 : Nat), V.isl (3 : Nat) n (rwF q)),
 ((7 : Nat), V.int IntKind.i64 (↑n : Int)), ((8 : Nat), V.int IntKind.i64 (0 : Int))]
 [Blk.bld (70 : TypeId) V.nilPtr V.nilSl]) =
 Tr.chk true
 (Tr.br (decide ((0 : Int) < (↑n : Int)))
 (Tr.chk
 (decide ((0 : Int) < (↑n : Int)) && (decide ((0 : Nat) < n) && true && true) &&
 itOkB d
 (WI.mk none
 (V.agg
 [V.bool (q.b (0 : Nat)), V.str (q.s (0 : Nat)), V.isl (3 : Nat) (q.m (0 : Nat)) (q.g (0 : Nat))])) &&
 true)
 (Tr.leaf
 (X.normal,
 [((1 : Nat), V.fn (28 : Nat) [V.ptr (0 : Nat) (0 : Nat)] []), ((6 : Nat), V.isl (3 : Nat) n (rwF q)),
 ((7 : Nat), V.int IntKind.i64 (↑n : Int)), ((8 : Nat), V.int IntKind.i64 (1 : Int))],
 [Blk.bld (70 : Nat) (V.ptr (0 : Nat) (0 : Nat))
 (V.sl (1 : Nat) (0 : Nat) (1 : Nat)
 (encV
 (V.agg
 [V.bool (q.b (0 : Nat)), V.str (q.s (0 : Nat)),
 V.isl (3 : Nat) (q.m (0 : Nat)) (q.g (0 : Nat))])).length
 none),
 Blk.buf (5 : Nat)
 (encV
 (V.agg
 [V.bool (q.b (0 : Nat)), V.str (q.s (0 : Nat)), V.isl (3 : Nat) (q.m (0 : Nat)) (q.g (0 : Nat))]))])))
 (Tr.leaf (X.exit (0 : Nat), [], [Blk.bld (70 : Nat) V.nilPtr V.nilSl]))) := by kernel_rfl
theorem ea1_x (d : Nat) (n : Nat) (k : Nat) (m : Nat) (q : RW) (xs : List B) : Tr.prune (Tr.Sh.any.both Tr.Sh.any)
 (execBN Pr (OI d) noLoopsT (100 : Nat) (1 : Nat) [(1 : Nat), (6 : Nat), (7 : Nat), (8 : Nat)] []
 (loopBody Go.Proofs.Tryd.f44 (0 : Nat))
 [((1 : Nat), V.fn (28 : FuncId) [V.ptr (0 : Nat) (0 : Nat)] []), ((6 : Nat), V.isl (3 : Nat) n (rwF q)),
 ((7 : Nat), V.int IntKind.i64 (↑n : Int)), ((8 : Nat), V.int IntKind.i64 (↑k : Int))]
 [Blk.bld (70 : TypeId) (V.ptr (0 : Nat) (0 : Nat)) (V.sl (1 : Nat) (0 : Nat) (1 : Nat) m none),
 Blk.buf (5 : TypeId) xs]) =
 Tr.chk true
 (Tr.br (decide ((↑k : Int) < (↑n : Int)))
 (Tr.chk
 (decide ((↑k : Int) < (↑n : Int)) && (decide (k < n) && true && true) &&
 itOkB d (WI.mk (some (m, xs)) (V.agg [V.bool (q.b k), V.str (q.s k), V.isl (3 : Nat) (q.m k) (q.g k)])) &&
 true)
 (Tr.leaf
 (X.normal,
 [((1 : Nat), V.fn (28 : Nat) [V.ptr (0 : Nat) (0 : Nat)] []), ((6 : Nat), V.isl (3 : Nat) n (rwF q)),
 ((7 : Nat), V.int IntKind.i64 (↑n : Int)),
 ((8 : Nat), V.int IntKind.i64 (wrapI IntKind.i64 ((↑k : Int) + (1 : Int))))],
 [Blk.bld (70 : Nat) (V.ptr (0 : Nat) (0 : Nat))
 (V.sl (1 : Nat) (0 : Nat) (1 : Nat)
 (m + (encV (V.agg [V.bool (q.b k), V.str (q.s k), V.isl (3 : Nat) (q.m k) (q.g k)])).length) none),
 Blk.buf (5 : Nat) (xs ++ encV (V.agg [V.bool (q.b k), V.str (q.s k), V.isl (3 : Nat) (q.m k) (q.g k)]))])))
 (Tr.leaf
 (X.exit (0 : Nat), [],
 [Blk.bld (70 : Nat) (V.ptr (0 : Nat) (0 : Nat)) (V.sl (1 : Nat) (0 : Nat) (1 : Nat) m none),
 Blk.buf (5 : Nat) xs]))) := by kernel_rfl
end
end Go.Proofs.YtbgiickegljpoaaDoor.K
end
section
open Go Go.Lh
namespace Go.Proofs.YtbgiickegljpoaaDoor.K
noncomputable section
set_option maxRecDepth 100000
structure EA where
  n : Nat
  f : Nat → Nat → V
  N : Int
def bldH (xs : List B) : Heap := [.bld 70 (.ptr 0 0) (.sl 1 0 1 xs.length none), .buf 5 xs]
def ea_H (f : Nat → Nat → V) : Nat → Heap
  | 0 => [.bld 70 .nilPtr .nilSl]
  | k + 1 => bldH (encR (rdW f) (k + 1))
def ea_S (a : EA) (k : Nat) : Fr × Heap := ([(1,.fn 28 [.ptr 0 0] []),(6,.isl 3 a.n a.f),(7,.int .i64 a.N),(8,.int .i64 (k : Int))], ea_H a.f k)
def ea_read : Fr → Heap → Option EA := fun f h => match f, h with
  | [(1,.fn 28 [.ptr 0 0] []),(6,.isl 3 n f),(7,.int .i64 N),(8,.int .i64 0)], [.bld 70 .nilPtr .nilSl] => some ⟨n, f, N⟩
  | _, _ => none
def rowOk (d n : Nat) (f : Nat → Nat → V) : Prop := f = rwF (rdW f) ∧ n < 2 ^ 60 ∧ (∀ i, i < n → ∃ x, isIt ((rdW f).at i) x ∧ x.dep < d) ∧ (encRO f n).length ≤ most40
def rowOkB (d n : Nat) (f : Nat → Nat → V) : Bool := @decide (rowOk d n f) (Classical.propDecidable _)
def ea_ok (d : Nat) (a : EA) : Bool := @decide (rowOk d a.n a.f ∧ a.N = (a.n : Int)) (Classical.propDecidable _)
def ea_E (a : EA) : Tr (X × Fr × Heap) := .br (Nat.beq a.n 0) (.leaf (.exit 0, [], [.bld 70 .nilPtr .nilSl])) (.leaf (.exit 0, [], bldH (encRO a.f a.n)))
def ea_s (d : Nat) : SmT := whT 1 [1,6,7,8] ea_read (ea_ok d) ea_E
theorem encR_mono (q : RW) : ∀ {k n : Nat}, k ≤ n → (encR q k).length ≤ (encR q n).length := by
  intro k n h
  induction h with
  | refl => exact Nat.le_refl _
  | step h ih => rw [encR, List.length_append]; omega
theorem ea_at {d : Nat} (hd : ItOk d) : SmAtT Pr Go.Proofs.Tryd.f44 1 (ea_s d) 0 := by
  refine cntT_at (L := noLoopsT) (fuel := 100) (on := [1,6,7,8]) (off := []) (OI_sound hd) mixed ea_S (fun a => a.n) (by kernel_rfl) (by kernel_rfl) (by kernel_rfl) LoopsOk.noneT ?_ ?_
  · intro f g a h
    unfold ea_read at h
    split at h <;> cases h
    rfl
  · rintro ⟨n, f, N⟩ e hok he k hk
    have hok := @of_decide_eq_true _ (Classical.propDecidable _) hok
    obtain ⟨⟨hf, hn, hrow, hlen⟩, hN⟩ := hok
    simp only at hf hn hrow hlen hN hk
    subst hN
    obtain ⟨q, hq⟩ : ∃ q, f = rwF q := ⟨_, hf⟩
    subst hq
    rw [encRO_eq, rdW_rwF] at hlen
    simp only [rdW_rwF] at hrow
    have hE : ∀ k, k < n → ∃ x, isIt (nrm (q.at k)) x ∧ x.dep < d := fun k hk => hrow k hk
    rw [ea_E, Tr.is_br] at he
    cases k with
    | zero =>
      have hS : ea_S ⟨n, rwF q, n⟩ 0 = ([(1,.fn 28 [.ptr 0 0] []),(6,.isl 3 n (rwF q)),(7,.int .i64 (n : Int)),(8,.int .i64 0)], [.bld 70 .nilPtr .nilSl]) := rfl
      rw [hS]
      dsimp only
      have hw := ea0_x d n q
      revert hw
      generalize (execBN Pr (OI d) noLoopsT 100 1 [1,6,7,8] [] (Go.Lh.loopBody Go.Proofs.Tryd.f44 0) [(1,.fn 28 [.ptr 0 0] []),(6,.isl 3 n (rwF q)),(7,.int .i64 (n : Int)),(8,.int .i64 0)] [.bld 70 .nilPtr .nilSl]) = E
      intro hw
      refine Tr.wp_prune hw ?_
      refine wp_chk_true.2 (wp_br.2 ⟨fun h => ?_, fun h => ?_⟩)
      · have h := of_decide_eq_true h
        have hk' : 0 < n := by omega
        have c : itOkB d (WI.mk none (q.at 0)) = true := by
          refine @decide_eq_true _ (Classical.propDecidable _) ⟨hE 0 hk', ?_⟩
          have := encR_mono q (k := 1) (n := n) hk'
          rw [encR, encR, List.nil_append] at this
          exact Nat.le_trans this hlen
        refine wp_chk.2 ⟨?_, wp_leaf.2 (.inl ⟨rfl, hk', ?_⟩)⟩
        · have c' : itOkB d (WI.mk none (V.agg [V.bool (q.b 0), V.str (q.s 0), V.isl 3 (q.m 0) (q.g 0)])) = true := c
          rw [c']
          simp only [Bool.and_eq_true, Bool.and_true, decide_eq_true_eq]; omega
        · show _ = ea_S ⟨n, rwF q, n⟩ 1
          have e1 : encR q 1 = encV (q.at 0) := by rw [encR, encR, List.nil_append]
          show _ = (([(1,V.fn 28 [.ptr 0 0] []),(6,V.isl 3 n (rwF q)),(7,V.int .i64 (n : Int)),(8,V.int .i64 ((0 + 1 : Nat) : Int))], bldH (encR q 1)) : Fr × Heap)
          rw [e1]
          rfl
      · have h := of_decide_eq_false h
        have e0 : n = 0 := by omega
        subst e0
        refine wp_leaf.2 (.inr ⟨fun h => (by cases h), ?_⟩)
        rw [if_pos (by rfl), Tr.is_leaf] at he
        rw [← he]
    | succ k =>
      have hS : ∀ k, ea_S ⟨n, rwF q, n⟩ (k + 1) = ([(1,.fn 28 [.ptr 0 0] []),(6,.isl 3 n (rwF q)),(7,.int .i64 (n : Int)),(8,.int .i64 ((k + 1 : Nat) : Int))], [.bld 70 (.ptr 0 0) (.sl 1 0 1 (encR q (k + 1)).length none), .buf 5 (encR q (k + 1))]) := fun k => rfl
      rw [hS, hS]
      dsimp only
      have hw := ea1_x d n (k + 1) (encR q (k + 1)).length q (encR q (k + 1))
      revert hw
      generalize (execBN Pr (OI d) noLoopsT 100 1 [1,6,7,8] [] (Go.Lh.loopBody Go.Proofs.Tryd.f44 0) [(1,.fn 28 [.ptr 0 0] []),(6,.isl 3 n (rwF q)),(7,.int .i64 (n : Int)),(8,.int .i64 ((k + 1 : Nat) : Int))] [.bld 70 (.ptr 0 0) (.sl 1 0 1 (encR q (k + 1)).length none), .buf 5 (encR q (k + 1))]) = E
      intro hw
      refine Tr.wp_prune hw ?_
      refine wp_chk_true.2 (wp_br.2 ⟨fun h => ?_, fun h => ?_⟩)
      · have h := of_decide_eq_true h
        have hk' : k + 1 < n := by omega
        have c : itOkB d (WI.mk (some ((encR q (k + 1)).length, encR q (k + 1))) (q.at (k + 1))) = true := by
          refine @decide_eq_true _ (Classical.propDecidable _) ⟨hE (k + 1) hk', rfl, ?_⟩
          have := encR_mono q (k := k + 2) (n := n) hk'
          rw [encR, List.length_append] at this
          exact Nat.le_trans this hlen
        refine wp_chk.2 ⟨?_, wp_leaf.2 (.inl ⟨rfl, hk', ?_⟩)⟩
        · have c' : itOkB d (WI.mk (some ((encR q (k + 1)).length, encR q (k + 1))) (V.agg [V.bool (q.b (k + 1)), V.str (q.s (k + 1)), V.isl 3 (q.m (k + 1)) (q.g (k + 1))])) = true := c
          rw [c']
          simp only [Bool.and_eq_true, Bool.and_true, decide_eq_true_eq]; omega
        · have e : encR q (k + 1 + 1) = encR q (k + 1) ++ encV (q.at (k + 1)) := rfl
          rw [e, List.length_append, show (((k + 1 : Nat) : Int) + 1) = ((k + 1 + 1 : Nat) : Int) by omega, wrapI_nat (by omega)]
          rfl
      · have h := of_decide_eq_false h
        have e0 : n = k + 1 := by omega
        subst e0
        refine wp_leaf.2 (.inr ⟨fun h => (by cases h), ?_⟩)
        rw [if_neg (by simp), Tr.is_leaf, encRO_eq] at he
        rw [← he]
        rfl
theorem ea_Ls {d : Nat} (hd : ItOk d) : LoopsOk Pr Go.Proofs.Tryd.f44 1 (smLT 1 [ea_s d]).o := LoopsOk.one (by kernel_rfl) (ea_at hd)
theorem eaf_x (d : Nat) (n : Nat) (f : Nat → Nat → V) : Tr.prune (Tr.Sh.any.both Tr.Sh.any)
 (execBF Pr (OI d) (smLT (1 : Nat) [ea_s d]) (100 : Nat) Go.Proofs.Tryd.f44
 [V.isl (3 : Nat) n f, V.fn (28 : FuncId) [V.ptr (0 : Nat) (0 : Nat)] []] [Blk.bld (70 : TypeId) V.nilPtr V.nilSl]) =
 Tr.chk (ea_ok d (EA.mk n f (↑n : Int)))
 (Tr.br (n.beq (0 : Nat)) (Tr.chk true (Tr.leaf (Fin.ret (V.tup []), [Blk.bld (70 : Nat) V.nilPtr V.nilSl])))
 (Tr.chk true
 (Tr.leaf
 (Fin.ret (V.tup []),
 [Blk.bld (70 : Nat) (V.ptr (0 : Nat) (0 : Nat)) (V.sl (1 : Nat) (0 : Nat) (1 : Nat) (encRO f n).length none),
 Blk.buf (5 : Nat) (encRO f n)])))) := by kernel_rfl
theorem LFn.wk {f : FuncId} {args args2 : List V} {h h' : Heap} {fin : Fin} (H : LFn Pr f args2 h fin h') (hw : ∀ I w ρ us, VsRel I w ρ args us → VsRel I w ρ args2 us) : LFn Pr f args h fin h' :=
  fun ρ I w args' R ha => H ρ I w args' R (hw _ _ _ _ ha)
def ec_read : List V → Heap → Option (Nat × (Nat → Nat → V)) := fun a h => match a, h with
  | [.isl 3 n f, .fn 28 [.ptr 0 0] []], [.bld 70 .nilPtr .nilSl] => some (n, f)
  | _, _ => none
def ec_f (d : Nat) (a : Nat × (Nat → Nat → V)) : Tr (Fin × Heap) := .chk (rowOkB d a.1 a.2) (.br (Nat.beq a.1 0) (.leaf (.ret (.tup []), [.bld 70 .nilPtr .nilSl])) (.leaf (.ret (.tup []), [.bld 70 (.ptr 0 0) (.sl 1 0 1 (encRO a.2 a.1).length none), .buf 5 (encRO a.2 a.1)])))
theorem ec_ok {d : Nat} (hd : ItOk d) : ∀ args h r, ((ctT ec_read (ec_f d)) args h).is r → LFn Pr 44 args h r.1 r.2 := by
  refine ctT_ok (fun a => [.isl 3 a.1 a.2, .fn 28 [.ptr 0 0] []]) (fun _ => [.bld 70 .nilPtr .nilSl]) ?_ (fun a r h => ?_)
  · intro args h a e
    unfold ec_read at e
    split at e <;> cases e <;> exact ⟨rfl, rfl⟩
  · rw [ec_f, Tr.is_chk, Tr.is_br] at h
    obtain ⟨h1, h⟩ := h
    have h1 := @of_decide_eq_true _ (Classical.propDecidable _) h1
    refine fnT (fin := r.1) (h' := r.2) (OI_sound hd) mixed (by kernel_rfl) (ea_Ls hd) (eaf_x d a.1 a.2) ?_
    refine wp_chk.2 ⟨@decide_eq_true _ (Classical.propDecidable _) ⟨h1, rfl⟩, wp_br.2 ⟨fun e => wp_chk_true.2 (wp_leaf.2 ?_), fun e => wp_chk_true.2 (wp_leaf.2 ?_)⟩⟩
    · rw [if_pos e, Tr.is_leaf] at h; exact h
    · rw [if_neg (by rw [e]; decide), Tr.is_leaf] at h; exact h
structure WS where
  w : Bool
  b : Option (Nat × List B)
  s : List B
def ws_read : List V → Heap → Option WS := fun a h => match a, h with
  | [.ptr 0 0, .str s], [.bld 70 .nilPtr .nilSl] => some ⟨true, none, s⟩
  | [.ptr 0 0, .str s], [.bld 68 .nilPtr .nilSl] => some ⟨false, none, s⟩
  | [.ptr 0 0, .str s], [.bld 70 (.ptr 0 0) (.sl 1 0 1 n none), .buf 5 xs] => some ⟨true, some (n, xs), s⟩
  | [.ptr 0 0, .str s], [.bld 68 (.ptr 0 0) (.sl 1 0 1 n none), .buf 5 xs] => some ⟨false, some (n, xs), s⟩
  | _, _ => none
def ws_H (a : WS) : Heap := match a.w, a.b with
  | true, none => [.bld 70 .nilPtr .nilSl]
  | false, none => [.bld 68 .nilPtr .nilSl]
  | true, some (n, xs) => [.bld 70 (.ptr 0 0) (.sl 1 0 1 n none), .buf 5 xs]
  | false, some (n, xs) => [.bld 68 (.ptr 0 0) (.sl 1 0 1 n none), .buf 5 xs]
def ws_H' (a : WS) : Heap := match a.w, a.b with
  | true, none => [.bld 70 (.ptr 0 0) (.sl 1 0 1 a.s.length none), .buf 5 a.s]
  | false, none => [.bld 68 (.ptr 0 0) (.sl 1 0 1 a.s.length none), .buf 5 a.s]
  | true, some (n, xs) => [.bld 70 (.ptr 0 0) (.sl 2 0 1 (n + a.s.length) none), .dead, .buf 5 (xs ++ a.s)]
  | false, some (n, xs) => [.bld 68 (.ptr 0 0) (.sl 2 0 1 (n + a.s.length) none), .dead, .buf 5 (xs ++ a.s)]
def wsOk (a : WS) : Prop := match a.b with | none => 0 < a.s.length ∧ a.s.length ≤ 2 * most40 | some (n, xs) => n = xs.length ∧ xs.length + a.s.length ≤ 2 * most40
def wsOkB (a : WS) : Bool := @decide (wsOk a) (Classical.propDecidable _)
def ws_f (a : WS) : Tr (Fin × Heap) := .chk (wsOkB a) (.leaf (.ret (.tup [.int .i64 (a.s.length : Int), .nilIface]), ws_H' a))
theorem ws0_x (c : B) (s : List B) : Tr.prune (Tr.Sh.any.l)
 (execBF Pr OR5 noLoopsT (100 : Nat) Go.Proofs.Tryd.f45 [V.ptr (0 : Nat) (0 : Nat), V.str (c :: s)]
 [Blk.bld (70 : TypeId) V.nilPtr V.nilSl]) =
 Tr.chk
 (decide ((c :: s).length ≤ (281474976710656 : Nat)) &&
 decide (((2 : Nat) * (c :: s).length + (1024 : Nat)) * (1 : Nat) ≤ (281474976710656 : Nat)) &&
 true &&
 true &&
 true &&
 true)
 (Tr.leaf
 (Fin.ret (V.tup [V.int IntKind.i64 (↑(c :: s).length : Int), V.nilIface]),
 [Blk.bld (70 : Nat) (V.ptr (0 : Nat) (0 : Nat)) (V.sl (1 : Nat) (0 : Nat) (1 : Nat) (c :: s).length none),
 Blk.buf (5 : Nat) (c :: s)])) := by kernel_rfl
theorem ws1_x (xs : List B) (s : List B) (n : Nat) : Tr.prune (Tr.Sh.any.r.r)
 (execBF Pr OR5 noLoopsT (100 : Nat) Go.Proofs.Tryd.f45 [V.ptr (0 : Nat) (0 : Nat), V.str s]
 [Blk.bld (70 : TypeId) (V.ptr (0 : Nat) (0 : Nat)) (V.sl (1 : Nat) (0 : Nat) (1 : Nat) n none),
 Blk.buf (5 : TypeId) xs]) =
 Tr.chk
 (decide ((0 : Nat) + n * (1 : Nat) ≤ xs.length) &&
 (decide (n + s.length ≤ (281474976710656 : Nat)) &&
 decide (((2 : Nat) * (n + s.length) + (1024 : Nat)) * (1 : Nat) ≤ (281474976710656 : Nat)) &&
 true) &&
 true &&
 true &&
 true &&
 true)
 (Tr.leaf
 (Fin.ret (V.tup [V.int IntKind.i64 (↑s.length : Int), V.nilIface]),
 [Blk.bld (70 : Nat) (V.ptr (0 : Nat) (0 : Nat)) (V.sl (2 : Nat) (0 : Nat) (1 : Nat) (n + s.length) none),
 Blk.dead, Blk.buf (5 : Nat) (List.take (n * (1 : Nat)) xs ++ s)])) := by kernel_rfl
theorem ws2_x (c : B) (s : List B) : Tr.prune (Tr.Sh.any.l)
 (execBF Pr OR5 noLoopsT (100 : Nat) Go.Proofs.Tryd.f45 [V.ptr (0 : Nat) (0 : Nat), V.str (c :: s)]
 [Blk.bld (68 : TypeId) V.nilPtr V.nilSl]) =
 Tr.chk
 (decide ((c :: s).length ≤ (281474976710656 : Nat)) &&
 decide (((2 : Nat) * (c :: s).length + (1024 : Nat)) * (1 : Nat) ≤ (281474976710656 : Nat)) &&
 true &&
 true &&
 true &&
 true)
 (Tr.leaf
 (Fin.ret (V.tup [V.int IntKind.i64 (↑(c :: s).length : Int), V.nilIface]),
 [Blk.bld (68 : Nat) (V.ptr (0 : Nat) (0 : Nat)) (V.sl (1 : Nat) (0 : Nat) (1 : Nat) (c :: s).length none),
 Blk.buf (5 : Nat) (c :: s)])) := by kernel_rfl
theorem ws3_x (xs : List B) (s : List B) (n : Nat) : Tr.prune (Tr.Sh.any.r.r)
 (execBF Pr OR5 noLoopsT (100 : Nat) Go.Proofs.Tryd.f45 [V.ptr (0 : Nat) (0 : Nat), V.str s]
 [Blk.bld (68 : TypeId) (V.ptr (0 : Nat) (0 : Nat)) (V.sl (1 : Nat) (0 : Nat) (1 : Nat) n none),
 Blk.buf (5 : TypeId) xs]) =
 Tr.chk
 (decide ((0 : Nat) + n * (1 : Nat) ≤ xs.length) &&
 (decide (n + s.length ≤ (281474976710656 : Nat)) &&
 decide (((2 : Nat) * (n + s.length) + (1024 : Nat)) * (1 : Nat) ≤ (281474976710656 : Nat)) &&
 true) &&
 true &&
 true &&
 true &&
 true)
 (Tr.leaf
 (Fin.ret (V.tup [V.int IntKind.i64 (↑s.length : Int), V.nilIface]),
 [Blk.bld (68 : Nat) (V.ptr (0 : Nat) (0 : Nat)) (V.sl (2 : Nat) (0 : Nat) (1 : Nat) (n + s.length) none),
 Blk.dead, Blk.buf (5 : Nat) (List.take (n * (1 : Nat)) xs ++ s)])) := by kernel_rfl
theorem ws_ok : ∀ args h r, ((ctT ws_read ws_f) args h).is r → LFn Pr 45 args h r.1 r.2 := by
  refine ctT_ok (fun a => [.ptr 0 0, .str a.s]) ws_H ?_ (fun a r h => ?_)
  · intro args h a e
    unfold ws_read at e
    split at e <;> cases e <;> exact ⟨rfl, rfl⟩
  · rw [ws_f, Tr.is_chk, Tr.is_leaf] at h
    obtain ⟨h1, rfl⟩ := h
    have h1 : wsOk a := @of_decide_eq_true _ (Classical.propDecidable _) h1
    have m40 : most40 = 1099511627776 := rfl
    obtain ⟨w, b, s⟩ := a
    unfold wsOk at h1
    cases b with
    | none =>
      simp only at h1
      cases s with
      | nil => simp at h1
      | cons c s =>
        have h2 := h1.2
        cases w with
        | true =>
          refine fnT OR5_sound mixed (by kernel_rfl) LoopsOk.noneT (ws0_x c s) (wp_chk.2 ⟨?_, wp_leaf.2 rfl⟩)
          simp only [Bool.and_eq_true, Bool.and_true, decide_eq_true_eq]; omega
        | false =>
          refine fnT OR5_sound mixed (by kernel_rfl) LoopsOk.noneT (ws2_x c s) (wp_chk.2 ⟨?_, wp_leaf.2 rfl⟩)
          simp only [Bool.and_eq_true, Bool.and_true, decide_eq_true_eq]; omega
    | some b =>
      obtain ⟨n, xs⟩ := b
      simp only at h1
      obtain ⟨rfl, h2⟩ := h1
      cases w with
      | true =>
        refine fnT OR5_sound mixed (by kernel_rfl) LoopsOk.noneT (ws1_x xs s xs.length) (wp_chk.2 ⟨?_, wp_leaf.2 ?_⟩)
        · simp only [Bool.and_eq_true, Bool.and_true, decide_eq_true_eq]; omega
        · rw [Nat.mul_one, List.take_length]; rfl
      | false =>
        refine fnT OR5_sound mixed (by kernel_rfl) LoopsOk.noneT (ws3_x xs s xs.length) (wp_chk.2 ⟨?_, wp_leaf.2 ?_⟩)
        · simp only [Bool.and_eq_true, Bool.and_true, decide_eq_true_eq]; omega
        · rw [Nat.mul_one, List.take_length]; rfl
def KE (d : Nat) : KnownT := (44, ctT ec_read (ec_f d)) :: (45, ctT ws_read ws_f) :: KR5
theorem KE_ok {d : Nat} (h : ItOk d) : KOkT Pr (KE d) := KOkT.cons (Enters.of (fn := Go.Proofs.Tryd.f44) (by kernel_rfl) (by kernel_rfl)) (ec_ok h) (KOkT.cons (Enters.of (fn := Go.Proofs.Tryd.f45) (by kernel_rfl) (by kernel_rfl)) ws_ok KR5_ok)
def OE (d : Nat) : OrcT := autoT Pr ext (KE d) [29,47] 3
theorem OE_sound {d : Nat} (h : ItOk d) : OrcSound Pr (OE d).o := autoT_sound mixed ext_ok (KE_ok h) (by kernel_rfl) 3
theorem it0t_x (d : Nat) (s : List B) (g : Nat → Nat → V) : Tr.prune (((Tr.Sh.any.both Tr.Sh.any).l.l.l.both
 Tr.Sh.any.r.r.r.r).r)
 (execBF Pr (OE d) noLoopsT (100 : Nat) Go.Proofs.Tryd.f28
 [V.ptr (0 : Nat) (0 : Nat), V.agg [V.bool false, V.str s, V.isl (3 : Nat) (0 : Nat) g]]
 [Blk.bld (70 : TypeId) V.nilPtr V.nilSl]) =
 Tr.chk true
 (Tr.br ((↑s.length : Int) == (1 : Int))
 (Tr.chk (decide ((0 : Int) < (↑s.length : Int)) && true)
 (Tr.br (decide (s.getD (0 : Nat) (OfNat.ofNat (0 : Nat)) < BitVec.ofInt (8 : Nat) (128 : Int)))
 (Tr.chk (wsOkB (WS.mk true none s) && true)
 (Tr.leaf
 (Fin.ret (V.tup []),
 [Blk.bld (70 : Nat) (V.ptr (0 : Nat) (0 : Nat)) (V.sl (1 : Nat) (0 : Nat) (1 : Nat) s.length none),
 Blk.buf (5 : Nat) s])))
 (Tr.chk
 (nat0 (↑s.length : Int) &&
 (decide
 ((headO (BitVec.ofInt (8 : Nat) (128 : Int)) s.length).length + s.length ≤
 (9223372036854775807 : Nat)) &&
 wsOkB (WS.mk true none (headO (BitVec.ofInt (8 : Nat) (128 : Int)) s.length ++ s))) &&
 true)
 (Tr.leaf
 (Fin.ret (V.tup []),
 [Blk.bld (70 : Nat) (V.ptr (0 : Nat) (0 : Nat))
 (V.sl (1 : Nat) (0 : Nat) (1 : Nat) (headO (BitVec.ofInt (8 : Nat) (128 : Int)) s.length ++ s).length
 none),
 Blk.buf (5 : Nat) (headO (BitVec.ofInt (8 : Nat) (128 : Int)) s.length ++ s)])))))
 (Tr.chk
 (nat0 (↑s.length : Int) &&
 (decide
 ((headO (BitVec.ofInt (8 : Nat) (128 : Int)) s.length).length + s.length ≤ (9223372036854775807 : Nat)) &&
 wsOkB (WS.mk true none (headO (BitVec.ofInt (8 : Nat) (128 : Int)) s.length ++ s))) &&
 true)
 (Tr.leaf
 (Fin.ret (V.tup []),
 [Blk.bld (70 : Nat) (V.ptr (0 : Nat) (0 : Nat))
 (V.sl (1 : Nat) (0 : Nat) (1 : Nat) (headO (BitVec.ofInt (8 : Nat) (128 : Int)) s.length ++ s).length
 none),
 Blk.buf (5 : Nat) (headO (BitVec.ofInt (8 : Nat) (128 : Int)) s.length ++ s)])))) := by kernel_rfl
theorem it1t_x (d : Nat) (xs : List B) (s : List B) (n : Nat) (g : Nat → Nat → V) : Tr.prune (((Tr.Sh.any.both
 Tr.Sh.any).l.l.l.both
 Tr.Sh.any.r.r.r.r).r)
 (execBF Pr (OE d) noLoopsT (100 : Nat) Go.Proofs.Tryd.f28
 [V.ptr (0 : Nat) (0 : Nat), V.agg [V.bool false, V.str s, V.isl (3 : Nat) (0 : Nat) g]]
 [Blk.bld (70 : TypeId) (V.ptr (0 : Nat) (0 : Nat)) (V.sl (1 : Nat) (0 : Nat) (1 : Nat) n none),
 Blk.buf (5 : TypeId) xs]) =
 Tr.chk true
 (Tr.br ((↑s.length : Int) == (1 : Int))
 (Tr.chk (decide ((0 : Int) < (↑s.length : Int)) && true)
 (Tr.br (decide (s.getD (0 : Nat) (OfNat.ofNat (0 : Nat)) < BitVec.ofInt (8 : Nat) (128 : Int)))
 (Tr.chk (wsOkB (WS.mk true (some (n, xs)) s) && true)
 (Tr.leaf
 (Fin.ret (V.tup []),
 [Blk.bld (70 : Nat) (V.ptr (0 : Nat) (0 : Nat)) (V.sl (2 : Nat) (0 : Nat) (1 : Nat) (n + s.length) none),
 Blk.dead, Blk.buf (5 : Nat) (xs ++ s)])))
 (Tr.chk
 (nat0 (↑s.length : Int) &&
 (decide
 ((headO (BitVec.ofInt (8 : Nat) (128 : Int)) s.length).length + s.length ≤
 (9223372036854775807 : Nat)) &&
 wsOkB (WS.mk true (some (n, xs)) (headO (BitVec.ofInt (8 : Nat) (128 : Int)) s.length ++ s))) &&
 true)
 (Tr.leaf
 (Fin.ret (V.tup []),
 [Blk.bld (70 : Nat) (V.ptr (0 : Nat) (0 : Nat))
 (V.sl (2 : Nat) (0 : Nat) (1 : Nat)
 (n + (headO (BitVec.ofInt (8 : Nat) (128 : Int)) s.length ++ s).length) none),
 Blk.dead, Blk.buf (5 : Nat) (xs ++ (headO (BitVec.ofInt (8 : Nat) (128 : Int)) s.length ++ s))])))))
 (Tr.chk
 (nat0 (↑s.length : Int) &&
 (decide
 ((headO (BitVec.ofInt (8 : Nat) (128 : Int)) s.length).length + s.length ≤ (9223372036854775807 : Nat)) &&
 wsOkB (WS.mk true (some (n, xs)) (headO (BitVec.ofInt (8 : Nat) (128 : Int)) s.length ++ s))) &&
 true)
 (Tr.leaf
 (Fin.ret (V.tup []),
 [Blk.bld (70 : Nat) (V.ptr (0 : Nat) (0 : Nat))
 (V.sl (2 : Nat) (0 : Nat) (1 : Nat)
 (n + (headO (BitVec.ofInt (8 : Nat) (128 : Int)) s.length ++ s).length) none),
 Blk.dead,
 Blk.buf (5 : Nat) (xs ++ (headO (BitVec.ofInt (8 : Nat) (128 : Int)) s.length ++ s))])))) := by kernel_rfl
theorem it0l_x (d : Nat) (n : Nat) (f : Nat → Nat → V) : Tr.prune ((Tr.Sh.any.both Tr.Sh.any).l)
 (execBF Pr (OE d) noLoopsT (100 : Nat) Go.Proofs.Tryd.f28
 [V.ptr (0 : Nat) (0 : Nat), V.agg [V.bool true, V.str [], V.isl (3 : Nat) n f]]
 [Blk.bld (70 : TypeId) V.nilPtr V.nilSl]) =
 Tr.chk (rowOkB d n f)
 (Tr.br (n.beq (0 : Nat))
 (Tr.chk (nat0 0 && (decide ((headO 192#8 0).length + ([] : List B).length ≤ 9223372036854775807) && wsOkB (WS.mk true none (headO 192#8 0 ++ ([] : List B)))) && true) (Tr.leaf (Fin.ret (V.tup []), [Blk.bld 70 (V.ptr 0 0) (V.sl 1 0 1 (headO 192#8 0 ++ ([] : List B)).length none), Blk.buf 5 (headO 192#8 0 ++ ([] : List B))])))
 (Tr.chk
 (nat0 (↑(encRO f n).length : Int) &&
 (decide ((0 : Nat) < (encRO f n).length) &&
 (decide ((0 : Int) < (↑(encRO f n).length : Int)) &&
 decide ((↑(encRO f n).length : Int) ≤ (↑(encRO f n).length : Int)) &&
 decide ((↑(encRO f n).length : Int) ≤ (9223372036854775807 : Int)) &&
 true) &&
 true &&
 (decide
 ((headO (BitVec.ofInt (8 : Nat) (192 : Int)) (encRO f n).length).length +
 (List.take (encRO f n).length (encRO f n)).length ≤
 (9223372036854775807 : Nat)) &&
 wsOkB
 (WS.mk true none
 (headO (BitVec.ofInt (8 : Nat) (192 : Int)) (encRO f n).length ++
 List.take (encRO f n).length (encRO f n))))) &&
 true)
 (Tr.leaf
 (Fin.ret (V.tup []),
 [Blk.bld (70 : Nat) (V.ptr (0 : Nat) (0 : Nat))
 (V.sl (1 : Nat) (0 : Nat) (1 : Nat)
 (headO (BitVec.ofInt (8 : Nat) (192 : Int)) (encRO f n).length ++
 List.take (encRO f n).length (encRO f n)).length
 none),
 Blk.buf (5 : Nat)
 (headO (BitVec.ofInt (8 : Nat) (192 : Int)) (encRO f n).length ++
 List.take (encRO f n).length (encRO f n))])))) := by kernel_rfl
theorem it1l_x (d : Nat) (n : Nat) (m : Nat) (xs : List B) (f : Nat → Nat → V) : Tr.prune ((Tr.Sh.any.both
 Tr.Sh.any).l)
 (execBF Pr (OE d) noLoopsT (100 : Nat) Go.Proofs.Tryd.f28
 [V.ptr (0 : Nat) (0 : Nat), V.agg [V.bool true, V.str [], V.isl (3 : Nat) n f]]
 [Blk.bld (70 : TypeId) (V.ptr (0 : Nat) (0 : Nat)) (V.sl (1 : Nat) (0 : Nat) (1 : Nat) m none),
 Blk.buf (5 : TypeId) xs]) =
 Tr.chk (rowOkB d n f)
 (Tr.br (n.beq (0 : Nat))
 (Tr.chk (nat0 0 && (decide ((headO 192#8 0).length + ([] : List B).length ≤ 9223372036854775807) && wsOkB (WS.mk true (some (m, xs)) (headO 192#8 0 ++ ([] : List B)))) && true) (Tr.leaf (Fin.ret (V.tup []), [Blk.bld 70 (V.ptr 0 0) (V.sl 2 0 1 (m + (headO 192#8 0 ++ ([] : List B)).length) none), Blk.dead, Blk.buf 5 (xs ++ (headO 192#8 0 ++ ([] : List B)))])))
 (Tr.chk
 (nat0 (↑(encRO f n).length : Int) &&
 (decide ((0 : Nat) < (encRO f n).length) &&
 (decide ((0 : Int) < (↑(encRO f n).length : Int)) &&
 decide ((↑(encRO f n).length : Int) ≤ (↑(encRO f n).length : Int)) &&
 decide ((↑(encRO f n).length : Int) ≤ (9223372036854775807 : Int)) &&
 true) &&
 true &&
 (decide
 ((headO (BitVec.ofInt (8 : Nat) (192 : Int)) (encRO f n).length).length +
 (List.take (encRO f n).length (encRO f n)).length ≤
 (9223372036854775807 : Nat)) &&
 wsOkB
 (WS.mk true (some (m, xs))
 (headO (BitVec.ofInt (8 : Nat) (192 : Int)) (encRO f n).length ++
 List.take (encRO f n).length (encRO f n))))) &&
 true)
 (Tr.leaf
 (Fin.ret (V.tup []),
 [Blk.bld (70 : Nat) (V.ptr (0 : Nat) (0 : Nat))
 (V.sl (2 : Nat) (0 : Nat) (1 : Nat)
 (m +
 (headO (BitVec.ofInt (8 : Nat) (192 : Int)) (encRO f n).length ++
 List.take (encRO f n).length (encRO f n)).length)
 none),
 Blk.dead,
 Blk.buf (5 : Nat)
 (xs ++
 (headO (BitVec.ofInt (8 : Nat) (192 : Int)) (encRO f n).length ++
 List.take (encRO f n).length (encRO f n)))])))) := by kernel_rfl
end
end Go.Proofs.YtbgiickegljpoaaDoor.K
end
section
open Go Go.Lh
namespace Go.Proofs.YtbgiickegljpoaaDoor.K
noncomputable section
set_option maxRecDepth 100000
theorem b128 : BitVec.ofInt 8 128 = 128#8 := by decide
theorem b192 : BitVec.ofInt 8 192 = 192#8 := by decide
theorem ws0 {s : List B} (h0 : 0 < s.length) (h : s.length ≤ 2 * most40) : wsOkB (WS.mk true none s) = true := @decide_eq_true _ (Classical.propDecidable _) ⟨h0, h⟩
theorem ws1 {xs s : List B} {n : Nat} (h0 : n = xs.length) (h : xs.length + s.length ≤ 2 * most40) : wsOkB (WS.mk true (some (n, xs)) s) = true := @decide_eq_true _ (Classical.propDecidable _) ⟨h0, h⟩
theorem nat00 (n : Nat) : nat0 (n : Int) = true := @decide_eq_true _ (Classical.propDecidable _) (Int.natCast_nonneg n)
theorem m40 : most40 = 1099511627776 := rfl
theorem lenB (s : List B) (i : Int) : ((s.length : Int) == i) = decide ((s.length : Int) = i) := rfl
theorem itT0 {d : Nat} (hd : ItOk d) (s : List B) (g : Nat → Nat → V) (e : List B) (he : e = enc (.txt s)) (h : e.length ≤ most40) :
    LFn Pr 28 [.ptr 0 0, .agg [.bool false, .str s, .isl 3 0 g]] [.bld 70 .nilPtr .nilSl] (.ret (.tup [])) [.bld 70 (.ptr 0 0) (.sl 1 0 1 e.length none), .buf 5 e] := by
  refine fnT (OE_sound hd) mixed (by kernel_rfl) LoopsOk.noneT (it0t_x d s g) ?_
  rw [b128, m40] at *
  have hl := headO_len 128#8 s.length
  have fin : e = headO 128#8 s.length ++ s → (Tr.chk (nat0 (s.length : Int) && (decide ((headO 128#8 s.length).length + s.length ≤ 9223372036854775807) && wsOkB (WS.mk true none (headO 128#8 s.length ++ s))) && true) (Tr.leaf (Fin.ret (V.tup []), [Blk.bld 70 (V.ptr 0 0) (V.sl 1 0 1 (headO 128#8 s.length ++ s).length none), Blk.buf 5 (headO 128#8 s.length ++ s)]))).wp (fun r => r = (Fin.ret (V.tup []), [Blk.bld 70 (V.ptr 0 0) (V.sl 1 0 1 e.length none), Blk.buf 5 e])) := by
    intro e1
    rw [e1, List.length_append] at h
    refine wp_chk.2 ⟨?_, wp_leaf.2 (by rw [e1])⟩
    rw [nat00, ws0 (by rw [List.length_append]; omega) (by rw [List.length_append, m40]; omega)]
    simp only [Bool.and_eq_true, Bool.and_true, Bool.true_and, decide_eq_true_eq]; omega
  refine wp_chk_true.2 (wp_br.2 ⟨fun h1 => ?_, fun h1 => ?_⟩)
  · rw [lenB] at h1
    have h1 := of_decide_eq_true h1
    refine wp_chk.2 ⟨by simp only [Bool.and_true, decide_eq_true_eq]; omega, wp_br.2 ⟨fun h2 => ?_, fun h2 => ?_⟩⟩
    · have h2 := of_decide_eq_true h2
      have e1 : e = s := by rw [he, enc, if_pos ⟨by omega, h2⟩]
      rw [e1] at h
      refine wp_chk.2 ⟨by rw [ws0 (by omega) (by rw [m40]; omega)]; rfl, wp_leaf.2 (by rw [e1])⟩
    · have h2 := of_decide_eq_false h2
      exact fin (by rw [he, enc, if_neg (fun h3 => h2 h3.2)])
  · rw [lenB] at h1
    have h1 := of_decide_eq_false h1
    exact fin (by rw [he, enc, if_neg (fun h3 => h1 (by rw [h3.1]; rfl))])
theorem itT1 {d : Nat} (hd : ItOk d) (s : List B) (g : Nat → Nat → V) (n : Nat) (xs e : List B) (he : e = enc (.txt s)) (hn : n = xs.length) (h : xs.length + e.length ≤ most40) :
    LFn Pr 28 [.ptr 0 0, .agg [.bool false, .str s, .isl 3 0 g]] [.bld 70 (.ptr 0 0) (.sl 1 0 1 n none), .buf 5 xs] (.ret (.tup [])) [.bld 70 (.ptr 0 0) (.sl 2 0 1 (n + e.length) none), .dead, .buf 5 (xs ++ e)] := by
  refine fnT (OE_sound hd) mixed (by kernel_rfl) LoopsOk.noneT (it1t_x d xs s n g) ?_
  rw [b128, m40] at *
  have hl := headO_len 128#8 s.length
  have fin : e = headO 128#8 s.length ++ s → (Tr.chk (nat0 (s.length : Int) && (decide ((headO 128#8 s.length).length + s.length ≤ 9223372036854775807) && wsOkB (WS.mk true (some (n, xs)) (headO 128#8 s.length ++ s))) && true) (Tr.leaf (Fin.ret (V.tup []), [Blk.bld 70 (V.ptr 0 0) (V.sl 2 0 1 (n + (headO 128#8 s.length ++ s).length) none), Blk.dead, Blk.buf 5 (xs ++ (headO 128#8 s.length ++ s))]))).wp (fun r => r = (Fin.ret (V.tup []), [Blk.bld 70 (V.ptr 0 0) (V.sl 2 0 1 (n + e.length) none), Blk.dead, Blk.buf 5 (xs ++ e)])) := by
    intro e1
    rw [e1, List.length_append] at h
    refine wp_chk.2 ⟨?_, wp_leaf.2 (by rw [e1])⟩
    rw [nat00, ws1 hn (by rw [List.length_append, m40]; omega)]
    simp only [Bool.and_eq_true, Bool.and_true, Bool.true_and, decide_eq_true_eq]; omega
  refine wp_chk_true.2 (wp_br.2 ⟨fun h1 => ?_, fun h1 => ?_⟩)
  · rw [lenB] at h1
    have h1 := of_decide_eq_true h1
    refine wp_chk.2 ⟨by simp only [Bool.and_true, decide_eq_true_eq]; omega, wp_br.2 ⟨fun h2 => ?_, fun h2 => ?_⟩⟩
    · have h2 := of_decide_eq_true h2
      have e1 : e = s := by rw [he, enc, if_pos ⟨by omega, h2⟩]
      rw [e1] at h
      refine wp_chk.2 ⟨by rw [ws1 hn (by rw [m40]; omega)]; rfl, wp_leaf.2 (by rw [e1])⟩
    · have h2 := of_decide_eq_false h2
      exact fin (by rw [he, enc, if_neg (fun h3 => h2 h3.2)])
  · rw [lenB] at h1
    have h1 := of_decide_eq_false h1
    exact fin (by rw [he, enc, if_neg (fun h3 => h1 (by rw [h3.1]; rfl))])
theorem row_enc (q : RW) (l : List It) (h : ∀ i (hi : i < l.length), isIt (q.at i) l[i]) : encRO (rwF q) l.length = encs l := by
  rw [encRO_eq, rdW_rwF, encR_eq q l h _ (Nat.le_refl _), List.take_length]
theorem encs_len (l : List It) : l.length ≤ (encs l).length := by
  induction l with
  | nil => exact Nat.le_refl _
  | cons x r ih => rw [encs, List.length_append, List.length_cons]; have := enc_pos x; omega
theorem row_ok {d : Nat} (q : RW) (l : List It) (h : ∀ i (hi : i < l.length), isIt (q.at i) l[i]) (hd : It.deps l < d) (hl : (encs l).length ≤ most40) : rowOkB d l.length (rwF q) = true := by
  refine @decide_eq_true _ (Classical.propDecidable _) ⟨rfl, ?_, ?_, ?_⟩
  · have := encs_len l; rw [m40] at hl; omega
  · intro i hi
    exact ⟨l[i], h i hi, Nat.lt_of_le_of_lt (dep_le (List.getElem_mem hi)) hd⟩
  · rw [row_enc q l h]; exact hl
theorem itL0 {d : Nat} (hd : ItOk d) (q : RW) (l : List It) (hq : ∀ i (hi : i < l.length), isIt (q.at i) l[i]) (hdep : It.deps l < d) (e : List B) (he : e = enc (.lst l)) (h : e.length ≤ most40) :
    LFn Pr 28 [.ptr 0 0, .agg [.bool true, .str [], .isl 3 l.length (rwF q)]] [.bld 70 .nilPtr .nilSl] (.ret (.tup [])) [.bld 70 (.ptr 0 0) (.sl 1 0 1 e.length none), .buf 5 e] := by
  refine fnT (OE_sound hd) mixed (by kernel_rfl) LoopsOk.noneT (it0l_x d l.length (rwF q)) ?_
  rw [enc] at he
  have hl := headO_len 192#8 (encs l).length
  have he2 : e.length = (headO 192#8 (encs l).length).length + (encs l).length := by rw [he, List.length_append]
  rw [m40] at h
  rw [row_ok q l hq hdep (by rw [m40]; omega), row_enc q l hq, b192]
  refine wp_chk_true.2 (wp_br.2 ⟨fun h1 => ?_, fun h1 => ?_⟩)
  · have h1 : l = [] := List.length_eq_zero_iff.1 (Nat.eq_of_beq_eq_true h1)
    subst h1
    have e1 : e = headO 192#8 0 ++ [] := he
    have hl0 := headO_len 192#8 0
    have := nat00 0
    refine wp_chk.2 ⟨?_, wp_leaf.2 (by rw [e1])⟩
    rw [show nat0 0 = true from nat00 0, ws0 (by rw [← e1]; omega) (by rw [← e1, m40]; omega)]
    simp only [Bool.and_eq_true, Bool.and_true, Bool.true_and, decide_eq_true_eq, List.length_nil]; omega
  · have h1 : l ≠ [] := by rintro rfl; simp at h1
    have hp : 0 < (encs l).length := by have := encs_len l; have := List.length_pos_iff.2 h1; omega
    have e1 : headO 192#8 (encs l).length ++ List.take (encs l).length (encs l) = e := by rw [List.take_length, he]
    refine wp_chk.2 ⟨?_, wp_leaf.2 ?_⟩
    · rw [e1, nat00, ws0 (by omega) (by rw [m40]; omega), List.take_length]
      simp only [Bool.and_eq_true, Bool.and_true, Bool.true_and, decide_eq_true_eq]; omega
    · rw [e1]
theorem itL1 {d : Nat} (hd : ItOk d) (q : RW) (l : List It) (hq : ∀ i (hi : i < l.length), isIt (q.at i) l[i]) (hdep : It.deps l < d) (n : Nat) (xs e : List B) (he : e = enc (.lst l)) (hn : n = xs.length) (h : xs.length + e.length ≤ most40) :
    LFn Pr 28 [.ptr 0 0, .agg [.bool true, .str [], .isl 3 l.length (rwF q)]] [.bld 70 (.ptr 0 0) (.sl 1 0 1 n none), .buf 5 xs] (.ret (.tup [])) [.bld 70 (.ptr 0 0) (.sl 2 0 1 (n + e.length) none), .dead, .buf 5 (xs ++ e)] := by
  refine fnT (OE_sound hd) mixed (by kernel_rfl) LoopsOk.noneT (it1l_x d l.length n xs (rwF q)) ?_
  rw [enc] at he
  have hl := headO_len 192#8 (encs l).length
  have he2 : e.length = (headO 192#8 (encs l).length).length + (encs l).length := by rw [he, List.length_append]
  rw [m40] at h
  rw [row_ok q l hq hdep (by rw [m40]; omega), row_enc q l hq, b192]
  refine wp_chk_true.2 (wp_br.2 ⟨fun h1 => ?_, fun h1 => ?_⟩)
  · have h1 : l = [] := List.length_eq_zero_iff.1 (Nat.eq_of_beq_eq_true h1)
    subst h1
    have e1 : e = headO 192#8 0 ++ [] := he
    have hl0 := headO_len 192#8 0
    have := nat00 0
    refine wp_chk.2 ⟨?_, wp_leaf.2 (by rw [e1])⟩
    rw [show nat0 0 = true from nat00 0, ws1 hn (by rw [← e1, m40]; omega)]
    simp only [Bool.and_eq_true, Bool.and_true, Bool.true_and, decide_eq_true_eq, List.length_nil]; omega
  · have h1 : l ≠ [] := by rintro rfl; simp at h1
    have hp : 0 < (encs l).length := by have := encs_len l; have := List.length_pos_iff.2 h1; omega
    have e1 : headO 192#8 (encs l).length ++ List.take (encs l).length (encs l) = e := by rw [List.take_length, he]
    refine wp_chk.2 ⟨?_, wp_leaf.2 ?_⟩
    · rw [e1, nat00, ws1 hn (by rw [m40]; omega), List.take_length]
      simp only [Bool.and_eq_true, Bool.and_true, Bool.true_and, decide_eq_true_eq]; omega
    · rw [e1]
theorem nrm_args {I : Nat → Prop} {w : World} {ρ : Ren} {k : V} {v : V} {us : List Value} (h : VsRel I w ρ [k, v] us) : VsRel I w ρ [k, nrm v] us := by
  cases h with
  | cons _ _ u _ r h1 h =>
    cases h with
    | cons _ _ u2 _ r2 h2 h => exact .cons _ _ _ _ _ h1 (.cons _ _ _ _ _ (nrm_rel h2) h)
theorem it_ok : ∀ d, ItOk d
  | 0 => it_ok_of fun a h => by obtain ⟨x, _, hx⟩ := h.1; exact absurd hx (Nat.not_lt_zero _)
  | d + 1 => it_ok_of fun a h => by
    have hd := it_ok d
    obtain ⟨⟨x, hx, hdep⟩, hsz⟩ := h
    have he : encV a.v = enc x := encV_eq hx
    refine LFn.wk (args2 := [.ptr 0 0, nrm a.v]) ?_ (fun I w ρ us h => nrm_args h)
    obtain ⟨b, v⟩ := a
    simp only at hx he hsz ⊢
    generalize nrm v = nv at hx ⊢
    cases hx with
    | txt s g =>
      cases b with
      | none => exact itT0 hd s g (encV v) he hsz
      | some b => obtain ⟨n, xs⟩ := b; exact itT1 hd s g n xs (encV v) he hsz.1 hsz.2
    | lst q l hq =>
      rw [It.dep] at hdep
      cases b with
      | none => exact itL0 hd q l hq (by omega) (encV v) he hsz
      | some b => obtain ⟨n, xs⟩ := b; exact itL1 hd q l hq (by omega) n xs (encV v) he hsz.1 hsz.2
end
end Go.Proofs.YtbgiickegljpoaaDoor.K
end
section
open Go Go.Lh
namespace Go.Proofs.YtbgiickegljpoaaDoor.K
noncomputable section
set_option maxRecDepth 100000
def okV (v : V) : Prop := (∃ x, isIt (nrm v) x) ∧ (encV v).length ≤ most40
def okVB (v : V) : Bool := @decide (okV v) (Classical.propDecidable _)
def ia_read : List V → Heap → Option V := fun a h => match a, h with
  | [.ptr 0 0, v], [.bld 70 .nilPtr .nilSl] => some v
  | _, _ => none
def ia_f (v : V) : Tr (Fin × Heap) := .chk (okVB v) (.leaf (.ret (.tup []), [.bld 70 (.ptr 0 0) (.sl 1 0 1 (encV v).length none), .buf 5 (encV v)]))
theorem ia_ok : ∀ args h r, ((ctT ia_read ia_f) args h).is r → LFn Pr 28 args h r.1 r.2 := by
  refine ctT_ok (fun v => [.ptr 0 0, v]) (fun _ => [.bld 70 .nilPtr .nilSl]) ?_ (fun v r h => ?_)
  · intro args h a e
    unfold ia_read at e
    split at e <;> cases e <;> exact ⟨rfl, rfl⟩
  · rw [ia_f, Tr.is_chk, Tr.is_leaf] at h
    obtain ⟨h1, rfl⟩ := h
    have h1 : okV v := @of_decide_eq_true _ (Classical.propDecidable _) h1
    obtain ⟨⟨x, hx⟩, hl⟩ := h1
    refine it_ok (x.dep + 1) [.ptr 0 0, v] [.bld 70 .nilPtr .nilSl] (.ret (.tup []), it_H' ⟨none, v⟩) ?_
    show (it_f (x.dep + 1) ⟨none, v⟩).is _
    rw [it_f, Tr.is_chk, Tr.is_leaf]
    exact ⟨@decide_eq_true _ (Classical.propDecidable _) ⟨⟨x, hx, Nat.lt_succ_self _⟩, hl⟩, rfl⟩
def KA : KnownT := (28, ctT ia_read ia_f) :: (45, ctT ws_read ws_f) :: KR5
theorem KA_ok : KOkT Pr KA := KOkT.cons (Enters.of (fn := Go.Proofs.Tryd.f28) (by kernel_rfl) (by kernel_rfl)) ia_ok (KOkT.cons (Enters.of (fn := Go.Proofs.Tryd.f45) (by kernel_rfl) (by kernel_rfl)) ws_ok KR5_ok)
def OA : OrcT := autoT Pr ext KA [29,47] 3
theorem OA_sound : OrcSound Pr OA.o := autoT_sound mixed ext_ok KA_ok (by kernel_rfl) 3
theorem encf_x (b : Bool) (s : List B) (n : Nat) (f : Nat → Nat → V) : Tr.prune (Tr.Sh.any)
 (execBF Pr OA noLoopsT (100 : Nat) Go.Proofs.Tryd.f15 [V.agg [V.bool b, V.str s, V.isl (3 : Nat) n f]] []) =
 Tr.chk
 (okVB (V.agg [V.bool b, V.str s, V.isl (3 : Nat) n f]) &&
 (decide ((0 : Nat) < (encV (V.agg [V.bool b, V.str s, V.isl (3 : Nat) n f])).length) &&
 (decide ((0 : Int) < (↑(encV (V.agg [V.bool b, V.str s, V.isl (3 : Nat) n f])).length : Int)) &&
 decide
 ((↑(encV (V.agg [V.bool b, V.str s, V.isl (3 : Nat) n f])).length : Int) ≤
 (↑(encV (V.agg [V.bool b, V.str s, V.isl (3 : Nat) n f])).length : Int)) &&
 decide
 ((↑(encV (V.agg [V.bool b, V.str s, V.isl (3 : Nat) n f])).length : Int) ≤
 (9223372036854775807 : Int)) &&
 true) &&
 true &&
 true) &&
 true)
 (Tr.leaf
 (Fin.ret
 (V.str
 (List.take (encV (V.agg [V.bool b, V.str s, V.isl (3 : Nat) n f])).length
 (encV (V.agg [V.bool b, V.str s, V.isl (3 : Nat) n f])))),
 [])) := by kernel_rfl
theorem nrm_nrm (v : V) : nrm (nrm v) = nrm v := by
  by_cases h : ∃ b s, v = .agg [.bool b, .str s, .nilSl]
  · obtain ⟨b, s, rfl⟩ := h; rfl
  · have : nrm v = v := by
      unfold nrm
      split
      · exact absurd ⟨_, _, rfl⟩ h
      · rfl
    rw [this, this]
theorem encV_nrm (v : V) : encV (nrm v) = encV v := by
  unfold encV
  rw [nrm_nrm]
theorem encV_pos {v : V} (h : ∃ x, isIt (nrm v) x) : 1 ≤ (encV v).length := by obtain ⟨x, hx⟩ := h; rw [encV_eq hx]; exact enc_pos x
theorem isIt_agg {v : V} {x : It} (h : isIt v x) : ∃ b s n f, v = .agg [.bool b, .str s, .isl 3 n f] := by
  cases h with
  | txt s g => exact ⟨_, _, _, _, rfl⟩
  | lst q l h => exact ⟨_, _, _, _, rfl⟩
theorem nrm_one {I : Nat → Prop} {w : World} {ρ : Ren} {v : V} {us : List Value} (h : VsRel I w ρ [v] us) : VsRel I w ρ [nrm v] us := by
  cases h with
  | cons _ _ u _ r h1 h => exact .cons _ _ _ _ _ (nrm_rel h1) h
theorem encode_fn (v : V) (h : okV v) : LFn Pr 15 [v] [] (.ret (.str (encV v))) [] := by
  refine LFn.wk (args2 := [nrm v]) ?_ (fun I w ρ us h => nrm_one h)
  obtain ⟨⟨x, hx⟩, hl⟩ := h
  have hp := encV_pos ⟨x, hx⟩
  obtain ⟨b, s, n, f, e⟩ := isIt_agg hx
  have e1 : encV (.agg [.bool b, .str s, .isl 3 n f]) = encV v := by rw [← e, encV_nrm]
  rw [e] at hx ⊢
  refine fnT OA_sound mixed (by kernel_rfl) LoopsOk.noneT (encf_x b s n f) ?_
  have hok : okVB (.agg [.bool b, .str s, .isl 3 n f]) = true := @decide_eq_true _ (Classical.propDecidable _) ⟨⟨x, hx⟩, by rw [e1]; exact hl⟩
  rw [hok, e1, List.take_length]
  rw [m40] at hl
  refine wp_chk.2 ⟨?_, wp_leaf.2 rfl⟩
  simp only [Bool.and_eq_true, Bool.and_true, Bool.true_and, decide_eq_true_eq]; omega
end
end Go.Proofs.YtbgiickegljpoaaDoor.K
end
section
open Go Go.Lh
namespace Go.Proofs.YtbgiickegljpoaaDoor.K
noncomputable section
set_option maxRecDepth 100000
def noRow : RW := ⟨fun _ => false, fun _ => [], fun _ => 0, fun _ _ _ => .any⟩
def lsV (n : Nat) (q : RW) : V := .agg [.bool true, .str [], .isl 3 n (rwF q)]
theorem wk_ls {F : Nat → Nat → V} {n : Nat} {q : RW} (h : ∀ i, i < n → (F i 0).Wk (.bool (q.b i)) ∧ (F i 1).Wk (.str (q.s i)) ∧ (F i 2).Wk (.isl 3 (q.m i) (q.g i))) : V.Wk (.agg [.bool true, .str [], .isl 3 n F]) (lsV n q) := by
  refine .agg3 (.refl _) (.refl _) (.isl fun i j hi hj => ?_)
  obtain ⟨h0, h1, h2⟩ := h i hi
  match j, hj with
  | 0, _ => exact h0
  | 1, _ => exact h1
  | 2, _ => exact h2
inductive LiA where
  | l0
  | l1 (b : Bool) (s : List B) (m : Nat) (g : Nat → Nat → V)
  | l1n (b : Bool) (s : List B)
  | l2 (s t : List B)
def en_read : List V → Heap → Option V := fun a h => match a, h with
  | [v], [] => some v
  | _, _ => none
def en_f (v : V) : Tr (Fin × Heap) := .chk (okVB v) (.leaf (.ret (.str (encV v)), []))
theorem en_ok : ∀ args h r, ((ctT en_read en_f) args h).is r → LFn Pr 15 args h r.1 r.2 := by
  refine ctT_ok (fun v => [v]) (fun _ => []) ?_ (fun v r h => ?_)
  · intro args h a e
    unfold en_read at e
    split at e <;> cases e <;> exact ⟨rfl, rfl⟩
  · rw [en_f, Tr.is_chk, Tr.is_leaf] at h
    obtain ⟨h1, rfl⟩ := h
    exact encode_fn v (@of_decide_eq_true _ (Classical.propDecidable _) h1)
end
end Go.Proofs.YtbgiickegljpoaaDoor.K
end
section
open Go Go.Lh
namespace Go.Proofs.YtbgiickegljpoaaDoor.K
noncomputable section
set_option maxRecDepth 100000
def OR10 : OrcT := autoT Pr ext KR5 [32,14] 3
theorem OR10_sound : OrcSound Pr OR10.o := autoT_sound mixed ext_ok KR5_ok (by kernel_rfl) 3
theorem take_x (s : List B) (n : Int) : Tr.prune (Tr.Sh.any.both Tr.Sh.any)
 (execBF Pr OR10 noLoopsT (100 : Nat) Go.Proofs.Tryd.f48 [V.ptr (0 : Nat) (0 : Nat), V.int IntKind.i64 n]
 [Blk.vals [V.str s]]) =
 Tr.chk true
 (Tr.br (!decide (n ≤ (↑s.length : Int)))
 (Tr.chk true (Tr.leaf (Fin.pan (V.iface (74 : Nat) (V.agg [])), [Blk.vals [V.str s]])))
 (Tr.chk
 (decide ((0 : Int) ≤ (some n).getD (↑s.length : Int)) &&
 decide ((some n).getD (↑s.length : Int) ≤ (↑s.length : Int)) &&
 true &&
 (decide ((0 : Int) ≤ (some n).getD (0 : Int)) &&
 decide ((some n).getD (0 : Int) ≤ none.getD (↑s.length : Int)) &&
 decide (none.getD (↑s.length : Int) ≤ (↑s.length : Int)) &&
 true &&
 true) &&
 true)
 (Tr.leaf
 (Fin.ret (V.str (List.take ((some n).getD (↑s.length : Int)).toNat s)),
 [Blk.vals
 [V.str
 (List.drop ((some n).getD (0 : Int)).toNat
 (List.take (none.getD (↑s.length : Int)).toNat s))]])))) := by kernel_rfl
end
end Go.Proofs.YtbgiickegljpoaaDoor.K
end
section
open Go Go.Lh
namespace Go.Proofs.YtbgiickegljpoaaDoor.K
noncomputable section
set_option maxRecDepth 100000
structure FI where
  b : Bool
  s : List B
  m : Nat
  g : Nat → Nat → V
def consRow (x : FI) (q : RW) : RW := ⟨fun i => match i with | 0 => x.b | i + 1 => q.b i, fun i => match i with | 0 => x.s | i + 1 => q.s i, fun i => match i with | 0 => x.m | i + 1 => q.m i, fun i => match i with | 0 => x.g | i + 1 => q.g i⟩
mutual
def It.fI : It → FI
  | .txt s => ⟨false, s, 0, fun _ _ => .any⟩
  | .lst l => ⟨true, [], l.length, rwF (It.rI l)⟩
def It.rI : List It → RW
  | [] => noRow
  | x :: r => consRow (It.fI x) (It.rI r)
end
def itV (x : It) : V := .agg [.bool x.fI.b, .str x.fI.s, .isl 3 x.fI.m x.fI.g]
theorem rI_at : ∀ (l : List It) (i : Nat) (hi : i < l.length), (It.rI l).at i = itV l[i]
  | x :: r, 0, _ => by rw [It.rI]; rfl
  | x :: r, i + 1, h => by
    have := rI_at r i (by simpa using h)
    rw [It.rI]
    show (It.rI r).at i = _
    rw [this]; rfl
end
end Go.Proofs.YtbgiickegljpoaaDoor.K
end
section
open Go Go.Lh
namespace Go.Proofs.YtbgiickegljpoaaDoor.K
noncomputable section
set_option maxRecDepth 100000
def FI.cells (x : FI) : List V := [.bool x.b, .str x.s, .isl 3 x.m x.g]
structure RF where
  n : Nat
  f : Nat → Nat → V
  b : Bool
  s : List B
  b2 : Bool
  s2 : List B
theorem clo_nil {ts rd : List Nat} {g : Heap} : Tell.clo ⟨ts, rd, []⟩ g := fun k i b _ hm => by cases hm
theorem ones_cells (x : FI) : x.cells.all V.one = true := rfl
end
end Go.Proofs.YtbgiickegljpoaaDoor.K
end
section
open Go Go.Lh
namespace Go.Proofs.YtbgiickegljpoaaDoor.K
noncomputable section
set_option maxRecDepth 100000
end
end Go.Proofs.YtbgiickegljpoaaDoor.K
end
section
open Go Go.Lh
namespace Go.Proofs.YtbgiickegljpoaaDoor.K
noncomputable section
set_option maxRecDepth 100000
theorem encs_ge : ∀ {l : List It} {x : It}, x ∈ l → (enc x).length ≤ (encs l).length
  | y :: r, x, h => by
    rw [encs, List.length_append]
    rcases List.mem_cons.1 h with rfl | h
    · omega
    · have := encs_ge h; omega
theorem itV_txt (s : List B) : itV (.txt s) = .agg [.bool false, .str s, .isl 3 0 (fun _ _ => .any)] := by unfold itV; rw [It.fI]
theorem itV_lst (l : List It) : itV (.lst l) = .agg [.bool true, .str [], .isl 3 l.length (rwF (It.rI l))] := by unfold itV; rw [It.fI]
end
end Go.Proofs.YtbgiickegljpoaaDoor.K
end
section
open Go Go.Lh
namespace Go.Proofs.YtbgiickegljpoaaDoor.K
noncomputable section
set_option maxRecDepth 100000
end
end Go.Proofs.YtbgiickegljpoaaDoor.K
end
section
open Go Go.Lh
namespace Go.Proofs.YtbgiickegljpoaaDoor.K
noncomputable section
set_option maxRecDepth 100000
structure RE where
  n : Nat
  f : Nat → Nat → V
  b : Bool
  s : List B
end
end Go.Proofs.YtbgiickegljpoaaDoor.K
end
section
open Go Go.Lh
namespace Go.Proofs.YtbgiickegljpoaaDoor.K
noncomputable section
set_option maxRecDepth 100000
end
end Go.Proofs.YtbgiickegljpoaaDoor.K
end
section
open Go Go.Lh
namespace Go.Proofs.YtbgiickegljpoaaDoor.K
noncomputable section
set_option maxRecDepth 100000
def wrongV : V := .iface 74 (.agg [])
def tkO (n : Int) (s : List B) : Bool := @decide (n.toNat ≤ s.length) (Classical.propDecidable _)
def tkS (n : Int) (s : List B) : List B := @ite _ True (Classical.propDecidable True) (s.take n.toNat) []
def tkR (n : Int) (s : List B) : List B := @ite _ True (Classical.propDecidable True) (s.drop n.toNat) []
theorem tkS_eq (n : Int) (s : List B) : tkS n s = s.take n.toNat := if_pos trivial
theorem tkR_eq (n : Int) (s : List B) : tkR n s = s.drop n.toNat := if_pos trivial
def tk_read : List V → Heap → Option (Int × List B) := fun a h => match a, h with
  | [.ptr 0 0, .int .i64 n], [.vals [.str s]] => some (n, s)
  | _, _ => none
def tk_f (a : Int × List B) : Tr (Fin × Heap) := .chk (nat0 a.1) (.br (tkO a.1 a.2) (.leaf (.ret (.str (tkS a.1 a.2)), [.vals [.str (tkR a.1 a.2)]])) (.leaf (.pan wrongV, [.dead])))
theorem tk_ok : ∀ args h r, ((ctT tk_read tk_f) args h).is r → LFn Pr 48 args h r.1 r.2 := by
  refine ctT_ok (fun a => [.ptr 0 0, .int .i64 a.1]) (fun a => [.vals [.str a.2]]) ?_ (fun a r h => ?_)
  · intro args h a e
    unfold tk_read at e
    split at e <;> cases e <;> exact ⟨rfl, rfl⟩
  · obtain ⟨n, s⟩ := a
    rw [tk_f, Tr.is_chk, Tr.is_br] at h
    obtain ⟨h0, h⟩ := h
    have h0 : 0 ≤ n := @of_decide_eq_true _ (Classical.propDecidable _) h0
    simp only at h
    by_cases hk : n.toNat ≤ s.length
    · have hk' : tkO n s = true := @decide_eq_true _ (Classical.propDecidable _) hk
      rw [if_pos hk', Tr.is_leaf] at h
      subst h
      refine fnT OR10_sound mixed (by kernel_rfl) LoopsOk.noneT (take_x s n) ?_
      refine wp_chk_true.2 (wp_br.2 ⟨fun h => ?_, fun h => wp_chk.2 ⟨?_, wp_leaf.2 ?_⟩⟩)
      · have h : n ≤ (s.length : Int) := by omega
        rename_i h2
        rw [decide_eq_true h] at h2; cases h2
      · simp only [Option.getD_some, Option.getD_none, Bool.and_true, Bool.and_eq_true, decide_eq_true_eq]; omega
      · simp only [Option.getD_some, Option.getD_none, Int.toNat_natCast, List.take_length, tkS_eq, tkR_eq]
    · have hk' : tkO n s = false := @decide_eq_false _ (Classical.propDecidable _) hk
      rw [if_neg (by rw [hk']; decide), Tr.is_leaf] at h
      subst h
      refine LFn.dead (h' := [.vals [.str s]]) ?_ 0
      refine fnT OR10_sound mixed (by kernel_rfl) LoopsOk.noneT (take_x s n) ?_
      refine wp_chk_true.2 (wp_br.2 ⟨fun h => wp_chk_true.2 (wp_leaf.2 rfl), fun h => ?_⟩)
      have h : n ≤ (s.length : Int) := by simpa using h
      omega
def K18 : KnownT := (48, ctT tk_read tk_f) :: KR5
theorem K18_ok : KOkT Pr K18 := KOkT.cons (Enters.of (fn := Go.Proofs.Tryd.f48) (by kernel_rfl) (by kernel_rfl)) tk_ok KR5_ok
def O18 : OrcT := autoT Pr ext K18 [32,14] 3
theorem O18_sound : OrcSound Pr O18.o := autoT_sound mixed ext_ok K18_ok (by kernel_rfl) 3
theorem many_x (s : List B) (n : Int) : Tr.prune (Tr.Sh.any.both
 ((((Tr.Sh.any.both Tr.Sh.any).l.both Tr.Sh.any.l.r).l.both Tr.Sh.any.l.r.r.r).both Tr.Sh.any))
 (execBF Pr O18 noLoopsT (100 : Nat) Go.Proofs.Tryd.f49 [V.ptr (0 : Nat) (0 : Nat), V.int IntKind.i64 n]
 [Blk.vals [V.str s]]) =
 Tr.chk true
 (Tr.br (decide (n ≤ (55 : Int))) (Tr.chk true (Tr.leaf (Fin.ret (V.int IntKind.i64 n), [Blk.vals [V.str s]])))
 (Tr.chk (nat0 (wrapI IntKind.i64 (n - (55 : Int))))
 (Tr.br (tkO (wrapI IntKind.i64 (n - (55 : Int))) s)
 (Tr.chk true
 (Tr.br (smallO false (tkS (wrapI IntKind.i64 (n - (55 : Int))) s))
 (Tr.chk true
 (Tr.br
 (decide
 (BitVec.ofInt (64 : Nat) (55 : Int) < smallN false (tkS (wrapI IntKind.i64 (n - (55 : Int))) s)))
 (Tr.chk true
 (Tr.br
 (!decide
 (smallN false (tkS (wrapI IntKind.i64 (n - (55 : Int))) s) ≤
 BitVec.ofInt (64 : Nat) (65536 : Int)))
 (Tr.chk true
 (Tr.leaf
 (Fin.pan (V.iface (74 : Nat) (V.agg [])),
 [Blk.vals [V.str (tkR (wrapI IntKind.i64 (n - (55 : Int))) s)]])))
 (Tr.chk true
 (Tr.leaf
 (Fin.ret
 (V.int IntKind.i64
 (wrapI IntKind.i64
 (↑(smallN false (tkS (wrapI IntKind.i64 (n - (55 : Int))) s)).toNat : Int))),
 [Blk.vals [V.str (tkR (wrapI IntKind.i64 (n - (55 : Int))) s)]])))))
 (Tr.chk true
 (Tr.leaf
 (Fin.pan (V.iface (74 : Nat) (V.agg [])),
 [Blk.vals [V.str (tkR (wrapI IntKind.i64 (n - (55 : Int))) s)]])))))
 (Tr.chk true
 (Tr.leaf
 (Fin.pan (V.iface (74 : Nat) (V.agg [])),
 [Blk.vals [V.str (tkR (wrapI IntKind.i64 (n - (55 : Int))) s)]])))))
 (Tr.leaf (Fin.pan (V.iface (74 : Nat) (V.agg [])), [Blk.dead]))))) := by kernel_rfl
end
end Go.Proofs.YtbgiickegljpoaaDoor.K
end
section
open Go Go.Lh
namespace Go.Proofs.YtbgiickegljpoaaDoor.K
noncomputable section
set_option maxRecDepth 100000
def mnF (k : Nat) (s : List B) : Option (Nat × List B) :=
  if k ≤ 55 then some (k, s) else
  if k - 55 ≤ s.length ∧ smallB false (s.take (k - 55)) = true ∧ 55 < (smallN false (s.take (k - 55))).toNat ∧ (smallN false (s.take (k - 55))).toNat ≤ 65536 then some ((smallN false (s.take (k - 55))).toNat, s.drop (k - 55)) else none
def mnO (n : Int) (s : List B) : Bool := @decide (∃ p, mnF n.toNat s = some p) (Classical.propDecidable _)
def mnN (n : Int) (s : List B) : Int := @ite _ True (Classical.propDecidable True) (((mnF n.toNat s).getD (0, [])).1 : Int) 0
def mnR (n : Int) (s : List B) : List B := @ite _ True (Classical.propDecidable True) ((mnF n.toNat s).getD (0, [])).2 []
theorem mnN_eq {n : Int} {s : List B} {p : Nat × List B} (h : mnF n.toNat s = some p) : mnN n s = (p.1 : Int) := by unfold mnN; rw [if_pos trivial, h]; rfl
theorem mnR_eq {n : Int} {s : List B} {p : Nat × List B} (h : mnF n.toNat s = some p) : mnR n s = p.2 := by unfold mnR; rw [if_pos trivial, h]; rfl
def mnP (n : Int) : Bool := @decide (0 ≤ n ∧ n < 256) (Classical.propDecidable _)
def mn_f (a : Int × List B) : Tr (Fin × Heap) := .chk (mnP a.1) (.br (mnO a.1 a.2) (.leaf (.ret (.int .i64 (mnN a.1 a.2)), [.vals [.str (mnR a.1 a.2)]])) (.leaf (.pan wrongV, [.dead])))
theorem c55 : (BitVec.ofInt 64 55).toNat = 55 := by decide
theorem c65536 : (BitVec.ofInt 64 65536).toNat = 65536 := by decide
theorem mn_ok : ∀ args h r, ((ctT tk_read mn_f) args h).is r → LFn Pr 49 args h r.1 r.2 := by
  refine ctT_ok (fun a => [.ptr 0 0, .int .i64 a.1]) (fun a => [.vals [.str a.2]]) ?_ (fun a r h => ?_)
  · intro args h a e
    unfold tk_read at e
    split at e <;> cases e <;> exact ⟨rfl, rfl⟩
  · obtain ⟨n, s⟩ := a
    rw [mn_f, Tr.is_chk, Tr.is_br] at h
    obtain ⟨h0, h⟩ := h
    obtain ⟨h0, h256⟩ : 0 ≤ n ∧ n < 256 := @of_decide_eq_true _ (Classical.propDecidable _) h0
    simp only at h
    obtain ⟨k, rfl⟩ : ∃ k : Nat, n = (k : Int) := ⟨n.toNat, by omega⟩
    have e1 : ¬ k ≤ 55 → wrapI .i64 ((k : Int) - 55) = ((k - 55 : Nat) : Int) := by
      intro hk
      rw [show (k : Int) - 55 = ((k - 55 : Nat) : Int) by omega, wrapI_nat (by omega)]
    have hm : mnF (Int.toNat (k : Int)) s = mnF k s := by rw [Int.toNat_natCast]
    by_cases hx : ∃ p, mnF k s = some p
    · have hx' : mnO k s = true := @decide_eq_true _ (Classical.propDecidable _) (by rw [hm]; exact hx)
      rw [if_pos hx', Tr.is_leaf] at h
      subst h
      obtain ⟨p, hp⟩ := hx
      rw [mnN_eq (hm.trans hp), mnR_eq (hm.trans hp)]
      refine fnT O18_sound mixed (by kernel_rfl) LoopsOk.noneT (many_x s k) ?_
      refine wp_chk_true.2 (wp_br.2 ⟨fun h => wp_chk_true.2 (wp_leaf.2 ?_), fun h => ?_⟩)
      · have h := of_decide_eq_true h
        rw [mnF, if_pos (by omega)] at hp
        cases hp; rfl
      · have h := of_decide_eq_false h
        have hk : ¬ k ≤ 55 := by omega
        rw [mnF, if_neg hk] at hp
        split at hp
        · rename_i hc
          cases hp
          obtain ⟨c1, c2, c3, c4⟩ := hc
          rw [e1 hk, tkS_eq, tkR_eq, Int.toNat_natCast, show nat0 ((k - 55 : Nat) : Int) = true from nat00 _, smallO_eq, c2]
          have t1 : tkO ((k - 55 : Nat) : Int) s = true := @decide_eq_true _ (Classical.propDecidable _) (by rw [Int.toNat_natCast]; exact c1)
          rw [t1]
          refine wp_chk_true.2 (wp_br.2 ⟨fun _ => wp_chk_true.2 (wp_br.2 ⟨fun _ => wp_chk_true.2 (wp_br.2 ⟨fun _ => wp_chk_true.2 (wp_br.2 ⟨fun h4 => ?_, fun _ => wp_chk_true.2 (wp_leaf.2 ?_)⟩), fun h4 => ?_⟩), fun h4 => by cases h4⟩), fun h4 => by cases h4⟩)
          · rw [decide_eq_true (by rw [BitVec.le_def, c65536]; exact c4)] at h4; cases h4
          · rw [wrapI_nat (by omega)]
          · rw [decide_eq_true (by rw [BitVec.lt_def, c55]; exact c3)] at h4; cases h4
        · cases hp
    · have hx' : mnO k s = false := @decide_eq_false _ (Classical.propDecidable _) (by rw [hm]; exact hx)
      rw [if_neg (by rw [hx']; decide), Tr.is_leaf] at h
      subst h
      refine fnTD O18_sound mixed (by kernel_rfl) LoopsOk.noneT (many_x s k) ?_
      refine wp_chk_true.2 (wp_br.2 ⟨fun h => ?_, fun h => ?_⟩)
      · have h := of_decide_eq_true h
        exact absurd ⟨_, by rw [mnF, if_pos (by omega)]⟩ hx
      · have h := of_decide_eq_false h
        have hk : ¬ k ≤ 55 := by omega
        rw [mnF, if_neg hk] at hx
        rw [e1 hk, tkS_eq, tkR_eq, Int.toNat_natCast, show nat0 ((k - 55 : Nat) : Int) = true from nat00 _, smallO_eq]
        have dd : ∀ b : Blk, DeadOf [b] [.dead] := fun b => .inr ⟨0, rfl⟩
        refine wp_chk_true.2 (wp_br.2 ⟨fun h1 => wp_chk_true.2 (wp_br.2 ⟨fun h2 => wp_chk_true.2 (wp_br.2 ⟨fun h3 => wp_chk_true.2 (wp_br.2 ⟨fun h4 => wp_chk_true.2 (wp_leaf.2 ⟨rfl, dd _⟩), fun h4 => ?_⟩), fun h4 => wp_chk_true.2 (wp_leaf.2 ⟨rfl, dd _⟩)⟩), fun h4 => wp_chk_true.2 (wp_leaf.2 ⟨rfl, dd _⟩)⟩), fun h4 => wp_leaf.2 ⟨rfl, dd _⟩⟩)
        have h1 : (Int.toNat ((k - 55 : Nat) : Int)) ≤ s.length := @of_decide_eq_true _ (Classical.propDecidable _) h1
        rw [Int.toNat_natCast] at h1
        have h3 := of_decide_eq_true h3
        rw [BitVec.lt_def, c55] at h3
        have h4 : decide (smallN false (List.take (k - 55) s) ≤ BitVec.ofInt 64 65536) = true := by simpa using h4
        have h4 := of_decide_eq_true h4
        rw [BitVec.le_def, c65536] at h4
        exact absurd ⟨_, if_pos ⟨h1, h2, h3, h4⟩⟩ hx
def tkF (k : Nat) (s : List B) : Option (List B × List B) := if k ≤ s.length then some (s.take k, s.drop k) else none
def manyD (dec : List B → Option (It × List B)) : Nat → List B → Option (List It)
  | _, [] => some []
  | 0, _ :: _ => none
  | n + 1, b :: r => match dec (b :: r) with
    | none => none
    | some (x, q) => (manyD dec n q).map (x :: ·)
def itF : Nat → List B → Option (It × List B)
  | 0, _ => none
  | _ + 1, [] => none
  | f + 1, b :: r => if b < 128#8 then some (.txt [b], r)
    else if b < 192#8 then (mnF (b.toNat - 128) r).bind fun p => (tkF p.1 p.2).bind fun q => if q.1.length ≠ 1 ∨ 128#8 ≤ q.1.getD 0 0 ∨ b ≠ 129#8 then some (.txt q.1, q.2) else none
    else (mnF (b.toNat - 192) r).bind fun p => (tkF p.1 p.2).bind fun q => (manyD (itF f) q.1.length q.1).map fun l => (.lst l, q.2)
def rdO (f : Nat) (s : List B) : Bool := @decide (∃ p, itF f s = some p) (Classical.propDecidable _)
def rdI (f : Nat) (s : List B) : It := @ite _ True (Classical.propDecidable True) ((itF f s).getD (.txt [], [])).1 (.txt [])
def rdR (f : Nat) (s : List B) : List B := @ite _ True (Classical.propDecidable True) ((itF f s).getD (.txt [], [])).2 []
theorem rdI_eq {f : Nat} {s : List B} {p : It × List B} (h : itF f s = some p) : rdI f s = p.1 := by unfold rdI; rw [if_pos trivial, h]; rfl
theorem rdR_eq {f : Nat} {s : List B} {p : It × List B} (h : itF f s = some p) : rdR f s = p.2 := by unfold rdR; rw [if_pos trivial, h]; rfl
def rdP (f : Nat) (a : Int × List B) : Prop := a.1 = 65 - (f : Int) ∧ f ≤ 65 ∧ a.2.length ≤ most40
def rdPB (f : Nat) (a : Int × List B) : Bool := @decide (rdP f a) (Classical.propDecidable _)
def rd_f (f : Nat) (a : Int × List B) : Tr (Fin × Heap) := .chk (rdPB f a) (.br (rdO f a.2) (.leaf (.ret (itV (rdI f a.2)), [.vals [.str (rdR f a.2)]])) (.leaf (.pan wrongV, [.dead])))
def RdOk (f : Nat) : Prop := ∀ args h r, ((ctT tk_read (rd_f f)) args h).is r → LFn Pr 31 args h r.1 r.2
def KD (f : Nat) : KnownT := (31, ctT tk_read (rd_f f)) :: (49, ctT tk_read mn_f) :: K18
theorem KD_ok {f : Nat} (h : RdOk f) : KOkT Pr (KD f) := KOkT.cons (Enters.of (fn := Go.Proofs.Tryd.f31) (by kernel_rfl) (by kernel_rfl)) h (KOkT.cons (Enters.of (fn := Go.Proofs.Tryd.f49) (by kernel_rfl) (by kernel_rfl)) mn_ok K18_ok)
def OD (f : Nat) : OrcT := autoT Pr ext (KD f) [32,14] 3
theorem OD_sound {f : Nat} (h : RdOk f) : OrcSound Pr (OD f).o := autoT_sound mixed ext_ok (KD_ok h) (by kernel_rfl) 3
def cRd : Code := dropSeq 3 (bodyOf Go.Proofs.Tryd.f31)
def cRe : Code := dropSeq 3 cRd
theorem rda_x (f : Nat) (d : Int) (s : List B) : Tr.prune (Tr.Sh.any.both (Tr.Sh.any.both Tr.Sh.any))
 (execBYE Pr (OD f) noLoopsT (100 : Nat) Go.Proofs.Tryd.f31 (1 : Nat)
 (Tell.mk [(0 : Nat), (1 : Nat), (4 : Nat), (5 : Nat), (6 : Nat)] [(0 : Nat), (1 : Nat)] [])
 (Tell.mk [] [(0 : Nat)] []) (takeSeq (3 : Nat) (bodyOf Go.Proofs.Tryd.f31))
 [((0 : Nat), V.ptr (0 : Nat) (0 : Nat)), ((1 : Nat), V.int IntKind.i64 d)] [Blk.vals [V.str s]]) =
 Tr.chk true
 (Tr.br (!decide (d ≤ (64 : Int)))
 (Tr.chk true (Tr.leaf (Sum.inl (Fin.pan (V.iface (74 : Nat) (V.agg [])), [Blk.vals [V.str s]]))))
 (Tr.chk (nat0 (1 : Int))
 (Tr.br (tkO (1 : Int) s)
 (Tr.chk (decide ((0 : Int) < (↑(tkS (1 : Int) s).length : Int)) && true)
 (Tr.leaf
 (Sum.inr
 (X.normal,
 [((0 : Nat), V.ptr (0 : Nat) (0 : Nat)), ((1 : Nat), V.int IntKind.i64 d),
 ((4 : Nat), V.ptr (1 : Nat) (0 : Nat)), ((5 : Nat), V.str (tkS (1 : Int) s)),
 ((6 : Nat),
 V.int IntKind.i64 (↑((tkS (1 : Int) s).getD (0 : Nat) (OfNat.ofNat (0 : Nat))).toNat : Int))],
 [Blk.vals [V.str (tkR (1 : Int) s)],
 Blk.vals [V.bool false, V.str (bytesOf (ByteArray.mk #[])), V.nilSl]]))))
 (Tr.leaf (Sum.inl (Fin.pan (V.iface (74 : Nat) (V.agg [])), [Blk.dead])))))) := by kernel_rfl
theorem rdc_x (f : Nat) (d : Int) (n : Int) (s : List B) (t : List B) : Tr.prune (Tr.Sh.any.both
 ((((Tr.Sh.any.r.l.l.l.l.both (Tr.Sh.any.r.l.both (Tr.Sh.any.both Tr.Sh.any).r).r.r).both Tr.Sh.any).both
 Tr.Sh.any).both
 ((Tr.Sh.any.both Tr.Sh.any).both Tr.Sh.any)))
 (execBYE Pr (OD f) noLoopsT (100 : Nat) Go.Proofs.Tryd.f31 (1 : Nat)
 (Tell.mk [(1 : Nat), (4 : Nat), (8 : Nat), (9 : Nat)] [(0 : Nat), (1 : Nat), (2 : Nat), (3 : Nat)] [])
 (Tell.mk [] [(0 : Nat)] []) (takeSeq (2 : Nat) cRd)
 [((0 : Nat), V.ptr (0 : Nat) (0 : Nat)), ((1 : Nat), V.int IntKind.i64 d), ((4 : Nat), V.ptr (1 : Nat) (0 : Nat)),
 ((5 : Nat), V.str t), ((6 : Nat), V.int IntKind.i64 n)]
 [Blk.vals [V.str s], Blk.vals [V.bool false, V.str [], V.nilSl]]) =
 Tr.chk true
 (Tr.br (decide (n < (128 : Int)))
 (Tr.chk true (Tr.leaf (Sum.inl (Fin.ret (V.agg [V.bool false, V.str t, V.nilSl]), [Blk.vals [V.str s]]))))
 (Tr.chk true
 (Tr.br (decide (n < (192 : Int)))
 (Tr.chk (mnP (wrapI IntKind.i64 (n - (128 : Int))))
 (Tr.br (mnO (wrapI IntKind.i64 (n - (128 : Int))) s)
 (Tr.chk (nat0 (mnN (wrapI IntKind.i64 (n - (128 : Int))) s))
 (Tr.br (tkO (mnN (wrapI IntKind.i64 (n - (128 : Int))) s) (mnR (wrapI IntKind.i64 (n - (128 : Int))) s))
 (Tr.chk true
 (Tr.br
 ((↑(tkS (mnN (wrapI IntKind.i64 (n - (128 : Int))) s)
 (mnR (wrapI IntKind.i64 (n - (128 : Int))) s)).length :
 Int) !=
 (1 : Int))
 (Tr.chk true
 (Tr.leaf
 (Sum.inl
 (Fin.ret
 (V.agg
 [V.bool false,
 V.str
 (tkS (mnN (wrapI IntKind.i64 (n - (128 : Int))) s)
 (mnR (wrapI IntKind.i64 (n - (128 : Int))) s)),
 V.nilSl]),
 [Blk.vals
 [V.str
 (tkR (mnN (wrapI IntKind.i64 (n - (128 : Int))) s)
 (mnR (wrapI IntKind.i64 (n - (128 : Int))) s))]]))))
 (Tr.chk
 (decide
 ((0 : Int) <
 (↑(tkS (mnN (wrapI IntKind.i64 (n - (128 : Int))) s)
 (mnR (wrapI IntKind.i64 (n - (128 : Int))) s)).length :
 Int)) &&
 true)
 (Tr.br
 (decide
 (BitVec.ofInt (8 : Nat) (128 : Int) ≤
 (tkS (mnN (wrapI IntKind.i64 (n - (128 : Int))) s)
 (mnR (wrapI IntKind.i64 (n - (128 : Int))) s)).getD
 (0 : Nat) (OfNat.ofNat (0 : Nat))))
 (Tr.chk true
 (Tr.leaf
 (Sum.inl
 (Fin.ret
 (V.agg
 [V.bool false,
 V.str
 (tkS (mnN (wrapI IntKind.i64 (n - (128 : Int))) s)
 (mnR (wrapI IntKind.i64 (n - (128 : Int))) s)),
 V.nilSl]),
 [Blk.vals
 [V.str
 (tkR (mnN (wrapI IntKind.i64 (n - (128 : Int))) s)
 (mnR (wrapI IntKind.i64 (n - (128 : Int))) s))]]))))
 (Tr.chk true
 (Tr.br (!n != (129 : Int))
 (Tr.chk true
 (Tr.leaf
 (Sum.inl
 (Fin.pan (V.iface (74 : Nat) (V.agg [])),
 [Blk.vals
 [V.str
 (tkR (mnN (wrapI IntKind.i64 (n - (128 : Int))) s)
 (mnR (wrapI IntKind.i64 (n - (128 : Int))) s))]]))))
 (Tr.chk true
 (Tr.leaf
 (Sum.inl
 (Fin.ret
 (V.agg
 [V.bool false,
 V.str
 (tkS (mnN (wrapI IntKind.i64 (n - (128 : Int))) s)
 (mnR (wrapI IntKind.i64 (n - (128 : Int))) s)),
 V.nilSl]),
 [Blk.vals
 [V.str
 (tkR (mnN (wrapI IntKind.i64 (n - (128 : Int))) s)
 (mnR (wrapI IntKind.i64 (n - (128 : Int))) s))]]))))))))))
 (Tr.leaf (Sum.inl (Fin.pan (V.iface (74 : Nat) (V.agg [])), [Blk.dead])))))
 (Tr.leaf (Sum.inl (Fin.pan (V.iface (74 : Nat) (V.agg [])), [Blk.dead])))))
 (Tr.chk (mnP (wrapI IntKind.i64 (n - (192 : Int))))
 (Tr.br (mnO (wrapI IntKind.i64 (n - (192 : Int))) s)
 (Tr.chk (nat0 (mnN (wrapI IntKind.i64 (n - (192 : Int))) s))
 (Tr.br (tkO (mnN (wrapI IntKind.i64 (n - (192 : Int))) s) (mnR (wrapI IntKind.i64 (n - (192 : Int))) s))
 (Tr.chk true
 (Tr.leaf
 (Sum.inr
 (X.normal,
 [((1 : Nat), V.int IntKind.i64 d), ((4 : Nat), V.ptr (1 : Nat) (0 : Nat)),
 ((8 : Nat), V.ptr (2 : Nat) (0 : Nat)), ((9 : Nat), V.ptr (3 : Nat) (0 : Nat))],
 [Blk.vals
 [V.str
 (tkR (mnN (wrapI IntKind.i64 (n - (192 : Int))) s)
 (mnR (wrapI IntKind.i64 (n - (192 : Int))) s))],
 Blk.vals [V.bool false, V.str [], V.nilSl],
 Blk.vals
 [V.str
 (tkS (mnN (wrapI IntKind.i64 (n - (192 : Int))) s)
 (mnR (wrapI IntKind.i64 (n - (192 : Int))) s))],
 Blk.vals [V.bool true, V.str (bytesOf (ByteArray.mk #[])), V.nilSl]]))))
 (Tr.leaf (Sum.inl (Fin.pan (V.iface (74 : Nat) (V.agg [])), [Blk.dead])))))
 (Tr.leaf (Sum.inl (Fin.pan (V.iface (74 : Nat) (V.agg [])), [Blk.dead])))))))) := by kernel_rfl
theorem rdb0_x (f : Nat) (d : Int) (s : List B) (t : List B) : Tr.prune ((Tr.Sh.any.both Tr.Sh.any).both
 Tr.Sh.any)
 (execBYE Pr (OD f) noLoopsT (100 : Nat) Go.Proofs.Tryd.f31 (1 : Nat)
 (Tell.mk [(1 : Nat), (4 : Nat), (8 : Nat), (9 : Nat)] [(0 : Nat), (1 : Nat), (2 : Nat), (3 : Nat), (5 : Nat)]
 [(5 : Nat)])
 (Tell.mk [(4 : Nat), (9 : Nat)] [(0 : Nat), (1 : Nat), (3 : Nat)] []) (loopBody Go.Proofs.Tryd.f31 (0 : Nat))
 [((1 : Nat), V.int IntKind.i64 d), ((4 : Nat), V.ptr (1 : Nat) (0 : Nat)), ((8 : Nat), V.ptr (2 : Nat) (0 : Nat)),
 ((9 : Nat), V.ptr (3 : Nat) (0 : Nat))]
 [Blk.vals [V.str s], Blk.vals [V.bool false, V.str [], V.nilSl], Blk.vals [V.str t],
 Blk.vals [V.bool true, V.str [], V.nilSl]]) =
 Tr.chk true
 (Tr.br (!t == bytesOf (ByteArray.mk #[]))
 (Tr.chk (rdPB f (wrapI IntKind.i64 (d + (1 : Int)), t))
 (Tr.br (rdO f t)
 (Tr.chk true
 (Tr.leaf
 (Sum.inr
 (X.normal,
 [((1 : Nat), V.int IntKind.i64 d), ((4 : Nat), V.ptr (1 : Nat) (0 : Nat)),
 ((8 : Nat), V.ptr (2 : Nat) (0 : Nat)), ((9 : Nat), V.ptr (3 : Nat) (0 : Nat))],
 [Blk.vals [V.str s], Blk.vals [V.bool false, V.str [], V.nilSl], Blk.vals [V.str (rdR f t)],
 Blk.vals [V.bool true, V.str [], V.sl (4 : Nat) (0 : Nat) (3 : Nat) (1 : Nat) none],
 Blk.vals
 [V.bool (rdI f t).fI.b, V.str (rdI f t).fI.s, V.isl (3 : Nat) (rdI f t).fI.m (rdI f t).fI.g]]))))
 (Tr.leaf (Sum.inl (Fin.pan (V.iface (74 : Nat) (V.agg [])), [Blk.vals [V.str s]])))))
 (Tr.leaf
 (Sum.inr
 (X.exit (1 : Nat), [((4 : Nat), V.ptr (1 : Nat) (0 : Nat)), ((9 : Nat), V.ptr (2 : Nat) (0 : Nat))],
 [Blk.vals [V.str s], Blk.vals [V.bool false, V.str [], V.nilSl],
 Blk.vals [V.bool true, V.str [], V.nilSl]])))) := by kernel_rfl
theorem rdb1_x (f : Nat) (d : Int) (s : List B) (t : List B) (k : Nat) (c : V) (cs : List V) : Tr.prune ((Tr.Sh.any.both
 Tr.Sh.any).both
 Tr.Sh.any)
 (execBYE Pr (OD f) noLoopsT (100 : Nat) Go.Proofs.Tryd.f31 (1 : Nat)
 (Tell.mk [(1 : Nat), (4 : Nat), (8 : Nat), (9 : Nat)] [(0 : Nat), (1 : Nat), (2 : Nat), (3 : Nat), (6 : Nat)]
 [(6 : Nat)])
 (Tell.mk [(4 : Nat), (9 : Nat)] [(0 : Nat), (1 : Nat), (3 : Nat), (4 : Nat)] [(4 : Nat)])
 (loopBody Go.Proofs.Tryd.f31 (0 : Nat))
 [((1 : Nat), V.int IntKind.i64 d), ((4 : Nat), V.ptr (1 : Nat) (0 : Nat)), ((8 : Nat), V.ptr (2 : Nat) (0 : Nat)),
 ((9 : Nat), V.ptr (3 : Nat) (0 : Nat))]
 [Blk.vals [V.str s], Blk.vals [V.bool false, V.str [], V.nilSl], Blk.vals [V.str t],
 Blk.vals [V.bool true, V.str [], V.sl (4 : Nat) (0 : Nat) (3 : Nat) (k + (1 : Nat)) none], Blk.vals (c :: cs)]) =
 Tr.chk true
 (Tr.br (!t == bytesOf (ByteArray.mk #[]))
 (Tr.chk (rdPB f (wrapI IntKind.i64 (d + (1 : Int)), t))
 (Tr.br (rdO f t)
 (Tr.chk
 (decide ((0 : Nat) + (k + (1 : Nat)) * (3 : Nat) ≤ (c :: cs).length) &&
 (decide (k + (1 : Nat) + (1 : Nat) ≤ (281474976710656 : Nat)) &&
 decide
 (((2 : Nat) * (k + (1 : Nat) + (1 : Nat)) + (1024 : Nat)) * (48 : Nat) ≤
 (281474976710656 : Nat)) &&
 true) &&
 (List.take (3 : Nat)
 (setCells
 (List.replicate (1 : Nat) [V.bool false, V.str (bytesOf (ByteArray.mk #[])), V.nilSl]).flatten
 (0 : Nat)
 [V.bool (rdI f t).fI.b, V.str (rdI f t).fI.s, V.isl (3 : Nat) (rdI f t).fI.m (rdI f t).fI.g])).all
 V.one &&
 true)
 (Tr.leaf
 (Sum.inr
 (X.normal,
 [((1 : Nat), V.int IntKind.i64 d), ((4 : Nat), V.ptr (1 : Nat) (0 : Nat)),
 ((8 : Nat), V.ptr (2 : Nat) (0 : Nat)), ((9 : Nat), V.ptr (3 : Nat) (0 : Nat))],
 [Blk.vals [V.str s], Blk.vals [V.bool false, V.str [], V.nilSl], Blk.vals [V.str (rdR f t)],
 Blk.vals [V.bool true, V.str [], V.sl (4 : Nat) (0 : Nat) (3 : Nat) (k + (1 : Nat) + (1 : Nat)) none],
 Blk.vals
 (List.take ((k + 1) * 3) (c :: cs) ++ [V.bool (rdI f t).fI.b, V.str (rdI f t).fI.s, V.isl 3 (rdI f t).fI.m (rdI f t).fI.g])]))))
 (Tr.leaf (Sum.inl (Fin.pan (V.iface (74 : Nat) (V.agg [])), [Blk.vals [V.str s]])))))
 (Tr.leaf
 (Sum.inr
 (X.exit (1 : Nat), [((4 : Nat), V.ptr (1 : Nat) (0 : Nat)), ((9 : Nat), V.ptr (2 : Nat) (0 : Nat))],
 [Blk.vals [V.str s], Blk.vals [V.bool false, V.str [], V.nilSl],
 Blk.vals [V.bool true, V.str [], V.sl (3 : Nat) (0 : Nat) (3 : Nat) (k + (1 : Nat)) none],
 Blk.vals (c :: cs)])))) := by kernel_rfl
theorem rdd_x (f : Nat) (n : Nat) (s : List B) (cs : List V) : Tr.prune (Tr.Sh.any)
 (execB Pr (OD f) noLoopsT (100 : Nat) (partA (1 : Nat) cRe)
 [((4 : Nat), V.ptr (1 : Nat) (0 : Nat)), ((9 : Nat), V.ptr (2 : Nat) (0 : Nat))]
 [Blk.vals [V.str s], Blk.vals [V.bool false, V.str [], V.nilSl],
 Blk.vals [V.bool true, V.str [], V.sl (3 : Nat) (0 : Nat) (3 : Nat) n none], Blk.vals cs]) =
 Tr.chk true
 (Tr.leaf
 (X.normal,
 [((4 : Nat), V.ptr (1 : Nat) (0 : Nat)), ((9 : Nat), V.ptr (2 : Nat) (0 : Nat)),
 ((70 : Nat), V.agg [V.bool true, V.str [], V.sl (3 : Nat) (0 : Nat) (3 : Nat) n none])],
 [Blk.vals [V.str s], Blk.vals [V.bool false, V.str [], V.nilSl],
 Blk.vals [V.bool true, V.str [], V.sl (3 : Nat) (0 : Nat) (3 : Nat) n none], Blk.vals cs])) := by kernel_rfl
theorem rde_x (f : Nat) (n : Nat) (s : List B) (F : Nat → Nat → V) : Tr.prune (Tr.Sh.any)
 (execBN Pr (OD f) noLoopsT (100 : Nat) (1 : Nat) [(4 : Nat)] [] (partB (1 : Nat) cRe)
 [((4 : Nat), V.ptr (1 : Nat) (0 : Nat)), ((9 : Nat), V.ptr (2 : Nat) (0 : Nat)),
 ((70 : Nat), V.agg [V.bool true, V.str [], V.isl (3 : Nat) n F])]
 [Blk.vals [V.str s], Blk.vals [V.bool false, V.str [], V.nilSl],
 Blk.vals [V.bool true, V.str [], V.sl (3 : Nat) (0 : Nat) (3 : Nat) n none], Blk.dead]) =
 Tr.chk true
 (Tr.leaf
 (X.normal, [((4 : Nat), V.ptr (1 : Nat) (0 : Nat))],
 [Blk.vals [V.str s], Blk.vals [V.bool true, V.str [], V.isl (3 : Nat) n F]])) := by kernel_rfl
theorem rdf_x (f : Nat) (n : Nat) (s : List B) (F : Nat → Nat → V) : Tr.prune (Tr.Sh.any)
 (execBR Pr (OD f) noLoopsT (100 : Nat) Go.Proofs.Tryd.f31 (1 : Nat) (tailC cRe) [((4 : Nat), V.ptr (1 : Nat) (0 : Nat))]
 [Blk.vals [V.str s], Blk.vals [V.bool true, V.str [], V.isl (3 : Nat) n F]]) =
 Tr.chk true
 (Tr.leaf (Fin.ret (V.agg [V.bool true, V.str [], V.isl (3 : Nat) n F]), [Blk.vals [V.str s]])) := by kernel_rfl
theorem rdz_x (f : Nat) (n : Nat) (s : List B) : Tr.prune (Tr.Sh.any)
 (execBR Pr (OD f) noLoopsT (100 : Nat) Go.Proofs.Tryd.f31 (1 : Nat) cRe
 [((4 : Nat), V.ptr (1 : Nat) (0 : Nat)), ((9 : Nat), V.ptr (2 : Nat) (0 : Nat))]
 [Blk.vals [V.str s], Blk.vals [V.bool false, V.str [], V.nilSl], Blk.vals [V.bool true, V.str [], V.nilSl]]) =
 Tr.chk true (Tr.leaf (Fin.ret (V.agg [V.bool true, V.str [], V.nilSl]), [Blk.vals [V.str s]])) := by kernel_rfl
end
end Go.Proofs.YtbgiickegljpoaaDoor.K
end
section
open Go Go.Lh
namespace Go.Proofs.YtbgiickegljpoaaDoor.K
noncomputable section
set_option maxRecDepth 100000
theorem rd0_x (d : Int) (s : List B) : Tr.prune (Tr.Sh.any.both Tr.Sh.any)
 (execBYE Pr O18 noLoopsT (100 : Nat) Go.Proofs.Tryd.f31 (1 : Nat) (Tell.mk [(0 : Nat)] [(0 : Nat)] [])
 (Tell.mk [] [(0 : Nat)] []) (takeSeq (1 : Nat) (bodyOf Go.Proofs.Tryd.f31))
 [((0 : Nat), V.ptr (0 : Nat) (0 : Nat)), ((1 : Nat), V.int IntKind.i64 d)] [Blk.vals [V.str s]]) =
 Tr.chk true
 (Tr.br (!decide (d ≤ (64 : Int)))
 (Tr.chk true (Tr.leaf (Sum.inl (Fin.pan (V.iface (74 : Nat) (V.agg [])), [Blk.vals [V.str s]]))))
 (Tr.chk true
 (Tr.leaf (Sum.inr (X.normal, [((0 : Nat), V.ptr (0 : Nat) (0 : Nat))], [Blk.vals [V.str s]]))))) := by kernel_rfl
def cellsL : List It → List V
  | [] => []
  | x :: r => x.fI.cells ++ cellsL r
theorem cellsL_len : ∀ l : List It, (cellsL l).length = l.length * 3
  | [] => rfl
  | x :: r => by rw [cellsL, List.length_append, cellsL_len r, List.length_cons, Nat.succ_mul, Nat.add_comm]; rfl
theorem cellsL_clo : ∀ (l : List It) v, v ∈ cellsL l → v.clo = true
  | x :: r, v, h => by
    rw [cellsL] at h
    rcases List.mem_append.1 h with h | h
    · simp only [FI.cells, List.mem_cons, List.not_mem_nil, or_false] at h
      rcases h with rfl | rfl | rfl <;> rfl
    · exact cellsL_clo r v h
theorem cellsL_snoc (x : It) : ∀ l : List It, cellsL (l ++ [x]) = cellsL l ++ x.fI.cells
  | [] => rfl
  | y :: r => by rw [List.cons_append, cellsL, cellsL, cellsL_snoc x r, List.append_assoc]
theorem cellsL_at : ∀ (l : List It) (i j : Nat) (hi : i < l.length), j < 3 → (cellsL l).getD (i * 3 + j) .any = (l[i]).fI.cells.getD j .any
  | x :: r, 0, j, _, hj => by
    rw [cellsL, List.getD_eq_getElem?_getD, List.getElem?_append_left (by show 0 * 3 + j < 3; omega), ← List.getD_eq_getElem?_getD, Nat.zero_mul, Nat.zero_add]
    rfl
  | x :: r, i + 1, j, hi, hj => by
    rw [cellsL, List.getD_eq_getElem?_getD, List.getElem?_append_right (by show 3 ≤ (i + 1) * 3 + j; omega), ← List.getD_eq_getElem?_getD]
    have e : (i + 1) * 3 + j - x.fI.cells.length = i * 3 + j := by show (i + 1) * 3 + j - 3 = _; omega
    rw [e]
    exact cellsL_at r i j (by simpa using hi) hj
def rawL (l : List It) : V := match l with
  | [] => .agg [.bool true, .str [], .nilSl]
  | x :: r => .agg [.bool true, .str [], .isl 3 (r.length + 1) (frzC (cellsL (x :: r)) 0 3)]
def rawI : It → V
  | .txt s => .agg [.bool false, .str s, .nilSl]
  | .lst l => rawL l
theorem rawL_wk (l : List It) : (rawL l).Wk (itV (.lst l)) := by
  rw [itV_lst]
  cases l with
  | nil => exact .agg3 (.refl _) (.refl _) (.nil _ _)
  | cons x r =>
    refine .agg3 (.refl _) (.refl _) (.isl fun i j hi hj => ?_)
    have hi : i < (x :: r).length := hi
    have e : frzC (cellsL (x :: r)) 0 3 i j = ((x :: r)[i]).fI.cells.getD j .any := by
      unfold frzC
      rw [Nat.zero_add]
      exact cellsL_at _ i j hi hj
    have e3 := rI_at (x :: r) i hi
    have e4 : rwF (It.rI (x :: r)) i j = ((x :: r)[i]).fI.cells.getD j .any := by
      unfold RW.at itV at e3
      injection e3 with e3
      injection e3 with a1 e3
      injection e3 with a2 e3
      injection e3 with a3 _
      match j, hj with
      | 0, _ => exact a1
      | 1, _ => exact a2
      | 2, _ => exact a3
    rw [e, ← e4]
    exact .refl _
theorem rawI_wk : ∀ x : It, (rawI x).Wk (itV x)
  | .txt s => by rw [itV_txt]; exact .agg3 (.refl _) (.refl _) (.nil _ _)
  | .lst l => rawL_wk l
def finR : Option (It × List B) → Fin × Heap
  | some p => (.ret (rawI p.1), [.vals [.str p.2]])
  | none => (.pan wrongV, [.dead])
theorem itF_len : ∀ (f : Nat) (s : List B) (x : It) (r : List B), itF f s = some (x, r) → r.length < s.length
  | 0, s, x, r, h => by cases s <;> cases h
  | f + 1, [], x, r, h => by cases h
  | f + 1, b :: s, x, r, h => by
    have mn : ∀ {k : Nat} {p : Nat × List B}, mnF k s = some p → p.2.length ≤ s.length := by
      intro k p h
      unfold mnF at h
      split at h
      · cases h; exact Nat.le_refl _
      · split at h
        · cases h; simp only [List.length_drop]; omega
        · cases h
    have tk : ∀ {k : Nat} {t : List B} {q : List B × List B}, tkF k t = some q → q.2.length ≤ t.length := by
      intro k t q h
      unfold tkF at h
      split at h
      · cases h; simp only [List.length_drop]; omega
      · cases h
    rw [itF] at h
    split at h
    · cases h; simp
    · split at h
      · rw [Option.bind_eq_some_iff] at h
        obtain ⟨p, hp, h⟩ := h
        rw [Option.bind_eq_some_iff] at h
        obtain ⟨q, hq, h⟩ := h
        split at h
        · cases h
          have := mn hp; have := tk hq
          rw [List.length_cons]; omega
        · cases h
      · rw [Option.bind_eq_some_iff] at h
        obtain ⟨p, hp, h⟩ := h
        rw [Option.bind_eq_some_iff] at h
        obtain ⟨q, hq, h⟩ := h
        rw [Option.map_eq_some_iff] at h
        obtain ⟨l, hl, h⟩ := h
        cases h
        have := mn hp; have := tk hq
        rw [List.length_cons]; omega
theorem manyD_fuel {dec : List B → Option (It × List B)} (hd : ∀ s x r, dec s = some (x, r) → r.length < s.length) : ∀ (n m : Nat) (t : List B), t.length ≤ n → t.length ≤ m → manyD dec n t = manyD dec m t
  | n, m, [], _, _ => by rw [manyD.eq_def, manyD.eq_def]
  | n + 1, m + 1, b :: t, hn, hm => by
    rw [manyD, manyD]
    cases h : dec (b :: t) with
    | none => rfl
    | some p =>
      obtain ⟨x, q⟩ := p
      have := hd _ _ _ h
      simp only [List.length_cons] at hn hm this
      simp only
      rw [manyD_fuel hd n m q (by omega) (by omega)]
  | 0, m, b :: t, hn, _ => by simp at hn
  | n + 1, 0, b :: t, _, hm => by simp at hm
def rd_S (f : Nat) (s2 : List B) (a : List It × List B) : Fr × Heap := ([(1,.int .i64 (64 - (f : Int))),(4,.ptr 1 0),(8,.ptr 2 0),(9,.ptr 3 0)], match a.1 with
  | [] => [.vals [.str s2], .vals [.bool false,.str [],.nilSl], .vals [.str a.2], .vals [.bool true,.str [],.nilSl]]
  | x :: r => [.vals [.str s2], .vals [.bool false,.str [],.nilSl], .vals [.str a.2], .vals [.bool true,.str [],.sl 4 0 3 (r.length + 1) none], .vals (cellsL (x :: r))])
theorem dd1 (b : Blk) : DeadOf [b] [.dead] := .inr ⟨0, rfl⟩
theorem clo_on4 {x : Nat} {ts : List Nat} {c0 c1 c2 c3 : Blk} {cs : List V} (hx : 4 ≤ x) (hc : ∀ v, v ∈ cs → v.clo = true) : Tell.clo ⟨ts, [0, 1, 2, 3, x], [x]⟩ [c0, c1, c2, c3, .vals cs] := by
  intro k i b hk hm hb cs' e
  have hm := (memN_iff i [x]).1 hm
  rw [List.mem_singleton] at hm
  subst hm
  match k, hk, hb with
  | 0, hk, _ => simp at hk; omega
  | 1, hk, _ => simp at hk; omega
  | 2, hk, _ => simp at hk; omega
  | 3, hk, _ => simp at hk; omega
  | 4, _, hb => simp at hb; subst hb; cases e; exact hc
  | k + 5, hk, _ => simp at hk
theorem clo_off4 {ts : List Nat} {c0 c1 c2 : Blk} {cs : List V} (hc : ∀ v, v ∈ cs → v.clo = true) : Tell.clo ⟨ts, [0, 1, 3, 4], [4]⟩ [c0, c1, c2, .vals cs] := by
  intro k i b hk hm hb cs' e
  have hm := (memN_iff i [4]).1 hm
  rw [List.mem_singleton] at hm
  subst hm
  match k, hk, hb with
  | 0, hk, _ => simp at hk
  | 1, hk, _ => simp at hk
  | 2, hk, _ => simp at hk
  | 3, _, hb => simp at hb; subst hb; cases e; exact hc
  | k + 4, hk, _ => simp at hk
theorem rd_loop {f : Nat} (hf : RdOk f) (h65 : f + 1 ≤ 65) (s2 t : List B) (ht : t.length ≤ most40) :
    EndsIn Pr Go.Proofs.Tryd.f31 1 (dropSeq 2 cRd) (rd_S f s2 ([], t)).1 (rd_S f s2 ([], t)).2 (finR ((manyD (itF f) t.length t).map fun l => (.lst l, s2))).1 (finR ((manyD (itF f) t.length t).map fun l => (.lst l, s2))).2 := by
  have e : dropSeq 2 cRd = .seq (.block 1 (.loop (Go.Lh.loopBody Go.Proofs.Tryd.f31 0))) cRe := by kernel_rfl
  rw [e]
  generalize hL : manyD (itF f) t.length t = L
  have hdl := itF_len f
  refine EndsIn.loop (T := OD f) (L := noLoopsT) (rd_S f s2) (fun a => a.2.length) (fun a => (manyD (itF f) a.2.length a.2).map (a.1 ++ ·) = L ∧ a.1.length + a.2.length ≤ most40) (OD_sound hf) mixed noLoops_all (by kernel_rfl) ?_ (a0 := ([], t)) ⟨by simp only [List.nil_append]; rw [hL]; cases L <;> rfl, by simpa using ht⟩
  rintro ⟨done, t⟩ ⟨hok, hsz⟩
  simp only at hok hsz
  rw [m40] at hsz
  have hd : wrapI .i64 (64 - (f : Int) + 1) = 65 - (f : Int) := by rw [show (64 : Int) - f + 1 = ((65 - f : Nat) : Int) by omega, wrapI_nat (by omega)]; omega
  have hP : rdPB f (wrapI .i64 (64 - (f : Int) + 1), t) = true := @decide_eq_true _ (Classical.propDecidable _) ⟨hd, by omega, by simp only; rw [m40]; omega⟩
  have hexit : t = [] → L = some done := by
    rintro rfl
    rw [← hok]
    simp [manyD]
  have hnone : t ≠ [] → itF f t = none → L = none := by
    intro hne hn
    cases t with
    | nil => exact absurd rfl hne
    | cons b t =>
      rw [← hok, List.length_cons, manyD, hn]
      rfl
  have hgo : ∀ x q, t ≠ [] → itF f t = some (x, q) → (manyD (itF f) q.length q).map ((done ++ [x]) ++ ·) = L ∧ (done ++ [x]).length + q.length ≤ most40 ∧ q.length < t.length := by
    intro x q hne hn
    cases t with
    | nil => exact absurd rfl hne
    | cons b t =>
      have hlt := hdl _ _ _ hn
      rw [← hok, List.length_cons, manyD, hn]
      simp only [List.length_cons] at hlt hsz ⊢
      refine ⟨?_, by rw [List.length_append, List.length_singleton, m40]; omega, hlt⟩
      rw [manyD_fuel hdl t.length q.length q (by omega) (by omega)]
      cases manyD (itF f) q.length q with
      | none => rfl
      | some l => simp
  cases done with
  | nil =>
    refine ⟨⟨[1,4,8,9],[0,1,2,3,5],[5]⟩, ⟨[4,9],[0,1,3],[]⟩, 100, ?_⟩
    refine Tr.wp_prune (rdb0_x f (64 - (f : Int)) s2 t) ?_
    rw [hP]
    refine wp_chk_true.2 (wp_br.2 ⟨fun h => wp_chk_true.2 (wp_br.2 ⟨fun h2 => wp_chk_true.2 (wp_leaf.2 ⟨?_, .inl ?_⟩), fun h2 => wp_leaf.2 ⟨trivial, .inr (.inr ?_)⟩⟩), fun h => wp_leaf.2 ⟨?_, .inr (.inl ⟨_, _, rfl, ?_⟩)⟩⟩)
    · obtain ⟨⟨x, q⟩, hp⟩ : ∃ p, itF f t = some p := @of_decide_eq_true _ (Classical.propDecidable _) h2
      refine clo_on4 (by decide) ?_
      intro v hv
      simp only [List.mem_cons, List.not_mem_nil, or_false] at hv
      rcases hv with rfl | rfl | rfl <;> rfl
    · obtain ⟨⟨x, q⟩, hp⟩ : ∃ p, itF f t = some p := @of_decide_eq_true _ (Classical.propDecidable _) h2
      have hne : t ≠ [] := by rintro rfl; cases h
      refine ⟨([x], q), ?_, ?_⟩
      · rw [rdI_eq hp, rdR_eq hp]; rfl
      · have := hgo x q hne hp
        exact ⟨⟨this.1, this.2.1⟩, this.2.2⟩
    · have hn : itF f t = none := by
        have := @of_decide_eq_false _ (Classical.propDecidable _) h2
        cases h3 : itF f t with
        | none => rfl
        | some p => exact absurd ⟨p, h3⟩ this
      have hne : t ≠ [] := by rintro rfl; cases h
      rw [hnone hne hn]; exact ⟨_, rfl, dd1 _⟩
    · exact clo_nil
    · have ht : t = [] := by
        cases t with
        | nil => rfl
        | cons b t => cases h
      rw [hexit ht]
      exact EndsIn.last (T := OD f) (OD_sound hf) mixed noLoops_all (by kernel_rfl) (rdz_x f 0 s2) (tr1 rfl rfl)
  | cons y r =>
    refine ⟨⟨[1,4,8,9],[0,1,2,3,6],[6]⟩, ⟨[4,9],[0,1,3,4],[4]⟩, 100, ?_⟩
    obtain ⟨c, cs, ec⟩ : ∃ c cs, cellsL (y :: r) = c :: cs := ⟨_, _, rfl⟩
    have hS : rd_S f s2 (y :: r, t) = ([(1,.int .i64 (64 - (f : Int))),(4,.ptr 1 0),(8,.ptr 2 0),(9,.ptr 3 0)], [.vals [.str s2], .vals [.bool false,.str [],.nilSl], .vals [.str t], .vals [.bool true,.str [],.sl 4 0 3 (r.length + 1) none], .vals (c :: cs)]) := by rw [← ec]; rfl
    have hlen : (c :: cs).length = (r.length + 1) * 3 := by rw [← ec, cellsL_len]; rfl
    have hcs : List.take ((r.length + 1) * 3) (c :: cs) = cellsL (y :: r) := by rw [← hlen, List.take_length, ec]
    rw [hS]
    refine Tr.wp_prune (rdb1_x f (64 - (f : Int)) s2 t r.length c cs) ?_
    rw [hP, hcs]
    refine wp_chk_true.2 (wp_br.2 ⟨fun h => wp_chk_true.2 (wp_br.2 ⟨fun h2 => wp_chk.2 ⟨?_, (wp_leaf.2 ⟨?_, .inl ?_⟩)⟩, fun h2 => wp_leaf.2 ⟨trivial, .inr (.inr ?_)⟩⟩), fun h => wp_leaf.2 ⟨?_, .inr (.inl ⟨_, _, rfl, ?_⟩)⟩⟩)
    · have e1 : ∀ x : FI, (List.take 3 (setCells (List.replicate 1 [V.bool false, V.str (bytesOf (ByteArray.mk #[])), V.nilSl]).flatten 0 [V.bool x.b, V.str x.s, V.isl 3 x.m x.g])).all V.one = true := fun x => rfl
      rw [e1, hlen]
      simp only [List.length_cons] at hsz
      simp only [Bool.and_eq_true, Bool.and_true, Bool.true_and, decide_eq_true_eq]; omega
    · obtain ⟨⟨x, q⟩, hp⟩ : ∃ p, itF f t = some p := @of_decide_eq_true _ (Classical.propDecidable _) h2
      refine clo_on4 (by decide) ?_
      intro v hv
      rcases List.mem_append.1 hv with hv | hv
      · exact cellsL_clo _ v hv
      · simp only [List.mem_cons, List.not_mem_nil, or_false] at hv
        rcases hv with rfl | rfl | rfl <;> rfl
    · obtain ⟨⟨x, q⟩, hp⟩ : ∃ p, itF f t = some p := @of_decide_eq_true _ (Classical.propDecidable _) h2
      have hne : t ≠ [] := by rintro rfl; cases h
      refine ⟨((y :: r) ++ [x], q), ?_, ?_⟩
      · have e2 : rd_S f s2 ((y :: r) ++ [x], q) = ([(1,.int .i64 (64 - (f : Int))),(4,.ptr 1 0),(8,.ptr 2 0),(9,.ptr 3 0)], [.vals [.str s2], .vals [.bool false,.str [],.nilSl], .vals [.str q], .vals [.bool true,.str [],.sl 4 0 3 ((r ++ [x]).length + 1) none], .vals (cellsL ((y :: r) ++ [x]))]) := rfl
        rw [rdI_eq hp, rdR_eq hp, e2, cellsL_snoc, List.length_append, List.length_singleton]; rfl
      · have := hgo x q hne hp
        exact ⟨⟨this.1, this.2.1⟩, this.2.2⟩
    · have hn : itF f t = none := by
        have := @of_decide_eq_false _ (Classical.propDecidable _) h2
        cases h3 : itF f t with
        | none => rfl
        | some p => exact absurd ⟨p, h3⟩ this
      have hne : t ≠ [] := by rintro rfl; cases h
      rw [hnone hne hn]; exact ⟨_, rfl, dd1 _⟩
    · rw [← ec]; exact clo_off4 (cellsL_clo _)
    · have ht : t = [] := by
        cases t with
        | nil => rfl
        | cons b t => cases h
      rw [hexit ht, ← ec]
      refine EndsIn.two (T := OD f) (fuel := 100) (on := [4]) (fr3 := [(4,.ptr 1 0)]) (h3 := [.vals [.str s2], .vals [.bool true,.str [],.isl 3 (r.length + 1) (frzC (cellsL (y :: r)) 0 3)]]) 1 (OD_sound hf) mixed (by kernel_rfl) (by kernel_rfl)
        (Tr.prune_is (Eq.mpr (congrArg (fun t => Tr.is t _) (rdd_x f (r.length + 1) s2 (cellsL (y :: r)))) (Tr.is_chk.2 ⟨rfl, Tr.is_leaf.2 rfl⟩))) (.inr ⟨3, cellsL (y :: r), rfl, cellsL_clo _, rfl, rfl⟩) ?_ ?_
      · exact Tr.prune_is (Eq.mpr (congrArg (fun t => Tr.is t _) (rde_x f (r.length + 1) s2 (frzC (cellsL (y :: r)) 0 3))) (Tr.is_chk.2 ⟨rfl, Tr.is_leaf.2 rfl⟩))
      · exact EndsIn.last (OD_sound hf) mixed noLoops_all (by kernel_rfl) (rdf_x f (r.length + 1) s2 (frzC (cellsL (y :: r)) 0 3)) (tr1 rfl rfl)
end
end Go.Proofs.YtbgiickegljpoaaDoor.K
end
section
open Go Go.Lh
namespace Go.Proofs.YtbgiickegljpoaaDoor.K
noncomputable section
set_option maxRecDepth 100000
theorem c128 : (128#8).toNat = 128 := by decide
theorem c192 : (192#8).toNat = 192 := by decide
theorem o128 : BitVec.ofInt 8 128 = 128#8 := by decide
theorem rd_step {f : Nat} (hf : RdOk f) (h65 : f + 1 ≤ 65) (s : List B) (hs : s.length ≤ most40) :
    LFn Pr 31 [.ptr 0 0, .int .i64 (64 - (f : Int))] [.vals [.str s]] (finR (itF (f + 1) s)).1 (finR (itF (f + 1) s)).2 := by
  refine EndsIn.done (fn := Go.Proofs.Tryd.f31) (by kernel_rfl) (by kernel_rfl) (by kernel_rfl) ?_
  refine EndsIn.cutY (L := noLoopsT) 3 (OD_sound hf) mixed (by kernel_rfl) noLoops_all (by kernel_rfl) (rda_x f (64 - (f : Int)) s) ?_
  refine wp_chk_true.2 (wp_br.2 ⟨fun h => ?_, fun _ => ?_⟩)
  · rw [decide_eq_true (by omega)] at h; cases h
  rw [show nat0 1 = true from nat00 1]
  cases s with
  | nil =>
    refine wp_chk_true.2 (wp_br.2 ⟨fun h => ?_, fun h => wp_leaf.2 ⟨trivial, .inr ⟨_, rfl, .inl rfl⟩⟩⟩)
    have h : (1 : Int).toNat ≤ ([] : List B).length := @of_decide_eq_true _ (Classical.propDecidable _) h
    simp at h
  | cons b r =>
    have e1 : tkS 1 (b :: r) = [b] := by rw [tkS_eq]; rfl
    have e2 : tkR 1 (b :: r) = r := by rw [tkR_eq]; rfl
    rw [e1, e2]
    refine wp_chk_true.2 (wp_br.2 ⟨fun _ => wp_chk.2 ⟨rfl, wp_leaf.2 ⟨clo_nil, .inl ⟨_, _, rfl, ?_⟩⟩⟩, fun h => ?_⟩)
    rotate_left
    · have h := @of_decide_eq_false _ (Classical.propDecidable _) h
      exact absurd (show (1 : Int).toNat ≤ (b :: r).length by show 1 ≤ _; rw [List.length_cons]; omega) h
    have eb : [b].getD 0 (OfNat.ofNat 0) = b := rfl
    rw [eb]
    show EndsIn Pr _ 1 cRd [(0,.ptr 0 0),(1,.int .i64 (64 - (f : Int))),(4,.ptr 1 0),(5,.str [b]),(6,.int .i64 (b.toNat : Int))] [.vals [.str r],.vals [.bool false,.str [],.nilSl]] _ _
    refine EndsIn.cutY (L := noLoopsT) 2 (OD_sound hf) mixed (by kernel_rfl) noLoops_all (by kernel_rfl) (rdc_x f (64 - (f : Int)) b.toNat r [b]) ?_
    have hb : b.toNat < 256 := b.isLt
    rw [List.length_cons, m40] at hs
    have mn : ∀ k p, mnF k r = some p → p.2.length ≤ r.length := by
      intro k p h
      unfold mnF at h
      split at h
      · cases h; exact Nat.le_refl _
      · split at h
        · cases h; simp only [List.length_drop]; omega
        · cases h
    refine wp_chk_true.2 (wp_br.2 ⟨fun h => ?_, fun h => ?_⟩)
    · have h := of_decide_eq_true h
      have hlt : b < 128#8 := by rw [BitVec.lt_def, c128]; omega
      have e : itF (f + 1) (b :: r) = some (.txt [b], r) := by rw [itF, if_pos hlt]
      rw [e]
      exact wp_chk_true.2 (wp_leaf.2 ⟨trivial, .inr ⟨_, rfl, .inl rfl⟩⟩)
    · have h := of_decide_eq_false h
      have hlt : ¬ b < 128#8 := by rw [BitVec.lt_def, c128]; omega
      refine wp_chk_true.2 (wp_br.2 ⟨fun h2 => ?_, fun h2 => ?_⟩)
      · have h2 := of_decide_eq_true h2
        have hlt2 : b < 192#8 := by rw [BitVec.lt_def, c192]; omega
        have ew : wrapI .i64 ((b.toNat : Int) - 128) = ((b.toNat - 128 : Nat) : Int) := by rw [show (b.toNat : Int) - 128 = ((b.toNat - 128 : Nat) : Int) by omega, wrapI_nat (by omega)]
        have eP : mnP ((b.toNat - 128 : Nat) : Int) = true := @decide_eq_true _ (Classical.propDecidable _) ⟨by omega, by omega⟩
        have e : itF (f + 1) (b :: r) = (mnF (b.toNat - 128) r).bind fun p => (tkF p.1 p.2).bind fun q => if q.1.length ≠ 1 ∨ 128#8 ≤ q.1.getD 0 0 ∨ b ≠ 129#8 then some (.txt q.1, q.2) else none := by rw [itF, if_neg hlt, if_pos hlt2]
        rw [ew, eP, e]
        generalize b.toNat - 128 = k
        refine wp_chk_true.2 (wp_br.2 ⟨fun h3 => ?_, fun h3 => ?_⟩)
        · obtain ⟨p, hp⟩ : ∃ p, mnF (k : Int).toNat r = some p := @of_decide_eq_true _ (Classical.propDecidable _) h3
          rw [mnN_eq hp, mnR_eq hp]
          have hp : mnF k r = some p := hp
          rw [hp]
          have hpl := mn _ _ hp
          obtain ⟨m, t⟩ := p
          simp only at hpl ⊢
          rw [show nat0 (m : Int) = true from nat00 m, tkS_eq, tkR_eq, Int.toNat_natCast]
          refine wp_chk_true.2 (wp_br.2 ⟨fun h4 => ?_, fun h4 => ?_⟩)
          · have h4 : m ≤ t.length := @of_decide_eq_true _ (Classical.propDecidable _) h4
            have et : tkF m t = some (t.take m, t.drop m) := if_pos h4
            rw [Option.bind_some, et, Option.bind_some]
            simp only
            generalize t.take m = q1
            generalize t.drop m = q2
            refine wp_chk_true.2 (wp_br.2 ⟨fun h5 => ?_, fun h5 => ?_⟩)
            · have : q1.length ≠ 1 := by
                intro e
                rw [e] at h5
                cases h5
              rw [if_pos (.inl this)]
              exact wp_chk_true.2 (wp_leaf.2 ⟨trivial, .inr ⟨_, rfl, .inl rfl⟩⟩)
            · have h1 : q1.length = 1 := by
                have : (((q1.length : Int) != 1)) = false := h5
                simp at this
                omega
              refine wp_chk.2 ⟨by rw [h1]; decide, wp_br.2 ⟨fun h6 => ?_, fun h6 => ?_⟩⟩
              · have h6 := of_decide_eq_true h6
                rw [o128] at h6
                rw [if_pos (.inr (.inl h6))]
                exact wp_chk_true.2 (wp_leaf.2 ⟨trivial, .inr ⟨_, rfl, .inl rfl⟩⟩)
              · have h6 := of_decide_eq_false h6
                rw [o128] at h6
                refine wp_chk_true.2 (wp_br.2 ⟨fun h7 => ?_, fun h7 => ?_⟩)
                · have : b = 129#8 := by
                    have h8 : (((b.toNat : Int) != 129)) = false := by simpa using h7
                    simp at h8
                    apply BitVec.eq_of_toNat_eq
                    rw [show (129#8).toNat = 129 by decide]
                    omega
                  rw [if_neg (fun h9 => h9.elim (fun h8 => h8 h1) (fun h9 => h9.elim h6 (fun h8 => h8 this)))]
                  exact wp_chk_true.2 (wp_leaf.2 ⟨trivial, .inr ⟨_, rfl, dd1 _⟩⟩)
                · have : b ≠ 129#8 := by
                    rintro rfl
                    revert h7; decide
                  rw [if_pos (.inr (.inr this))]
                  exact wp_chk_true.2 (wp_leaf.2 ⟨trivial, .inr ⟨_, rfl, .inl rfl⟩⟩)
          · have h4 : ¬ m ≤ t.length := @of_decide_eq_false _ (Classical.propDecidable _) h4
            have et : tkF m t = none := if_neg h4
            rw [Option.bind_some, et]
            exact wp_leaf.2 ⟨trivial, .inr ⟨_, rfl, .inl rfl⟩⟩
        · have hp : mnF k r = none := by
            have := @of_decide_eq_false _ (Classical.propDecidable _) h3
            cases h8 : mnF k r with
            | none => rfl
            | some p => exact absurd ⟨p, h8⟩ this
          rw [hp]
          exact wp_leaf.2 ⟨trivial, .inr ⟨_, rfl, .inl rfl⟩⟩
      · have h2 := of_decide_eq_false h2
        have hlt2 : ¬ b < 192#8 := by rw [BitVec.lt_def, c192]; omega
        have ew : wrapI .i64 ((b.toNat : Int) - 192) = ((b.toNat - 192 : Nat) : Int) := by rw [show (b.toNat : Int) - 192 = ((b.toNat - 192 : Nat) : Int) by omega, wrapI_nat (by omega)]
        have eP : mnP ((b.toNat - 192 : Nat) : Int) = true := @decide_eq_true _ (Classical.propDecidable _) ⟨by omega, by omega⟩
        have e : itF (f + 1) (b :: r) = (mnF (b.toNat - 192) r).bind fun p => (tkF p.1 p.2).bind fun q => (manyD (itF f) q.1.length q.1).map fun l => (.lst l, q.2) := by rw [itF, if_neg hlt, if_neg hlt2]
        rw [ew, eP, e]
        generalize b.toNat - 192 = k
        refine wp_chk_true.2 (wp_br.2 ⟨fun h3 => ?_, fun h3 => ?_⟩)
        · obtain ⟨p, hp⟩ : ∃ p, mnF (k : Int).toNat r = some p := @of_decide_eq_true _ (Classical.propDecidable _) h3
          rw [mnN_eq hp, mnR_eq hp]
          have hp : mnF k r = some p := hp
          rw [hp]
          have hpl := mn _ _ hp
          obtain ⟨m, t⟩ := p
          simp only at hpl ⊢
          rw [show nat0 (m : Int) = true from nat00 m, tkS_eq, tkR_eq, Int.toNat_natCast]
          refine wp_chk_true.2 (wp_br.2 ⟨fun h4 => ?_, fun h4 => ?_⟩)
          · have h4 : m ≤ t.length := @of_decide_eq_true _ (Classical.propDecidable _) h4
            have et : tkF m t = some (t.take m, t.drop m) := if_pos h4
            rw [Option.bind_some, et, Option.bind_some]
            refine wp_chk_true.2 (wp_leaf.2 ⟨clo_nil, .inl ⟨_, _, rfl, ?_⟩⟩)
            exact rd_loop hf h65 (t.drop m) (t.take m) (by rw [List.length_take, m40]; omega)
          · have h4 : ¬ m ≤ t.length := @of_decide_eq_false _ (Classical.propDecidable _) h4
            have et : tkF m t = none := if_neg h4
            rw [Option.bind_some, et]
            exact wp_leaf.2 ⟨trivial, .inr ⟨_, rfl, .inl rfl⟩⟩
        · have hp : mnF k r = none := by
            have := @of_decide_eq_false _ (Classical.propDecidable _) h3
            cases h8 : mnF k r with
            | none => rfl
            | some p => exact absurd ⟨p, h8⟩ this
          rw [hp]
          exact wp_leaf.2 ⟨trivial, .inr ⟨_, rfl, .inl rfl⟩⟩
theorem rd_of {f : Nat} (H : ∀ s : List B, f ≤ 65 → s.length ≤ most40 → LFn Pr 31 [.ptr 0 0, .int .i64 (65 - (f : Int))] [.vals [.str s]] (finR (itF f s)).1 (finR (itF f s)).2) : RdOk f := by
  refine ctT_ok (fun a => [.ptr 0 0, .int .i64 a.1]) (fun a => [.vals [.str a.2]]) ?_ (fun a r h => ?_)
  · intro args h a e
    unfold tk_read at e
    split at e <;> cases e <;> exact ⟨rfl, rfl⟩
  · obtain ⟨n, s⟩ := a
    rw [rd_f, Tr.is_chk, Tr.is_br] at h
    obtain ⟨h0, h⟩ := h
    obtain ⟨rfl, h65, hl⟩ : n = 65 - (f : Int) ∧ f ≤ 65 ∧ s.length ≤ most40 := @of_decide_eq_true _ (Classical.propDecidable _) h0
    have HH := H s h65 hl
    simp only at h ⊢
    cases hi : itF f s with
    | none =>
      have : rdO f s = false := @decide_eq_false _ (Classical.propDecidable _) (by rw [hi]; rintro ⟨p, hp⟩; cases hp)
      rw [if_neg (by rw [this]; decide), Tr.is_leaf] at h
      subst h
      rw [hi] at HH
      exact HH
    | some p =>
      have : rdO f s = true := @decide_eq_true _ (Classical.propDecidable _) ⟨p, hi⟩
      rw [if_pos this, Tr.is_leaf, rdI_eq hi, rdR_eq hi] at h
      subst h
      rw [hi] at HH
      exact LFn.wkRet HH (rawI_wk p.1)
theorem rd_all : ∀ f, RdOk f
  | 0 => rd_of fun s _ _ => by
    refine EndsIn.done (fn := Go.Proofs.Tryd.f31) (by kernel_rfl) (by kernel_rfl) (by kernel_rfl) ?_
    refine EndsIn.cutY (L := noLoopsT) 1 O18_sound mixed (by kernel_rfl) noLoops_all (by kernel_rfl) (rd0_x 65 s) ?_
    have e : itF 0 s = none := by cases s <;> rfl
    rw [e]
    refine wp_chk_true.2 (wp_br.2 ⟨fun _ => wp_chk_true.2 (wp_leaf.2 ⟨trivial, .inr ⟨_, rfl, dd1 _⟩⟩), fun h => by cases h⟩)
  | f + 1 => rd_of fun s h65 hl => by
    rw [show 65 - ((f + 1 : Nat) : Int) = 64 - (f : Int) by omega]
    exact rd_step (rd_all f) h65 s hl
end
end Go.Proofs.YtbgiickegljpoaaDoor.K
end
section
open Go Go.Lh
namespace Go.Proofs.YtbgiickegljpoaaDoor.K
noncomputable section
set_option maxRecDepth 100000
def O22 : OrcT := autoT Pr ext (KD 65) [32,14] 3
theorem O22_sound : OrcSound Pr O22.o := autoT_sound mixed ext_ok (KD_ok (rd_all 65)) (by kernel_rfl) 3
theorem dec_x (s : List B) : Tr.prune (Tr.Sh.any.both ((Tr.Sh.any.l.both Tr.Sh.any.r).both Tr.Sh.any.l))
 (execDG Pr O22 noLoopsT (100 : Nat) (1 : Nat) Go.Proofs.Tryd.f17 [V.str s] []) =
 Tr.chk true
 (Tr.br (decide ((↑s.length : Int) > (65536 : Int)))
 (Tr.chk true
 (Tr.leaf
 (Fin.ret
 (V.tup [V.agg [V.bool false, V.str (bytesOf (ByteArray.mk #[])), V.nilSl], V.int IntKind.i64 (3 : Int)]),
 [])))
 (Tr.chk (rdPB (65 : Nat) ((0 : Int), s))
 (Tr.br (rdO (65 : Nat) s)
 (Tr.chk true
 (Tr.br (!rdR (65 : Nat) s == bytesOf (ByteArray.mk #[]))
 (Tr.chk true
 (Tr.leaf
 (Fin.ret
 (V.tup
 [V.agg [V.bool false, V.str (bytesOf (ByteArray.mk #[])), V.nilSl], V.int IntKind.i64 (2 : Int)]),
 [])))
 (Tr.chk true
 (Tr.leaf
 (Fin.ret
 (V.tup
 [V.agg
 [V.bool (rdI (65 : Nat) s).fI.b, V.str (rdI (65 : Nat) s).fI.s,
 V.isl (3 : Nat) (rdI (65 : Nat) s).fI.m (rdI (65 : Nat) s).fI.g],
 V.int IntKind.i64 (0 : Int)]),
 [])))))
 (Tr.chk true
 (Tr.leaf
 (Fin.ret
 (V.tup
 [V.agg [V.bool false, V.str (bytesOf (ByteArray.mk #[])), V.nilSl], V.int IntKind.i64 (2 : Int)]),
 [])))))) := by kernel_rfl
end
end Go.Proofs.YtbgiickegljpoaaDoor.K
end
section
open Go Go.Lh
namespace Go.Proofs.YtbgiickegljpoaaDoor.K
noncomputable section
set_option maxRecDepth 100000
def decF (s : List B) : Option It := if s.length ≤ 65536 then (itF 65 s).bind fun p => if p.2 = [] then some p.1 else none else none
def dcO (s : List B) : Bool := @decide (∃ x, decF s = some x) (Classical.propDecidable _)
def dcI (s : List B) : It := @ite _ True (Classical.propDecidable True) ((decF s).getD (.txt [])) (.txt [])
def dcE (s : List B) : Int := @ite _ (s.length ≤ 65536) (Classical.propDecidable _) 2 3
theorem dcI_eq {s : List B} {x : It} (h : decF s = some x) : dcI s = x := by unfold dcI; rw [if_pos trivial, h]; rfl
def dc_read : List V → Heap → Option (List B) := fun a h => match a, h with
  | [.str s], [] => some s
  | _, _ => none
def dc_f (s : List B) : Tr (Fin × Heap) := .br (dcO s) (.leaf (.ret (.tup [itV (dcI s), .int .i64 0]), [])) (.leaf (.ret (.tup [.agg [.bool false, .str [], .nilSl], .int .i64 (dcE s)]), []))
theorem dc_ok : ∀ args h r, ((ctT dc_read dc_f) args h).is r → LFn Pr 17 args h r.1 r.2 := by
  refine ctT_ok (fun s => [.str s]) (fun _ => []) ?_ (fun s r h => ?_)
  · intro args h a e
    unfold dc_read at e
    split at e <;> cases e <;> exact ⟨rfl, rfl⟩
  · rw [dc_f, Tr.is_br] at h
    refine fnDG O22_sound mixed 1 (by kernel_rfl) (dec_x s) ?_
    have no : decF s = none → r = (.ret (.tup [.agg [.bool false, .str [], .nilSl], .int .i64 (dcE s)]), []) := by
      intro hn
      have : dcO s = false := @decide_eq_false _ (Classical.propDecidable _) (by rw [hn]; rintro ⟨x, hx⟩; cases hx)
      rw [if_neg (by rw [this]; decide), Tr.is_leaf] at h
      exact h.symm
    refine wp_chk_true.2 (wp_br.2 ⟨fun h1 => wp_chk_true.2 (wp_leaf.2 ?_), fun h1 => ?_⟩)
    · have h1 := of_decide_eq_true h1
      rw [no (by unfold decF; rw [if_neg (by omega)])]
      unfold dcE
      rw [if_neg (by omega)]; rfl
    · have h1 := of_decide_eq_false h1
      have hs : s.length ≤ 65536 := by omega
      have e2 : dcE s = 2 := by unfold dcE; rw [if_pos hs]
      have hP : rdPB 65 (0, s) = true := @decide_eq_true _ (Classical.propDecidable _) ⟨(rfl : (0 : Int) = 65 - ((65 : Nat) : Int)), Nat.le_refl _, by simp only; rw [m40]; omega⟩
      rw [hP]
      refine wp_chk_true.2 (wp_br.2 ⟨fun h2 => wp_chk_true.2 (wp_br.2 ⟨fun h3 => wp_chk_true.2 (wp_leaf.2 ?_), fun h3 => wp_chk_true.2 (wp_leaf.2 ?_)⟩), fun h2 => wp_chk_true.2 (wp_leaf.2 ?_)⟩)
      · obtain ⟨⟨x, q⟩, hp⟩ : ∃ p, itF 65 s = some p := @of_decide_eq_true _ (Classical.propDecidable _) h2
        rw [rdR_eq hp] at h3
        rw [no, e2]; · rfl
        have hne : q ≠ [] := by rintro rfl; cases h3
        unfold decF
        rw [if_pos hs, hp, Option.bind_some, if_neg hne]
      · obtain ⟨⟨x, q⟩, hp⟩ : ∃ p, itF 65 s = some p := @of_decide_eq_true _ (Classical.propDecidable _) h2
        rw [rdR_eq hp] at h3
        have hq : q = [] := by cases q with | nil => rfl | cons b q => cases h3
        have hd : decF s = some x := by unfold decF; rw [if_pos hs, hp, Option.bind_some, if_pos hq]
        have : dcO s = true := @decide_eq_true _ (Classical.propDecidable _) ⟨x, hd⟩
        rw [if_pos this, Tr.is_leaf, dcI_eq hd] at h
        rw [← h, rdI_eq hp]; rfl
      · have := @of_decide_eq_false _ (Classical.propDecidable _) h2
        have hn : itF 65 s = none := by
          cases h8 : itF 65 s with
          | none => rfl
          | some p => exact absurd ⟨p, h8⟩ this
        rw [no (by unfold decF; rw [if_pos hs, hn]; rfl), e2]; rfl
def LiA.args (c : Nat → Option Nat) : LiA → List V
  | .l0 => [.nilSl]
  | .l1 .. => [.sl 0 0 3 1 (c 1)]
  | .l1n .. => [.sl 0 0 3 1 (c 1)]
  | .l2 .. => [.sl 0 0 3 2 (c 2)]
def LiA.heap : LiA → Heap
  | .l0 => []
  | .l1 b s m g => [.vals [.bool b, .str s, .isl 3 m g]]
  | .l1n b s => [.vals [.bool b, .str s, .nilSl]]
  | .l2 s t => [.vals [.bool false, .str s, .nilSl, .bool false, .str t, .nilSl]]
end
end Go.Proofs.YtbgiickegljpoaaDoor.K
end
section
open Go Go.Lh
namespace Go.Proofs.YtbgiickegljpoaaDoor.K
noncomputable section
set_option maxRecDepth 100000
theorem tree_is {α : Type} {sh : Tr.Sh} {t : Tr α} {f : Bool} {r : α} (h : Tr.prune sh t = .chk f (.leaf r)) (hf : f = true) : t.is r := Tr.prune_is (by rw [h]; exact Tr.is_chk.2 ⟨hf, Tr.is_leaf.2 rfl⟩)
def O0 : OrcT := autoT Pr ext [] [] 3
theorem O0_sound : OrcSound Pr O0.o := autoT_sound mixed ext_ok KOkT.nil (by kernel_rfl) 3
def putsL : List (BitVec 8 × FuncId) := [(97#8, 22), (110#8, 23), (107#8, 24), (118#8, 25), (115#8, 26), (116#8, 27)]
def takesL : List (BitVec 8 × FuncId) := [(97#8, 33), (110#8, 34), (107#8, 35), (118#8, 36), (115#8, 37), (116#8, 38)]
theorem litEx {d : TypeDesc} {t m : Nat} {ops : List Oper} {es : List (Value × Value)} (h : (litHead d t m ops).map (fun l => l.map (fun e => (e.key, e.val))) = some es) : ∃ l, litHead d t m ops = some l ∧ l.map (fun e => (e.key, e.val)) = es := by
  cases hl : litHead d t m ops with
  | none => rw [hl] at h; cases h
  | some l => rw [hl] at h; exact ⟨l, rfl, by simpa using h⟩
theorem puts_fn : LFn Pr 13 [] [] (.ret (.fmap (.f putsL))) [] := by
  refine EndsIn.done (fn := Go.Proofs.Tryd.f13) (by kernel_rfl) (by kernel_rfl) (by kernel_rfl) ?_
  refine EndsIn.skipC (t := 0) (by kernel_rfl) (by kernel_rfl) rfl ?_
  obtain ⟨es, h1, h2⟩ := litEx (d := .int .u8) (t := 1) (m := 44) (ops := (headOps (tailC (bodyOf Go.Proofs.Tryd.f13))).toList.take 7) (es := (MapK.f putsL).ents) (by kernel_rfl)
  refine EndsIn.lit (T := O0) (fuel := 100) (on := [0]) (kt := 5) (et := 51) (fr3 := [(0, .fmap (.f putsL))]) (h3 := []) 7 O0_sound (by kernel_rfl) (by kernel_rfl) (by kernel_rfl) (by kernel_rfl) h1 h2 (by kernel_rfl) ?_ ?_
  · exact tree_is (sh := .any) (f := true) (by kernel_rfl) rfl
  · exact EndsIn.last (L := noLoopsT) (T := O0) (fuel := 100) (sh := .any) (t := .chk true (.leaf (.ret (.fmap (.f putsL)), []))) O0_sound mixed noLoops_all (by kernel_rfl) (by kernel_rfl) (wp_chk_true.2 (wp_leaf.2 rfl))
theorem takes_fn : LFn Pr 18 [] [] (.ret (.fmap (.f takesL))) [] := by
  refine EndsIn.done (fn := Go.Proofs.Tryd.f18) (by kernel_rfl) (by kernel_rfl) (by kernel_rfl) ?_
  refine EndsIn.skipC (t := 0) (by kernel_rfl) (by kernel_rfl) rfl ?_
  obtain ⟨es, h1, h2⟩ := litEx (d := .int .u8) (t := 1) (m := 58) (ops := (headOps (tailC (bodyOf Go.Proofs.Tryd.f18))).toList.take 7) (es := (MapK.f takesL).ents) (by kernel_rfl)
  refine EndsIn.lit (T := O0) (fuel := 100) (on := [0]) (kt := 5) (et := 61) (fr3 := [(0, .fmap (.f takesL))]) (h3 := []) 7 O0_sound (by kernel_rfl) (by kernel_rfl) (by kernel_rfl) (by kernel_rfl) h1 h2 (by kernel_rfl) ?_ ?_
  · exact tree_is (sh := .any) (f := true) (by kernel_rfl) rfl
  · exact EndsIn.last (L := noLoopsT) (T := O0) (fuel := 100) (sh := .any) (t := .chk true (.leaf (.ret (.fmap (.f takesL)), []))) O0_sound mixed noLoops_all (by kernel_rfl) (by kernel_rfl) (wp_chk_true.2 (wp_leaf.2 rfl))
def n_send : List B := [115#8, 101#8, 110#8, 100#8]
def n_call : List B := [99#8, 97#8, 108#8, 108#8]
def n_mine : List B := [109#8, 105#8, 110#8, 101#8]
def n_warp : List B := [119#8, 97#8, 114#8, 112#8]
def n_auto : List B := [97#8, 117#8, 116#8, 111#8]
def n_balance : List B := [98#8, 97#8, 108#8, 97#8, 110#8, 99#8, 101#8]
def n_nonce : List B := [110#8, 111#8, 110#8, 99#8, 101#8]
def n_code : List B := [99#8, 111#8, 100#8, 101#8]
def n_slot : List B := [115#8, 108#8, 111#8, 116#8]
def n_setbalance : List B := [115#8, 101#8, 116#8, 98#8, 97#8, 108#8, 97#8, 110#8, 99#8, 101#8]
def n_setnonce : List B := [115#8, 101#8, 116#8, 110#8, 111#8, 110#8, 99#8, 101#8]
def n_setcode : List B := [115#8, 101#8, 116#8, 99#8, 111#8, 100#8, 101#8]
def n_setslot : List B := [115#8, 101#8, 116#8, 115#8, 108#8, 111#8, 116#8]
def n_impersonate : List B := [105#8, 109#8, 112#8, 101#8, 114#8, 115#8, 111#8, 110#8, 97#8, 116#8, 101#8]
def n_stop : List B := [115#8, 116#8, 111#8, 112#8]
def n_snapshot : List B := [115#8, 110#8, 97#8, 112#8, 115#8, 104#8, 111#8, 116#8]
def n_revert : List B := [114#8, 101#8, 118#8, 101#8, 114#8, 116#8]
def n_block : List B := [98#8, 108#8, 111#8, 99#8, 107#8]
def n_receipt : List B := [114#8, 101#8, 99#8, 101#8, 105#8, 112#8, 116#8]
def n_logs : List B := [108#8, 111#8, 103#8, 115#8]
def n_dump : List B := [100#8, 117#8, 109#8, 112#8]
def n_load : List B := [108#8, 111#8, 97#8, 100#8]
def fieldsL : List (List B × List B) := [(n_send, [116#8]), (n_call, [116#8]), (n_mine, [110#8]), (n_warp, [110#8]), (n_auto, [110#8]), (n_balance, [97#8]), (n_nonce, [97#8]), (n_code, [97#8]), (n_slot, [97#8, 107#8]), (n_setbalance, [97#8, 118#8]), (n_setnonce, [97#8, 110#8]), (n_setcode, [97#8, 115#8]), (n_setslot, [97#8, 107#8, 118#8]), (n_impersonate, [97#8]), (n_stop, [97#8]), (n_snapshot, []), (n_revert, [110#8]), (n_block, [110#8]), (n_receipt, [115#8]), (n_logs, [97#8, 110#8]), (n_dump, []), (n_load, [115#8])]
theorem fields_fn (s : List B) : LFn Pr 10 [.str s] [] (.ret (.tup [.str (lookS fieldsL s), .bool (hasS fieldsL s)])) [] := by
  refine EndsIn.done (fn := Go.Proofs.Tryd.f10) (by kernel_rfl) (by kernel_rfl) (by kernel_rfl) ?_
  refine EndsIn.cutY (T := O0) (L := noLoopsT) (fuel := 100) (sh := .any) (t := .chk true (.leaf (.inr (.normal, [(0, .str s)], [])))) 0 O0_sound mixed (on := ⟨[0],[],[]⟩) (off := ⟨[],[],[]⟩) (by kernel_rfl) noLoops_all (by kernel_rfl) (by kernel_rfl) ?_
  refine wp_chk_true.2 (wp_leaf.2 ⟨clo_nil, .inl ⟨_, _, rfl, ?_⟩⟩)
  obtain ⟨es, h1, h2⟩ := litEx (d := .string) (t := 7) (m := 62) (ops := (headOps (dropSeq 0 (bodyOf Go.Proofs.Tryd.f10))).toList.take 23) (es := (MapK.s fieldsL).ents) (by kernel_rfl)
  refine EndsIn.lit (T := O0) (fuel := 100) (on := [0,4]) (kt := 9) (et := 9) (fr3 := [(0, .str s),(4, .fmap (.s fieldsL))]) (h3 := []) 23 O0_sound (by kernel_rfl) (by kernel_rfl) (by kernel_rfl) (by kernel_rfl) h1 h2 (by kernel_rfl) ?_ ?_
  · exact tree_is (sh := .any) (f := true) (by kernel_rfl) rfl
  · exact EndsIn.last (L := noLoopsT) (T := O0) (fuel := 100) (sh := .any) (t := .chk true (.leaf (.ret (.tup [.str (lookS fieldsL s), .bool (hasS fieldsL s)]), []))) O0_sound mixed noLoops_all (by kernel_rfl) (by kernel_rfl) (wp_chk_true.2 (wp_leaf.2 rfl))
end
end Go.Proofs.YtbgiickegljpoaaDoor.K
end
section
open Go Go.Lh
namespace Go.Proofs.YtbgiickegljpoaaDoor.K
noncomputable section
set_option maxRecDepth 100000
structure AW where
  a : Nat → List B
  m : Nat → Nat
  w : Nat → Nat → W4
def wF (w : Nat → W4) : Nat → Nat → V := fun i j => match j with
  | 0 => .u64 (w i).a
  | 1 => .u64 (w i).b
  | 2 => .u64 (w i).c
  | _ + 3 => .u64 (w i).d
def aF (q : AW) : Nat → Nat → V := fun i j => match j with
  | 0 => .str (q.a i)
  | _ + 1 => .isl 4 (q.m i) (wF (q.w i))
structure CM where
  nm : List B
  ad : List B
  n : BitVec 64
  k : W4
  v : W4
  s : List B
  tk : Int
  tf : List B
  tt : List B
  tn : BitVec 64
  tg : BitVec 64
  tp : W4
  ti : W4
  tv : W4
  td : List B
  an : Nat
  af : AW
def CM.cs (c : CM) : List V := [.str c.nm, .str c.ad, .u64 c.n, .u64 c.k.a, .u64 c.k.b, .u64 c.k.c, .u64 c.k.d, .u64 c.v.a, .u64 c.v.b, .u64 c.v.c, .u64 c.v.d, .str c.s,
  .int .i64 c.tk, .str c.tf, .str c.tt, .u64 c.tn, .u64 c.tg, .u64 c.tp.a, .u64 c.tp.b, .u64 c.tp.c, .u64 c.tp.d, .u64 c.ti.a, .u64 c.ti.b, .u64 c.ti.c, .u64 c.ti.d, .u64 c.tv.a, .u64 c.tv.b, .u64 c.tv.c, .u64 c.tv.d, .str c.td, .isl 2 c.an (aF c.af)]
def pu_g : List V → Heap → Tr (Fin × Heap) := fun args h => match args, h with
  | [], [] => .leaf (.ret (.fmap (.f putsL)), [])
  | _, _ => .no
theorem pu_ok : ∀ args h r, (pu_g args h).is r → LFn Pr 13 args h r.1 r.2 := by
  intro args h r e
  unfold pu_g at e
  split at e
  · rw [Tr.is_leaf] at e; subst e; exact puts_fn
  · exact (Tr.is_no.1 e).elim
def ta_g : List V → Heap → Tr (Fin × Heap) := fun args h => match args, h with
  | [], [] => .leaf (.ret (.fmap (.f takesL)), [])
  | _, _ => .no
theorem ta_ok : ∀ args h r, (ta_g args h).is r → LFn Pr 18 args h r.1 r.2 := by
  intro args h r e
  unfold ta_g at e
  split at e
  · rw [Tr.is_leaf] at e; subst e; exact takes_fn
  · exact (Tr.is_no.1 e).elim
def fi_g : List V → Heap → Tr (Fin × Heap) := fun args h => match args, h with
  | [.str s], [] => .leaf (.ret (.tup [.str (lookS fieldsL s), .bool (hasS fieldsL s)]), [])
  | _, _ => .no
theorem fi_ok : ∀ args h r, (fi_g args h).is r → LFn Pr 10 args h r.1 r.2 := by
  intro args h r e
  unfold fi_g at e
  split at e
  · rw [Tr.is_leaf] at e; subst e; exact fields_fn _
  · exact (Tr.is_no.1 e).elim
def OBs : OrcT := autoT Pr ext [] [21,40,53,70] 6
theorem OBs_sound : OrcSound Pr OBs.o := autoT_sound mixed ext_ok KOkT.nil (by kernel_rfl) 6
theorem has_x (f : List B) (c : B) : Tr.prune ((Tr.Sh.any.both Tr.Sh.any.l).r.r.r)
 (execBF Pr OBs noLoopsT (100 : Nat) Go.Proofs.Tryd.f20 [V.str [c], V.ptr (0 : Nat) (0 : Nat)] [Blk.vals [V.str f]]) =
 Tr.chk true
 (Tr.br ([c] == f) (Tr.chk true (Tr.leaf (Fin.ret (V.bool true), [Blk.vals [V.str f]])))
 (Tr.chk true (Tr.leaf (Fin.ret (V.bool (decide (idxB f c ≥ (0 : Int)))), [Blk.vals [V.str f]])))) := by kernel_rfl
theorem ba1_x (c : CM) (f : List B) : Tr.prune (Tr.Sh.any)
 (execBYE Pr O0 noLoopsT (100 : Nat) Go.Proofs.Tryd.f12 (1 : Nat)
 (Tell.mk [(0 : Nat), (5 : Nat), (6 : Nat)] [(0 : Nat), (1 : Nat), (2 : Nat)] []) (Tell.mk [] [] [])
 (takeSeq (2 : Nat) (bodyOf Go.Proofs.Tryd.f12)) [((0 : Nat), V.ptr (0 : Nat) (0 : Nat)), ((1 : Nat), V.str f)]
 [Blk.vals c.cs]) =
 Tr.chk true
 (Tr.leaf
 (Sum.inr
 (X.normal,
 [((0 : Nat), V.ptr (0 : Nat) (0 : Nat)), ((5 : Nat), V.fn (20 : Nat) [] [V.ptr (1 : Nat) (0 : Nat)]),
 ((6 : Nat), V.ptr (2 : Nat) (0 : Nat))],
 [Blk.vals
 c.cs,
 Blk.vals [V.str f],
 Blk.vals
 [V.int IntKind.i64 c.tk, V.str c.tf, V.str c.tt, V.u64 c.tn, V.u64 c.tg, V.u64 c.tp.a, V.u64 c.tp.b,
 V.u64 c.tp.c, V.u64 c.tp.d, V.u64 c.ti.a, V.u64 c.ti.b, V.u64 c.ti.c, V.u64 c.ti.d, V.u64 c.tv.a,
 V.u64 c.tv.b, V.u64 c.tv.c, V.u64 c.tv.d, V.str c.td, V.isl (2 : Nat) c.an (aF c.af)]]))) := by kernel_rfl
structure HA where
  f : List B
  c : B
def hasB (f : List B) (c : B) : Bool := if [c] == f then true else decide (idxB f c ≥ (0 : Int))
def has_read : List V → Heap → Option HA := fun args h => match args, h with
  | [.str [c], .ptr 0 0], [.vals [.str f]] => some ⟨f, c⟩
  | _, _ => none
def has_f (a : HA) : Tr (Fin × Heap) := .leaf (.ret (.bool (hasB a.f a.c)), [.vals [.str a.f]])
theorem has_ok : ∀ args h r, ((ctT has_read has_f) args h).is r → LFn Pr 20 args h r.1 r.2 := by
  refine ctT_ok (fun a => [.str [a.c], .ptr 0 0]) (fun a => [.vals [.str a.f]]) ?_ (fun a r h => ?_)
  · intro args h a e
    unfold has_read at e
    split at e <;> cases e <;> exact ⟨rfl, rfl⟩
  · rw [has_f, Tr.is_leaf] at h
    subst h
    refine fnT OBs_sound mixed (by kernel_rfl) LoopsOk.noneT (has_x a.f a.c) ?_
    refine wp_chk_true.2 (wp_br.2 ⟨fun e => wp_chk_true.2 (wp_leaf.2 ?_), fun e => wp_chk_true.2 (wp_leaf.2 ?_)⟩)
    · unfold hasB; rw [if_pos e]
    · unfold hasB; rw [if_neg (by rw [e]; decide)]
def KH : KnownT := [(20, ctT has_read has_f)]
theorem KH_ok : KOkT Pr KH := KOkT.cons (Enters.of (fn := Go.Proofs.Tryd.f20) (by kernel_rfl) (by kernel_rfl)) has_ok KOkT.nil
def OH : OrcT := autoT Pr ext KH [] 3
theorem OH_sound : OrcSound Pr OH.o := autoT_sound mixed ext_ok KH_ok (by kernel_rfl) 3
def CM.tx (c : CM) : List V := c.cs.drop 12
def baC : Code := dropSeq 2 (bodyOf Go.Proofs.Tryd.f12)
theorem ba2_x (c : CM) (f : List B) : Tr.prune (((((((Tr.Sh.any.l.l.l.both Tr.Sh.any.r.r.r).l.l.l.both
 Tr.Sh.any.r.r.r.r.r.r.r).l.l.l.both
 Tr.Sh.any.r.r.r.r.r.r.r.r.r.r.r).l.l.l.both
 Tr.Sh.any.r.r.r.r.r.r.r.r.r.r.r.r.r.r.r).l.l.both
 Tr.Sh.any.r.r.r.r.r.r.r.r.r.r.r.r.r.r.r.r.r.r).l.l.both
 Tr.Sh.any.r.r.r.r.r.r.r.r.r.r.r.r.r.r.r.r.r.r.r.r.r).l.l.l.l.l.l.l.l.both
 Tr.Sh.any.r.r.r.r.r.r.r.r.r.r.r.r.r.r.r.r.r.r.r.r.r.r.r.r.r.r.r.r.r.r)
 (execBYE Pr O0 noLoopsT (100 : Nat) Go.Proofs.Tryd.f12 (1 : Nat)
 (Tell.mk [(0 : Nat), (5 : Nat), (7 : Nat)] [(0 : Nat), (1 : Nat)] []) (Tell.mk [] [] []) (takeSeq (0 : Nat) baC)
 [((0 : Nat), V.ptr (0 : Nat) (0 : Nat)), ((5 : Nat), V.fn (20 : FuncId) [] [V.ptr (1 : Nat) (0 : Nat)]),
 ((6 : Nat), V.ptr (2 : Nat) (0 : Nat))]
 [Blk.vals c.cs, Blk.vals [V.str f], Blk.vals c.tx]) =
 Tr.chk true
 (Tr.br (c.tk == (0 : Int))
 (Tr.chk
 (decide (c.tf.length + c.tt.length ≤ (9223372036854775807 : Nat)) &&
 (decide ((c.tf ++ c.tt).length + c.td.length ≤ (9223372036854775807 : Nat)) && true))
 (Tr.br (c.tf ++ c.tt ++ c.td == bytesOf (ByteArray.mk #[]))
 (Tr.chk true
 (Tr.br (c.tn == BitVec.ofInt (64 : Nat) (0 : Int))
 (Tr.chk true
 (Tr.br (c.tg == BitVec.ofInt (64 : Nat) (0 : Int))
 (Tr.chk true
 (Tr.br
 (c.tp.a == BitVec.ofInt (64 : Nat) (0 : Int) &&
 (c.tp.b == BitVec.ofInt (64 : Nat) (0 : Int) &&
 (c.tp.c == BitVec.ofInt (64 : Nat) (0 : Int) &&
 (c.tp.d == BitVec.ofInt (64 : Nat) (0 : Int) && true))))
 (Tr.chk true
 (Tr.br
 (c.ti.a == BitVec.ofInt (64 : Nat) (0 : Int) &&
 (c.ti.b == BitVec.ofInt (64 : Nat) (0 : Int) &&
 (c.ti.c == BitVec.ofInt (64 : Nat) (0 : Int) &&
 (c.ti.d == BitVec.ofInt (64 : Nat) (0 : Int) && true))))
 (Tr.chk true
 (Tr.br
 (c.tv.a == BitVec.ofInt (64 : Nat) (0 : Int) &&
 (c.tv.b == BitVec.ofInt (64 : Nat) (0 : Int) &&
 (c.tv.c == BitVec.ofInt (64 : Nat) (0 : Int) &&
 (c.tv.d == BitVec.ofInt (64 : Nat) (0 : Int) && true))))
 (Tr.chk true
 (Tr.leaf
 (Sum.inr
 (X.normal,
 [((0 : Nat), V.ptr (0 : Nat) (0 : Nat)),
 ((5 : Nat), V.fn (20 : Nat) [] [V.ptr (1 : Nat) (0 : Nat)]),
 ((7 : Nat), V.bool ((↑c.an : Int) == (0 : Int)))],
 [Blk.vals
 c.cs,
 Blk.vals [V.str f]]))))
 (Tr.chk true
 (Tr.leaf
 (Sum.inr
 (X.normal,
 [((0 : Nat), V.ptr (0 : Nat) (0 : Nat)),
 ((5 : Nat), V.fn (20 : Nat) [] [V.ptr (1 : Nat) (0 : Nat)]),
 ((7 : Nat), V.bool false)],
 [Blk.vals
 c.cs,
 Blk.vals [V.str f]]))))))
 (Tr.chk true
 (Tr.leaf
 (Sum.inr
 (X.normal,
 [((0 : Nat), V.ptr (0 : Nat) (0 : Nat)),
 ((5 : Nat), V.fn (20 : Nat) [] [V.ptr (1 : Nat) (0 : Nat)]),
 ((7 : Nat), V.bool false)],
 [Blk.vals
 c.cs,
 Blk.vals [V.str f]]))))))
 (Tr.chk true
 (Tr.leaf
 (Sum.inr
 (X.normal,
 [((0 : Nat), V.ptr (0 : Nat) (0 : Nat)),
 ((5 : Nat), V.fn (20 : Nat) [] [V.ptr (1 : Nat) (0 : Nat)]), ((7 : Nat), V.bool false)],
 [Blk.vals
 c.cs,
 Blk.vals [V.str f]]))))))
 (Tr.chk true
 (Tr.leaf
 (Sum.inr
 (X.normal,
 [((0 : Nat), V.ptr (0 : Nat) (0 : Nat)),
 ((5 : Nat), V.fn (20 : Nat) [] [V.ptr (1 : Nat) (0 : Nat)]), ((7 : Nat), V.bool false)],
 [Blk.vals
 c.cs,
 Blk.vals [V.str f]]))))))
 (Tr.chk true
 (Tr.leaf
 (Sum.inr
 (X.normal,
 [((0 : Nat), V.ptr (0 : Nat) (0 : Nat)),
 ((5 : Nat), V.fn (20 : Nat) [] [V.ptr (1 : Nat) (0 : Nat)]), ((7 : Nat), V.bool false)],
 [Blk.vals
 c.cs,
 Blk.vals [V.str f]]))))))
 (Tr.chk true
 (Tr.leaf
 (Sum.inr
 (X.normal,
 [((0 : Nat), V.ptr (0 : Nat) (0 : Nat)), ((5 : Nat), V.fn (20 : Nat) [] [V.ptr (1 : Nat) (0 : Nat)]),
 ((7 : Nat), V.bool false)],
 [Blk.vals
 c.cs,
 Blk.vals [V.str f]]))))))
 (Tr.chk true
 (Tr.leaf
 (Sum.inr
 (X.normal,
 [((0 : Nat), V.ptr (0 : Nat) (0 : Nat)), ((5 : Nat), V.fn (20 : Nat) [] [V.ptr (1 : Nat) (0 : Nat)]),
 ((7 : Nat), V.bool false)],
 [Blk.vals
 c.cs,
 Blk.vals [V.str f]]))))) := by kernel_rfl
end
end Go.Proofs.YtbgiickegljpoaaDoor.K
end
section
open Go Go.Lh
namespace Go.Proofs.YtbgiickegljpoaaDoor.K
noncomputable section
set_option maxRecDepth 100000
def f_t : List B := [116#8]
def f_n : List B := [110#8]
def f_a : List B := [97#8]
def f_ak : List B := [97#8, 107#8]
def f_av : List B := [97#8, 118#8]
def f_an : List B := [97#8, 110#8]
def f_as : List B := [97#8, 115#8]
def f_akv : List B := [97#8, 107#8, 118#8]
def f_e : List B := []
def f_s : List B := [115#8]
theorem ba_t_x (c : CM) (b : Bool) : Tr.prune ((((((Tr.Sh.any.l.l.l.l.both Tr.Sh.any.r.r.r).l.r.r.r.r.r.l.l.both
 Tr.Sh.any.r.r.r.r.r.r.r).l.r.r.r.r.r.r.l.l.both
 Tr.Sh.any.r.r.r.r.r.r.r.r.r.r.r).l.r.r.r.r.r.r.l.l.both
 Tr.Sh.any.r.r.r.r.r.r.r.r.r.r.r.r.r.r.r).l.r.r.r.r.r.l.l.both
 Tr.Sh.any.r.r.r.r.r.r.r.r.r.r.r.r.r.r.r.r.r.r.r).r.r.r.r.r)
 (execBR Pr OH noLoopsT (100 : Nat) Go.Proofs.Tryd.f12 (1 : Nat) (dropSeq (0 : Nat) baC)
 [((0 : Nat), V.ptr (0 : Nat) (0 : Nat)), ((5 : Nat), V.fn (20 : FuncId) [] [V.ptr (1 : Nat) (0 : Nat)]),
 ((7 : Nat), V.bool b)]
 [Blk.vals c.cs, Blk.vals [V.str f_t]]) =
 Tr.chk true
 (Tr.br (c.ad == bytesOf (ByteArray.mk #[]))
 (Tr.chk true
 (Tr.br (c.n == BitVec.ofInt (64 : Nat) (0 : Int))
 (Tr.chk true
 (Tr.br
 (c.k.a == BitVec.ofInt (64 : Nat) (0 : Int) &&
 (c.k.b == BitVec.ofInt (64 : Nat) (0 : Int) &&
 (c.k.c == BitVec.ofInt (64 : Nat) (0 : Int) && (c.k.d == BitVec.ofInt (64 : Nat) (0 : Int) && true))))
 (Tr.chk true
 (Tr.br
 (c.v.a == BitVec.ofInt (64 : Nat) (0 : Int) &&
 (c.v.b == BitVec.ofInt (64 : Nat) (0 : Int) &&
 (c.v.c == BitVec.ofInt (64 : Nat) (0 : Int) &&
 (c.v.d == BitVec.ofInt (64 : Nat) (0 : Int) && true))))
 (Tr.chk true
 (Tr.br (c.s == bytesOf (ByteArray.mk #[]))
 (Tr.chk true
 (Tr.leaf
 (Fin.ret (V.bool true),
 [Blk.vals
 c.cs])))
 (Tr.chk true
 (Tr.leaf
 (Fin.ret (V.bool false),
 [Blk.vals
 c.cs])))))
 (Tr.chk true
 (Tr.leaf
 (Fin.ret (V.bool false),
 [Blk.vals
 c.cs])))))
 (Tr.chk true
 (Tr.leaf
 (Fin.ret (V.bool false),
 [Blk.vals
 c.cs])))))
 (Tr.chk true
 (Tr.leaf
 (Fin.ret (V.bool false),
 [Blk.vals
 c.cs])))))
 (Tr.chk true
 (Tr.leaf
 (Fin.ret (V.bool false),
 [Blk.vals
 c.cs])))) := by kernel_rfl
theorem ba_n_x (c : CM) (b : Bool) : Tr.prune (((((Tr.Sh.any.l.r.l.l.both Tr.Sh.any.r.r.r).l.r.r.r.r.r.l.l.both
 Tr.Sh.any.r.r.r.r.r.r.r).l.r.r.r.r.r.r.l.l.both
 Tr.Sh.any.r.r.r.r.r.r.r.r.r.r.r).l.r.r.r.r.r.r.l.l.l.l.l.l.l.l.l.l.l.both
 Tr.Sh.any.r.r.r.r.r.r.r.r.r.r.r.r.r.r.r.r.r.r.r).r.r.r.r.r)
 (execBR Pr OH noLoopsT (100 : Nat) Go.Proofs.Tryd.f12 (1 : Nat) (dropSeq (0 : Nat) baC)
 [((0 : Nat), V.ptr (0 : Nat) (0 : Nat)), ((5 : Nat), V.fn (20 : FuncId) [] [V.ptr (1 : Nat) (0 : Nat)]),
 ((7 : Nat), V.bool b)]
 [Blk.vals c.cs, Blk.vals [V.str f_n]]) =
 Tr.chk true
 (Tr.br (c.ad == bytesOf (ByteArray.mk #[]))
 (Tr.chk true
 (Tr.br
 (c.k.a == BitVec.ofInt (64 : Nat) (0 : Int) &&
 (c.k.b == BitVec.ofInt (64 : Nat) (0 : Int) &&
 (c.k.c == BitVec.ofInt (64 : Nat) (0 : Int) && (c.k.d == BitVec.ofInt (64 : Nat) (0 : Int) && true))))
 (Tr.chk true
 (Tr.br
 (c.v.a == BitVec.ofInt (64 : Nat) (0 : Int) &&
 (c.v.b == BitVec.ofInt (64 : Nat) (0 : Int) &&
 (c.v.c == BitVec.ofInt (64 : Nat) (0 : Int) && (c.v.d == BitVec.ofInt (64 : Nat) (0 : Int) && true))))
 (Tr.chk true
 (Tr.br (c.s == bytesOf (ByteArray.mk #[]))
 (Tr.chk true
 (Tr.leaf
 (Fin.ret (V.bool b),
 [Blk.vals
 c.cs])))
 (Tr.chk true
 (Tr.leaf
 (Fin.ret (V.bool false),
 [Blk.vals
 c.cs])))))
 (Tr.chk true
 (Tr.leaf
 (Fin.ret (V.bool false),
 [Blk.vals
 c.cs])))))
 (Tr.chk true
 (Tr.leaf
 (Fin.ret (V.bool false),
 [Blk.vals
 c.cs])))))
 (Tr.chk true
 (Tr.leaf
 (Fin.ret (V.bool false),
 [Blk.vals
 c.cs])))) := by kernel_rfl
theorem ba_a_x (c : CM) (b : Bool) : Tr.prune (((((Tr.Sh.any.l.r.l.l.both Tr.Sh.any.r.r.r).l.r.r.r.r.r.l.l.both
 Tr.Sh.any.r.r.r.r.r.r.r).l.r.r.r.r.r.r.l.l.both
 Tr.Sh.any.r.r.r.r.r.r.r.r.r.r.r).l.r.r.r.r.r.r.l.l.both
 Tr.Sh.any.r.r.r.r.r.r.r.r.r.r.r.r.r.r.r).l.r.r.r.r.r.l.l.l.l.l.l.l.l)
 (execBR Pr OH noLoopsT (100 : Nat) Go.Proofs.Tryd.f12 (1 : Nat) (dropSeq (0 : Nat) baC)
 [((0 : Nat), V.ptr (0 : Nat) (0 : Nat)), ((5 : Nat), V.fn (20 : FuncId) [] [V.ptr (1 : Nat) (0 : Nat)]),
 ((7 : Nat), V.bool b)]
 [Blk.vals c.cs, Blk.vals [V.str f_a]]) =
 Tr.chk true
 (Tr.br (c.n == BitVec.ofInt (64 : Nat) (0 : Int))
 (Tr.chk true
 (Tr.br
 (c.k.a == BitVec.ofInt (64 : Nat) (0 : Int) &&
 (c.k.b == BitVec.ofInt (64 : Nat) (0 : Int) &&
 (c.k.c == BitVec.ofInt (64 : Nat) (0 : Int) && (c.k.d == BitVec.ofInt (64 : Nat) (0 : Int) && true))))
 (Tr.chk true
 (Tr.br
 (c.v.a == BitVec.ofInt (64 : Nat) (0 : Int) &&
 (c.v.b == BitVec.ofInt (64 : Nat) (0 : Int) &&
 (c.v.c == BitVec.ofInt (64 : Nat) (0 : Int) && (c.v.d == BitVec.ofInt (64 : Nat) (0 : Int) && true))))
 (Tr.chk true
 (Tr.br (c.s == bytesOf (ByteArray.mk #[]))
 (Tr.chk true
 (Tr.leaf
 (Fin.ret (V.bool b),
 [Blk.vals
 c.cs])))
 (Tr.chk true
 (Tr.leaf
 (Fin.ret (V.bool false),
 [Blk.vals
 c.cs])))))
 (Tr.chk true
 (Tr.leaf
 (Fin.ret (V.bool false),
 [Blk.vals
 c.cs])))))
 (Tr.chk true
 (Tr.leaf
 (Fin.ret (V.bool false),
 [Blk.vals
 c.cs])))))
 (Tr.chk true
 (Tr.leaf
 (Fin.ret (V.bool false),
 [Blk.vals
 c.cs])))) := by kernel_rfl
theorem ba_ak_x (c : CM) (b : Bool) : Tr.prune ((((Tr.Sh.any.l.r.l.l.both Tr.Sh.any.r.r.r).l.r.r.r.r.r.l.l.both
 Tr.Sh.any.r.r.r.r.r.r.r).l.r.r.r.r.r.r.l.l.l.l.l.l.l.l.l.l.l.l.both
 Tr.Sh.any.r.r.r.r.r.r.r.r.r.r.r.r.r.r.r).l.r.r.r.r.r.l.l.l.l.l.l.l.l)
 (execBR Pr OH noLoopsT (100 : Nat) Go.Proofs.Tryd.f12 (1 : Nat) (dropSeq (0 : Nat) baC)
 [((0 : Nat), V.ptr (0 : Nat) (0 : Nat)), ((5 : Nat), V.fn (20 : FuncId) [] [V.ptr (1 : Nat) (0 : Nat)]),
 ((7 : Nat), V.bool b)]
 [Blk.vals c.cs, Blk.vals [V.str f_ak]]) =
 Tr.chk true
 (Tr.br (c.n == BitVec.ofInt (64 : Nat) (0 : Int))
 (Tr.chk true
 (Tr.br
 (c.v.a == BitVec.ofInt (64 : Nat) (0 : Int) &&
 (c.v.b == BitVec.ofInt (64 : Nat) (0 : Int) &&
 (c.v.c == BitVec.ofInt (64 : Nat) (0 : Int) && (c.v.d == BitVec.ofInt (64 : Nat) (0 : Int) && true))))
 (Tr.chk true
 (Tr.br (c.s == bytesOf (ByteArray.mk #[]))
 (Tr.chk true
 (Tr.leaf
 (Fin.ret (V.bool b),
 [Blk.vals
 c.cs])))
 (Tr.chk true
 (Tr.leaf
 (Fin.ret (V.bool false),
 [Blk.vals
 c.cs])))))
 (Tr.chk true
 (Tr.leaf
 (Fin.ret (V.bool false),
 [Blk.vals
 c.cs])))))
 (Tr.chk true
 (Tr.leaf
 (Fin.ret (V.bool false),
 [Blk.vals
 c.cs])))) := by kernel_rfl
theorem ba_av_x (c : CM) (b : Bool) : Tr.prune ((((Tr.Sh.any.l.r.l.l.both
 Tr.Sh.any.r.r.r).l.r.r.r.r.r.l.l.l.l.l.l.l.l.l.l.l.l.both
 Tr.Sh.any.r.r.r.r.r.r.r.r.r.r.r).l.r.r.r.r.r.r.l.l.both
 Tr.Sh.any.r.r.r.r.r.r.r.r.r.r.r.r.r.r.r).l.r.r.r.r.r.l.l.l.l.l.l.l.l)
 (execBR Pr OH noLoopsT (100 : Nat) Go.Proofs.Tryd.f12 (1 : Nat) (dropSeq (0 : Nat) baC)
 [((0 : Nat), V.ptr (0 : Nat) (0 : Nat)), ((5 : Nat), V.fn (20 : FuncId) [] [V.ptr (1 : Nat) (0 : Nat)]),
 ((7 : Nat), V.bool b)]
 [Blk.vals c.cs, Blk.vals [V.str f_av]]) =
 Tr.chk true
 (Tr.br (c.n == BitVec.ofInt (64 : Nat) (0 : Int))
 (Tr.chk true
 (Tr.br
 (c.k.a == BitVec.ofInt (64 : Nat) (0 : Int) &&
 (c.k.b == BitVec.ofInt (64 : Nat) (0 : Int) &&
 (c.k.c == BitVec.ofInt (64 : Nat) (0 : Int) && (c.k.d == BitVec.ofInt (64 : Nat) (0 : Int) && true))))
 (Tr.chk true
 (Tr.br (c.s == bytesOf (ByteArray.mk #[]))
 (Tr.chk true
 (Tr.leaf
 (Fin.ret (V.bool b),
 [Blk.vals
 c.cs])))
 (Tr.chk true
 (Tr.leaf
 (Fin.ret (V.bool false),
 [Blk.vals
 c.cs])))))
 (Tr.chk true
 (Tr.leaf
 (Fin.ret (V.bool false),
 [Blk.vals
 c.cs])))))
 (Tr.chk true
 (Tr.leaf
 (Fin.ret (V.bool false),
 [Blk.vals
 c.cs])))) := by kernel_rfl
theorem ba_an_x (c : CM) (b : Bool) : Tr.prune ((((Tr.Sh.any.l.r.l.l.both Tr.Sh.any.r.r.r).l.r.r.r.r.r.l.l.both
 Tr.Sh.any.r.r.r.r.r.r.r).l.r.r.r.r.r.r.l.l.both
 Tr.Sh.any.r.r.r.r.r.r.r.r.r.r.r).l.r.r.r.r.r.r.l.l.l.l.l.l.l.l.l.l.l.l.l.l.l.l.l)
 (execBR Pr OH noLoopsT (100 : Nat) Go.Proofs.Tryd.f12 (1 : Nat) (dropSeq (0 : Nat) baC)
 [((0 : Nat), V.ptr (0 : Nat) (0 : Nat)), ((5 : Nat), V.fn (20 : FuncId) [] [V.ptr (1 : Nat) (0 : Nat)]),
 ((7 : Nat), V.bool b)]
 [Blk.vals c.cs, Blk.vals [V.str f_an]]) =
 Tr.chk true
 (Tr.br
 (c.k.a == BitVec.ofInt (64 : Nat) (0 : Int) &&
 (c.k.b == BitVec.ofInt (64 : Nat) (0 : Int) &&
 (c.k.c == BitVec.ofInt (64 : Nat) (0 : Int) && (c.k.d == BitVec.ofInt (64 : Nat) (0 : Int) && true))))
 (Tr.chk true
 (Tr.br
 (c.v.a == BitVec.ofInt (64 : Nat) (0 : Int) &&
 (c.v.b == BitVec.ofInt (64 : Nat) (0 : Int) &&
 (c.v.c == BitVec.ofInt (64 : Nat) (0 : Int) && (c.v.d == BitVec.ofInt (64 : Nat) (0 : Int) && true))))
 (Tr.chk true
 (Tr.br (c.s == bytesOf (ByteArray.mk #[]))
 (Tr.chk true
 (Tr.leaf
 (Fin.ret (V.bool b),
 [Blk.vals
 c.cs])))
 (Tr.chk true
 (Tr.leaf
 (Fin.ret (V.bool false),
 [Blk.vals
 c.cs])))))
 (Tr.chk true
 (Tr.leaf
 (Fin.ret (V.bool false),
 [Blk.vals
 c.cs])))))
 (Tr.chk true
 (Tr.leaf
 (Fin.ret (V.bool false),
 [Blk.vals
 c.cs])))) := by kernel_rfl
theorem ba_as_x (c : CM) (b : Bool) : Tr.prune ((((Tr.Sh.any.l.r.l.l.l.l.l.l.l.l.l.l.l.both
 Tr.Sh.any.r.r.r.r.r.r.r).l.r.r.r.r.r.r.l.l.both
 Tr.Sh.any.r.r.r.r.r.r.r.r.r.r.r).l.r.r.r.r.r.r.l.l.both
 Tr.Sh.any.r.r.r.r.r.r.r.r.r.r.r.r.r.r.r).l.r.r.r.r.r.l.l.l.l.l.l.l.l)
 (execBR Pr OH noLoopsT (100 : Nat) Go.Proofs.Tryd.f12 (1 : Nat) (dropSeq (0 : Nat) baC)
 [((0 : Nat), V.ptr (0 : Nat) (0 : Nat)), ((5 : Nat), V.fn (20 : FuncId) [] [V.ptr (1 : Nat) (0 : Nat)]),
 ((7 : Nat), V.bool b)]
 [Blk.vals c.cs, Blk.vals [V.str f_as]]) =
 Tr.chk true
 (Tr.br (c.n == BitVec.ofInt (64 : Nat) (0 : Int))
 (Tr.chk true
 (Tr.br
 (c.k.a == BitVec.ofInt (64 : Nat) (0 : Int) &&
 (c.k.b == BitVec.ofInt (64 : Nat) (0 : Int) &&
 (c.k.c == BitVec.ofInt (64 : Nat) (0 : Int) && (c.k.d == BitVec.ofInt (64 : Nat) (0 : Int) && true))))
 (Tr.chk true
 (Tr.br
 (c.v.a == BitVec.ofInt (64 : Nat) (0 : Int) &&
 (c.v.b == BitVec.ofInt (64 : Nat) (0 : Int) &&
 (c.v.c == BitVec.ofInt (64 : Nat) (0 : Int) && (c.v.d == BitVec.ofInt (64 : Nat) (0 : Int) && true))))
 (Tr.chk true
 (Tr.leaf
 (Fin.ret (V.bool b),
 [Blk.vals
 c.cs])))
 (Tr.chk true
 (Tr.leaf
 (Fin.ret (V.bool false),
 [Blk.vals
 c.cs])))))
 (Tr.chk true
 (Tr.leaf
 (Fin.ret (V.bool false),
 [Blk.vals
 c.cs])))))
 (Tr.chk true
 (Tr.leaf
 (Fin.ret (V.bool false),
 [Blk.vals
 c.cs])))) := by kernel_rfl
theorem ba_akv_x (c : CM) (b : Bool) : Tr.prune (((Tr.Sh.any.l.r.l.l.both
 Tr.Sh.any.r.r.r).l.r.r.r.r.r.l.l.l.l.l.l.l.l.l.l.l.l.l.l.l.l.l.l.l.l.l.l.both
 Tr.Sh.any.r.r.r.r.r.r.r.r.r.r.r.r.r.r.r).l.r.r.r.r.r.l.l.l.l.l.l.l.l)
 (execBR Pr OH noLoopsT (100 : Nat) Go.Proofs.Tryd.f12 (1 : Nat) (dropSeq (0 : Nat) baC)
 [((0 : Nat), V.ptr (0 : Nat) (0 : Nat)), ((5 : Nat), V.fn (20 : FuncId) [] [V.ptr (1 : Nat) (0 : Nat)]),
 ((7 : Nat), V.bool b)]
 [Blk.vals c.cs, Blk.vals [V.str f_akv]]) =
 Tr.chk true
 (Tr.br (c.n == BitVec.ofInt (64 : Nat) (0 : Int))
 (Tr.chk true
 (Tr.br (c.s == bytesOf (ByteArray.mk #[]))
 (Tr.chk true
 (Tr.leaf
 (Fin.ret (V.bool b),
 [Blk.vals
 c.cs])))
 (Tr.chk true
 (Tr.leaf
 (Fin.ret (V.bool false),
 [Blk.vals
 c.cs])))))
 (Tr.chk true
 (Tr.leaf
 (Fin.ret (V.bool false),
 [Blk.vals
 c.cs])))) := by kernel_rfl
theorem ba_e_x (c : CM) (b : Bool) : Tr.prune ((((((Tr.Sh.any.l.r.l.l.both Tr.Sh.any.r.r.r).l.r.r.r.r.r.l.l.both
 Tr.Sh.any.r.r.r.r.r.r.r).l.r.r.r.r.r.r.l.l.both
 Tr.Sh.any.r.r.r.r.r.r.r.r.r.r.r).l.r.r.r.r.r.r.l.l.both
 Tr.Sh.any.r.r.r.r.r.r.r.r.r.r.r.r.r.r.r).l.r.r.r.r.r.l.l.both
 Tr.Sh.any.r.r.r.r.r.r.r.r.r.r.r.r.r.r.r.r.r.r.r).r.r.r.r.r)
 (execBR Pr OH noLoopsT (100 : Nat) Go.Proofs.Tryd.f12 (1 : Nat) (dropSeq (0 : Nat) baC)
 [((0 : Nat), V.ptr (0 : Nat) (0 : Nat)), ((5 : Nat), V.fn (20 : FuncId) [] [V.ptr (1 : Nat) (0 : Nat)]),
 ((7 : Nat), V.bool b)]
 [Blk.vals c.cs, Blk.vals [V.str f_e]]) =
 Tr.chk true
 (Tr.br (c.ad == bytesOf (ByteArray.mk #[]))
 (Tr.chk true
 (Tr.br (c.n == BitVec.ofInt (64 : Nat) (0 : Int))
 (Tr.chk true
 (Tr.br
 (c.k.a == BitVec.ofInt (64 : Nat) (0 : Int) &&
 (c.k.b == BitVec.ofInt (64 : Nat) (0 : Int) &&
 (c.k.c == BitVec.ofInt (64 : Nat) (0 : Int) && (c.k.d == BitVec.ofInt (64 : Nat) (0 : Int) && true))))
 (Tr.chk true
 (Tr.br
 (c.v.a == BitVec.ofInt (64 : Nat) (0 : Int) &&
 (c.v.b == BitVec.ofInt (64 : Nat) (0 : Int) &&
 (c.v.c == BitVec.ofInt (64 : Nat) (0 : Int) &&
 (c.v.d == BitVec.ofInt (64 : Nat) (0 : Int) && true))))
 (Tr.chk true
 (Tr.br (c.s == bytesOf (ByteArray.mk #[]))
 (Tr.chk true
 (Tr.leaf
 (Fin.ret (V.bool b),
 [Blk.vals
 c.cs])))
 (Tr.chk true
 (Tr.leaf
 (Fin.ret (V.bool false),
 [Blk.vals
 c.cs])))))
 (Tr.chk true
 (Tr.leaf
 (Fin.ret (V.bool false),
 [Blk.vals
 c.cs])))))
 (Tr.chk true
 (Tr.leaf
 (Fin.ret (V.bool false),
 [Blk.vals
 c.cs])))))
 (Tr.chk true
 (Tr.leaf
 (Fin.ret (V.bool false),
 [Blk.vals
 c.cs])))))
 (Tr.chk true
 (Tr.leaf
 (Fin.ret (V.bool false),
 [Blk.vals
 c.cs])))) := by kernel_rfl
theorem ba_s_x (c : CM) (b : Bool) : Tr.prune (((((Tr.Sh.any.l.r.l.l.l.l.l.l.l.l.l.l.l.both
 Tr.Sh.any.r.r.r.r.r.r.r).l.r.r.r.r.r.r.l.l.both
 Tr.Sh.any.r.r.r.r.r.r.r.r.r.r.r).l.r.r.r.r.r.r.l.l.both
 Tr.Sh.any.r.r.r.r.r.r.r.r.r.r.r.r.r.r.r).l.r.r.r.r.r.l.l.both
 Tr.Sh.any.r.r.r.r.r.r.r.r.r.r.r.r.r.r.r.r.r.r.r).r.r.r.r.r)
 (execBR Pr OH noLoopsT (100 : Nat) Go.Proofs.Tryd.f12 (1 : Nat) (dropSeq (0 : Nat) baC)
 [((0 : Nat), V.ptr (0 : Nat) (0 : Nat)), ((5 : Nat), V.fn (20 : FuncId) [] [V.ptr (1 : Nat) (0 : Nat)]),
 ((7 : Nat), V.bool b)]
 [Blk.vals c.cs, Blk.vals [V.str f_s]]) =
 Tr.chk true
 (Tr.br (c.ad == bytesOf (ByteArray.mk #[]))
 (Tr.chk true
 (Tr.br (c.n == BitVec.ofInt (64 : Nat) (0 : Int))
 (Tr.chk true
 (Tr.br
 (c.k.a == BitVec.ofInt (64 : Nat) (0 : Int) &&
 (c.k.b == BitVec.ofInt (64 : Nat) (0 : Int) &&
 (c.k.c == BitVec.ofInt (64 : Nat) (0 : Int) && (c.k.d == BitVec.ofInt (64 : Nat) (0 : Int) && true))))
 (Tr.chk true
 (Tr.br
 (c.v.a == BitVec.ofInt (64 : Nat) (0 : Int) &&
 (c.v.b == BitVec.ofInt (64 : Nat) (0 : Int) &&
 (c.v.c == BitVec.ofInt (64 : Nat) (0 : Int) &&
 (c.v.d == BitVec.ofInt (64 : Nat) (0 : Int) && true))))
 (Tr.chk true
 (Tr.leaf
 (Fin.ret (V.bool b),
 [Blk.vals
 c.cs])))
 (Tr.chk true
 (Tr.leaf
 (Fin.ret (V.bool false),
 [Blk.vals
 c.cs])))))
 (Tr.chk true
 (Tr.leaf
 (Fin.ret (V.bool false),
 [Blk.vals
 c.cs])))))
 (Tr.chk true
 (Tr.leaf
 (Fin.ret (V.bool false),
 [Blk.vals
 c.cs])))))
 (Tr.chk true
 (Tr.leaf
 (Fin.ret (V.bool false),
 [Blk.vals
 c.cs])))) := by kernel_rfl
end
end Go.Proofs.YtbgiickegljpoaaDoor.K
end
section
open Go Go.Lh
namespace Go.Proofs.YtbgiickegljpoaaDoor.K
noncomputable section
set_option maxRecDepth 100000
def emp (s : List B) : Bool := s == bytesOf (ByteArray.mk #[])
def zn (n : BitVec 64) : Bool := n == BitVec.ofInt 64 0
def zw (w : W4) : Bool := w.a == BitVec.ofInt 64 0 && (w.b == BitVec.ofInt 64 0 && (w.c == BitVec.ofInt 64 0 && (w.d == BitVec.ofInt 64 0 && true)))
def zl (n : Nat) : Bool := (n : Int) == (0 : Int)
def noneB (c : CM) : Bool := (c.tk == (0 : Int)) && (emp (c.tf ++ c.tt ++ c.td) && (zn c.tn && (zn c.tg && (zw c.tp && (zw c.ti && (zw c.tv && zl c.an))))))
def bareB (f : List B) (c : CM) : Bool := (hasB f 97#8 || emp c.ad) && ((hasB f 110#8 || zn c.n) && ((hasB f 107#8 || zw c.k) && ((hasB f 118#8 || zw c.v) && ((hasB f 115#8 || emp c.s) && (hasB f 116#8 || noneB c)))))
def okC (c : CM) : Prop := c.tf.length + c.tt.length + c.td.length ≤ 9223372036854775807 ∧ c.an ≤ most40
theorem bare_of (f : List B) (c : CM) (hc : okC c) (r : Fin) (H : EndsIn Pr Go.Proofs.Tryd.f12 1 (dropSeq 0 baC) [(0,.ptr 0 0),(5,.fn 20 [] [.ptr 1 0]),(7,.bool (noneB c))] [.vals c.cs, .vals [.str f]] r [.vals c.cs]) :
    LFn Pr 12 [.ptr 0 0, .str f] [.vals c.cs] r [.vals c.cs] := by
  refine EndsIn.done (fn := Go.Proofs.Tryd.f12) (by kernel_rfl) (by kernel_rfl) (by kernel_rfl) ?_
  refine EndsIn.cutY (L := noLoopsT) 2 O0_sound mixed (by kernel_rfl) noLoops_all (by kernel_rfl) (ba1_x c f) ?_
  refine wp_chk_true.2 (wp_leaf.2 ⟨clo_nil, .inl ⟨_, _, rfl, ?_⟩⟩)
  refine EndsIn.cutY (L := noLoopsT) 0 O0_sound mixed (by kernel_rfl) noLoops_all (by kernel_rfl) (ba2_x c f) ?_
  have fl : ∀ {b : Bool}, b = noneB c → (fun q : (Fin × Heap) ⊕ (X × Fr × Heap) => CloW ⟨[0,5,7],[0,1],[]⟩ ⟨[],[],[]⟩ q ∧ ((∃ f g, q = .inr (.normal, f, g) ∧ EndsIn Pr Go.Proofs.Tryd.f12 1 (dropSeq 0 baC) f g r [.vals c.cs]) ∨ ∃ g, q = .inl (r, g) ∧ DeadOf g [.vals c.cs]))
      (.inr (.normal, [(0,.ptr 0 0),(5,.fn 20 [] [.ptr 1 0]),(7,.bool b)], [.vals c.cs, .vals [.str f]])) := by
    intro b hb
    subst hb
    exact ⟨clo_nil, .inl ⟨_, _, rfl, H⟩⟩
  have hl : c.tf.length + c.tt.length + c.td.length ≤ 9223372036854775807 := hc.1
  refine wp_chk_true.2 (wp_br.2 ⟨fun e1 => wp_chk.2 ⟨?_, wp_br.2 ⟨fun e2 => wp_chk_true.2 (wp_br.2 ⟨fun e3 => wp_chk_true.2 (wp_br.2 ⟨fun e4 => wp_chk_true.2 (wp_br.2 ⟨fun e5 => wp_chk_true.2 (wp_br.2 ⟨fun e6 => wp_chk_true.2 (wp_br.2 ⟨fun e7 => wp_chk_true.2 (wp_leaf.2 (fl ?_)), fun e7 => wp_chk_true.2 (wp_leaf.2 (fl ?_))⟩), fun e6 => wp_chk_true.2 (wp_leaf.2 (fl ?_))⟩), fun e5 => wp_chk_true.2 (wp_leaf.2 (fl ?_))⟩), fun e4 => wp_chk_true.2 (wp_leaf.2 (fl ?_))⟩), fun e3 => wp_chk_true.2 (wp_leaf.2 (fl ?_))⟩), fun e2 => wp_chk_true.2 (wp_leaf.2 (fl ?_))⟩⟩, fun e1 => wp_chk_true.2 (wp_leaf.2 (fl ?_))⟩)
  · simp only [Bool.and_eq_true, Bool.and_true, decide_eq_true_eq, List.length_append]; omega
  all_goals unfold noneB
  · rw [e1, show emp (c.tf ++ c.tt ++ c.td) = true from e2, show zn c.tn = true from e3, show zn c.tg = true from e4, show zw c.tp = true from e5, show zw c.ti = true from e6, show zw c.tv = true from e7]; rfl
  · rw [e1, show emp (c.tf ++ c.tt ++ c.td) = true from e2, show zn c.tn = true from e3, show zn c.tg = true from e4, show zw c.tp = true from e5, show zw c.ti = true from e6, show zw c.tv = false from e7]; rfl
  · rw [e1, show emp (c.tf ++ c.tt ++ c.td) = true from e2, show zn c.tn = true from e3, show zn c.tg = true from e4, show zw c.tp = true from e5, show zw c.ti = false from e6]; rfl
  · rw [e1, show emp (c.tf ++ c.tt ++ c.td) = true from e2, show zn c.tn = true from e3, show zn c.tg = true from e4, show zw c.tp = false from e5]; rfl
  · rw [e1, show emp (c.tf ++ c.tt ++ c.td) = true from e2, show zn c.tn = true from e3, show zn c.tg = false from e4]; rfl
  · rw [e1, show emp (c.tf ++ c.tt ++ c.td) = true from e2, show zn c.tn = false from e3]; rfl
  · rw [e1, show emp (c.tf ++ c.tt ++ c.td) = false from e2]; rfl
  · rw [e1]; rfl
theorem bareB_t (c : CM) : bareB f_t c = ((emp c.ad) && ((zn c.n) && ((zw c.k) && ((zw c.v) && ((emp c.s) && true))))) := by kernel_rfl
theorem bare_t (c : CM) (hc : okC c) : LFn Pr 12 [.ptr 0 0, .str f_t] [.vals c.cs] (.ret (.bool (bareB f_t c))) [.vals c.cs] := by
  refine bare_of f_t c hc _ ?_
  refine EndsIn.last (L := noLoopsT) OH_sound mixed noLoops_all (by kernel_rfl) (ba_t_x c (noneB c)) ?_
  have fin : ∀ {b : Bool}, b = bareB f_t c → (fun r : Fin × Heap => r = (.ret (.bool (bareB f_t c)), [.vals c.cs])) (.ret (.bool b), [.vals c.cs]) := by intro b hb; subst hb; rfl
  refine wp_chk_true.2 (wp_br.2 ⟨fun e0 => wp_chk_true.2 (wp_br.2 ⟨fun e1 => wp_chk_true.2 (wp_br.2 ⟨fun e2 => wp_chk_true.2 (wp_br.2 ⟨fun e3 => wp_chk_true.2 (wp_br.2 ⟨fun e4 => wp_chk_true.2 (wp_leaf.2 (fin ?_)), fun e4 => wp_chk_true.2 (wp_leaf.2 (fin ?_))⟩), fun e3 => wp_chk_true.2 (wp_leaf.2 (fin ?_))⟩), fun e2 => wp_chk_true.2 (wp_leaf.2 (fin ?_))⟩), fun e1 => wp_chk_true.2 (wp_leaf.2 (fin ?_))⟩), fun e0 => wp_chk_true.2 (wp_leaf.2 (fin ?_))⟩)
  all_goals rw [bareB_t]
  · rw [show (emp c.ad) = true from e0, show (zn c.n) = true from e1, show (zw c.k) = true from e2, show (zw c.v) = true from e3, show (emp c.s) = true from e4]; rfl
  · rw [show (emp c.ad) = true from e0, show (zn c.n) = true from e1, show (zw c.k) = true from e2, show (zw c.v) = true from e3, show (emp c.s) = false from e4]; rfl
  · rw [show (emp c.ad) = true from e0, show (zn c.n) = true from e1, show (zw c.k) = true from e2, show (zw c.v) = false from e3]; rfl
  · rw [show (emp c.ad) = true from e0, show (zn c.n) = true from e1, show (zw c.k) = false from e2]; rfl
  · rw [show (emp c.ad) = true from e0, show (zn c.n) = false from e1]; rfl
  · rw [show (emp c.ad) = false from e0]; rfl
theorem bareB_n (c : CM) : bareB f_n c = ((emp c.ad) && ((zw c.k) && ((zw c.v) && ((emp c.s) && (noneB c))))) := by kernel_rfl
theorem bare_n (c : CM) (hc : okC c) : LFn Pr 12 [.ptr 0 0, .str f_n] [.vals c.cs] (.ret (.bool (bareB f_n c))) [.vals c.cs] := by
  refine bare_of f_n c hc _ ?_
  refine EndsIn.last (L := noLoopsT) OH_sound mixed noLoops_all (by kernel_rfl) (ba_n_x c (noneB c)) ?_
  have fin : ∀ {b : Bool}, b = bareB f_n c → (fun r : Fin × Heap => r = (.ret (.bool (bareB f_n c)), [.vals c.cs])) (.ret (.bool b), [.vals c.cs]) := by intro b hb; subst hb; rfl
  refine wp_chk_true.2 (wp_br.2 ⟨fun e0 => wp_chk_true.2 (wp_br.2 ⟨fun e1 => wp_chk_true.2 (wp_br.2 ⟨fun e2 => wp_chk_true.2 (wp_br.2 ⟨fun e3 => wp_chk_true.2 (wp_leaf.2 (fin ?_)), fun e3 => wp_chk_true.2 (wp_leaf.2 (fin ?_))⟩), fun e2 => wp_chk_true.2 (wp_leaf.2 (fin ?_))⟩), fun e1 => wp_chk_true.2 (wp_leaf.2 (fin ?_))⟩), fun e0 => wp_chk_true.2 (wp_leaf.2 (fin ?_))⟩)
  all_goals rw [bareB_n]
  · rw [show (emp c.ad) = true from e0, show (zw c.k) = true from e1, show (zw c.v) = true from e2, show (emp c.s) = true from e3]; rfl
  · rw [show (emp c.ad) = true from e0, show (zw c.k) = true from e1, show (zw c.v) = true from e2, show (emp c.s) = false from e3]; rfl
  · rw [show (emp c.ad) = true from e0, show (zw c.k) = true from e1, show (zw c.v) = false from e2]; rfl
  · rw [show (emp c.ad) = true from e0, show (zw c.k) = false from e1]; rfl
  · rw [show (emp c.ad) = false from e0]; rfl
theorem bareB_a (c : CM) : bareB f_a c = ((zn c.n) && ((zw c.k) && ((zw c.v) && ((emp c.s) && (noneB c))))) := by kernel_rfl
theorem bare_a (c : CM) (hc : okC c) : LFn Pr 12 [.ptr 0 0, .str f_a] [.vals c.cs] (.ret (.bool (bareB f_a c))) [.vals c.cs] := by
  refine bare_of f_a c hc _ ?_
  refine EndsIn.last (L := noLoopsT) OH_sound mixed noLoops_all (by kernel_rfl) (ba_a_x c (noneB c)) ?_
  have fin : ∀ {b : Bool}, b = bareB f_a c → (fun r : Fin × Heap => r = (.ret (.bool (bareB f_a c)), [.vals c.cs])) (.ret (.bool b), [.vals c.cs]) := by intro b hb; subst hb; rfl
  refine wp_chk_true.2 (wp_br.2 ⟨fun e0 => wp_chk_true.2 (wp_br.2 ⟨fun e1 => wp_chk_true.2 (wp_br.2 ⟨fun e2 => wp_chk_true.2 (wp_br.2 ⟨fun e3 => wp_chk_true.2 (wp_leaf.2 (fin ?_)), fun e3 => wp_chk_true.2 (wp_leaf.2 (fin ?_))⟩), fun e2 => wp_chk_true.2 (wp_leaf.2 (fin ?_))⟩), fun e1 => wp_chk_true.2 (wp_leaf.2 (fin ?_))⟩), fun e0 => wp_chk_true.2 (wp_leaf.2 (fin ?_))⟩)
  all_goals rw [bareB_a]
  · rw [show (zn c.n) = true from e0, show (zw c.k) = true from e1, show (zw c.v) = true from e2, show (emp c.s) = true from e3]; rfl
  · rw [show (zn c.n) = true from e0, show (zw c.k) = true from e1, show (zw c.v) = true from e2, show (emp c.s) = false from e3]; rfl
  · rw [show (zn c.n) = true from e0, show (zw c.k) = true from e1, show (zw c.v) = false from e2]; rfl
  · rw [show (zn c.n) = true from e0, show (zw c.k) = false from e1]; rfl
  · rw [show (zn c.n) = false from e0]; rfl
theorem bareB_ak (c : CM) : bareB f_ak c = ((zn c.n) && ((zw c.v) && ((emp c.s) && (noneB c)))) := by kernel_rfl
theorem bare_ak (c : CM) (hc : okC c) : LFn Pr 12 [.ptr 0 0, .str f_ak] [.vals c.cs] (.ret (.bool (bareB f_ak c))) [.vals c.cs] := by
  refine bare_of f_ak c hc _ ?_
  refine EndsIn.last (L := noLoopsT) OH_sound mixed noLoops_all (by kernel_rfl) (ba_ak_x c (noneB c)) ?_
  have fin : ∀ {b : Bool}, b = bareB f_ak c → (fun r : Fin × Heap => r = (.ret (.bool (bareB f_ak c)), [.vals c.cs])) (.ret (.bool b), [.vals c.cs]) := by intro b hb; subst hb; rfl
  refine wp_chk_true.2 (wp_br.2 ⟨fun e0 => wp_chk_true.2 (wp_br.2 ⟨fun e1 => wp_chk_true.2 (wp_br.2 ⟨fun e2 => wp_chk_true.2 (wp_leaf.2 (fin ?_)), fun e2 => wp_chk_true.2 (wp_leaf.2 (fin ?_))⟩), fun e1 => wp_chk_true.2 (wp_leaf.2 (fin ?_))⟩), fun e0 => wp_chk_true.2 (wp_leaf.2 (fin ?_))⟩)
  all_goals rw [bareB_ak]
  · rw [show (zn c.n) = true from e0, show (zw c.v) = true from e1, show (emp c.s) = true from e2]; rfl
  · rw [show (zn c.n) = true from e0, show (zw c.v) = true from e1, show (emp c.s) = false from e2]; rfl
  · rw [show (zn c.n) = true from e0, show (zw c.v) = false from e1]; rfl
  · rw [show (zn c.n) = false from e0]; rfl
theorem bareB_av (c : CM) : bareB f_av c = ((zn c.n) && ((zw c.k) && ((emp c.s) && (noneB c)))) := by kernel_rfl
theorem bare_av (c : CM) (hc : okC c) : LFn Pr 12 [.ptr 0 0, .str f_av] [.vals c.cs] (.ret (.bool (bareB f_av c))) [.vals c.cs] := by
  refine bare_of f_av c hc _ ?_
  refine EndsIn.last (L := noLoopsT) OH_sound mixed noLoops_all (by kernel_rfl) (ba_av_x c (noneB c)) ?_
  have fin : ∀ {b : Bool}, b = bareB f_av c → (fun r : Fin × Heap => r = (.ret (.bool (bareB f_av c)), [.vals c.cs])) (.ret (.bool b), [.vals c.cs]) := by intro b hb; subst hb; rfl
  refine wp_chk_true.2 (wp_br.2 ⟨fun e0 => wp_chk_true.2 (wp_br.2 ⟨fun e1 => wp_chk_true.2 (wp_br.2 ⟨fun e2 => wp_chk_true.2 (wp_leaf.2 (fin ?_)), fun e2 => wp_chk_true.2 (wp_leaf.2 (fin ?_))⟩), fun e1 => wp_chk_true.2 (wp_leaf.2 (fin ?_))⟩), fun e0 => wp_chk_true.2 (wp_leaf.2 (fin ?_))⟩)
  all_goals rw [bareB_av]
  · rw [show (zn c.n) = true from e0, show (zw c.k) = true from e1, show (emp c.s) = true from e2]; rfl
  · rw [show (zn c.n) = true from e0, show (zw c.k) = true from e1, show (emp c.s) = false from e2]; rfl
  · rw [show (zn c.n) = true from e0, show (zw c.k) = false from e1]; rfl
  · rw [show (zn c.n) = false from e0]; rfl
theorem bareB_an (c : CM) : bareB f_an c = ((zw c.k) && ((zw c.v) && ((emp c.s) && (noneB c)))) := by kernel_rfl
theorem bare_an (c : CM) (hc : okC c) : LFn Pr 12 [.ptr 0 0, .str f_an] [.vals c.cs] (.ret (.bool (bareB f_an c))) [.vals c.cs] := by
  refine bare_of f_an c hc _ ?_
  refine EndsIn.last (L := noLoopsT) OH_sound mixed noLoops_all (by kernel_rfl) (ba_an_x c (noneB c)) ?_
  have fin : ∀ {b : Bool}, b = bareB f_an c → (fun r : Fin × Heap => r = (.ret (.bool (bareB f_an c)), [.vals c.cs])) (.ret (.bool b), [.vals c.cs]) := by intro b hb; subst hb; rfl
  refine wp_chk_true.2 (wp_br.2 ⟨fun e0 => wp_chk_true.2 (wp_br.2 ⟨fun e1 => wp_chk_true.2 (wp_br.2 ⟨fun e2 => wp_chk_true.2 (wp_leaf.2 (fin ?_)), fun e2 => wp_chk_true.2 (wp_leaf.2 (fin ?_))⟩), fun e1 => wp_chk_true.2 (wp_leaf.2 (fin ?_))⟩), fun e0 => wp_chk_true.2 (wp_leaf.2 (fin ?_))⟩)
  all_goals rw [bareB_an]
  · rw [show (zw c.k) = true from e0, show (zw c.v) = true from e1, show (emp c.s) = true from e2]; rfl
  · rw [show (zw c.k) = true from e0, show (zw c.v) = true from e1, show (emp c.s) = false from e2]; rfl
  · rw [show (zw c.k) = true from e0, show (zw c.v) = false from e1]; rfl
  · rw [show (zw c.k) = false from e0]; rfl
theorem bareB_as (c : CM) : bareB f_as c = ((zn c.n) && ((zw c.k) && ((zw c.v) && (noneB c)))) := by kernel_rfl
theorem bare_as (c : CM) (hc : okC c) : LFn Pr 12 [.ptr 0 0, .str f_as] [.vals c.cs] (.ret (.bool (bareB f_as c))) [.vals c.cs] := by
  refine bare_of f_as c hc _ ?_
  refine EndsIn.last (L := noLoopsT) OH_sound mixed noLoops_all (by kernel_rfl) (ba_as_x c (noneB c)) ?_
  have fin : ∀ {b : Bool}, b = bareB f_as c → (fun r : Fin × Heap => r = (.ret (.bool (bareB f_as c)), [.vals c.cs])) (.ret (.bool b), [.vals c.cs]) := by intro b hb; subst hb; rfl
  refine wp_chk_true.2 (wp_br.2 ⟨fun e0 => wp_chk_true.2 (wp_br.2 ⟨fun e1 => wp_chk_true.2 (wp_br.2 ⟨fun e2 => wp_chk_true.2 (wp_leaf.2 (fin ?_)), fun e2 => wp_chk_true.2 (wp_leaf.2 (fin ?_))⟩), fun e1 => wp_chk_true.2 (wp_leaf.2 (fin ?_))⟩), fun e0 => wp_chk_true.2 (wp_leaf.2 (fin ?_))⟩)
  all_goals rw [bareB_as]
  · rw [show (zn c.n) = true from e0, show (zw c.k) = true from e1, show (zw c.v) = true from e2]; rfl
  · rw [show (zn c.n) = true from e0, show (zw c.k) = true from e1, show (zw c.v) = false from e2]; rfl
  · rw [show (zn c.n) = true from e0, show (zw c.k) = false from e1]; rfl
  · rw [show (zn c.n) = false from e0]; rfl
theorem bareB_akv (c : CM) : bareB f_akv c = ((zn c.n) && ((emp c.s) && (noneB c))) := by kernel_rfl
theorem bare_akv (c : CM) (hc : okC c) : LFn Pr 12 [.ptr 0 0, .str f_akv] [.vals c.cs] (.ret (.bool (bareB f_akv c))) [.vals c.cs] := by
  refine bare_of f_akv c hc _ ?_
  refine EndsIn.last (L := noLoopsT) OH_sound mixed noLoops_all (by kernel_rfl) (ba_akv_x c (noneB c)) ?_
  have fin : ∀ {b : Bool}, b = bareB f_akv c → (fun r : Fin × Heap => r = (.ret (.bool (bareB f_akv c)), [.vals c.cs])) (.ret (.bool b), [.vals c.cs]) := by intro b hb; subst hb; rfl
  refine wp_chk_true.2 (wp_br.2 ⟨fun e0 => wp_chk_true.2 (wp_br.2 ⟨fun e1 => wp_chk_true.2 (wp_leaf.2 (fin ?_)), fun e1 => wp_chk_true.2 (wp_leaf.2 (fin ?_))⟩), fun e0 => wp_chk_true.2 (wp_leaf.2 (fin ?_))⟩)
  all_goals rw [bareB_akv]
  · rw [show (zn c.n) = true from e0, show (emp c.s) = true from e1]; rfl
  · rw [show (zn c.n) = true from e0, show (emp c.s) = false from e1]; rfl
  · rw [show (zn c.n) = false from e0]; rfl
theorem bareB_e (c : CM) : bareB f_e c = ((emp c.ad) && ((zn c.n) && ((zw c.k) && ((zw c.v) && ((emp c.s) && (noneB c)))))) := by kernel_rfl
theorem bare_e (c : CM) (hc : okC c) : LFn Pr 12 [.ptr 0 0, .str f_e] [.vals c.cs] (.ret (.bool (bareB f_e c))) [.vals c.cs] := by
  refine bare_of f_e c hc _ ?_
  refine EndsIn.last (L := noLoopsT) OH_sound mixed noLoops_all (by kernel_rfl) (ba_e_x c (noneB c)) ?_
  have fin : ∀ {b : Bool}, b = bareB f_e c → (fun r : Fin × Heap => r = (.ret (.bool (bareB f_e c)), [.vals c.cs])) (.ret (.bool b), [.vals c.cs]) := by intro b hb; subst hb; rfl
  refine wp_chk_true.2 (wp_br.2 ⟨fun e0 => wp_chk_true.2 (wp_br.2 ⟨fun e1 => wp_chk_true.2 (wp_br.2 ⟨fun e2 => wp_chk_true.2 (wp_br.2 ⟨fun e3 => wp_chk_true.2 (wp_br.2 ⟨fun e4 => wp_chk_true.2 (wp_leaf.2 (fin ?_)), fun e4 => wp_chk_true.2 (wp_leaf.2 (fin ?_))⟩), fun e3 => wp_chk_true.2 (wp_leaf.2 (fin ?_))⟩), fun e2 => wp_chk_true.2 (wp_leaf.2 (fin ?_))⟩), fun e1 => wp_chk_true.2 (wp_leaf.2 (fin ?_))⟩), fun e0 => wp_chk_true.2 (wp_leaf.2 (fin ?_))⟩)
  all_goals rw [bareB_e]
  · rw [show (emp c.ad) = true from e0, show (zn c.n) = true from e1, show (zw c.k) = true from e2, show (zw c.v) = true from e3, show (emp c.s) = true from e4]; rfl
  · rw [show (emp c.ad) = true from e0, show (zn c.n) = true from e1, show (zw c.k) = true from e2, show (zw c.v) = true from e3, show (emp c.s) = false from e4]; rfl
  · rw [show (emp c.ad) = true from e0, show (zn c.n) = true from e1, show (zw c.k) = true from e2, show (zw c.v) = false from e3]; rfl
  · rw [show (emp c.ad) = true from e0, show (zn c.n) = true from e1, show (zw c.k) = false from e2]; rfl
  · rw [show (emp c.ad) = true from e0, show (zn c.n) = false from e1]; rfl
  · rw [show (emp c.ad) = false from e0]; rfl
theorem bareB_s (c : CM) : bareB f_s c = ((emp c.ad) && ((zn c.n) && ((zw c.k) && ((zw c.v) && (noneB c))))) := by kernel_rfl
theorem bare_s (c : CM) (hc : okC c) : LFn Pr 12 [.ptr 0 0, .str f_s] [.vals c.cs] (.ret (.bool (bareB f_s c))) [.vals c.cs] := by
  refine bare_of f_s c hc _ ?_
  refine EndsIn.last (L := noLoopsT) OH_sound mixed noLoops_all (by kernel_rfl) (ba_s_x c (noneB c)) ?_
  have fin : ∀ {b : Bool}, b = bareB f_s c → (fun r : Fin × Heap => r = (.ret (.bool (bareB f_s c)), [.vals c.cs])) (.ret (.bool b), [.vals c.cs]) := by intro b hb; subst hb; rfl
  refine wp_chk_true.2 (wp_br.2 ⟨fun e0 => wp_chk_true.2 (wp_br.2 ⟨fun e1 => wp_chk_true.2 (wp_br.2 ⟨fun e2 => wp_chk_true.2 (wp_br.2 ⟨fun e3 => wp_chk_true.2 (wp_leaf.2 (fin ?_)), fun e3 => wp_chk_true.2 (wp_leaf.2 (fin ?_))⟩), fun e2 => wp_chk_true.2 (wp_leaf.2 (fin ?_))⟩), fun e1 => wp_chk_true.2 (wp_leaf.2 (fin ?_))⟩), fun e0 => wp_chk_true.2 (wp_leaf.2 (fin ?_))⟩)
  all_goals rw [bareB_s]
  · rw [show (emp c.ad) = true from e0, show (zn c.n) = true from e1, show (zw c.k) = true from e2, show (zw c.v) = true from e3]; rfl
  · rw [show (emp c.ad) = true from e0, show (zn c.n) = true from e1, show (zw c.k) = true from e2, show (zw c.v) = false from e3]; rfl
  · rw [show (emp c.ad) = true from e0, show (zn c.n) = true from e1, show (zw c.k) = false from e2]; rfl
  · rw [show (emp c.ad) = true from e0, show (zn c.n) = false from e1]; rfl
  · rw [show (emp c.ad) = false from e0]; rfl
end
end Go.Proofs.YtbgiickegljpoaaDoor.K
end
section
open Go Go.Lh
namespace Go.Proofs.YtbgiickegljpoaaDoor.K
noncomputable section
set_option maxRecDepth 100000
def lsh : Nat → Tr.Sh → Tr.Sh
  | 0, s => s
  | n + 1, s => (lsh n s).l
def OTB : OrcT := autoT Pr ext [] [55, 63] 4
theorem OTB_sound : OrcSound Pr OTB.o := autoT_sound mixed ext_ok KOkT.nil (by kernel_rfl) 4
theorem bytes_x (x : W4) : Tr.prune ((lsh 32 Tr.Sh.any.r))
 (execBF Pr OTB noLoopsT (100 : Nat) Go.Proofs.Tryd.f42 [x.v] []) =
 Tr.chk true
 (Tr.leaf
 (Fin.ret
 (V.str
 [BitVec.setWidth (8 : Nat) (x.a >>> (56 : Nat)), BitVec.setWidth (8 : Nat) (x.a >>> (48 : Nat)),
 BitVec.setWidth (8 : Nat) (x.a >>> (40 : Nat)), BitVec.setWidth (8 : Nat) (x.a >>> (32 : Nat)),
 BitVec.setWidth (8 : Nat) (x.a >>> (24 : Nat)), BitVec.setWidth (8 : Nat) (x.a >>> (16 : Nat)),
 BitVec.setWidth (8 : Nat) (x.a >>> (8 : Nat)), BitVec.setWidth (8 : Nat) (x.a >>> (0 : Nat)),
 BitVec.setWidth (8 : Nat) (x.b >>> (56 : Nat)), BitVec.setWidth (8 : Nat) (x.b >>> (48 : Nat)),
 BitVec.setWidth (8 : Nat) (x.b >>> (40 : Nat)), BitVec.setWidth (8 : Nat) (x.b >>> (32 : Nat)),
 BitVec.setWidth (8 : Nat) (x.b >>> (24 : Nat)), BitVec.setWidth (8 : Nat) (x.b >>> (16 : Nat)),
 BitVec.setWidth (8 : Nat) (x.b >>> (8 : Nat)), BitVec.setWidth (8 : Nat) (x.b >>> (0 : Nat)),
 BitVec.setWidth (8 : Nat) (x.c >>> (56 : Nat)), BitVec.setWidth (8 : Nat) (x.c >>> (48 : Nat)),
 BitVec.setWidth (8 : Nat) (x.c >>> (40 : Nat)), BitVec.setWidth (8 : Nat) (x.c >>> (32 : Nat)),
 BitVec.setWidth (8 : Nat) (x.c >>> (24 : Nat)), BitVec.setWidth (8 : Nat) (x.c >>> (16 : Nat)),
 BitVec.setWidth (8 : Nat) (x.c >>> (8 : Nat)), BitVec.setWidth (8 : Nat) (x.c >>> (0 : Nat)),
 BitVec.setWidth (8 : Nat) (x.d >>> (56 : Nat)), BitVec.setWidth (8 : Nat) (x.d >>> (48 : Nat)),
 BitVec.setWidth (8 : Nat) (x.d >>> (40 : Nat)), BitVec.setWidth (8 : Nat) (x.d >>> (32 : Nat)),
 BitVec.setWidth (8 : Nat) (x.d >>> (24 : Nat)), BitVec.setWidth (8 : Nat) (x.d >>> (16 : Nat)),
 BitVec.setWidth (8 : Nat) (x.d >>> (8 : Nat)), BitVec.setWidth (8 : Nat) (x.d >>> (0 : Nat))]),
 [])) := by kernel_rfl
theorem bytes_fn (x : W4) : LFn Pr 42 [x.v] [] (.ret (.str x.bytes)) [] :=
  fnT OTB_sound mixed (by kernel_rfl) LoopsOk.noneT (bytes_x x) (tr1 rfl (by kernel_rfl))
def bytes_g := ctW (fun x => .str x.bytes)
theorem bytes_en : Enters Pr 42 := Enters.of (fn := Go.Proofs.Tryd.f42) (by kernel_rfl) (by kernel_rfl)
structure OfS where
  s : List (BitVec 8)
  w : List (BitVec 64)
  ls : List (BitVec 64)
  m : Int
theorem ofl_x (s : List (BitVec 8)) (w : List (BitVec 64)) (ls : List (BitVec 64)) (m : Int) (i : Nat) : Tr.prune (Tr.Sh.any.both
 Tr.Sh.any)
 (execBN Pr OTB noLoopsT (100 : Nat) (0 : Nat) [(0 : Nat), (2 : Nat), (4 : Nat), (11 : Nat), (12 : Nat)]
 [(2 : Nat), (4 : Nat)] (loopBody Go.Proofs.Tryd.f51 (0 : Nat))
 [((0 : Nat), V.str s), ((2 : Nat), V.ptr (0 : Nat) (0 : Nat)), ((4 : Nat), V.ptr (1 : Nat) (0 : Nat)),
 ((11 : Nat), V.int IntKind.i64 m), ((12 : Nat), V.int IntKind.i64 (↑i : Int))]
 [Blk.b64 w, Blk.b64 ls]) =
 Tr.chk true
 (Tr.br (decide ((↑i : Int) < m))
 (Tr.chk
 (decide ((0 : Int) ≤ wrapI IntKind.i64 ((↑i : Int).tdiv (8 : Int))) &&
 decide (wrapI IntKind.i64 ((↑i : Int).tdiv (8 : Int)) < (4 : Int)) &&
 (decide ((0 : Nat) + (wrapI IntKind.i64 ((↑i : Int).tdiv (8 : Int))).toNat * (1 : Nat) < ls.length) &&
 (decide ((0 : Int) ≤ wrapI IntKind.i64 (wrapI IntKind.i64 ((↑s.length : Int) - (1 : Int)) - (↑i : Int))) &&
 decide
 (wrapI IntKind.i64 (wrapI IntKind.i64 ((↑s.length : Int) - (1 : Int)) - (↑i : Int)) <
 (↑s.length : Int)) &&
 (decide ((0 : Int) ≤ wrapI IntKind.i64 ((↑i : Int).tmod (8 : Int) * (8 : Int))) &&
 (decide ((0 : Int) ≤ wrapI IntKind.i64 ((↑i : Int).tdiv (8 : Int))) &&
 decide (wrapI IntKind.i64 ((↑i : Int).tdiv (8 : Int)) < (4 : Int)) &&
 decide
 ((0 : Nat) + (wrapI IntKind.i64 ((↑i : Int).tdiv (8 : Int))).toNat * (1 : Nat) + (1 : Nat) ≤
 ls.length))))) &&
 true)
 (Tr.leaf
 (X.normal,
 [((0 : Nat), V.str s), ((2 : Nat), V.ptr (0 : Nat) (0 : Nat)), ((4 : Nat), V.ptr (1 : Nat) (0 : Nat)),
 ((11 : Nat), V.int IntKind.i64 m),
 ((12 : Nat), V.int IntKind.i64 (wrapI IntKind.i64 ((↑i : Int) + (1 : Int))))],
 [Blk.b64 w,
 Blk.b64
 (ls.set ((0 : Nat) + (wrapI IntKind.i64 ((↑i : Int).tdiv (8 : Int))).toNat * (1 : Nat))
 (ls.getD ((0 : Nat) + (wrapI IntKind.i64 ((↑i : Int).tdiv (8 : Int))).toNat * (1 : Nat))
 (OfNat.ofNat (0 : Nat)) |||
 BitVec.setWidth (64 : Nat)
 (s.getD (wrapI IntKind.i64 (wrapI IntKind.i64 ((↑s.length : Int) - (1 : Int)) - (↑i : Int))).toNat
 (OfNat.ofNat (0 : Nat))) <<<
 (wrapI IntKind.i64 ((↑i : Int).tmod (8 : Int) * (8 : Int))).toNat))])))
 (Tr.leaf
 (X.exit (0 : Nat), [((2 : Nat), V.ptr (0 : Nat) (0 : Nat)), ((4 : Nat), V.ptr (1 : Nat) (0 : Nat))],
 [Blk.b64 w, Blk.b64 ls]))) := by kernel_rfl
def of_L (a : OfS) (i : Nat) : List (BitVec 64) := if i = 0 then a.ls else W4.ofL a.s i
def of_S (a : OfS) (i : Nat) : Fr × Heap := ([(0,.str a.s),(2,.ptr 0 0),(4,.ptr 1 0),(11,.int .i64 a.m),(12,.int .i64 (i : Nat))], [.b64 a.w, .b64 (of_L a i)])
def of_read : Fr → Heap → Option OfS := fun f h => match f, h with
  | [(0,.str s),(2,.ptr 0 0),(4,.ptr 1 0),(11,.int .i64 m),(12,.int .i64 0)], [.b64 w, .b64 ls] => some ⟨s, w, ls, m⟩
  | _, _ => none
def of_ok (a : OfS) : Bool := decide (a.s.length ≤ 32) && decide (a.m = (a.s.length : Nat)) && decide (a.ls = [0,0,0,0])
def of_E (a : OfS) : Tr (X × Fr × Heap) := .leaf (.exit 0, [(2,.ptr 0 0),(4,.ptr 1 0)], [.b64 a.w, .b64 (W4.ofL a.s a.s.length)])
def of_s : SmT := whT 5 [0,2,4,11,12] of_read of_ok of_E
theorem of_at : SmAtT Pr Go.Proofs.Tryd.f51 0 of_s 0 := by
  refine cntT_x OTB_sound mixed of_S (fun a => a.s.length) (fun a i => ofl_x a.s a.w (of_L a i) a.m i) (by kernel_rfl) (by kernel_rfl) (by kernel_rfl) LoopsOk.noneT ?_ ?_
  · intro f g a h
    unfold of_read at h
    split at h <;> cases h
    rfl
  · rintro ⟨s, w, ls, m⟩ q hok hq i hi
    simp only [of_ok, Bool.and_eq_true, decide_eq_true_eq] at hok
    obtain ⟨⟨h1, rfl⟩, rfl⟩ := hok
    simp only at hi
    rw [of_E, Tr.is_leaf] at hq
    have hL : ∀ j, of_L ⟨s, w, [0,0,0,0], (s.length : Nat)⟩ j = W4.ofL s j := by
      intro j; unfold of_L; split
      · rename_i h; subst h; rfl
      · rfl
    have hl := W4.ofL_length s i
    simp only [wp_chk, wp_leaf, wp_br, hL, decide_eq_true_eq, decide_eq_false_iff_not, true_and]
    refine ⟨fun hlt => ⟨?_, ?_⟩, fun hge => ?_⟩
    · simp (disch := omega) only [tmod_lit, tdiv_lit, mul_lit, add_lit, lit_mul, lit_add, add_nat, mul_nat, sub_lit, lit_sub, sub_nat, wrapI_nat, wrapI_in, Int.toNat_natCast, Nat.mul_one, Nat.zero_add, toNat_lit]
      simp only [Bool.and_eq_true, decide_eq_true_eq]
      (repeat' apply And.intro) <;> first | omega | trivial
    · refine .inl ⟨by omega, ?_⟩
      rw [of_S]
      simp (disch := omega) only [tmod_lit, tdiv_lit, mul_lit, add_lit, lit_mul, lit_add, add_nat, mul_nat, sub_lit, lit_sub, sub_nat, wrapI_nat, wrapI_in, Int.toNat_natCast, Nat.mul_one, Nat.zero_add, toNat_lit, hL, W4.ofL]
    · refine .inr ⟨fun h => (by cases h), ?_⟩
      rw [← hq]
      have : i = s.length := by omega
      rw [this]
theorem of_Ls : LoopsOk Pr Go.Proofs.Tryd.f51 0 (smLT 0 [of_s]).o := LoopsOk.one (by kernel_rfl) of_at
theorem of_x (s : List (BitVec 8)) : Tr.prune (Tr.Sh.any.both Tr.Sh.any)
 (execBF Pr OTB (smLT (0 : Nat) [of_s]) (100 : Nat) Go.Proofs.Tryd.f51 [V.str s] []) =
 Tr.chk true
 (Tr.br (decide ((↑s.length : Int) > (32 : Int)))
 (Tr.chk true
 (Tr.leaf
 (Fin.ret
 (V.tup
 [V.agg
 [V.u64 (BitVec.ofInt (64 : Nat) (0 : Int)), V.u64 (BitVec.ofInt (64 : Nat) (0 : Int)),
 V.u64 (BitVec.ofInt (64 : Nat) (0 : Int)), V.u64 (BitVec.ofInt (64 : Nat) (0 : Int))],
 V.bool false]),
 [])))
 (Tr.chk
 (of_ok
 (OfS.mk s
 [BitVec.ofInt (64 : Nat) (0 : Int), BitVec.ofInt (64 : Nat) (0 : Int), BitVec.ofInt (64 : Nat) (0 : Int),
 BitVec.ofInt (64 : Nat) (0 : Int)]
 [BitVec.ofInt (64 : Nat) (0 : Int), BitVec.ofInt (64 : Nat) (0 : Int), BitVec.ofInt (64 : Nat) (0 : Int),
 BitVec.ofInt (64 : Nat) (0 : Int)]
 (↑s.length : Int)) &&
 (decide ((4 : Nat) ≤ (W4.ofL s s.length).length) && true) &&
 true)
 (Tr.leaf
 (Fin.ret
 (V.tup
 [V.agg
 [V.u64 ((W4.ofL s s.length).getD (3 : Nat) (OfNat.ofNat (0 : Nat))),
 V.u64 ((W4.ofL s s.length).getD (2 : Nat) (OfNat.ofNat (0 : Nat))),
 V.u64 ((W4.ofL s s.length).getD (1 : Nat) (OfNat.ofNat (0 : Nat))),
 V.u64 ((W4.ofL s s.length).getD (0 : Nat) (OfNat.ofNat (0 : Nat)))],
 V.bool true]),
 [])))) := by kernel_rfl
def ofV (s : List (BitVec 8)) : V := .tup [(if s.length ≤ 32 then W4.ofBytes s else W4.zero).v, .bool (decide (s.length ≤ 32))]
theorem of_fn (s : List (BitVec 8)) : LFn Pr 51 [.str s] [] (.ret (ofV s)) [] := by
  refine fnT OTB_sound mixed (by kernel_rfl) of_Ls (of_x s) ?_
  rw [wp_chk_true, wp_br, ofV]
  refine ⟨fun h => ?_, fun h => ?_⟩
  · have h : ¬ s.length ≤ 32 := by have := of_decide_eq_true h; omega
    rw [if_neg h, decide_eq_false h]
    exact tr1 rfl rfl
  · have h : s.length ≤ 32 := by have := of_decide_eq_false h; omega
    rw [if_pos h, decide_eq_true h]
    refine tr1 ?_ rfl
    simp only [of_ok, W4.ofL_length, Bool.and_true, Bool.and_eq_true, decide_eq_true_eq]
    refine ⟨⟨⟨h, ?_⟩, ?_⟩, ?_⟩ <;> first | trivial | rfl | omega
theorem of_en : Enters Pr 51 := Enters.of (fn := Go.Proofs.Tryd.f51) (by kernel_rfl) (by kernel_rfl)
def readS : List V → Heap → Option (List (BitVec 8)) := fun args h => match args, h with
  | [.str s], [] => some s
  | _, _ => none
def ctS (f : List (BitVec 8) → V) : List V → Heap → Tr (Fin × Heap) := ctT readS (fun s => .leaf (.ret (f s), []))
theorem ctS_ok {i : FuncId} {f : List (BitVec 8) → V} (hf : ∀ s, LFn Pr i [.str s] [] (.ret (f s)) []) : ∀ args h r, (ctS f args h).is r → LFn Pr i args h r.1 r.2 := by
  refine ctT_ok (fun s => [.str s]) (fun _ => []) ?_ (fun a r h => ?_)
  · intro args h a e
    unfold readS at e
    split at e <;> cases e
    exact ⟨rfl, rfl⟩
  · rw [Tr.is_leaf] at h; subst h; exact hf a
structure LT where
  xs : List (List B)
  cap : Option Nat
def cellT : List (List B) → List V
  | [] => []
  | x :: r => .bool false :: .str x :: .nilSl :: cellT r
def rowT (xs : List (List B)) : RW := ⟨fun _ => false, fun i => xs.getD i [], fun _ => 0, fun _ _ _ => .any⟩
theorem lt1_x (a : List B) : Tr.prune (Tr.Sh.any)
 (execBF Pr OA noLoopsT (100 : Nat) Go.Proofs.Tryd.f16 [V.sl (0 : Nat) (0 : Nat) (3 : Nat) (1 : Nat) none]
 [Blk.vals [V.bool false, V.str a, V.nilSl]]) =
 Tr.chk true
 (Tr.leaf
 (Fin.ret
 (V.agg [V.bool true, V.str (bytesOf (ByteArray.mk #[])), V.sl (1 : Nat) (0 : Nat) (3 : Nat) (1 : Nat) none]),
 [Blk.vals [V.bool false, V.str a, V.nilSl], Blk.vals [V.bool false, V.str a, V.nilSl]])) := by kernel_rfl
theorem lt1_fn (a : List B) : LFn Pr 16 [.sl 0 0 3 1 none] [.vals (cellT [a])] (.ret (lsV 1 (rowT [a]))) [.vals (cellT [a])] := by
  have h := fnT (f := 16) (fin := .ret (V.agg [V.bool true, V.str [], V.sl 1 0 3 1 none])) (h' := [Blk.vals [V.bool false, V.str a, V.nilSl], Blk.vals [V.bool false, V.str a, V.nilSl]]) OA_sound mixed (by kernel_rfl) LoopsOk.noneT (lt1_x a) (tr1 rfl rfl)
  have h2 := h.frz (i := 1) (r := (.ret (.agg [.bool true, .str [], .isl 3 1 (frzC [V.bool false, V.str a, V.nilSl] 0 3)]), [.vals [V.bool false, V.str a, V.nilSl]])) rfl (by intro v hv; simp at hv; rcases hv with rfl | rfl | rfl <;> rfl) (by kernel_rfl)
  refine LFn.wkRet h2 (wk_ls fun i hi => ?_)
  have : i = 0 := by omega
  rcases this with rfl
  · exact ⟨.refl _, .refl _, .nil _ _⟩
theorem lt2_x (a : List B) (b : List B) : Tr.prune (Tr.Sh.any)
 (execBF Pr OA noLoopsT (100 : Nat) Go.Proofs.Tryd.f16 [V.sl (0 : Nat) (0 : Nat) (3 : Nat) (2 : Nat) none]
 [Blk.vals [V.bool false, V.str a, V.nilSl, V.bool false, V.str b, V.nilSl]]) =
 Tr.chk true
 (Tr.leaf
 (Fin.ret
 (V.agg [V.bool true, V.str (bytesOf (ByteArray.mk #[])), V.sl (1 : Nat) (0 : Nat) (3 : Nat) (2 : Nat) none]),
 [Blk.vals [V.bool false, V.str a, V.nilSl, V.bool false, V.str b, V.nilSl],
 Blk.vals [V.bool false, V.str a, V.nilSl, V.bool false, V.str b, V.nilSl]])) := by kernel_rfl
theorem lt2_fn (a b : List B) : LFn Pr 16 [.sl 0 0 3 2 none] [.vals (cellT [a, b])] (.ret (lsV 2 (rowT [a, b]))) [.vals (cellT [a, b])] := by
  have h := fnT (f := 16) (fin := .ret (V.agg [V.bool true, V.str [], V.sl 1 0 3 2 none])) (h' := [Blk.vals [V.bool false, V.str a, V.nilSl, V.bool false, V.str b, V.nilSl], Blk.vals [V.bool false, V.str a, V.nilSl, V.bool false, V.str b, V.nilSl]]) OA_sound mixed (by kernel_rfl) LoopsOk.noneT (lt2_x a b) (tr1 rfl rfl)
  have h2 := h.frz (i := 1) (r := (.ret (.agg [.bool true, .str [], .isl 3 2 (frzC [V.bool false, V.str a, V.nilSl, V.bool false, V.str b, V.nilSl] 0 3)]), [.vals [V.bool false, V.str a, V.nilSl, V.bool false, V.str b, V.nilSl]])) rfl (by intro v hv; simp at hv; rcases hv with rfl | rfl | rfl | rfl | rfl | rfl <;> rfl) (by kernel_rfl)
  refine LFn.wkRet h2 (wk_ls fun i hi => ?_)
  have : i = 0 ∨ i = 1 := by omega
  rcases this with rfl | rfl
  · exact ⟨.refl _, .refl _, .nil _ _⟩
  · exact ⟨.refl _, .refl _, .nil _ _⟩
theorem lt3_x (a : List B) (b : List B) (c : List B) : Tr.prune (Tr.Sh.any)
 (execBF Pr OA noLoopsT (100 : Nat) Go.Proofs.Tryd.f16 [V.sl (0 : Nat) (0 : Nat) (3 : Nat) (3 : Nat) none]
 [Blk.vals [V.bool false, V.str a, V.nilSl, V.bool false, V.str b, V.nilSl, V.bool false, V.str c, V.nilSl]]) =
 Tr.chk true
 (Tr.leaf
 (Fin.ret
 (V.agg [V.bool true, V.str (bytesOf (ByteArray.mk #[])), V.sl (1 : Nat) (0 : Nat) (3 : Nat) (3 : Nat) none]),
 [Blk.vals [V.bool false, V.str a, V.nilSl, V.bool false, V.str b, V.nilSl, V.bool false, V.str c, V.nilSl],
 Blk.vals
 [V.bool false, V.str a, V.nilSl, V.bool false, V.str b, V.nilSl, V.bool false, V.str c,
 V.nilSl]])) := by kernel_rfl
theorem lt3_fn (a b c : List B) : LFn Pr 16 [.sl 0 0 3 3 none] [.vals (cellT [a, b, c])] (.ret (lsV 3 (rowT [a, b, c]))) [.vals (cellT [a, b, c])] := by
  have h := fnT (f := 16) (fin := .ret (V.agg [V.bool true, V.str [], V.sl 1 0 3 3 none])) (h' := [Blk.vals [V.bool false, V.str a, V.nilSl, V.bool false, V.str b, V.nilSl, V.bool false, V.str c, V.nilSl], Blk.vals [V.bool false, V.str a, V.nilSl, V.bool false, V.str b, V.nilSl, V.bool false, V.str c, V.nilSl]]) OA_sound mixed (by kernel_rfl) LoopsOk.noneT (lt3_x a b c) (tr1 rfl rfl)
  have h2 := h.frz (i := 1) (r := (.ret (.agg [.bool true, .str [], .isl 3 3 (frzC [V.bool false, V.str a, V.nilSl, V.bool false, V.str b, V.nilSl, V.bool false, V.str c, V.nilSl] 0 3)]), [.vals [V.bool false, V.str a, V.nilSl, V.bool false, V.str b, V.nilSl, V.bool false, V.str c, V.nilSl]])) rfl (by intro v hv; simp at hv; rcases hv with rfl | rfl | rfl | rfl | rfl | rfl | rfl | rfl | rfl <;> rfl) (by kernel_rfl)
  refine LFn.wkRet h2 (wk_ls fun i hi => ?_)
  have : i = 0 ∨ i = 1 ∨ i = 2 := by omega
  rcases this with rfl | rfl | rfl
  · exact ⟨.refl _, .refl _, .nil _ _⟩
  · exact ⟨.refl _, .refl _, .nil _ _⟩
  · exact ⟨.refl _, .refl _, .nil _ _⟩
theorem lt4_x (a : List B) (b : List B) (c : List B) (d : List B) : Tr.prune (Tr.Sh.any)
 (execBF Pr OA noLoopsT (100 : Nat) Go.Proofs.Tryd.f16 [V.sl (0 : Nat) (0 : Nat) (3 : Nat) (4 : Nat) none]
 [Blk.vals
 [V.bool false, V.str a, V.nilSl, V.bool false, V.str b, V.nilSl, V.bool false, V.str c, V.nilSl, V.bool false,
 V.str d, V.nilSl]]) =
 Tr.chk true
 (Tr.leaf
 (Fin.ret
 (V.agg [V.bool true, V.str (bytesOf (ByteArray.mk #[])), V.sl (1 : Nat) (0 : Nat) (3 : Nat) (4 : Nat) none]),
 [Blk.vals
 [V.bool false, V.str a, V.nilSl, V.bool false, V.str b, V.nilSl, V.bool false, V.str c, V.nilSl, V.bool false,
 V.str d, V.nilSl],
 Blk.vals
 [V.bool false, V.str a, V.nilSl, V.bool false, V.str b, V.nilSl, V.bool false, V.str c, V.nilSl, V.bool false,
 V.str d, V.nilSl]])) := by kernel_rfl
theorem lt4_fn (a b c d : List B) : LFn Pr 16 [.sl 0 0 3 4 none] [.vals (cellT [a, b, c, d])] (.ret (lsV 4 (rowT [a, b, c, d]))) [.vals (cellT [a, b, c, d])] := by
  have h := fnT (f := 16) (fin := .ret (V.agg [V.bool true, V.str [], V.sl 1 0 3 4 none])) (h' := [Blk.vals [V.bool false, V.str a, V.nilSl, V.bool false, V.str b, V.nilSl, V.bool false, V.str c, V.nilSl, V.bool false, V.str d, V.nilSl], Blk.vals [V.bool false, V.str a, V.nilSl, V.bool false, V.str b, V.nilSl, V.bool false, V.str c, V.nilSl, V.bool false, V.str d, V.nilSl]]) OA_sound mixed (by kernel_rfl) LoopsOk.noneT (lt4_x a b c d) (tr1 rfl rfl)
  have h2 := h.frz (i := 1) (r := (.ret (.agg [.bool true, .str [], .isl 3 4 (frzC [V.bool false, V.str a, V.nilSl, V.bool false, V.str b, V.nilSl, V.bool false, V.str c, V.nilSl, V.bool false, V.str d, V.nilSl] 0 3)]), [.vals [V.bool false, V.str a, V.nilSl, V.bool false, V.str b, V.nilSl, V.bool false, V.str c, V.nilSl, V.bool false, V.str d, V.nilSl]])) rfl (by intro v hv; simp at hv; rcases hv with rfl | rfl | rfl | rfl | rfl | rfl | rfl | rfl | rfl | rfl | rfl | rfl <;> rfl) (by kernel_rfl)
  refine LFn.wkRet h2 (wk_ls fun i hi => ?_)
  have : i = 0 ∨ i = 1 ∨ i = 2 ∨ i = 3 := by omega
  rcases this with rfl | rfl | rfl | rfl
  · exact ⟨.refl _, .refl _, .nil _ _⟩
  · exact ⟨.refl _, .refl _, .nil _ _⟩
  · exact ⟨.refl _, .refl _, .nil _ _⟩
  · exact ⟨.refl _, .refl _, .nil _ _⟩
def lt_read : List V → Heap → Option LT := fun a h => match a, h with
  | [.sl 0 0 3 1 cap], [.vals [.bool false, .str a, .nilSl]] => some ⟨[a], cap⟩
  | [.sl 0 0 3 2 cap], [.vals [.bool false, .str a, .nilSl, .bool false, .str b, .nilSl]] => some ⟨[a, b], cap⟩
  | [.sl 0 0 3 3 cap], [.vals [.bool false, .str a, .nilSl, .bool false, .str b, .nilSl, .bool false, .str c, .nilSl]] => some ⟨[a, b, c], cap⟩
  | [.sl 0 0 3 4 cap], [.vals [.bool false, .str a, .nilSl, .bool false, .str b, .nilSl, .bool false, .str c, .nilSl, .bool false, .str d, .nilSl]] => some ⟨[a, b, c, d], cap⟩
  | _, _ => none
def lt_f (a : LT) : Tr (Fin × Heap) := .leaf (.ret (lsV a.xs.length (rowT a.xs)), [.vals (cellT a.xs)])
theorem sl_none {I : Nat → Prop} {w : World} {ρ : Ren} {i o s n : Nat} {c : Option Nat} {us : List Value} (h : VsRel I w ρ [.sl i o s n c] us) : VsRel I w ρ [.sl i o s n none] us := by
  cases h with
  | cons _ _ u _ r h1 h =>
    refine .cons _ _ _ _ _ ?_ h
    cases h1 with
    | sl _ _ _ _ _ _ c2 l hh h1 h2 h3 => exact .sl _ _ _ _ _ _ c2 l hh h1 h2 (fun n e => by cases e)
    | slz _ _ _ _ _ y l hh h3 => exact .slz _ _ _ _ _ y l hh (fun n e => by cases e)
theorem lt_ok : ∀ args h r, ((ctT lt_read lt_f) args h).is r → LFn Pr 16 args h r.1 r.2 := by
  intro args h r hr
  unfold ctT at hr
  split at hr
  · rename_i a e
    rw [lt_f, Tr.is_leaf] at hr
    subst hr
    unfold lt_read at e
    split at e <;> cases e
    · exact LFn.wkArgs (lt1_fn _) (fun I w ρ us h => sl_none h)
    · exact LFn.wkArgs (lt2_fn _ _) (fun I w ρ us h => sl_none h)
    · exact LFn.wkArgs (lt3_fn _ _ _) (fun I w ρ us h => sl_none h)
    · exact LFn.wkArgs (lt4_fn _ _ _ _) (fun I w ρ us h => sl_none h)
  · exact (Tr.is_no.1 hr).elim
end
end Go.Proofs.YtbgiickegljpoaaDoor.K
end
section
open Go Go.Lh
namespace Go.Proofs.YtbgiickegljpoaaDoor.K
noncomputable section
set_option maxRecDepth 100000
def riB : Code := bodyOf Go.Proofs.Tryd.f56
def riE : X × Fr × Heap → Tr (Fin × Heap) := endT Pr Go.Proofs.Tryd.f56 0
theorem ri0_x (c : CM) : Tr.prune (Tr.Sh.any)
 (execBYF Pr O0 noLoopsT (100 : Nat) (0 : Nat) (Tell.mk [(1 : Nat)] [(0 : Nat)] []) (Tell.mk [] [] []) riE
 (takeSeq (0 : Nat) riB) [((0 : Nat), V.agg c.tx)] []) =
 Tr.chk true
 (Tr.leaf
 (Sum.inr
 (X.normal, [((1 : Nat), V.ptr (0 : Nat) (0 : Nat))],
 [Blk.vals
 c.tx]))) := by kernel_rfl
theorem ri1_x (c : CM) : Tr.prune (Tr.Sh.any)
 (execBYF Pr O0 noLoopsT (100 : Nat) (0 : Nat) (Tell.mk [(1 : Nat), (6 : Nat), (7 : Nat), (8 : Nat)] [(0 : Nat)] [])
 (Tell.mk [] [] []) riE (takeSeq (0 : Nat) (takeSeq (0 : Nat) (dropSeq (0 : Nat) riB)))
 [((1 : Nat), V.ptr (0 : Nat) (0 : Nat))] [Blk.vals c.tx]) =
 Tr.chk true
 (Tr.leaf
 (Sum.inr
 (X.normal,
 [((1 : Nat), V.ptr (0 : Nat) (0 : Nat)), ((6 : Nat), V.isl (2 : Nat) c.an (aF c.af)),
 ((7 : Nat), V.int IntKind.i64 (↑c.an : Int)), ((8 : Nat), V.int IntKind.i64 (0 : Int))],
 [Blk.vals
 c.tx]))) := by kernel_rfl
theorem ri2_x (c : CM) (i : Nat) : Tr.prune ((Tr.Sh.any.l.l.l.l.both (Tr.Sh.any.both Tr.Sh.any).r.r.r).both
 Tr.Sh.any)
 (execBYF Pr O0 noLoopsT (100 : Nat) (0 : Nat) (Tell.mk [(1 : Nat), (6 : Nat), (7 : Nat), (8 : Nat)] [(0 : Nat)] [])
 (Tell.mk [(1 : Nat)] [(0 : Nat)] []) riE (loopBody Go.Proofs.Tryd.f56 (0 : Nat))
 [((1 : Nat), V.ptr (0 : Nat) (0 : Nat)), ((6 : Nat), V.isl (2 : Nat) c.an (aF c.af)),
 ((7 : Nat), V.int IntKind.i64 (↑c.an : Int)), ((8 : Nat), V.int IntKind.i64 (↑i : Int))]
 [Blk.vals c.tx]) =
 Tr.chk true
 (Tr.br (decide ((↑i : Int) < (↑c.an : Int)))
 (Tr.chk (decide ((↑i : Int) < (↑c.an : Int)) && (decide (i < c.an) && true && true) && true)
 (Tr.br ((↑(c.af.a i).length : Int) != (20 : Int)) (Tr.chk true (Tr.leaf (Sum.inl (Fin.ret (V.bool false), []))))
 (Tr.chk true
 (Tr.br (decide ((↑(c.af.m i) : Int) > (64 : Int)))
 (Tr.chk true (Tr.leaf (Sum.inl (Fin.ret (V.bool false), []))))
 (Tr.chk true
 (Tr.leaf
 (Sum.inr
 (X.normal,
 [((1 : Nat), V.ptr (0 : Nat) (0 : Nat)), ((6 : Nat), V.isl (2 : Nat) c.an (aF c.af)),
 ((7 : Nat), V.int IntKind.i64 (↑c.an : Int)),
 ((8 : Nat), V.int IntKind.i64 (wrapI IntKind.i64 ((↑i : Int) + (1 : Int))))],
 [Blk.vals
 c.tx]))))))))
 (Tr.leaf
 (Sum.inr
 (X.exit (0 : Nat), [((1 : Nat), V.ptr (0 : Nat) (0 : Nat))],
 [Blk.vals
 c.tx])))) := by kernel_rfl
theorem ri3_x (c : CM) : Tr.prune (Tr.Sh.any.l.l.l.l.both
 (Tr.Sh.any.l.both
 (Tr.Sh.any.l.both
 ((Tr.Sh.any.both (Tr.Sh.any.both Tr.Sh.any)).l.l.l.both (Tr.Sh.any.both Tr.Sh.any).r.r.r.r))).r.r)
 (execBYF Pr O0 noLoopsT (100 : Nat) (0 : Nat) (Tell.mk [(1 : Nat)] [(0 : Nat)] [])
 (Tell.mk [(1 : Nat)] [(0 : Nat)] []) riE (takeSeq (0 : Nat) (dropSeq (1 : Nat) riB))
 [((1 : Nat), V.ptr (0 : Nat) (0 : Nat))] [Blk.vals c.tx]) =
 Tr.chk true
 (Tr.br (decide (c.tk < (0 : Int))) (Tr.chk true (Tr.leaf (Sum.inl (Fin.ret (V.bool false), []))))
 (Tr.chk true
 (Tr.br (decide (c.tk > (2 : Int))) (Tr.chk true (Tr.leaf (Sum.inl (Fin.ret (V.bool false), []))))
 (Tr.chk true
 (Tr.br ((↑c.tf.length : Int) != (20 : Int)) (Tr.chk true (Tr.leaf (Sum.inl (Fin.ret (V.bool false), []))))
 (Tr.chk true
 (Tr.br (!c.tt == bytesOf (ByteArray.mk #[]))
 (Tr.chk true
 (Tr.br ((↑c.tt.length : Int) != (20 : Int))
 (Tr.chk true (Tr.leaf (Sum.inl (Fin.ret (V.bool false), []))))
 (Tr.chk true
 (Tr.br (decide ((↑c.td.length : Int) > (32768 : Int)))
 (Tr.chk true (Tr.leaf (Sum.inl (Fin.ret (V.bool false), []))))
 (Tr.leaf
 (Sum.inr
 (X.normal, [((1 : Nat), V.ptr (0 : Nat) (0 : Nat))],
 [Blk.vals
 c.tx])))))))
 (Tr.chk true
 (Tr.br (decide ((↑c.td.length : Int) > (32768 : Int)))
 (Tr.chk true (Tr.leaf (Sum.inl (Fin.ret (V.bool false), []))))
 (Tr.leaf
 (Sum.inr
 (X.normal, [((1 : Nat), V.ptr (0 : Nat) (0 : Nat))],
 [Blk.vals
 c.tx])))))))))))) := by kernel_rfl
theorem ri4_x (c : CM) : Tr.prune (((Tr.Sh.any.l.l.l.l.both Tr.Sh.any.l.r.r.r).l.l.l.both
 Tr.Sh.any.r.r.r.r).l.l.l.l.l.l.l.both
 (((Tr.Sh.any.l.l.l.l.both Tr.Sh.any.l.r.r.r).l.l.l.both Tr.Sh.any.r.r.r.r).l.l.l.both
 Tr.Sh.any.r.r.r.r.r.r.r.r).r.r.r)
 (execBYF Pr O0 noLoopsT (100 : Nat) (0 : Nat) (Tell.mk [(1 : Nat)] [(0 : Nat)] [])
 (Tell.mk [(1 : Nat)] [(0 : Nat)] []) riE (dropSeq (2 : Nat) riB) [((1 : Nat), V.ptr (0 : Nat) (0 : Nat))]
 [Blk.vals c.tx]) =
 Tr.chk true
 (Tr.br (c.tk != (0 : Int))
 (Tr.chk true
 (Tr.br (decide ((↑c.an : Int) ≤ (64 : Int)))
 (Tr.chk true
 (Tr.br (c.tk == (2 : Int)) (Tr.chk true (Tr.leaf (Sum.inl (Fin.ret (V.bool true), []))))
 (Tr.chk true
 (Tr.leaf
 (Sum.inl
 (Fin.ret
 (V.bool
 (c.ti.a == BitVec.ofInt (64 : Nat) (0 : Int) &&
 (c.ti.b == BitVec.ofInt (64 : Nat) (0 : Int) &&
 (c.ti.c == BitVec.ofInt (64 : Nat) (0 : Int) &&
 (c.ti.d == BitVec.ofInt (64 : Nat) (0 : Int) && true))))),
 []))))))
 (Tr.chk true (Tr.leaf (Sum.inl (Fin.ret (V.bool false), []))))))
 (Tr.chk true
 (Tr.br ((↑c.an : Int) == (0 : Int))
 (Tr.chk true
 (Tr.br (decide ((↑c.an : Int) ≤ (64 : Int)))
 (Tr.chk true
 (Tr.br (c.tk == (2 : Int)) (Tr.chk true (Tr.leaf (Sum.inl (Fin.ret (V.bool true), []))))
 (Tr.chk true
 (Tr.leaf
 (Sum.inl
 (Fin.ret
 (V.bool
 (c.ti.a == BitVec.ofInt (64 : Nat) (0 : Int) &&
 (c.ti.b == BitVec.ofInt (64 : Nat) (0 : Int) &&
 (c.ti.c == BitVec.ofInt (64 : Nat) (0 : Int) &&
 (c.ti.d == BitVec.ofInt (64 : Nat) (0 : Int) && true))))),
 []))))))
 (Tr.chk true (Tr.leaf (Sum.inl (Fin.ret (V.bool false), []))))))
 (Tr.chk true (Tr.leaf (Sum.inl (Fin.ret (V.bool false), []))))))) := by kernel_rfl
end
end Go.Proofs.YtbgiickegljpoaaDoor.K
end
section
open Go Go.Lh
namespace Go.Proofs.YtbgiickegljpoaaDoor.K
noncomputable section
set_option maxRecDepth 100000
def rgtP (c : CM) : Prop := (∀ i, i < c.an → (c.af.a i).length = 20 ∧ c.af.m i ≤ 64) ∧ (0 ≤ c.tk ∧ c.tk ≤ 2 ∧ c.tf.length = 20 ∧ (c.tt = [] ∨ c.tt.length = 20) ∧ c.td.length ≤ 32768) ∧ (c.tk ≠ 0 ∨ c.an = 0) ∧ c.an ≤ 64 ∧ (c.tk = 2 ∨ zw c.ti = true)
def rgtB (c : CM) : Bool := @decide (rgtP c) (Classical.propDecidable _)
theorem rgtB_t {c : CM} (h : rgtP c) : rgtB c = true := @decide_eq_true _ (Classical.propDecidable _) h
theorem rgtB_f {c : CM} (h : ¬ rgtP c) : rgtB c = false := @decide_eq_false _ (Classical.propDecidable _) h
theorem rgtB_iff {c : CM} : rgtB c = true ↔ rgtP c := ⟨@of_decide_eq_true _ (Classical.propDecidable _), rgtB_t⟩
def ri_S (c : CM) (i : Nat) : Fr × Heap := ([(1,.ptr 0 0),(6,.isl 2 c.an (aF c.af)),(7,.int .i64 c.an),(8,.int .i64 i)], [.vals c.tx])
theorem right_fn (c : CM) (ha : c.an ≤ most40) : LFn Pr 56 [.agg c.tx] [] (.ret (.bool (rgtB c))) [] := by
  rw [m40] at ha
  refine fnR (r := (.ret (.bool (rgtB c)), [])) (fn := Go.Proofs.Tryd.f56) (by kernel_rfl) (by kernel_rfl) (by kernel_rfl) ?_
  have yes : rgtP c → (Sum.inl (Fin.ret (V.bool true), []) : (Fin × Heap) ⊕ (X × Fr × Heap)) = .inl (.ret (.bool (rgtB c)), []) := fun h => by rw [rgtB_t h]
  have no : ¬ rgtP c → (Sum.inl (Fin.ret (V.bool false), []) : (Fin × Heap) ⊕ (X × Fr × Heap)) = .inl (.ret (.bool (rgtB c)), []) := fun h => by rw [rgtB_f h]
  refine Runs.cutF (L := noLoopsT) 0 O0_sound mixed (by kernel_rfl) noLoops_all (by kernel_rfl) Loose.fin Carries.rfl (ri0_x c) ?_
  refine wp_chk_true.2 (wp_leaf.2 ⟨clo_nil, .inl ⟨_, _, rfl, ?_⟩⟩)
  have e : dropSeq 0 (bodyOf Go.Proofs.Tryd.f56) = .seq (takeSeq 0 (dropSeq 0 riB)) (dropSeq 1 riB) := by kernel_rfl
  rw [e]
  refine Runs.seqT ?_
  refine Runs.cutF (L := noLoopsT) 0 O0_sound mixed (by kernel_rfl) noLoops_all (by kernel_rfl) (Loose.seq Loose.fin) (Carries.seq Carries.rfl) (ri1_x c) ?_
  refine wp_chk_true.2 (wp_leaf.2 ⟨clo_nil, .inl ⟨_, _, rfl, ?_⟩⟩)
  have e : dropSeq 0 (takeSeq 0 (dropSeq 0 riB)) = .block 0 (.loop (Go.Lh.loopBody Go.Proofs.Tryd.f56 0)) := by kernel_rfl
  rw [e]
  refine Runs.loopT (ri_S c) (fun i => c.an - i) (fun i => i ≤ c.an ∧ ∀ k, k < i → (c.af.a k).length = 20 ∧ c.af.m k ≤ 64) ?_ (a0 := 0) ⟨Nat.zero_le _, fun k hk => absurd hk (Nat.not_lt_zero _)⟩
  rintro i ⟨hi, hall⟩
  refine Runs.lastF (L := noLoopsT) O0_sound mixed noLoops_all (by kernel_rfl) (Loose.rnd (Loose.seq Loose.fin)) (Carries.rnd (Carries.seq Carries.rfl)) (ri2_x c i) ?_
  refine wp_chk_true.2 (wp_br.2 ⟨fun h => ?_, fun h => wp_leaf.2 ⟨clo_nil, .inr (.inl ⟨_, _, _, rfl, .inr (.inl ⟨rfl, ?_⟩)⟩)⟩⟩)
  · have h := of_decide_eq_true h
    have hlt : i < c.an := by omega
    refine wp_chk.2 ⟨?_, wp_br.2 ⟨fun h1 => wp_chk_true.2 (wp_leaf.2 ⟨trivial, .inr (.inr (no ?_))⟩), fun h1 => wp_chk_true.2 (wp_br.2 ⟨fun h2 => wp_chk_true.2 (wp_leaf.2 ⟨trivial, .inr (.inr (no ?_))⟩), fun h2 => wp_chk_true.2 (wp_leaf.2 ⟨clo_nil, .inl ⟨_, _, rfl, .inl ⟨rfl, i + 1, ⟨by omega, ?_⟩, by show c.an - (i + 1) < c.an - i; omega, ?_⟩⟩⟩)⟩)⟩⟩
    · rw [decide_eq_true (show (i : Int) < (c.an : Int) by omega), decide_eq_true hlt]; rfl
    · intro hp
      have := (hp.1 i hlt).1
      simp at h1; omega
    · intro hp
      have := (hp.1 i hlt).2
      have h2 := of_decide_eq_true h2
      omega
    · intro k hk
      rcases Nat.lt_or_ge k i with h9 | h9
      · exact hall k h9
      · have : k = i := by omega
        subst this
        have h2 := of_decide_eq_false h2
        simp at h1
        exact ⟨by omega, by omega⟩
    · rw [show ((i : Int) + 1) = ((i + 1 : Nat) : Int) by omega, wrapI_nat (by omega)]
      exact .refl
  · have h := of_decide_eq_false h
    have hall : ∀ k, k < c.an → (c.af.a k).length = 20 ∧ c.af.m k ≤ 64 := fun k hk => hall k (by omega)
    show Runs Pr _ _ (dropSeq 1 riB) _ _ _
    refine Runs.cutF (L := noLoopsT) 0 O0_sound mixed (by kernel_rfl) noLoops_all (by kernel_rfl) Loose.fin Carries.rfl (ri3_x c) ?_
    have last : (0 ≤ c.tk ∧ c.tk ≤ 2 ∧ c.tf.length = 20 ∧ (c.tt = [] ∨ c.tt.length = 20) ∧ c.td.length ≤ 32768) → Runs Pr (Go.Proofs.Tryd.f56).ntmps 0 (dropSeq 2 riB) [(1,.ptr 0 0)] [.vals c.tx] (FinR (Go.Proofs.Tryd.f56).ntmps 0 riE (.ret (.bool (rgtB c)), [])) := by
      intro hm
      have mk : ((c.tk ≠ 0 ∨ c.an = 0) ∧ c.an ≤ 64 ∧ (c.tk = 2 ∨ zw c.ti = true)) → rgtP c := fun h => ⟨hall, hm, h⟩
      have wv : (c.tk ≠ 0 ∨ c.an = 0) → c.an ≤ 64 → c.tk ≠ 2 → (Sum.inl (Fin.ret (V.bool (zw c.ti)), []) : (Fin × Heap) ⊕ (X × Fr × Heap)) = .inl (.ret (.bool (rgtB c)), []) := by
        intro h1 h2 h3
        cases hz : zw c.ti with
        | true => rw [rgtB_t (mk ⟨h1, h2, .inr hz⟩)]
        | false => rw [rgtB_f (fun hp => by rcases hp.2.2.2.2 with h4 | h4; exact h3 h4; rw [hz] at h4; cases h4)]
      refine Runs.lastF (L := noLoopsT) O0_sound mixed noLoops_all (by kernel_rfl) Loose.fin Carries.rfl (ri4_x c) ?_
      refine wp_chk_true.2 (wp_br.2 ⟨fun h1 => wp_chk_true.2 (wp_br.2 ⟨fun h2 => wp_chk_true.2 (wp_br.2 ⟨fun h3 => wp_chk_true.2 (wp_leaf.2 ⟨trivial, .inr (.inr (yes ?_))⟩), fun h3 => wp_chk_true.2 (wp_leaf.2 ⟨trivial, .inr (.inr (wv ?_ ?_ ?_))⟩)⟩), fun h2 => wp_chk_true.2 (wp_leaf.2 ⟨trivial, .inr (.inr (no ?_))⟩)⟩),
        fun h1 => wp_chk_true.2 (wp_br.2 ⟨fun h2 => wp_chk_true.2 (wp_br.2 ⟨fun h3 => wp_chk_true.2 (wp_br.2 ⟨fun h4 => wp_chk_true.2 (wp_leaf.2 ⟨trivial, .inr (.inr (yes ?_))⟩), fun h4 => wp_chk_true.2 (wp_leaf.2 ⟨trivial, .inr (.inr (wv ?_ ?_ ?_))⟩)⟩), fun h3 => wp_chk_true.2 (wp_leaf.2 ⟨trivial, .inr (.inr (no ?_))⟩)⟩), fun h2 => wp_chk_true.2 (wp_leaf.2 ⟨trivial, .inr (.inr (no ?_))⟩)⟩)⟩)
      · have h2 := of_decide_eq_true h2
        simp at h1 h3
        exact mk ⟨.inl h1, by omega, .inl h3⟩
      · simp at h1; exact .inl h1
      · have h2 := of_decide_eq_true h2; omega
      · simpa using h3
      · intro hp
        have h2 := of_decide_eq_false h2
        have := hp.2.2.2.1; omega
      · have h3 := of_decide_eq_true h3
        simp at h2 h4
        exact mk ⟨.inr h2, by omega, .inl h4⟩
      · simp at h2; exact .inr h2
      · have h3 := of_decide_eq_true h3; omega
      · simpa using h4
      · intro hp
        have h3 := of_decide_eq_false h3
        have := hp.2.2.2.1; omega
      · intro hp
        simp at h1 h2
        rcases hp.2.2.1 with h9 | h9
        · exact h9 h1
        · exact h2 h9
    have nt : (!c.tt == bytesOf (ByteArray.mk #[])) = false → c.tt = [] := by
      intro h9
      have h8 : (!(c.tt == ([] : List B))) = false := h9
      cases hx : (c.tt == ([] : List B)) with
      | true => simpa using hx
      | false => rw [hx] at h8; cases h8
    have tn : (!c.tt == bytesOf (ByteArray.mk #[])) = true → c.tt ≠ [] := by
      intro h9 e
      rw [e] at h9; cases h9
    refine wp_chk_true.2 (wp_br.2 ⟨fun h1 => wp_chk_true.2 (wp_leaf.2 ⟨trivial, .inr (.inr (no ?_))⟩), fun h1 => wp_chk_true.2 (wp_br.2 ⟨fun h2 => wp_chk_true.2 (wp_leaf.2 ⟨trivial, .inr (.inr (no ?_))⟩), fun h2 => wp_chk_true.2 (wp_br.2 ⟨fun h3 => wp_chk_true.2 (wp_leaf.2 ⟨trivial, .inr (.inr (no ?_))⟩), fun h3 => wp_chk_true.2 (wp_br.2 ⟨fun h4 => wp_chk_true.2 (wp_br.2 ⟨fun h5 => wp_chk_true.2 (wp_leaf.2 ⟨trivial, .inr (.inr (no ?_))⟩), fun h5 => wp_chk_true.2 (wp_br.2 ⟨fun h6 => wp_chk_true.2 (wp_leaf.2 ⟨trivial, .inr (.inr (no ?_))⟩), fun h6 => wp_leaf.2 ⟨clo_nil, .inl ⟨_, _, rfl, last ?_⟩⟩⟩)⟩),
      fun h4 => wp_chk_true.2 (wp_br.2 ⟨fun h6 => wp_chk_true.2 (wp_leaf.2 ⟨trivial, .inr (.inr (no ?_))⟩), fun h6 => wp_leaf.2 ⟨clo_nil, .inl ⟨_, _, rfl, last ?_⟩⟩⟩)⟩)⟩)⟩)⟩)
    · intro hp; have h1 := of_decide_eq_true h1; have := hp.2.1.1; omega
    · intro hp; have h2 := of_decide_eq_true h2; have := hp.2.1.2.1; omega
    · intro hp; have := hp.2.1.2.2.1; simp at h3; omega
    · intro hp
      rcases hp.2.1.2.2.2.1 with h9 | h9
      · exact tn h4 h9
      · simp at h5; omega
    · intro hp; have h6 := of_decide_eq_true h6; have := hp.2.1.2.2.2.2; omega
    · have h1 := of_decide_eq_false h1
      have h2 := of_decide_eq_false h2
      have h6 := of_decide_eq_false h6
      simp at h3 h5
      exact ⟨by omega, by omega, by omega, .inr (by omega), by omega⟩
    · intro hp; have h6 := of_decide_eq_true h6; have := hp.2.1.2.2.2.2; omega
    · have h1 := of_decide_eq_false h1
      have h2 := of_decide_eq_false h2
      have h6 := of_decide_eq_false h6
      simp at h3
      exact ⟨by omega, by omega, by omega, .inl (nt h4), by omega⟩
end
end Go.Proofs.YtbgiickegljpoaaDoor.K
end
section
open Go Go.Lh
namespace Go.Proofs.YtbgiickegljpoaaDoor.K
noncomputable section
set_option maxRecDepth 100000
def KLw : KnownT := [(42, old bytes_g)]
theorem KLw_ok : KOkT Pr KLw := KOkT.cons bytes_en (old_ok (ctW_ok bytes_fn)) KOkT.nil
def Olw : OrcT := autoT Pr ext KLw [60,14] 3
theorem Olw_sound : OrcSound Pr Olw.o := autoT_sound mixed ext_ok KLw_ok (by kernel_rfl) 3
def lwB : Code := bodyOf Go.Proofs.Tryd.f59
def lwE : X × Fr × Heap → Tr (Fin × Heap) := endT Pr Go.Proofs.Tryd.f59 0
theorem lw0_x (n : Nat) (w : Nat → W4) : Tr.prune (Tr.Sh.any)
 (execBYF Pr Olw noLoopsT (100 : Nat) (0 : Nat)
 (Tell.mk [(0 : Nat), (1 : Nat), (4 : Nat), (5 : Nat)] [(0 : Nat), (1 : Nat)] []) (Tell.mk [] [] []) lwE
 (takeSeq (1 : Nat) lwB) [((0 : Nat), V.isl (4 : Nat) n (wF w)), ((1 : Nat), V.fn (60 : FuncId) [] [])] []) =
 Tr.chk true
 (Tr.leaf
 (Sum.inr
 (X.normal,
 [((0 : Nat), V.isl (4 : Nat) n (wF w)), ((1 : Nat), V.fn (60 : Nat) [] []),
 ((4 : Nat), V.ptr (0 : Nat) (0 : Nat)), ((5 : Nat), V.ptr (1 : Nat) (0 : Nat))],
 [Blk.vals [V.bool false, V.str (bytesOf (ByteArray.mk #[])), V.nilSl],
 Blk.vals [V.bool true, V.str (bytesOf (ByteArray.mk #[])), V.nilSl]]))) := by kernel_rfl
theorem lw1_x (n : Nat) (w : Nat → W4) : Tr.prune (Tr.Sh.any)
 (execBYF Pr Olw noLoopsT (100 : Nat) (0 : Nat)
 (Tell.mk [(1 : Nat), (4 : Nat), (5 : Nat), (9 : Nat), (10 : Nat), (11 : Nat)] [(0 : Nat), (1 : Nat)] [])
 (Tell.mk [] [] []) lwE (takeSeq (0 : Nat) (takeSeq (0 : Nat) (dropSeq (1 : Nat) lwB)))
 [((0 : Nat), V.isl (4 : Nat) n (wF w)), ((1 : Nat), V.fn (60 : FuncId) [] []), ((4 : Nat), V.ptr (0 : Nat) (0 : Nat)),
 ((5 : Nat), V.ptr (1 : Nat) (0 : Nat))]
 [Blk.vals [V.bool false, V.str [], V.nilSl], Blk.vals [V.bool true, V.str [], V.nilSl]]) =
 Tr.chk true
 (Tr.leaf
 (Sum.inr
 (X.normal,
 [((1 : Nat), V.fn (60 : Nat) [] []), ((4 : Nat), V.ptr (0 : Nat) (0 : Nat)),
 ((5 : Nat), V.ptr (1 : Nat) (0 : Nat)), ((9 : Nat), V.isl (4 : Nat) n (wF w)),
 ((10 : Nat), V.int IntKind.i64 (↑n : Int)), ((11 : Nat), V.int IntKind.i64 (0 : Int))],
 [Blk.vals [V.bool false, V.str [], V.nilSl], Blk.vals [V.bool true, V.str [], V.nilSl]]))) := by kernel_rfl
theorem lwa_x (n : Nat) (w : Nat → W4) : Tr.prune (Tr.Sh.any.both Tr.Sh.any)
 (execBYF Pr Olw noLoopsT (100 : Nat) (0 : Nat)
 (Tell.mk [(1 : Nat), (4 : Nat), (5 : Nat), (9 : Nat), (10 : Nat), (11 : Nat)] [(0 : Nat), (1 : Nat), (4 : Nat)]
 [(4 : Nat)])
 (Tell.mk [(4 : Nat), (5 : Nat)] [(0 : Nat), (1 : Nat)] []) lwE (loopBody Go.Proofs.Tryd.f59 (0 : Nat))
 [((1 : Nat), V.fn (60 : FuncId) [] []), ((4 : Nat), V.ptr (0 : Nat) (0 : Nat)),
 ((5 : Nat), V.ptr (1 : Nat) (0 : Nat)), ((9 : Nat), V.isl (4 : Nat) n (wF w)),
 ((10 : Nat), V.int IntKind.i64 (↑n : Int)), ((11 : Nat), V.int IntKind.i64 (0 : Int))]
 [Blk.vals [V.bool false, V.str [], V.nilSl], Blk.vals [V.bool true, V.str [], V.nilSl]]) =
 Tr.chk true
 (Tr.br (decide ((0 : Int) < (↑n : Int)))
 (Tr.chk (decide ((0 : Int) < (↑n : Int)) && (decide ((0 : Nat) < n) && true && true) && true && true)
 (Tr.leaf
 (Sum.inr
 (X.normal,
 [((1 : Nat), V.fn (60 : Nat) [] []), ((4 : Nat), V.ptr (0 : Nat) (0 : Nat)),
 ((5 : Nat), V.ptr (1 : Nat) (0 : Nat)), ((9 : Nat), V.isl (4 : Nat) n (wF w)),
 ((10 : Nat), V.int IntKind.i64 (↑n : Int)), ((11 : Nat), V.int IntKind.i64 (1 : Int))],
 [Blk.vals [V.bool false, V.str [], V.nilSl],
 Blk.vals [V.bool true, V.str [], V.sl (2 : Nat) (0 : Nat) (3 : Nat) (1 : Nat) none],
 Blk.vals [V.bool false, V.str (w (0 : Nat)).bytes, V.nilSl]]))))
 (Tr.leaf
 (Sum.inr
 (X.exit (0 : Nat), [((4 : Nat), V.ptr (0 : Nat) (0 : Nat)), ((5 : Nat), V.ptr (1 : Nat) (0 : Nat))],
 [Blk.vals [V.bool false, V.str [], V.nilSl], Blk.vals [V.bool true, V.str [], V.nilSl]])))) := by kernel_rfl
theorem lwb_x (n : Nat) (w : Nat → W4) (k : Nat) (c : V) (cs : List V) : Tr.prune (Tr.Sh.any.both Tr.Sh.any)
 (execBYF Pr Olw noLoopsT (100 : Nat) (0 : Nat)
 (Tell.mk [(1 : Nat), (4 : Nat), (5 : Nat), (9 : Nat), (10 : Nat), (11 : Nat)] [(0 : Nat), (1 : Nat), (5 : Nat)]
 [(5 : Nat)])
 (Tell.mk [(4 : Nat), (5 : Nat)] [(0 : Nat), (1 : Nat), (2 : Nat)] [(2 : Nat)]) lwE
 (loopBody Go.Proofs.Tryd.f59 (0 : Nat))
 [((1 : Nat), V.fn (60 : FuncId) [] []), ((4 : Nat), V.ptr (0 : Nat) (0 : Nat)),
 ((5 : Nat), V.ptr (1 : Nat) (0 : Nat)), ((9 : Nat), V.isl (4 : Nat) n (wF w)),
 ((10 : Nat), V.int IntKind.i64 (↑n : Int)), ((11 : Nat), V.int IntKind.i64 (↑(k + (1 : Nat)) : Int))]
 [Blk.vals [V.bool false, V.str [], V.nilSl],
 Blk.vals [V.bool true, V.str [], V.sl (2 : Nat) (0 : Nat) (3 : Nat) (k + (1 : Nat)) none], Blk.vals (c :: cs)]) =
 Tr.chk true
 (Tr.br (decide ((↑(k + (1 : Nat)) : Int) < (↑n : Int)))
 (Tr.chk
 (decide ((↑(k + (1 : Nat)) : Int) < (↑n : Int)) && (decide (k + (1 : Nat) < n) && true && true) &&
 (decide ((0 : Nat) + (k + (1 : Nat)) * (3 : Nat) ≤ (c :: cs).length) &&
 (decide (k + (1 : Nat) + (1 : Nat) ≤ (281474976710656 : Nat)) &&
 decide
 (((2 : Nat) * (k + (1 : Nat) + (1 : Nat)) + (1024 : Nat)) * (48 : Nat) ≤
 (281474976710656 : Nat)) &&
 true) &&
 (List.take (3 : Nat)
 (setCells
 (List.replicate (1 : Nat) [V.bool false, V.str (bytesOf (ByteArray.mk #[])), V.nilSl]).flatten
 (0 : Nat) [V.bool false, V.str (w (k + (1 : Nat))).bytes, V.nilSl])).all
 V.one &&
 true) &&
 true)
 (Tr.leaf
 (Sum.inr
 (X.normal,
 [((1 : Nat), V.fn (60 : Nat) [] []), ((4 : Nat), V.ptr (0 : Nat) (0 : Nat)),
 ((5 : Nat), V.ptr (1 : Nat) (0 : Nat)), ((9 : Nat), V.isl (4 : Nat) n (wF w)),
 ((10 : Nat), V.int IntKind.i64 (↑n : Int)),
 ((11 : Nat), V.int IntKind.i64 (wrapI IntKind.i64 ((↑(k + (1 : Nat)) : Int) + (1 : Int))))],
 [Blk.vals [V.bool false, V.str [], V.nilSl],
 Blk.vals [V.bool true, V.str [], V.sl (2 : Nat) (0 : Nat) (3 : Nat) (k + (1 : Nat) + (1 : Nat)) none],
 Blk.vals
 (List.take ((k + 1) * 3) (c :: cs) ++ [.bool false, .str (w (k + 1)).bytes, .nilSl])]))))
 (Tr.leaf
 (Sum.inr
 (X.exit (0 : Nat), [((4 : Nat), V.ptr (0 : Nat) (0 : Nat)), ((5 : Nat), V.ptr (1 : Nat) (0 : Nat))],
 [Blk.vals [V.bool false, V.str [], V.nilSl],
 Blk.vals [V.bool true, V.str [], V.sl (2 : Nat) (0 : Nat) (3 : Nat) (k + (1 : Nat)) none],
 Blk.vals (c :: cs)])))) := by kernel_rfl
theorem lwc_x (n : Nat) (w : Nat → W4) : Tr.prune (Tr.Sh.any)
 (execBYF Pr Olw noLoopsT (100 : Nat) (0 : Nat) (Tell.mk [(4 : Nat)] [(0 : Nat)] []) (Tell.mk [] [] []) lwE
 (dropSeq (2 : Nat) lwB) [((4 : Nat), V.ptr (0 : Nat) (0 : Nat)), ((5 : Nat), V.ptr (1 : Nat) (0 : Nat))]
 [Blk.vals [V.bool false, V.str [], V.nilSl], Blk.vals [V.bool true, V.str [], V.nilSl]]) =
 Tr.chk true (Tr.leaf (Sum.inl (Fin.ret (V.agg [V.bool true, V.str [], V.nilSl]), []))) := by kernel_rfl
theorem lwd_x (n : Nat) (cs : List V) : Tr.prune (Tr.Sh.any)
 (execB Pr Olw noLoopsT (100 : Nat) (partA (1 : Nat) (dropSeq (2 : Nat) lwB))
 [((4 : Nat), V.ptr (0 : Nat) (0 : Nat)), ((5 : Nat), V.ptr (1 : Nat) (0 : Nat))]
 [Blk.vals [V.bool false, V.str [], V.nilSl],
 Blk.vals [V.bool true, V.str [], V.sl (2 : Nat) (0 : Nat) (3 : Nat) n none], Blk.vals cs]) =
 Tr.chk true
 (Tr.leaf
 (X.normal,
 [((4 : Nat), V.ptr (0 : Nat) (0 : Nat)), ((5 : Nat), V.ptr (1 : Nat) (0 : Nat)),
 ((24 : Nat), V.agg [V.bool true, V.str [], V.sl (2 : Nat) (0 : Nat) (3 : Nat) n none])],
 [Blk.vals [V.bool false, V.str [], V.nilSl],
 Blk.vals [V.bool true, V.str [], V.sl (2 : Nat) (0 : Nat) (3 : Nat) n none], Blk.vals cs])) := by kernel_rfl
theorem lwe_x (n : Nat) (F : Nat → Nat → V) : Tr.prune (Tr.Sh.any)
 (execBN Pr Olw noLoopsT (100 : Nat) (0 : Nat) [(4 : Nat)] [] (partB (1 : Nat) (dropSeq (2 : Nat) lwB))
 [((4 : Nat), V.ptr (0 : Nat) (0 : Nat)), ((5 : Nat), V.ptr (1 : Nat) (0 : Nat)),
 ((24 : Nat), V.agg [V.bool true, V.str [], V.isl (3 : Nat) n F])]
 [Blk.vals [V.bool false, V.str [], V.nilSl],
 Blk.vals [V.bool true, V.str [], V.sl (2 : Nat) (0 : Nat) (3 : Nat) n none], Blk.dead]) =
 Tr.chk true
 (Tr.leaf
 (X.normal, [((4 : Nat), V.ptr (0 : Nat) (0 : Nat))],
 [Blk.vals [V.bool true, V.str [], V.isl (3 : Nat) n F]])) := by kernel_rfl
theorem lwf_x (n : Nat) (F : Nat → Nat → V) : Tr.prune (Tr.Sh.any)
 (execBYF Pr Olw noLoopsT (100 : Nat) (0 : Nat) (Tell.mk [(4 : Nat)] [(0 : Nat)] []) (Tell.mk [] [] []) lwE
 (tailC (dropSeq (2 : Nat) lwB)) [((4 : Nat), V.ptr (0 : Nat) (0 : Nat))]
 [Blk.vals [V.bool true, V.str [], V.isl (3 : Nat) n F]]) =
 Tr.chk true (Tr.leaf (Sum.inl (Fin.ret (V.agg [V.bool true, V.str [], V.isl (3 : Nat) n F]), []))) := by kernel_rfl
end
end Go.Proofs.YtbgiickegljpoaaDoor.K
end
