/- The functions that this law reaches: what each comes to. -/
import Derived.Test.YtajbaocfdlopbaaCMBack1
set_option linter.unusedSimpArgs false
set_option linter.unusedVariables false
section
open Go Go.Lh
namespace Go.Proofs.Ytajbaocfdlopbaa.K
noncomputable section
set_option maxRecDepth 100000
/-- a small number -/
theorem isSmall_mk (x : BitVec 64) : isSmall ⟨BitVec.ofInt 64 0, BitVec.ofInt 64 0, BitVec.ofInt 64 0, x⟩ = true := by
  show (BitVec.ofInt 64 0 ||| BitVec.ofInt 64 0 ||| BitVec.ofInt 64 0 == BitVec.ofInt 64 0) = true
  decide
theorem n_mk (x : BitVec 64) : (W4.mk (BitVec.ofInt 64 0) (BitVec.ofInt 64 0) (BitVec.ofInt 64 0) x).n = x.toNat := by
  show 2 ^ 192 * (BitVec.ofInt 64 0).toNat + (2 ^ 128 * (BitVec.ofInt 64 0).toNat + (2 ^ 64 * (BitVec.ofInt 64 0).toNat + x.toNat)) = _
  have : (BitVec.ofInt 64 0).toNat = 0 := rfl
  rw [this]; omega
theorem haveV_n {L : Nat} (h : L < 9223372036854775808) : (haveV L).toNat = L / 32 := by
  unfold haveV
  rw [show ((L : Int).tdiv 32) = ((L / 32 : Nat) : Int) from rfl, wrapI_nat (by omega), toNat_ofInt_nat (by omega)]
theorem wrdV_n {a s : BitVec 64} (h : a.toNat + s.toNat ≤ 16777216) : (wrdV a s).toNat = upN a.toNat s.toNat / 32 := by
  have c32 : (BitVec.ofInt 64 32).toNat = 32 := rfl
  have c1 : (BitVec.ofInt 64 1).toNat = 1 := rfl
  have e : (a + s + BitVec.ofInt 64 32 - BitVec.ofInt 64 1).toNat = a.toNat + s.toNat + 31 := by
    rw [BitVec.toNat_sub, BitVec.toNat_add, BitVec.toNat_add, c32, c1]; omega
  rw [wrdV, BitVec.toNat_udiv, e, c32, upN]; omega
/-- what it costs is what it comes to, less what it came to -/
theorem needC_grow {B : List (BitVec 8)} {a s : BitVec 64} (h : a.toNat + s.toNat ≤ 16777216) (hs : 0 < s.toNat) (hB : B.length < 16777248) (h32 : B.length % 32 = 0) :
    needC B.length ⟨BitVec.ofInt 64 0, BitVec.ofInt 64 0, BitVec.ofInt 64 0, a⟩ ⟨BitVec.ofInt 64 0, BitVec.ofInt 64 0, BitVec.ofInt 64 0, s⟩ = costV (haveV (growL B a s).length) - costV (haveV B.length) := by
  unfold needC needOk
  rw [n_mk, isSmall_mk, isSmall_mk, decide_eq_false (show ¬ s.toNat = 0 by omega), show fitB (W4.mk (BitVec.ofInt 64 0) (BitVec.ofInt 64 0) (BitVec.ofInt 64 0) a).d (W4.mk (BitVec.ofInt 64 0) (BitVec.ofInt 64 0) (BitVec.ofInt 64 0) s).d = true from fitB_iff.2 h]
  simp only [cond_false, Bool.and_self, cond_true]
  congr 2
  have hu : upN a.toNat s.toNat % 32 = 0 := by unfold upN; omega
  have hu2 : upN a.toNat s.toNat ≤ 16777247 := by unfold upN; omega
  apply BitVec.eq_of_toNat_eq
  have hL : (growL B a s).length < 9223372036854775808 := by rw [growL_length]; split <;> omega
  rw [haveV_n hL, growL_length]
  by_cases hg : isGrow B.length a s = true
  · have := (isGrow_iff.1 hg).2.2
    rw [if_pos hg, if_neg, wrdV_n h]
    rw [BitVec.lt_def, wrdV_n h, haveV_n (by omega)]; omega
  · have : ¬ B.length < upN a.toNat s.toNat := fun e => hg (isGrow_iff.2 ⟨h, hs, e⟩)
    rw [if_neg hg]
    split
    · rw [haveV_n (by omega)]
    · rename_i h2
      rw [BitVec.lt_def, wrdV_n h, haveV_n (by omega)] at h2
      rw [wrdV_n h]; omega
theorem growL_mod {B : List (BitVec 8)} {a s : BitVec 64} (h32 : B.length % 32 = 0) : (growL B a s).length % 32 = 0 := by
  rw [growL_length]; split
  · unfold upN; omega
  · exact h32
theorem growL_lt {B : List (BitVec 8)} {a s : BitVec 64} (h : B.length < 16777248) : (growL B a s).length < 16777248 := by
  rw [growL_length]; split
  · rename_i hg; have := (isGrow_iff.1 hg).1; unfold upN; omega
  · exact h
theorem growL_same {B : List (BitVec 8)} {a s : BitVec 64} (h : isGrow B.length a s = false) : growL B a s = B := by unfold growL; rw [h]; rfl
theorem growL_ge' {B : List (BitVec 8)} {a s : BitVec 64} (h : a.toNat + s.toNat ≤ 16777216) (hs : 0 < s.toNat) : upN a.toNat s.toNat ≤ (growL B a s).length := by
  rw [growL_length]; split
  · exact Nat.le_refl _
  · rename_i hg
    have : ¬ B.length < upN a.toNat s.toNat := fun e => hg (isGrow_iff.2 ⟨h, hs, e⟩)
    omega
theorem growL_mono {B : List (BitVec 8)} {a s : BitVec 64} : B.length ≤ (growL B a s).length := by
  rw [growL_length]; split
  · rename_i hg; exact Nat.le_of_lt (isGrow_iff.1 hg).2.2
  · exact Nat.le_refl _
theorem nat16 (x : BitVec 16) : (BitVec.setWidth 64 x).toNat < 65536 := by
  rw [BitVec.toNat_setWidth]; have := x.isLt; omega
theorem nat8s (x : BitVec 8) : (BitVec.setWidth 64 x + BitVec.ofInt 64 1).toNat = x.toNat + 1 := by
  have c1 : (BitVec.ofInt 64 1).toNat = 1 := rfl
  rw [BitVec.toNat_add, BitVec.toNat_setWidth, c1]; have := x.isLt; omega
theorem needC_0 {B : List (BitVec 8)} {a s : BitVec 64} (h : a.toNat + s.toNat ≤ 16777216) (hs : 0 < s.toNat) (hB : B.length < 16777248) (h32 : B.length % 32 = 0) (hu : upN a.toNat s.toNat ≤ B.length) :
    needC B.length ⟨BitVec.ofInt 64 0, BitVec.ofInt 64 0, BitVec.ofInt 64 0, a⟩ ⟨BitVec.ofInt 64 0, BitVec.ofInt 64 0, BitVec.ofInt 64 0, s⟩ = BitVec.ofInt 64 0 := by
  rw [needC_grow h hs hB h32]
  have : isGrow B.length a s = false := by rw [Bool.eq_false_iff, Ne, isGrow_iff]; omega
  rw [growL_same this, BitVec.sub_self]; rfl
theorem needB_t {a s : BitVec 64} (h : a.toNat + s.toNat ≤ 16777216) : needB ⟨BitVec.ofInt 64 0, BitVec.ofInt 64 0, BitVec.ofInt 64 0, a⟩ ⟨BitVec.ofInt 64 0, BitVec.ofInt 64 0, BitVec.ofInt 64 0, s⟩ = true := by
  unfold needB needOk
  rw [isSmall_mk, isSmall_mk, show fitB (W4.mk (BitVec.ofInt 64 0) (BitVec.ofInt 64 0) (BitVec.ofInt 64 0) a).d (W4.mk (BitVec.ofInt 64 0) (BitVec.ofInt 64 0) (BitVec.ofInt 64 0) s).d = true from fitB_iff.2 h]
  simp
theorem memCosts_fn (a b : BitVec 16) (n k : BitVec 8) : LFn Pr 4 [.u16 a, .u16 b, .u8 n, .u8 k] [] (.ret (.bool true)) [] := by
  refine fnT OAn_sound mixed (by kernel_rfl) LoopsOk.noneT (costs_x a b n k) ?_
  have ha := nat16 a
  have hb := nat16 b
  have hn := nat8s n
  have hk := nat8s k
  have ln := n.isLt
  have lk := k.isLt
  generalize BitVec.setWidth 64 a = x at *
  generalize BitVec.setWidth 64 b = y at *
  generalize BitVec.setWidth 64 n + BitVec.ofInt 64 1 = s at *
  generalize BitVec.setWidth 64 k + BitVec.ofInt 64 1 = t at *
  have f1 : x.toNat + s.toNat ≤ 16777216 := by omega
  have f2 : y.toNat + t.toNat ≤ 16777216 := by omega
  have g0 : isGrow 0 x s = true := isGrow_iff.2 ⟨f1, by omega, by have := upN_ge x.toNat s.toNat; omega⟩
  have l1 : (growL [] x s).length < 16777248 := growL_lt (by decide)
  have m1 : (growL [] x s).length % 32 = 0 := growL_mod rfl
  have u1 := growL_ge' (B := []) f1 (show 0 < s.toNat by omega)
  have c1 := needC_grow (B := []) f1 (show 0 < s.toNat by omega) (by decide) rfl
  have c2 := needC_grow f2 (show 0 < t.toNat by omega) l1 m1
  have l2 : (growL (growL [] x s) y t).length < 16777248 := growL_lt l1
  have m2 : (growL (growL [] x s) y t).length % 32 = 0 := growL_mod m1
  have mo := growL_mono (B := growL [] x s) (a := y) (s := t)
  have c3 := needC_0 f1 (show 0 < s.toNat by omega) l2 m2 (by omega)
  have z0 : costV (haveV ([] : List (BitVec 8)).length) = 0#64 := rfl
  rw [z0] at c1
  have hsum : needC 0 ⟨BitVec.ofInt 64 0, BitVec.ofInt 64 0, BitVec.ofInt 64 0, x⟩ ⟨BitVec.ofInt 64 0, BitVec.ofInt 64 0, BitVec.ofInt 64 0, s⟩ + needC (growL [] x s).length ⟨BitVec.ofInt 64 0, BitVec.ofInt 64 0, BitVec.ofInt 64 0, y⟩ ⟨BitVec.ofInt 64 0, BitVec.ofInt 64 0, BitVec.ofInt 64 0, t⟩ = costV (haveV (growL (growL [] x s) y t).length) := by
    rw [show needC 0 _ _ = needC ([] : List (BitVec 8)).length _ _ from rfl, c1, c2, BitVec.sub_zero, BitVec.add_comm, BitVec.sub_add_cancel]
  have hlt : ∀ L : List (BitVec 8), L.length < 16777248 → lenOk L.length L = true := fun L h => lenOk_iff.2 ⟨rfl, by omega⟩
  have o1 := hlt _ l1
  have o2 := hlt _ l2
  have hv : ∀ L : Nat, BitVec.ofInt 64 (wrapI .i64 ((L : Int).tdiv 32)) = haveV L := fun _ => rfl
  have n0 : okN 0 = true := okN_iff.2 (by decide)
  have n1 : okN (growL [] x s).length = true := okN_iff.2 (by omega)
  have n2 : okN (growL (growL [] x s) y t).length = true := okN_iff.2 (by omega)
  simp only [MS.n, hv, n0, n1, n2, g0, o1, o2, needB_t f1, needB_t f2, hsum, c3, wp_chk_true, wp_chk, wp_br, wp_leaf, ret_bool, Bool.and_true, Bool.true_and, Bool.and_self, beq_self_eq_true, and_true, true_and, true_implies, Bool.true_eq_false, false_implies, implies_true]
  intro h
  rw [growL_same h] at c3 ⊢
  rw [beq_self_eq_true, c3, beq_self_eq_true]
  exact ⟨fun _ h => (by cases h), fun h => (by cases h)⟩
end
end Go.Proofs.Ytajbaocfdlopbaa.K
end
section
open Go Go.Lh
namespace Go.Proofs.Ytajbaocfdlopbaa.K
noncomputable section
set_option maxRecDepth 100000
theorem bk1_x (p : BitVec 16) (w : W4) (b : BitVec 8) : Tr.prune (Tr.Sh.any.r.r)
  (execBN Pr OAn noLoopsT (100 : Nat) (0 : Nat) [(2 : Nat), (4 : Nat), (7 : Nat), (8 : Nat), (9 : Nat)] []
  (takeSeq (6 : Nat) (bodyOf Go.Proofs.Try.f6)) (argsFr (0 : Nat) [V.u16 p, w.v, V.u8 b]) []) =
  Tr.chk (wrOk (BitVec.setWidth (64 : Nat) p) (BitVec.ofInt (64 : Nat) (1 : Int)) && true)
  (Tr.leaf
    (X.normal,
      [((2 : Nat), V.u8 b), ((4 : Nat), V.ptr (0 : Nat) (0 : Nat)), ((7 : Nat), V.bool true),
        ((8 : Nat), V.ptr (1 : Nat) (0 : Nat)), ((9 : Nat), V.u64 (BitVec.setWidth (64 : Nat) p))],
      [Blk.b64 [w.a, w.b, w.c, w.d],
        Blk.vals
          [V.sl (2 : Nat) (0 : Nat) (1 : Nat)
              (writeL [] (BitVec.setWidth (64 : Nat) p) (BitVec.ofInt (64 : Nat) (1 : Int)) [b]).length none],
        Blk.buf (5 : Nat)
          (writeL [] (BitVec.setWidth (64 : Nat) p) (BitVec.ofInt (64 : Nat) (1 : Int)) [b])])) := by kernel_rfl
theorem bk2_x (x : BitVec 64) (w : W4) (b : BitVec 8) (n : Nat) (B : List (BitVec 8)) : Tr.prune ((Tr.Sh.any.both
      Tr.Sh.any).both
  Tr.Sh.any)
  (execBN Pr OAn noLoopsT (100 : Nat) (0 : Nat) [(2 : Nat), (4 : Nat), (7 : Nat), (8 : Nat), (9 : Nat)] []
  (takeSeq (0 : Nat) (dropSeq (6 : Nat) (bodyOf Go.Proofs.Try.f6)))
  [((2 : Nat), V.u8 b), ((4 : Nat), V.ptr (0 : Nat) (0 : Nat)), ((7 : Nat), V.bool true),
    ((8 : Nat), V.ptr (1 : Nat) (0 : Nat)), ((9 : Nat), V.u64 x)]
  [Blk.b64 [w.a, w.b, w.c, w.d], Blk.vals [V.sl (2 : Nat) (0 : Nat) (1 : Nat) n none], Blk.buf (5 : TypeId) B]) =
  Tr.chk (lenOk n B)
  (Tr.br (wrOk (x + BitVec.ofInt (64 : Nat) (1 : Int)) (BitVec.ofInt (64 : Nat) (32 : Int)))
    (Tr.br (isGrow n (x + BitVec.ofInt (64 : Nat) (1 : Int)) (BitVec.ofInt (64 : Nat) (32 : Int)))
      (Tr.chk true
        (Tr.leaf
          (X.normal,
            [((2 : Nat), V.u8 b), ((4 : Nat), V.ptr (0 : Nat) (0 : Nat)), ((7 : Nat), V.bool true),
              ((8 : Nat), V.ptr (1 : Nat) (0 : Nat)), ((9 : Nat), V.u64 x)],
            [Blk.b64 [w.a, w.b, w.c, w.d],
              Blk.vals
                [V.sl (2 : Nat) (0 : Nat) (1 : Nat)
                    (writeL B (x + BitVec.ofInt (64 : Nat) (1 : Int)) (BitVec.ofInt (64 : Nat) (32 : Int))
                        w.bytes).length
                    none],
              Blk.buf (5 : Nat)
                (writeL B (x + BitVec.ofInt (64 : Nat) (1 : Int)) (BitVec.ofInt (64 : Nat) (32 : Int)) w.bytes)])))
      (Tr.chk true
        (Tr.leaf
          (X.normal,
            [((2 : Nat), V.u8 b), ((4 : Nat), V.ptr (0 : Nat) (0 : Nat)), ((7 : Nat), V.bool true),
              ((8 : Nat), V.ptr (1 : Nat) (0 : Nat)), ((9 : Nat), V.u64 x)],
            [Blk.b64 [w.a, w.b, w.c, w.d], Blk.vals [V.sl (2 : Nat) (0 : Nat) (1 : Nat) n none],
              Blk.buf (5 : Nat)
                (writeL B (x + BitVec.ofInt (64 : Nat) (1 : Int)) (BitVec.ofInt (64 : Nat) (32 : Int)) w.bytes)]))))
    (Tr.chk true
      (Tr.leaf
        (X.normal,
          [((2 : Nat), V.u8 b), ((4 : Nat), V.ptr (0 : Nat) (0 : Nat)), ((7 : Nat), V.bool true),
            ((8 : Nat), V.ptr (1 : Nat) (0 : Nat)), ((9 : Nat), V.u64 x)],
          [Blk.b64 [w.a, w.b, w.c, w.d], Blk.vals [V.sl (2 : Nat) (0 : Nat) (1 : Nat) n none],
            Blk.buf (5 : Nat) B])))) := by kernel_rfl
theorem bk3_x (x : BitVec 64) (w : W4) (b : BitVec 8) (n : Nat) (B : List (BitVec 8)) : Tr.prune ((Tr.Sh.any.both
      Tr.Sh.any).both
  Tr.Sh.any)
  (execBN Pr OAn noLoopsT (100 : Nat) (0 : Nat) [(2 : Nat), (4 : Nat), (7 : Nat), (8 : Nat), (9 : Nat)] []
  (takeSeq (0 : Nat) (dropSeq (0 : Nat) (dropSeq (6 : Nat) (bodyOf Go.Proofs.Try.f6))))
  [((2 : Nat), V.u8 b), ((4 : Nat), V.ptr (0 : Nat) (0 : Nat)), ((7 : Nat), V.bool true),
    ((8 : Nat), V.ptr (1 : Nat) (0 : Nat)), ((9 : Nat), V.u64 x)]
  [Blk.b64 [w.a, w.b, w.c, w.d], Blk.vals [V.sl (2 : Nat) (0 : Nat) (1 : Nat) n none], Blk.buf (5 : TypeId) B]) =
  Tr.chk (lenOk n B)
  (Tr.br (wrOk (x + BitVec.ofInt (64 : Nat) (33 : Int)) (BitVec.ofInt (64 : Nat) (1 : Int)))
    (Tr.br (isGrow n (x + BitVec.ofInt (64 : Nat) (33 : Int)) (BitVec.ofInt (64 : Nat) (1 : Int)))
      (Tr.chk true
        (Tr.leaf
          (X.normal,
            [((2 : Nat), V.u8 b), ((4 : Nat), V.ptr (0 : Nat) (0 : Nat)), ((7 : Nat), V.bool true),
              ((8 : Nat), V.ptr (1 : Nat) (0 : Nat)), ((9 : Nat), V.u64 x)],
            [Blk.b64 [w.a, w.b, w.c, w.d],
              Blk.vals
                [V.sl (2 : Nat) (0 : Nat) (1 : Nat)
                    (writeL B (x + BitVec.ofInt (64 : Nat) (33 : Int)) (BitVec.ofInt (64 : Nat) (1 : Int)) [b]).length
                    none],
              Blk.buf (5 : Nat)
                (writeL B (x + BitVec.ofInt (64 : Nat) (33 : Int)) (BitVec.ofInt (64 : Nat) (1 : Int)) [b])])))
      (Tr.chk true
        (Tr.leaf
          (X.normal,
            [((2 : Nat), V.u8 b), ((4 : Nat), V.ptr (0 : Nat) (0 : Nat)), ((7 : Nat), V.bool true),
              ((8 : Nat), V.ptr (1 : Nat) (0 : Nat)), ((9 : Nat), V.u64 x)],
            [Blk.b64 [w.a, w.b, w.c, w.d], Blk.vals [V.sl (2 : Nat) (0 : Nat) (1 : Nat) n none],
              Blk.buf (5 : Nat)
                (writeL B (x + BitVec.ofInt (64 : Nat) (33 : Int)) (BitVec.ofInt (64 : Nat) (1 : Int)) [b])]))))
    (Tr.chk true
      (Tr.leaf
        (X.normal,
          [((2 : Nat), V.u8 b), ((4 : Nat), V.ptr (0 : Nat) (0 : Nat)), ((7 : Nat), V.bool true),
            ((8 : Nat), V.ptr (1 : Nat) (0 : Nat)), ((9 : Nat), V.u64 x)],
          [Blk.b64 [w.a, w.b, w.c, w.d], Blk.vals [V.sl (2 : Nat) (0 : Nat) (1 : Nat) n none],
            Blk.buf (5 : Nat) B])))) := by kernel_rfl
theorem bk4_x (x : BitVec 64) (w : W4) (b : BitVec 8) (n : Nat) (B : List (BitVec 8)) : Tr.prune ((((((Tr.Sh.any.l.l.l.both
                                                                  Tr.Sh.any.r.r.r).l.l.l.l.both
                                                      Tr.Sh.any.r.r.r.r.r.r.r.r).l.l.l.l.l.l.l.both
                                    Tr.Sh.any.r.r.r.r.r.r.r.r.r.r.r.r.r.r.r.r).l.l.l.both
                          Tr.Sh.any.r.r.r.r.r.r.r.r.r.r.r.r.r.r.r.r.r.r.r.r).l.l.l.both
                Tr.Sh.any.r.r.r.r.r.r.r.r.r.r.r.r.r.r.r.r.r.r.r.r.r.r.r.r).l.l.l.l.l.l.r)
  (execBR Pr OAn noLoopsT (100 : Nat) Go.Proofs.Try.f6 (0 : Nat)
  (dropSeq (0 : Nat) (dropSeq (0 : Nat) (dropSeq (6 : Nat) (bodyOf Go.Proofs.Try.f6))))
  [((2 : Nat), V.u8 b), ((4 : Nat), V.ptr (0 : Nat) (0 : Nat)), ((7 : Nat), V.bool true),
    ((8 : Nat), V.ptr (1 : Nat) (0 : Nat)), ((9 : Nat), V.u64 x)]
  [Blk.b64 [w.a, w.b, w.c, w.d], Blk.vals [V.sl (2 : Nat) (0 : Nat) (1 : Nat) n none], Blk.buf (5 : TypeId) B]) =
  Tr.chk (lenOk n B && true && true && true && true && (lenOk n B && true && true && true && true && true && true))
  (Tr.br
    ((W4.ofBytes (partS B (x + BitVec.ofInt (64 : Nat) (1 : Int)) (BitVec.ofInt (64 : Nat) (32 : Int)))).a == w.a &&
      ((W4.ofBytes (partS B (x + BitVec.ofInt (64 : Nat) (1 : Int)) (BitVec.ofInt (64 : Nat) (32 : Int)))).b == w.b &&
        ((W4.ofBytes (partS B (x + BitVec.ofInt (64 : Nat) (1 : Int)) (BitVec.ofInt (64 : Nat) (32 : Int)))).c == w.c &&
          ((W4.ofBytes (partS B (x + BitVec.ofInt (64 : Nat) (1 : Int)) (BitVec.ofInt (64 : Nat) (32 : Int)))).d ==
              w.d &&
            true))))
    (Tr.chk true
      (Tr.br (B.getD (x.toNat + (0 : Nat)) (OfNat.ofNat (0 : Nat)) == b)
        (Tr.chk true
          (Tr.br (B.getD (x.toNat + (33 : Nat)) (OfNat.ofNat (0 : Nat)) == b)
            (Tr.chk true
              (Tr.br
                ((↑n : Int) ==
                  wrapI IntKind.i64
                    (↑((x + BitVec.ofInt (64 : Nat) (34 : Int) + BitVec.ofInt (64 : Nat) (31 : Int)) /
                              BitVec.ofInt (64 : Nat) (32 : Int) *
                            BitVec.ofInt (64 : Nat) (32 : Int)).toNat :
                      Int))
                (Tr.chk (lenOk n B && true && true && true)
                  (Tr.br
                    (partS B (x + BitVec.ofInt (64 : Nat) (100000 : Int)) (BitVec.ofInt (64 : Nat) (3 : Int)) ==
                      bytesOf (ByteArray.mk #[OfNat.ofNat (0 : Nat), OfNat.ofNat (0 : Nat), OfNat.ofNat (0 : Nat)]))
                    (Tr.chk true (Tr.leaf (Fin.ret (V.bool ((↑n : Int) == (↑n : Int))), [])))
                    (Tr.chk true (Tr.leaf (Fin.ret (V.bool false), [])))))
                (Tr.chk true (Tr.leaf (Fin.ret (V.bool false), [])))))
            (Tr.chk true (Tr.leaf (Fin.ret (V.bool false), [])))))
        (Tr.chk true (Tr.leaf (Fin.ret (V.bool false), [])))))
    (Tr.chk true (Tr.leaf (Fin.ret (V.bool false), [])))) := by kernel_rfl
end
end Go.Proofs.Ytajbaocfdlopbaa.K
end
section
open Go Go.Lh
namespace Go.Proofs.Ytajbaocfdlopbaa.K
noncomputable section
set_option maxRecDepth 100000
def bkS (x : BitVec 64) (w : W4) (b : BitVec 8) (B : List (BitVec 8)) : Fr × Heap := ([(2,.u8 b),(4,.ptr 0 0),(7,.bool true),(8,.ptr 1 0),(9,.u64 x)], [.b64 [w.a, w.b, w.c, w.d], .vals [.sl 2 0 1 B.length none], .buf 5 B])
theorem bk_step {x : BitVec 64} {w : W4} {b : BitVec 8} {B : List (BitVec 8)} {a z : BitVec 64} {s : List (BitVec 8)} {t : Tr (X × Fr × Heap)} {u : Tr (X × Fr × Heap)} (hl : lenOk B.length B = true) (hw : wrOk a z = true)
    (ht : t = Tr.chk (lenOk B.length B) (Tr.br (wrOk a z) (Tr.br (isGrow B.length a z) (Tr.chk true (Tr.leaf (X.normal, (bkS x w b (writeL B a z s)).1, (bkS x w b (writeL B a z s)).2)))
      (Tr.chk true (Tr.leaf (X.normal, (bkS x w b B).1, [.b64 [w.a, w.b, w.c, w.d], .vals [.sl 2 0 1 B.length none], .buf 5 (writeL B a z s)])))) u)) :
    t.wp fun r => ∃ B', B' = writeL B a z s ∧ r = (.normal, (bkS x w b B').1, (bkS x w b B').2) := by
  subst ht
  rw [wp_chk, wp_br, wp_br]
  refine ⟨hl, fun _ => ⟨fun h => wp_chk_true.2 ⟨_, rfl, rfl⟩, fun h => wp_chk_true.2 ⟨_, rfl, ?_⟩⟩, fun h => absurd (hw.symm.trans h) (by simp)⟩
  have : (writeL B a z s).length = B.length := by
    rw [writeL_length, if_pos hw, growL_length, h]; rfl
  rw [bkS, bkS, this]
theorem memBack_fn (p : BitVec 16) (w : W4) (b : BitVec 8) : LFn Pr 6 [.u16 p, w.v, .u8 b] [] (.ret (.bool true)) [] := by
  have c1 : (BitVec.ofInt 64 1).toNat = 1 := rfl
  have c3 : (BitVec.ofInt 64 3).toNat = 3 := rfl
  have c32 : (BitVec.ofInt 64 32).toNat = 32 := rfl
  have c33 : (BitVec.ofInt 64 33).toNat = 33 := rfl
  have c34 : (BitVec.ofInt 64 34).toNat = 34 := rfl
  have c31 : (BitVec.ofInt 64 31).toNat = 31 := rfl
  have c100 : (BitVec.ofInt 64 100000).toNat = 100000 := rfl
  have hx := nat16 p
  refine EndsIn.done (fn := Go.Proofs.Try.f6) (by kernel_rfl) (by kernel_rfl) (by kernel_rfl) ?_
  have T1 := bk1_x p w b
  generalize hxe : BitVec.setWidth 64 p = x at *
  have e1 : (x + BitVec.ofInt 64 1).toNat = x.toNat + 1 := by rw [BitVec.toNat_add, c1]; omega
  have e33 : (x + BitVec.ofInt 64 33).toNat = x.toNat + 33 := by rw [BitVec.toNat_add, c33]; omega
  have e100 : (x + BitVec.ofInt 64 100000).toNat = x.toNat + 100000 := by rw [BitVec.toNat_add, c100]; omega
  have w1 : wrOk x (BitVec.ofInt 64 1) = true := wrOk_iff.2 ⟨by rw [c1]; omega, by rw [c1]; omega⟩
  have w2 : wrOk (x + BitVec.ofInt 64 1) (BitVec.ofInt 64 32) = true := wrOk_iff.2 ⟨by rw [e1, c32]; omega, by rw [c32]; omega⟩
  have w3 : wrOk (x + BitVec.ofInt 64 33) (BitVec.ofInt 64 1) = true := wrOk_iff.2 ⟨by rw [e33, c1]; omega, by rw [c1]; omega⟩
  obtain ⟨B1, hB1⟩ : ∃ B1, B1 = writeL [] x (BitVec.ofInt 64 1) [b] := ⟨_, rfl⟩
  obtain ⟨B2, hB2⟩ : ∃ B2, B2 = writeL B1 (x + BitVec.ofInt 64 1) (BitVec.ofInt 64 32) w.bytes := ⟨_, rfl⟩
  obtain ⟨B3, hB3⟩ : ∃ B3, B3 = writeL B2 (x + BitVec.ofInt 64 33) (BitVec.ofInt 64 1) [b] := ⟨_, rfl⟩
  have l1 : B1.length = upN x.toNat 1 := by rw [hB1, writeL_len w1, c1]; simp
  have l2 : B2.length = max B1.length (upN (x.toNat + 1) 32) := by rw [hB2, writeL_len w2, e1, c32]
  have l3 : B3.length = max B2.length (upN (x.toNat + 33) 1) := by rw [hB3, writeL_len w3, e33, c1]
  have L3 : B3.length = (x.toNat + 34 + 31) / 32 * 32 := by rw [l3, l2, l1]; unfold upN; omega
  have k1 : lenOk B1.length B1 = true := lenOk_iff.2 ⟨rfl, by rw [l1]; unfold upN; omega⟩
  have k2 : lenOk B2.length B2 = true := lenOk_iff.2 ⟨rfl, by rw [l2, l1]; unfold upN; omega⟩
  have k3 : lenOk B3.length B3 = true := lenOk_iff.2 ⟨rfl, by omega⟩
  have g3 := fun i => writeL_getD (B := B2) (s := [b]) w3 i
  have g2 := fun i => writeL_getD (B := B1) (s := w.bytes) w2 i
  have g1 := fun i => writeL_getD (B := []) (s := [b]) w1 i
  rw [← hB3, e33, c1] at g3
  rw [← hB2, e1, c32] at g2
  rw [← hB1, c1] at g1
  refine EndsIn.cut 6 (bkS x w b) (fun B => B = B1) OAn_sound mixed (by kernel_rfl) noLoops_all (by kernel_rfl) T1 ?_ ?_
  · rw [w1, ← hB1]
    exact ⟨rfl, B1, rfl, rfl⟩
  intro B hB
  subst hB
  refine EndsIn.cut 0 (bkS x w b) (fun B => B = B2) OAn_sound mixed (by kernel_rfl) noLoops_all (by kernel_rfl) (bk2_x x w b B.length B) ?_ ?_
  · rw [hB2]; exact bk_step k1 w2 rfl
  intro B' hB'
  subst hB'
  refine EndsIn.cut 0 (bkS x w b) (fun B => B = B3) OAn_sound mixed (by kernel_rfl) noLoops_all (by kernel_rfl) (bk3_x x w b B'.length B') ?_ ?_
  · rw [hB3]; exact bk_step k2 w3 rfl
  intro B4 hB4
  subst hB4
  refine EndsIn.last OAn_sound mixed noLoops_all (by kernel_rfl) (bk4_x x w b B4.length B4) ?_
  have p1 : partS B4 (x + BitVec.ofInt 64 1) (BitVec.ofInt 64 32) = w.bytes := by
    rw [partS_near (by rw [c32]; omega), e1, c32]
    refine padN_congr (W4.bytes_length w) (fun i hi => ?_)
    rw [g3, if_neg (by omega), g2, if_pos (by omega), show x.toNat + 1 + i - (x.toNat + 1) = i by omega]
  have p2 : partS B4 (x + BitVec.ofInt 64 100000) (BitVec.ofInt 64 3) = [0, 0, 0] := by
    rw [partS_near (by rw [c3]; omega), e100, c3, padN_out (by omega)]; rfl
  have q1 : B4.getD (x.toNat + 0) (OfNat.ofNat 0) = b := by
    have h := g3 (x.toNat + 0)
    have hg2 := g2 (x.toNat + 0)
    have hg1 := g1 (x.toNat + 0)
    rw [if_neg (by omega)] at h
    rw [if_neg (by omega)] at hg2
    rw [if_pos (by omega), show x.toNat + 0 - x.toNat = 0 by omega] at hg1
    rw [hg2, hg1] at h
    exact h
  have q2 : B4.getD (x.toNat + 33) (OfNat.ofNat 0) = b := by
    have h := g3 (x.toNat + 33)
    rw [if_pos (by omega), Nat.sub_self] at h
    exact h
  have q3 : ((x + BitVec.ofInt 64 34 + BitVec.ofInt 64 31) / BitVec.ofInt 64 32 * BitVec.ofInt 64 32).toNat = B4.length := by
    rw [BitVec.toNat_mul, BitVec.toNat_udiv, BitVec.toNat_add, BitVec.toNat_add, c34, c31, c32, L3]; omega
  have q4 : wrapI .i64 ((B4.length : Nat) : Int) = (B4.length : Int) := wrapI_nat (by omega)
  have zz : bytesOf (ByteArray.mk #[OfNat.ofNat 0, OfNat.ofNat 0, OfNat.ofNat 0]) = [0, 0, 0] := rfl
  rw [p1, p2, q1, q2, q3, q4, k3, W4.ofBytes_bytes, zz]
  simp only [wp_chk_true, wp_chk, wp_leaf, wp_br, ret_bool, Bool.and_true, Bool.true_and, beq_self_eq_true, Bool.and_self, and_true, true_and, true_implies, Bool.true_eq_false, false_implies, implies_true]
end
end Go.Proofs.Ytajbaocfdlopbaa.K
end
