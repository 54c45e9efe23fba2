/- The functions that this law reaches: what each comes to. -/
import Derived.Test.YtklgiongdiojcaaCBBits2
set_option linter.unusedSimpArgs false
set_option linter.unusedVariables false
section
open Go Go.Lh Go.Lh.Bl
namespace Go.Proofs.Ytklgiongdiojcaa.K
noncomputable section
set_option maxRecDepth 100000
def zN : List (BitVec 8) := @ite _ True (Classical.propDecidable True) zeros []
theorem zN_eq : zN = zeros := if_pos trivial
def nul_read : List V → Heap → Option Unit := fun a h => match a, h with | [], [] => some () | _, _ => none
theorem nul_ok {f : Unit → Tr (Fin × Heap)} {i : FuncId} (H : ∀ r, (f ()).is r → LFn Pr i [] [] r.1 r.2) : ∀ args h r, (ctT nul_read f args h).is r → LFn Pr i args h r.1 r.2 := by
  refine ctT_ok (fun a => []) (fun a => []) ?_ (fun _ => H)
  intro args h a e
  unfold nul_read at e
  split at e <;> cases e
  exact ⟨rfl, rfl⟩
def KB2 : KnownT := (11, ctT nul_read fun _ => .leaf (.ret (.str zN), [])) :: (21, ctT nul_read fun _ => .leaf (.ret (.str zN), [])) ::
  (8, ctT two_read fun a => .chk (isTxt a.s) (.leaf (.ret (.tup [.str (addS a.xs a.s), .bool (is256 a.xs)]), []))) :: (12, ctT two_read fun a => .chk (isTxt a.s) (.leaf (.ret (.tup [.str (addS a.xs a.s), .bool (is256 a.xs)]), []))) ::
  (9, ctT two_read fun a => .leaf (.ret (.tup [.str (joinS a.xs a.s), .bool (joinO a.xs a.s)]), [])) :: (13, ctT two_read fun a => .leaf (.ret (.tup [.str (joinS a.xs a.s), .bool (joinO a.xs a.s)]), [])) :: KB1
theorem KB2_ok : KOkT Pr KB2 :=
  KOkT.cons (Enters.of (fn := Go.Proofs.Try.f11) (by kernel_rfl) (by kernel_rfl)) (nul_ok (fun r h => by rw [Tr.is_leaf] at h; subst h; rw [zN_eq]; exact emp_fn))
  (KOkT.cons (Enters.of (fn := Go.Proofs.Try.f21) (by kernel_rfl) (by kernel_rfl)) (nul_ok (fun r h => by rw [Tr.is_leaf] at h; subst h; rw [zN_eq]; exact remp_fn))
  (KOkT.cons (Enters.of (fn := Go.Proofs.Try.f8) (by kernel_rfl) (by kernel_rfl)) (two_ok (fun a r h => by rw [Tr.is_chk, Tr.is_leaf] at h; obtain ⟨h1, rfl⟩ := h; exact add_fn a.xs a.s (isTxt_iff.1 h1)))
  (KOkT.cons (Enters.of (fn := Go.Proofs.Try.f12) (by kernel_rfl) (by kernel_rfl)) (two_ok (fun a r h => by rw [Tr.is_chk, Tr.is_leaf] at h; obtain ⟨h1, rfl⟩ := h; exact radd_fn a.xs a.s (isTxt_iff.1 h1)))
  (KOkT.cons (Enters.of (fn := Go.Proofs.Try.f9) (by kernel_rfl) (by kernel_rfl)) (two_ok (fun a r h => by rw [Tr.is_leaf] at h; subst h; exact join_fn a.xs a.s))
  (KOkT.cons (Enters.of (fn := Go.Proofs.Try.f13) (by kernel_rfl) (by kernel_rfl)) (two_ok (fun a r h => by rw [Tr.is_leaf] at h; subst h; exact rjoin_fn a.xs a.s)) KB1_ok)))))
def OB2 : OrcT := autoT Pr noExt KB2 [] 2
theorem OB2_sound : OrcSound Pr OB2.o := autoT_sound mixed noExt_ok KB2_ok (by kernel_rfl) 2
theorem rhas_x (xs : List (BitVec 8)) (s : List (BitVec 8)) : Tr.prune (Tr.Sh.any.l.l.both Tr.Sh.any.r.r)
  (execBF Pr OB2 noLoopsT (100 : Nat) Go.Proofs.Try.f14 [V.str xs, V.str s] []) =
  Tr.chk (isTxt s && true && true)
  (Tr.br (is256 xs) (Tr.chk true (Tr.leaf (Fin.ret (V.bool (addS xs s == xs)), [])))
    (Tr.chk true (Tr.leaf (Fin.ret (V.bool false), [])))) := by kernel_rfl
/-- is a text there: both -/
theorem addS_len {xs s : List (BitVec 8)} (h : xs.length = 256) : addS xs s = setL xs (sumO s) ∧ (addS xs s).length = 256 := by
  have e : addS xs s = addB xs s := if_pos h
  rw [e, addB_eq, lenL]; exact ⟨rfl, h⟩
theorem rhas_fn (xs s : List (BitVec 8)) (hs : s.length ≤ 140737488351232) : LFn Pr 14 [.str xs, .str s] [] (.ret (.bool (hasB xs s))) [] := by
  refine fnT OB2_sound mixed (by kernel_rfl) LoopsOk.noneT (rhas_x xs s) ?_
  rw [isTxt_iff.2 hs]
  refine wp_chk_true.2 (wp_br.2 ⟨fun h => wp_chk_true.2 ?_, fun h => wp_chk_true.2 ?_⟩)
  · have hx := is256_iff.1 h
    have e : (addS xs s == xs) = hasB xs s := by
      rw [hasB_eq, hasV, decide_eq_true hx, Bool.true_and, Bool.eq_iff_iff, beq_iff_eq, has_iff_set _ _ hx, (addS_len hx).1]
    rw [e]; exact rfl
  · have hx : xs.length ≠ 256 := by intro e; rw [is256_iff.2 e] at h; cases h
    have e : hasB xs s = false := by rw [hasB_eq, hasV, decide_eq_false hx, Bool.false_and]
    rw [e]; exact rfl
def sx : List (BitVec 8) := [120#8]
def sSh : List (BitVec 8) := [115#8, 104#8, 111#8, 114#8, 116#8]
theorem ex_v : Tr.prune ((((Tr.Sh.any.l.both Tr.Sh.any.r).l.l.both Tr.Sh.any.r.r.r.r).l.both
      Tr.Sh.any.r.r.r.r.r.r).both
  Tr.Sh.any.r.r.r.r.r.r.r)
  (execBF Pr OB2 noLoopsT (100 : Nat) Go.Proofs.Try.f7 [] []) =
  Tr.chk ((isTxt sx && (true && (true && (true && (true && true))))) && (isTxt sx && (true && (true && (true && (true && true)))) && (true && (true && true))))
  (Tr.br (decide ((zN.length : Int) = 256))
    (Tr.chk true
      (Tr.br (is256 zN)
        (Tr.chk (isTxt sx && (true && true))
          (Tr.br (hasB (addS zN sx) sx)
            (Tr.chk (isTxt sx && true)
              (Tr.br (!(hasB zN sx))
                (Tr.chk true (Tr.leaf (Fin.ret (V.bool (!(is256 sSh))), [])))
                (Tr.chk true (Tr.leaf (Fin.ret (V.bool false), [])))))
            (Tr.chk true (Tr.leaf (Fin.ret (V.bool false), [])))))
        (Tr.chk true (Tr.leaf (Fin.ret (V.bool false), [])))))
    (Tr.chk true (Tr.leaf (Fin.ret (V.bool false), [])))) := by kernel_rfl
theorem hasL_zeros (h : List (BitVec 8)) : hasL zeros h = false := by
  have e : ∀ k b, has1 zeros k b = false := by intro k b; unfold has1; rw [Bl.zeros_get]; simp
  unfold hasL; rw [e]; rfl
theorem ex_fn : LFn Pr 7 [] [] (.ret (.bool true)) [] := by
  refine fnT OB2_sound mixed (by kernel_rfl) LoopsOk.noneT ex_v ?_
  have l0 : zN.length = 256 := by rw [zN_eq]; exact zeros_len
  have t1 : isTxt sx = true := isTxt_iff.2 (by decide)
  have t2 : is256 zN = true := is256_iff.2 l0
  have t3 : is256 sSh = false := by rw [← Bool.not_eq_true, is256_iff]; decide
  have t4 : hasB (addS zN sx) sx = true := by rw [hasB_eq, hasV, decide_eq_true (addS_len l0).2, Bool.true_and, (addS_len l0).1]; exact has_set _ _ l0
  have t5 : hasB zN sx = false := by rw [hasB_eq, hasV, zN_eq, hasL_zeros, Bool.and_false]
  have t6 : decide ((zN.length : Int) = 256) = true := decide_eq_true (by rw [l0]; rfl)
  rw [t1, t2, t3, t4, t5, t6]
  refine ⟨rfl, fun _ => ⟨rfl, fun _ => ⟨rfl, fun _ => ⟨rfl, fun _ => ⟨rfl, rfl⟩, fun h => ?_⟩, fun h => ?_⟩, fun h => ?_⟩, fun h => ?_⟩ <;> cases h
def KB3 : KnownT := (7, ctT nul_read fun _ => .leaf (.ret (.bool true), [])) :: (14, ctT two_read fun a => .chk (isTxt a.s) (.leaf (.ret (.bool (hasB a.xs a.s)), []))) :: KB2
theorem KB3_ok : KOkT Pr KB3 := KOkT.cons (Enters.of (fn := Go.Proofs.Try.f7) (by kernel_rfl) (by kernel_rfl)) (nul_ok (fun r h => by rw [Tr.is_leaf] at h; subst h; exact ex_fn))
  (KOkT.cons (Enters.of (fn := Go.Proofs.Try.f14) (by kernel_rfl) (by kernel_rfl)) (two_ok (fun a r h => by rw [Tr.is_chk, Tr.is_leaf] at h; obtain ⟨h1, rfl⟩ := h; exact rhas_fn a.xs a.s (isTxt_iff.1 h1))) KB2_ok)
def OB3 : OrcT := autoT Pr noExt KB3 [] 2
theorem OB3_sound : OrcSound Pr OB3.o := autoT_sound mixed noExt_ok KB3_ok (by kernel_rfl) 2
theorem bhas_x (s : List (BitVec 8)) (t : List (BitVec 8)) (b : List (BitVec 8)) : Tr.prune ((((((Tr.Sh.any.both
                                          Tr.Sh.any).l.l.both
                                  Tr.Sh.any.r.r.r).l.l.both
                          Tr.Sh.any.r.r.r.r.r.r).l.l.both
                  Tr.Sh.any.r.r.r.r.r.r.r.r.r).l.l.both
          Tr.Sh.any.r.r.r.r.r.r.r.r.r.r.r.r).l.l.l.r)
  (execBF Pr OB3 noLoopsT (100 : Nat) Go.Proofs.Try.f3 [V.str s, V.str t, V.str b] []) =
  Tr.chk
  (decide
            ((0 : Int) ≤
              (some (if (100 : Int) < (↑s.length : Int) then (100 : Int) else (↑s.length : Int))).getD
                (↑s.length : Int)) &&
          decide
            ((some (if (100 : Int) < (↑s.length : Int) then (100 : Int) else (↑s.length : Int))).getD
                (↑s.length : Int) ≤
              (↑s.length : Int)) &&
        true &&
      (decide
              ((0 : Int) ≤
                (some (if (100 : Int) < (↑t.length : Int) then (100 : Int) else (↑t.length : Int))).getD
                  (↑t.length : Int)) &&
            decide
              ((some (if (100 : Int) < (↑t.length : Int) then (100 : Int) else (↑t.length : Int))).getD
                  (↑t.length : Int) ≤
                (↑t.length : Int)) &&
          true &&
        (decide (b.length + (256 : Nat) ≤ (9223372036854775807 : Nat)) &&
            (decide
                ((some (256 : Int)).getD
                    (↑(b ++
                            List.take (256 : Nat)
                              (List.replicate (256 : Nat) (BitVec.ofInt (8 : Nat) (0 : Int)))).length :
                      Int) ≤
                  (↑(b ++
                          List.take (256 : Nat)
                            (List.replicate (256 : Nat) (BitVec.ofInt (8 : Nat) (0 : Int)))).length :
                    Int)) &&
              true) &&
          (isTxt
                (List.take
                  ((some (if (100 : Int) < (↑s.length : Int) then (100 : Int) else (↑s.length : Int))).getD
                      (↑s.length : Int)).toNat
                  s) &&
              true &&
            (isTxt
                  (List.take
                    ((some (if (100 : Int) < (↑t.length : Int) then (100 : Int) else (↑t.length : Int))).getD
                        (↑t.length : Int)).toNat
                    t) &&
                true &&
              (isTxt
                    (List.take
                      ((some (if (100 : Int) < (↑t.length : Int) then (100 : Int) else (↑t.length : Int))).getD
                          (↑t.length : Int)).toNat
                      t) &&
                  true &&
                (isTxt
                      (List.take
                        ((some (if (100 : Int) < (↑s.length : Int) then (100 : Int) else (↑s.length : Int))).getD
                            (↑s.length : Int)).toNat
                        s) &&
                    true &&
                  (isTxt
                        (List.take
                          ((some (if (100 : Int) < (↑s.length : Int) then (100 : Int) else (↑s.length : Int))).getD
                              (↑s.length : Int)).toNat
                          s) &&
                      true &&
                    true))))))) &&
    (isTxt
        (List.take
          ((some (if (100 : Int) < (↑s.length : Int) then (100 : Int) else (↑s.length : Int))).getD
              (↑s.length : Int)).toNat
          s) &&
      true))
  (Tr.br
    (hasB
      (addS
        (addS
          (List.take
            ((some (256 : Int)).getD
                (↑(b ++ List.take (256 : Nat) (List.replicate (256 : Nat) (BitVec.ofInt (8 : Nat) (0 : Int)))).length :
                  Int)).toNat
            (b ++ List.take (256 : Nat) (List.replicate (256 : Nat) (BitVec.ofInt (8 : Nat) (0 : Int)))))
          (List.take
            ((some (if (100 : Int) < (↑s.length : Int) then (100 : Int) else (↑s.length : Int))).getD
                (↑s.length : Int)).toNat
            s))
        (List.take
          ((some (if (100 : Int) < (↑t.length : Int) then (100 : Int) else (↑t.length : Int))).getD
              (↑t.length : Int)).toNat
          t))
      (List.take
        ((some (if (100 : Int) < (↑s.length : Int) then (100 : Int) else (↑s.length : Int))).getD
            (↑s.length : Int)).toNat
        s))
    (Tr.chk
      (isTxt
          (List.take
            ((some (if (100 : Int) < (↑t.length : Int) then (100 : Int) else (↑t.length : Int))).getD
                (↑t.length : Int)).toNat
            t) &&
        true)
      (Tr.br
        (hasB
          (addS
            (addS
              (List.take
                ((some (256 : Int)).getD
                    (↑(b ++
                            List.take (256 : Nat)
                              (List.replicate (256 : Nat) (BitVec.ofInt (8 : Nat) (0 : Int)))).length :
                      Int)).toNat
                (b ++ List.take (256 : Nat) (List.replicate (256 : Nat) (BitVec.ofInt (8 : Nat) (0 : Int)))))
              (List.take
                ((some (if (100 : Int) < (↑s.length : Int) then (100 : Int) else (↑s.length : Int))).getD
                    (↑s.length : Int)).toNat
                s))
            (List.take
              ((some (if (100 : Int) < (↑t.length : Int) then (100 : Int) else (↑t.length : Int))).getD
                  (↑t.length : Int)).toNat
              t))
          (List.take
            ((some (if (100 : Int) < (↑t.length : Int) then (100 : Int) else (↑t.length : Int))).getD
                (↑t.length : Int)).toNat
            t))
        (Tr.chk true
          (Tr.br
            (addS
                (addS
                  (List.take
                    ((some (256 : Int)).getD
                        (↑(b ++
                                List.take (256 : Nat)
                                  (List.replicate (256 : Nat) (BitVec.ofInt (8 : Nat) (0 : Int)))).length :
                          Int)).toNat
                    (b ++ List.take (256 : Nat) (List.replicate (256 : Nat) (BitVec.ofInt (8 : Nat) (0 : Int)))))
                  (List.take
                    ((some (if (100 : Int) < (↑s.length : Int) then (100 : Int) else (↑s.length : Int))).getD
                        (↑s.length : Int)).toNat
                    s))
                (List.take
                  ((some (if (100 : Int) < (↑t.length : Int) then (100 : Int) else (↑t.length : Int))).getD
                      (↑t.length : Int)).toNat
                  t) ==
              addS
                (addS
                  (List.take
                    ((some (256 : Int)).getD
                        (↑(b ++
                                List.take (256 : Nat)
                                  (List.replicate (256 : Nat) (BitVec.ofInt (8 : Nat) (0 : Int)))).length :
                          Int)).toNat
                    (b ++ List.take (256 : Nat) (List.replicate (256 : Nat) (BitVec.ofInt (8 : Nat) (0 : Int)))))
                  (List.take
                    ((some (if (100 : Int) < (↑t.length : Int) then (100 : Int) else (↑t.length : Int))).getD
                        (↑t.length : Int)).toNat
                    t))
                (List.take
                  ((some (if (100 : Int) < (↑s.length : Int) then (100 : Int) else (↑s.length : Int))).getD
                      (↑s.length : Int)).toNat
                  s))
            (Tr.chk true
              (Tr.br
                (addS
                    (addS
                      (addS
                        (List.take
                          ((some (256 : Int)).getD
                              (↑(b ++
                                      List.take (256 : Nat)
                                        (List.replicate (256 : Nat) (BitVec.ofInt (8 : Nat) (0 : Int)))).length :
                                Int)).toNat
                          (b ++ List.take (256 : Nat) (List.replicate (256 : Nat) (BitVec.ofInt (8 : Nat) (0 : Int)))))
                        (List.take
                          ((some (if (100 : Int) < (↑s.length : Int) then (100 : Int) else (↑s.length : Int))).getD
                              (↑s.length : Int)).toNat
                          s))
                      (List.take
                        ((some (if (100 : Int) < (↑t.length : Int) then (100 : Int) else (↑t.length : Int))).getD
                            (↑t.length : Int)).toNat
                        t))
                    (List.take
                      ((some (if (100 : Int) < (↑s.length : Int) then (100 : Int) else (↑s.length : Int))).getD
                          (↑s.length : Int)).toNat
                      s) ==
                  addS
                    (addS
                      (List.take
                        ((some (256 : Int)).getD
                            (↑(b ++
                                    List.take (256 : Nat)
                                      (List.replicate (256 : Nat) (BitVec.ofInt (8 : Nat) (0 : Int)))).length :
                              Int)).toNat
                        (b ++ List.take (256 : Nat) (List.replicate (256 : Nat) (BitVec.ofInt (8 : Nat) (0 : Int)))))
                      (List.take
                        ((some (if (100 : Int) < (↑s.length : Int) then (100 : Int) else (↑s.length : Int))).getD
                            (↑s.length : Int)).toNat
                        s))
                    (List.take
                      ((some (if (100 : Int) < (↑t.length : Int) then (100 : Int) else (↑t.length : Int))).getD
                          (↑t.length : Int)).toNat
                      t))
                (Tr.chk true
                  (Tr.br
                    (joinS
                        (addS
                          (List.take
                            ((some (256 : Int)).getD
                                (↑(b ++
                                        List.take (256 : Nat)
                                          (List.replicate (256 : Nat) (BitVec.ofInt (8 : Nat) (0 : Int)))).length :
                                  Int)).toNat
                            (b ++
                              List.take (256 : Nat) (List.replicate (256 : Nat) (BitVec.ofInt (8 : Nat) (0 : Int)))))
                          (List.take
                            ((some (if (100 : Int) < (↑s.length : Int) then (100 : Int) else (↑s.length : Int))).getD
                                (↑s.length : Int)).toNat
                            s))
                        (addS
                          (List.take
                            ((some (256 : Int)).getD
                                (↑(b ++
                                        List.take (256 : Nat)
                                          (List.replicate (256 : Nat) (BitVec.ofInt (8 : Nat) (0 : Int)))).length :
                                  Int)).toNat
                            (b ++
                              List.take (256 : Nat) (List.replicate (256 : Nat) (BitVec.ofInt (8 : Nat) (0 : Int)))))
                          (List.take
                            ((some (if (100 : Int) < (↑t.length : Int) then (100 : Int) else (↑t.length : Int))).getD
                                (↑t.length : Int)).toNat
                            t)) ==
                      addS
                        (addS
                          (List.take
                            ((some (256 : Int)).getD
                                (↑(b ++
                                        List.take (256 : Nat)
                                          (List.replicate (256 : Nat) (BitVec.ofInt (8 : Nat) (0 : Int)))).length :
                                  Int)).toNat
                            (b ++
                              List.take (256 : Nat) (List.replicate (256 : Nat) (BitVec.ofInt (8 : Nat) (0 : Int)))))
                          (List.take
                            ((some (if (100 : Int) < (↑s.length : Int) then (100 : Int) else (↑s.length : Int))).getD
                                (↑s.length : Int)).toNat
                            s))
                        (List.take
                          ((some (if (100 : Int) < (↑t.length : Int) then (100 : Int) else (↑t.length : Int))).getD
                              (↑t.length : Int)).toNat
                          t))
                    (Tr.chk true
                      (Tr.leaf
                        (Fin.ret
                            (V.bool
                              (joinO
                                (addS
                                  (List.take
                                    ((some (256 : Int)).getD
                                        (↑(b ++
                                                List.take (256 : Nat)
                                                  (List.replicate (256 : Nat)
                                                    (BitVec.ofInt (8 : Nat) (0 : Int)))).length :
                                          Int)).toNat
                                    (b ++
                                      List.take (256 : Nat)
                                        (List.replicate (256 : Nat) (BitVec.ofInt (8 : Nat) (0 : Int)))))
                                  (List.take
                                    ((some
                                            (if (100 : Int) < (↑s.length : Int) then (100 : Int)
                                            else (↑s.length : Int))).getD
                                        (↑s.length : Int)).toNat
                                    s))
                                (addS
                                  (List.take
                                    ((some (256 : Int)).getD
                                        (↑(b ++
                                                List.take (256 : Nat)
                                                  (List.replicate (256 : Nat)
                                                    (BitVec.ofInt (8 : Nat) (0 : Int)))).length :
                                          Int)).toNat
                                    (b ++
                                      List.take (256 : Nat)
                                        (List.replicate (256 : Nat) (BitVec.ofInt (8 : Nat) (0 : Int)))))
                                  (List.take
                                    ((some
                                            (if (100 : Int) < (↑t.length : Int) then (100 : Int)
                                            else (↑t.length : Int))).getD
                                        (↑t.length : Int)).toNat
                                    t)))),
                          [])))
                    (Tr.chk true (Tr.leaf (Fin.ret (V.bool false), [])))))
                (Tr.chk true (Tr.leaf (Fin.ret (V.bool false), [])))))
            (Tr.chk true (Tr.leaf (Fin.ret (V.bool false), [])))))
        (Tr.chk true (Tr.leaf (Fin.ret (V.bool false), [])))))
    (Tr.chk true (Tr.leaf (Fin.ret (V.bool false), [])))) := by kernel_rfl
theorem min100 (n : Nat) : 0 ≤ (if (100 : Int) < (n : Int) then (100 : Int) else (n : Int)) ∧ (if (100 : Int) < (n : Int) then (100 : Int) else (n : Int)) ≤ (n : Int) ∧ (if (100 : Int) < (n : Int) then (100 : Int) else (n : Int)) ≤ 100 := by
  split <;> omega
theorem bhas_fn (s t b : List (BitVec 8)) (hb : b.length ≤ 140737488351232) : LFn Pr 3 [.str s, .str t, .str b] [] (.ret (.bool true)) [] := by
  refine fnT OB3_sound mixed (by kernel_rfl) LoopsOk.noneT (bhas_x s t b) ?_
  simp only [Option.getD_some]
  obtain ⟨s0, s1, s2⟩ := min100 s.length
  obtain ⟨t0, t1, t2⟩ := min100 t.length
  revert s0 s1 s2 t0 t1 t2
  generalize (if (100 : Int) < (s.length : Int) then (100 : Int) else (s.length : Int)) = ms
  generalize (if (100 : Int) < (t.length : Int) then (100 : Int) else (t.length : Int)) = mt
  intro s0 s1 s2 t0 t1 t2
  have hS : (List.take ms.toNat s).length ≤ 100 := by rw [List.length_take]; omega
  have hT : (List.take mt.toNat t).length ≤ 100 := by rw [List.length_take]; omega
  have hz : List.take 256 (List.replicate 256 (BitVec.ofInt 8 0)) = zeros := by rw [take256 _ List.length_replicate]; rfl
  have hB : (List.take (256 : Int).toNat (b ++ zeros)).length = 256 := by rw [List.length_take, List.length_append, zeros_len]; omega
  have hBl : (b ++ zeros).length = b.length + 256 := by rw [List.length_append, zeros_len]
  rw [hz, hBl]
  revert hS hT hB
  generalize List.take ms.toNat s = S
  generalize List.take mt.toNat t = T
  generalize List.take (256 : Int).toNat (b ++ zeros) = B
  intro hS hT hB
  have tS : isTxt S = true := isTxt_iff.2 (by omega)
  have tT : isTxt T = true := isTxt_iff.2 (by omega)
  obtain ⟨x1, x2⟩ := addS_len (s := S) hB
  obtain ⟨p1, p2⟩ := addS_len (s := T) hB
  obtain ⟨y1, y2⟩ := addS_len (s := T) x2
  obtain ⟨q1, q2⟩ := addS_len (s := S) p2
  obtain ⟨a1, a2⟩ := addS_len (s := S) y2
  have c1 : hasB (addS (addS B S) T) S = true := by rw [hasB_eq, hasV, decide_eq_true y2, Bool.true_and, y1, x1]; exact has_set2 _ _ _ hB
  have c2 : hasB (addS (addS B S) T) T = true := by rw [hasB_eq, hasV, decide_eq_true y2, Bool.true_and, y1]; exact has_set _ _ x2
  have c3 : (addS (addS B S) T == addS (addS B T) S) = true := by rw [beq_iff_eq, y1, x1, q1, p1]; exact set_comm _ _ _ hB
  have c4 : (addS (addS (addS B S) T) S == addS (addS B S) T) = true := by rw [beq_iff_eq, a1, y1, x1]; exact set_again _ _ _ hB
  have c5 : (joinS (addS B S) (addS B T) == addS (addS B S) T) = true := by
    rw [beq_iff_eq, show joinS (addS B S) (addS B T) = joinL (addS B S) (addS B T) from if_pos ⟨x2, p2⟩, joinL_eq, y1, x1, p1]
    exact join_set _ _ _ hB
  have c6 : joinO (addS B S) (addS B T) = true := joinO_iff.2 ⟨x2, p2⟩
  rw [tS, tT, c1, c2, c3, c4, c5, c6]
  refine ⟨?_, fun _ => ⟨rfl, fun _ => ⟨rfl, fun _ => ⟨rfl, fun _ => ⟨rfl, fun _ => ⟨rfl, rfl⟩, fun h => ?_⟩, fun h => ?_⟩, fun h => ?_⟩, fun h => ?_⟩, fun h => ?_⟩
  · simp only [Bool.and_eq_true, decide_eq_true_eq, Bool.and_true, true_and]
    omega
  all_goals cases h
end
end Go.Proofs.Ytklgiongdiojcaa.K
end
section
open Go Go.Lh Go.Lh.Bl
namespace Go.Proofs.Ytklgiongdiojcaa.K
noncomputable section
set_option maxRecDepth 100000
theorem bb_x (s : List (BitVec 8)) (b : List (BitVec 8)) (x : List (BitVec 8)) (hd : Bool) (ok : Bool) (n : Nat) (i : Nat) : Tr.prune (Tr.Sh.any.r.l.l.l.l.l.l.l.l.both
  Tr.Sh.any)
  (execBN Pr OB3 noLoopsT (100 : Nat) (0 : Nat)
  [(0 : Nat), (1 : Nat), (5 : Nat), (6 : Nat), (7 : Nat), (8 : Nat), (9 : Nat)]
  [(0 : Nat), (1 : Nat), (5 : Nat), (6 : Nat), (7 : Nat), (8 : Nat)] (loopBody Go.Proofs.Try.f4 (0 : Nat))
  [((0 : Nat), V.str s), ((1 : Nat), V.str b), ((5 : Nat), V.bool hd), ((6 : Nat), V.str x), ((7 : Nat), V.bool ok),
    ((8 : Nat), V.int IntKind.i64 (↑n : Int)), ((9 : Nat), V.int IntKind.i64 (↑i : Int))]
  []) =
  Tr.chk true
  (Tr.br (decide ((↑i : Int) < (↑x.length : Int)))
    (Tr.chk
      (decide ((↑i : Int) < (↑x.length : Int)) && true && true && true &&
        (decide ((↑i : Int) < (↑x.length : Int)) && true && true && true &&
          (decide ((↑i : Int) < (↑x.length : Int)) && true && true && true &&
            (decide ((↑i : Int) < (↑x.length : Int)) && true && true && true &&
              (decide ((↑i : Int) < (↑x.length : Int)) && true && true && true &&
                (decide ((↑i : Int) < (↑x.length : Int)) && true && true && true &&
                  (decide ((↑i : Int) < (↑x.length : Int)) && true && true && true &&
                    (decide ((↑i : Int) < (↑x.length : Int)) && true && true && true && true))))))))
      (Tr.leaf
        (X.normal,
          [((0 : Nat), V.str s), ((1 : Nat), V.str b), ((5 : Nat), V.bool hd), ((6 : Nat), V.str x),
            ((7 : Nat), V.bool ok),
            ((8 : Nat),
              V.int IntKind.i64
                (wrapI IntKind.i64
                  (wrapI IntKind.i64
                      (wrapI IntKind.i64
                          (wrapI IntKind.i64
                              (wrapI IntKind.i64
                                  (wrapI IntKind.i64
                                      (wrapI IntKind.i64
                                          (wrapI IntKind.i64
                                              ((↑n : Int) +
                                                (↑(x.getD i (OfNat.ofNat (0 : Nat)) >>> (0 : Nat) &&&
                                                        BitVec.ofInt (8 : Nat) (1 : Int)).toNat :
                                                  Int)) +
                                            (↑(x.getD i (OfNat.ofNat (0 : Nat)) >>> (1 : Nat) &&&
                                                    BitVec.ofInt (8 : Nat) (1 : Int)).toNat :
                                              Int)) +
                                        (↑(x.getD i (OfNat.ofNat (0 : Nat)) >>> (2 : Nat) &&&
                                                BitVec.ofInt (8 : Nat) (1 : Int)).toNat :
                                          Int)) +
                                    (↑(x.getD i (OfNat.ofNat (0 : Nat)) >>> (3 : Nat) &&&
                                            BitVec.ofInt (8 : Nat) (1 : Int)).toNat :
                                      Int)) +
                                (↑(x.getD i (OfNat.ofNat (0 : Nat)) >>> (4 : Nat) &&&
                                        BitVec.ofInt (8 : Nat) (1 : Int)).toNat :
                                  Int)) +
                            (↑(x.getD i (OfNat.ofNat (0 : Nat)) >>> (5 : Nat) &&&
                                    BitVec.ofInt (8 : Nat) (1 : Int)).toNat :
                              Int)) +
                        (↑(x.getD i (OfNat.ofNat (0 : Nat)) >>> (6 : Nat) &&& BitVec.ofInt (8 : Nat) (1 : Int)).toNat :
                          Int)) +
                    (↑(x.getD i (OfNat.ofNat (0 : Nat)) >>> (7 : Nat) &&& BitVec.ofInt (8 : Nat) (1 : Int)).toNat :
                      Int)))),
            ((9 : Nat), V.int IntKind.i64 (wrapI IntKind.i64 ((↑i : Int) + (1 : Int))))],
          [])))
    (Tr.leaf
      (X.exit (0 : Nat),
        [((0 : Nat), V.str s), ((1 : Nat), V.str b), ((5 : Nat), V.bool hd), ((6 : Nat), V.str x),
          ((7 : Nat), V.bool ok), ((8 : Nat), V.int IntKind.i64 (↑n : Int))],
        []))) := by kernel_rfl
structure BBS where
  s : List (BitVec 8)
  b : List (BitVec 8)
  hd : Bool
  x : List (BitVec 8)
  ok : Bool
def cntN (x : List (BitVec 8)) : Nat → Nat
  | 0 => 0
  | i + 1 => cntN x i + pop (x.getD i 0)
theorem bit_le (y : BitVec 8) (k : Nat) : (y >>> k &&& BitVec.ofInt 8 1).toNat ≤ 1 := by
  rw [BitVec.toNat_and]
  exact Nat.and_le_right
theorem pop_eq (y : BitVec 8) : pop y = (y >>> 0 &&& BitVec.ofInt 8 1).toNat + (y >>> 1 &&& BitVec.ofInt 8 1).toNat + (y >>> 2 &&& BitVec.ofInt 8 1).toNat + (y >>> 3 &&& BitVec.ofInt 8 1).toNat + (y >>> 4 &&& BitVec.ofInt 8 1).toNat + (y >>> 5 &&& BitVec.ofInt 8 1).toNat + (y >>> 6 &&& BitVec.ofInt 8 1).toNat + (y >>> 7 &&& BitVec.ofInt 8 1).toNat := by
  have : pop y = 0 + (y >>> 0 &&& BitVec.ofInt 8 1).toNat + (y >>> 1 &&& BitVec.ofInt 8 1).toNat + (y >>> 2 &&& BitVec.ofInt 8 1).toNat + (y >>> 3 &&& BitVec.ofInt 8 1).toNat + (y >>> 4 &&& BitVec.ofInt 8 1).toNat + (y >>> 5 &&& BitVec.ofInt 8 1).toNat + (y >>> 6 &&& BitVec.ofInt 8 1).toNat + (y >>> 7 &&& BitVec.ofInt 8 1).toNat := rfl
  rw [this, Nat.zero_add]
theorem pop_le (y : BitVec 8) : pop y ≤ 8 := by
  rw [pop_eq]
  have := bit_le y 0; have := bit_le y 1; have := bit_le y 2; have := bit_le y 3; have := bit_le y 4; have := bit_le y 5; have := bit_le y 6; have := bit_le y 7
  omega
theorem cntN_le (x : List (BitVec 8)) : ∀ i, cntN x i ≤ 8 * i
  | 0 => Nat.le_refl _
  | i + 1 => by have := cntN_le x i; have := pop_le (x.getD i 0); simp only [cntN]; omega
theorem cntN_cons (y : BitVec 8) (x : List (BitVec 8)) : ∀ i, cntN (y :: x) (i + 1) = pop y + cntN x i
  | 0 => by simp [cntN]
  | i + 1 => by
    have := cntN_cons y x i
    rw [cntN, this]
    simp [cntN, Nat.add_assoc]
theorem cntN_all : ∀ x : List (BitVec 8), cntN x x.length = cnt x
  | [] => rfl
  | y :: x => by
    rw [List.length_cons, cntN_cons, cntN_all x]
    simp [cnt]
def cntB (x : List (BitVec 8)) : Int := @ite _ True (Classical.propDecidable True) (cnt x : Int) 0
theorem cntB_eq (x : List (BitVec 8)) : cntB x = (cnt x : Int) := if_pos trivial
def bb_S (a : BBS) (i : Nat) : Fr × Heap := ([(0,.str a.s),(1,.str a.b),(5,.bool a.hd),(6,.str a.x),(7,.bool a.ok),(8,.int .i64 ((cntN a.x i : Nat) : Int)),(9,.int .i64 (i : Int))], [])
def bb_read : Fr → Heap → Option BBS := fun f h => match f, h with
  | [(0,.str s),(1,.str b),(5,.bool hd),(6,.str x),(7,.bool ok),(8,.int .i64 0),(9,.int .i64 0)], [] => some ⟨s, b, hd, x, ok⟩
  | _, _ => none
def bb_ok (a : BBS) : Bool := is256 a.x
def bb_E (a : BBS) : Tr (X × Fr × Heap) := .leaf (.exit 0, [(0,.str a.s),(1,.str a.b),(5,.bool a.hd),(6,.str a.x),(7,.bool a.ok),(8,.int .i64 (cntB a.x))], [])
def bb_s : SmT := whT 8 [0,1,5,6,7,8,9] bb_read bb_ok bb_E
theorem bb_at : SmAtT Pr Go.Proofs.Try.f4 0 bb_s 0 := by
  refine cntT_x OB3_sound mixed bb_S (fun _ => 256) (fun a i => bb_x a.s a.b a.x a.hd a.ok (cntN a.x i) i) (by kernel_rfl) (by kernel_rfl) (by kernel_rfl) LoopsOk.noneT ?_ ?_
  · intro f g a h
    unfold bb_read at h
    split at h <;> cases h
    rfl
  · rintro ⟨s, b, hd, x, ok⟩ q hok hq i hi
    have hx := is256_iff.1 hok
    rw [bb_E, Tr.is_leaf] at hq
    simp only at hq hi hx ⊢
    have hc := cntN_le x i
    have hp := pop_eq (x.getD i 0)
    simp only [wp_chk, wp_leaf, wp_br, hx, Bool.and_eq_true, decide_eq_true_eq, decide_eq_false_iff_not, Bool.and_true, true_and]
    refine ⟨fun h => ⟨by omega, .inl ⟨by omega, ?_⟩⟩, fun h => .inr ⟨fun h => (by cases h), ?_⟩⟩
    · have hz : x.getD i (OfNat.ofNat 0) = x.getD i 0 := rfl
      rw [hz]
      have e2 : wrapI .i64 ((i : Int) + 1) = ((i + 1 : Nat) : Int) := by rw [show ((i : Int) + 1) = ((i + 1 : Nat) : Int) by omega]; exact wrapI_nat (by omega)
      have e3 : bb_S ⟨s, b, hd, x, ok⟩ (i + 1) = ([(0,.str s),(1,.str b),(5,.bool hd),(6,.str x),(7,.bool ok),(8,.int .i64 ((cntN x i + pop (x.getD i 0) : Nat) : Int)),(9,.int .i64 ((i + 1 : Nat) : Int))], []) := rfl
      rw [e2, e3, hp]
      have w : ∀ (a b : Nat), a + b < 4000000 → wrapI .i64 ((a : Int) + (b : Int)) = ((a + b : Nat) : Int) := fun a b h => by rw [show (a : Int) + (b : Int) = ((a + b : Nat) : Int) by omega]; exact wrapI_nat (by omega)
      have g0 := bit_le (x.getD i 0) 0; have g1 := bit_le (x.getD i 0) 1; have g2 := bit_le (x.getD i 0) 2; have g3 := bit_le (x.getD i 0) 3; have g4 := bit_le (x.getD i 0) 4; have g5 := bit_le (x.getD i 0) 5; have g6 := bit_le (x.getD i 0) 6; have g7 := bit_le (x.getD i 0) 7
      revert g0 g1 g2 g3 g4 g5 g6 g7
      generalize (x.getD i 0 >>> 0 &&& BitVec.ofInt 8 1).toNat = b0
      generalize (x.getD i 0 >>> 1 &&& BitVec.ofInt 8 1).toNat = b1
      generalize (x.getD i 0 >>> 2 &&& BitVec.ofInt 8 1).toNat = b2
      generalize (x.getD i 0 >>> 3 &&& BitVec.ofInt 8 1).toNat = b3
      generalize (x.getD i 0 >>> 4 &&& BitVec.ofInt 8 1).toNat = b4
      generalize (x.getD i 0 >>> 5 &&& BitVec.ofInt 8 1).toNat = b5
      generalize (x.getD i 0 >>> 6 &&& BitVec.ofInt 8 1).toNat = b6
      generalize (x.getD i 0 >>> 7 &&& BitVec.ofInt 8 1).toNat = b7
      intro g0 g1 g2 g3 g4 g5 g6 g7
      have e4 : cntN x i + (b0 + b1 + b2 + b3 + b4 + b5 + b6 + b7) = cntN x i + b0 + b1 + b2 + b3 + b4 + b5 + b6 + b7 := by omega
      rw [w _ _ (by omega), w _ _ (by omega), w _ _ (by omega), w _ _ (by omega), w _ _ (by omega), w _ _ (by omega), w _ _ (by omega), w _ _ (by omega), e4]
    · have e : i = 256 := by omega
      rw [← hq, e, cntB_eq, ← cntN_all, hx]
theorem bb_Ls : LoopsOk Pr Go.Proofs.Try.f4 0 (smLT 0 [bb_s]).o := LoopsOk.one (by kernel_rfl) bb_at
theorem bbits_x (s : List (BitVec 8)) (b : List (BitVec 8)) : Tr.prune ((((((((Tr.Sh.any.l.l.l.l.both
                                                    Tr.Sh.any.l.r.r.r).l.both
                                              Tr.Sh.any.r.r).l.l.both
                                      Tr.Sh.any.r.r.r.r.r).l.l.l.l.both
                          Tr.Sh.any.r.r.r.r.r.r.r.r.r.r).l.both
                    Tr.Sh.any.r.r.r.r.r.r.r.r.r.r.r.r).l.both
              Tr.Sh.any.r.r.r.r.r.r.r.r.r.r.r.r.r.r).l.l.both
      Tr.Sh.any.r.r.r.r.r.r.r.r.r.r.r.r.r.r.r.r.r).l.r)
  (execBF Pr OB3 (smLT (0 : Nat) [bb_s]) (100 : Nat) Go.Proofs.Try.f4 [V.str s, V.str b] []) =
  Tr.chk
  (decide
            ((0 : Int) ≤
              (some (if (100 : Int) < (↑s.length : Int) then (100 : Int) else (↑s.length : Int))).getD
                (↑s.length : Int)) &&
          decide
            ((some (if (100 : Int) < (↑s.length : Int) then (100 : Int) else (↑s.length : Int))).getD
                (↑s.length : Int) ≤
              (↑s.length : Int)) &&
        true &&
      (isTxt
            (List.take
              ((some (if (100 : Int) < (↑s.length : Int) then (100 : Int) else (↑s.length : Int))).getD
                  (↑s.length : Int)).toNat
              s) &&
          true &&
        (bb_ok
            (BBS.mk
              (List.take
                ((some (if (100 : Int) < (↑s.length : Int) then (100 : Int) else (↑s.length : Int))).getD
                    (↑s.length : Int)).toNat
                s)
              b true
              (addS zN
                (List.take
                  ((some (if (100 : Int) < (↑s.length : Int) then (100 : Int) else (↑s.length : Int))).getD
                      (↑s.length : Int)).toNat
                  s))
              (is256 zN)) &&
          (isTxt
                (List.take
                  ((some (if (100 : Int) < (↑s.length : Int) then (100 : Int) else (↑s.length : Int))).getD
                      (↑s.length : Int)).toNat
                  s) &&
              true &&
            true))) &&
    true)
  (Tr.br (is256 zN)
    (Tr.chk true
      (Tr.br
        ((↑(addS zN
                  (List.take
                    ((some (if (100 : Int) < (↑s.length : Int) then (100 : Int) else (↑s.length : Int))).getD
                        (↑s.length : Int)).toNat
                    s)).length :
            Int) ==
          (256 : Int))
        (Tr.chk true
          (Tr.br
            (decide
              (cntB
                  (addS zN
                    (List.take
                      ((some (if (100 : Int) < (↑s.length : Int) then (100 : Int) else (↑s.length : Int))).getD
                          (↑s.length : Int)).toNat
                      s)) ≥
                (1 : Int)))
            (Tr.chk true
              (Tr.br
                (decide
                  (cntB
                      (addS zN
                        (List.take
                          ((some (if (100 : Int) < (↑s.length : Int) then (100 : Int) else (↑s.length : Int))).getD
                              (↑s.length : Int)).toNat
                          s)) ≤
                    (3 : Int)))
                (Tr.chk true
                  (Tr.br (is256 b == ((↑b.length : Int) == (256 : Int)))
                    (Tr.chk true
                      (Tr.br
                        (joinO
                            (addS zN
                              (List.take
                                ((some
                                        (if (100 : Int) < (↑s.length : Int) then (100 : Int)
                                        else (↑s.length : Int))).getD
                                    (↑s.length : Int)).toNat
                                s))
                            b ==
                          is256 b)
                        (Tr.chk true
                          (Tr.br (is256 b) (Tr.chk true (Tr.leaf (Fin.ret (V.bool true), [])))
                            (Tr.chk
                              (isTxt
                                  (List.take
                                    ((some
                                            (if (100 : Int) < (↑s.length : Int) then (100 : Int)
                                            else (↑s.length : Int))).getD
                                        (↑s.length : Int)).toNat
                                    s) &&
                                true)
                              (Tr.leaf
                                (Fin.ret
                                    (V.bool
                                      !hasB b
                                          (List.take
                                            ((some
                                                    (if (100 : Int) < (↑s.length : Int) then (100 : Int)
                                                    else (↑s.length : Int))).getD
                                                (↑s.length : Int)).toNat
                                            s)),
                                  [])))))
                        (Tr.chk true (Tr.leaf (Fin.ret (V.bool false), [])))))
                    (Tr.chk true (Tr.leaf (Fin.ret (V.bool false), [])))))
                (Tr.chk true (Tr.leaf (Fin.ret (V.bool false), [])))))
            (Tr.chk true (Tr.leaf (Fin.ret (V.bool false), [])))))
        (Tr.chk true (Tr.leaf (Fin.ret (V.bool false), [])))))
    (Tr.chk true (Tr.leaf (Fin.ret (V.bool false), [])))) := by kernel_rfl
theorem bbits_fn (s b : List (BitVec 8)) : LFn Pr 4 [.str s, .str b] [] (.ret (.bool true)) [] := by
  refine fnT OB3_sound mixed (by kernel_rfl) bb_Ls (bbits_x s b) ?_
  simp only [Option.getD_some]
  obtain ⟨s0, s1, s2⟩ := min100 s.length
  revert s0 s1 s2
  generalize (if (100 : Int) < (s.length : Int) then (100 : Int) else (s.length : Int)) = ms
  intro s0 s1 s2
  have hS : (List.take ms.toNat s).length ≤ 100 := by rw [List.length_take]; omega
  obtain ⟨S, hSe⟩ : ∃ S, List.take ms.toNat s = S := ⟨_, rfl⟩
  rw [hSe] at hS
  simp only [hSe]
  clear hSe
  have tS : isTxt S = true := isTxt_iff.2 (by omega)
  have l0 : zN.length = 256 := by rw [zN_eq]; exact zeros_len
  have t2 : is256 zN = true := is256_iff.2 l0
  obtain ⟨x1, x2⟩ := addS_len (s := S) l0
  have c0 : bb_ok ⟨S, b, true, addS zN S, is256 zN⟩ = true := is256_iff.2 x2
  obtain ⟨c, e1, cc⟩ : ∃ c : Nat, cntB (addS zN S) = (c : Int) ∧ 1 ≤ c ∧ c ≤ 3 := ⟨_, by rw [cntB_eq, x1, zN_eq], cnt_setL (sumO S)⟩
  have c1 : ((addS zN S).length : Int) == (256 : Int) := by rw [x2]; rfl
  have c2 : decide (cntB (addS zN S) ≥ 1) = true := decide_eq_true (by rw [e1]; omega)
  have c3 : decide (cntB (addS zN S) ≤ 3) = true := decide_eq_true (by rw [e1]; omega)
  have c4 : (is256 b == ((b.length : Int) == (256 : Int))) = true := by
    rw [beq_iff_eq, Bool.eq_iff_iff, is256_iff, beq_iff_eq]; omega
  have c5 : (joinO (addS zN S) b == is256 b) = true := by
    rw [beq_iff_eq, Bool.eq_iff_iff, is256_iff, joinO_iff]; exact ⟨fun h => h.2, fun h => ⟨x2, h⟩⟩
  rw [tS, t2]
  rw [t2] at c0
  rw [c0, c1, c2, c3, c4, c5]
  have br1 : ∀ {t u : Tr (Fin × Heap)} {Q : Fin × Heap → Prop}, t.wp Q → (Tr.br true t u).wp Q := fun h => wp_br.2 ⟨fun _ => h, fun e => by cases e⟩
  refine wp_chk.2 ⟨?_, br1 (wp_chk_true.2 (br1 (wp_chk_true.2 (br1 (wp_chk_true.2 (br1 (wp_chk_true.2 (br1 (wp_chk_true.2 (br1 (wp_chk_true.2 (wp_br.2 ⟨fun _ => wp_chk_true.2 (wp_leaf.2 rfl), fun hb => wp_chk_true.2 (wp_leaf.2 ?_)⟩))))))))))))⟩
  · simp only [Bool.and_eq_true, decide_eq_true_eq, Bool.and_true, true_and]
    omega
  · have hx : b.length ≠ 256 := by intro e; rw [is256_iff.2 e] at hb; cases hb
    have e : hasB b S = false := by rw [hasB_eq, hasV, decide_eq_false hx, Bool.false_and]
    rw [e]; exact rfl
end
end Go.Proofs.Ytklgiongdiojcaa.K
end
