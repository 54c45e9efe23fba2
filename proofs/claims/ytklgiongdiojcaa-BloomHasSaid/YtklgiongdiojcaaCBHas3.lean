/- The functions that this law reaches: what each comes to. -/
import Derived.Test.YtklgiongdiojcaaCBHas2
set_option linter.unusedSimpArgs false
set_option linter.unusedVariables false
section
open Go Go.Lh Go.Lh.Bl
namespace Go.Proofs.Ytklgiongdiojcaa.K
noncomputable section
set_option maxRecDepth 100000
def zN : List (BitVec 8) := @ite _ True (Classical.propDecidable True) zeros []
theorem zN_eq : zN = zeros := if_pos trivial
def nul_read : List V → Heap → Option Unit := fun a h => match a, h with | [], [] => some () | _, _ => none
theorem nul_ok {f : Unit → Tr (Fin × Heap)} {i : FuncId} (H : ∀ r, (f ()).is r → LFn Pr i [] [] r.1 r.2) : ∀ args h r, (ctT nul_read f args h).is r → LFn Pr i args h r.1 r.2 := by
  refine ctT_ok (fun a => []) (fun a => []) ?_ (fun _ => H)
  intro args h a e
  unfold nul_read at e
  split at e <;> cases e
  exact ⟨rfl, rfl⟩
def KB2 : KnownT := (11, ctT nul_read fun _ => .leaf (.ret (.str zN), [])) :: (21, ctT nul_read fun _ => .leaf (.ret (.str zN), [])) ::
  (8, ctT two_read fun a => .chk (isTxt a.s) (.leaf (.ret (.tup [.str (addS a.xs a.s), .bool (is256 a.xs)]), []))) :: (12, ctT two_read fun a => .chk (isTxt a.s) (.leaf (.ret (.tup [.str (addS a.xs a.s), .bool (is256 a.xs)]), []))) ::
  (9, ctT two_read fun a => .leaf (.ret (.tup [.str (joinS a.xs a.s), .bool (joinO a.xs a.s)]), [])) :: (13, ctT two_read fun a => .leaf (.ret (.tup [.str (joinS a.xs a.s), .bool (joinO a.xs a.s)]), [])) :: KB1
theorem KB2_ok : KOkT Pr KB2 :=
  KOkT.cons (Enters.of (fn := Go.Proofs.Try.f11) (by kernel_rfl) (by kernel_rfl)) (nul_ok (fun r h => by rw [Tr.is_leaf] at h; subst h; rw [zN_eq]; exact emp_fn))
  (KOkT.cons (Enters.of (fn := Go.Proofs.Try.f21) (by kernel_rfl) (by kernel_rfl)) (nul_ok (fun r h => by rw [Tr.is_leaf] at h; subst h; rw [zN_eq]; exact remp_fn))
  (KOkT.cons (Enters.of (fn := Go.Proofs.Try.f8) (by kernel_rfl) (by kernel_rfl)) (two_ok (fun a r h => by rw [Tr.is_chk, Tr.is_leaf] at h; obtain ⟨h1, rfl⟩ := h; exact add_fn a.xs a.s (isTxt_iff.1 h1)))
  (KOkT.cons (Enters.of (fn := Go.Proofs.Try.f12) (by kernel_rfl) (by kernel_rfl)) (two_ok (fun a r h => by rw [Tr.is_chk, Tr.is_leaf] at h; obtain ⟨h1, rfl⟩ := h; exact radd_fn a.xs a.s (isTxt_iff.1 h1)))
  (KOkT.cons (Enters.of (fn := Go.Proofs.Try.f9) (by kernel_rfl) (by kernel_rfl)) (two_ok (fun a r h => by rw [Tr.is_leaf] at h; subst h; exact join_fn a.xs a.s))
  (KOkT.cons (Enters.of (fn := Go.Proofs.Try.f13) (by kernel_rfl) (by kernel_rfl)) (two_ok (fun a r h => by rw [Tr.is_leaf] at h; subst h; exact rjoin_fn a.xs a.s)) KB1_ok)))))
def OB2 : OrcT := autoT Pr noExt KB2 [] 2
theorem OB2_sound : OrcSound Pr OB2.o := autoT_sound mixed noExt_ok KB2_ok (by kernel_rfl) 2
theorem rhas_x (xs : List (BitVec 8)) (s : List (BitVec 8)) : Tr.prune (Tr.Sh.any.l.l.both Tr.Sh.any.r.r)
  (execBF Pr OB2 noLoopsT (100 : Nat) Go.Proofs.Try.f14 [V.str xs, V.str s] []) =
  Tr.chk (isTxt s && true && true)
  (Tr.br (is256 xs) (Tr.chk true (Tr.leaf (Fin.ret (V.bool (addS xs s == xs)), [])))
    (Tr.chk true (Tr.leaf (Fin.ret (V.bool false), [])))) := by kernel_rfl
/-- is a text there: both -/
theorem addS_len {xs s : List (BitVec 8)} (h : xs.length = 256) : addS xs s = setL xs (sumO s) ∧ (addS xs s).length = 256 := by
  have e : addS xs s = addB xs s := if_pos h
  rw [e, addB_eq, lenL]; exact ⟨rfl, h⟩
theorem rhas_fn (xs s : List (BitVec 8)) (hs : s.length ≤ 140737488351232) : LFn Pr 14 [.str xs, .str s] [] (.ret (.bool (hasB xs s))) [] := by
  refine fnT OB2_sound mixed (by kernel_rfl) LoopsOk.noneT (rhas_x xs s) ?_
  rw [isTxt_iff.2 hs]
  refine wp_chk_true.2 (wp_br.2 ⟨fun h => wp_chk_true.2 ?_, fun h => wp_chk_true.2 ?_⟩)
  · have hx := is256_iff.1 h
    have e : (addS xs s == xs) = hasB xs s := by
      rw [hasB_eq, hasV, decide_eq_true hx, Bool.true_and, Bool.eq_iff_iff, beq_iff_eq, has_iff_set _ _ hx, (addS_len hx).1]
    rw [e]; exact rfl
  · have hx : xs.length ≠ 256 := by intro e; rw [is256_iff.2 e] at h; cases h
    have e : hasB xs s = false := by rw [hasB_eq, hasV, decide_eq_false hx, Bool.false_and]
    rw [e]; exact rfl
def sx : List (BitVec 8) := [120#8]
def sSh : List (BitVec 8) := [115#8, 104#8, 111#8, 114#8, 116#8]
theorem ex_v : Tr.prune ((((Tr.Sh.any.l.both Tr.Sh.any.r).l.l.both Tr.Sh.any.r.r.r.r).l.both
      Tr.Sh.any.r.r.r.r.r.r).both
  Tr.Sh.any.r.r.r.r.r.r.r)
  (execBF Pr OB2 noLoopsT (100 : Nat) Go.Proofs.Try.f7 [] []) =
  Tr.chk ((isTxt sx && (true && (true && (true && (true && true))))) && (isTxt sx && (true && (true && (true && (true && true)))) && (true && (true && true))))
  (Tr.br (decide ((zN.length : Int) = 256))
    (Tr.chk true
      (Tr.br (is256 zN)
        (Tr.chk (isTxt sx && (true && true))
          (Tr.br (hasB (addS zN sx) sx)
            (Tr.chk (isTxt sx && true)
              (Tr.br (!(hasB zN sx))
                (Tr.chk true (Tr.leaf (Fin.ret (V.bool (!(is256 sSh))), [])))
                (Tr.chk true (Tr.leaf (Fin.ret (V.bool false), [])))))
            (Tr.chk true (Tr.leaf (Fin.ret (V.bool false), [])))))
        (Tr.chk true (Tr.leaf (Fin.ret (V.bool false), [])))))
    (Tr.chk true (Tr.leaf (Fin.ret (V.bool false), [])))) := by kernel_rfl
theorem hasL_zeros (h : List (BitVec 8)) : hasL zeros h = false := by
  have e : ∀ k b, has1 zeros k b = false := by intro k b; unfold has1; rw [Bl.zeros_get]; simp
  unfold hasL; rw [e]; rfl
theorem ex_fn : LFn Pr 7 [] [] (.ret (.bool true)) [] := by
  refine fnT OB2_sound mixed (by kernel_rfl) LoopsOk.noneT ex_v ?_
  have l0 : zN.length = 256 := by rw [zN_eq]; exact zeros_len
  have t1 : isTxt sx = true := isTxt_iff.2 (by decide)
  have t2 : is256 zN = true := is256_iff.2 l0
  have t3 : is256 sSh = false := by rw [← Bool.not_eq_true, is256_iff]; decide
  have t4 : hasB (addS zN sx) sx = true := by rw [hasB_eq, hasV, decide_eq_true (addS_len l0).2, Bool.true_and, (addS_len l0).1]; exact has_set _ _ l0
  have t5 : hasB zN sx = false := by rw [hasB_eq, hasV, zN_eq, hasL_zeros, Bool.and_false]
  have t6 : decide ((zN.length : Int) = 256) = true := decide_eq_true (by rw [l0]; rfl)
  rw [t1, t2, t3, t4, t5, t6]
  refine ⟨rfl, fun _ => ⟨rfl, fun _ => ⟨rfl, fun _ => ⟨rfl, fun _ => ⟨rfl, rfl⟩, fun h => ?_⟩, fun h => ?_⟩, fun h => ?_⟩, fun h => ?_⟩ <;> cases h
def KB3 : KnownT := (7, ctT nul_read fun _ => .leaf (.ret (.bool true), [])) :: (14, ctT two_read fun a => .chk (isTxt a.s) (.leaf (.ret (.bool (hasB a.xs a.s)), []))) :: KB2
theorem KB3_ok : KOkT Pr KB3 := KOkT.cons (Enters.of (fn := Go.Proofs.Try.f7) (by kernel_rfl) (by kernel_rfl)) (nul_ok (fun r h => by rw [Tr.is_leaf] at h; subst h; exact ex_fn))
  (KOkT.cons (Enters.of (fn := Go.Proofs.Try.f14) (by kernel_rfl) (by kernel_rfl)) (two_ok (fun a r h => by rw [Tr.is_chk, Tr.is_leaf] at h; obtain ⟨h1, rfl⟩ := h; exact rhas_fn a.xs a.s (isTxt_iff.1 h1))) KB2_ok)
def OB3 : OrcT := autoT Pr noExt KB3 [] 2
theorem OB3_sound : OrcSound Pr OB3.o := autoT_sound mixed noExt_ok KB3_ok (by kernel_rfl) 2
theorem bhas_x (s : List (BitVec 8)) (t : List (BitVec 8)) (b : List (BitVec 8)) : Tr.prune ((((((Tr.Sh.any.both
                                          Tr.Sh.any).l.l.both
                                  Tr.Sh.any.r.r.r).l.l.both
                          Tr.Sh.any.r.r.r.r.r.r).l.l.both
                  Tr.Sh.any.r.r.r.r.r.r.r.r.r).l.l.both
          Tr.Sh.any.r.r.r.r.r.r.r.r.r.r.r.r).l.l.l.r)
  (execBF Pr OB3 noLoopsT (100 : Nat) Go.Proofs.Try.f3 [V.str s, V.str t, V.str b] []) =
  Tr.chk
  (decide
            ((0 : Int) ≤
              (some (if (100 : Int) < (↑s.length : Int) then (100 : Int) else (↑s.length : Int))).getD
                (↑s.length : Int)) &&
          decide
            ((some (if (100 : Int) < (↑s.length : Int) then (100 : Int) else (↑s.length : Int))).getD
                (↑s.length : Int) ≤
              (↑s.length : Int)) &&
        true &&
      (decide
              ((0 : Int) ≤
                (some (if (100 : Int) < (↑t.length : Int) then (100 : Int) else (↑t.length : Int))).getD
                  (↑t.length : Int)) &&
            decide
              ((some (if (100 : Int) < (↑t.length : Int) then (100 : Int) else (↑t.length : Int))).getD
                  (↑t.length : Int) ≤
                (↑t.length : Int)) &&
          true &&
        (decide (b.length + (256 : Nat) ≤ (9223372036854775807 : Nat)) &&
            (decide
                ((some (256 : Int)).getD
                    (↑(b ++
                            List.take (256 : Nat)
                              (List.replicate (256 : Nat) (BitVec.ofInt (8 : Nat) (0 : Int)))).length :
                      Int) ≤
                  (↑(b ++
                          List.take (256 : Nat)
                            (List.replicate (256 : Nat) (BitVec.ofInt (8 : Nat) (0 : Int)))).length :
                    Int)) &&
              true) &&
          (isTxt
                (List.take
                  ((some (if (100 : Int) < (↑s.length : Int) then (100 : Int) else (↑s.length : Int))).getD
                      (↑s.length : Int)).toNat
                  s) &&
              true &&
            (isTxt
                  (List.take
                    ((some (if (100 : Int) < (↑t.length : Int) then (100 : Int) else (↑t.length : Int))).getD
                        (↑t.length : Int)).toNat
                    t) &&
                true &&
              (isTxt
                    (List.take
                      ((some (if (100 : Int) < (↑t.length : Int) then (100 : Int) else (↑t.length : Int))).getD
                          (↑t.length : Int)).toNat
                      t) &&
                  true &&
                (isTxt
                      (List.take
                        ((some (if (100 : Int) < (↑s.length : Int) then (100 : Int) else (↑s.length : Int))).getD
                            (↑s.length : Int)).toNat
                        s) &&
                    true &&
                  (isTxt
                        (List.take
                          ((some (if (100 : Int) < (↑s.length : Int) then (100 : Int) else (↑s.length : Int))).getD
                              (↑s.length : Int)).toNat
                          s) &&
                      true &&
                    true))))))) &&
    (isTxt
        (List.take
          ((some (if (100 : Int) < (↑s.length : Int) then (100 : Int) else (↑s.length : Int))).getD
              (↑s.length : Int)).toNat
          s) &&
      true))
  (Tr.br
    (hasB
      (addS
        (addS
          (List.take
            ((some (256 : Int)).getD
                (↑(b ++ List.take (256 : Nat) (List.replicate (256 : Nat) (BitVec.ofInt (8 : Nat) (0 : Int)))).length :
                  Int)).toNat
            (b ++ List.take (256 : Nat) (List.replicate (256 : Nat) (BitVec.ofInt (8 : Nat) (0 : Int)))))
          (List.take
            ((some (if (100 : Int) < (↑s.length : Int) then (100 : Int) else (↑s.length : Int))).getD
                (↑s.length : Int)).toNat
            s))
        (List.take
          ((some (if (100 : Int) < (↑t.length : Int) then (100 : Int) else (↑t.length : Int))).getD
              (↑t.length : Int)).toNat
          t))
      (List.take
        ((some (if (100 : Int) < (↑s.length : Int) then (100 : Int) else (↑s.length : Int))).getD
            (↑s.length : Int)).toNat
        s))
    (Tr.chk
      (isTxt
          (List.take
            ((some (if (100 : Int) < (↑t.length : Int) then (100 : Int) else (↑t.length : Int))).getD
                (↑t.length : Int)).toNat
            t) &&
        true)
      (Tr.br
        (hasB
          (addS
            (addS
              (List.take
                ((some (256 : Int)).getD
                    (↑(b ++
                            List.take (256 : Nat)
                              (List.replicate (256 : Nat) (BitVec.ofInt (8 : Nat) (0 : Int)))).length :
                      Int)).toNat
                (b ++ List.take (256 : Nat) (List.replicate (256 : Nat) (BitVec.ofInt (8 : Nat) (0 : Int)))))
              (List.take
                ((some (if (100 : Int) < (↑s.length : Int) then (100 : Int) else (↑s.length : Int))).getD
                    (↑s.length : Int)).toNat
                s))
            (List.take
              ((some (if (100 : Int) < (↑t.length : Int) then (100 : Int) else (↑t.length : Int))).getD
                  (↑t.length : Int)).toNat
              t))
          (List.take
            ((some (if (100 : Int) < (↑t.length : Int) then (100 : Int) else (↑t.length : Int))).getD
                (↑t.length : Int)).toNat
            t))
        (Tr.chk true
          (Tr.br
            (addS
                (addS
                  (List.take
                    ((some (256 : Int)).getD
                        (↑(b ++
                                List.take (256 : Nat)
                                  (List.replicate (256 : Nat) (BitVec.ofInt (8 : Nat) (0 : Int)))).length :
                          Int)).toNat
                    (b ++ List.take (256 : Nat) (List.replicate (256 : Nat) (BitVec.ofInt (8 : Nat) (0 : Int)))))
                  (List.take
                    ((some (if (100 : Int) < (↑s.length : Int) then (100 : Int) else (↑s.length : Int))).getD
                        (↑s.length : Int)).toNat
                    s))
                (List.take
                  ((some (if (100 : Int) < (↑t.length : Int) then (100 : Int) else (↑t.length : Int))).getD
                      (↑t.length : Int)).toNat
                  t) ==
              addS
                (addS
                  (List.take
                    ((some (256 : Int)).getD
                        (↑(b ++
                                List.take (256 : Nat)
                                  (List.replicate (256 : Nat) (BitVec.ofInt (8 : Nat) (0 : Int)))).length :
                          Int)).toNat
                    (b ++ List.take (256 : Nat) (List.replicate (256 : Nat) (BitVec.ofInt (8 : Nat) (0 : Int)))))
                  (List.take
                    ((some (if (100 : Int) < (↑t.length : Int) then (100 : Int) else (↑t.length : Int))).getD
                        (↑t.length : Int)).toNat
                    t))
                (List.take
                  ((some (if (100 : Int) < (↑s.length : Int) then (100 : Int) else (↑s.length : Int))).getD
                      (↑s.length : Int)).toNat
                  s))
            (Tr.chk true
              (Tr.br
                (addS
                    (addS
                      (addS
                        (List.take
                          ((some (256 : Int)).getD
                              (↑(b ++
                                      List.take (256 : Nat)
                                        (List.replicate (256 : Nat) (BitVec.ofInt (8 : Nat) (0 : Int)))).length :
                                Int)).toNat
                          (b ++ List.take (256 : Nat) (List.replicate (256 : Nat) (BitVec.ofInt (8 : Nat) (0 : Int)))))
                        (List.take
                          ((some (if (100 : Int) < (↑s.length : Int) then (100 : Int) else (↑s.length : Int))).getD
                              (↑s.length : Int)).toNat
                          s))
                      (List.take
                        ((some (if (100 : Int) < (↑t.length : Int) then (100 : Int) else (↑t.length : Int))).getD
                            (↑t.length : Int)).toNat
                        t))
                    (List.take
                      ((some (if (100 : Int) < (↑s.length : Int) then (100 : Int) else (↑s.length : Int))).getD
                          (↑s.length : Int)).toNat
                      s) ==
                  addS
                    (addS
                      (List.take
                        ((some (256 : Int)).getD
                            (↑(b ++
                                    List.take (256 : Nat)
                                      (List.replicate (256 : Nat) (BitVec.ofInt (8 : Nat) (0 : Int)))).length :
                              Int)).toNat
                        (b ++ List.take (256 : Nat) (List.replicate (256 : Nat) (BitVec.ofInt (8 : Nat) (0 : Int)))))
                      (List.take
                        ((some (if (100 : Int) < (↑s.length : Int) then (100 : Int) else (↑s.length : Int))).getD
                            (↑s.length : Int)).toNat
                        s))
                    (List.take
                      ((some (if (100 : Int) < (↑t.length : Int) then (100 : Int) else (↑t.length : Int))).getD
                          (↑t.length : Int)).toNat
                      t))
                (Tr.chk true
                  (Tr.br
                    (joinS
                        (addS
                          (List.take
                            ((some (256 : Int)).getD
                                (↑(b ++
                                        List.take (256 : Nat)
                                          (List.replicate (256 : Nat) (BitVec.ofInt (8 : Nat) (0 : Int)))).length :
                                  Int)).toNat
                            (b ++
                              List.take (256 : Nat) (List.replicate (256 : Nat) (BitVec.ofInt (8 : Nat) (0 : Int)))))
                          (List.take
                            ((some (if (100 : Int) < (↑s.length : Int) then (100 : Int) else (↑s.length : Int))).getD
                                (↑s.length : Int)).toNat
                            s))
                        (addS
                          (List.take
                            ((some (256 : Int)).getD
                                (↑(b ++
                                        List.take (256 : Nat)
                                          (List.replicate (256 : Nat) (BitVec.ofInt (8 : Nat) (0 : Int)))).length :
                                  Int)).toNat
                            (b ++
                              List.take (256 : Nat) (List.replicate (256 : Nat) (BitVec.ofInt (8 : Nat) (0 : Int)))))
                          (List.take
                            ((some (if (100 : Int) < (↑t.length : Int) then (100 : Int) else (↑t.length : Int))).getD
                                (↑t.length : Int)).toNat
                            t)) ==
                      addS
                        (addS
                          (List.take
                            ((some (256 : Int)).getD
                                (↑(b ++
                                        List.take (256 : Nat)
                                          (List.replicate (256 : Nat) (BitVec.ofInt (8 : Nat) (0 : Int)))).length :
                                  Int)).toNat
                            (b ++
                              List.take (256 : Nat) (List.replicate (256 : Nat) (BitVec.ofInt (8 : Nat) (0 : Int)))))
                          (List.take
                            ((some (if (100 : Int) < (↑s.length : Int) then (100 : Int) else (↑s.length : Int))).getD
                                (↑s.length : Int)).toNat
                            s))
                        (List.take
                          ((some (if (100 : Int) < (↑t.length : Int) then (100 : Int) else (↑t.length : Int))).getD
                              (↑t.length : Int)).toNat
                          t))
                    (Tr.chk true
                      (Tr.leaf
                        (Fin.ret
                            (V.bool
                              (joinO
                                (addS
                                  (List.take
                                    ((some (256 : Int)).getD
                                        (↑(b ++
                                                List.take (256 : Nat)
                                                  (List.replicate (256 : Nat)
                                                    (BitVec.ofInt (8 : Nat) (0 : Int)))).length :
                                          Int)).toNat
                                    (b ++
                                      List.take (256 : Nat)
                                        (List.replicate (256 : Nat) (BitVec.ofInt (8 : Nat) (0 : Int)))))
                                  (List.take
                                    ((some
                                            (if (100 : Int) < (↑s.length : Int) then (100 : Int)
                                            else (↑s.length : Int))).getD
                                        (↑s.length : Int)).toNat
                                    s))
                                (addS
                                  (List.take
                                    ((some (256 : Int)).getD
                                        (↑(b ++
                                                List.take (256 : Nat)
                                                  (List.replicate (256 : Nat)
                                                    (BitVec.ofInt (8 : Nat) (0 : Int)))).length :
                                          Int)).toNat
                                    (b ++
                                      List.take (256 : Nat)
                                        (List.replicate (256 : Nat) (BitVec.ofInt (8 : Nat) (0 : Int)))))
                                  (List.take
                                    ((some
                                            (if (100 : Int) < (↑t.length : Int) then (100 : Int)
                                            else (↑t.length : Int))).getD
                                        (↑t.length : Int)).toNat
                                    t)))),
                          [])))
                    (Tr.chk true (Tr.leaf (Fin.ret (V.bool false), [])))))
                (Tr.chk true (Tr.leaf (Fin.ret (V.bool false), [])))))
            (Tr.chk true (Tr.leaf (Fin.ret (V.bool false), [])))))
        (Tr.chk true (Tr.leaf (Fin.ret (V.bool false), [])))))
    (Tr.chk true (Tr.leaf (Fin.ret (V.bool false), [])))) := by kernel_rfl
theorem min100 (n : Nat) : 0 ≤ (if (100 : Int) < (n : Int) then (100 : Int) else (n : Int)) ∧ (if (100 : Int) < (n : Int) then (100 : Int) else (n : Int)) ≤ (n : Int) ∧ (if (100 : Int) < (n : Int) then (100 : Int) else (n : Int)) ≤ 100 := by
  split <;> omega
theorem bhas_fn (s t b : List (BitVec 8)) (hb : b.length ≤ 140737488351232) : LFn Pr 3 [.str s, .str t, .str b] [] (.ret (.bool true)) [] := by
  refine fnT OB3_sound mixed (by kernel_rfl) LoopsOk.noneT (bhas_x s t b) ?_
  simp only [Option.getD_some]
  obtain ⟨s0, s1, s2⟩ := min100 s.length
  obtain ⟨t0, t1, t2⟩ := min100 t.length
  revert s0 s1 s2 t0 t1 t2
  generalize (if (100 : Int) < (s.length : Int) then (100 : Int) else (s.length : Int)) = ms
  generalize (if (100 : Int) < (t.length : Int) then (100 : Int) else (t.length : Int)) = mt
  intro s0 s1 s2 t0 t1 t2
  have hS : (List.take ms.toNat s).length ≤ 100 := by rw [List.length_take]; omega
  have hT : (List.take mt.toNat t).length ≤ 100 := by rw [List.length_take]; omega
  have hz : List.take 256 (List.replicate 256 (BitVec.ofInt 8 0)) = zeros := by rw [take256 _ List.length_replicate]; rfl
  have hB : (List.take (256 : Int).toNat (b ++ zeros)).length = 256 := by rw [List.length_take, List.length_append, zeros_len]; omega
  have hBl : (b ++ zeros).length = b.length + 256 := by rw [List.length_append, zeros_len]
  rw [hz, hBl]
  revert hS hT hB
  generalize List.take ms.toNat s = S
  generalize List.take mt.toNat t = T
  generalize List.take (256 : Int).toNat (b ++ zeros) = B
  intro hS hT hB
  have tS : isTxt S = true := isTxt_iff.2 (by omega)
  have tT : isTxt T = true := isTxt_iff.2 (by omega)
  obtain ⟨x1, x2⟩ := addS_len (s := S) hB
  obtain ⟨p1, p2⟩ := addS_len (s := T) hB
  obtain ⟨y1, y2⟩ := addS_len (s := T) x2
  obtain ⟨q1, q2⟩ := addS_len (s := S) p2
  obtain ⟨a1, a2⟩ := addS_len (s := S) y2
  have c1 : hasB (addS (addS B S) T) S = true := by rw [hasB_eq, hasV, decide_eq_true y2, Bool.true_and, y1, x1]; exact has_set2 _ _ _ hB
  have c2 : hasB (addS (addS B S) T) T = true := by rw [hasB_eq, hasV, decide_eq_true y2, Bool.true_and, y1]; exact has_set _ _ x2
  have c3 : (addS (addS B S) T == addS (addS B T) S) = true := by rw [beq_iff_eq, y1, x1, q1, p1]; exact set_comm _ _ _ hB
  have c4 : (addS (addS (addS B S) T) S == addS (addS B S) T) = true := by rw [beq_iff_eq, a1, y1, x1]; exact set_again _ _ _ hB
  have c5 : (joinS (addS B S) (addS B T) == addS (addS B S) T) = true := by
    rw [beq_iff_eq, show joinS (addS B S) (addS B T) = joinL (addS B S) (addS B T) from if_pos ⟨x2, p2⟩, joinL_eq, y1, x1, p1]
    exact join_set _ _ _ hB
  have c6 : joinO (addS B S) (addS B T) = true := joinO_iff.2 ⟨x2, p2⟩
  rw [tS, tT, c1, c2, c3, c4, c5, c6]
  refine ⟨?_, fun _ => ⟨rfl, fun _ => ⟨rfl, fun _ => ⟨rfl, fun _ => ⟨rfl, fun _ => ⟨rfl, rfl⟩, fun h => ?_⟩, fun h => ?_⟩, fun h => ?_⟩, fun h => ?_⟩, fun h => ?_⟩
  · simp only [Bool.and_eq_true, decide_eq_true_eq, Bool.and_true, true_and]
    omega
  all_goals cases h
end
end Go.Proofs.Ytklgiongdiojcaa.K
end
