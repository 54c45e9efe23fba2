/- The functions that this law reaches: what each comes to. -/
import Derived.Test.YtklgiongdiojcaaCBLogs2
set_option linter.unusedSimpArgs false
set_option linter.unusedVariables false
section
open Go Go.Lh Go.Lh.Bl
namespace Go.Proofs.Ytklgiongdiojcaa.K
noncomputable section
set_option maxRecDepth 100000
def zN : List (BitVec 8) := @ite _ True (Classical.propDecidable True) zeros []
theorem zN_eq : zN = zeros := if_pos trivial
def nul_read : List V → Heap → Option Unit := fun a h => match a, h with | [], [] => some () | _, _ => none
theorem nul_ok {f : Unit → Tr (Fin × Heap)} {i : FuncId} (H : ∀ r, (f ()).is r → LFn Pr i [] [] r.1 r.2) : ∀ args h r, (ctT nul_read f args h).is r → LFn Pr i args h r.1 r.2 := by
  refine ctT_ok (fun a => []) (fun a => []) ?_ (fun _ => H)
  intro args h a e
  unfold nul_read at e
  split at e <;> cases e
  exact ⟨rfl, rfl⟩
def KB2 : KnownT := (11, ctT nul_read fun _ => .leaf (.ret (.str zN), [])) :: (21, ctT nul_read fun _ => .leaf (.ret (.str zN), [])) ::
  (8, ctT two_read fun a => .chk (isTxt a.s) (.leaf (.ret (.tup [.str (addS a.xs a.s), .bool (is256 a.xs)]), []))) :: (12, ctT two_read fun a => .chk (isTxt a.s) (.leaf (.ret (.tup [.str (addS a.xs a.s), .bool (is256 a.xs)]), []))) ::
  (9, ctT two_read fun a => .leaf (.ret (.tup [.str (joinS a.xs a.s), .bool (joinO a.xs a.s)]), [])) :: (13, ctT two_read fun a => .leaf (.ret (.tup [.str (joinS a.xs a.s), .bool (joinO a.xs a.s)]), [])) :: KB1
theorem KB2_ok : KOkT Pr KB2 :=
  KOkT.cons (Enters.of (fn := Go.Proofs.Try.f11) (by kernel_rfl) (by kernel_rfl)) (nul_ok (fun r h => by rw [Tr.is_leaf] at h; subst h; rw [zN_eq]; exact emp_fn))
  (KOkT.cons (Enters.of (fn := Go.Proofs.Try.f21) (by kernel_rfl) (by kernel_rfl)) (nul_ok (fun r h => by rw [Tr.is_leaf] at h; subst h; rw [zN_eq]; exact remp_fn))
  (KOkT.cons (Enters.of (fn := Go.Proofs.Try.f8) (by kernel_rfl) (by kernel_rfl)) (two_ok (fun a r h => by rw [Tr.is_chk, Tr.is_leaf] at h; obtain ⟨h1, rfl⟩ := h; exact add_fn a.xs a.s (isTxt_iff.1 h1)))
  (KOkT.cons (Enters.of (fn := Go.Proofs.Try.f12) (by kernel_rfl) (by kernel_rfl)) (two_ok (fun a r h => by rw [Tr.is_chk, Tr.is_leaf] at h; obtain ⟨h1, rfl⟩ := h; exact radd_fn a.xs a.s (isTxt_iff.1 h1)))
  (KOkT.cons (Enters.of (fn := Go.Proofs.Try.f9) (by kernel_rfl) (by kernel_rfl)) (two_ok (fun a r h => by rw [Tr.is_leaf] at h; subst h; exact join_fn a.xs a.s))
  (KOkT.cons (Enters.of (fn := Go.Proofs.Try.f13) (by kernel_rfl) (by kernel_rfl)) (two_ok (fun a r h => by rw [Tr.is_leaf] at h; subst h; exact rjoin_fn a.xs a.s)) KB1_ok)))))
def OB2 : OrcT := autoT Pr noExt KB2 [] 2
theorem OB2_sound : OrcSound Pr OB2.o := autoT_sound mixed noExt_ok KB2_ok (by kernel_rfl) 2
theorem rhas_x (xs : List (BitVec 8)) (s : List (BitVec 8)) : Tr.prune (Tr.Sh.any.l.l.both Tr.Sh.any.r.r)
  (execBF Pr OB2 noLoopsT (100 : Nat) Go.Proofs.Try.f14 [V.str xs, V.str s] []) =
  Tr.chk (isTxt s && true && true)
  (Tr.br (is256 xs) (Tr.chk true (Tr.leaf (Fin.ret (V.bool (addS xs s == xs)), [])))
    (Tr.chk true (Tr.leaf (Fin.ret (V.bool false), [])))) := by kernel_rfl
/-- is a text there: both -/
theorem addS_len {xs s : List (BitVec 8)} (h : xs.length = 256) : addS xs s = setL xs (sumO s) ∧ (addS xs s).length = 256 := by
  have e : addS xs s = addB xs s := if_pos h
  rw [e, addB_eq, lenL]; exact ⟨rfl, h⟩
theorem rhas_fn (xs s : List (BitVec 8)) (hs : s.length ≤ 140737488351232) : LFn Pr 14 [.str xs, .str s] [] (.ret (.bool (hasB xs s))) [] := by
  refine fnT OB2_sound mixed (by kernel_rfl) LoopsOk.noneT (rhas_x xs s) ?_
  rw [isTxt_iff.2 hs]
  refine wp_chk_true.2 (wp_br.2 ⟨fun h => wp_chk_true.2 ?_, fun h => wp_chk_true.2 ?_⟩)
  · have hx := is256_iff.1 h
    have e : (addS xs s == xs) = hasB xs s := by
      rw [hasB_eq, hasV, decide_eq_true hx, Bool.true_and, Bool.eq_iff_iff, beq_iff_eq, has_iff_set _ _ hx, (addS_len hx).1]
    rw [e]; exact rfl
  · have hx : xs.length ≠ 256 := by intro e; rw [is256_iff.2 e] at h; cases h
    have e : hasB xs s = false := by rw [hasB_eq, hasV, decide_eq_false hx, Bool.false_and]
    rw [e]; exact rfl
def sx : List (BitVec 8) := [120#8]
def sSh : List (BitVec 8) := [115#8, 104#8, 111#8, 114#8, 116#8]
theorem ex_v : Tr.prune ((((Tr.Sh.any.l.both Tr.Sh.any.r).l.l.both Tr.Sh.any.r.r.r.r).l.both
      Tr.Sh.any.r.r.r.r.r.r).both
  Tr.Sh.any.r.r.r.r.r.r.r)
  (execBF Pr OB2 noLoopsT (100 : Nat) Go.Proofs.Try.f7 [] []) =
  Tr.chk ((isTxt sx && (true && (true && (true && (true && true))))) && (isTxt sx && (true && (true && (true && (true && true)))) && (true && (true && true))))
  (Tr.br (decide ((zN.length : Int) = 256))
    (Tr.chk true
      (Tr.br (is256 zN)
        (Tr.chk (isTxt sx && (true && true))
          (Tr.br (hasB (addS zN sx) sx)
            (Tr.chk (isTxt sx && true)
              (Tr.br (!(hasB zN sx))
                (Tr.chk true (Tr.leaf (Fin.ret (V.bool (!(is256 sSh))), [])))
                (Tr.chk true (Tr.leaf (Fin.ret (V.bool false), [])))))
            (Tr.chk true (Tr.leaf (Fin.ret (V.bool false), [])))))
        (Tr.chk true (Tr.leaf (Fin.ret (V.bool false), [])))))
    (Tr.chk true (Tr.leaf (Fin.ret (V.bool false), [])))) := by kernel_rfl
theorem hasL_zeros (h : List (BitVec 8)) : hasL zeros h = false := by
  have e : ∀ k b, has1 zeros k b = false := by intro k b; unfold has1; rw [Bl.zeros_get]; simp
  unfold hasL; rw [e]; rfl
theorem ex_fn : LFn Pr 7 [] [] (.ret (.bool true)) [] := by
  refine fnT OB2_sound mixed (by kernel_rfl) LoopsOk.noneT ex_v ?_
  have l0 : zN.length = 256 := by rw [zN_eq]; exact zeros_len
  have t1 : isTxt sx = true := isTxt_iff.2 (by decide)
  have t2 : is256 zN = true := is256_iff.2 l0
  have t3 : is256 sSh = false := by rw [← Bool.not_eq_true, is256_iff]; decide
  have t4 : hasB (addS zN sx) sx = true := by rw [hasB_eq, hasV, decide_eq_true (addS_len l0).2, Bool.true_and, (addS_len l0).1]; exact has_set _ _ l0
  have t5 : hasB zN sx = false := by rw [hasB_eq, hasV, zN_eq, hasL_zeros, Bool.and_false]
  have t6 : decide ((zN.length : Int) = 256) = true := decide_eq_true (by rw [l0]; rfl)
  rw [t1, t2, t3, t4, t5, t6]
  refine ⟨rfl, fun _ => ⟨rfl, fun _ => ⟨rfl, fun _ => ⟨rfl, fun _ => ⟨rfl, rfl⟩, fun h => ?_⟩, fun h => ?_⟩, fun h => ?_⟩, fun h => ?_⟩ <;> cases h
def KB3 : KnownT := (7, ctT nul_read fun _ => .leaf (.ret (.bool true), [])) :: (14, ctT two_read fun a => .chk (isTxt a.s) (.leaf (.ret (.bool (hasB a.xs a.s)), []))) :: KB2
theorem KB3_ok : KOkT Pr KB3 := KOkT.cons (Enters.of (fn := Go.Proofs.Try.f7) (by kernel_rfl) (by kernel_rfl)) (nul_ok (fun r h => by rw [Tr.is_leaf] at h; subst h; exact ex_fn))
  (KOkT.cons (Enters.of (fn := Go.Proofs.Try.f14) (by kernel_rfl) (by kernel_rfl)) (two_ok (fun a r h => by rw [Tr.is_chk, Tr.is_leaf] at h; obtain ⟨h1, rfl⟩ := h; exact rhas_fn a.xs a.s (isTxt_iff.1 h1))) KB2_ok)
def OB3 : OrcT := autoT Pr noExt KB3 [] 2
theorem OB3_sound : OrcSound Pr OB3.o := autoT_sound mixed noExt_ok KB3_ok (by kernel_rfl) 2
theorem bhas_x (s : List (BitVec 8)) (t : List (BitVec 8)) (b : List (BitVec 8)) : Tr.prune ((((((Tr.Sh.any.both
                                          Tr.Sh.any).l.l.both
                                  Tr.Sh.any.r.r.r).l.l.both
                          Tr.Sh.any.r.r.r.r.r.r).l.l.both
                  Tr.Sh.any.r.r.r.r.r.r.r.r.r).l.l.both
          Tr.Sh.any.r.r.r.r.r.r.r.r.r.r.r.r).l.l.l.r)
  (execBF Pr OB3 noLoopsT (100 : Nat) Go.Proofs.Try.f3 [V.str s, V.str t, V.str b] []) =
  Tr.chk
  (decide
            ((0 : Int) ≤
              (some (if (100 : Int) < (↑s.length : Int) then (100 : Int) else (↑s.length : Int))).getD
                (↑s.length : Int)) &&
          decide
            ((some (if (100 : Int) < (↑s.length : Int) then (100 : Int) else (↑s.length : Int))).getD
                (↑s.length : Int) ≤
              (↑s.length : Int)) &&
        true &&
      (decide
              ((0 : Int) ≤
                (some (if (100 : Int) < (↑t.length : Int) then (100 : Int) else (↑t.length : Int))).getD
                  (↑t.length : Int)) &&
            decide
              ((some (if (100 : Int) < (↑t.length : Int) then (100 : Int) else (↑t.length : Int))).getD
                  (↑t.length : Int) ≤
                (↑t.length : Int)) &&
          true &&
        (decide (b.length + (256 : Nat) ≤ (9223372036854775807 : Nat)) &&
            (decide
                ((some (256 : Int)).getD
                    (↑(b ++
                            List.take (256 : Nat)
                              (List.replicate (256 : Nat) (BitVec.ofInt (8 : Nat) (0 : Int)))).length :
                      Int) ≤
                  (↑(b ++
                          List.take (256 : Nat)
                            (List.replicate (256 : Nat) (BitVec.ofInt (8 : Nat) (0 : Int)))).length :
                    Int)) &&
              true) &&
          (isTxt
                (List.take
                  ((some (if (100 : Int) < (↑s.length : Int) then (100 : Int) else (↑s.length : Int))).getD
                      (↑s.length : Int)).toNat
                  s) &&
              true &&
            (isTxt
                  (List.take
                    ((some (if (100 : Int) < (↑t.length : Int) then (100 : Int) else (↑t.length : Int))).getD
                        (↑t.length : Int)).toNat
                    t) &&
                true &&
              (isTxt
                    (List.take
                      ((some (if (100 : Int) < (↑t.length : Int) then (100 : Int) else (↑t.length : Int))).getD
                          (↑t.length : Int)).toNat
                      t) &&
                  true &&
                (isTxt
                      (List.take
                        ((some (if (100 : Int) < (↑s.length : Int) then (100 : Int) else (↑s.length : Int))).getD
                            (↑s.length : Int)).toNat
                        s) &&
                    true &&
                  (isTxt
                        (List.take
                          ((some (if (100 : Int) < (↑s.length : Int) then (100 : Int) else (↑s.length : Int))).getD
                              (↑s.length : Int)).toNat
                          s) &&
                      true &&
                    true))))))) &&
    (isTxt
        (List.take
          ((some (if (100 : Int) < (↑s.length : Int) then (100 : Int) else (↑s.length : Int))).getD
              (↑s.length : Int)).toNat
          s) &&
      true))
  (Tr.br
    (hasB
      (addS
        (addS
          (List.take
            ((some (256 : Int)).getD
                (↑(b ++ List.take (256 : Nat) (List.replicate (256 : Nat) (BitVec.ofInt (8 : Nat) (0 : Int)))).length :
                  Int)).toNat
            (b ++ List.take (256 : Nat) (List.replicate (256 : Nat) (BitVec.ofInt (8 : Nat) (0 : Int)))))
          (List.take
            ((some (if (100 : Int) < (↑s.length : Int) then (100 : Int) else (↑s.length : Int))).getD
                (↑s.length : Int)).toNat
            s))
        (List.take
          ((some (if (100 : Int) < (↑t.length : Int) then (100 : Int) else (↑t.length : Int))).getD
              (↑t.length : Int)).toNat
          t))
      (List.take
        ((some (if (100 : Int) < (↑s.length : Int) then (100 : Int) else (↑s.length : Int))).getD
            (↑s.length : Int)).toNat
        s))
    (Tr.chk
      (isTxt
          (List.take
            ((some (if (100 : Int) < (↑t.length : Int) then (100 : Int) else (↑t.length : Int))).getD
                (↑t.length : Int)).toNat
            t) &&
        true)
      (Tr.br
        (hasB
          (addS
            (addS
              (List.take
                ((some (256 : Int)).getD
                    (↑(b ++
                            List.take (256 : Nat)
                              (List.replicate (256 : Nat) (BitVec.ofInt (8 : Nat) (0 : Int)))).length :
                      Int)).toNat
                (b ++ List.take (256 : Nat) (List.replicate (256 : Nat) (BitVec.ofInt (8 : Nat) (0 : Int)))))
              (List.take
                ((some (if (100 : Int) < (↑s.length : Int) then (100 : Int) else (↑s.length : Int))).getD
                    (↑s.length : Int)).toNat
                s))
            (List.take
              ((some (if (100 : Int) < (↑t.length : Int) then (100 : Int) else (↑t.length : Int))).getD
                  (↑t.length : Int)).toNat
              t))
          (List.take
            ((some (if (100 : Int) < (↑t.length : Int) then (100 : Int) else (↑t.length : Int))).getD
                (↑t.length : Int)).toNat
            t))
        (Tr.chk true
          (Tr.br
            (addS
                (addS
                  (List.take
                    ((some (256 : Int)).getD
                        (↑(b ++
                                List.take (256 : Nat)
                                  (List.replicate (256 : Nat) (BitVec.ofInt (8 : Nat) (0 : Int)))).length :
                          Int)).toNat
                    (b ++ List.take (256 : Nat) (List.replicate (256 : Nat) (BitVec.ofInt (8 : Nat) (0 : Int)))))
                  (List.take
                    ((some (if (100 : Int) < (↑s.length : Int) then (100 : Int) else (↑s.length : Int))).getD
                        (↑s.length : Int)).toNat
                    s))
                (List.take
                  ((some (if (100 : Int) < (↑t.length : Int) then (100 : Int) else (↑t.length : Int))).getD
                      (↑t.length : Int)).toNat
                  t) ==
              addS
                (addS
                  (List.take
                    ((some (256 : Int)).getD
                        (↑(b ++
                                List.take (256 : Nat)
                                  (List.replicate (256 : Nat) (BitVec.ofInt (8 : Nat) (0 : Int)))).length :
                          Int)).toNat
                    (b ++ List.take (256 : Nat) (List.replicate (256 : Nat) (BitVec.ofInt (8 : Nat) (0 : Int)))))
                  (List.take
                    ((some (if (100 : Int) < (↑t.length : Int) then (100 : Int) else (↑t.length : Int))).getD
                        (↑t.length : Int)).toNat
                    t))
                (List.take
                  ((some (if (100 : Int) < (↑s.length : Int) then (100 : Int) else (↑s.length : Int))).getD
                      (↑s.length : Int)).toNat
                  s))
            (Tr.chk true
              (Tr.br
                (addS
                    (addS
                      (addS
                        (List.take
                          ((some (256 : Int)).getD
                              (↑(b ++
                                      List.take (256 : Nat)
                                        (List.replicate (256 : Nat) (BitVec.ofInt (8 : Nat) (0 : Int)))).length :
                                Int)).toNat
                          (b ++ List.take (256 : Nat) (List.replicate (256 : Nat) (BitVec.ofInt (8 : Nat) (0 : Int)))))
                        (List.take
                          ((some (if (100 : Int) < (↑s.length : Int) then (100 : Int) else (↑s.length : Int))).getD
                              (↑s.length : Int)).toNat
                          s))
                      (List.take
                        ((some (if (100 : Int) < (↑t.length : Int) then (100 : Int) else (↑t.length : Int))).getD
                            (↑t.length : Int)).toNat
                        t))
                    (List.take
                      ((some (if (100 : Int) < (↑s.length : Int) then (100 : Int) else (↑s.length : Int))).getD
                          (↑s.length : Int)).toNat
                      s) ==
                  addS
                    (addS
                      (List.take
                        ((some (256 : Int)).getD
                            (↑(b ++
                                    List.take (256 : Nat)
                                      (List.replicate (256 : Nat) (BitVec.ofInt (8 : Nat) (0 : Int)))).length :
                              Int)).toNat
                        (b ++ List.take (256 : Nat) (List.replicate (256 : Nat) (BitVec.ofInt (8 : Nat) (0 : Int)))))
                      (List.take
                        ((some (if (100 : Int) < (↑s.length : Int) then (100 : Int) else (↑s.length : Int))).getD
                            (↑s.length : Int)).toNat
                        s))
                    (List.take
                      ((some (if (100 : Int) < (↑t.length : Int) then (100 : Int) else (↑t.length : Int))).getD
                          (↑t.length : Int)).toNat
                      t))
                (Tr.chk true
                  (Tr.br
                    (joinS
                        (addS
                          (List.take
                            ((some (256 : Int)).getD
                                (↑(b ++
                                        List.take (256 : Nat)
                                          (List.replicate (256 : Nat) (BitVec.ofInt (8 : Nat) (0 : Int)))).length :
                                  Int)).toNat
                            (b ++
                              List.take (256 : Nat) (List.replicate (256 : Nat) (BitVec.ofInt (8 : Nat) (0 : Int)))))
                          (List.take
                            ((some (if (100 : Int) < (↑s.length : Int) then (100 : Int) else (↑s.length : Int))).getD
                                (↑s.length : Int)).toNat
                            s))
                        (addS
                          (List.take
                            ((some (256 : Int)).getD
                                (↑(b ++
                                        List.take (256 : Nat)
                                          (List.replicate (256 : Nat) (BitVec.ofInt (8 : Nat) (0 : Int)))).length :
                                  Int)).toNat
                            (b ++
                              List.take (256 : Nat) (List.replicate (256 : Nat) (BitVec.ofInt (8 : Nat) (0 : Int)))))
                          (List.take
                            ((some (if (100 : Int) < (↑t.length : Int) then (100 : Int) else (↑t.length : Int))).getD
                                (↑t.length : Int)).toNat
                            t)) ==
                      addS
                        (addS
                          (List.take
                            ((some (256 : Int)).getD
                                (↑(b ++
                                        List.take (256 : Nat)
                                          (List.replicate (256 : Nat) (BitVec.ofInt (8 : Nat) (0 : Int)))).length :
                                  Int)).toNat
                            (b ++
                              List.take (256 : Nat) (List.replicate (256 : Nat) (BitVec.ofInt (8 : Nat) (0 : Int)))))
                          (List.take
                            ((some (if (100 : Int) < (↑s.length : Int) then (100 : Int) else (↑s.length : Int))).getD
                                (↑s.length : Int)).toNat
                            s))
                        (List.take
                          ((some (if (100 : Int) < (↑t.length : Int) then (100 : Int) else (↑t.length : Int))).getD
                              (↑t.length : Int)).toNat
                          t))
                    (Tr.chk true
                      (Tr.leaf
                        (Fin.ret
                            (V.bool
                              (joinO
                                (addS
                                  (List.take
                                    ((some (256 : Int)).getD
                                        (↑(b ++
                                                List.take (256 : Nat)
                                                  (List.replicate (256 : Nat)
                                                    (BitVec.ofInt (8 : Nat) (0 : Int)))).length :
                                          Int)).toNat
                                    (b ++
                                      List.take (256 : Nat)
                                        (List.replicate (256 : Nat) (BitVec.ofInt (8 : Nat) (0 : Int)))))
                                  (List.take
                                    ((some
                                            (if (100 : Int) < (↑s.length : Int) then (100 : Int)
                                            else (↑s.length : Int))).getD
                                        (↑s.length : Int)).toNat
                                    s))
                                (addS
                                  (List.take
                                    ((some (256 : Int)).getD
                                        (↑(b ++
                                                List.take (256 : Nat)
                                                  (List.replicate (256 : Nat)
                                                    (BitVec.ofInt (8 : Nat) (0 : Int)))).length :
                                          Int)).toNat
                                    (b ++
                                      List.take (256 : Nat)
                                        (List.replicate (256 : Nat) (BitVec.ofInt (8 : Nat) (0 : Int)))))
                                  (List.take
                                    ((some
                                            (if (100 : Int) < (↑t.length : Int) then (100 : Int)
                                            else (↑t.length : Int))).getD
                                        (↑t.length : Int)).toNat
                                    t)))),
                          [])))
                    (Tr.chk true (Tr.leaf (Fin.ret (V.bool false), [])))))
                (Tr.chk true (Tr.leaf (Fin.ret (V.bool false), [])))))
            (Tr.chk true (Tr.leaf (Fin.ret (V.bool false), [])))))
        (Tr.chk true (Tr.leaf (Fin.ret (V.bool false), [])))))
    (Tr.chk true (Tr.leaf (Fin.ret (V.bool false), [])))) := by kernel_rfl
theorem min100 (n : Nat) : 0 ≤ (if (100 : Int) < (n : Int) then (100 : Int) else (n : Int)) ∧ (if (100 : Int) < (n : Int) then (100 : Int) else (n : Int)) ≤ (n : Int) ∧ (if (100 : Int) < (n : Int) then (100 : Int) else (n : Int)) ≤ 100 := by
  split <;> omega
theorem bhas_fn (s t b : List (BitVec 8)) (hb : b.length ≤ 140737488351232) : LFn Pr 3 [.str s, .str t, .str b] [] (.ret (.bool true)) [] := by
  refine fnT OB3_sound mixed (by kernel_rfl) LoopsOk.noneT (bhas_x s t b) ?_
  simp only [Option.getD_some]
  obtain ⟨s0, s1, s2⟩ := min100 s.length
  obtain ⟨t0, t1, t2⟩ := min100 t.length
  revert s0 s1 s2 t0 t1 t2
  generalize (if (100 : Int) < (s.length : Int) then (100 : Int) else (s.length : Int)) = ms
  generalize (if (100 : Int) < (t.length : Int) then (100 : Int) else (t.length : Int)) = mt
  intro s0 s1 s2 t0 t1 t2
  have hS : (List.take ms.toNat s).length ≤ 100 := by rw [List.length_take]; omega
  have hT : (List.take mt.toNat t).length ≤ 100 := by rw [List.length_take]; omega
  have hz : List.take 256 (List.replicate 256 (BitVec.ofInt 8 0)) = zeros := by rw [take256 _ List.length_replicate]; rfl
  have hB : (List.take (256 : Int).toNat (b ++ zeros)).length = 256 := by rw [List.length_take, List.length_append, zeros_len]; omega
  have hBl : (b ++ zeros).length = b.length + 256 := by rw [List.length_append, zeros_len]
  rw [hz, hBl]
  revert hS hT hB
  generalize List.take ms.toNat s = S
  generalize List.take mt.toNat t = T
  generalize List.take (256 : Int).toNat (b ++ zeros) = B
  intro hS hT hB
  have tS : isTxt S = true := isTxt_iff.2 (by omega)
  have tT : isTxt T = true := isTxt_iff.2 (by omega)
  obtain ⟨x1, x2⟩ := addS_len (s := S) hB
  obtain ⟨p1, p2⟩ := addS_len (s := T) hB
  obtain ⟨y1, y2⟩ := addS_len (s := T) x2
  obtain ⟨q1, q2⟩ := addS_len (s := S) p2
  obtain ⟨a1, a2⟩ := addS_len (s := S) y2
  have c1 : hasB (addS (addS B S) T) S = true := by rw [hasB_eq, hasV, decide_eq_true y2, Bool.true_and, y1, x1]; exact has_set2 _ _ _ hB
  have c2 : hasB (addS (addS B S) T) T = true := by rw [hasB_eq, hasV, decide_eq_true y2, Bool.true_and, y1]; exact has_set _ _ x2
  have c3 : (addS (addS B S) T == addS (addS B T) S) = true := by rw [beq_iff_eq, y1, x1, q1, p1]; exact set_comm _ _ _ hB
  have c4 : (addS (addS (addS B S) T) S == addS (addS B S) T) = true := by rw [beq_iff_eq, a1, y1, x1]; exact set_again _ _ _ hB
  have c5 : (joinS (addS B S) (addS B T) == addS (addS B S) T) = true := by
    rw [beq_iff_eq, show joinS (addS B S) (addS B T) = joinL (addS B S) (addS B T) from if_pos ⟨x2, p2⟩, joinL_eq, y1, x1, p1]
    exact join_set _ _ _ hB
  have c6 : joinO (addS B S) (addS B T) = true := joinO_iff.2 ⟨x2, p2⟩
  rw [tS, tT, c1, c2, c3, c4, c5, c6]
  refine ⟨?_, fun _ => ⟨rfl, fun _ => ⟨rfl, fun _ => ⟨rfl, fun _ => ⟨rfl, fun _ => ⟨rfl, rfl⟩, fun h => ?_⟩, fun h => ?_⟩, fun h => ?_⟩, fun h => ?_⟩, fun h => ?_⟩
  · simp only [Bool.and_eq_true, decide_eq_true_eq, Bool.and_true, true_and]
    omega
  all_goals cases h
end
end Go.Proofs.Ytklgiongdiojcaa.K
end
section
open Go Go.Lh Go.Lh.Bl
namespace Go.Proofs.Ytklgiongdiojcaa.K
noncomputable section
set_option maxRecDepth 100000
theorem bb_x (s : List (BitVec 8)) (b : List (BitVec 8)) (x : List (BitVec 8)) (hd : Bool) (ok : Bool) (n : Nat) (i : Nat) : Tr.prune (Tr.Sh.any.r.l.l.l.l.l.l.l.l.both
  Tr.Sh.any)
  (execBN Pr OB3 noLoopsT (100 : Nat) (0 : Nat)
  [(0 : Nat), (1 : Nat), (5 : Nat), (6 : Nat), (7 : Nat), (8 : Nat), (9 : Nat)]
  [(0 : Nat), (1 : Nat), (5 : Nat), (6 : Nat), (7 : Nat), (8 : Nat)] (Lh.loopBody Go.Proofs.Try.f4 (0 : Nat))
  [((0 : Nat), V.str s), ((1 : Nat), V.str b), ((5 : Nat), V.bool hd), ((6 : Nat), V.str x), ((7 : Nat), V.bool ok),
    ((8 : Nat), V.int IntKind.i64 (↑n : Int)), ((9 : Nat), V.int IntKind.i64 (↑i : Int))]
  []) =
  Tr.chk true
  (Tr.br (decide ((↑i : Int) < (↑x.length : Int)))
    (Tr.chk
      (decide ((↑i : Int) < (↑x.length : Int)) && true && true && true &&
        (decide ((↑i : Int) < (↑x.length : Int)) && true && true && true &&
          (decide ((↑i : Int) < (↑x.length : Int)) && true && true && true &&
            (decide ((↑i : Int) < (↑x.length : Int)) && true && true && true &&
              (decide ((↑i : Int) < (↑x.length : Int)) && true && true && true &&
                (decide ((↑i : Int) < (↑x.length : Int)) && true && true && true &&
                  (decide ((↑i : Int) < (↑x.length : Int)) && true && true && true &&
                    (decide ((↑i : Int) < (↑x.length : Int)) && true && true && true && true))))))))
      (Tr.leaf
        (X.normal,
          [((0 : Nat), V.str s), ((1 : Nat), V.str b), ((5 : Nat), V.bool hd), ((6 : Nat), V.str x),
            ((7 : Nat), V.bool ok),
            ((8 : Nat),
              V.int IntKind.i64
                (wrapI IntKind.i64
                  (wrapI IntKind.i64
                      (wrapI IntKind.i64
                          (wrapI IntKind.i64
                              (wrapI IntKind.i64
                                  (wrapI IntKind.i64
                                      (wrapI IntKind.i64
                                          (wrapI IntKind.i64
                                              ((↑n : Int) +
                                                (↑(x.getD i (OfNat.ofNat (0 : Nat)) >>> (0 : Nat) &&&
                                                        BitVec.ofInt (8 : Nat) (1 : Int)).toNat :
                                                  Int)) +
                                            (↑(x.getD i (OfNat.ofNat (0 : Nat)) >>> (1 : Nat) &&&
                                                    BitVec.ofInt (8 : Nat) (1 : Int)).toNat :
                                              Int)) +
                                        (↑(x.getD i (OfNat.ofNat (0 : Nat)) >>> (2 : Nat) &&&
                                                BitVec.ofInt (8 : Nat) (1 : Int)).toNat :
                                          Int)) +
                                    (↑(x.getD i (OfNat.ofNat (0 : Nat)) >>> (3 : Nat) &&&
                                            BitVec.ofInt (8 : Nat) (1 : Int)).toNat :
                                      Int)) +
                                (↑(x.getD i (OfNat.ofNat (0 : Nat)) >>> (4 : Nat) &&&
                                        BitVec.ofInt (8 : Nat) (1 : Int)).toNat :
                                  Int)) +
                            (↑(x.getD i (OfNat.ofNat (0 : Nat)) >>> (5 : Nat) &&&
                                    BitVec.ofInt (8 : Nat) (1 : Int)).toNat :
                              Int)) +
                        (↑(x.getD i (OfNat.ofNat (0 : Nat)) >>> (6 : Nat) &&& BitVec.ofInt (8 : Nat) (1 : Int)).toNat :
                          Int)) +
                    (↑(x.getD i (OfNat.ofNat (0 : Nat)) >>> (7 : Nat) &&& BitVec.ofInt (8 : Nat) (1 : Int)).toNat :
                      Int)))),
            ((9 : Nat), V.int IntKind.i64 (wrapI IntKind.i64 ((↑i : Int) + (1 : Int))))],
          [])))
    (Tr.leaf
      (X.exit (0 : Nat),
        [((0 : Nat), V.str s), ((1 : Nat), V.str b), ((5 : Nat), V.bool hd), ((6 : Nat), V.str x),
          ((7 : Nat), V.bool ok), ((8 : Nat), V.int IntKind.i64 (↑n : Int))],
        []))) := by kernel_rfl
structure BBS where
  s : List (BitVec 8)
  b : List (BitVec 8)
  hd : Bool
  x : List (BitVec 8)
  ok : Bool
def cntN (x : List (BitVec 8)) : Nat → Nat
  | 0 => 0
  | i + 1 => cntN x i + pop (x.getD i 0)
theorem bit_le (y : BitVec 8) (k : Nat) : (y >>> k &&& BitVec.ofInt 8 1).toNat ≤ 1 := by
  rw [BitVec.toNat_and]
  exact Nat.and_le_right
theorem pop_eq (y : BitVec 8) : pop y = (y >>> 0 &&& BitVec.ofInt 8 1).toNat + (y >>> 1 &&& BitVec.ofInt 8 1).toNat + (y >>> 2 &&& BitVec.ofInt 8 1).toNat + (y >>> 3 &&& BitVec.ofInt 8 1).toNat + (y >>> 4 &&& BitVec.ofInt 8 1).toNat + (y >>> 5 &&& BitVec.ofInt 8 1).toNat + (y >>> 6 &&& BitVec.ofInt 8 1).toNat + (y >>> 7 &&& BitVec.ofInt 8 1).toNat := by
  have : pop y = 0 + (y >>> 0 &&& BitVec.ofInt 8 1).toNat + (y >>> 1 &&& BitVec.ofInt 8 1).toNat + (y >>> 2 &&& BitVec.ofInt 8 1).toNat + (y >>> 3 &&& BitVec.ofInt 8 1).toNat + (y >>> 4 &&& BitVec.ofInt 8 1).toNat + (y >>> 5 &&& BitVec.ofInt 8 1).toNat + (y >>> 6 &&& BitVec.ofInt 8 1).toNat + (y >>> 7 &&& BitVec.ofInt 8 1).toNat := rfl
  rw [this, Nat.zero_add]
theorem pop_le (y : BitVec 8) : pop y ≤ 8 := by
  rw [pop_eq]
  have := bit_le y 0; have := bit_le y 1; have := bit_le y 2; have := bit_le y 3; have := bit_le y 4; have := bit_le y 5; have := bit_le y 6; have := bit_le y 7
  omega
theorem cntN_le (x : List (BitVec 8)) : ∀ i, cntN x i ≤ 8 * i
  | 0 => Nat.le_refl _
  | i + 1 => by have := cntN_le x i; have := pop_le (x.getD i 0); simp only [cntN]; omega
theorem cntN_cons (y : BitVec 8) (x : List (BitVec 8)) : ∀ i, cntN (y :: x) (i + 1) = pop y + cntN x i
  | 0 => by simp [cntN]
  | i + 1 => by
    have := cntN_cons y x i
    rw [cntN, this]
    simp [cntN, Nat.add_assoc]
theorem cntN_all : ∀ x : List (BitVec 8), cntN x x.length = cnt x
  | [] => rfl
  | y :: x => by
    rw [List.length_cons, cntN_cons, cntN_all x]
    simp [cnt]
def cntB (x : List (BitVec 8)) : Int := @ite _ True (Classical.propDecidable True) (cnt x : Int) 0
theorem cntB_eq (x : List (BitVec 8)) : cntB x = (cnt x : Int) := if_pos trivial
def bb_S (a : BBS) (i : Nat) : Fr × Heap := ([(0,.str a.s),(1,.str a.b),(5,.bool a.hd),(6,.str a.x),(7,.bool a.ok),(8,.int .i64 ((cntN a.x i : Nat) : Int)),(9,.int .i64 (i : Int))], [])
def bb_read : Fr → Heap → Option BBS := fun f h => match f, h with
  | [(0,.str s),(1,.str b),(5,.bool hd),(6,.str x),(7,.bool ok),(8,.int .i64 0),(9,.int .i64 0)], [] => some ⟨s, b, hd, x, ok⟩
  | _, _ => none
def bb_ok (a : BBS) : Bool := is256 a.x
def bb_E (a : BBS) : Tr (X × Fr × Heap) := .leaf (.exit 0, [(0,.str a.s),(1,.str a.b),(5,.bool a.hd),(6,.str a.x),(7,.bool a.ok),(8,.int .i64 (cntB a.x))], [])
def bb_s : SmT := whT 8 [0,1,5,6,7,8,9] bb_read bb_ok bb_E
theorem bb_at : SmAtT Pr Go.Proofs.Try.f4 0 bb_s 0 := by
  refine cntT_x OB3_sound mixed bb_S (fun _ => 256) (fun a i => bb_x a.s a.b a.x a.hd a.ok (cntN a.x i) i) (by kernel_rfl) (by kernel_rfl) (by kernel_rfl) LoopsOk.noneT ?_ ?_
  · intro f g a h
    unfold bb_read at h
    split at h <;> cases h
    rfl
  · rintro ⟨s, b, hd, x, ok⟩ q hok hq i hi
    have hx := is256_iff.1 hok
    rw [bb_E, Tr.is_leaf] at hq
    simp only at hq hi hx ⊢
    have hc := cntN_le x i
    have hp := pop_eq (x.getD i 0)
    simp only [wp_chk, wp_leaf, wp_br, hx, Bool.and_eq_true, decide_eq_true_eq, decide_eq_false_iff_not, Bool.and_true, true_and]
    refine ⟨fun h => ⟨by omega, .inl ⟨by omega, ?_⟩⟩, fun h => .inr ⟨fun h => (by cases h), ?_⟩⟩
    · have hz : x.getD i (OfNat.ofNat 0) = x.getD i 0 := rfl
      rw [hz]
      have e2 : wrapI .i64 ((i : Int) + 1) = ((i + 1 : Nat) : Int) := by rw [show ((i : Int) + 1) = ((i + 1 : Nat) : Int) by omega]; exact wrapI_nat (by omega)
      have e3 : bb_S ⟨s, b, hd, x, ok⟩ (i + 1) = ([(0,.str s),(1,.str b),(5,.bool hd),(6,.str x),(7,.bool ok),(8,.int .i64 ((cntN x i + pop (x.getD i 0) : Nat) : Int)),(9,.int .i64 ((i + 1 : Nat) : Int))], []) := rfl
      rw [e2, e3, hp]
      have w : ∀ (a b : Nat), a + b < 4000000 → wrapI .i64 ((a : Int) + (b : Int)) = ((a + b : Nat) : Int) := fun a b h => by rw [show (a : Int) + (b : Int) = ((a + b : Nat) : Int) by omega]; exact wrapI_nat (by omega)
      have g0 := bit_le (x.getD i 0) 0; have g1 := bit_le (x.getD i 0) 1; have g2 := bit_le (x.getD i 0) 2; have g3 := bit_le (x.getD i 0) 3; have g4 := bit_le (x.getD i 0) 4; have g5 := bit_le (x.getD i 0) 5; have g6 := bit_le (x.getD i 0) 6; have g7 := bit_le (x.getD i 0) 7
      revert g0 g1 g2 g3 g4 g5 g6 g7
      generalize (x.getD i 0 >>> 0 &&& BitVec.ofInt 8 1).toNat = b0
      generalize (x.getD i 0 >>> 1 &&& BitVec.ofInt 8 1).toNat = b1
      generalize (x.getD i 0 >>> 2 &&& BitVec.ofInt 8 1).toNat = b2
      generalize (x.getD i 0 >>> 3 &&& BitVec.ofInt 8 1).toNat = b3
      generalize (x.getD i 0 >>> 4 &&& BitVec.ofInt 8 1).toNat = b4
      generalize (x.getD i 0 >>> 5 &&& BitVec.ofInt 8 1).toNat = b5
      generalize (x.getD i 0 >>> 6 &&& BitVec.ofInt 8 1).toNat = b6
      generalize (x.getD i 0 >>> 7 &&& BitVec.ofInt 8 1).toNat = b7
      intro g0 g1 g2 g3 g4 g5 g6 g7
      have e4 : cntN x i + (b0 + b1 + b2 + b3 + b4 + b5 + b6 + b7) = cntN x i + b0 + b1 + b2 + b3 + b4 + b5 + b6 + b7 := by omega
      rw [w _ _ (by omega), w _ _ (by omega), w _ _ (by omega), w _ _ (by omega), w _ _ (by omega), w _ _ (by omega), w _ _ (by omega), w _ _ (by omega), e4]
    · have e : i = 256 := by omega
      rw [← hq, e, cntB_eq, ← cntN_all, hx]
theorem bb_Ls : LoopsOk Pr Go.Proofs.Try.f4 0 (smLT 0 [bb_s]).o := LoopsOk.one (by kernel_rfl) bb_at
theorem bbits_x (s : List (BitVec 8)) (b : List (BitVec 8)) : Tr.prune ((((((((Tr.Sh.any.l.l.l.l.both
                                                    Tr.Sh.any.l.r.r.r).l.both
                                              Tr.Sh.any.r.r).l.l.both
                                      Tr.Sh.any.r.r.r.r.r).l.l.l.l.both
                          Tr.Sh.any.r.r.r.r.r.r.r.r.r.r).l.both
                    Tr.Sh.any.r.r.r.r.r.r.r.r.r.r.r.r).l.both
              Tr.Sh.any.r.r.r.r.r.r.r.r.r.r.r.r.r.r).l.l.both
      Tr.Sh.any.r.r.r.r.r.r.r.r.r.r.r.r.r.r.r.r.r).l.r)
  (execBF Pr OB3 (smLT (0 : Nat) [bb_s]) (100 : Nat) Go.Proofs.Try.f4 [V.str s, V.str b] []) =
  Tr.chk
  (decide
            ((0 : Int) ≤
              (some (if (100 : Int) < (↑s.length : Int) then (100 : Int) else (↑s.length : Int))).getD
                (↑s.length : Int)) &&
          decide
            ((some (if (100 : Int) < (↑s.length : Int) then (100 : Int) else (↑s.length : Int))).getD
                (↑s.length : Int) ≤
              (↑s.length : Int)) &&
        true &&
      (isTxt
            (List.take
              ((some (if (100 : Int) < (↑s.length : Int) then (100 : Int) else (↑s.length : Int))).getD
                  (↑s.length : Int)).toNat
              s) &&
          true &&
        (bb_ok
            (BBS.mk
              (List.take
                ((some (if (100 : Int) < (↑s.length : Int) then (100 : Int) else (↑s.length : Int))).getD
                    (↑s.length : Int)).toNat
                s)
              b true
              (addS zN
                (List.take
                  ((some (if (100 : Int) < (↑s.length : Int) then (100 : Int) else (↑s.length : Int))).getD
                      (↑s.length : Int)).toNat
                  s))
              (is256 zN)) &&
          (isTxt
                (List.take
                  ((some (if (100 : Int) < (↑s.length : Int) then (100 : Int) else (↑s.length : Int))).getD
                      (↑s.length : Int)).toNat
                  s) &&
              true &&
            true))) &&
    true)
  (Tr.br (is256 zN)
    (Tr.chk true
      (Tr.br
        ((↑(addS zN
                  (List.take
                    ((some (if (100 : Int) < (↑s.length : Int) then (100 : Int) else (↑s.length : Int))).getD
                        (↑s.length : Int)).toNat
                    s)).length :
            Int) ==
          (256 : Int))
        (Tr.chk true
          (Tr.br
            (decide
              (cntB
                  (addS zN
                    (List.take
                      ((some (if (100 : Int) < (↑s.length : Int) then (100 : Int) else (↑s.length : Int))).getD
                          (↑s.length : Int)).toNat
                      s)) ≥
                (1 : Int)))
            (Tr.chk true
              (Tr.br
                (decide
                  (cntB
                      (addS zN
                        (List.take
                          ((some (if (100 : Int) < (↑s.length : Int) then (100 : Int) else (↑s.length : Int))).getD
                              (↑s.length : Int)).toNat
                          s)) ≤
                    (3 : Int)))
                (Tr.chk true
                  (Tr.br (is256 b == ((↑b.length : Int) == (256 : Int)))
                    (Tr.chk true
                      (Tr.br
                        (joinO
                            (addS zN
                              (List.take
                                ((some
                                        (if (100 : Int) < (↑s.length : Int) then (100 : Int)
                                        else (↑s.length : Int))).getD
                                    (↑s.length : Int)).toNat
                                s))
                            b ==
                          is256 b)
                        (Tr.chk true
                          (Tr.br (is256 b) (Tr.chk true (Tr.leaf (Fin.ret (V.bool true), [])))
                            (Tr.chk
                              (isTxt
                                  (List.take
                                    ((some
                                            (if (100 : Int) < (↑s.length : Int) then (100 : Int)
                                            else (↑s.length : Int))).getD
                                        (↑s.length : Int)).toNat
                                    s) &&
                                true)
                              (Tr.leaf
                                (Fin.ret
                                    (V.bool
                                      !hasB b
                                          (List.take
                                            ((some
                                                    (if (100 : Int) < (↑s.length : Int) then (100 : Int)
                                                    else (↑s.length : Int))).getD
                                                (↑s.length : Int)).toNat
                                            s)),
                                  [])))))
                        (Tr.chk true (Tr.leaf (Fin.ret (V.bool false), [])))))
                    (Tr.chk true (Tr.leaf (Fin.ret (V.bool false), [])))))
                (Tr.chk true (Tr.leaf (Fin.ret (V.bool false), [])))))
            (Tr.chk true (Tr.leaf (Fin.ret (V.bool false), [])))))
        (Tr.chk true (Tr.leaf (Fin.ret (V.bool false), [])))))
    (Tr.chk true (Tr.leaf (Fin.ret (V.bool false), [])))) := by kernel_rfl
theorem bbits_fn (s b : List (BitVec 8)) : LFn Pr 4 [.str s, .str b] [] (.ret (.bool true)) [] := by
  refine fnT OB3_sound mixed (by kernel_rfl) bb_Ls (bbits_x s b) ?_
  simp only [Option.getD_some]
  obtain ⟨s0, s1, s2⟩ := min100 s.length
  revert s0 s1 s2
  generalize (if (100 : Int) < (s.length : Int) then (100 : Int) else (s.length : Int)) = ms
  intro s0 s1 s2
  have hS : (List.take ms.toNat s).length ≤ 100 := by rw [List.length_take]; omega
  obtain ⟨S, hSe⟩ : ∃ S, List.take ms.toNat s = S := ⟨_, rfl⟩
  rw [hSe] at hS
  simp only [hSe]
  clear hSe
  have tS : isTxt S = true := isTxt_iff.2 (by omega)
  have l0 : zN.length = 256 := by rw [zN_eq]; exact zeros_len
  have t2 : is256 zN = true := is256_iff.2 l0
  obtain ⟨x1, x2⟩ := addS_len (s := S) l0
  have c0 : bb_ok ⟨S, b, true, addS zN S, is256 zN⟩ = true := is256_iff.2 x2
  obtain ⟨c, e1, cc⟩ : ∃ c : Nat, cntB (addS zN S) = (c : Int) ∧ 1 ≤ c ∧ c ≤ 3 := ⟨_, by rw [cntB_eq, x1, zN_eq], cnt_setL (sumO S)⟩
  have c1 : ((addS zN S).length : Int) == (256 : Int) := by rw [x2]; rfl
  have c2 : decide (cntB (addS zN S) ≥ 1) = true := decide_eq_true (by rw [e1]; omega)
  have c3 : decide (cntB (addS zN S) ≤ 3) = true := decide_eq_true (by rw [e1]; omega)
  have c4 : (is256 b == ((b.length : Int) == (256 : Int))) = true := by
    rw [beq_iff_eq, Bool.eq_iff_iff, is256_iff, beq_iff_eq]; omega
  have c5 : (joinO (addS zN S) b == is256 b) = true := by
    rw [beq_iff_eq, Bool.eq_iff_iff, is256_iff, joinO_iff]; exact ⟨fun h => h.2, fun h => ⟨x2, h⟩⟩
  rw [tS, t2]
  rw [t2] at c0
  rw [c0, c1, c2, c3, c4, c5]
  have br1 : ∀ {t u : Tr (Fin × Heap)} {Q : Fin × Heap → Prop}, t.wp Q → (Tr.br true t u).wp Q := fun h => wp_br.2 ⟨fun _ => h, fun e => by cases e⟩
  refine wp_chk.2 ⟨?_, br1 (wp_chk_true.2 (br1 (wp_chk_true.2 (br1 (wp_chk_true.2 (br1 (wp_chk_true.2 (br1 (wp_chk_true.2 (br1 (wp_chk_true.2 (wp_br.2 ⟨fun _ => wp_chk_true.2 (wp_leaf.2 rfl), fun hb => wp_chk_true.2 (wp_leaf.2 ?_)⟩))))))))))))⟩
  · simp only [Bool.and_eq_true, decide_eq_true_eq, Bool.and_true, true_and]
    omega
  · have hx : b.length ≠ 256 := by intro e; rw [is256_iff.2 e] at hb; cases hb
    have e : hasB b S = false := by rw [hasB_eq, hasV, decide_eq_false hx, Bool.false_and]
    rw [e]; exact rfl
end
end Go.Proofs.Ytklgiongdiojcaa.K
end
section
open Go Go.Lh Go.Lh.Bl
namespace Go.Proofs.Ytklgiongdiojcaa.K
noncomputable section
set_option maxRecDepth 100000
def OBY : OrcT := autoT Pr noExt [] [23] 3
theorem OBY_sound : OrcSound Pr OBY.o := autoT_sound mixed noExt_ok KOkT.nil (by kernel_rfl) 3
theorem bytes_x (x : W4) : Tr.prune (Tr.Sh.any.r.l.l.l.l.l.l.l.l.l.l.l.l.l.l.l.l.l.l.l.l.l.l.l.l.l.l.l.l.l.l.l.l)
  (execBF Pr OBY noLoopsT (100 : Nat) Go.Proofs.Try.f17 [x.v] []) =
  Tr.chk true
  (Tr.leaf
    (Fin.ret
        (V.str
          [BitVec.setWidth (8 : Nat) (x.a >>> (56 : Nat)), BitVec.setWidth (8 : Nat) (x.a >>> (48 : Nat)),
            BitVec.setWidth (8 : Nat) (x.a >>> (40 : Nat)), BitVec.setWidth (8 : Nat) (x.a >>> (32 : Nat)),
            BitVec.setWidth (8 : Nat) (x.a >>> (24 : Nat)), BitVec.setWidth (8 : Nat) (x.a >>> (16 : Nat)),
            BitVec.setWidth (8 : Nat) (x.a >>> (8 : Nat)), BitVec.setWidth (8 : Nat) (x.a >>> (0 : Nat)),
            BitVec.setWidth (8 : Nat) (x.b >>> (56 : Nat)), BitVec.setWidth (8 : Nat) (x.b >>> (48 : Nat)),
            BitVec.setWidth (8 : Nat) (x.b >>> (40 : Nat)), BitVec.setWidth (8 : Nat) (x.b >>> (32 : Nat)),
            BitVec.setWidth (8 : Nat) (x.b >>> (24 : Nat)), BitVec.setWidth (8 : Nat) (x.b >>> (16 : Nat)),
            BitVec.setWidth (8 : Nat) (x.b >>> (8 : Nat)), BitVec.setWidth (8 : Nat) (x.b >>> (0 : Nat)),
            BitVec.setWidth (8 : Nat) (x.c >>> (56 : Nat)), BitVec.setWidth (8 : Nat) (x.c >>> (48 : Nat)),
            BitVec.setWidth (8 : Nat) (x.c >>> (40 : Nat)), BitVec.setWidth (8 : Nat) (x.c >>> (32 : Nat)),
            BitVec.setWidth (8 : Nat) (x.c >>> (24 : Nat)), BitVec.setWidth (8 : Nat) (x.c >>> (16 : Nat)),
            BitVec.setWidth (8 : Nat) (x.c >>> (8 : Nat)), BitVec.setWidth (8 : Nat) (x.c >>> (0 : Nat)),
            BitVec.setWidth (8 : Nat) (x.d >>> (56 : Nat)), BitVec.setWidth (8 : Nat) (x.d >>> (48 : Nat)),
            BitVec.setWidth (8 : Nat) (x.d >>> (40 : Nat)), BitVec.setWidth (8 : Nat) (x.d >>> (32 : Nat)),
            BitVec.setWidth (8 : Nat) (x.d >>> (24 : Nat)), BitVec.setWidth (8 : Nat) (x.d >>> (16 : Nat)),
            BitVec.setWidth (8 : Nat) (x.d >>> (8 : Nat)), BitVec.setWidth (8 : Nat) (x.d >>> (0 : Nat))]),
      [])) := by kernel_rfl
theorem bytes_fn (x : W4) : LFn Pr 17 [x.v] [] (.ret (.str x.bytes)) [] :=
  fnT OBY_sound mixed (by kernel_rfl) LoopsOk.noneT (bytes_x x) (tr1 rfl (by kernel_rfl))
theorem dig_x (a : W4) : Tr.prune (Tr.Sh.any.r.l.l.l.l.l.l.l.l.l.l.l.l.l.l.l.l.l.l.l.l.l.l.l.l.l.l.l.l.l.l.l.l.r.r.l.l.l.l.l.l.l.l.l.r.l.l.l.l.l.l.l.l.l.r.l.l.l.l.l.l.l.l.l.r.l.l.l.l.l.l.l.l.l)
  (execBF Pr OBY noLoopsT (100 : Nat) Go.Proofs.Try.f27 [a.v] []) =
  Tr.chk true
  (Tr.leaf
    (Fin.ret (V.sl (0 : Nat) (0 : Nat) (1 : Nat) (32 : Nat) none),
      [Blk.ints
          [(wrapI IntKind.i64
                  ((wrapI IntKind.i64 (↑(a.d >>> (0 : Nat)).toNat : Int)).tmod (256 : Int) + (256 : Int))).tmod
              (256 : Int),
            (wrapI IntKind.i64
                  ((wrapI IntKind.i64 (↑(a.d >>> (8 : Nat)).toNat : Int)).tmod (256 : Int) + (256 : Int))).tmod
              (256 : Int),
            (wrapI IntKind.i64
                  ((wrapI IntKind.i64 (↑(a.d >>> (16 : Nat)).toNat : Int)).tmod (256 : Int) + (256 : Int))).tmod
              (256 : Int),
            (wrapI IntKind.i64
                  ((wrapI IntKind.i64 (↑(a.d >>> (24 : Nat)).toNat : Int)).tmod (256 : Int) + (256 : Int))).tmod
              (256 : Int),
            (wrapI IntKind.i64
                  ((wrapI IntKind.i64 (↑(a.d >>> (32 : Nat)).toNat : Int)).tmod (256 : Int) + (256 : Int))).tmod
              (256 : Int),
            (wrapI IntKind.i64
                  ((wrapI IntKind.i64 (↑(a.d >>> (40 : Nat)).toNat : Int)).tmod (256 : Int) + (256 : Int))).tmod
              (256 : Int),
            (wrapI IntKind.i64
                  ((wrapI IntKind.i64 (↑(a.d >>> (48 : Nat)).toNat : Int)).tmod (256 : Int) + (256 : Int))).tmod
              (256 : Int),
            (wrapI IntKind.i64
                  ((wrapI IntKind.i64 (↑(a.d >>> (56 : Nat)).toNat : Int)).tmod (256 : Int) + (256 : Int))).tmod
              (256 : Int),
            (wrapI IntKind.i64
                  ((wrapI IntKind.i64 (↑(a.c >>> (0 : Nat)).toNat : Int)).tmod (256 : Int) + (256 : Int))).tmod
              (256 : Int),
            (wrapI IntKind.i64
                  ((wrapI IntKind.i64 (↑(a.c >>> (8 : Nat)).toNat : Int)).tmod (256 : Int) + (256 : Int))).tmod
              (256 : Int),
            (wrapI IntKind.i64
                  ((wrapI IntKind.i64 (↑(a.c >>> (16 : Nat)).toNat : Int)).tmod (256 : Int) + (256 : Int))).tmod
              (256 : Int),
            (wrapI IntKind.i64
                  ((wrapI IntKind.i64 (↑(a.c >>> (24 : Nat)).toNat : Int)).tmod (256 : Int) + (256 : Int))).tmod
              (256 : Int),
            (wrapI IntKind.i64
                  ((wrapI IntKind.i64 (↑(a.c >>> (32 : Nat)).toNat : Int)).tmod (256 : Int) + (256 : Int))).tmod
              (256 : Int),
            (wrapI IntKind.i64
                  ((wrapI IntKind.i64 (↑(a.c >>> (40 : Nat)).toNat : Int)).tmod (256 : Int) + (256 : Int))).tmod
              (256 : Int),
            (wrapI IntKind.i64
                  ((wrapI IntKind.i64 (↑(a.c >>> (48 : Nat)).toNat : Int)).tmod (256 : Int) + (256 : Int))).tmod
              (256 : Int),
            (wrapI IntKind.i64
                  ((wrapI IntKind.i64 (↑(a.c >>> (56 : Nat)).toNat : Int)).tmod (256 : Int) + (256 : Int))).tmod
              (256 : Int),
            (wrapI IntKind.i64
                  ((wrapI IntKind.i64 (↑(a.b >>> (0 : Nat)).toNat : Int)).tmod (256 : Int) + (256 : Int))).tmod
              (256 : Int),
            (wrapI IntKind.i64
                  ((wrapI IntKind.i64 (↑(a.b >>> (8 : Nat)).toNat : Int)).tmod (256 : Int) + (256 : Int))).tmod
              (256 : Int),
            (wrapI IntKind.i64
                  ((wrapI IntKind.i64 (↑(a.b >>> (16 : Nat)).toNat : Int)).tmod (256 : Int) + (256 : Int))).tmod
              (256 : Int),
            (wrapI IntKind.i64
                  ((wrapI IntKind.i64 (↑(a.b >>> (24 : Nat)).toNat : Int)).tmod (256 : Int) + (256 : Int))).tmod
              (256 : Int),
            (wrapI IntKind.i64
                  ((wrapI IntKind.i64 (↑(a.b >>> (32 : Nat)).toNat : Int)).tmod (256 : Int) + (256 : Int))).tmod
              (256 : Int),
            (wrapI IntKind.i64
                  ((wrapI IntKind.i64 (↑(a.b >>> (40 : Nat)).toNat : Int)).tmod (256 : Int) + (256 : Int))).tmod
              (256 : Int),
            (wrapI IntKind.i64
                  ((wrapI IntKind.i64 (↑(a.b >>> (48 : Nat)).toNat : Int)).tmod (256 : Int) + (256 : Int))).tmod
              (256 : Int),
            (wrapI IntKind.i64
                  ((wrapI IntKind.i64 (↑(a.b >>> (56 : Nat)).toNat : Int)).tmod (256 : Int) + (256 : Int))).tmod
              (256 : Int),
            (wrapI IntKind.i64
                  ((wrapI IntKind.i64 (↑(a.a >>> (0 : Nat)).toNat : Int)).tmod (256 : Int) + (256 : Int))).tmod
              (256 : Int),
            (wrapI IntKind.i64
                  ((wrapI IntKind.i64 (↑(a.a >>> (8 : Nat)).toNat : Int)).tmod (256 : Int) + (256 : Int))).tmod
              (256 : Int),
            (wrapI IntKind.i64
                  ((wrapI IntKind.i64 (↑(a.a >>> (16 : Nat)).toNat : Int)).tmod (256 : Int) + (256 : Int))).tmod
              (256 : Int),
            (wrapI IntKind.i64
                  ((wrapI IntKind.i64 (↑(a.a >>> (24 : Nat)).toNat : Int)).tmod (256 : Int) + (256 : Int))).tmod
              (256 : Int),
            (wrapI IntKind.i64
                  ((wrapI IntKind.i64 (↑(a.a >>> (32 : Nat)).toNat : Int)).tmod (256 : Int) + (256 : Int))).tmod
              (256 : Int),
            (wrapI IntKind.i64
                  ((wrapI IntKind.i64 (↑(a.a >>> (40 : Nat)).toNat : Int)).tmod (256 : Int) + (256 : Int))).tmod
              (256 : Int),
            (wrapI IntKind.i64
                  ((wrapI IntKind.i64 (↑(a.a >>> (48 : Nat)).toNat : Int)).tmod (256 : Int) + (256 : Int))).tmod
              (256 : Int),
            (wrapI IntKind.i64
                  ((wrapI IntKind.i64 (↑(a.a >>> (56 : Nat)).toNat : Int)).tmod (256 : Int) + (256 : Int))).tmod
              (256 : Int)]])) := by kernel_rfl
theorem digits_fn (a : W4) : LFn Pr 27 [a.v] [] (.ret (.sl 0 0 1 32 none)) [.ints (W4.dg 32 a.n)] := by
  refine fnT OBY_sound mixed (by kernel_rfl) LoopsOk.noneT (dig_x a) (tr1 rfl ?_)
  have ha := a.a.isLt
  have hb := a.b.isLt
  have hc := a.c.isLt
  have hd := a.d.isLt
  simp only [W4.dig_el]
  simp only [BitVec.toNat_ushiftRight, Nat.shiftRight_eq_div_pow]
  have e : W4.dg 32 a.n = (List.range 32).map fun i => ((a.n / 256 ^ i % 256 : Nat) : Int) := rfl
  rw [e, show List.range 32 = [0,1,2,3,4,5,6,7,8,9,10,11,12,13,14,15,16,17,18,19,20,21,22,23,24,25,26,27,28,29,30,31] from rfl]
  simp only [List.map_cons, List.map_nil]
  have hn : a.n = 2 ^ 192 * a.a.toNat + (2 ^ 128 * a.b.toNat + (2 ^ 64 * a.c.toNat + a.d.toNat)) := rfl
  refine congrArg (fun l => (Fin.ret (V.sl 0 0 1 32 none), [Blk.ints l])) ?_
  (repeat' apply List.cons_eq_cons.2 ⟨?_, ?_⟩) <;> first | rfl | omega
def readWd : List V → Heap → Option W4 := fun args h => match args, h with
  | [.agg [.u64 a, .u64 b, .u64 c, .u64 d]], [] => some ⟨a, b, c, d⟩
  | _, _ => none
theorem readWd_ok {f : W4 → Tr (Fin × Heap)} {i : FuncId} (H : ∀ a r, (f a).is r → LFn Pr i [a.v] [] r.1 r.2) : ∀ args h r, (ctT readWd f args h).is r → LFn Pr i args h r.1 r.2 := by
  refine ctT_ok (fun a => [a.v]) (fun _ => []) ?_ H
  intro args h a e
  unfold readWd at e
  split at e <;> cases e
  exact ⟨rfl, rfl⟩
def KD1 : KnownT := [(27, ctT readWd fun a => .leaf (.ret (.sl 0 0 1 32 none), [.ints (W4.dg 32 a.n)]))]
theorem KD1_ok : KOkT Pr KD1 := KOkT.cons (Enters.of (fn := Go.Proofs.Try.f27) (by kernel_rfl) (by kernel_rfl)) (readWd_ok (fun a r h => by rw [Tr.is_leaf] at h; subst h; exact digits_fn a)) KOkT.nil
def OD1 : OrcT := autoT Pr noExt KD1 [] 3
theorem OD1_sound : OrcSound Pr OD1.o := autoT_sound mixed noExt_ok KD1_ok (by kernel_rfl) 3
def bysI (a : W4) : List (BitVec 8) := (List.range 32).map fun i => BitVec.ofInt 8 ((a.n / 256 ^ (31 - i) % 256 : Nat) : Int)
theorem bysI_eq (a : W4) : bysI a = a.bytes := by
  unfold bysI W4.bytes
  apply List.map_congr_left
  intro i hi
  have hi : i < 32 := by simpa using hi
  apply BitVec.eq_of_toNat_eq
  rw [W4.byteAt_n _ (by omega), BitVec.ofInt_natCast, BitVec.toNat_ofNat]
  omega
theorem rby_v (a : W4) : Tr.prune (Tr.Sh.any.r.l.l.l.l.l.l.l.l.l.l.l.l.l.l.l.l.l.l.l.l.l.l.l.l.l.l.l.l.l.l.l.l) (execBF Pr OD1 noLoopsT 100 Go.Proofs.Try.f22 [a.v] []) = Tr.chk true (Tr.leaf (Fin.ret (V.str (bysI a)), [])) := by kernel_rfl
theorem rby_fn (a : W4) : LFn Pr 22 [a.v] [] (.ret (.str a.bytes)) [] :=
  fnT OD1_sound mixed (by kernel_rfl) LoopsOk.noneT (rby_v a) (tr1 rfl (by rw [bysI_eq]))
theorem bytes_length (a : W4) : a.bytes.length = 32 := by unfold W4.bytes; simp
def byB (a : W4) : List (BitVec 8) := @ite _ True (Classical.propDecidable True) a.bytes []
theorem byB_eq (a : W4) : byB a = a.bytes := if_pos trivial
def KB4 : KnownT := (17, ctT readWd fun a => .leaf (.ret (.str (byB a)), [])) :: (22, ctT readWd fun a => .leaf (.ret (.str (byB a)), [])) :: KB3
theorem KB4_ok : KOkT Pr KB4 := KOkT.cons (Enters.of (fn := Go.Proofs.Try.f17) (by kernel_rfl) (by kernel_rfl)) (readWd_ok (fun a r h => by rw [Tr.is_leaf] at h; subst h; rw [byB_eq]; exact bytes_fn a))
  (KOkT.cons (Enters.of (fn := Go.Proofs.Try.f22) (by kernel_rfl) (by kernel_rfl)) (readWd_ok (fun a r h => by rw [Tr.is_leaf] at h; subst h; rw [byB_eq]; exact rby_fn a)) KB3_ok)
def OB4 : OrcT := autoT Pr noExt KB4 [] 2
theorem OB4_sound : OrcSound Pr OB4.o := autoT_sound mixed noExt_ok KB4_ok (by kernel_rfl) 2
/-- what is told of logs -/
structure LG where
  A : Nat → List (BitVec 8)
  m : Nat → Nat
  T : Nat → Nat → Nat → BitVec 64
  D : Nat → List (BitVec 8)
def lgF (x : LG) : Nat → Nat → V := fun i j => match j with
  | 0 => .str (x.A i)
  | 1 => .isl 4 (x.m i) (fun k j => .u64 (x.T i k j))
  | _ + 2 => .str (x.D i)
def topic (T : Nat → Nat → BitVec 64) (k : Nat) : W4 := ⟨T k 0, T k 1, T k 2, T k 3⟩
theorem lgi_x (n : Nat) (i : Nat) (m : Nat) (k : Nat) (f : Nat → Nat → V) (T : Nat → Nat → BitVec 64) (xs : List (BitVec 8)) : Tr.prune (Tr.Sh.any.both
  Tr.Sh.any)
  (execBN Pr OB4 noLoopsT (100 : Nat) (0 : Nat)
  [(3 : Nat), (8 : Nat), (9 : Nat), (10 : Nat), (18 : Nat), (19 : Nat), (20 : Nat)]
  [(3 : Nat), (8 : Nat), (9 : Nat), (10 : Nat)] (Lh.loopBody Go.Proofs.Try.f15 (1 : Nat))
  [((3 : Nat), V.ptr (0 : Nat) (0 : Nat)), ((8 : Nat), V.isl (3 : Nat) n f), ((9 : Nat), V.int IntKind.i64 (↑n : Int)),
    ((10 : Nat), V.int IntKind.i64 (↑i : Int)), ((18 : Nat), V.isl (4 : Nat) m fun k j ↦ V.u64 (T k j)),
    ((19 : Nat), V.int IntKind.i64 (↑m : Int)), ((20 : Nat), V.int IntKind.i64 (↑k : Int))]
  [Blk.b8 xs]) =
  Tr.chk true
  (Tr.br (decide ((↑k : Int) < (↑m : Int)))
    (Tr.chk
      (decide ((↑k : Int) < (↑m : Int)) && (decide (k < m) && true && true) &&
          (isTxt (byB (W4.mk (T k (0 : Nat)) (T k (1 : Nat)) (T k (2 : Nat)) (T k (3 : Nat)))) && is256 xs) &&
        true)
      (Tr.leaf
        (X.normal,
          [((3 : Nat), V.ptr (0 : Nat) (0 : Nat)), ((8 : Nat), V.isl (3 : Nat) n f),
            ((9 : Nat), V.int IntKind.i64 (↑n : Int)), ((10 : Nat), V.int IntKind.i64 (↑i : Int)),
            ((18 : Nat), V.isl (4 : Nat) m fun k j ↦ V.u64 (T k j)), ((19 : Nat), V.int IntKind.i64 (↑m : Int)),
            ((20 : Nat), V.int IntKind.i64 (wrapI IntKind.i64 ((↑k : Int) + (1 : Int))))],
          [Blk.b8 (addB xs (byB (W4.mk (T k (0 : Nat)) (T k (1 : Nat)) (T k (2 : Nat)) (T k (3 : Nat)))))])))
    (Tr.leaf
      (X.exit (2 : Nat),
        [((3 : Nat), V.ptr (0 : Nat) (0 : Nat)), ((8 : Nat), V.isl (3 : Nat) n f),
          ((9 : Nat), V.int IntKind.i64 (↑n : Int)), ((10 : Nat), V.int IntKind.i64 (↑i : Int))],
        [Blk.b8 xs]))) := by kernel_rfl
theorem rlgi_x (n : Nat) (i : Nat) (k : Nat) (x : LG) (xs : List (BitVec 8)) : Tr.prune (Tr.Sh.any.both Tr.Sh.any)
  (execBN Pr OB4 noLoopsT (100 : Nat) (0 : Nat) [(0 : Nat), (3 : Nat), (4 : Nat), (5 : Nat)]
  [(0 : Nat), (3 : Nat), (4 : Nat)] (Lh.loopBody Go.Proofs.Try.f16 (1 : Nat))
  [((0 : Nat), V.isl (3 : Nat) n (lgF x)), ((3 : Nat), V.str xs), ((4 : Nat), V.int IntKind.i64 (↑i : Int)),
    ((5 : Nat), V.int IntKind.i64 (↑k : Int))]
  []) =
  Tr.chk (decide ((↑i : Int) < (↑n : Int)) && (decide (i < n) && true && true))
  (Tr.br (decide ((↑k : Int) < (↑(x.m i) : Int)))
    (Tr.chk
      (decide ((↑i : Int) < (↑n : Int)) &&
          (decide (i < n) && true &&
            (decide ((↑k : Int) < (↑(x.m i) : Int)) &&
              (decide (k < x.m i) && true &&
                (isTxt (byB (W4.mk (x.T i k (0 : Nat)) (x.T i k (1 : Nat)) (x.T i k (2 : Nat)) (x.T i k (3 : Nat)))) &&
                  true)))) &&
        true)
      (Tr.leaf
        (X.normal,
          [((0 : Nat), V.isl (3 : Nat) n (lgF x)),
            ((3 : Nat),
              V.str
                (addS xs
                  (byB (W4.mk (x.T i k (0 : Nat)) (x.T i k (1 : Nat)) (x.T i k (2 : Nat)) (x.T i k (3 : Nat)))))),
            ((4 : Nat), V.int IntKind.i64 (↑i : Int)),
            ((5 : Nat), V.int IntKind.i64 (wrapI IntKind.i64 ((↑k : Int) + (1 : Int))))],
          [])))
    (Tr.leaf
      (X.exit (2 : Nat),
        [((0 : Nat), V.isl (3 : Nat) n (lgF x)), ((3 : Nat), V.str xs), ((4 : Nat), V.int IntKind.i64 (↑i : Int))],
        []))) := by kernel_rfl
end
end Go.Proofs.Ytklgiongdiojcaa.K
end
section
open Go Go.Lh Go.Lh.Bl
namespace Go.Proofs.Ytklgiongdiojcaa.K
noncomputable section
set_option maxRecDepth 100000
def addT (xs : List (BitVec 8)) (ss : List (List (BitVec 8))) : List (BitVec 8) := ss.foldl addB xs
theorem addT_length (ss : List (List (BitVec 8))) : ∀ xs : List (BitVec 8), (addT xs ss).length = xs.length := by
  induction ss with
  | nil => intro xs; rfl
  | cons s r ih => intro xs; show (addT (addB xs s) r).length = _; rw [ih, addB_length]
theorem addT_snoc (xs : List (BitVec 8)) (ss : List (List (BitVec 8))) (s : List (BitVec 8)) : addT xs (ss ++ [s]) = addB (addT xs ss) s := by simp [addT]
theorem addT_append (xs : List (BitVec 8)) (a b : List (List (BitVec 8))) : addT xs (a ++ b) = addT (addT xs a) b := by simp [addT]
theorem addT_all (ss : List (List (BitVec 8))) : ∀ xs : List (BitVec 8), addT xs ss = setAll xs (ss.map sumO) := by
  induction ss with
  | nil => intro xs; rfl
  | cons s r ih => intro xs; show addT (addB xs s) r = setAll (setL xs (sumO s)) (r.map sumO); rw [ih, addB_eq]
def strs (T : Nat → Nat → BitVec 64) : Nat → List (List (BitVec 8))
  | 0 => []
  | k + 1 => strs T k ++ [byB (topic T k)]
def logStrs (x : LG) : Nat → List (List (BitVec 8))
  | 0 => []
  | i + 1 => logStrs x i ++ (x.A i :: strs (x.T i) (x.m i))
def addTop (xs : List (BitVec 8)) (T : Nat → Nat → BitVec 64) (m : Nat) : List (BitVec 8) := @ite _ True (Classical.propDecidable True) (addT xs (strs T m)) []
theorem addTop_eq (xs : List (BitVec 8)) (T : Nat → Nat → BitVec 64) (m : Nat) : addTop xs T m = addT xs (strs T m) := if_pos trivial
theorem addTop_length (xs : List (BitVec 8)) (T : Nat → Nat → BitVec 64) (m : Nat) : (addTop xs T m).length = xs.length := by rw [addTop_eq, addT_length]
theorem byB_txt (a : W4) : isTxt (byB a) = true := isTxt_iff.2 (by rw [byB_eq, bytes_length]; decide)
def uOf : V → BitVec 64
  | .u64 x => x
  | _ => 0
structure LI where
  n : Nat
  f : Nat → Nat → V
  nn : Int
  i : Int
  m : Nat
  g : Nat → Nat → V
  l : Int
  xs : List (BitVec 8)
def LI.T (a : LI) : Nat → Nat → BitVec 64 := fun k j => uOf (a.g k j)
def li_S (a : LI) (k : Nat) : Fr × Heap := ([(3,.ptr 0 0),(8,.isl 3 a.n a.f),(9,.int .i64 a.nn),(10,.int .i64 a.i),(18,.isl 4 a.m a.g),(19,.int .i64 a.l),(20,.int .i64 (k : Int))], [.b8 (addT a.xs (strs a.T k))])
def li_read : Fr → Heap → Option LI := fun f h => match f, h with
  | [(3,.ptr 0 0),(8,.isl 3 n f),(9,.int .i64 nn),(10,.int .i64 i),(18,.isl 4 m g),(19,.int .i64 l),(20,.int .i64 0)], [.b8 xs] => some ⟨n, f, nn, i, m, g, l, xs⟩
  | _, _ => none
def li_ok (a : LI) : Bool := @decide (a.xs.length = 256 ∧ a.l = (a.m : Int) ∧ a.m < 2 ^ 63 ∧ a.nn = (a.n : Int) ∧ 0 ≤ a.i ∧ a.g = fun k j => .u64 (a.T k j)) (Classical.propDecidable _)
def li_E (a : LI) : Tr (X × Fr × Heap) := .leaf (.exit 2, [(3,.ptr 0 0),(8,.isl 3 a.n a.f),(9,.int .i64 a.nn),(10,.int .i64 a.i)], [.b8 (addTop a.xs a.T a.m)])
def li_s : SmT := whT 7 [3,8,9,10,18,19,20] li_read li_ok li_E
theorem li_at : SmAtT Pr Go.Proofs.Try.f15 0 li_s 1 := by
  refine cntT_at (L := noLoopsT) (fuel := 100) (on := [3,8,9,10,18,19,20]) (off := [3,8,9,10]) OB4_sound mixed li_S (fun a => a.m) (by kernel_rfl) (by kernel_rfl) (by kernel_rfl) LoopsOk.noneT ?_ ?_
  · intro f g a h
    unfold li_read at h
    split at h <;> cases h
    rfl
  · rintro ⟨n, f, nn, i, m, g, l, xs⟩ q hok hq k hk
    have hok := @of_decide_eq_true _ (Classical.propDecidable _) hok
    simp only at hok hk
    obtain ⟨hx, rfl, hm, rfl, hi, hg⟩ := hok
    obtain ⟨i, rfl⟩ : ∃ j : Nat, i = j := ⟨i.toNat, by omega⟩
    generalize hT : LI.T ⟨n, f, n, i, m, g, m, xs⟩ = T at hg
    subst hg
    rw [li_E, Tr.is_leaf] at hq
    simp only at hq
    have hlen : (addT xs (strs T k)).length = 256 := by rw [addT_length, hx]
    refine Tr.wp_prune (lgi_x n i m k f T (addT xs (strs T k))) ?_
    refine wp_chk_true.2 (wp_br.2 ⟨fun h => ?_, fun h => ?_⟩)
    · have h := of_decide_eq_true h
      have c1 : isTxt (byB (W4.mk (T k 0) (T k 1) (T k 2) (T k 3))) = true := byB_txt _
      have c2 : is256 (addT xs (strs T k)) = true := is256_iff.2 hlen
      rw [c1, c2]
      refine wp_chk.2 ⟨?_, wp_leaf.2 (.inl ⟨rfl, by simp only; omega, ?_⟩)⟩
      · simp only [Bool.and_eq_true, Bool.and_true, decide_eq_true_eq]; omega
      · rw [show ((k : Int) + 1) = ((k + 1 : Nat) : Int) by omega, wrapI_nat (by omega)]
        simp only [li_S, strs, addT_snoc, LI.T]
        rfl
    · have h := of_decide_eq_false h
      have e : k = m := by omega
      subst e
      refine wp_leaf.2 (.inr ⟨fun h => (by cases h), ?_⟩)
      rw [← hq, addTop_eq]
      rfl
theorem li_Ls : LoopsOk Pr Go.Proofs.Try.f15 0 (smLT 0 [li_s]).o := LoopsOk.one (by kernel_rfl) li_at
theorem lgo_x (n : Nat) (i : Nat) (x : LG) (xs : List (BitVec 8)) : Tr.prune (Tr.Sh.any.both Tr.Sh.any)
  (execBN Pr OB4 (smLT (0 : Nat) [li_s]) (100 : Nat) (0 : Nat) [(3 : Nat), (8 : Nat), (9 : Nat), (10 : Nat)] [(3 : Nat)]
  (Lh.loopBody Go.Proofs.Try.f15 (0 : Nat))
  [((3 : Nat), V.ptr (0 : Nat) (0 : Nat)), ((8 : Nat), V.isl (3 : Nat) n (lgF x)),
    ((9 : Nat), V.int IntKind.i64 (↑n : Int)), ((10 : Nat), V.int IntKind.i64 (↑i : Int))]
  [Blk.b8 xs]) =
  Tr.chk true
  (Tr.br (decide ((↑i : Int) < (↑n : Int)))
    (Tr.chk
      (decide ((↑i : Int) < (↑n : Int)) && (decide (i < n) && true && true) &&
          (isTxt (x.A i) && is256 xs &&
            li_ok
              (LI.mk n (lgF x) (↑n : Int) (↑i : Int) (x.m i) (fun k j ↦ V.u64 (x.T (↑i : Int).toNat k j))
                (↑(x.m i) : Int) (addB xs (x.A i)))) &&
        true)
      (Tr.leaf
        (X.normal,
          [((3 : Nat), V.ptr (0 : Nat) (0 : Nat)), ((8 : Nat), V.isl (3 : Nat) n (lgF x)),
            ((9 : Nat), V.int IntKind.i64 (↑n : Int)),
            ((10 : Nat), V.int IntKind.i64 (wrapI IntKind.i64 ((↑i : Int) + (1 : Int))))],
          [Blk.b8
              (addTop (addB xs (x.A i))
                (LI.mk n (lgF x) (↑n : Int) (↑i : Int) (x.m i) (fun k j ↦ V.u64 (x.T (↑i : Int).toNat k j))
                    (↑(x.m i) : Int) (addB xs (x.A i))).T
                (x.m i))])))
    (Tr.leaf (X.exit (0 : Nat), [((3 : Nat), V.ptr (0 : Nat) (0 : Nat))], [Blk.b8 xs]))) := by kernel_rfl
structure RI where
  n : Nat
  f : Nat → Nat → V
  b : List (BitVec 8)
  i : Int
def sOf : V → List (BitVec 8)
  | .str s => s
  | _ => []
def lOf : V → Nat
  | .isl _ n _ => n
  | _ => 0
def gOf : V → Nat → Nat → BitVec 64
  | .isl _ _ g => fun k j => uOf (g k j)
  | _ => fun _ _ => 0
def rdL (f : Nat → Nat → V) : LG := ⟨fun i => sOf (f i 0), fun i => lOf (f i 1), fun i => gOf (f i 1), fun i => sOf (f i 2)⟩
theorem rdL_lgF (x : LG) : rdL (lgF x) = x := rfl
def ri_S (a : RI) (k : Nat) : Fr × Heap := ([(0,.isl 3 a.n a.f),(3,.str (addT a.b (strs ((rdL a.f).T a.i.toNat) k))),(4,.int .i64 a.i),(5,.int .i64 (k : Int))], [])
def ri_read : Fr → Heap → Option RI := fun f h => match f, h with
  | [(0,.isl 3 n f),(3,.str b),(4,.int .i64 i),(5,.int .i64 0)], [] => some ⟨n, f, b, i⟩
  | _, _ => none
def ri_ok (a : RI) : Bool := @decide (a.b.length = 256 ∧ 0 ≤ a.i ∧ a.i < (a.n : Int) ∧ (rdL a.f).m a.i.toNat < 2 ^ 63 ∧ a.f = lgF (rdL a.f)) (Classical.propDecidable _)
def ri_E (a : RI) : Tr (X × Fr × Heap) := .leaf (.exit 2, [(0,.isl 3 a.n a.f),(3,.str (addTop a.b ((rdL a.f).T a.i.toNat) ((rdL a.f).m a.i.toNat))),(4,.int .i64 a.i)], [])
def ri_s : SmT := whT 7 [0,3,4,5] ri_read ri_ok ri_E
theorem ri_at : SmAtT Pr Go.Proofs.Try.f16 0 ri_s 1 := by
  refine cntT_at (L := noLoopsT) (fuel := 100) (on := [0,3,4,5]) (off := [0,3,4]) OB4_sound mixed ri_S (fun a => (rdL a.f).m a.i.toNat) (by kernel_rfl) (by kernel_rfl) (by kernel_rfl) LoopsOk.noneT ?_ ?_
  · intro f g a h
    unfold ri_read at h
    split at h <;> cases h
    rfl
  · rintro ⟨n, f, b, i⟩ q hok hq k hk
    have hok := @of_decide_eq_true _ (Classical.propDecidable _) hok
    have hx : b.length = 256 := hok.1
    have hi : 0 ≤ i := hok.2.1
    have hin : i < (n : Int) := hok.2.2.1
    have hm : (rdL f).m i.toNat < 2 ^ 63 := hok.2.2.2.1
    have hf : f = lgF (rdL f) := hok.2.2.2.2
    clear hok
    simp only at hk
    obtain ⟨i, rfl⟩ : ∃ j : Nat, i = j := ⟨i.toNat, by omega⟩
    rw [ri_E, Tr.is_leaf] at hq
    simp only at hq
    obtain ⟨x, hfx⟩ : ∃ x, f = lgF x := ⟨_, hf⟩
    subst hfx
    clear hf
    simp only [rdL_lgF, Int.toNat_natCast] at hm hk hq
    have hS : ∀ k, ri_S ⟨n, lgF x, b, i⟩ k = ([(0,.isl 3 n (lgF x)),(3,.str (addT b (strs (x.T i) k))),(4,.int .i64 (i : Int)),(5,.int .i64 (k : Int))], []) := fun k => by unfold ri_S; simp only [rdL_lgF, Int.toNat_natCast]
    rw [hS, hS]
    dsimp only
    have hlen : (addT b (strs (x.T i) k)).length = 256 := by rw [addT_length, hx]
    have hw := rlgi_x n i k x (addT b (strs (x.T i) k))
    revert hw
    generalize (execBN Pr OB4 noLoopsT 100 0 [0, 3, 4, 5] [0, 3, 4] (Go.Lh.loopBody Go.Proofs.Try.f16 1) [(0, V.isl 3 n (lgF x)), (3, V.str (addT b (strs (x.T i) k))), (4, V.int IntKind.i64 (i : Int)), (5, V.int IntKind.i64 (k : Int))] []) = E
    intro hw
    refine Tr.wp_prune hw ?_
    refine wp_chk.2 ⟨by simp only [Bool.and_eq_true, Bool.and_true, decide_eq_true_eq]; omega, wp_br.2 ⟨fun h => ?_, fun h => ?_⟩⟩
    · have h := of_decide_eq_true h
      have c1 : isTxt (byB (W4.mk (x.T i k 0) (x.T i k 1) (x.T i k 2) (x.T i k 3))) = true := byB_txt _
      have c2 : addS (addT b (strs (x.T i) k)) (byB (W4.mk (x.T i k 0) (x.T i k 1) (x.T i k 2) (x.T i k 3))) = addT b (strs (x.T i) (k + 1)) := by
        rw [strs, addT_snoc]; exact if_pos hlen
      rw [c1, c2]
      refine wp_chk.2 ⟨?_, wp_leaf.2 (.inl ⟨rfl, by simp only [rdL_lgF, Int.toNat_natCast]; omega, ?_⟩)⟩
      · simp only [Bool.and_eq_true, Bool.and_true, decide_eq_true_eq]; omega
      · rw [show ((k : Int) + 1) = ((k + 1 : Nat) : Int) by omega, wrapI_nat (by omega)]
    · have h := of_decide_eq_false h
      have e : k = x.m i := by omega
      subst e
      refine wp_leaf.2 (.inr ⟨fun h => (by cases h), ?_⟩)
      rw [← hq, addTop_eq]
theorem ri_Ls : LoopsOk Pr Go.Proofs.Try.f16 0 (smLT 0 [ri_s]).o := LoopsOk.one (by kernel_rfl) ri_at
theorem rlgo_x (n : Nat) (i : Nat) (x : LG) (xs : List (BitVec 8)) : Tr.prune (Tr.Sh.any.both Tr.Sh.any)
  (execBN Pr OB4 (smLT (0 : Nat) [ri_s]) (100 : Nat) (0 : Nat) [(0 : Nat), (3 : Nat), (4 : Nat)] [(3 : Nat)]
  (Lh.loopBody Go.Proofs.Try.f16 (0 : Nat))
  [((0 : Nat), V.isl (3 : Nat) n (lgF x)), ((3 : Nat), V.str xs), ((4 : Nat), V.int IntKind.i64 (↑i : Int))] []) =
  Tr.chk true
  (Tr.br (decide ((↑i : Int) < (↑n : Int)))
    (Tr.chk
      (decide ((↑i : Int) < (↑n : Int)) && (decide (i < n) && true && (isTxt (x.A i) && true)) &&
          ri_ok (RI.mk n (lgF x) (addS xs (x.A i)) (↑i : Int)) &&
        true)
      (Tr.leaf
        (X.normal,
          [((0 : Nat), V.isl (3 : Nat) n (lgF x)),
            ((3 : Nat), V.str (addTop (addS xs (x.A i)) ((rdL (lgF x)).T i) ((rdL (lgF x)).m i))),
            ((4 : Nat), V.int IntKind.i64 (wrapI IntKind.i64 ((↑i : Int) + (1 : Int))))],
          [])))
    (Tr.leaf (X.exit (0 : Nat), [((3 : Nat), V.str xs)], []))) := by kernel_rfl
def okL (n : Nat) (f : Nat → Nat → V) : Bool := @decide (n < 2 ^ 63 ∧ f = lgF (rdL f) ∧ ∀ i, i < n → ((rdL f).A i).length ≤ 140737488351232 ∧ (rdL f).m i < 2 ^ 63) (Classical.propDecidable _)
def addLg (xs : List (BitVec 8)) (f : Nat → Nat → V) (n : Nat) : List (BitVec 8) := @ite _ True (Classical.propDecidable True) (addT xs (logStrs (rdL f) n)) []
theorem addLg_eq (xs : List (BitVec 8)) (f : Nat → Nat → V) (n : Nat) : addLg xs f n = addT xs (logStrs (rdL f) n) := if_pos trivial
theorem addT_log (xs : List (BitVec 8)) (x : LG) (i : Nat) : addT xs (logStrs x (i + 1)) = addTop (addB (addT xs (logStrs x i)) (x.A i)) (x.T i) (x.m i) := by
  rw [logStrs, addT_append, addTop_eq]; rfl
structure LO where
  n : Nat
  f : Nat → Nat → V
  nn : Int
  xs : List (BitVec 8)
def lo_S (a : LO) (i : Nat) : Fr × Heap := ([(3,.ptr 0 0),(8,.isl 3 a.n a.f),(9,.int .i64 a.nn),(10,.int .i64 (i : Int))], [.b8 (addT a.xs (logStrs (rdL a.f) i))])
def lo_read : Fr → Heap → Option LO := fun f h => match f, h with
  | [(3,.ptr 0 0),(8,.isl 3 n f),(9,.int .i64 nn),(10,.int .i64 0)], [.b8 xs] => some ⟨n, f, nn, xs⟩
  | _, _ => none
def lo_ok (a : LO) : Bool := is256 a.xs && okL a.n a.f && @decide (a.nn = (a.n : Int)) (Classical.propDecidable _)
def lo_E (a : LO) : Tr (X × Fr × Heap) := .leaf (.exit 0, [(3,.ptr 0 0)], [.b8 (addLg a.xs a.f a.n)])
def lo_s : SmT := whT 3 [3,8,9,10] lo_read lo_ok lo_E
theorem okL_iff {n : Nat} {f : Nat → Nat → V} (h : okL n f = true) : n < 2 ^ 63 ∧ f = lgF (rdL f) ∧ ∀ i, i < n → ((rdL f).A i).length ≤ 140737488351232 ∧ (rdL f).m i < 2 ^ 63 := @of_decide_eq_true _ (Classical.propDecidable _) h
theorem lo_at : SmAtT Pr Go.Proofs.Try.f15 0 lo_s 0 := by
  refine cntT_at (L := smLT 0 [li_s]) (fuel := 100) (on := [3,8,9,10]) (off := [3]) OB4_sound mixed lo_S (fun a => a.n) (by kernel_rfl) (by kernel_rfl) (by kernel_rfl) li_Ls ?_ ?_
  · intro f g a h
    unfold lo_read at h
    split at h <;> cases h
    rfl
  · rintro ⟨n, f, nn, xs⟩ q hok hq k hk
    simp only [lo_ok, Bool.and_eq_true] at hok
    have hx : xs.length = 256 := is256_iff.1 hok.1.1
    have hL := okL_iff hok.1.2
    have hnn : nn = (n : Int) := @of_decide_eq_true _ (Classical.propDecidable _) hok.2
    clear hok
    subst hnn
    rw [lo_E, Tr.is_leaf] at hq
    simp only at hq hk
    have hn := hL.1
    obtain ⟨x, hfx⟩ : ∃ x, f = lgF x := ⟨_, hL.2.1⟩
    have hA := hL.2.2
    clear hL
    subst hfx
    simp only [rdL_lgF] at hA
    have hS : ∀ k, lo_S ⟨n, lgF x, n, xs⟩ k = ([(3,.ptr 0 0),(8,.isl 3 n (lgF x)),(9,.int .i64 (n : Int)),(10,.int .i64 (k : Int))], [.b8 (addT xs (logStrs x k))]) := fun k => rfl
    rw [hS, hS]
    dsimp only
    have hlen : (addT xs (logStrs x k)).length = 256 := by rw [addT_length, hx]
    refine Tr.wp_prune (lgo_x n k x (addT xs (logStrs x k))) ?_
    refine wp_chk_true.2 (wp_br.2 ⟨fun h => ?_, fun h => ?_⟩)
    · have h := of_decide_eq_true h
      have hkn : k < n := by omega
      obtain ⟨a1, a2⟩ := hA k hkn
      have c1 : isTxt (x.A k) = true := isTxt_iff.2 a1
      have c2 : is256 (addT xs (logStrs x k)) = true := is256_iff.2 hlen
      have c3 : li_ok (LI.mk n (lgF x) (n : Int) (k : Int) (x.m k) (fun a j => V.u64 (x.T (k : Int).toNat a j)) (x.m k : Int) (addB (addT xs (logStrs x k)) (x.A k))) = true :=
        @decide_eq_true _ (Classical.propDecidable _) ⟨by rw [addB_length, hlen], rfl, a2, rfl, by simp only; omega, rfl⟩
      rw [c1, c2, c3]
      refine wp_chk.2 ⟨?_, wp_leaf.2 (.inl ⟨rfl, hkn, ?_⟩)⟩
      · simp only [Bool.and_eq_true, Bool.and_true, decide_eq_true_eq]; omega
      · rw [show ((k : Int) + 1) = ((k + 1 : Nat) : Int) by omega, wrapI_nat (by omega), addT_log]
        rfl
    · have h := of_decide_eq_false h
      have e : k = n := by omega
      subst e
      refine wp_leaf.2 (.inr ⟨fun h => (by cases h), ?_⟩)
      rw [← hq, addLg_eq]
      rfl
theorem lo_Ls : LoopsOk Pr Go.Proofs.Try.f15 0 (smLT 0 [li_s, lo_s]).o := LoopsOk.two (by kernel_rfl) li_at lo_at
structure RO where
  n : Nat
  f : Nat → Nat → V
  b : List (BitVec 8)
def rlo_S (a : RO) (i : Nat) : Fr × Heap := ([(0,.isl 3 a.n a.f),(3,.str (addT a.b (logStrs (rdL a.f) i))),(4,.int .i64 (i : Int))], [])
def rlo_read : Fr → Heap → Option RO := fun f h => match f, h with
  | [(0,.isl 3 n f),(3,.str b),(4,.int .i64 0)], [] => some ⟨n, f, b⟩
  | _, _ => none
def rlo_ok (a : RO) : Bool := is256 a.b && okL a.n a.f
def rlo_E (a : RO) : Tr (X × Fr × Heap) := .leaf (.exit 0, [(3,.str (addLg a.b a.f a.n))], [])
def rlo_s : SmT := whT 3 [0,3,4] rlo_read rlo_ok rlo_E
theorem rlo_at : SmAtT Pr Go.Proofs.Try.f16 0 rlo_s 0 := by
  refine cntT_at (L := smLT 0 [ri_s]) (fuel := 100) (on := [0,3,4]) (off := [3]) OB4_sound mixed rlo_S (fun a => a.n) (by kernel_rfl) (by kernel_rfl) (by kernel_rfl) ri_Ls ?_ ?_
  · intro f g a h
    unfold rlo_read at h
    split at h <;> cases h
    rfl
  · rintro ⟨n, f, b⟩ q hok hq k hk
    simp only [rlo_ok, Bool.and_eq_true] at hok
    have hx : b.length = 256 := is256_iff.1 hok.1
    have hL := okL_iff hok.2
    clear hok
    rw [rlo_E, Tr.is_leaf] at hq
    simp only at hq hk
    have hn := hL.1
    obtain ⟨x, hfx⟩ : ∃ x, f = lgF x := ⟨_, hL.2.1⟩
    have hA := hL.2.2
    clear hL
    subst hfx
    simp only [rdL_lgF] at hA
    have hS : ∀ k, rlo_S ⟨n, lgF x, b⟩ k = ([(0,.isl 3 n (lgF x)),(3,.str (addT b (logStrs x k))),(4,.int .i64 (k : Int))], []) := fun k => rfl
    rw [hS, hS]
    dsimp only
    have hlen : (addT b (logStrs x k)).length = 256 := by rw [addT_length, hx]
    refine Tr.wp_prune (rlgo_x n k x (addT b (logStrs x k))) ?_
    refine wp_chk_true.2 (wp_br.2 ⟨fun h => ?_, fun h => ?_⟩)
    · have h := of_decide_eq_true h
      have hkn : k < n := by omega
      obtain ⟨a1, a2⟩ := hA k hkn
      have c1 : isTxt (x.A k) = true := isTxt_iff.2 a1
      have c2 : addS (addT b (logStrs x k)) (x.A k) = addB (addT b (logStrs x k)) (x.A k) := if_pos hlen
      have c3 : ri_ok (RI.mk n (lgF x) (addB (addT b (logStrs x k)) (x.A k)) (k : Int)) = true :=
        @decide_eq_true _ (Classical.propDecidable _) ⟨by rw [addB_length, hlen], by simp only; omega, by simp only; omega, a2, rfl⟩
      rw [c2, c1, c3]
      refine wp_chk.2 ⟨?_, wp_leaf.2 (.inl ⟨rfl, hkn, ?_⟩)⟩
      · simp only [Bool.and_eq_true, Bool.and_true, decide_eq_true_eq]; omega
      · rw [show ((k : Int) + 1) = ((k + 1 : Nat) : Int) by omega, wrapI_nat (by omega), addT_log]
        rfl
    · have h := of_decide_eq_false h
      have e : k = n := by omega
      subst e
      refine wp_leaf.2 (.inr ⟨fun h => (by cases h), ?_⟩)
      rw [← hq, addLg_eq]
      rfl
theorem rlo_Ls : LoopsOk Pr Go.Proofs.Try.f16 0 (smLT 0 [ri_s, rlo_s]).o := LoopsOk.two (by kernel_rfl) ri_at rlo_at
theorem zer_len : zer.length = 256 := List.length_replicate
theorem addLg_length (xs : List (BitVec 8)) (f : Nat → Nat → V) (n : Nat) : (addLg xs f n).length = xs.length := by rw [addLg_eq, addT_length]
theorem logs_v (n : Nat) (f : Nat → Nat → V) : Tr.prune Tr.Sh.any (execBF Pr OB4 (smLT 0 [li_s, lo_s]) 100 Go.Proofs.Try.f15 [.isl 3 n f] []) =
  Tr.chk (lo_ok (LO.mk n f (n : Int) zer) && (decide (256 ≤ (addLg zer f n).length) && (decide (256 ≤ (addLg zer f n).length) && true)) && true) (Tr.leaf (Fin.ret (V.str (List.take 256 (addLg zer f n))), [])) := by kernel_rfl
theorem rlogs_x (n : Nat) (f : Nat → Nat → V) : Tr.prune (Tr.Sh.any)
  (execBF Pr OB4 (smLT (0 : Nat) [ri_s, rlo_s]) (100 : Nat) Go.Proofs.Try.f16 [V.isl (3 : Nat) n f] []) =
  Tr.chk (rlo_ok (RO.mk n f zN) && true && true) (Tr.leaf (Fin.ret (V.str (addLg zN f n)), [])) := by kernel_rfl
theorem logs_fn (n : Nat) (f : Nat → Nat → V) (h : okL n f = true) : LFn Pr 15 [.isl 3 n f] [] (.ret (.str (addLg zN f n))) [] := by
  refine fnT OB4_sound mixed (by kernel_rfl) lo_Ls (logs_v n f) ?_
  have hz : zN = zer := zN_eq
  have c1 : lo_ok (LO.mk n f (n : Int) zer) = true := by simp only [lo_ok, Bool.and_eq_true]; exact ⟨⟨is256_iff.2 zer_len, h⟩, decide_eq_true (by trivial)⟩
  have l1 : (addLg zer f n).length = 256 := by rw [addLg_length, zer_len]
  rw [c1, take256 _ l1, l1, hz]
  exact ⟨rfl, rfl⟩
theorem rlogs_fn (n : Nat) (f : Nat → Nat → V) (h : okL n f = true) : LFn Pr 16 [.isl 3 n f] [] (.ret (.str (addLg zN f n))) [] := by
  refine fnT OB4_sound mixed (by kernel_rfl) rlo_Ls (rlogs_x n f) ?_
  have hz : zN.length = 256 := by rw [zN_eq]; exact zeros_len
  have c1 : rlo_ok (RO.mk n f zN) = true := by simp only [rlo_ok, Bool.and_eq_true]; exact ⟨is256_iff.2 hz, h⟩
  rw [c1]
  exact ⟨rfl, rfl⟩
theorem logs0_v : Tr.prune (Tr.Sh.any.r) (execBF Pr OB4 noLoopsT 100 Go.Proofs.Try.f15 [.nilSl] []) = Tr.chk true (Tr.leaf (Fin.ret (V.str (List.take 256 zer)), [])) := by kernel_rfl
theorem logs0_fn : LFn Pr 15 [.nilSl] [] (.ret (.str zN)) [] := by
  refine fnT OB4_sound mixed (by kernel_rfl) LoopsOk.noneT logs0_v (tr1 rfl ?_)
  rw [take256 _ zer_len, zN_eq]; rfl
end
end Go.Proofs.Ytklgiongdiojcaa.K
end
section
open Go Go.Lh Go.Lh.Bl
namespace Go.Proofs.Ytklgiongdiojcaa.K
noncomputable section
set_option maxRecDepth 100000
def okF (n : Nat) (f : Nat → Nat → V) : Bool := @decide (n < 2 ^ 63 ∧ (∀ i j, i < n → j < 3 → f i j = lgF (rdL f) i j) ∧ ∀ i, i < n → ((rdL f).A i).length ≤ 140737488351232 ∧ (rdL f).m i < 2 ^ 63) (Classical.propDecidable _)
theorem okF_iff {n : Nat} {f : Nat → Nat → V} : okF n f = true ↔ (n < 2 ^ 63 ∧ (∀ i j, i < n → j < 3 → f i j = lgF (rdL f) i j) ∧ ∀ i, i < n → ((rdL f).A i).length ≤ 140737488351232 ∧ (rdL f).m i < 2 ^ 63) :=
  ⟨fun h => @of_decide_eq_true _ (Classical.propDecidable _) h, fun h => @decide_eq_true _ (Classical.propDecidable _) h⟩
theorem okL_of {n : Nat} {f : Nat → Nat → V} (h : okF n f = true) : okL n (lgF (rdL f)) = true := by
  have h := okF_iff.1 h
  exact @decide_eq_true _ (Classical.propDecidable _) ⟨h.1, rfl, h.2.2⟩
theorem addLg_lgF (xs : List (BitVec 8)) (f : Nat → Nat → V) (n : Nat) : addLg xs (lgF (rdL f)) n = addLg xs f n := by rw [addLg_eq, addLg_eq]; rfl
theorem logsE_fn (n : Nat) (f : Nat → Nat → V) (h : okF n f = true) : LFn Pr 15 [.isl 3 n f] [] (.ret (.str (addLg zN f n))) [] := by
  rw [← addLg_lgF]
  exact LFn.isl_ext (logs_fn n _ (okL_of h)) (okF_iff.1 h).2.1
theorem rlogsE_fn (n : Nat) (f : Nat → Nat → V) (h : okF n f = true) : LFn Pr 16 [.isl 3 n f] [] (.ret (.str (addLg zN f n))) [] := by
  rw [← addLg_lgF]
  exact LFn.isl_ext (rlogs_fn n _ (okL_of h)) (okF_iff.1 h).2.1
def cloB (cs : List V) : Bool := @decide (∀ v, v ∈ cs → v.clo = true) (Classical.propDecidable _)
inductive LArg where
  | nil
  | isl (n : Nat) (f : Nat → Nat → V)
  | sl (n : Nat) (c : Option Nat) (cs : List V)
def lg_read : List V → Heap → Option LArg := fun a h => match a, h with
  | [.nilSl], [] => some .nil
  | [.isl 3 n f], [] => some (.isl n f)
  | [.sl 0 0 3 n c], [.vals cs] => some (.sl n c cs)
  | _, _ => none
def lg_f : LArg → Tr (Fin × Heap)
  | .nil => .leaf (.ret (.str zN), [])
  | .isl n f => .chk (okF n f) (.leaf (.ret (.str (addLg zN f n)), []))
  | .sl n c cs => .chk (okF n (frzC cs 0 3) && cloB cs) (.leaf (.ret (.str (addLg zN (frzC cs 0 3) n)), [.dead]))
theorem lg_ok : ∀ args h r, ((ctT lg_read lg_f) args h).is r → LFn Pr 15 args h r.1 r.2 := by
  refine ctT_ok (fun a => match a with | .nil => [.nilSl] | .isl n f => [.isl 3 n f] | .sl n c cs => [.sl 0 0 3 n c]) (fun a => match a with | .nil => [] | .isl n f => [] | .sl n c cs => [.vals cs]) ?_ ?_
  · intro args h a e
    unfold lg_read at e
    split at e <;> cases e <;> exact ⟨rfl, rfl⟩
  · intro a r h
    cases a with
    | nil => simp only [lg_f] at h; rw [Tr.is_leaf] at h; subst h; exact logs0_fn
    | isl n f =>
      simp only [lg_f] at h; rw [Tr.is_chk, Tr.is_leaf] at h
      obtain ⟨h1, rfl⟩ := h
      exact logsE_fn n f h1
    | sl n c cs =>
      simp only [lg_f] at h; rw [Tr.is_chk, Tr.is_leaf, Bool.and_eq_true] at h
      obtain ⟨⟨h1, h2⟩, rfl⟩ := h
      exact LFn.frzIn (logsE_fn n _ h1) rfl (@of_decide_eq_true _ (Classical.propDecidable _) h2)
def rlg_read : List V → Heap → Option (Nat × (Nat → Nat → V)) := fun a h => match a, h with
  | [.isl 3 n f], [] => some (n, f)
  | _, _ => none
theorem rlg_ok : ∀ args h r, ((ctT rlg_read fun a => .chk (okF a.1 a.2) (.leaf (.ret (.str (addLg zN a.2 a.1)), []))) args h).is r → LFn Pr 16 args h r.1 r.2 := by
  refine ctT_ok (fun a => [.isl 3 a.1 a.2]) (fun a => []) ?_ ?_
  · intro args h a e
    unfold rlg_read at e
    split at e <;> cases e <;> exact ⟨rfl, rfl⟩
  · intro a r h
    rw [Tr.is_chk, Tr.is_leaf] at h
    obtain ⟨h1, rfl⟩ := h
    exact rlogsE_fn a.1 a.2 h1
def KB5 : KnownT := (15, ctT lg_read lg_f) :: (16, ctT rlg_read fun a => .chk (okF a.1 a.2) (.leaf (.ret (.str (addLg zN a.2 a.1)), []))) :: KB4
theorem KB5_ok : KOkT Pr KB5 := KOkT.cons (Enters.of (fn := Go.Proofs.Try.f15) (by kernel_rfl) (by kernel_rfl)) lg_ok (KOkT.cons (Enters.of (fn := Go.Proofs.Try.f16) (by kernel_rfl) (by kernel_rfl)) rlg_ok KB4_ok)
def OB5 : OrcT := autoT Pr noExt KB5 [] 2
theorem OB5_sound : OrcSound Pr OB5.o := autoT_sound mixed noExt_ok KB5_ok (by kernel_rfl) 2
theorem bad_x (b : List (BitVec 8)) (c : List (BitVec 8)) (s : List (BitVec 8)) (t : List (BitVec 8)) (whole : Bool) (n : Nat) (f : Nat → Nat → V) : Tr.prune ((((((((Tr.Sh.any.l.l.l.l.both
                                                                      Tr.Sh.any.r.r.r.r).l.l.both
                                                              Tr.Sh.any.r.r.r.r.r.r.r).l.l.both
                                                      Tr.Sh.any.r.r.r.r.r.r.r.r.r.r).l.l.l.l.l.l.both
                                      Tr.Sh.any.r.r.r.r.r.r.r.r.r.r.r.r.r.r.r.r.r).l.l.l.l.l.l.both
                      Tr.Sh.any.r.r.r.r.r.r.r.r.r.r.r.r.r.r.r.r.r.r.r.r.r.r.r.r).l.l.both
              Tr.Sh.any.r.r.r.r.r.r.r.r.r.r.r.r.r.r.r.r.r.r.r.r.r.r.r.r.r.r.r).l.l.l.both
    ((((((Tr.Sh.any.l.l.l.l.both Tr.Sh.any.r.r.r.r).l.l.both Tr.Sh.any.r.r.r.r.r.r.r).l.l.both
                                                    Tr.Sh.any.r.r.r.r.r.r.r.r.r.r).l.l.l.l.l.l.both
                                    Tr.Sh.any.r.r.r.r.r.r.r.r.r.r.r.r.r.r.r.r.r).l.l.l.l.l.l.both
                    Tr.Sh.any.r.r.r.r.r.r.r.r.r.r.r.r.r.r.r.r.r.r.r.r.r.r.r.r).l.l.both
            Tr.Sh.any.r.r.r.r.r.r.r.r.r.r.r.r.r.r.r.r.r.r.r.r.r.r.r.r.r.r.r).l.l.l).r)
  (execBF Pr OB5 noLoopsT (100 : Nat) Go.Proofs.Try.f5
  [V.str b, V.str c, V.bool whole, V.str s, V.str t, V.isl (3 : Nat) n f] []) =
  Tr.chk true
  (Tr.br whole
    (Tr.chk
      (decide (b.length + (256 : Nat) ≤ (9223372036854775807 : Nat)) &&
              (decide
                  ((some (256 : Int)).getD
                      (↑(b ++
                              List.take (256 : Nat)
                                (List.replicate (256 : Nat) (BitVec.ofInt (8 : Nat) (0 : Int)))).length :
                        Int) ≤
                    (↑(b ++
                            List.take (256 : Nat)
                              (List.replicate (256 : Nat) (BitVec.ofInt (8 : Nat) (0 : Int)))).length :
                      Int)) &&
                true) &&
            (decide (c.length + (256 : Nat) ≤ (9223372036854775807 : Nat)) &&
              (decide
                  ((some (256 : Int)).getD
                      (↑(c ++
                              List.take (256 : Nat)
                                (List.replicate (256 : Nat) (BitVec.ofInt (8 : Nat) (0 : Int)))).length :
                        Int) ≤
                    (↑(c ++
                            List.take (256 : Nat)
                              (List.replicate (256 : Nat) (BitVec.ofInt (8 : Nat) (0 : Int)))).length :
                      Int)) &&
                true)) &&
          (decide
                  ((0 : Int) ≤
                    (some (if (100 : Int) < (↑s.length : Int) then (100 : Int) else (↑s.length : Int))).getD
                      (↑s.length : Int)) &&
                decide
                  ((some (if (100 : Int) < (↑s.length : Int) then (100 : Int) else (↑s.length : Int))).getD
                      (↑s.length : Int) ≤
                    (↑s.length : Int)) &&
              true &&
            (decide
                    ((0 : Int) ≤
                      (some (if (100 : Int) < (↑t.length : Int) then (100 : Int) else (↑t.length : Int))).getD
                        (↑t.length : Int)) &&
                  decide
                    ((some (if (100 : Int) < (↑t.length : Int) then (100 : Int) else (↑t.length : Int))).getD
                        (↑t.length : Int) ≤
                      (↑t.length : Int)) &&
                true &&
              (decide ((0 : Int) ≤ (some (if (5 : Int) < (↑n : Int) then (5 : Int) else (↑n : Int))).getD (↑n : Int)) &&
                    decide
                      ((some (if (5 : Int) < (↑n : Int) then (5 : Int) else (↑n : Int))).getD (↑n : Int) ≤
                        (↑n : Int)) &&
                  true &&
                (isTxt
                      (List.take
                        ((some (if (100 : Int) < (↑s.length : Int) then (100 : Int) else (↑s.length : Int))).getD
                            (↑s.length : Int)).toNat
                        s) &&
                    true &&
                  (isTxt
                        (List.take
                          ((some (if (100 : Int) < (↑s.length : Int) then (100 : Int) else (↑s.length : Int))).getD
                              (↑s.length : Int)).toNat
                          s) &&
                      true &&
                    true))))) &&
        true)
      (Tr.br
        (addS
            (List.take
              ((some (256 : Int)).getD
                  (↑(b ++
                          List.take (256 : Nat)
                            (List.replicate (256 : Nat) (BitVec.ofInt (8 : Nat) (0 : Int)))).length :
                    Int)).toNat
              (b ++ List.take (256 : Nat) (List.replicate (256 : Nat) (BitVec.ofInt (8 : Nat) (0 : Int)))))
            (List.take
              ((some (if (100 : Int) < (↑s.length : Int) then (100 : Int) else (↑s.length : Int))).getD
                  (↑s.length : Int)).toNat
              s) ==
          addS
            (List.take
              ((some (256 : Int)).getD
                  (↑(b ++
                          List.take (256 : Nat)
                            (List.replicate (256 : Nat) (BitVec.ofInt (8 : Nat) (0 : Int)))).length :
                    Int)).toNat
              (b ++ List.take (256 : Nat) (List.replicate (256 : Nat) (BitVec.ofInt (8 : Nat) (0 : Int)))))
            (List.take
              ((some (if (100 : Int) < (↑s.length : Int) then (100 : Int) else (↑s.length : Int))).getD
                  (↑s.length : Int)).toNat
              s))
        (Tr.chk true
          (Tr.br
            (is256
                (List.take
                  ((some (256 : Int)).getD
                      (↑(b ++
                              List.take (256 : Nat)
                                (List.replicate (256 : Nat) (BitVec.ofInt (8 : Nat) (0 : Int)))).length :
                        Int)).toNat
                  (b ++ List.take (256 : Nat) (List.replicate (256 : Nat) (BitVec.ofInt (8 : Nat) (0 : Int))))) ==
              is256
                (List.take
                  ((some (256 : Int)).getD
                      (↑(b ++
                              List.take (256 : Nat)
                                (List.replicate (256 : Nat) (BitVec.ofInt (8 : Nat) (0 : Int)))).length :
                        Int)).toNat
                  (b ++ List.take (256 : Nat) (List.replicate (256 : Nat) (BitVec.ofInt (8 : Nat) (0 : Int))))))
            (Tr.chk
              (isTxt
                  (List.take
                    ((some (if (100 : Int) < (↑t.length : Int) then (100 : Int) else (↑t.length : Int))).getD
                        (↑t.length : Int)).toNat
                    t) &&
                (isTxt
                    (List.take
                      ((some (if (100 : Int) < (↑t.length : Int) then (100 : Int) else (↑t.length : Int))).getD
                          (↑t.length : Int)).toNat
                      t) &&
                  true))
              (Tr.br
                (hasB
                    (List.take
                      ((some (256 : Int)).getD
                          (↑(b ++
                                  List.take (256 : Nat)
                                    (List.replicate (256 : Nat) (BitVec.ofInt (8 : Nat) (0 : Int)))).length :
                            Int)).toNat
                      (b ++ List.take (256 : Nat) (List.replicate (256 : Nat) (BitVec.ofInt (8 : Nat) (0 : Int)))))
                    (List.take
                      ((some (if (100 : Int) < (↑t.length : Int) then (100 : Int) else (↑t.length : Int))).getD
                          (↑t.length : Int)).toNat
                      t) ==
                  hasB
                    (List.take
                      ((some (256 : Int)).getD
                          (↑(b ++
                                  List.take (256 : Nat)
                                    (List.replicate (256 : Nat) (BitVec.ofInt (8 : Nat) (0 : Int)))).length :
                            Int)).toNat
                      (b ++ List.take (256 : Nat) (List.replicate (256 : Nat) (BitVec.ofInt (8 : Nat) (0 : Int)))))
                    (List.take
                      ((some (if (100 : Int) < (↑t.length : Int) then (100 : Int) else (↑t.length : Int))).getD
                          (↑t.length : Int)).toNat
                      t))
                (Tr.chk
                  (isTxt
                      (List.take
                        ((some (if (100 : Int) < (↑t.length : Int) then (100 : Int) else (↑t.length : Int))).getD
                            (↑t.length : Int)).toNat
                        t) &&
                    (isTxt
                        (List.take
                          ((some (if (100 : Int) < (↑t.length : Int) then (100 : Int) else (↑t.length : Int))).getD
                              (↑t.length : Int)).toNat
                          t) &&
                      true))
                  (Tr.br
                    (hasB
                        (addS
                          (List.take
                            ((some (256 : Int)).getD
                                (↑(b ++
                                        List.take (256 : Nat)
                                          (List.replicate (256 : Nat) (BitVec.ofInt (8 : Nat) (0 : Int)))).length :
                                  Int)).toNat
                            (b ++
                              List.take (256 : Nat) (List.replicate (256 : Nat) (BitVec.ofInt (8 : Nat) (0 : Int)))))
                          (List.take
                            ((some (if (100 : Int) < (↑s.length : Int) then (100 : Int) else (↑s.length : Int))).getD
                                (↑s.length : Int)).toNat
                            s))
                        (List.take
                          ((some (if (100 : Int) < (↑t.length : Int) then (100 : Int) else (↑t.length : Int))).getD
                              (↑t.length : Int)).toNat
                          t) ==
                      hasB
                        (addS
                          (List.take
                            ((some (256 : Int)).getD
                                (↑(b ++
                                        List.take (256 : Nat)
                                          (List.replicate (256 : Nat) (BitVec.ofInt (8 : Nat) (0 : Int)))).length :
                                  Int)).toNat
                            (b ++
                              List.take (256 : Nat) (List.replicate (256 : Nat) (BitVec.ofInt (8 : Nat) (0 : Int)))))
                          (List.take
                            ((some (if (100 : Int) < (↑s.length : Int) then (100 : Int) else (↑s.length : Int))).getD
                                (↑s.length : Int)).toNat
                            s))
                        (List.take
                          ((some (if (100 : Int) < (↑t.length : Int) then (100 : Int) else (↑t.length : Int))).getD
                              (↑t.length : Int)).toNat
                          t))
                    (Tr.chk true
                      (Tr.br
                        (joinS
                            (List.take
                              ((some (256 : Int)).getD
                                  (↑(b ++
                                          List.take (256 : Nat)
                                            (List.replicate (256 : Nat) (BitVec.ofInt (8 : Nat) (0 : Int)))).length :
                                    Int)).toNat
                              (b ++
                                List.take (256 : Nat) (List.replicate (256 : Nat) (BitVec.ofInt (8 : Nat) (0 : Int)))))
                            (List.take
                              ((some (256 : Int)).getD
                                  (↑(c ++
                                          List.take (256 : Nat)
                                            (List.replicate (256 : Nat) (BitVec.ofInt (8 : Nat) (0 : Int)))).length :
                                    Int)).toNat
                              (c ++
                                List.take (256 : Nat)
                                  (List.replicate (256 : Nat) (BitVec.ofInt (8 : Nat) (0 : Int))))) ==
                          joinS
                            (List.take
                              ((some (256 : Int)).getD
                                  (↑(b ++
                                          List.take (256 : Nat)
                                            (List.replicate (256 : Nat) (BitVec.ofInt (8 : Nat) (0 : Int)))).length :
                                    Int)).toNat
                              (b ++
                                List.take (256 : Nat) (List.replicate (256 : Nat) (BitVec.ofInt (8 : Nat) (0 : Int)))))
                            (List.take
                              ((some (256 : Int)).getD
                                  (↑(c ++
                                          List.take (256 : Nat)
                                            (List.replicate (256 : Nat) (BitVec.ofInt (8 : Nat) (0 : Int)))).length :
                                    Int)).toNat
                              (c ++
                                List.take (256 : Nat) (List.replicate (256 : Nat) (BitVec.ofInt (8 : Nat) (0 : Int))))))
                        (Tr.chk true
                          (Tr.br
                            (joinO
                                (List.take
                                  ((some (256 : Int)).getD
                                      (↑(b ++
                                              List.take (256 : Nat)
                                                (List.replicate (256 : Nat)
                                                  (BitVec.ofInt (8 : Nat) (0 : Int)))).length :
                                        Int)).toNat
                                  (b ++
                                    List.take (256 : Nat)
                                      (List.replicate (256 : Nat) (BitVec.ofInt (8 : Nat) (0 : Int)))))
                                (List.take
                                  ((some (256 : Int)).getD
                                      (↑(c ++
                                              List.take (256 : Nat)
                                                (List.replicate (256 : Nat)
                                                  (BitVec.ofInt (8 : Nat) (0 : Int)))).length :
                                        Int)).toNat
                                  (c ++
                                    List.take (256 : Nat)
                                      (List.replicate (256 : Nat) (BitVec.ofInt (8 : Nat) (0 : Int))))) ==
                              joinO
                                (List.take
                                  ((some (256 : Int)).getD
                                      (↑(b ++
                                              List.take (256 : Nat)
                                                (List.replicate (256 : Nat)
                                                  (BitVec.ofInt (8 : Nat) (0 : Int)))).length :
                                        Int)).toNat
                                  (b ++
                                    List.take (256 : Nat)
                                      (List.replicate (256 : Nat) (BitVec.ofInt (8 : Nat) (0 : Int)))))
                                (List.take
                                  ((some (256 : Int)).getD
                                      (↑(c ++
                                              List.take (256 : Nat)
                                                (List.replicate (256 : Nat)
                                                  (BitVec.ofInt (8 : Nat) (0 : Int)))).length :
                                        Int)).toNat
                                  (c ++
                                    List.take (256 : Nat)
                                      (List.replicate (256 : Nat) (BitVec.ofInt (8 : Nat) (0 : Int))))))
                            (Tr.chk
                              ((okF
                                  ((some (if (5 : Int) < (↑n : Int) then (5 : Int) else (↑n : Int))).getD (↑n : Int) -
                                      (0 : Int)).toNat
                                  fun i j ↦ f ((none.getD (0 : Int)).toNat + i) j) &&
                                ((okF
                                    ((some (if (5 : Int) < (↑n : Int) then (5 : Int) else (↑n : Int))).getD (↑n : Int) -
                                        (0 : Int)).toNat
                                    fun i j ↦ f ((none.getD (0 : Int)).toNat + i) j) &&
                                  true))
                              (Tr.leaf
                                (Fin.ret
                                    (V.bool
                                      (addLg zN (fun i j ↦ f ((none.getD (0 : Int)).toNat + i) j)
                                          ((some (if (5 : Int) < (↑n : Int) then (5 : Int) else (↑n : Int))).getD
                                                (↑n : Int) -
                                              (0 : Int)).toNat ==
                                        addLg zN (fun i j ↦ f ((none.getD (0 : Int)).toNat + i) j)
                                          ((some (if (5 : Int) < (↑n : Int) then (5 : Int) else (↑n : Int))).getD
                                                (↑n : Int) -
                                              (0 : Int)).toNat)),
                                  [])))
                            (Tr.chk true (Tr.leaf (Fin.ret (V.bool false), [])))))
                        (Tr.chk true (Tr.leaf (Fin.ret (V.bool false), [])))))
                    (Tr.chk true (Tr.leaf (Fin.ret (V.bool false), [])))))
                (Tr.chk true (Tr.leaf (Fin.ret (V.bool false), [])))))
            (Tr.chk true (Tr.leaf (Fin.ret (V.bool false), [])))))
        (Tr.chk true (Tr.leaf (Fin.ret (V.bool false), [])))))
    (Tr.chk
      (decide
                ((0 : Int) ≤
                  (some (if (100 : Int) < (↑s.length : Int) then (100 : Int) else (↑s.length : Int))).getD
                    (↑s.length : Int)) &&
              decide
                ((some (if (100 : Int) < (↑s.length : Int) then (100 : Int) else (↑s.length : Int))).getD
                    (↑s.length : Int) ≤
                  (↑s.length : Int)) &&
            true &&
          (decide
                  ((0 : Int) ≤
                    (some (if (100 : Int) < (↑t.length : Int) then (100 : Int) else (↑t.length : Int))).getD
                      (↑t.length : Int)) &&
                decide
                  ((some (if (100 : Int) < (↑t.length : Int) then (100 : Int) else (↑t.length : Int))).getD
                      (↑t.length : Int) ≤
                    (↑t.length : Int)) &&
              true &&
            (decide ((0 : Int) ≤ (some (if (5 : Int) < (↑n : Int) then (5 : Int) else (↑n : Int))).getD (↑n : Int)) &&
                  decide
                    ((some (if (5 : Int) < (↑n : Int) then (5 : Int) else (↑n : Int))).getD (↑n : Int) ≤ (↑n : Int)) &&
                true &&
              (isTxt
                    (List.take
                      ((some (if (100 : Int) < (↑s.length : Int) then (100 : Int) else (↑s.length : Int))).getD
                          (↑s.length : Int)).toNat
                      s) &&
                  true &&
                (isTxt
                      (List.take
                        ((some (if (100 : Int) < (↑s.length : Int) then (100 : Int) else (↑s.length : Int))).getD
                            (↑s.length : Int)).toNat
                        s) &&
                    true &&
                  true)))) &&
        true)
      (Tr.br
        (addS b
            (List.take
              ((some (if (100 : Int) < (↑s.length : Int) then (100 : Int) else (↑s.length : Int))).getD
                  (↑s.length : Int)).toNat
              s) ==
          addS b
            (List.take
              ((some (if (100 : Int) < (↑s.length : Int) then (100 : Int) else (↑s.length : Int))).getD
                  (↑s.length : Int)).toNat
              s))
        (Tr.chk true
          (Tr.br (is256 b == is256 b)
            (Tr.chk
              (isTxt
                  (List.take
                    ((some (if (100 : Int) < (↑t.length : Int) then (100 : Int) else (↑t.length : Int))).getD
                        (↑t.length : Int)).toNat
                    t) &&
                (isTxt
                    (List.take
                      ((some (if (100 : Int) < (↑t.length : Int) then (100 : Int) else (↑t.length : Int))).getD
                          (↑t.length : Int)).toNat
                      t) &&
                  true))
              (Tr.br
                (hasB b
                    (List.take
                      ((some (if (100 : Int) < (↑t.length : Int) then (100 : Int) else (↑t.length : Int))).getD
                          (↑t.length : Int)).toNat
                      t) ==
                  hasB b
                    (List.take
                      ((some (if (100 : Int) < (↑t.length : Int) then (100 : Int) else (↑t.length : Int))).getD
                          (↑t.length : Int)).toNat
                      t))
                (Tr.chk
                  (isTxt
                      (List.take
                        ((some (if (100 : Int) < (↑t.length : Int) then (100 : Int) else (↑t.length : Int))).getD
                            (↑t.length : Int)).toNat
                        t) &&
                    (isTxt
                        (List.take
                          ((some (if (100 : Int) < (↑t.length : Int) then (100 : Int) else (↑t.length : Int))).getD
                              (↑t.length : Int)).toNat
                          t) &&
                      true))
                  (Tr.br
                    (hasB
                        (addS b
                          (List.take
                            ((some (if (100 : Int) < (↑s.length : Int) then (100 : Int) else (↑s.length : Int))).getD
                                (↑s.length : Int)).toNat
                            s))
                        (List.take
                          ((some (if (100 : Int) < (↑t.length : Int) then (100 : Int) else (↑t.length : Int))).getD
                              (↑t.length : Int)).toNat
                          t) ==
                      hasB
                        (addS b
                          (List.take
                            ((some (if (100 : Int) < (↑s.length : Int) then (100 : Int) else (↑s.length : Int))).getD
                                (↑s.length : Int)).toNat
                            s))
                        (List.take
                          ((some (if (100 : Int) < (↑t.length : Int) then (100 : Int) else (↑t.length : Int))).getD
                              (↑t.length : Int)).toNat
                          t))
                    (Tr.chk true
                      (Tr.br (joinS b c == joinS b c)
                        (Tr.chk true
                          (Tr.br (joinO b c == joinO b c)
                            (Tr.chk
                              ((okF
                                  ((some (if (5 : Int) < (↑n : Int) then (5 : Int) else (↑n : Int))).getD (↑n : Int) -
                                      (0 : Int)).toNat
                                  fun i j ↦ f ((none.getD (0 : Int)).toNat + i) j) &&
                                ((okF
                                    ((some (if (5 : Int) < (↑n : Int) then (5 : Int) else (↑n : Int))).getD (↑n : Int) -
                                        (0 : Int)).toNat
                                    fun i j ↦ f ((none.getD (0 : Int)).toNat + i) j) &&
                                  true))
                              (Tr.leaf
                                (Fin.ret
                                    (V.bool
                                      (addLg zN (fun i j ↦ f ((none.getD (0 : Int)).toNat + i) j)
                                          ((some (if (5 : Int) < (↑n : Int) then (5 : Int) else (↑n : Int))).getD
                                                (↑n : Int) -
                                              (0 : Int)).toNat ==
                                        addLg zN (fun i j ↦ f ((none.getD (0 : Int)).toNat + i) j)
                                          ((some (if (5 : Int) < (↑n : Int) then (5 : Int) else (↑n : Int))).getD
                                                (↑n : Int) -
                                              (0 : Int)).toNat)),
                                  [])))
                            (Tr.chk true (Tr.leaf (Fin.ret (V.bool false), [])))))
                        (Tr.chk true (Tr.leaf (Fin.ret (V.bool false), [])))))
                    (Tr.chk true (Tr.leaf (Fin.ret (V.bool false), [])))))
                (Tr.chk true (Tr.leaf (Fin.ret (V.bool false), [])))))
            (Tr.chk true (Tr.leaf (Fin.ret (V.bool false), [])))))
        (Tr.chk true (Tr.leaf (Fin.ret (V.bool false), [])))))) := by kernel_rfl
theorem min5 (n : Nat) : 0 ≤ (if (5 : Int) < (n : Int) then (5 : Int) else (n : Int)) ∧ (if (5 : Int) < (n : Int) then (5 : Int) else (n : Int)) ≤ (n : Int) ∧ (if (5 : Int) < (n : Int) then (5 : Int) else (n : Int)) ≤ 5 := by
  split <;> omega
/-- the logs are such as may be handed in -/
def fine (n : Nat) (f : Nat → Nat → V) : Prop := ∀ i, i < n → (∀ j, j < 3 → f i j = lgF (rdL f) i j) ∧ ((rdL f).A i).length ≤ 140737488351232 ∧ (rdL f).m i < 2 ^ 63
theorem fine_ok {n k : Nat} {f : Nat → Nat → V} (h : fine n f) (hk : k ≤ n) (hk2 : k < 2 ^ 63) : okF k (fun i j => f ((none.getD (0 : Int)).toNat + i) j) = true := by
  have e : (fun i j => f ((none.getD (0 : Int)).toNat + i) j) = f := by
    funext i j
    show f (0 + i) j = f i j
    rw [Nat.zero_add]
  rw [e]
  exact okF_iff.2 ⟨hk2, fun i j hi hj => (h i (by omega)).1 j hj, fun i hi => (h i (by omega)).2⟩
theorem brT {α : Type} {t u : Tr α} {Q : α → Prop} (h : t.wp Q) : (Tr.br true t u).wp Q := wp_br.2 ⟨fun _ => h, fun e => by cases e⟩
theorem badds_fn (b c s t : List (BitVec 8)) (whole : Bool) (n : Nat) (f : Nat → Nat → V) (hb : b.length ≤ 140737488351232) (hc : c.length ≤ 140737488351232) (hf : fine n f) :
    LFn Pr 5 [.str b, .str c, .bool whole, .str s, .str t, .isl 3 n f] [] (.ret (.bool true)) [] := by
  refine fnT OB5_sound mixed (by kernel_rfl) LoopsOk.noneT (bad_x b c s t whole n f) ?_
  simp only [Option.getD_some]
  obtain ⟨s0, s1, s2⟩ := min100 s.length
  obtain ⟨t0, t1, t2⟩ := min100 t.length
  obtain ⟨n0, n1, n2⟩ := min5 n
  revert s0 s1 s2 t0 t1 t2 n0 n1 n2
  generalize (if (100 : Int) < (s.length : Int) then (100 : Int) else (s.length : Int)) = ms
  generalize (if (100 : Int) < (t.length : Int) then (100 : Int) else (t.length : Int)) = mt
  generalize (if (5 : Int) < (n : Int) then (5 : Int) else (n : Int)) = mn
  intro s0 s1 s2 t0 t1 t2 n0 n1 n2
  have tS : isTxt (List.take ms.toNat s) = true := isTxt_iff.2 (by rw [List.length_take]; omega)
  have tT : isTxt (List.take mt.toNat t) = true := isTxt_iff.2 (by rw [List.length_take]; omega)
  have hz : List.take 256 (List.replicate 256 (BitVec.ofInt 8 0)) = zeros := by rw [take256 _ List.length_replicate]; rfl
  have lb : (b ++ zeros).length = b.length + 256 := by rw [List.length_append, zeros_len]
  have lc : (c ++ zeros).length = c.length + 256 := by rw [List.length_append, zeros_len]
  have hF := fine_ok hf (k := (mn - 0).toNat) (by omega) (by omega)
  rw [hz, lb, lc, tS, tT, hF]
  simp only [beq_self_eq_true]
  refine wp_chk_true.2 (wp_br.2 ⟨fun _ => wp_chk.2 ⟨?_, ?_⟩, fun _ => wp_chk.2 ⟨?_, ?_⟩⟩)
  · simp only [Bool.and_eq_true, decide_eq_true_eq, Bool.and_true, true_and]
    omega
  · exact brT (wp_chk_true.2 (brT (wp_chk_true.2 (brT (wp_chk_true.2 (brT (wp_chk_true.2 (brT (wp_chk_true.2 (brT (wp_chk_true.2 (wp_leaf.2 rfl))))))))))))
  · simp only [Bool.and_eq_true, decide_eq_true_eq, Bool.and_true, true_and]
    omega
  · exact brT (wp_chk_true.2 (brT (wp_chk_true.2 (brT (wp_chk_true.2 (brT (wp_chk_true.2 (brT (wp_chk_true.2 (brT (wp_chk_true.2 (wp_leaf.2 rfl))))))))))))
end
end Go.Proofs.Ytklgiongdiojcaa.K
end
section
open Go Go.Lh Go.Lh.Bl
namespace Go.Proofs.Ytklgiongdiojcaa.K
noncomputable section
set_option maxRecDepth 100000
theorem logs_arg {H : Type} {enc : TypeId × Value → H} {w : World} {r : Reach} {b0 : Nat} {v : Value} {d : DataW H} {p : List MemPlace} (hok : Value.okWide Pr w r b0 29 v) (hr : DataW.Trod enc Pr w 0 (fun _ => true) true 29 v d p) (hz : Zd Pr 29 d) :
    ∃ (n : Nat) (x : LG), (∀ ρ, VRel (Old w) w ρ (.isl 3 n (lgF x)) v) ∧ fine n (lgF x) := by
  have h1 := TR.struct (enc := enc) (P := Pr) (w := w) (base := 0) (spare := fun _ => true) (held := true) (T := 4) Go.Proofs.Try.underlying38 (l := [_, _, _, _]) rfl (by kernel_rfl) (TRF.cons' 36 1 (by rfl) (by rfl) (by kernel_rfl) (TR.u64 (by kernel_rfl)) (TRF.cons' 36 1 (by rfl) (by rfl) (by kernel_rfl) (TR.u64 (by kernel_rfl)) (TRF.cons' 36 1 (by rfl) (by rfl) (by kernel_rfl) (TR.u64 (by kernel_rfl)) (TRF.cons' 36 1 (by rfl) (by rfl) (by kernel_rfl) (TR.u64 (by kernel_rfl)) (TRF.nil 4)))))
  have h2 := TZ.sliceAs (t := 32) (e := 38) 4 (fun A => (fun k j => match j with | 0 => (A k).1 | 1 => (A k).2.1 | 2 => (A k).2.2.1 | _ => (A k).2.2.2.1 : Nat → Nat → BitVec 64)) (fun T k j => V.u64 (T k j)) (fun A i j hj => by match j, hj with | 0, _ => rfl | 1, _ => rfl | 2, _ => rfl | 3, _ => rfl) (by kernel_rfl) (by kernel_rfl) (by decide) (TZ.of h1)
  have h3 := TZ.struct (enc := enc) (P := Pr) (w := w) (base := 0) (spare := fun _ => true) (held := true) (T := 3) Go.Proofs.Try.underlying34 (l := [_, _, _]) rfl (by kernel_rfl) (TZF.cons' 9 1 (by rfl) (by rfl) (by kernel_rfl) (TZ.str (by kernel_rfl)) (TZF.cons' 32 1 (by rfl) (by rfl) (by kernel_rfl) h2 (TZF.cons' 9 1 (by rfl) (by rfl) (by kernel_rfl) (TZ.str (by kernel_rfl)) (TZF.nil 3))))
  have h4 := TZ.sliceAs (t := 29) (e := 34) 3 (fun A => (⟨fun i => (A i).1, fun i => (A i).2.1.1, fun i => (A i).2.1.2, fun i => (A i).2.2.1⟩ : LG)) lgF (fun A i j hj => by match j, hj with | 0, _ => rfl | 1, _ => rfl | 2, _ => rfl) Go.Proofs.Try.underlying29 (by kernel_rfl) (by decide) h3
  obtain ⟨⟨n, x⟩, ha, hn, A, rfl, hA⟩ := TZ.arg_slice Go.Proofs.Try.underlying29 h4 hok hr hz
  refine ⟨n, _, ha, fun i hi => ⟨fun j _ => rfl, ?_, ?_⟩⟩
  · exact (hA i hi).1
  · exact (hA i hi).2.1.1
end
end Go.Proofs.Ytklgiongdiojcaa.K
end
section
open Go Go.Lh Go.Lh.Bl
namespace Go.Proofs.Ytklgiongdiojcaa.K
noncomputable section
set_option maxRecDepth 100000
theorem hi_x (n : Nat) (m : Nat) (i : Nat) (k : Nat) (x : LG) (g : Nat → Nat → V) (hd : Bool) (b : List (BitVec 8)) : Tr.prune ((Tr.Sh.any.both
      Tr.Sh.any).both
  Tr.Sh.any)
  (execBN Pr OB5 noLoopsT (100 : Nat) (0 : Nat) [(0 : Nat), (1 : Nat), (5 : Nat), (6 : Nat), (7 : Nat), (8 : Nat)]
  [(0 : Nat), (1 : Nat), (5 : Nat), (6 : Nat), (7 : Nat)] (Lh.loopBody Go.Proofs.Try.f6 (1 : Nat))
  [((0 : Nat), V.isl (3 : Nat) n (lgF x)), ((1 : Nat), V.isl (3 : Nat) m g), ((5 : Nat), V.bool hd),
    ((6 : Nat), V.str b), ((7 : Nat), V.int IntKind.i64 (↑i : Int)), ((8 : Nat), V.int IntKind.i64 (↑k : Int))]
  []) =
  Tr.chk (decide ((↑i : Int) < (↑n : Int)) && (decide (i < n) && true && true))
  (Tr.br (decide ((↑k : Int) < (↑(x.m i) : Int)))
    (Tr.chk
      (decide ((↑i : Int) < (↑n : Int)) &&
        (decide (i < n) && true &&
          (decide ((↑k : Int) < (↑(x.m i) : Int)) &&
            (decide (k < x.m i) && true &&
              (isTxt (byB (W4.mk (x.T i k (0 : Nat)) (x.T i k (1 : Nat)) (x.T i k (2 : Nat)) (x.T i k (3 : Nat)))) &&
                true)))))
      (Tr.br (!hasB b (byB (W4.mk (x.T i k (0 : Nat)) (x.T i k (1 : Nat)) (x.T i k (2 : Nat)) (x.T i k (3 : Nat)))))
        (Tr.chk true
          (Tr.leaf
            (X.ret,
              [((0 : Nat), V.isl (3 : Nat) n (lgF x)), ((1 : Nat), V.isl (3 : Nat) m g), ((5 : Nat), V.bool hd),
                ((6 : Nat), V.str b), ((7 : Nat), V.int IntKind.i64 (↑i : Int))],
              [])))
        (Tr.chk true
          (Tr.leaf
            (X.normal,
              [((0 : Nat), V.isl (3 : Nat) n (lgF x)), ((1 : Nat), V.isl (3 : Nat) m g), ((5 : Nat), V.bool hd),
                ((6 : Nat), V.str b), ((7 : Nat), V.int IntKind.i64 (↑i : Int)),
                ((8 : Nat), V.int IntKind.i64 (wrapI IntKind.i64 ((↑k : Int) + (1 : Int))))],
              [])))))
    (Tr.leaf
      (X.exit (2 : Nat),
        [((0 : Nat), V.isl (3 : Nat) n (lgF x)), ((1 : Nat), V.isl (3 : Nat) m g), ((5 : Nat), V.bool hd),
          ((6 : Nat), V.str b), ((7 : Nat), V.int IntKind.i64 (↑i : Int))],
        []))) := by kernel_rfl
structure HI where
  n : Nat
  f : Nat → Nat → V
  m : Nat
  g : Nat → Nat → V
  hd : Bool
  b : List (BitVec 8)
  i : Int
def hi_S (a : HI) (k : Nat) : Fr × Heap := ([(0,.isl 3 a.n a.f),(1,.isl 3 a.m a.g),(5,.bool a.hd),(6,.str a.b),(7,.int .i64 a.i),(8,.int .i64 (k : Int))], [])
def hi_read : Fr → Heap → Option HI := fun f h => match f, h with
  | [(0,.isl 3 n f),(1,.isl 3 m g),(5,.bool hd),(6,.str b),(7,.int .i64 i),(8,.int .i64 0)], [] => some ⟨n, f, m, g, hd, b, i⟩
  | _, _ => none
def hi_ok (a : HI) : Bool := @decide (0 ≤ a.i ∧ a.i < (a.n : Int) ∧ (rdL a.f).m a.i.toNat < 2 ^ 63 ∧ a.f = lgF (rdL a.f) ∧ ∀ k, k < (rdL a.f).m a.i.toNat → hasB a.b (byB (topic ((rdL a.f).T a.i.toNat) k)) = true) (Classical.propDecidable _)
def hi_E (a : HI) : Tr (X × Fr × Heap) := .leaf (.exit 2, [(0,.isl 3 a.n a.f),(1,.isl 3 a.m a.g),(5,.bool a.hd),(6,.str a.b),(7,.int .i64 a.i)], [])
def hi_s : SmT := whT 13 [0,1,5,6,7,8] hi_read hi_ok hi_E
theorem hi_at : SmAtT Pr Go.Proofs.Try.f6 0 hi_s 1 := by
  refine cntT_at (L := noLoopsT) (fuel := 100) (on := [0,1,5,6,7,8]) (off := [0,1,5,6,7]) OB5_sound mixed hi_S (fun a => (rdL a.f).m a.i.toNat) (by kernel_rfl) (by kernel_rfl) (by kernel_rfl) LoopsOk.noneT ?_ ?_
  · intro f g a h
    unfold hi_read at h
    split at h <;> cases h
    rfl
  · rintro ⟨n, f, m, g, hd, b, i⟩ q hok hq k hk
    have hok := @of_decide_eq_true _ (Classical.propDecidable _) hok
    have hi : 0 ≤ i := hok.1
    have hin : i < (n : Int) := hok.2.1
    have hm : (rdL f).m i.toNat < 2 ^ 63 := hok.2.2.1
    have hf : f = lgF (rdL f) := hok.2.2.2.1
    have hB : ∀ k, k < (rdL f).m i.toNat → hasB b (byB (topic ((rdL f).T i.toNat) k)) = true := hok.2.2.2.2
    clear hok
    simp only at hk
    obtain ⟨i, rfl⟩ : ∃ j : Nat, i = j := ⟨i.toNat, by omega⟩
    rw [hi_E, Tr.is_leaf] at hq
    simp only at hq
    obtain ⟨x, hfx⟩ : ∃ x, f = lgF x := ⟨_, hf⟩
    subst hfx
    clear hf
    simp only [rdL_lgF, Int.toNat_natCast] at hm hk hB
    have hS : ∀ k, hi_S ⟨n, lgF x, m, g, hd, b, i⟩ k = ([(0,.isl 3 n (lgF x)),(1,.isl 3 m g),(5,.bool hd),(6,.str b),(7,.int .i64 (i : Int)),(8,.int .i64 (k : Int))], []) := fun k => rfl
    rw [hS, hS]
    dsimp only
    have hw := hi_x n m i k x g hd b
    revert hw
    generalize (execBN Pr OB5 noLoopsT 100 0 [0, 1, 5, 6, 7, 8] [0, 1, 5, 6, 7] (Go.Lh.loopBody Go.Proofs.Try.f6 1) [(0,.isl 3 n (lgF x)),(1,.isl 3 m g),(5,.bool hd),(6,.str b),(7,.int .i64 (i : Int)),(8,.int .i64 (k : Int))] []) = E
    intro hw
    refine Tr.wp_prune hw ?_
    refine wp_chk.2 ⟨by simp only [Bool.and_eq_true, Bool.and_true, decide_eq_true_eq]; omega, wp_br.2 ⟨fun h => ?_, fun h => ?_⟩⟩
    · have h := of_decide_eq_true h
      have hkm : k < x.m i := by omega
      have c1 : isTxt (byB (W4.mk (x.T i k 0) (x.T i k 1) (x.T i k 2) (x.T i k 3))) = true := byB_txt _
      have c2 : hasB b (byB (W4.mk (x.T i k 0) (x.T i k 1) (x.T i k 2) (x.T i k 3))) = true := hB k hkm
      rw [c1, c2]
      refine wp_chk.2 ⟨?_, wp_br.2 ⟨fun h => (by cases h), fun _ => wp_chk_true.2 (wp_leaf.2 (.inl ⟨rfl, by simp only [rdL_lgF, Int.toNat_natCast]; omega, ?_⟩))⟩⟩
      · simp only [Bool.and_eq_true, Bool.and_true, decide_eq_true_eq]; omega
      · rw [show ((k : Int) + 1) = ((k + 1 : Nat) : Int) by omega, wrapI_nat (by omega)]
    · have h := of_decide_eq_false h
      refine wp_leaf.2 (.inr ⟨fun h => (by cases h), ?_⟩)
      rw [← hq]
theorem hi_Ls : LoopsOk Pr Go.Proofs.Try.f6 0 (smLT 0 [hi_s]).o := LoopsOk.one (by kernel_rfl) hi_at
theorem ho_x (n : Nat) (m : Nat) (i : Nat) (x : LG) (g : Nat → Nat → V) (hd : Bool) (b : List (BitVec 8)) : Tr.prune ((Tr.Sh.any.both
      Tr.Sh.any).both
  Tr.Sh.any)
  (execBN Pr OB5 (smLT (0 : Nat) [hi_s]) (100 : Nat) (0 : Nat) [(0 : Nat), (1 : Nat), (5 : Nat), (6 : Nat), (7 : Nat)]
  [(0 : Nat), (1 : Nat), (5 : Nat), (6 : Nat)] (Lh.loopBody Go.Proofs.Try.f6 (0 : Nat))
  [((0 : Nat), V.isl (3 : Nat) n (lgF x)), ((1 : Nat), V.isl (3 : Nat) m g), ((5 : Nat), V.bool hd),
    ((6 : Nat), V.str b), ((7 : Nat), V.int IntKind.i64 (↑i : Int))]
  []) =
  Tr.chk true
  (Tr.br (decide ((↑i : Int) < (↑n : Int)))
    (Tr.chk (decide ((↑i : Int) < (↑n : Int)) && (decide (i < n) && true && (isTxt (x.A i) && true)))
      (Tr.br (!hasB b (x.A i))
        (Tr.chk true
          (Tr.leaf
            (X.ret,
              [((0 : Nat), V.isl (3 : Nat) n (lgF x)), ((1 : Nat), V.isl (3 : Nat) m g), ((5 : Nat), V.bool hd),
                ((6 : Nat), V.str b)],
              [])))
        (Tr.chk (hi_ok (HI.mk n (lgF x) m g hd b (↑i : Int)) && true)
          (Tr.leaf
            (X.normal,
              [((0 : Nat), V.isl (3 : Nat) n (lgF x)), ((1 : Nat), V.isl (3 : Nat) m g), ((5 : Nat), V.bool hd),
                ((6 : Nat), V.str b), ((7 : Nat), V.int IntKind.i64 (wrapI IntKind.i64 ((↑i : Int) + (1 : Int))))],
              [])))))
    (Tr.leaf
      (X.exit (0 : Nat),
        [((0 : Nat), V.isl (3 : Nat) n (lgF x)), ((1 : Nat), V.isl (3 : Nat) m g), ((5 : Nat), V.bool hd),
          ((6 : Nat), V.str b)],
        []))) := by kernel_rfl
structure HO where
  n : Nat
  f : Nat → Nat → V
  m : Nat
  g : Nat → Nat → V
  hd : Bool
  b : List (BitVec 8)
def allIn (b : List (BitVec 8)) (x : LG) (n : Nat) : Prop := ∀ i, i < n → (x.A i).length ≤ 140737488351232 ∧ x.m i < 2 ^ 63 ∧ hasB b (x.A i) = true ∧ ∀ k, k < x.m i → hasB b (byB (topic (x.T i) k)) = true
def ho_S (a : HO) (i : Nat) : Fr × Heap := ([(0,.isl 3 a.n a.f),(1,.isl 3 a.m a.g),(5,.bool a.hd),(6,.str a.b),(7,.int .i64 (i : Int))], [])
def ho_read : Fr → Heap → Option HO := fun f h => match f, h with
  | [(0,.isl 3 n f),(1,.isl 3 m g),(5,.bool hd),(6,.str b),(7,.int .i64 0)], [] => some ⟨n, f, m, g, hd, b⟩
  | _, _ => none
def ho_ok (a : HO) : Bool := @decide (a.n < 2 ^ 63 ∧ a.f = lgF (rdL a.f) ∧ allIn a.b (rdL a.f) a.n) (Classical.propDecidable _)
def ho_E (a : HO) : Tr (X × Fr × Heap) := .leaf (.exit 0, [(0,.isl 3 a.n a.f),(1,.isl 3 a.m a.g),(5,.bool a.hd),(6,.str a.b)], [])
def ho_s : SmT := whT 8 [0,1,5,6,7] ho_read ho_ok ho_E
theorem ho_at : SmAtT Pr Go.Proofs.Try.f6 0 ho_s 0 := by
  refine cntT_at (L := smLT 0 [hi_s]) (fuel := 100) (on := [0,1,5,6,7]) (off := [0,1,5,6]) OB5_sound mixed ho_S (fun a => a.n) (by kernel_rfl) (by kernel_rfl) (by kernel_rfl) hi_Ls ?_ ?_
  · intro f g a h
    unfold ho_read at h
    split at h <;> cases h
    rfl
  · rintro ⟨n, f, m, g, hd, b⟩ q hok hq i hk
    have hok := @of_decide_eq_true _ (Classical.propDecidable _) hok
    have hn : n < 2 ^ 63 := hok.1
    have hf : f = lgF (rdL f) := hok.2.1
    have hB : allIn b (rdL f) n := hok.2.2
    clear hok
    simp only at hk
    rw [ho_E, Tr.is_leaf] at hq
    simp only at hq
    obtain ⟨x, hfx⟩ : ∃ x, f = lgF x := ⟨_, hf⟩
    subst hfx
    clear hf
    simp only [rdL_lgF] at hB
    have hS : ∀ k, ho_S ⟨n, lgF x, m, g, hd, b⟩ k = ([(0,.isl 3 n (lgF x)),(1,.isl 3 m g),(5,.bool hd),(6,.str b),(7,.int .i64 (k : Int))], []) := fun k => rfl
    rw [hS, hS]
    dsimp only
    have hw := ho_x n m i x g hd b
    revert hw
    generalize (execBN Pr OB5 (smLT 0 [hi_s]) 100 0 [0, 1, 5, 6, 7] [0, 1, 5, 6] (Go.Lh.loopBody Go.Proofs.Try.f6 0) [(0,.isl 3 n (lgF x)),(1,.isl 3 m g),(5,.bool hd),(6,.str b),(7,.int .i64 (i : Int))] []) = E
    intro hw
    refine Tr.wp_prune hw ?_
    refine wp_chk_true.2 (wp_br.2 ⟨fun h => ?_, fun h => ?_⟩)
    · have h := of_decide_eq_true h
      have hin : i < n := by omega
      obtain ⟨q1, q2, q3, q4⟩ := hB i hin
      have c1 : isTxt (x.A i) = true := isTxt_iff.2 q1
      have c3 : hi_ok (HI.mk n (lgF x) m g hd b (i : Int)) = true := by
        unfold hi_ok
        refine @decide_eq_true _ (Classical.propDecidable _) ?_
        simp only [rdL_lgF, Int.toNat_natCast]
        exact ⟨by omega, h, q2, trivial, q4⟩
      rw [c1, q3, c3]
      refine wp_chk.2 ⟨?_, wp_br.2 ⟨fun h => (by cases h), fun _ => wp_chk_true.2 (wp_leaf.2 (.inl ⟨rfl, hin, ?_⟩))⟩⟩
      · simp only [Bool.and_eq_true, Bool.and_true, decide_eq_true_eq]; omega
      · rw [show ((i : Int) + 1) = ((i + 1 : Nat) : Int) by omega, wrapI_nat (by omega)]
    · have h := of_decide_eq_false h
      refine wp_leaf.2 (.inr ⟨fun h => (by cases h), ?_⟩)
      rw [← hq]
theorem ho_Ls : LoopsOk Pr Go.Proofs.Try.f6 0 (smLT 0 [hi_s, ho_s]).o := LoopsOk.two (by kernel_rfl) hi_at ho_at
def OB5N : OrcT := { OB5 with nb := true }
theorem OB5N_sound : OrcSound Pr OB5N.o := OB5_sound
end
end Go.Proofs.Ytklgiongdiojcaa.K
end
section
open Go Go.Lh Go.Lh.Bl
namespace Go.Proofs.Ytklgiongdiojcaa.K
noncomputable section
set_option maxRecDepth 100000
def cL : Code := dropSeq 6 (bodyOf Go.Proofs.Try.f6)
theorem cB_ok : headOk cL = true := by kernel_rfl
def frB (n : Nat) (f : Nat → Nat → V) (m : Nat) (g : Nat → Nat → V) (b : List (BitVec 8)) : Fr := [(0,.isl 3 n f),(1,.isl 3 m g),(5,.bool true),(6,.str b)]
def frA (n m : Nat) (x y : LG) (b : List (BitVec 8)) : Fr := [(0,.isl 3 n (lgF x)),(1,.isl 3 m (lgF y)),(5,.bool true),(6,.str b),(63,.isl 3 n (lgF x)),(64, match n with | 0 => .nilSl | n + 1 => .sl 0 0 3 (n + 1) none),(65,.isl 3 m (lgF y)),(66,.sl 1 0 3 (n + m) none)]
def csA (n m : Nat) (x y : LG) : List V := islC 3 n (lgF x) ++ islC 3 m (lgF y)
theorem pa_0_1 (x y : LG) (b : List (BitVec 8)) : (execB Pr OB5N noLoopsT 100 (partA 4 cL) (frB 0 (lgF x) 1 (lgF y) b) []).out = some (true, .normal, frA 0 1 x y b, [.dead, .vals (csA 0 1 x y)]) := by kernel_rfl
theorem pa_0_2 (x y : LG) (b : List (BitVec 8)) : (execB Pr OB5N noLoopsT 100 (partA 4 cL) (frB 0 (lgF x) 2 (lgF y) b) []).out = some (true, .normal, frA 0 2 x y b, [.dead, .vals (csA 0 2 x y)]) := by kernel_rfl
theorem pa_0_3 (x y : LG) (b : List (BitVec 8)) : (execB Pr OB5N noLoopsT 100 (partA 4 cL) (frB 0 (lgF x) 3 (lgF y) b) []).out = some (true, .normal, frA 0 3 x y b, [.dead, .vals (csA 0 3 x y)]) := by kernel_rfl
theorem pa_0_4 (x y : LG) (b : List (BitVec 8)) : (execB Pr OB5N noLoopsT 100 (partA 4 cL) (frB 0 (lgF x) 4 (lgF y) b) []).out = some (true, .normal, frA 0 4 x y b, [.dead, .vals (csA 0 4 x y)]) := by kernel_rfl
theorem pa_1_0 (x y : LG) (b : List (BitVec 8)) : (execB Pr OB5N noLoopsT 100 (partA 4 cL) (frB 1 (lgF x) 0 (lgF y) b) []).out = some (true, .normal, frA 1 0 x y b, [.dead, .vals (csA 1 0 x y)]) := by kernel_rfl
theorem pa_1_1 (x y : LG) (b : List (BitVec 8)) : (execB Pr OB5N noLoopsT 100 (partA 4 cL) (frB 1 (lgF x) 1 (lgF y) b) []).out = some (true, .normal, frA 1 1 x y b, [.dead, .vals (csA 1 1 x y)]) := by kernel_rfl
theorem pa_1_2 (x y : LG) (b : List (BitVec 8)) : (execB Pr OB5N noLoopsT 100 (partA 4 cL) (frB 1 (lgF x) 2 (lgF y) b) []).out = some (true, .normal, frA 1 2 x y b, [.dead, .vals (csA 1 2 x y)]) := by kernel_rfl
theorem pa_1_3 (x y : LG) (b : List (BitVec 8)) : (execB Pr OB5N noLoopsT 100 (partA 4 cL) (frB 1 (lgF x) 3 (lgF y) b) []).out = some (true, .normal, frA 1 3 x y b, [.dead, .vals (csA 1 3 x y)]) := by kernel_rfl
theorem pa_1_4 (x y : LG) (b : List (BitVec 8)) : (execB Pr OB5N noLoopsT 100 (partA 4 cL) (frB 1 (lgF x) 4 (lgF y) b) []).out = some (true, .normal, frA 1 4 x y b, [.dead, .vals (csA 1 4 x y)]) := by kernel_rfl
theorem pa_2_0 (x y : LG) (b : List (BitVec 8)) : (execB Pr OB5N noLoopsT 100 (partA 4 cL) (frB 2 (lgF x) 0 (lgF y) b) []).out = some (true, .normal, frA 2 0 x y b, [.dead, .vals (csA 2 0 x y)]) := by kernel_rfl
theorem pa_2_1 (x y : LG) (b : List (BitVec 8)) : (execB Pr OB5N noLoopsT 100 (partA 4 cL) (frB 2 (lgF x) 1 (lgF y) b) []).out = some (true, .normal, frA 2 1 x y b, [.dead, .vals (csA 2 1 x y)]) := by kernel_rfl
theorem pa_2_2 (x y : LG) (b : List (BitVec 8)) : (execB Pr OB5N noLoopsT 100 (partA 4 cL) (frB 2 (lgF x) 2 (lgF y) b) []).out = some (true, .normal, frA 2 2 x y b, [.dead, .vals (csA 2 2 x y)]) := by kernel_rfl
theorem pa_2_3 (x y : LG) (b : List (BitVec 8)) : (execB Pr OB5N noLoopsT 100 (partA 4 cL) (frB 2 (lgF x) 3 (lgF y) b) []).out = some (true, .normal, frA 2 3 x y b, [.dead, .vals (csA 2 3 x y)]) := by kernel_rfl
theorem pa_2_4 (x y : LG) (b : List (BitVec 8)) : (execB Pr OB5N noLoopsT 100 (partA 4 cL) (frB 2 (lgF x) 4 (lgF y) b) []).out = some (true, .normal, frA 2 4 x y b, [.dead, .vals (csA 2 4 x y)]) := by kernel_rfl
theorem pa_3_0 (x y : LG) (b : List (BitVec 8)) : (execB Pr OB5N noLoopsT 100 (partA 4 cL) (frB 3 (lgF x) 0 (lgF y) b) []).out = some (true, .normal, frA 3 0 x y b, [.dead, .vals (csA 3 0 x y)]) := by kernel_rfl
theorem pa_3_1 (x y : LG) (b : List (BitVec 8)) : (execB Pr OB5N noLoopsT 100 (partA 4 cL) (frB 3 (lgF x) 1 (lgF y) b) []).out = some (true, .normal, frA 3 1 x y b, [.dead, .vals (csA 3 1 x y)]) := by kernel_rfl
theorem pa_3_2 (x y : LG) (b : List (BitVec 8)) : (execB Pr OB5N noLoopsT 100 (partA 4 cL) (frB 3 (lgF x) 2 (lgF y) b) []).out = some (true, .normal, frA 3 2 x y b, [.dead, .vals (csA 3 2 x y)]) := by kernel_rfl
theorem pa_3_3 (x y : LG) (b : List (BitVec 8)) : (execB Pr OB5N noLoopsT 100 (partA 4 cL) (frB 3 (lgF x) 3 (lgF y) b) []).out = some (true, .normal, frA 3 3 x y b, [.dead, .vals (csA 3 3 x y)]) := by kernel_rfl
theorem pa_3_4 (x y : LG) (b : List (BitVec 8)) : (execB Pr OB5N noLoopsT 100 (partA 4 cL) (frB 3 (lgF x) 4 (lgF y) b) []).out = some (true, .normal, frA 3 4 x y b, [.dead, .vals (csA 3 4 x y)]) := by kernel_rfl
theorem pa_4_0 (x y : LG) (b : List (BitVec 8)) : (execB Pr OB5N noLoopsT 100 (partA 4 cL) (frB 4 (lgF x) 0 (lgF y) b) []).out = some (true, .normal, frA 4 0 x y b, [.dead, .vals (csA 4 0 x y)]) := by kernel_rfl
theorem pa_4_1 (x y : LG) (b : List (BitVec 8)) : (execB Pr OB5N noLoopsT 100 (partA 4 cL) (frB 4 (lgF x) 1 (lgF y) b) []).out = some (true, .normal, frA 4 1 x y b, [.dead, .vals (csA 4 1 x y)]) := by kernel_rfl
theorem pa_4_2 (x y : LG) (b : List (BitVec 8)) : (execB Pr OB5N noLoopsT 100 (partA 4 cL) (frB 4 (lgF x) 2 (lgF y) b) []).out = some (true, .normal, frA 4 2 x y b, [.dead, .vals (csA 4 2 x y)]) := by kernel_rfl
theorem pa_4_3 (x y : LG) (b : List (BitVec 8)) : (execB Pr OB5N noLoopsT 100 (partA 4 cL) (frB 4 (lgF x) 3 (lgF y) b) []).out = some (true, .normal, frA 4 3 x y b, [.dead, .vals (csA 4 3 x y)]) := by kernel_rfl
theorem pa_4_4 (x y : LG) (b : List (BitVec 8)) : (execB Pr OB5N noLoopsT 100 (partA 4 cL) (frB 4 (lgF x) 4 (lgF y) b) []).out = some (true, .normal, frA 4 4 x y b, [.dead, .vals (csA 4 4 x y)]) := by kernel_rfl
theorem pa_is {n m : Nat} (hn : n ≤ 4) (hm : m ≤ 4) (h : 0 < n + m) (x y : LG) (b : List (BitVec 8)) : (execB Pr OB5N noLoopsT 100 (partA 4 cL) (frB n (lgF x) m (lgF y) b) []).is (.normal, frA n m x y b, [.dead, .vals (csA n m x y)]) := by
  have e : (n = 0 ∨ n = 1 ∨ n = 2 ∨ n = 3 ∨ n = 4) ∧ (m = 0 ∨ m = 1 ∨ m = 2 ∨ m = 3 ∨ m = 4) := by omega
  obtain ⟨e1, e2⟩ := e
  rcases e1 with rfl | rfl | rfl | rfl | rfl <;> rcases e2 with rfl | rfl | rfl | rfl | rfl
  · exact absurd h (by decide)
  · exact pa_0_1 x y b
  · exact pa_0_2 x y b
  · exact pa_0_3 x y b
  · exact pa_0_4 x y b
  · exact pa_1_0 x y b
  · exact pa_1_1 x y b
  · exact pa_1_2 x y b
  · exact pa_1_3 x y b
  · exact pa_1_4 x y b
  · exact pa_2_0 x y b
  · exact pa_2_1 x y b
  · exact pa_2_2 x y b
  · exact pa_2_3 x y b
  · exact pa_2_4 x y b
  · exact pa_3_0 x y b
  · exact pa_3_1 x y b
  · exact pa_3_2 x y b
  · exact pa_3_3 x y b
  · exact pa_3_4 x y b
  · exact pa_4_0 x y b
  · exact pa_4_1 x y b
  · exact pa_4_2 x y b
  · exact pa_4_3 x y b
  · exact pa_4_4 x y b
theorem pa_00 (x y : LG) (b : List (BitVec 8)) : (execB Pr OB5N noLoopsT 100 (partA 4 cL) (frB 0 (lgF x) 0 (lgF y) b) []).out = some (true, .normal, [(0,.isl 3 0 (lgF x)),(1,.isl 3 0 (lgF y)),(5,.bool true),(6,.str b),(63,.isl 3 0 (lgF x)),(64, .nilSl),(65,.isl 3 0 (lgF y)),(66,.nilSl)], [.dead, .dead]) := by kernel_rfl
theorem pt_x (n : Nat) (m : Nat) (x : LG) (y : LG) : Tr.prune (Tr.Sh.any.r)
  (execBN Pr OB5 (smLT (0 : Nat) [hi_s, ho_s]) (100 : Nat) (0 : Nat) [(0 : Nat), (1 : Nat), (5 : Nat), (6 : Nat)] []
  (takeSeq (6 : Nat) (bodyOf Go.Proofs.Try.f6))
  [((0 : Nat), V.isl (3 : Nat) n (lgF x)), ((1 : Nat), V.isl (3 : Nat) m (lgF y))] []) =
  Tr.chk
  (decide ((0 : Int) ≤ (some (if (4 : Int) < (↑n : Int) then (4 : Int) else (↑n : Int))).getD (↑n : Int)) &&
        decide ((some (if (4 : Int) < (↑n : Int) then (4 : Int) else (↑n : Int))).getD (↑n : Int) ≤ (↑n : Int)) &&
      true &&
    (decide ((0 : Int) ≤ (some (if (4 : Int) < (↑m : Int) then (4 : Int) else (↑m : Int))).getD (↑m : Int)) &&
          decide ((some (if (4 : Int) < (↑m : Int) then (4 : Int) else (↑m : Int))).getD (↑m : Int) ≤ (↑m : Int)) &&
        true &&
      ((okF ((some (if (4 : Int) < (↑n : Int) then (4 : Int) else (↑n : Int))).getD (↑n : Int) - (0 : Int)).toNat
            fun i j ↦ lgF x ((none.getD (0 : Int)).toNat + i) j) &&
          true &&
        ho_ok
          (HO.mk ((some (if (4 : Int) < (↑n : Int) then (4 : Int) else (↑n : Int))).getD (↑n : Int) - (0 : Int)).toNat
            (fun i j ↦ lgF x ((none.getD (0 : Int)).toNat + i) j)
            ((some (if (4 : Int) < (↑m : Int) then (4 : Int) else (↑m : Int))).getD (↑m : Int) - (0 : Int)).toNat
            (fun i j ↦ lgF y ((none.getD (0 : Int)).toNat + i) j) true
            (addLg zN (fun i j ↦ lgF x ((none.getD (0 : Int)).toNat + i) j)
              ((some (if (4 : Int) < (↑n : Int) then (4 : Int) else (↑n : Int))).getD (↑n : Int) - (0 : Int)).toNat)))))
  (Tr.leaf
    (X.normal,
      [((0 : Nat),
          V.isl (3 : Nat)
            ((some (if (4 : Int) < (↑n : Int) then (4 : Int) else (↑n : Int))).getD (↑n : Int) - (0 : Int)).toNat
            fun i j ↦ lgF x ((none.getD (0 : Int)).toNat + i) j),
        ((1 : Nat),
          V.isl (3 : Nat)
            ((some (if (4 : Int) < (↑m : Int) then (4 : Int) else (↑m : Int))).getD (↑m : Int) - (0 : Int)).toNat
            fun i j ↦ lgF y ((none.getD (0 : Int)).toNat + i) j),
        ((5 : Nat), V.bool true),
        ((6 : Nat),
          V.str
            (addLg zN (fun i j ↦ lgF x ((none.getD (0 : Int)).toNat + i) j)
              ((some (if (4 : Int) < (↑n : Int) then (4 : Int) else (↑n : Int))).getD (↑n : Int) - (0 : Int)).toNat))],
      [])) := by kernel_rfl
theorem pb_x (n : Nat) (m : Nat) (k : Nat) (f : Nat → Nat → V) (g : Nat → Nat → V) (F : Nat → Nat → V) (b : List (BitVec 8)) (u : V) : Tr.prune (Tr.Sh.any)
  (execBN Pr OB5N noLoopsT (100 : Nat) (0 : Nat) [(0 : Nat), (1 : Nat), (5 : Nat), (6 : Nat), (9 : Nat)] []
  (partB (4 : Nat) cL)
  [((0 : Nat), V.isl (3 : Nat) n f), ((1 : Nat), V.isl (3 : Nat) m g), ((5 : Nat), V.bool true), ((6 : Nat), V.str b),
    ((63 : Nat), V.isl (3 : Nat) n f), ((64 : Nat), u), ((65 : Nat), V.isl (3 : Nat) m g),
    ((66 : Nat), V.isl (3 : Nat) k F)]
  [Blk.dead, Blk.dead]) =
  Tr.chk (okF k F && true)
  (Tr.leaf
    (X.normal,
      [((0 : Nat), V.isl (3 : Nat) n f), ((1 : Nat), V.isl (3 : Nat) m g), ((5 : Nat), V.bool true),
        ((6 : Nat), V.str b), ((9 : Nat), V.str (addLg zN F k))],
      [])) := by kernel_rfl
theorem pb0_x (n : Nat) (m : Nat) (f : Nat → Nat → V) (g : Nat → Nat → V) (b : List (BitVec 8)) : Tr.prune (Tr.Sh.any)
  (execBN Pr OB5N noLoopsT (100 : Nat) (0 : Nat) [(0 : Nat), (1 : Nat), (5 : Nat), (6 : Nat), (9 : Nat)] []
  (partB (4 : Nat) cL)
  [((0 : Nat), V.isl (3 : Nat) n f), ((1 : Nat), V.isl (3 : Nat) m g), ((5 : Nat), V.bool true), ((6 : Nat), V.str b),
    ((63 : Nat), V.isl (3 : Nat) n f), ((64 : Nat), V.nilSl), ((65 : Nat), V.isl (3 : Nat) m g), ((66 : Nat), V.nilSl)]
  [Blk.dead, Blk.dead]) =
  Tr.chk true
  (Tr.leaf
    (X.normal,
      [((0 : Nat), V.isl (3 : Nat) n f), ((1 : Nat), V.isl (3 : Nat) m g), ((5 : Nat), V.bool true),
        ((6 : Nat), V.str b), ((9 : Nat), V.str zN)],
      [])) := by kernel_rfl
theorem pr_x (n : Nat) (m : Nat) (f : Nat → Nat → V) (g : Nat → Nat → V) (b : List (BitVec 8)) (z : List (BitVec 8)) : Tr.prune (((Tr.Sh.any.l.l.both
            Tr.Sh.any.r.r).both
        Tr.Sh.any.r.r.r).l.l.l)
  (execBR Pr OB5 noLoopsT (100 : Nat) Go.Proofs.Try.f6 (0 : Nat) (tailC cL)
  [((0 : Nat), V.isl (3 : Nat) n f), ((1 : Nat), V.isl (3 : Nat) m g), ((5 : Nat), V.bool true), ((6 : Nat), V.str b),
    ((9 : Nat), V.str z)]
  []) =
  Tr.chk (okF m g && true && true && true)
  (Tr.br (z == joinS b (addLg zN g m))
    (Tr.chk true
      (Tr.br (joinO b (addLg zN g m))
        (Tr.chk true
          (Tr.leaf
            (Fin.ret (V.bool (zN == zN)),
              [])))
        (Tr.chk true (Tr.leaf (Fin.ret (V.bool false), [])))))
    (Tr.chk true (Tr.leaf (Fin.ret (V.bool false), [])))) := by kernel_rfl
end
end Go.Proofs.Ytklgiongdiojcaa.K
end
section
open Go Go.Lh Go.Lh.Bl
namespace Go.Proofs.Ytklgiongdiojcaa.K
noncomputable section
set_option maxRecDepth 100000
theorem F_lo (n m : Nat) (x y : LG) (i j : Nat) (hi : i < n) (hj : j < 3) : frzC (csA n m x y) 0 3 i j = lgF x i j := by
  unfold frzC csA islC
  have h1 : i * 3 + 3 ≤ n * 3 := by omega
  rw [List.getD_eq_getElem?_getD, List.getElem?_append_left (by simp; omega)]
  have e1 : (0 + i * 3 + j) / 3 = i := by omega
  have e2 : (0 + i * 3 + j) % 3 = j := by omega
  rw [List.getElem?_map, List.getElem?_range (by omega)]
  simp only [Option.map_some, Option.getD_some, e1, e2]
theorem F_hi (n m : Nat) (x y : LG) (i j : Nat) (hi : i < m) (hj : j < 3) : frzC (csA n m x y) 0 3 (n + i) j = lgF y i j := by
  unfold frzC csA islC
  rw [List.getD_eq_getElem?_getD, List.getElem?_append_right (by simp; omega)]
  have e0 : 0 + (n + i) * 3 + j - (List.map (fun k => lgF x (k / 3) (k % 3)) (List.range (n * 3))).length = i * 3 + j := by simp; omega
  rw [e0]
  have e1 : (i * 3 + j) / 3 = i := by omega
  have e2 : (i * 3 + j) % 3 = j := by omega
  rw [List.getElem?_map, List.getElem?_range (by omega)]
  simp only [Option.map_some, Option.getD_some, e1, e2]
theorem rd_lo (n m : Nat) (x y : LG) (i : Nat) (hi : i < n) : (rdL (frzC (csA n m x y) 0 3)).A i = x.A i ∧ (rdL (frzC (csA n m x y) 0 3)).m i = x.m i ∧ (rdL (frzC (csA n m x y) 0 3)).T i = x.T i := by
  refine ⟨?_, ?_, ?_⟩
  · show sOf (frzC (csA n m x y) 0 3 i 0) = _; rw [F_lo n m x y i 0 hi (by decide)]; rfl
  · show lOf (frzC (csA n m x y) 0 3 i 1) = _; rw [F_lo n m x y i 1 hi (by decide)]; rfl
  · show gOf (frzC (csA n m x y) 0 3 i 1) = _; rw [F_lo n m x y i 1 hi (by decide)]; rfl
theorem rd_hi (n m : Nat) (x y : LG) (i : Nat) (hi : i < m) : (rdL (frzC (csA n m x y) 0 3)).A (n + i) = y.A i ∧ (rdL (frzC (csA n m x y) 0 3)).m (n + i) = y.m i ∧ (rdL (frzC (csA n m x y) 0 3)).T (n + i) = y.T i := by
  refine ⟨?_, ?_, ?_⟩
  · show sOf (frzC (csA n m x y) 0 3 (n + i) 0) = _; rw [F_hi n m x y i 0 hi (by decide)]; rfl
  · show lOf (frzC (csA n m x y) 0 3 (n + i) 1) = _; rw [F_hi n m x y i 1 hi (by decide)]; rfl
  · show gOf (frzC (csA n m x y) 0 3 (n + i) 1) = _; rw [F_hi n m x y i 1 hi (by decide)]; rfl
theorem strs_lo (n m : Nat) (x y : LG) : ∀ k, k ≤ n → logStrs (rdL (frzC (csA n m x y) 0 3)) k = logStrs x k
  | 0, _ => rfl
  | k + 1, h => by
    obtain ⟨e1, e2, e3⟩ := rd_lo n m x y k (by omega)
    rw [logStrs, logStrs, strs_lo n m x y k (by omega), e1, e2, e3]
theorem strs_hi (n m : Nat) (x y : LG) : ∀ k, k ≤ m → logStrs (rdL (frzC (csA n m x y) 0 3)) (n + k) = logStrs x n ++ logStrs y k
  | 0, _ => by rw [Nat.add_zero, strs_lo n m x y n (Nat.le_refl _), logStrs, List.append_nil]
  | k + 1, h => by
    obtain ⟨e1, e2, e3⟩ := rd_hi n m x y k (by omega)
    rw [← Nat.add_assoc, logStrs, logStrs, strs_hi n m x y k (by omega), e1, e2, e3, List.append_assoc]
theorem okF_both (n m : Nat) (x y : LG) (hn : n ≤ 4) (hm : m ≤ 4) (hx : ∀ i, i < n → (x.A i).length ≤ 140737488351232 ∧ x.m i < 2 ^ 63) (hy : ∀ i, i < m → (y.A i).length ≤ 140737488351232 ∧ y.m i < 2 ^ 63) : okF (n + m) (frzC (csA n m x y) 0 3) = true := by
  refine okF_iff.2 ⟨by omega, ?_, ?_⟩
  · intro i j hi hj
    have e : ∃ z k, frzC (csA n m x y) 0 3 i 0 = lgF z k 0 ∧ frzC (csA n m x y) 0 3 i 1 = lgF z k 1 ∧ frzC (csA n m x y) 0 3 i 2 = lgF z k 2 := by
      rcases Nat.lt_or_ge i n with h | h
      · exact ⟨x, i, F_lo n m x y i 0 h (by decide), F_lo n m x y i 1 h (by decide), F_lo n m x y i 2 h (by decide)⟩
      · obtain ⟨k, rfl⟩ := Nat.exists_eq_add_of_le h
        exact ⟨y, k, F_hi n m x y k 0 (by omega) (by decide), F_hi n m x y k 1 (by omega) (by decide), F_hi n m x y k 2 (by omega) (by decide)⟩
    obtain ⟨z, k, e0, e1, e2⟩ := e
    generalize frzC (csA n m x y) 0 3 = F at e0 e1 e2 ⊢
    match j, hj with
    | 0, _ => show F i 0 = .str (sOf (F i 0)); rw [e0]; rfl
    | 1, _ => show F i 1 = .isl 4 (lOf (F i 1)) (fun k j => .u64 (gOf (F i 1) k j)); rw [e1]; rfl
    | 2, _ => show F i 2 = .str (sOf (F i 2)); rw [e2]; rfl
  · intro i hi
    rcases Nat.lt_or_ge i n with h | h
    · obtain ⟨e1, e2, e3⟩ := rd_lo n m x y i h
      rw [e1, e2]; exact hx i h
    · obtain ⟨k, rfl⟩ := Nat.exists_eq_add_of_le h
      obtain ⟨e1, e2, e3⟩ := rd_hi n m x y k (by omega)
      rw [e1, e2]; exact hy k (by omega)
theorem addLg_len (f : Nat → Nat → V) (n : Nat) : (addLg zN f n).length = 256 := by rw [addLg_eq, addT_length, zN_eq, zeros_len]
theorem both_join (n m : Nat) (x y : LG) : addLg zN (frzC (csA n m x y) 0 3) (n + m) = joinS (addLg zN (lgF x) n) (addLg zN (lgF y) m) := by
  have e : joinS (addLg zN (lgF x) n) (addLg zN (lgF y) m) = joinL (addLg zN (lgF x) n) (addLg zN (lgF y) m) := if_pos ⟨addLg_len _ _, addLg_len _ _⟩
  rw [e, joinL_eq, addLg_eq, addLg_eq, addLg_eq, rdL_lgF, rdL_lgF, addT_all, addT_all, addT_all, zN_eq, join_all, strs_hi n m x y m (Nat.le_refl _), List.map_append]
theorem strs_mem (T : Nat → Nat → BitVec 64) : ∀ (m k : Nat), k < m → byB (topic T k) ∈ strs T m
  | m + 1, k, h => by
    rw [strs, List.mem_append]
    rcases Nat.lt_or_ge k m with h0 | h0
    · exact .inl (strs_mem T m k h0)
    · have : k = m := by omega
      subst this
      exact .inr (by simp)
theorem logs_mem (x : LG) : ∀ (n i : Nat), i < n → x.A i ∈ logStrs x n ∧ ∀ k, k < x.m i → byB (topic (x.T i) k) ∈ logStrs x n
  | n + 1, i, h => by
    rw [logStrs]
    rcases Nat.lt_or_ge i n with h0 | h0
    · obtain ⟨a, b⟩ := logs_mem x n i h0
      exact ⟨List.mem_append.2 (.inl a), fun k hk => List.mem_append.2 (.inl (b k hk))⟩
    · have : i = n := by omega
      subst this
      exact ⟨List.mem_append.2 (.inr (by simp)), fun k hk => List.mem_append.2 (.inr (List.mem_cons_of_mem _ (strs_mem _ _ _ hk)))⟩
theorem has_told (x : LG) (n : Nat) (s : List (BitVec 8)) (h : s ∈ logStrs x n) : hasB (addLg zN (lgF x) n) s = true := by
  rw [hasB_eq]
  unfold hasV
  rw [addLg_len, decide_eq_true rfl, Bool.true_and, addLg_eq, rdL_lgF, addT_all, zN_eq]
  exact has_all _ _ _ zeros_len (.inl (List.mem_map.2 ⟨s, h, rfl⟩))
theorem allIn_of (x : LG) (n : Nat) (hx : ∀ i, i < n → (x.A i).length ≤ 140737488351232 ∧ x.m i < 2 ^ 63) : allIn (addLg zN (lgF x) n) x n := by
  intro i hi
  obtain ⟨a, b⟩ := logs_mem x n i hi
  exact ⟨(hx i hi).1, (hx i hi).2, has_told _ _ _ a, fun k hk => has_told _ _ _ (b k hk)⟩
end
end Go.Proofs.Ytklgiongdiojcaa.K
end
section
open Go Go.Lh Go.Lh.Bl
namespace Go.Proofs.Ytklgiongdiojcaa.K
noncomputable section
set_option maxRecDepth 100000
theorem min4 (n : Nat) : 0 ≤ (if (4 : Int) < (n : Int) then (4 : Int) else (n : Int)) ∧ (if (4 : Int) < (n : Int) then (4 : Int) else (n : Int)) ≤ (n : Int) ∧ (if (4 : Int) < (n : Int) then (4 : Int) else (n : Int)) ≤ 4 := by
  split <;> omega
theorem clo_cs (n m : Nat) (x y : LG) : ∀ v, v ∈ csA n m x y → v.clo = true := by
  have h : ∀ (z : LG) (i j : Nat), (lgF z i j).clo = true := by
    intro z i j
    match j with
    | 0 => rfl
    | 1 => rfl
    | _ + 2 => rfl
  intro v hv
  unfold csA islC at hv
  rcases List.mem_append.1 hv with hv | hv
  · obtain ⟨k, _, rfl⟩ := List.mem_map.1 hv; exact h _ _ _
  · obtain ⟨k, _, rfl⟩ := List.mem_map.1 hv; exact h _ _ _
theorem rest_fn (n m : Nat) (x y : LG) (z : List (BitVec 8)) (hm : m ≤ 4) (hy : ∀ i, i < m → (y.A i).length ≤ 140737488351232 ∧ y.m i < 2 ^ 63) (hz : z = joinS (addLg zN (lgF x) n) (addLg zN (lgF y) m)) :
    EndsIn Pr Go.Proofs.Try.f6 0 (tailC cL) [(0,.isl 3 n (lgF x)),(1,.isl 3 m (lgF y)),(5,.bool true),(6,.str (addLg zN (lgF x) n)),(9,.str z)] [] (.ret (.bool true)) [] := by
  refine EndsIn.last OB5_sound mixed noLoops_all (by kernel_rfl) (pr_x n m (lgF x) (lgF y) _ z) ?_
  have h1 : okF m (lgF y) = true := okF_iff.2 ⟨by omega, fun i j _ _ => by rw [rdL_lgF], fun i hi => by rw [rdL_lgF]; exact hy i hi⟩
  have h2 : joinO (addLg zN (lgF x) n) (addLg zN (lgF y) m) = true := joinO_iff.2 ⟨addLg_len _ _, addLg_len _ _⟩
  have h3 : (zN == zN) = true := beq_self_eq_true _
  have h4 : (z == joinS (addLg zN (lgF x) n) (addLg zN (lgF y) m)) = true := by rw [hz]; exact beq_self_eq_true _
  rw [h1, h2, h3, h4]
  exact wp_chk_true.2 (brT (wp_chk_true.2 (brT (wp_chk_true.2 (wp_leaf.2 rfl)))))
theorem cut_fn (n m : Nat) (x y : LG) (hn : n ≤ 4) (hm : m ≤ 4) (hx : ∀ i, i < n → (x.A i).length ≤ 140737488351232 ∧ x.m i < 2 ^ 63) (hy : ∀ i, i < m → (y.A i).length ≤ 140737488351232 ∧ y.m i < 2 ^ 63) :
    EndsIn Pr Go.Proofs.Try.f6 0 cL (frB n (lgF x) m (lgF y) (addLg zN (lgF x) n)) [] (.ret (.bool true)) [] := by
  rcases Nat.eq_zero_or_pos (n + m) with h0 | h0
  · have en : n = 0 := by omega
    have em : m = 0 := by omega
    subst en; subst em
    refine EndsIn.two (T := OB5N) (fuel := 100) (on := [0,1,5,6,9]) (fr3 := [(0,.isl 3 0 (lgF x)),(1,.isl 3 0 (lgF y)),(5,.bool true),(6,.str (addLg zN (lgF x) 0)),(9,.str zN)]) (h3 := []) 4 OB5N_sound mixed cB_ok (by kernel_rfl) (pa_00 x y _) (.inl ⟨rfl, rfl⟩) ?_ (rest_fn 0 0 x y zN (by decide) hy ?_)
    · exact Tr.prune_is (Eq.mpr (congrArg (fun t => Tr.is t _) (pb0_x 0 0 (lgF x) (lgF y) _)) (Tr.is_chk.2 ⟨rfl, Tr.is_leaf.2 rfl⟩))
    · rw [← both_join]
      show zN = addLg zN _ 0
      rw [addLg_eq]; rfl
  · have hF := okF_both n m x y hn hm hx hy
    refine EndsIn.two (T := OB5N) (fuel := 100) (on := [0,1,5,6,9]) (fr3 := [(0,.isl 3 n (lgF x)),(1,.isl 3 m (lgF y)),(5,.bool true),(6,.str (addLg zN (lgF x) n)),(9,.str (addLg zN (frzC (csA n m x y) 0 3) (n + m)))]) (h3 := []) 4 OB5N_sound mixed cB_ok (by kernel_rfl) (pa_is hn hm h0 x y _) (.inr ⟨1, csA n m x y, rfl, clo_cs n m x y, rfl, rfl⟩) ?_ (rest_fn n m x y _ hm hy (both_join n m x y))
    refine Tr.prune_is (Eq.mpr (congrArg (fun t => Tr.is t _) (pb_x n m (n + m) (lgF x) (lgF y) (frzC (csA n m x y) 0 3) (addLg zN (lgF x) n) (frzV 1 (csA n m x y) (match n with | 0 => .nilSl | n + 1 => .sl 0 0 3 (n + 1) none)))) (Tr.is_chk.2 ⟨?_, Tr.is_leaf.2 rfl⟩))
    rw [hF]; rfl
theorem off0 (x : LG) : (fun i j => lgF x ((none.getD (0 : Int)).toNat + i) j) = lgF x := by
  funext i j
  show lgF x (0 + i) j = lgF x i j
  rw [Nat.zero_add]
theorem blogs_fn (n m : Nat) (x y : LG) (hx : fine n (lgF x)) (hy : fine m (lgF y)) :
    LFn Pr 6 [.isl 3 n (lgF x), .isl 3 m (lgF y)] [] (.ret (.bool true)) [] := by
  refine EndsIn.done (fn := Go.Proofs.Try.f6) (by kernel_rfl) (by kernel_rfl) (by kernel_rfl) ?_
  refine EndsIn.cut 6 (fun a : Nat × Nat => (frB a.1 (lgF x) a.2 (lgF y) (addLg zN (lgF x) a.1), [])) (fun a => a.1 ≤ n ∧ a.1 ≤ 4 ∧ a.2 ≤ m ∧ a.2 ≤ 4) OB5_sound mixed (by kernel_rfl) (ho_Ls _ rfl) (by kernel_rfl) (pt_x n m x y) ?_ ?_
  · simp only [Option.getD_some]
    obtain ⟨n0, n1, n2⟩ := min4 n
    obtain ⟨m0, m1, m2⟩ := min4 m
    revert n0 n1 n2 m0 m1 m2
    generalize (if (4 : Int) < (n : Int) then (4 : Int) else (n : Int)) = mn
    generalize (if (4 : Int) < (m : Int) then (4 : Int) else (m : Int)) = mm
    intro n0 n1 n2 m0 m1 m2
    rw [off0 x, off0 y]
    have q1 : okF (mn - 0).toNat (lgF x) = true := okF_iff.2 ⟨by omega, fun i j _ _ => by rw [rdL_lgF], fun i hi => (hx i (by omega)).2⟩
    have q2 : ho_ok (HO.mk (mn - 0).toNat (lgF x) (mm - 0).toNat (lgF y) true (addLg zN (lgF x) (mn - 0).toNat)) = true := by
      unfold ho_ok
      refine @decide_eq_true _ (Classical.propDecidable _) ⟨by simp only; omega, by simp only [rdL_lgF], ?_⟩
      simp only [rdL_lgF]
      exact allIn_of x _ fun i hi => (hx i (by omega)).2
    rw [q1, q2]
    refine wp_chk.2 ⟨?_, wp_leaf.2 ⟨((mn - 0).toNat, (mm - 0).toNat), by simp only; omega, rfl⟩⟩
    simp only [Bool.and_eq_true, decide_eq_true_eq, Bool.and_true, true_and]
    omega
  · rintro ⟨k, l⟩ ⟨h1, h2, h3, h4⟩
    exact cut_fn k l x y h2 h4 (fun i hi => (hx i (by omega)).2) (fun i hi => (hy i (by omega)).2)
end
end Go.Proofs.Ytklgiongdiojcaa.K
end
