/- The functions that this law reaches: what each comes to. -/
import Derived.Test.YtajbaocfdlopbaaCGStores2
set_option linter.unusedSimpArgs false
set_option linter.unusedVariables false
section
open Go Go.Lh
namespace Go.Proofs.Ytajbaocfdlopbaa.K
noncomputable section
set_option maxRecDepth 100000
def isTx (x : TX) (cs : List V) : Bool := @decide (cs = x.cs ∧ x.ln < 9223372036854775808 ∧ x.d.length < 9223372036854775808) (Classical.propDecidable _)
theorem isTx_iff {x : TX} {cs : List V} : isTx x cs = true ↔ (cs = x.cs ∧ x.ln < 9223372036854775808 ∧ x.d.length < 9223372036854775808) := by simp [isTx]
def readAg : List V → Heap → Option (List V) := fun args h => match args, h with
  | [.agg cs], [] => some cs
  | _, _ => none
def int_g (x : TX) : List V → Heap → Tr (Fin × Heap) := ctT readAg fun cs => .chk (isTx x cs) (.leaf (.ret (.u64 (intC x)), []))
theorem int_okG (x : TX) {i : FuncId} (hf : x.ln < 9223372036854775808 → x.d.length < 9223372036854775808 → LFn Pr i [.agg x.cs] [] (.ret (.u64 (intC x))) []) : ∀ args h r, (int_g x args h).is r → LFn Pr i args h r.1 r.2 := by
  refine ctT_ok (fun a => [.agg a]) (fun _ => []) ?_ (fun a r h => ?_)
  · intro args h a e
    unfold readAg at e
    split at e <;> cases e
    exact ⟨rfl, rfl⟩
  · rw [Tr.is_chk, Tr.is_leaf] at h
    obtain ⟨h1, rfl⟩ := h
    obtain ⟨rfl, h2, h3⟩ := isTx_iff.1 h1
    exact hf h2 h3
def rstore_g := ct store_read (fun _ => true) (fun a => .ret (.tup [.u64 (stC a.o a.c a.v a.cold).1, .int .i64 (stC a.o a.c a.v a.cold).2])) (fun _ => [])
theorem rstore_ok : ∀ args h fin h', rstore_g args h = some (true, fin, h') → LFn Pr 44 args h fin h' := by
  refine ct_ok (fun a => [a.o.v, a.c.v, a.v.v, .bool a.cold]) (fun _ => []) ?_ ?_
  · intro args h a e
    unfold store_read at e
    split at e <;> cases e
    exact ⟨rfl, rfl⟩
  · intro a _
    exact rstore_fn a.o a.c a.v a.cold
def KX2 (x : TX) : KnownT := (42, old gex_g) :: (43, old store_g) :: (44, old rstore_g) :: (45, int_g x) :: (46, int_g x) :: KX1
theorem KX2_ok (x : TX) : KOkT Pr (KX2 x) := KOkT.cons gex_en (old_ok gex_ok) (KOkT.cons (Enters.of (fn := Go.Proofs.Try.f43) (by kernel_rfl) (by kernel_rfl)) (old_ok store_ok) (KOkT.cons (Enters.of (fn := Go.Proofs.Try.f44) (by kernel_rfl) (by kernel_rfl)) (old_ok rstore_ok)
  (KOkT.cons (Enters.of (fn := Go.Proofs.Try.f45) (by kernel_rfl) (by kernel_rfl)) (int_okG x (fun h _ => int_fn x h)) (KOkT.cons (Enters.of (fn := Go.Proofs.Try.f46) (by kernel_rfl) (by kernel_rfl)) (int_okG x (fun h h' => rint_fn x h h')) KX1_ok))))
def OX2 (x : TX) : OrcT := autoT Pr ext (KX2 x) [] 4
theorem OX2_sound (x : TX) : OrcSound Pr (OX2 x).o := autoT_sound mixed ext_ok (KX2_ok x) (by kernel_rfl) 4
theorem gst_x (a : W4) (b : W4) (c : W4) (w : BitVec 8) (cold : Bool) (x : TX) : Tr.prune (((((Tr.Sh.any.l.l.l.l.l.l.both
                                  Tr.Sh.any.r.r.r.r.r.r).l.l.l.l.both
                      Tr.Sh.any.r.r.r.r.r.r.r.r.r.r.r).l.l.both
              Tr.Sh.any.r.r.r.r.r.r.r.r.r.r.r.r.r.r).l.l.l.both
    (((Tr.Sh.any.l.l.l.l.l.l.both Tr.Sh.any.r.r.r.r.r.r).l.l.l.l.both Tr.Sh.any.r.r.r.r.r.r.r.r.r.r.r).l.l.both
            Tr.Sh.any.r.r.r.r.r.r.r.r.r.r.r.r.r.r).l.l.l).r)
  (execBF Pr (OX2 x) noLoopsT (100 : Nat) Go.Proofs.Try.f11 [a.v, b.v, c.v, V.u8 w, V.bool cold, V.agg x.cs] []) =
  Tr.chk true
  (Tr.br (decide (w < BitVec.ofInt (8 : Nat) (200 : Int)))
    (Tr.chk
      (decide ((↑(w % BitVec.ofInt (8 : Nat) (3 : Int)).toNat : Int) < (3 : Int)) &&
              (decide ((0 : Nat) + (w % BitVec.ofInt (8 : Nat) (3 : Int)).toNat * (4 : Nat) + (4 : Nat) ≤ (12 : Nat)) &&
                true) &&
            (decide
                  ((↑(w / BitVec.ofInt (8 : Nat) (3 : Int) % BitVec.ofInt (8 : Nat) (3 : Int)).toNat : Int) <
                    (3 : Int)) &&
                (decide
                    ((0 : Nat) +
                          (w / BitVec.ofInt (8 : Nat) (3 : Int) % BitVec.ofInt (8 : Nat) (3 : Int)).toNat * (4 : Nat) +
                        (4 : Nat) ≤
                      (12 : Nat)) &&
                  true) &&
              (decide
                  ((↑(w / BitVec.ofInt (8 : Nat) (9 : Int) % BitVec.ofInt (8 : Nat) (3 : Int)).toNat : Int) <
                    (3 : Int)) &&
                (decide
                    ((0 : Nat) +
                          (w / BitVec.ofInt (8 : Nat) (9 : Int) % BitVec.ofInt (8 : Nat) (3 : Int)).toNat * (4 : Nat) +
                        (4 : Nat) ≤
                      (12 : Nat)) &&
                  true))) &&
          true &&
        true)
      (Tr.br
        ((stC
              (W4.mk
                ([BitVec.ofInt (64 : Nat) (0 : Int), BitVec.ofInt (64 : Nat) (0 : Int),
                      BitVec.ofInt (64 : Nat) (0 : Int), BitVec.ofInt (64 : Nat) (0 : Int),
                      BitVec.ofInt (64 : Nat) (0 : Int), BitVec.ofInt (64 : Nat) (0 : Int),
                      BitVec.ofInt (64 : Nat) (0 : Int), BitVec.ofInt (64 : Nat) (1 : Int),
                      BitVec.ofInt (64 : Nat) (0 : Int), BitVec.ofInt (64 : Nat) (0 : Int),
                      BitVec.ofInt (64 : Nat) (0 : Int), BitVec.ofInt (64 : Nat) (2 : Int)].getD
                  ((0 : Nat) + (w % BitVec.ofInt (8 : Nat) (3 : Int)).toNat * (4 : Nat)) (OfNat.ofNat (0 : Nat)))
                ([BitVec.ofInt (64 : Nat) (0 : Int), BitVec.ofInt (64 : Nat) (0 : Int),
                      BitVec.ofInt (64 : Nat) (0 : Int), BitVec.ofInt (64 : Nat) (0 : Int),
                      BitVec.ofInt (64 : Nat) (0 : Int), BitVec.ofInt (64 : Nat) (0 : Int),
                      BitVec.ofInt (64 : Nat) (0 : Int), BitVec.ofInt (64 : Nat) (1 : Int),
                      BitVec.ofInt (64 : Nat) (0 : Int), BitVec.ofInt (64 : Nat) (0 : Int),
                      BitVec.ofInt (64 : Nat) (0 : Int), BitVec.ofInt (64 : Nat) (2 : Int)].getD
                  ((0 : Nat) + (w % BitVec.ofInt (8 : Nat) (3 : Int)).toNat * (4 : Nat) + (1 : Nat))
                  (OfNat.ofNat (0 : Nat)))
                ([BitVec.ofInt (64 : Nat) (0 : Int), BitVec.ofInt (64 : Nat) (0 : Int),
                      BitVec.ofInt (64 : Nat) (0 : Int), BitVec.ofInt (64 : Nat) (0 : Int),
                      BitVec.ofInt (64 : Nat) (0 : Int), BitVec.ofInt (64 : Nat) (0 : Int),
                      BitVec.ofInt (64 : Nat) (0 : Int), BitVec.ofInt (64 : Nat) (1 : Int),
                      BitVec.ofInt (64 : Nat) (0 : Int), BitVec.ofInt (64 : Nat) (0 : Int),
                      BitVec.ofInt (64 : Nat) (0 : Int), BitVec.ofInt (64 : Nat) (2 : Int)].getD
                  ((0 : Nat) + (w % BitVec.ofInt (8 : Nat) (3 : Int)).toNat * (4 : Nat) + (1 : Nat) + (1 : Nat))
                  (OfNat.ofNat (0 : Nat)))
                ([BitVec.ofInt (64 : Nat) (0 : Int), BitVec.ofInt (64 : Nat) (0 : Int),
                      BitVec.ofInt (64 : Nat) (0 : Int), BitVec.ofInt (64 : Nat) (0 : Int),
                      BitVec.ofInt (64 : Nat) (0 : Int), BitVec.ofInt (64 : Nat) (0 : Int),
                      BitVec.ofInt (64 : Nat) (0 : Int), BitVec.ofInt (64 : Nat) (1 : Int),
                      BitVec.ofInt (64 : Nat) (0 : Int), BitVec.ofInt (64 : Nat) (0 : Int),
                      BitVec.ofInt (64 : Nat) (0 : Int), BitVec.ofInt (64 : Nat) (2 : Int)].getD
                  ((0 : Nat) + (w % BitVec.ofInt (8 : Nat) (3 : Int)).toNat * (4 : Nat) + (1 : Nat) + (1 : Nat) +
                    (1 : Nat))
                  (OfNat.ofNat (0 : Nat))))
              (W4.mk
                ([BitVec.ofInt (64 : Nat) (0 : Int), BitVec.ofInt (64 : Nat) (0 : Int),
                      BitVec.ofInt (64 : Nat) (0 : Int), BitVec.ofInt (64 : Nat) (0 : Int),
                      BitVec.ofInt (64 : Nat) (0 : Int), BitVec.ofInt (64 : Nat) (0 : Int),
                      BitVec.ofInt (64 : Nat) (0 : Int), BitVec.ofInt (64 : Nat) (1 : Int),
                      BitVec.ofInt (64 : Nat) (0 : Int), BitVec.ofInt (64 : Nat) (0 : Int),
                      BitVec.ofInt (64 : Nat) (0 : Int), BitVec.ofInt (64 : Nat) (2 : Int)].getD
                  ((0 : Nat) +
                    (w / BitVec.ofInt (8 : Nat) (3 : Int) % BitVec.ofInt (8 : Nat) (3 : Int)).toNat * (4 : Nat))
                  (OfNat.ofNat (0 : Nat)))
                ([BitVec.ofInt (64 : Nat) (0 : Int), BitVec.ofInt (64 : Nat) (0 : Int),
                      BitVec.ofInt (64 : Nat) (0 : Int), BitVec.ofInt (64 : Nat) (0 : Int),
                      BitVec.ofInt (64 : Nat) (0 : Int), BitVec.ofInt (64 : Nat) (0 : Int),
                      BitVec.ofInt (64 : Nat) (0 : Int), BitVec.ofInt (64 : Nat) (1 : Int),
                      BitVec.ofInt (64 : Nat) (0 : Int), BitVec.ofInt (64 : Nat) (0 : Int),
                      BitVec.ofInt (64 : Nat) (0 : Int), BitVec.ofInt (64 : Nat) (2 : Int)].getD
                  ((0 : Nat) +
                      (w / BitVec.ofInt (8 : Nat) (3 : Int) % BitVec.ofInt (8 : Nat) (3 : Int)).toNat * (4 : Nat) +
                    (1 : Nat))
                  (OfNat.ofNat (0 : Nat)))
                ([BitVec.ofInt (64 : Nat) (0 : Int), BitVec.ofInt (64 : Nat) (0 : Int),
                      BitVec.ofInt (64 : Nat) (0 : Int), BitVec.ofInt (64 : Nat) (0 : Int),
                      BitVec.ofInt (64 : Nat) (0 : Int), BitVec.ofInt (64 : Nat) (0 : Int),
                      BitVec.ofInt (64 : Nat) (0 : Int), BitVec.ofInt (64 : Nat) (1 : Int),
                      BitVec.ofInt (64 : Nat) (0 : Int), BitVec.ofInt (64 : Nat) (0 : Int),
                      BitVec.ofInt (64 : Nat) (0 : Int), BitVec.ofInt (64 : Nat) (2 : Int)].getD
                  ((0 : Nat) +
                        (w / BitVec.ofInt (8 : Nat) (3 : Int) % BitVec.ofInt (8 : Nat) (3 : Int)).toNat * (4 : Nat) +
                      (1 : Nat) +
                    (1 : Nat))
                  (OfNat.ofNat (0 : Nat)))
                ([BitVec.ofInt (64 : Nat) (0 : Int), BitVec.ofInt (64 : Nat) (0 : Int),
                      BitVec.ofInt (64 : Nat) (0 : Int), BitVec.ofInt (64 : Nat) (0 : Int),
                      BitVec.ofInt (64 : Nat) (0 : Int), BitVec.ofInt (64 : Nat) (0 : Int),
                      BitVec.ofInt (64 : Nat) (0 : Int), BitVec.ofInt (64 : Nat) (1 : Int),
                      BitVec.ofInt (64 : Nat) (0 : Int), BitVec.ofInt (64 : Nat) (0 : Int),
                      BitVec.ofInt (64 : Nat) (0 : Int), BitVec.ofInt (64 : Nat) (2 : Int)].getD
                  ((0 : Nat) +
                          (w / BitVec.ofInt (8 : Nat) (3 : Int) % BitVec.ofInt (8 : Nat) (3 : Int)).toNat * (4 : Nat) +
                        (1 : Nat) +
                      (1 : Nat) +
                    (1 : Nat))
                  (OfNat.ofNat (0 : Nat))))
              (W4.mk
                ([BitVec.ofInt (64 : Nat) (0 : Int), BitVec.ofInt (64 : Nat) (0 : Int),
                      BitVec.ofInt (64 : Nat) (0 : Int), BitVec.ofInt (64 : Nat) (0 : Int),
                      BitVec.ofInt (64 : Nat) (0 : Int), BitVec.ofInt (64 : Nat) (0 : Int),
                      BitVec.ofInt (64 : Nat) (0 : Int), BitVec.ofInt (64 : Nat) (1 : Int),
                      BitVec.ofInt (64 : Nat) (0 : Int), BitVec.ofInt (64 : Nat) (0 : Int),
                      BitVec.ofInt (64 : Nat) (0 : Int), BitVec.ofInt (64 : Nat) (2 : Int)].getD
                  ((0 : Nat) +
                    (w / BitVec.ofInt (8 : Nat) (9 : Int) % BitVec.ofInt (8 : Nat) (3 : Int)).toNat * (4 : Nat))
                  (OfNat.ofNat (0 : Nat)))
                ([BitVec.ofInt (64 : Nat) (0 : Int), BitVec.ofInt (64 : Nat) (0 : Int),
                      BitVec.ofInt (64 : Nat) (0 : Int), BitVec.ofInt (64 : Nat) (0 : Int),
                      BitVec.ofInt (64 : Nat) (0 : Int), BitVec.ofInt (64 : Nat) (0 : Int),
                      BitVec.ofInt (64 : Nat) (0 : Int), BitVec.ofInt (64 : Nat) (1 : Int),
                      BitVec.ofInt (64 : Nat) (0 : Int), BitVec.ofInt (64 : Nat) (0 : Int),
                      BitVec.ofInt (64 : Nat) (0 : Int), BitVec.ofInt (64 : Nat) (2 : Int)].getD
                  ((0 : Nat) +
                      (w / BitVec.ofInt (8 : Nat) (9 : Int) % BitVec.ofInt (8 : Nat) (3 : Int)).toNat * (4 : Nat) +
                    (1 : Nat))
                  (OfNat.ofNat (0 : Nat)))
                ([BitVec.ofInt (64 : Nat) (0 : Int), BitVec.ofInt (64 : Nat) (0 : Int),
                      BitVec.ofInt (64 : Nat) (0 : Int), BitVec.ofInt (64 : Nat) (0 : Int),
                      BitVec.ofInt (64 : Nat) (0 : Int), BitVec.ofInt (64 : Nat) (0 : Int),
                      BitVec.ofInt (64 : Nat) (0 : Int), BitVec.ofInt (64 : Nat) (1 : Int),
                      BitVec.ofInt (64 : Nat) (0 : Int), BitVec.ofInt (64 : Nat) (0 : Int),
                      BitVec.ofInt (64 : Nat) (0 : Int), BitVec.ofInt (64 : Nat) (2 : Int)].getD
                  ((0 : Nat) +
                        (w / BitVec.ofInt (8 : Nat) (9 : Int) % BitVec.ofInt (8 : Nat) (3 : Int)).toNat * (4 : Nat) +
                      (1 : Nat) +
                    (1 : Nat))
                  (OfNat.ofNat (0 : Nat)))
                ([BitVec.ofInt (64 : Nat) (0 : Int), BitVec.ofInt (64 : Nat) (0 : Int),
                      BitVec.ofInt (64 : Nat) (0 : Int), BitVec.ofInt (64 : Nat) (0 : Int),
                      BitVec.ofInt (64 : Nat) (0 : Int), BitVec.ofInt (64 : Nat) (0 : Int),
                      BitVec.ofInt (64 : Nat) (0 : Int), BitVec.ofInt (64 : Nat) (1 : Int),
                      BitVec.ofInt (64 : Nat) (0 : Int), BitVec.ofInt (64 : Nat) (0 : Int),
                      BitVec.ofInt (64 : Nat) (0 : Int), BitVec.ofInt (64 : Nat) (2 : Int)].getD
                  ((0 : Nat) +
                          (w / BitVec.ofInt (8 : Nat) (9 : Int) % BitVec.ofInt (8 : Nat) (3 : Int)).toNat * (4 : Nat) +
                        (1 : Nat) +
                      (1 : Nat) +
                    (1 : Nat))
                  (OfNat.ofNat (0 : Nat))))
              cold).fst ==
          (stC
              (W4.mk
                ([BitVec.ofInt (64 : Nat) (0 : Int), BitVec.ofInt (64 : Nat) (0 : Int),
                      BitVec.ofInt (64 : Nat) (0 : Int), BitVec.ofInt (64 : Nat) (0 : Int),
                      BitVec.ofInt (64 : Nat) (0 : Int), BitVec.ofInt (64 : Nat) (0 : Int),
                      BitVec.ofInt (64 : Nat) (0 : Int), BitVec.ofInt (64 : Nat) (1 : Int),
                      BitVec.ofInt (64 : Nat) (0 : Int), BitVec.ofInt (64 : Nat) (0 : Int),
                      BitVec.ofInt (64 : Nat) (0 : Int), BitVec.ofInt (64 : Nat) (2 : Int)].getD
                  ((0 : Nat) + (w % BitVec.ofInt (8 : Nat) (3 : Int)).toNat * (4 : Nat)) (OfNat.ofNat (0 : Nat)))
                ([BitVec.ofInt (64 : Nat) (0 : Int), BitVec.ofInt (64 : Nat) (0 : Int),
                      BitVec.ofInt (64 : Nat) (0 : Int), BitVec.ofInt (64 : Nat) (0 : Int),
                      BitVec.ofInt (64 : Nat) (0 : Int), BitVec.ofInt (64 : Nat) (0 : Int),
                      BitVec.ofInt (64 : Nat) (0 : Int), BitVec.ofInt (64 : Nat) (1 : Int),
                      BitVec.ofInt (64 : Nat) (0 : Int), BitVec.ofInt (64 : Nat) (0 : Int),
                      BitVec.ofInt (64 : Nat) (0 : Int), BitVec.ofInt (64 : Nat) (2 : Int)].getD
                  ((0 : Nat) + (w % BitVec.ofInt (8 : Nat) (3 : Int)).toNat * (4 : Nat) + (1 : Nat))
                  (OfNat.ofNat (0 : Nat)))
                ([BitVec.ofInt (64 : Nat) (0 : Int), BitVec.ofInt (64 : Nat) (0 : Int),
                      BitVec.ofInt (64 : Nat) (0 : Int), BitVec.ofInt (64 : Nat) (0 : Int),
                      BitVec.ofInt (64 : Nat) (0 : Int), BitVec.ofInt (64 : Nat) (0 : Int),
                      BitVec.ofInt (64 : Nat) (0 : Int), BitVec.ofInt (64 : Nat) (1 : Int),
                      BitVec.ofInt (64 : Nat) (0 : Int), BitVec.ofInt (64 : Nat) (0 : Int),
                      BitVec.ofInt (64 : Nat) (0 : Int), BitVec.ofInt (64 : Nat) (2 : Int)].getD
                  ((0 : Nat) + (w % BitVec.ofInt (8 : Nat) (3 : Int)).toNat * (4 : Nat) + (1 : Nat) + (1 : Nat))
                  (OfNat.ofNat (0 : Nat)))
                ([BitVec.ofInt (64 : Nat) (0 : Int), BitVec.ofInt (64 : Nat) (0 : Int),
                      BitVec.ofInt (64 : Nat) (0 : Int), BitVec.ofInt (64 : Nat) (0 : Int),
                      BitVec.ofInt (64 : Nat) (0 : Int), BitVec.ofInt (64 : Nat) (0 : Int),
                      BitVec.ofInt (64 : Nat) (0 : Int), BitVec.ofInt (64 : Nat) (1 : Int),
                      BitVec.ofInt (64 : Nat) (0 : Int), BitVec.ofInt (64 : Nat) (0 : Int),
                      BitVec.ofInt (64 : Nat) (0 : Int), BitVec.ofInt (64 : Nat) (2 : Int)].getD
                  ((0 : Nat) + (w % BitVec.ofInt (8 : Nat) (3 : Int)).toNat * (4 : Nat) + (1 : Nat) + (1 : Nat) +
                    (1 : Nat))
                  (OfNat.ofNat (0 : Nat))))
              (W4.mk
                ([BitVec.ofInt (64 : Nat) (0 : Int), BitVec.ofInt (64 : Nat) (0 : Int),
                      BitVec.ofInt (64 : Nat) (0 : Int), BitVec.ofInt (64 : Nat) (0 : Int),
                      BitVec.ofInt (64 : Nat) (0 : Int), BitVec.ofInt (64 : Nat) (0 : Int),
                      BitVec.ofInt (64 : Nat) (0 : Int), BitVec.ofInt (64 : Nat) (1 : Int),
                      BitVec.ofInt (64 : Nat) (0 : Int), BitVec.ofInt (64 : Nat) (0 : Int),
                      BitVec.ofInt (64 : Nat) (0 : Int), BitVec.ofInt (64 : Nat) (2 : Int)].getD
                  ((0 : Nat) +
                    (w / BitVec.ofInt (8 : Nat) (3 : Int) % BitVec.ofInt (8 : Nat) (3 : Int)).toNat * (4 : Nat))
                  (OfNat.ofNat (0 : Nat)))
                ([BitVec.ofInt (64 : Nat) (0 : Int), BitVec.ofInt (64 : Nat) (0 : Int),
                      BitVec.ofInt (64 : Nat) (0 : Int), BitVec.ofInt (64 : Nat) (0 : Int),
                      BitVec.ofInt (64 : Nat) (0 : Int), BitVec.ofInt (64 : Nat) (0 : Int),
                      BitVec.ofInt (64 : Nat) (0 : Int), BitVec.ofInt (64 : Nat) (1 : Int),
                      BitVec.ofInt (64 : Nat) (0 : Int), BitVec.ofInt (64 : Nat) (0 : Int),
                      BitVec.ofInt (64 : Nat) (0 : Int), BitVec.ofInt (64 : Nat) (2 : Int)].getD
                  ((0 : Nat) +
                      (w / BitVec.ofInt (8 : Nat) (3 : Int) % BitVec.ofInt (8 : Nat) (3 : Int)).toNat * (4 : Nat) +
                    (1 : Nat))
                  (OfNat.ofNat (0 : Nat)))
                ([BitVec.ofInt (64 : Nat) (0 : Int), BitVec.ofInt (64 : Nat) (0 : Int),
                      BitVec.ofInt (64 : Nat) (0 : Int), BitVec.ofInt (64 : Nat) (0 : Int),
                      BitVec.ofInt (64 : Nat) (0 : Int), BitVec.ofInt (64 : Nat) (0 : Int),
                      BitVec.ofInt (64 : Nat) (0 : Int), BitVec.ofInt (64 : Nat) (1 : Int),
                      BitVec.ofInt (64 : Nat) (0 : Int), BitVec.ofInt (64 : Nat) (0 : Int),
                      BitVec.ofInt (64 : Nat) (0 : Int), BitVec.ofInt (64 : Nat) (2 : Int)].getD
                  ((0 : Nat) +
                        (w / BitVec.ofInt (8 : Nat) (3 : Int) % BitVec.ofInt (8 : Nat) (3 : Int)).toNat * (4 : Nat) +
                      (1 : Nat) +
                    (1 : Nat))
                  (OfNat.ofNat (0 : Nat)))
                ([BitVec.ofInt (64 : Nat) (0 : Int), BitVec.ofInt (64 : Nat) (0 : Int),
                      BitVec.ofInt (64 : Nat) (0 : Int), BitVec.ofInt (64 : Nat) (0 : Int),
                      BitVec.ofInt (64 : Nat) (0 : Int), BitVec.ofInt (64 : Nat) (0 : Int),
                      BitVec.ofInt (64 : Nat) (0 : Int), BitVec.ofInt (64 : Nat) (1 : Int),
                      BitVec.ofInt (64 : Nat) (0 : Int), BitVec.ofInt (64 : Nat) (0 : Int),
                      BitVec.ofInt (64 : Nat) (0 : Int), BitVec.ofInt (64 : Nat) (2 : Int)].getD
                  ((0 : Nat) +
                          (w / BitVec.ofInt (8 : Nat) (3 : Int) % BitVec.ofInt (8 : Nat) (3 : Int)).toNat * (4 : Nat) +
                        (1 : Nat) +
                      (1 : Nat) +
                    (1 : Nat))
                  (OfNat.ofNat (0 : Nat))))
              (W4.mk
                ([BitVec.ofInt (64 : Nat) (0 : Int), BitVec.ofInt (64 : Nat) (0 : Int),
                      BitVec.ofInt (64 : Nat) (0 : Int), BitVec.ofInt (64 : Nat) (0 : Int),
                      BitVec.ofInt (64 : Nat) (0 : Int), BitVec.ofInt (64 : Nat) (0 : Int),
                      BitVec.ofInt (64 : Nat) (0 : Int), BitVec.ofInt (64 : Nat) (1 : Int),
                      BitVec.ofInt (64 : Nat) (0 : Int), BitVec.ofInt (64 : Nat) (0 : Int),
                      BitVec.ofInt (64 : Nat) (0 : Int), BitVec.ofInt (64 : Nat) (2 : Int)].getD
                  ((0 : Nat) +
                    (w / BitVec.ofInt (8 : Nat) (9 : Int) % BitVec.ofInt (8 : Nat) (3 : Int)).toNat * (4 : Nat))
                  (OfNat.ofNat (0 : Nat)))
                ([BitVec.ofInt (64 : Nat) (0 : Int), BitVec.ofInt (64 : Nat) (0 : Int),
                      BitVec.ofInt (64 : Nat) (0 : Int), BitVec.ofInt (64 : Nat) (0 : Int),
                      BitVec.ofInt (64 : Nat) (0 : Int), BitVec.ofInt (64 : Nat) (0 : Int),
                      BitVec.ofInt (64 : Nat) (0 : Int), BitVec.ofInt (64 : Nat) (1 : Int),
                      BitVec.ofInt (64 : Nat) (0 : Int), BitVec.ofInt (64 : Nat) (0 : Int),
                      BitVec.ofInt (64 : Nat) (0 : Int), BitVec.ofInt (64 : Nat) (2 : Int)].getD
                  ((0 : Nat) +
                      (w / BitVec.ofInt (8 : Nat) (9 : Int) % BitVec.ofInt (8 : Nat) (3 : Int)).toNat * (4 : Nat) +
                    (1 : Nat))
                  (OfNat.ofNat (0 : Nat)))
                ([BitVec.ofInt (64 : Nat) (0 : Int), BitVec.ofInt (64 : Nat) (0 : Int),
                      BitVec.ofInt (64 : Nat) (0 : Int), BitVec.ofInt (64 : Nat) (0 : Int),
                      BitVec.ofInt (64 : Nat) (0 : Int), BitVec.ofInt (64 : Nat) (0 : Int),
                      BitVec.ofInt (64 : Nat) (0 : Int), BitVec.ofInt (64 : Nat) (1 : Int),
                      BitVec.ofInt (64 : Nat) (0 : Int), BitVec.ofInt (64 : Nat) (0 : Int),
                      BitVec.ofInt (64 : Nat) (0 : Int), BitVec.ofInt (64 : Nat) (2 : Int)].getD
                  ((0 : Nat) +
                        (w / BitVec.ofInt (8 : Nat) (9 : Int) % BitVec.ofInt (8 : Nat) (3 : Int)).toNat * (4 : Nat) +
                      (1 : Nat) +
                    (1 : Nat))
                  (OfNat.ofNat (0 : Nat)))
                ([BitVec.ofInt (64 : Nat) (0 : Int), BitVec.ofInt (64 : Nat) (0 : Int),
                      BitVec.ofInt (64 : Nat) (0 : Int), BitVec.ofInt (64 : Nat) (0 : Int),
                      BitVec.ofInt (64 : Nat) (0 : Int), BitVec.ofInt (64 : Nat) (0 : Int),
                      BitVec.ofInt (64 : Nat) (0 : Int), BitVec.ofInt (64 : Nat) (1 : Int),
                      BitVec.ofInt (64 : Nat) (0 : Int), BitVec.ofInt (64 : Nat) (0 : Int),
                      BitVec.ofInt (64 : Nat) (0 : Int), BitVec.ofInt (64 : Nat) (2 : Int)].getD
                  ((0 : Nat) +
                          (w / BitVec.ofInt (8 : Nat) (9 : Int) % BitVec.ofInt (8 : Nat) (3 : Int)).toNat * (4 : Nat) +
                        (1 : Nat) +
                      (1 : Nat) +
                    (1 : Nat))
                  (OfNat.ofNat (0 : Nat))))
              cold).fst)
        (Tr.chk true
          (Tr.br
            ((stC
                  (W4.mk
                    ([BitVec.ofInt (64 : Nat) (0 : Int), BitVec.ofInt (64 : Nat) (0 : Int),
                          BitVec.ofInt (64 : Nat) (0 : Int), BitVec.ofInt (64 : Nat) (0 : Int),
                          BitVec.ofInt (64 : Nat) (0 : Int), BitVec.ofInt (64 : Nat) (0 : Int),
                          BitVec.ofInt (64 : Nat) (0 : Int), BitVec.ofInt (64 : Nat) (1 : Int),
                          BitVec.ofInt (64 : Nat) (0 : Int), BitVec.ofInt (64 : Nat) (0 : Int),
                          BitVec.ofInt (64 : Nat) (0 : Int), BitVec.ofInt (64 : Nat) (2 : Int)].getD
                      ((0 : Nat) + (w % BitVec.ofInt (8 : Nat) (3 : Int)).toNat * (4 : Nat)) (OfNat.ofNat (0 : Nat)))
                    ([BitVec.ofInt (64 : Nat) (0 : Int), BitVec.ofInt (64 : Nat) (0 : Int),
                          BitVec.ofInt (64 : Nat) (0 : Int), BitVec.ofInt (64 : Nat) (0 : Int),
                          BitVec.ofInt (64 : Nat) (0 : Int), BitVec.ofInt (64 : Nat) (0 : Int),
                          BitVec.ofInt (64 : Nat) (0 : Int), BitVec.ofInt (64 : Nat) (1 : Int),
                          BitVec.ofInt (64 : Nat) (0 : Int), BitVec.ofInt (64 : Nat) (0 : Int),
                          BitVec.ofInt (64 : Nat) (0 : Int), BitVec.ofInt (64 : Nat) (2 : Int)].getD
                      ((0 : Nat) + (w % BitVec.ofInt (8 : Nat) (3 : Int)).toNat * (4 : Nat) + (1 : Nat))
                      (OfNat.ofNat (0 : Nat)))
                    ([BitVec.ofInt (64 : Nat) (0 : Int), BitVec.ofInt (64 : Nat) (0 : Int),
                          BitVec.ofInt (64 : Nat) (0 : Int), BitVec.ofInt (64 : Nat) (0 : Int),
                          BitVec.ofInt (64 : Nat) (0 : Int), BitVec.ofInt (64 : Nat) (0 : Int),
                          BitVec.ofInt (64 : Nat) (0 : Int), BitVec.ofInt (64 : Nat) (1 : Int),
                          BitVec.ofInt (64 : Nat) (0 : Int), BitVec.ofInt (64 : Nat) (0 : Int),
                          BitVec.ofInt (64 : Nat) (0 : Int), BitVec.ofInt (64 : Nat) (2 : Int)].getD
                      ((0 : Nat) + (w % BitVec.ofInt (8 : Nat) (3 : Int)).toNat * (4 : Nat) + (1 : Nat) + (1 : Nat))
                      (OfNat.ofNat (0 : Nat)))
                    ([BitVec.ofInt (64 : Nat) (0 : Int), BitVec.ofInt (64 : Nat) (0 : Int),
                          BitVec.ofInt (64 : Nat) (0 : Int), BitVec.ofInt (64 : Nat) (0 : Int),
                          BitVec.ofInt (64 : Nat) (0 : Int), BitVec.ofInt (64 : Nat) (0 : Int),
                          BitVec.ofInt (64 : Nat) (0 : Int), BitVec.ofInt (64 : Nat) (1 : Int),
                          BitVec.ofInt (64 : Nat) (0 : Int), BitVec.ofInt (64 : Nat) (0 : Int),
                          BitVec.ofInt (64 : Nat) (0 : Int), BitVec.ofInt (64 : Nat) (2 : Int)].getD
                      ((0 : Nat) + (w % BitVec.ofInt (8 : Nat) (3 : Int)).toNat * (4 : Nat) + (1 : Nat) + (1 : Nat) +
                        (1 : Nat))
                      (OfNat.ofNat (0 : Nat))))
                  (W4.mk
                    ([BitVec.ofInt (64 : Nat) (0 : Int), BitVec.ofInt (64 : Nat) (0 : Int),
                          BitVec.ofInt (64 : Nat) (0 : Int), BitVec.ofInt (64 : Nat) (0 : Int),
                          BitVec.ofInt (64 : Nat) (0 : Int), BitVec.ofInt (64 : Nat) (0 : Int),
                          BitVec.ofInt (64 : Nat) (0 : Int), BitVec.ofInt (64 : Nat) (1 : Int),
                          BitVec.ofInt (64 : Nat) (0 : Int), BitVec.ofInt (64 : Nat) (0 : Int),
                          BitVec.ofInt (64 : Nat) (0 : Int), BitVec.ofInt (64 : Nat) (2 : Int)].getD
                      ((0 : Nat) +
                        (w / BitVec.ofInt (8 : Nat) (3 : Int) % BitVec.ofInt (8 : Nat) (3 : Int)).toNat * (4 : Nat))
                      (OfNat.ofNat (0 : Nat)))
                    ([BitVec.ofInt (64 : Nat) (0 : Int), BitVec.ofInt (64 : Nat) (0 : Int),
                          BitVec.ofInt (64 : Nat) (0 : Int), BitVec.ofInt (64 : Nat) (0 : Int),
                          BitVec.ofInt (64 : Nat) (0 : Int), BitVec.ofInt (64 : Nat) (0 : Int),
                          BitVec.ofInt (64 : Nat) (0 : Int), BitVec.ofInt (64 : Nat) (1 : Int),
                          BitVec.ofInt (64 : Nat) (0 : Int), BitVec.ofInt (64 : Nat) (0 : Int),
                          BitVec.ofInt (64 : Nat) (0 : Int), BitVec.ofInt (64 : Nat) (2 : Int)].getD
                      ((0 : Nat) +
                          (w / BitVec.ofInt (8 : Nat) (3 : Int) % BitVec.ofInt (8 : Nat) (3 : Int)).toNat * (4 : Nat) +
                        (1 : Nat))
                      (OfNat.ofNat (0 : Nat)))
                    ([BitVec.ofInt (64 : Nat) (0 : Int), BitVec.ofInt (64 : Nat) (0 : Int),
                          BitVec.ofInt (64 : Nat) (0 : Int), BitVec.ofInt (64 : Nat) (0 : Int),
                          BitVec.ofInt (64 : Nat) (0 : Int), BitVec.ofInt (64 : Nat) (0 : Int),
                          BitVec.ofInt (64 : Nat) (0 : Int), BitVec.ofInt (64 : Nat) (1 : Int),
                          BitVec.ofInt (64 : Nat) (0 : Int), BitVec.ofInt (64 : Nat) (0 : Int),
                          BitVec.ofInt (64 : Nat) (0 : Int), BitVec.ofInt (64 : Nat) (2 : Int)].getD
                      ((0 : Nat) +
                            (w / BitVec.ofInt (8 : Nat) (3 : Int) % BitVec.ofInt (8 : Nat) (3 : Int)).toNat *
                              (4 : Nat) +
                          (1 : Nat) +
                        (1 : Nat))
                      (OfNat.ofNat (0 : Nat)))
                    ([BitVec.ofInt (64 : Nat) (0 : Int), BitVec.ofInt (64 : Nat) (0 : Int),
                          BitVec.ofInt (64 : Nat) (0 : Int), BitVec.ofInt (64 : Nat) (0 : Int),
                          BitVec.ofInt (64 : Nat) (0 : Int), BitVec.ofInt (64 : Nat) (0 : Int),
                          BitVec.ofInt (64 : Nat) (0 : Int), BitVec.ofInt (64 : Nat) (1 : Int),
                          BitVec.ofInt (64 : Nat) (0 : Int), BitVec.ofInt (64 : Nat) (0 : Int),
                          BitVec.ofInt (64 : Nat) (0 : Int), BitVec.ofInt (64 : Nat) (2 : Int)].getD
                      ((0 : Nat) +
                              (w / BitVec.ofInt (8 : Nat) (3 : Int) % BitVec.ofInt (8 : Nat) (3 : Int)).toNat *
                                (4 : Nat) +
                            (1 : Nat) +
                          (1 : Nat) +
                        (1 : Nat))
                      (OfNat.ofNat (0 : Nat))))
                  (W4.mk
                    ([BitVec.ofInt (64 : Nat) (0 : Int), BitVec.ofInt (64 : Nat) (0 : Int),
                          BitVec.ofInt (64 : Nat) (0 : Int), BitVec.ofInt (64 : Nat) (0 : Int),
                          BitVec.ofInt (64 : Nat) (0 : Int), BitVec.ofInt (64 : Nat) (0 : Int),
                          BitVec.ofInt (64 : Nat) (0 : Int), BitVec.ofInt (64 : Nat) (1 : Int),
                          BitVec.ofInt (64 : Nat) (0 : Int), BitVec.ofInt (64 : Nat) (0 : Int),
                          BitVec.ofInt (64 : Nat) (0 : Int), BitVec.ofInt (64 : Nat) (2 : Int)].getD
                      ((0 : Nat) +
                        (w / BitVec.ofInt (8 : Nat) (9 : Int) % BitVec.ofInt (8 : Nat) (3 : Int)).toNat * (4 : Nat))
                      (OfNat.ofNat (0 : Nat)))
                    ([BitVec.ofInt (64 : Nat) (0 : Int), BitVec.ofInt (64 : Nat) (0 : Int),
                          BitVec.ofInt (64 : Nat) (0 : Int), BitVec.ofInt (64 : Nat) (0 : Int),
                          BitVec.ofInt (64 : Nat) (0 : Int), BitVec.ofInt (64 : Nat) (0 : Int),
                          BitVec.ofInt (64 : Nat) (0 : Int), BitVec.ofInt (64 : Nat) (1 : Int),
                          BitVec.ofInt (64 : Nat) (0 : Int), BitVec.ofInt (64 : Nat) (0 : Int),
                          BitVec.ofInt (64 : Nat) (0 : Int), BitVec.ofInt (64 : Nat) (2 : Int)].getD
                      ((0 : Nat) +
                          (w / BitVec.ofInt (8 : Nat) (9 : Int) % BitVec.ofInt (8 : Nat) (3 : Int)).toNat * (4 : Nat) +
                        (1 : Nat))
                      (OfNat.ofNat (0 : Nat)))
                    ([BitVec.ofInt (64 : Nat) (0 : Int), BitVec.ofInt (64 : Nat) (0 : Int),
                          BitVec.ofInt (64 : Nat) (0 : Int), BitVec.ofInt (64 : Nat) (0 : Int),
                          BitVec.ofInt (64 : Nat) (0 : Int), BitVec.ofInt (64 : Nat) (0 : Int),
                          BitVec.ofInt (64 : Nat) (0 : Int), BitVec.ofInt (64 : Nat) (1 : Int),
                          BitVec.ofInt (64 : Nat) (0 : Int), BitVec.ofInt (64 : Nat) (0 : Int),
                          BitVec.ofInt (64 : Nat) (0 : Int), BitVec.ofInt (64 : Nat) (2 : Int)].getD
                      ((0 : Nat) +
                            (w / BitVec.ofInt (8 : Nat) (9 : Int) % BitVec.ofInt (8 : Nat) (3 : Int)).toNat *
                              (4 : Nat) +
                          (1 : Nat) +
                        (1 : Nat))
                      (OfNat.ofNat (0 : Nat)))
                    ([BitVec.ofInt (64 : Nat) (0 : Int), BitVec.ofInt (64 : Nat) (0 : Int),
                          BitVec.ofInt (64 : Nat) (0 : Int), BitVec.ofInt (64 : Nat) (0 : Int),
                          BitVec.ofInt (64 : Nat) (0 : Int), BitVec.ofInt (64 : Nat) (0 : Int),
                          BitVec.ofInt (64 : Nat) (0 : Int), BitVec.ofInt (64 : Nat) (1 : Int),
                          BitVec.ofInt (64 : Nat) (0 : Int), BitVec.ofInt (64 : Nat) (0 : Int),
                          BitVec.ofInt (64 : Nat) (0 : Int), BitVec.ofInt (64 : Nat) (2 : Int)].getD
                      ((0 : Nat) +
                              (w / BitVec.ofInt (8 : Nat) (9 : Int) % BitVec.ofInt (8 : Nat) (3 : Int)).toNat *
                                (4 : Nat) +
                            (1 : Nat) +
                          (1 : Nat) +
                        (1 : Nat))
                      (OfNat.ofNat (0 : Nat))))
                  cold).snd ==
              (stC
                  (W4.mk
                    ([BitVec.ofInt (64 : Nat) (0 : Int), BitVec.ofInt (64 : Nat) (0 : Int),
                          BitVec.ofInt (64 : Nat) (0 : Int), BitVec.ofInt (64 : Nat) (0 : Int),
                          BitVec.ofInt (64 : Nat) (0 : Int), BitVec.ofInt (64 : Nat) (0 : Int),
                          BitVec.ofInt (64 : Nat) (0 : Int), BitVec.ofInt (64 : Nat) (1 : Int),
                          BitVec.ofInt (64 : Nat) (0 : Int), BitVec.ofInt (64 : Nat) (0 : Int),
                          BitVec.ofInt (64 : Nat) (0 : Int), BitVec.ofInt (64 : Nat) (2 : Int)].getD
                      ((0 : Nat) + (w % BitVec.ofInt (8 : Nat) (3 : Int)).toNat * (4 : Nat)) (OfNat.ofNat (0 : Nat)))
                    ([BitVec.ofInt (64 : Nat) (0 : Int), BitVec.ofInt (64 : Nat) (0 : Int),
                          BitVec.ofInt (64 : Nat) (0 : Int), BitVec.ofInt (64 : Nat) (0 : Int),
                          BitVec.ofInt (64 : Nat) (0 : Int), BitVec.ofInt (64 : Nat) (0 : Int),
                          BitVec.ofInt (64 : Nat) (0 : Int), BitVec.ofInt (64 : Nat) (1 : Int),
                          BitVec.ofInt (64 : Nat) (0 : Int), BitVec.ofInt (64 : Nat) (0 : Int),
                          BitVec.ofInt (64 : Nat) (0 : Int), BitVec.ofInt (64 : Nat) (2 : Int)].getD
                      ((0 : Nat) + (w % BitVec.ofInt (8 : Nat) (3 : Int)).toNat * (4 : Nat) + (1 : Nat))
                      (OfNat.ofNat (0 : Nat)))
                    ([BitVec.ofInt (64 : Nat) (0 : Int), BitVec.ofInt (64 : Nat) (0 : Int),
                          BitVec.ofInt (64 : Nat) (0 : Int), BitVec.ofInt (64 : Nat) (0 : Int),
                          BitVec.ofInt (64 : Nat) (0 : Int), BitVec.ofInt (64 : Nat) (0 : Int),
                          BitVec.ofInt (64 : Nat) (0 : Int), BitVec.ofInt (64 : Nat) (1 : Int),
                          BitVec.ofInt (64 : Nat) (0 : Int), BitVec.ofInt (64 : Nat) (0 : Int),
                          BitVec.ofInt (64 : Nat) (0 : Int), BitVec.ofInt (64 : Nat) (2 : Int)].getD
                      ((0 : Nat) + (w % BitVec.ofInt (8 : Nat) (3 : Int)).toNat * (4 : Nat) + (1 : Nat) + (1 : Nat))
                      (OfNat.ofNat (0 : Nat)))
                    ([BitVec.ofInt (64 : Nat) (0 : Int), BitVec.ofInt (64 : Nat) (0 : Int),
                          BitVec.ofInt (64 : Nat) (0 : Int), BitVec.ofInt (64 : Nat) (0 : Int),
                          BitVec.ofInt (64 : Nat) (0 : Int), BitVec.ofInt (64 : Nat) (0 : Int),
                          BitVec.ofInt (64 : Nat) (0 : Int), BitVec.ofInt (64 : Nat) (1 : Int),
                          BitVec.ofInt (64 : Nat) (0 : Int), BitVec.ofInt (64 : Nat) (0 : Int),
                          BitVec.ofInt (64 : Nat) (0 : Int), BitVec.ofInt (64 : Nat) (2 : Int)].getD
                      ((0 : Nat) + (w % BitVec.ofInt (8 : Nat) (3 : Int)).toNat * (4 : Nat) + (1 : Nat) + (1 : Nat) +
                        (1 : Nat))
                      (OfNat.ofNat (0 : Nat))))
                  (W4.mk
                    ([BitVec.ofInt (64 : Nat) (0 : Int), BitVec.ofInt (64 : Nat) (0 : Int),
                          BitVec.ofInt (64 : Nat) (0 : Int), BitVec.ofInt (64 : Nat) (0 : Int),
                          BitVec.ofInt (64 : Nat) (0 : Int), BitVec.ofInt (64 : Nat) (0 : Int),
                          BitVec.ofInt (64 : Nat) (0 : Int), BitVec.ofInt (64 : Nat) (1 : Int),
                          BitVec.ofInt (64 : Nat) (0 : Int), BitVec.ofInt (64 : Nat) (0 : Int),
                          BitVec.ofInt (64 : Nat) (0 : Int), BitVec.ofInt (64 : Nat) (2 : Int)].getD
                      ((0 : Nat) +
                        (w / BitVec.ofInt (8 : Nat) (3 : Int) % BitVec.ofInt (8 : Nat) (3 : Int)).toNat * (4 : Nat))
                      (OfNat.ofNat (0 : Nat)))
                    ([BitVec.ofInt (64 : Nat) (0 : Int), BitVec.ofInt (64 : Nat) (0 : Int),
                          BitVec.ofInt (64 : Nat) (0 : Int), BitVec.ofInt (64 : Nat) (0 : Int),
                          BitVec.ofInt (64 : Nat) (0 : Int), BitVec.ofInt (64 : Nat) (0 : Int),
                          BitVec.ofInt (64 : Nat) (0 : Int), BitVec.ofInt (64 : Nat) (1 : Int),
                          BitVec.ofInt (64 : Nat) (0 : Int), BitVec.ofInt (64 : Nat) (0 : Int),
                          BitVec.ofInt (64 : Nat) (0 : Int), BitVec.ofInt (64 : Nat) (2 : Int)].getD
                      ((0 : Nat) +
                          (w / BitVec.ofInt (8 : Nat) (3 : Int) % BitVec.ofInt (8 : Nat) (3 : Int)).toNat * (4 : Nat) +
                        (1 : Nat))
                      (OfNat.ofNat (0 : Nat)))
                    ([BitVec.ofInt (64 : Nat) (0 : Int), BitVec.ofInt (64 : Nat) (0 : Int),
                          BitVec.ofInt (64 : Nat) (0 : Int), BitVec.ofInt (64 : Nat) (0 : Int),
                          BitVec.ofInt (64 : Nat) (0 : Int), BitVec.ofInt (64 : Nat) (0 : Int),
                          BitVec.ofInt (64 : Nat) (0 : Int), BitVec.ofInt (64 : Nat) (1 : Int),
                          BitVec.ofInt (64 : Nat) (0 : Int), BitVec.ofInt (64 : Nat) (0 : Int),
                          BitVec.ofInt (64 : Nat) (0 : Int), BitVec.ofInt (64 : Nat) (2 : Int)].getD
                      ((0 : Nat) +
                            (w / BitVec.ofInt (8 : Nat) (3 : Int) % BitVec.ofInt (8 : Nat) (3 : Int)).toNat *
                              (4 : Nat) +
                          (1 : Nat) +
                        (1 : Nat))
                      (OfNat.ofNat (0 : Nat)))
                    ([BitVec.ofInt (64 : Nat) (0 : Int), BitVec.ofInt (64 : Nat) (0 : Int),
                          BitVec.ofInt (64 : Nat) (0 : Int), BitVec.ofInt (64 : Nat) (0 : Int),
                          BitVec.ofInt (64 : Nat) (0 : Int), BitVec.ofInt (64 : Nat) (0 : Int),
                          BitVec.ofInt (64 : Nat) (0 : Int), BitVec.ofInt (64 : Nat) (1 : Int),
                          BitVec.ofInt (64 : Nat) (0 : Int), BitVec.ofInt (64 : Nat) (0 : Int),
                          BitVec.ofInt (64 : Nat) (0 : Int), BitVec.ofInt (64 : Nat) (2 : Int)].getD
                      ((0 : Nat) +
                              (w / BitVec.ofInt (8 : Nat) (3 : Int) % BitVec.ofInt (8 : Nat) (3 : Int)).toNat *
                                (4 : Nat) +
                            (1 : Nat) +
                          (1 : Nat) +
                        (1 : Nat))
                      (OfNat.ofNat (0 : Nat))))
                  (W4.mk
                    ([BitVec.ofInt (64 : Nat) (0 : Int), BitVec.ofInt (64 : Nat) (0 : Int),
                          BitVec.ofInt (64 : Nat) (0 : Int), BitVec.ofInt (64 : Nat) (0 : Int),
                          BitVec.ofInt (64 : Nat) (0 : Int), BitVec.ofInt (64 : Nat) (0 : Int),
                          BitVec.ofInt (64 : Nat) (0 : Int), BitVec.ofInt (64 : Nat) (1 : Int),
                          BitVec.ofInt (64 : Nat) (0 : Int), BitVec.ofInt (64 : Nat) (0 : Int),
                          BitVec.ofInt (64 : Nat) (0 : Int), BitVec.ofInt (64 : Nat) (2 : Int)].getD
                      ((0 : Nat) +
                        (w / BitVec.ofInt (8 : Nat) (9 : Int) % BitVec.ofInt (8 : Nat) (3 : Int)).toNat * (4 : Nat))
                      (OfNat.ofNat (0 : Nat)))
                    ([BitVec.ofInt (64 : Nat) (0 : Int), BitVec.ofInt (64 : Nat) (0 : Int),
                          BitVec.ofInt (64 : Nat) (0 : Int), BitVec.ofInt (64 : Nat) (0 : Int),
                          BitVec.ofInt (64 : Nat) (0 : Int), BitVec.ofInt (64 : Nat) (0 : Int),
                          BitVec.ofInt (64 : Nat) (0 : Int), BitVec.ofInt (64 : Nat) (1 : Int),
                          BitVec.ofInt (64 : Nat) (0 : Int), BitVec.ofInt (64 : Nat) (0 : Int),
                          BitVec.ofInt (64 : Nat) (0 : Int), BitVec.ofInt (64 : Nat) (2 : Int)].getD
                      ((0 : Nat) +
                          (w / BitVec.ofInt (8 : Nat) (9 : Int) % BitVec.ofInt (8 : Nat) (3 : Int)).toNat * (4 : Nat) +
                        (1 : Nat))
                      (OfNat.ofNat (0 : Nat)))
                    ([BitVec.ofInt (64 : Nat) (0 : Int), BitVec.ofInt (64 : Nat) (0 : Int),
                          BitVec.ofInt (64 : Nat) (0 : Int), BitVec.ofInt (64 : Nat) (0 : Int),
                          BitVec.ofInt (64 : Nat) (0 : Int), BitVec.ofInt (64 : Nat) (0 : Int),
                          BitVec.ofInt (64 : Nat) (0 : Int), BitVec.ofInt (64 : Nat) (1 : Int),
                          BitVec.ofInt (64 : Nat) (0 : Int), BitVec.ofInt (64 : Nat) (0 : Int),
                          BitVec.ofInt (64 : Nat) (0 : Int), BitVec.ofInt (64 : Nat) (2 : Int)].getD
                      ((0 : Nat) +
                            (w / BitVec.ofInt (8 : Nat) (9 : Int) % BitVec.ofInt (8 : Nat) (3 : Int)).toNat *
                              (4 : Nat) +
                          (1 : Nat) +
                        (1 : Nat))
                      (OfNat.ofNat (0 : Nat)))
                    ([BitVec.ofInt (64 : Nat) (0 : Int), BitVec.ofInt (64 : Nat) (0 : Int),
                          BitVec.ofInt (64 : Nat) (0 : Int), BitVec.ofInt (64 : Nat) (0 : Int),
                          BitVec.ofInt (64 : Nat) (0 : Int), BitVec.ofInt (64 : Nat) (0 : Int),
                          BitVec.ofInt (64 : Nat) (0 : Int), BitVec.ofInt (64 : Nat) (1 : Int),
                          BitVec.ofInt (64 : Nat) (0 : Int), BitVec.ofInt (64 : Nat) (0 : Int),
                          BitVec.ofInt (64 : Nat) (0 : Int), BitVec.ofInt (64 : Nat) (2 : Int)].getD
                      ((0 : Nat) +
                              (w / BitVec.ofInt (8 : Nat) (9 : Int) % BitVec.ofInt (8 : Nat) (3 : Int)).toNat *
                                (4 : Nat) +
                            (1 : Nat) +
                          (1 : Nat) +
                        (1 : Nat))
                      (OfNat.ofNat (0 : Nat))))
                  cold).snd)
            (Tr.chk
              (isTx x
                  [V.int IntKind.i64 x.k, V.str x.s1, V.str x.s2, V.u64 x.n, V.u64 x.g, V.u64 x.p.a, V.u64 x.p.b,
                    V.u64 x.p.c, V.u64 x.p.d, V.u64 x.t.a, V.u64 x.t.b, V.u64 x.t.c, V.u64 x.t.d, V.u64 x.v.a,
                    V.u64 x.v.b, V.u64 x.v.c, V.u64 x.v.d, V.str x.d, V.isl (2 : Nat) x.ln (axF x.ax)] &&
                (isTx x
                    [V.int IntKind.i64 x.k, V.str x.s1, V.str x.s2, V.u64 x.n, V.u64 x.g, V.u64 x.p.a, V.u64 x.p.b,
                      V.u64 x.p.c, V.u64 x.p.d, V.u64 x.t.a, V.u64 x.t.b, V.u64 x.t.c, V.u64 x.t.d, V.u64 x.v.a,
                      V.u64 x.v.b, V.u64 x.v.c, V.u64 x.v.d, V.str x.d, V.isl (2 : Nat) x.ln (axF x.ax)] &&
                  true))
              (Tr.br (intC x == intC x)
                (Tr.chk (shortS x.d && true) (Tr.leaf (Fin.ret (V.bool (dC x.d == dC x.d)), [])))
                (Tr.chk true (Tr.leaf (Fin.ret (V.bool false), [])))))
            (Tr.chk true (Tr.leaf (Fin.ret (V.bool false), [])))))
        (Tr.chk true (Tr.leaf (Fin.ret (V.bool false), [])))))
    (Tr.chk true
      (Tr.br ((stC a b c cold).fst == (stC a b c cold).fst)
        (Tr.chk true
          (Tr.br ((stC a b c cold).snd == (stC a b c cold).snd)
            (Tr.chk
              (isTx x
                  [V.int IntKind.i64 x.k, V.str x.s1, V.str x.s2, V.u64 x.n, V.u64 x.g, V.u64 x.p.a, V.u64 x.p.b,
                    V.u64 x.p.c, V.u64 x.p.d, V.u64 x.t.a, V.u64 x.t.b, V.u64 x.t.c, V.u64 x.t.d, V.u64 x.v.a,
                    V.u64 x.v.b, V.u64 x.v.c, V.u64 x.v.d, V.str x.d, V.isl (2 : Nat) x.ln (axF x.ax)] &&
                (isTx x
                    [V.int IntKind.i64 x.k, V.str x.s1, V.str x.s2, V.u64 x.n, V.u64 x.g, V.u64 x.p.a, V.u64 x.p.b,
                      V.u64 x.p.c, V.u64 x.p.d, V.u64 x.t.a, V.u64 x.t.b, V.u64 x.t.c, V.u64 x.t.d, V.u64 x.v.a,
                      V.u64 x.v.b, V.u64 x.v.c, V.u64 x.v.d, V.str x.d, V.isl (2 : Nat) x.ln (axF x.ax)] &&
                  true))
              (Tr.br (intC x == intC x)
                (Tr.chk (shortS x.d && true) (Tr.leaf (Fin.ret (V.bool (dC x.d == dC x.d)), [])))
                (Tr.chk true (Tr.leaf (Fin.ret (V.bool false), [])))))
            (Tr.chk true (Tr.leaf (Fin.ret (V.bool false), [])))))
        (Tr.chk true (Tr.leaf (Fin.ret (V.bool false), [])))))) := by kernel_rfl
end
end Go.Proofs.Ytajbaocfdlopbaa.K
end
section
open Go Go.Lh
namespace Go.Proofs.Ytajbaocfdlopbaa.K
noncomputable section
set_option maxRecDepth 100000
theorem gasStores_fn (a b c : W4) (w : BitVec 8) (cold : Bool) (x : TX) (hl : x.ln < 9223372036854775808) (hd : x.d.length < 9223372036854775808) : LFn Pr 11 [a.v, b.v, c.v, .u8 w, .bool cold, .agg x.cs] [] (.ret (.bool true)) [] := by
  refine fnT (OX2_sound x) mixed (by kernel_rfl) LoopsOk.noneT (gst_x a b c w cold x) ?_
  have hx : ∀ cs, cs = x.cs → isTx x cs = true := fun cs h => isTx_iff.2 ⟨h, hl, hd⟩
  have hs := shortS_iff.2 hd
  have m3 : ∀ y : BitVec 8, (y % BitVec.ofInt 8 3).toNat < 3 := fun y => by
    rw [BitVec.toNat_umod]; exact Nat.mod_lt _ (by decide)
  have a1 := m3 w
  have a2 := m3 (w / BitVec.ofInt 8 3)
  have a3 := m3 (w / BitVec.ofInt 8 9)
  have q : ∀ n : Nat, n < 3 → (decide ((n : Int) < (3 : Int)) && (decide (0 + n * 4 + 4 ≤ 12) && true)) = true := fun n h => by
    rw [decide_eq_true (by omega), decide_eq_true (by omega)]; rfl
  rw [wp_chk_true, wp_br]
  refine ⟨fun _ => ?_, fun _ => ?_⟩
  · rw [q _ a1, q _ a2, q _ a3]
    simp only [hx _ rfl, hs, wp_chk_true, wp_chk, wp_leaf, wp_br, ret_bool, Bool.and_true, Bool.true_and, beq_self_eq_true, Bool.and_self, and_true, true_and, true_implies, Bool.true_eq_false, false_implies, implies_true]
    exact hx _ rfl
  · simp only [hx _ rfl, hs, wp_chk_true, wp_chk, wp_leaf, wp_br, ret_bool, Bool.and_true, Bool.true_and, beq_self_eq_true, Bool.and_self, and_true, true_and, true_implies, Bool.true_eq_false, false_implies, implies_true]
    exact hx _ rfl
section
variable {H : Type} {enc : TypeId × Value → H} {w : World}
theorem word_TR : ∀ {H : Type} {enc : TypeId × Value → H} {w : World},
  TR enc Pr w 0 (fun (x : Nat) => true) true 24
    (fun (p : BitVec 64 × BitVec 64 × BitVec 64 × BitVec 64 × Unit) =>
      [V.u64 p.fst] ++ ([V.u64 p.snd.fst] ++ ([V.u64 p.snd.snd.fst] ++ ([V.u64 p.snd.snd.snd.fst] ++ []))))
    fun (p : BitVec 64 × BitVec 64 × BitVec 64 × BitVec 64 × Unit) => True ∧ True ∧ True ∧ True ∧ True := by
  intro H enc w
  have h := TR.struct (enc := enc) (P := Pr) (w := w) (base := 0) (spare := fun _ => true) (held := true) (T := 4) Go.Proofs.Try.underlying24 (l := [_, _, _, _]) rfl (by kernel_rfl) (TRF.cons' 22 1 (by rfl) (by rfl) (by kernel_rfl) (TR.u64 (by kernel_rfl)) (TRF.cons' 22 1 (by rfl) (by rfl) (by kernel_rfl) (TR.u64 (by kernel_rfl)) (TRF.cons' 22 1 (by rfl) (by rfl) (by kernel_rfl) (TR.u64 (by kernel_rfl)) (TRF.cons' 22 1 (by rfl) (by rfl) (by kernel_rfl) (TR.u64 (by kernel_rfl)) (TRF.nil 4)))))
  exact h
theorem acc_TR : ∀ {H : Type} {enc : TypeId × Value → H} {w : World},
  TR enc Pr w 0 (fun (x : Nat) => true) true 74
    (fun (p : List (BitVec 8) × Nat × Unit) => [V.str p.fst] ++ ([V.isl 4 p.snd.fst fun (x x_1 : Nat) => V.any] ++ []))
    fun (p : List (BitVec 8) × Nat × Unit) =>
    p.fst.length < 9223372036854775808 ∧ p.snd.fst < 9223372036854775808 ∧ True := by
  intro H enc w
  have h := TR.struct (enc := enc) (P := Pr) (w := w) (base := 0) (spare := fun _ => true) (held := true) (T := 2) Go.Proofs.Try.underlying74 (l := [_, _]) rfl (by kernel_rfl) (TRF.cons' 9 1 (by rfl) (by rfl) (by kernel_rfl) (TR.str (by kernel_rfl)) (TRF.cons' 66 1 (by rfl) (by rfl) (by kernel_rfl) (TR.rows (e := 24) 4 (by kernel_rfl) (by kernel_rfl) (by decide) word_TR) (TRF.nil 2)))
  exact h
theorem tx_TR : ∀ {H : Type} {enc : TypeId × Value → H} {w : World},
  TR enc Pr w 0 (fun (x : Nat) => true) true 60
    (fun
        (p :
          Int ×
            List (BitVec 8) ×
              List (BitVec 8) ×
                BitVec 64 ×
                  BitVec 64 ×
                    (BitVec 64 × BitVec 64 × BitVec 64 × BitVec 64 × Unit) ×
                      (BitVec 64 × BitVec 64 × BitVec 64 × BitVec 64 × Unit) ×
                        (BitVec 64 × BitVec 64 × BitVec 64 × BitVec 64 × Unit) ×
                          List (BitVec 8) × (Nat × AX) × Unit) =>
      [V.int IntKind.i64 p.fst] ++
        ([V.str p.snd.fst] ++
          ([V.str p.snd.snd.fst] ++
            ([V.u64 p.snd.snd.snd.fst] ++
              ([V.u64 p.snd.snd.snd.snd.fst] ++
                ([V.u64 p.snd.snd.snd.snd.snd.fst.fst] ++
                    ([V.u64 p.snd.snd.snd.snd.snd.fst.snd.fst] ++
                      ([V.u64 p.snd.snd.snd.snd.snd.fst.snd.snd.fst] ++
                        ([V.u64 p.snd.snd.snd.snd.snd.fst.snd.snd.snd.fst] ++ []))) ++
                  ([V.u64 p.snd.snd.snd.snd.snd.snd.fst.fst] ++
                      ([V.u64 p.snd.snd.snd.snd.snd.snd.fst.snd.fst] ++
                        ([V.u64 p.snd.snd.snd.snd.snd.snd.fst.snd.snd.fst] ++
                          ([V.u64 p.snd.snd.snd.snd.snd.snd.fst.snd.snd.snd.fst] ++ []))) ++
                    ([V.u64 p.snd.snd.snd.snd.snd.snd.snd.fst.fst] ++
                        ([V.u64 p.snd.snd.snd.snd.snd.snd.snd.fst.snd.fst] ++
                          ([V.u64 p.snd.snd.snd.snd.snd.snd.snd.fst.snd.snd.fst] ++
                            ([V.u64 p.snd.snd.snd.snd.snd.snd.snd.fst.snd.snd.snd.fst] ++ []))) ++
                      ([V.str p.snd.snd.snd.snd.snd.snd.snd.snd.fst] ++
                        ([V.isl 2 p.snd.snd.snd.snd.snd.snd.snd.snd.snd.fst.fst
                              (axF p.snd.snd.snd.snd.snd.snd.snd.snd.snd.fst.snd)] ++
                          []))))))))))
    fun
      (p :
        Int ×
          List (BitVec 8) ×
            List (BitVec 8) ×
              BitVec 64 ×
                BitVec 64 ×
                  (BitVec 64 × BitVec 64 × BitVec 64 × BitVec 64 × Unit) ×
                    (BitVec 64 × BitVec 64 × BitVec 64 × BitVec 64 × Unit) ×
                      (BitVec 64 × BitVec 64 × BitVec 64 × BitVec 64 × Unit) × List (BitVec 8) × (Nat × AX) × Unit) =>
    (p.fst < 9223372036854775808 ∧ -9223372036854775808 ≤ p.fst) ∧
      p.snd.fst.length < 9223372036854775808 ∧
        p.snd.snd.fst.length < 9223372036854775808 ∧
          True ∧
            True ∧
              (True ∧ True ∧ True ∧ True ∧ True) ∧
                (True ∧ True ∧ True ∧ True ∧ True) ∧
                  (True ∧ True ∧ True ∧ True ∧ True) ∧
                    p.snd.snd.snd.snd.snd.snd.snd.snd.fst.length < 9223372036854775808 ∧
                      (p.snd.snd.snd.snd.snd.snd.snd.snd.snd.fst.fst < 9223372036854775808 ∧
                          ∃ (A : Nat → List (BitVec 8) × Nat × Unit),
                            { a := fun (i : Nat) => (A i).fst, m := fun (i : Nat) => (A i).snd.fst } =
                                p.snd.snd.snd.snd.snd.snd.snd.snd.snd.fst.snd ∧
                              ∀ (i : Nat),
                                i < p.snd.snd.snd.snd.snd.snd.snd.snd.snd.fst.fst →
                                  (A i).fst.length < 9223372036854775808 ∧ (A i).snd.fst < 9223372036854775808 ∧ True) ∧
                        True := by
  intro H enc w
  have h := TR.struct (enc := enc) (P := Pr) (w := w) (base := 0) (spare := fun _ => true) (held := true) (T := 19) Go.Proofs.Try.underlying60 (l := [_, _, _, _, _, _, _, _, _, _]) rfl (by kernel_rfl) (TRF.cons' 3 1 (by rfl) (by rfl) (by kernel_rfl) (TR.i64 (by kernel_rfl)) (TRF.cons' 9 1 (by rfl) (by rfl) (by kernel_rfl) (TR.str (by kernel_rfl)) (TRF.cons' 9 1 (by rfl) (by rfl) (by kernel_rfl) (TR.str (by kernel_rfl)) (TRF.cons' 22 1 (by rfl) (by rfl) (by kernel_rfl) (TR.u64 (by kernel_rfl)) (TRF.cons' 22 1 (by rfl) (by rfl) (by kernel_rfl) (TR.u64 (by kernel_rfl)) (TRF.cons' 24 4 (by rfl) (by rfl) (by kernel_rfl) (word_TR) (TRF.cons' 24 4 (by rfl) (by rfl) (by kernel_rfl) (word_TR) (TRF.cons' 24 4 (by rfl) (by rfl) (by kernel_rfl) (word_TR) (TRF.cons' 9 1 (by rfl) (by rfl) (by kernel_rfl) (TR.str (by kernel_rfl)) (TRF.cons' 58 1 (by rfl) (by rfl) (by kernel_rfl) (TR.sliceAs (e := 74) 2 (fun A => (⟨fun i => (A i).1, fun i => (A i).2.1⟩ : AX)) axF (fun A i j hj => by match j, hj with | 0, _ => rfl | 1, _ => rfl) (by kernel_rfl) (by kernel_rfl) (by decide) acc_TR) (TRF.nil 19)))))))))))
  exact h
theorem tx_arg {r : Reach} {b0 : Nat} {v : Value} {d : DataW H} {p : List MemPlace} (hok : Value.okWide Pr w r b0 60 v) (hr : DataW.Trod enc Pr w 0 (fun _ => true) true 60 v d p) :
    ∃ x : TX, (∀ ρ, VRel (Old w) w ρ (.agg x.cs) v) ∧ x.ln < 9223372036854775808 ∧ x.d.length < 9223372036854775808 := by
  obtain ⟨a, ha, hq⟩ := TR.arg_struct Go.Proofs.Try.underlying60 tx_TR hok hr
  obtain ⟨k, s1, s2, n, g, ⟨p0, p1, p2, p3, _⟩, ⟨t0, t1, t2, t3, _⟩, ⟨v0, v1, v2, v3, _⟩, d, ⟨ln, f⟩, _⟩ := a
  obtain ⟨_, _, _, _, _, _, _, _, hd, ⟨hl, _⟩, _⟩ := hq
  exact ⟨⟨k, s1, s2, n, g, ⟨p0, p1, p2, p3⟩, ⟨t0, t1, t2, t3⟩, ⟨v0, v1, v2, v3⟩, d, ln, f⟩, fun ρ => ha ρ, hl, hd⟩
end
end
end Go.Proofs.Ytajbaocfdlopbaa.K
end
