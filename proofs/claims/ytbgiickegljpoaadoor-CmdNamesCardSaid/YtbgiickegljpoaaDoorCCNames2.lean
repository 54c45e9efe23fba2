/- The functions that this law reaches: what each comes to. -/
import Derived.Test.YtbgiickegljpoaaDoorCCNames1
set_option linter.unusedSimpArgs false
set_option linter.unusedVariables false
section
open Go Go.Lh
namespace Go.Proofs.YtbgiickegljpoaaDoor.K
noncomputable section
set_option maxRecDepth 100000
structure BA where
  f : List B
  c : CM
def ba_read : List V → Heap → Option BA := fun a h => match a, h with
  | [.ptr 0 0, .str f], [.vals [.str nm, .str ad, .u64 n, .u64 ka, .u64 kb, .u64 kc, .u64 kd, .u64 va, .u64 vb, .u64 vc, .u64 vd, .str s, .int .i64 tk, .str tf, .str tt, .u64 tn, .u64 tg, .u64 pa, .u64 pb, .u64 pc, .u64 pd, .u64 ia, .u64 ib, .u64 ic, .u64 id, .u64 wa, .u64 wb, .u64 wc, .u64 wd, .str td, .nilSl]] =>
    some ⟨f, ⟨nm, ad, n, ⟨ka, kb, kc, kd⟩, ⟨va, vb, vc, vd⟩, s, tk, tf, tt, tn, tg, ⟨pa, pb, pc, pd⟩, ⟨ia, ib, ic, id⟩, ⟨wa, wb, wc, wd⟩, td⟩⟩
  | _, _ => none
def okBa (a : BA) : Prop := (a.f = f_t ∨ a.f = f_n ∨ a.f = f_a ∨ a.f = f_ak ∨ a.f = f_av ∨ a.f = f_an ∨ a.f = f_as ∨ a.f = f_akv ∨ a.f = f_e ∨ a.f = f_s) ∧ okC a.c
def okBaB (a : BA) : Bool := @decide (okBa a) (Classical.propDecidable _)
def ba_f (a : BA) : Tr (Fin × Heap) := .chk (okBaB a) (.leaf (.ret (.bool (bareB a.f a.c)), [.vals (a.c.cs .nilSl)]))
theorem ba_ok : ∀ args h r, ((ctT ba_read ba_f) args h).is r → LFn Pr 12 args h r.1 r.2 := by
  refine ctT_ok (fun a => [.ptr 0 0, .str a.f]) (fun a => [.vals (a.c.cs .nilSl)]) ?_ (fun a r h => ?_)
  · intro args h a e
    unfold ba_read at e
    split at e <;> cases e <;> exact ⟨rfl, rfl⟩
  · rw [ba_f, Tr.is_chk, Tr.is_leaf] at h
    obtain ⟨h1, rfl⟩ := h
    obtain ⟨h2, h3⟩ : okBa a := @of_decide_eq_true _ (Classical.propDecidable _) h1
    obtain ⟨f, c⟩ := a
    simp only at h2 h3
    rcases h2 with rfl | rfl | rfl | rfl | rfl | rfl | rfl | rfl | rfl | rfl
    · exact bare_t c h3
    · exact bare_n c h3
    · exact bare_a c h3
    · exact bare_ak c h3
    · exact bare_av c h3
    · exact bare_an c h3
    · exact bare_as c h3
    · exact bare_akv c h3
    · exact bare_e c h3
    · exact bare_s c h3
def fkP (f s : List B) : Prop := lookS fieldsL s = f ∧ hasS fieldsL s = true
def fkB (f s : List B) : Bool := @decide (fkP f s) (Classical.propDecidable _)
def fk_f (f : List B) (s : List B) : Tr (Fin × Heap) := .chk (fkB f s) (.leaf (.ret (.tup [.str f, .bool true]), []))
theorem fk_ok (f : List B) : ∀ args h r, ((ctT readS (fk_f f)) args h).is r → LFn Pr 10 args h r.1 r.2 := by
  refine ctT_ok (fun s => [.str s]) (fun _ => []) ?_ (fun a r h => ?_)
  · intro args h a e
    unfold readS at e
    split at e <;> cases e
    exact ⟨rfl, rfl⟩
  · rw [fk_f, Tr.is_chk, Tr.is_leaf] at h
    obtain ⟨h1, rfl⟩ := h
    obtain ⟨h2, h3⟩ : fkP f a := @of_decide_eq_true _ (Classical.propDecidable _) h1
    have := fields_fn a
    rw [h2, h3] at this
    exact this
def KEn (f : List B) : KnownT := (10, ctT readS (fk_f f)) :: (12, ctT ba_read ba_f) :: (13, pu_g) :: (42, old bytes_g) :: (16, ctT lt_read lt_f) :: (15, ctT en_read en_f) :: KR5
theorem KEn_ok (f : List B) : KOkT Pr (KEn f) := KOkT.cons (Enters.of (fn := Go.Proofs.Tryd.f10) (by kernel_rfl) (by kernel_rfl)) (fk_ok f) (KOkT.cons (Enters.of (fn := Go.Proofs.Tryd.f12) (by kernel_rfl) (by kernel_rfl)) ba_ok (KOkT.cons (Enters.of (fn := Go.Proofs.Tryd.f13) (by kernel_rfl) (by kernel_rfl)) pu_ok (KOkT.cons bytes_en (old_ok (ctW_ok bytes_fn)) (KOkT.cons (Enters.of (fn := Go.Proofs.Tryd.f16) (by kernel_rfl) (by kernel_rfl)) lt_ok (KOkT.cons (Enters.of (fn := Go.Proofs.Tryd.f15) (by kernel_rfl) (by kernel_rfl)) en_ok KR5_ok)))))
def OEn (f : List B) : OrcT := autoT Pr ext (KEn f) [14,41,22,23,24,25,26] 3
theorem OEn_sound (f : List B) : OrcSound Pr (OEn f).o := autoT_sound mixed ext_ok (KEn_ok f) (by kernel_rfl) 3
theorem en_n_x (c : CM) : Tr.prune ((Tr.Sh.any.both Tr.Sh.any.r.r.l).r.r.r)
 (execBF Pr (OEn f_n) noLoopsT (100 : Nat) Go.Proofs.Tryd.f8 [V.agg (c.cs V.nilSl)] []) =
 Tr.chk (fkB f_n c.nm && true && true && (okBaB (BA.mk f_n c) && true))
 (Tr.br (!bareB f_n c) (Tr.chk true (Tr.leaf (Fin.ret (V.tup [V.str (bytesOf (ByteArray.mk #[])), V.bool false]), [])))
 (Tr.chk
 (okVB (V.agg [V.bool true, V.str [], V.isl (3 : Nat) (2 : Nat) (rwF (rowT [c.nm, numB c.n]))]) && true && true)
 (Tr.leaf
 (Fin.ret
 (V.tup
 [V.str (encV (V.agg [V.bool true, V.str [], V.isl (3 : Nat) (2 : Nat) (rwF (rowT [c.nm, numB c.n]))])),
 V.bool true]),
 [])))) := by kernel_rfl
theorem en_a_x (c : CM) : Tr.prune ((Tr.Sh.any.both (Tr.Sh.any.both Tr.Sh.any.r).l).r.r.r)
 (execBF Pr (OEn f_a) noLoopsT (100 : Nat) Go.Proofs.Tryd.f8 [V.agg (c.cs V.nilSl)] []) =
 Tr.chk (fkB f_a c.nm && true && true && (okBaB (BA.mk f_a c) && true))
 (Tr.br (!bareB f_a c) (Tr.chk true (Tr.leaf (Fin.ret (V.tup [V.str (bytesOf (ByteArray.mk #[])), V.bool false]), [])))
 (Tr.chk true
 (Tr.br (!(↑c.ad.length : Int) == (20 : Int))
 (Tr.chk true (Tr.leaf (Fin.ret (V.tup [V.str (bytesOf (ByteArray.mk #[])), V.bool false]), [])))
 (Tr.chk
 (okVB (V.agg [V.bool true, V.str [], V.isl (3 : Nat) (2 : Nat) (rwF (rowT [c.nm, c.ad]))]) && true && true)
 (Tr.leaf
 (Fin.ret
 (V.tup
 [V.str (encV (V.agg [V.bool true, V.str [], V.isl (3 : Nat) (2 : Nat) (rwF (rowT [c.nm, c.ad]))])),
 V.bool true]),
 [])))))) := by kernel_rfl
theorem en_ak_x (c : CM) : Tr.prune ((Tr.Sh.any.both (Tr.Sh.any.both Tr.Sh.any.r.r.l).l).r.r.r)
 (execBF Pr (OEn f_ak) noLoopsT (100 : Nat) Go.Proofs.Tryd.f8 [V.agg (c.cs V.nilSl)] []) =
 Tr.chk (fkB f_ak c.nm && true && true && (okBaB (BA.mk f_ak c) && true))
 (Tr.br (!bareB f_ak c)
 (Tr.chk true (Tr.leaf (Fin.ret (V.tup [V.str (bytesOf (ByteArray.mk #[])), V.bool false]), [])))
 (Tr.chk true
 (Tr.br (!(↑c.ad.length : Int) == (20 : Int))
 (Tr.chk true (Tr.leaf (Fin.ret (V.tup [V.str (bytesOf (ByteArray.mk #[])), V.bool false]), [])))
 (Tr.chk
 ((List.take (3 : Nat)
 (setCells
 (List.replicate (1 : Nat) [V.bool false, V.str (bytesOf (ByteArray.mk #[])), V.nilSl]).flatten
 (0 : Nat) [V.bool false, V.str c.k.bytes, V.nilSl])).all
 V.one &&
 true &&
 true &&
 true &&
 (okVB (V.agg [V.bool true, V.str [], V.isl (3 : Nat) (3 : Nat) (rwF (rowT [c.nm, c.ad, c.k.bytes]))]) &&
 true &&
 true))
 (Tr.leaf
 (Fin.ret
 (V.tup
 [V.str
 (encV
 (V.agg
 [V.bool true, V.str [], V.isl (3 : Nat) (3 : Nat) (rwF (rowT [c.nm, c.ad, c.k.bytes]))])),
 V.bool true]),
 [])))))) := by kernel_rfl
theorem en_av_x (c : CM) : Tr.prune ((Tr.Sh.any.both (Tr.Sh.any.both Tr.Sh.any.r.r.l).l).r.r.r)
 (execBF Pr (OEn f_av) noLoopsT (100 : Nat) Go.Proofs.Tryd.f8 [V.agg (c.cs V.nilSl)] []) =
 Tr.chk (fkB f_av c.nm && true && true && (okBaB (BA.mk f_av c) && true))
 (Tr.br (!bareB f_av c)
 (Tr.chk true (Tr.leaf (Fin.ret (V.tup [V.str (bytesOf (ByteArray.mk #[])), V.bool false]), [])))
 (Tr.chk true
 (Tr.br (!(↑c.ad.length : Int) == (20 : Int))
 (Tr.chk true (Tr.leaf (Fin.ret (V.tup [V.str (bytesOf (ByteArray.mk #[])), V.bool false]), [])))
 (Tr.chk
 ((List.take (3 : Nat)
 (setCells
 (List.replicate (1 : Nat) [V.bool false, V.str (bytesOf (ByteArray.mk #[])), V.nilSl]).flatten
 (0 : Nat) [V.bool false, V.str c.v.bytes, V.nilSl])).all
 V.one &&
 true &&
 true &&
 true &&
 (okVB (V.agg [V.bool true, V.str [], V.isl (3 : Nat) (3 : Nat) (rwF (rowT [c.nm, c.ad, c.v.bytes]))]) &&
 true &&
 true))
 (Tr.leaf
 (Fin.ret
 (V.tup
 [V.str
 (encV
 (V.agg
 [V.bool true, V.str [], V.isl (3 : Nat) (3 : Nat) (rwF (rowT [c.nm, c.ad, c.v.bytes]))])),
 V.bool true]),
 [])))))) := by kernel_rfl
theorem en_an_x (c : CM) : Tr.prune ((Tr.Sh.any.both (Tr.Sh.any.both Tr.Sh.any.r.r.l).l).r.r.r)
 (execBF Pr (OEn f_an) noLoopsT (100 : Nat) Go.Proofs.Tryd.f8 [V.agg (c.cs V.nilSl)] []) =
 Tr.chk (fkB f_an c.nm && true && true && (okBaB (BA.mk f_an c) && true))
 (Tr.br (!bareB f_an c)
 (Tr.chk true (Tr.leaf (Fin.ret (V.tup [V.str (bytesOf (ByteArray.mk #[])), V.bool false]), [])))
 (Tr.chk true
 (Tr.br (!(↑c.ad.length : Int) == (20 : Int))
 (Tr.chk true (Tr.leaf (Fin.ret (V.tup [V.str (bytesOf (ByteArray.mk #[])), V.bool false]), [])))
 (Tr.chk
 ((List.take (3 : Nat)
 (setCells
 (List.replicate (1 : Nat) [V.bool false, V.str (bytesOf (ByteArray.mk #[])), V.nilSl]).flatten
 (0 : Nat) [V.bool false, V.str (numB c.n), V.nilSl])).all
 V.one &&
 true &&
 true &&
 true &&
 (okVB (V.agg [V.bool true, V.str [], V.isl (3 : Nat) (3 : Nat) (rwF (rowT [c.nm, c.ad, numB c.n]))]) &&
 true &&
 true))
 (Tr.leaf
 (Fin.ret
 (V.tup
 [V.str
 (encV
 (V.agg [V.bool true, V.str [], V.isl (3 : Nat) (3 : Nat) (rwF (rowT [c.nm, c.ad, numB c.n]))])),
 V.bool true]),
 [])))))) := by kernel_rfl
theorem en_as_x (c : CM) : Tr.prune ((Tr.Sh.any.both (Tr.Sh.any.both (Tr.Sh.any.both Tr.Sh.any.r).l).l).r.r.r)
 (execBF Pr (OEn f_as) noLoopsT (100 : Nat) Go.Proofs.Tryd.f8 [V.agg (c.cs V.nilSl)] []) =
 Tr.chk (fkB f_as c.nm && true && true && (okBaB (BA.mk f_as c) && true))
 (Tr.br (!bareB f_as c)
 (Tr.chk true (Tr.leaf (Fin.ret (V.tup [V.str (bytesOf (ByteArray.mk #[])), V.bool false]), [])))
 (Tr.chk true
 (Tr.br (!(↑c.ad.length : Int) == (20 : Int))
 (Tr.chk true (Tr.leaf (Fin.ret (V.tup [V.str (bytesOf (ByteArray.mk #[])), V.bool false]), [])))
 (Tr.chk true
 (Tr.br (!decide ((↑c.s.length : Int) ≤ (32768 : Int)))
 (Tr.chk true (Tr.leaf (Fin.ret (V.tup [V.str (bytesOf (ByteArray.mk #[])), V.bool false]), [])))
 (Tr.chk
 ((List.take (3 : Nat)
 (setCells
 (List.replicate (1 : Nat)
 [V.bool false, V.str (bytesOf (ByteArray.mk #[])), V.nilSl]).flatten
 (0 : Nat) [V.bool false, V.str c.s, V.nilSl])).all
 V.one &&
 true &&
 true &&
 true &&
 (okVB (V.agg [V.bool true, V.str [], V.isl (3 : Nat) (3 : Nat) (rwF (rowT [c.nm, c.ad, c.s]))]) &&
 true &&
 true))
 (Tr.leaf
 (Fin.ret
 (V.tup
 [V.str
 (encV
 (V.agg [V.bool true, V.str [], V.isl (3 : Nat) (3 : Nat) (rwF (rowT [c.nm, c.ad, c.s]))])),
 V.bool true]),
 [])))))))) := by kernel_rfl
theorem en_akv_x (c : CM) : Tr.prune ((Tr.Sh.any.both (Tr.Sh.any.both Tr.Sh.any.r.r.l.r.l).l).r.r.r)
 (execBF Pr (OEn f_akv) noLoopsT (100 : Nat) Go.Proofs.Tryd.f8 [V.agg (c.cs V.nilSl)] []) =
 Tr.chk (fkB f_akv c.nm && true && true && (okBaB (BA.mk f_akv c) && true))
 (Tr.br (!bareB f_akv c)
 (Tr.chk true (Tr.leaf (Fin.ret (V.tup [V.str (bytesOf (ByteArray.mk #[])), V.bool false]), [])))
 (Tr.chk true
 (Tr.br (!(↑c.ad.length : Int) == (20 : Int))
 (Tr.chk true (Tr.leaf (Fin.ret (V.tup [V.str (bytesOf (ByteArray.mk #[])), V.bool false]), [])))
 (Tr.chk
 ((List.take (3 : Nat)
 (setCells
 (List.replicate (1 : Nat) [V.bool false, V.str (bytesOf (ByteArray.mk #[])), V.nilSl]).flatten
 (0 : Nat) [V.bool false, V.str c.k.bytes, V.nilSl])).all
 V.one &&
 true &&
 true &&
 true &&
 ((List.take (3 : Nat)
 (setCells
 (List.replicate (1 : Nat)
 [V.bool false, V.str (bytesOf (ByteArray.mk #[])), V.nilSl]).flatten
 (0 : Nat) [V.bool false, V.str c.v.bytes, V.nilSl])).all
 V.one &&
 true &&
 true &&
 true &&
 (okVB
 (V.agg
 [V.bool true, V.str [],
 V.isl (3 : Nat) (4 : Nat) (rwF (rowT [c.nm, c.ad, c.k.bytes, c.v.bytes]))]) &&
 true &&
 true)))
 (Tr.leaf
 (Fin.ret
 (V.tup
 [V.str
 (encV
 (V.agg
 [V.bool true, V.str [],
 V.isl (3 : Nat) (4 : Nat) (rwF (rowT [c.nm, c.ad, c.k.bytes, c.v.bytes]))])),
 V.bool true]),
 [])))))) := by kernel_rfl
theorem en_e_x (c : CM) : Tr.prune ((Tr.Sh.any.both Tr.Sh.any.r).r.r.r)
 (execBF Pr (OEn f_e) noLoopsT (100 : Nat) Go.Proofs.Tryd.f8 [V.agg (c.cs V.nilSl)] []) =
 Tr.chk (fkB f_e c.nm && true && true && (okBaB (BA.mk f_e c) && true))
 (Tr.br (!bareB f_e c) (Tr.chk true (Tr.leaf (Fin.ret (V.tup [V.str (bytesOf (ByteArray.mk #[])), V.bool false]), [])))
 (Tr.chk (okVB (V.agg [V.bool true, V.str [], V.isl (3 : Nat) (1 : Nat) (rwF (rowT [c.nm]))]) && true && true)
 (Tr.leaf
 (Fin.ret
 (V.tup
 [V.str (encV (V.agg [V.bool true, V.str [], V.isl (3 : Nat) (1 : Nat) (rwF (rowT [c.nm]))])),
 V.bool true]),
 [])))) := by kernel_rfl
theorem en_s_x (c : CM) : Tr.prune ((Tr.Sh.any.both (Tr.Sh.any.both Tr.Sh.any.r).l).r.r.r)
 (execBF Pr (OEn f_s) noLoopsT (100 : Nat) Go.Proofs.Tryd.f8 [V.agg (c.cs V.nilSl)] []) =
 Tr.chk (fkB f_s c.nm && true && true && (okBaB (BA.mk f_s c) && true))
 (Tr.br (!bareB f_s c) (Tr.chk true (Tr.leaf (Fin.ret (V.tup [V.str (bytesOf (ByteArray.mk #[])), V.bool false]), [])))
 (Tr.chk true
 (Tr.br (!decide ((↑c.s.length : Int) ≤ (32768 : Int)))
 (Tr.chk true (Tr.leaf (Fin.ret (V.tup [V.str (bytesOf (ByteArray.mk #[])), V.bool false]), [])))
 (Tr.chk
 (okVB (V.agg [V.bool true, V.str [], V.isl (3 : Nat) (2 : Nat) (rwF (rowT [c.nm, c.s]))]) && true && true)
 (Tr.leaf
 (Fin.ret
 (V.tup
 [V.str (encV (V.agg [V.bool true, V.str [], V.isl (3 : Nat) (2 : Nat) (rwF (rowT [c.nm, c.s]))])),
 V.bool true]),
 [])))))) := by kernel_rfl
end
end Go.Proofs.YtbgiickegljpoaaDoor.K
end
section
open Go Go.Lh
namespace Go.Proofs.YtbgiickegljpoaaDoor.K
noncomputable section
set_option maxRecDepth 100000
theorem foldB_toNat : ∀ (s : List B) (n : BitVec 64) (k : Nat), n.toNat < 256 ^ k → k + s.length ≤ 8 → (foldB n s).toNat = n.toNat * 256 ^ s.length + beN s
  | [], n, k, _, _ => by simp [foldB, beN]
  | b :: r, n, k, hn, hk => by
    have h8 : 256 ^ (k + 1) ≤ 256 ^ 8 := Nat.pow_le_pow_right (by decide) (by simp only [List.length_cons] at hk; omega)
    have h64 : (256 : Nat) ^ 8 = 2 ^ 64 := by decide
    have hb := b.isLt
    have hs : n.toNat * 256 + b.toNat < 256 ^ (k + 1) := by rw [Nat.pow_succ]; omega
    have e : (n <<< 8 ||| b.setWidth 64).toNat = n.toNat * 256 + b.toNat := by
      rw [byte_step, BitVec.toNat_add, BitVec.toNat_mul, BitVec.toNat_setWidth, c256]
      have : b.toNat % 2 ^ 64 = b.toNat := Nat.mod_eq_of_lt (by omega)
      rw [this, Nat.mod_eq_of_lt (a := n.toNat * 256) (by omega), Nat.mod_eq_of_lt (by omega)]
    have ih := foldB_toNat r (n <<< 8 ||| b.setWidth 64) (k + 1) (by rw [e]; exact hs) (by simp only [List.length_cons] at hk; omega)
    have e2 : foldB n (b :: r) = foldB (n <<< 8 ||| b.setWidth 64) r := rfl
    rw [e2, ih, e, beN, List.length_cons, Nat.pow_succ, Nat.add_mul, Nat.mul_assoc, Nat.mul_comm 256, Nat.add_assoc]
theorem valB_toNat {s : List B} (h : s.length ≤ 8) : (valB s).toNat = beN s := by
  rw [valB_eq, foldB_toNat s 0 0 (by decide) (by omega)]
  simp
theorem beN_trL : ∀ s : List B, beN (trL 0 s) = beN s
  | [] => rfl
  | x :: r => by
    rw [trL]
    split
    · rename_i h
      rw [beN_trL r, beN, h]; simp
    · rfl
theorem trL_head : ∀ s : List B, ((trL 0 s).take 1 == [0#8]) = false
  | [] => rfl
  | x :: r => by
    rw [trL]
    split
    · exact trL_head r
    · rename_i h
      show ([x] == [0#8]) = false
      simpa using h
theorem trL_self {s : List B} (h : (s.take 1 == [0#8]) = false) : trL 0 s = s := by
  cases s with
  | nil => rfl
  | cons x r =>
    rw [trL, if_neg]
    rintro rfl
    cases h
theorem noLead_inj {s t : List B} (hs : (s.take 1 == [0#8]) = false) (ht : (t.take 1 == [0#8]) = false) (h : beN s = beN t) : s = t := by
  refine beN_inj ?_ h
  have e : ∀ k, s.length ≤ k ↔ t.length ≤ k := by
    intro k
    have a := trL_le s k
    have b := trL_le t k
    rw [trL_self hs] at a
    rw [trL_self ht] at b
    rw [a, b, h]
  have h1 := (e t.length).2 (Nat.le_refl _)
  have h2 := (e s.length).1 (Nat.le_refl _)
  omega
theorem beN_numB (n : BitVec 64) : beN (numB n) = n.toNat := by
  rw [numB_eq]
  have h := beN_trL (be8 n)
  rw [show (0#8 : B) = 0 from rfl, h, ← beK_8]
  have : (256 : Nat) ^ 8 = 2 ^ 64 := by decide
  exact beN_beK 8 n (by rw [this]; exact n.isLt)
theorem numB_small (n : BitVec 64) : smallB false (numB n) = true := by
  have h := numB_len n
  have h2 : ((numB n).take 1 == [0#8]) = false := by rw [numB_eq]; exact trL_head _
  unfold smallB
  rw [decide_eq_true h, h2]; rfl
theorem smallB_iff {s : List B} (h : smallB false s = true) : s.length ≤ 8 ∧ (s.take 1 == [0#8]) = false := by
  unfold smallB at h
  simp only [Bool.and_eq_true, Bool.not_eq_true', decide_eq_true_eq] at h
  exact ⟨h.1.2, h.2⟩
theorem smallN_val {s : List B} (h : smallB false s = true) : (smallN false s).toNat = beN s := by
  unfold smallN
  rw [if_pos h, valB_toNat (smallB_iff h).1]
theorem smallN_numB (n : BitVec 64) : smallN false (numB n) = n := by
  apply BitVec.eq_of_toNat_eq
  rw [smallN_val (numB_small n), beN_numB]
/-- the bytes of a small text's number are the text -/
theorem numB_smallN {s : List B} (h : smallB false s = true) : numB (smallN false s) = s := by
  refine noLead_inj (smallB_iff (numB_small _)).2 (smallB_iff h).2 ?_
  rw [beN_numB, smallN_val h]
theorem numB_inj {a b : BitVec 64} (h : numB a = numB b) : a = b := by rw [← smallN_numB a, h, smallN_numB]
theorem brT2 {α : Type} {t u : Tr α} {Q : α → Prop} (h : t.wp Q) : (Tr.chk true (Tr.br true t u)).wp Q := wp_chk_true.2 (brT h)
end
end Go.Proofs.YtbgiickegljpoaaDoor.K
end
section
open Go Go.Lh
namespace Go.Proofs.YtbgiickegljpoaaDoor.K
noncomputable section
set_option maxRecDepth 100000
theorem numB_le (n : BitVec 64) (k : Nat) : (numB n).length ≤ k ↔ n.toNat < 256 ^ k := by
  rw [numB_eq]
  have h := trL_le (be8 n) k
  have : (256 : Nat) ^ 8 = 2 ^ 64 := by decide
  rw [← beK_8, beN_beK 8 n (by rw [this]; exact n.isLt), beK_8] at h
  exact h
theorem enc_lst (l : List It) : enc (.lst l) = headO 192#8 (encs l).length ++ encs l := by rw [enc]
theorem enc_txt_eq (s : List B) : enc (.txt s) = if s.length = 1 ∧ s.getD 0 0 < 128#8 then s else headO 128#8 s.length ++ s := by rw [enc]
theorem encs_cons (x : It) (r : List It) : encs (x :: r) = enc x ++ encs r := by rw [encs]
theorem encs_nil : encs [] = [] := by rw [encs]
theorem mnF_len {k : Nat} {s : List B} {p : Nat × List B} (h : mnF k s = some p) : p.2.length ≤ s.length := by
  unfold mnF at h
  split at h
  · cases h; exact Nat.le_refl _
  · split at h
    · cases h; simp only [List.length_drop]; omega
    · cases h
theorem byte_add {b base : B} {k : Nat} (hk : base.toNat + k < 256) (hb : b.toNat = base.toNat + k) : base + BitVec.ofNat 8 k = b := by
  apply BitVec.eq_of_toNat_eq
  rw [BitVec.toNat_add, BitVec.toNat_ofNat, hb]
  omega
/-- what was read as how many stands as it is written -/
theorem mnF_back {b base : B} {k n : Nat} {s r : List B} (hb : b.toNat = base.toNat + k) (h : mnF k s = some (n, r)) : headO base n ++ r = b :: s := by
  have hlt := b.isLt
  unfold mnF at h
  rw [headO_eq]
  unfold headB
  split at h
  · rename_i hk
    cases h
    rw [if_pos hk, byte_add (by omega) hb]; rfl
  · rename_i hk
    split at h
    · rename_i hc
      obtain ⟨c1, c2, c3, c4⟩ := hc
      cases h
      rw [if_neg (by omega), BitVec.ofNat_toNat, BitVec.setWidth_eq, numB_smallN c2, List.length_take, Nat.min_eq_left c1, BitVec.add_assoc]
      have e : (55#8 + BitVec.ofNat 8 (k - 55)) = BitVec.ofNat 8 k := by
        apply BitVec.eq_of_toNat_eq
        rw [BitVec.toNat_add, BitVec.toNat_ofNat, BitVec.toNat_ofNat, BitVec.toNat_ofNat]
        omega
      rw [e, byte_add (by omega) hb, List.cons_append, List.take_append_drop]
    · cases h
theorem tkF_back {k : Nat} {s : List B} {q : List B × List B} (h : tkF k s = some q) : q.1 ++ q.2 = s ∧ q.1.length = k := by
  unfold tkF at h
  split at h
  · rename_i hk
    cases h
    exact ⟨List.take_append_drop k s, by rw [List.length_take]; omega⟩
  · cases h
theorem manyD_back {dec : List B → Option (It × List B)} (hd : ∀ s x r, dec s = some (x, r) → enc x ++ r = s) : ∀ (n : Nat) (t : List B) (l : List It), manyD dec n t = some l → encs l = t
  | n, [], l, h => by
    rw [manyD.eq_def] at h
    cases h; exact encs_nil
  | 0, b :: t, l, h => by rw [manyD] at h; cases h
  | n + 1, b :: t, l, h => by
    rw [manyD] at h
    cases hx : dec (b :: t) with
    | none => rw [hx] at h; cases h
    | some p =>
      obtain ⟨x, q⟩ := p
      rw [hx] at h
      simp only at h
      rw [Option.map_eq_some_iff] at h
      obtain ⟨l', hl, rfl⟩ := h
      rw [encs_cons, manyD_back hd n q l' hl, hd _ _ _ hx]
/-- what was read stands as it is written -/
theorem itF_back : ∀ (f : Nat) (s : List B) (x : It) (r : List B), itF f s = some (x, r) → enc x ++ r = s
  | 0, s, x, r, h => by cases s <;> cases h
  | f + 1, [], x, r, h => by cases h
  | f + 1, b :: s, x, r, h => by
    have hb := b.isLt
    rw [itF] at h
    split at h
    · rename_i hlt
      cases h
      rw [enc_txt_eq, if_pos ⟨rfl, hlt⟩]; rfl
    · rename_i hlt
      rw [BitVec.lt_def, c128] at hlt
      split at h
      · rename_i hlt2
        rw [BitVec.lt_def, c192] at hlt2
        rw [Option.bind_eq_some_iff] at h
        obtain ⟨⟨n, r1⟩, hp, h⟩ := h
        rw [Option.bind_eq_some_iff] at h
        obtain ⟨⟨t, r2⟩, hq, h⟩ := h
        obtain ⟨q1, q2⟩ := tkF_back hq
        simp only at q1 q2
        split at h
        · rename_i hc
          cases h
          have hm := mnF_back (b := b) (base := 128#8) (by rw [c128]; omega) hp
          have hne : ¬ (t.length = 1 ∧ t.getD 0 0 < 128#8) := by
            rintro ⟨a1, a2⟩
            rw [BitVec.lt_def, c128] at a2
            rcases hc with hc | hc | hc
            · exact hc a1
            · have hc : 128#8 ≤ t.getD 0 0 := hc
              rw [BitVec.le_def, c128] at hc; omega
            · rw [← q2, a1] at hm
              rw [headO_eq] at hm
              unfold headB at hm
              rw [if_pos (by decide)] at hm
              have hm' : (128#8 + BitVec.ofNat 8 1) :: ([] ++ r1) = b :: s := hm
              have := List.head_eq_of_cons_eq hm'
              exact hc (by rw [← this]; decide)
          rw [enc_txt_eq, if_neg hne, q2, List.append_assoc, q1, hm]
        · cases h
      · rename_i hlt2
        rw [BitVec.lt_def, c192] at hlt2
        rw [Option.bind_eq_some_iff] at h
        obtain ⟨⟨n, r1⟩, hp, h⟩ := h
        rw [Option.bind_eq_some_iff] at h
        obtain ⟨⟨t, r2⟩, hq, h⟩ := h
        obtain ⟨q1, q2⟩ := tkF_back hq
        simp only at q1 q2 h
        rw [Option.map_eq_some_iff] at h
        obtain ⟨l, hl, h⟩ := h
        cases h
        have hm := mnF_back (b := b) (base := 192#8) (by rw [c192]; omega) hp
        rw [enc_lst, manyD_back (itF_back f) _ _ _ hl, q2, List.append_assoc, q1, hm]
/-! ### what was written is read -/
theorem head_fwd (base : B) (n : Nat) (hn : n ≤ 65536) (hbase : base.toNat ≤ 192) : ∃ b h k, headO base n = b :: h ∧ b.toNat = base.toNat + k ∧ k < 64 ∧ ∀ r, mnF k (h ++ r) = some (n, r) := by
  rw [headO_eq]
  unfold headB
  by_cases h1 : n ≤ 55
  · rw [if_pos h1]
    refine ⟨_, [], n, rfl, ?_, by omega, fun r => ?_⟩
    · rw [BitVec.toNat_add, BitVec.toNat_ofNat]; omega
    · unfold mnF; rw [if_pos h1]; rfl
  · rw [if_neg h1]
    have hv : (BitVec.ofNat 64 n).toNat = n := by rw [BitVec.toNat_ofNat]; exact Nat.mod_eq_of_lt (by omega)
    have hl := numB_len (BitVec.ofNat 64 n)
    have a0 := numB_le (BitVec.ofNat 64 n) 0
    rw [hv, show (256 : Nat) ^ 0 = 1 from rfl] at a0
    refine ⟨_, numB (BitVec.ofNat 64 n), 55 + (numB (BitVec.ofNat 64 n)).length, rfl, ?_, by omega, fun r => ?_⟩
    · rw [BitVec.toNat_add, BitVec.toNat_add, BitVec.toNat_ofNat, BitVec.toNat_ofNat]; omega
    · unfold mnF
      rw [if_neg (by omega), Nat.add_sub_cancel_left, List.take_left, List.drop_left, smallN_numB, hv, if_pos ⟨by simp, numB_small _, by omega, hn⟩]
theorem tkF_fwd (t r : List B) : tkF t.length (t ++ r) = some (t, r) := by
  unfold tkF
  rw [if_pos (by simp), List.take_left, List.drop_left]
theorem itF_head {f n : Nat} {r : List B} (b : B) (h : List B) (k : Nat) (hb : b.toNat = 192 + k) (hm : ∀ r, mnF k (h ++ r) = some (n, r)) (t : List B) (hn : n = t.length) :
    itF (f + 1) (b :: (h ++ (t ++ r))) = (manyD (itF f) t.length t).map fun l => (.lst l, r) := by
  have hlt := b.isLt
  rw [itF, if_neg (by rw [BitVec.lt_def, c128]; omega), if_neg (by rw [BitVec.lt_def, c192]; omega), hb, Nat.add_sub_cancel_left, hm, Option.bind_some, hn]
  simp only
  rw [tkF_fwd, Option.bind_some]
mutual
theorem itF_fwd : ∀ (x : It) (f : Nat) (r : List B), x.dep + 1 ≤ f → (enc x).length ≤ 65536 → itF f (enc x ++ r) = some (x, r)
  | .txt s, f + 1, r, _, hl => by
    rw [enc_txt_eq] at hl ⊢
    by_cases hc : s.length = 1 ∧ s.getD 0 0 < 128#8
    · rw [if_pos hc]
      obtain ⟨h1, h2⟩ := hc
      match s, h1, h2 with
      | [b], _, h2 =>
        have h2 : b < 128#8 := h2
        rw [List.cons_append, List.nil_append, itF, if_pos h2]
    · rw [if_neg hc] at hl ⊢
      rw [List.length_append] at hl
      obtain ⟨b, h, k, e, hb, hk, hm⟩ := head_fwd 128#8 s.length (by omega) (by decide)
      rw [c128] at hb
      rw [e, List.append_assoc, List.cons_append, itF, if_neg (by rw [BitVec.lt_def, c128]; omega), if_pos (by rw [BitVec.lt_def, c192]; omega), hb, Nat.add_sub_cancel_left, hm, Option.bind_some]
      simp only
      rw [tkF_fwd, Option.bind_some]
      simp only
      rw [if_pos]
      by_cases h1 : s.length = 1
      · right; left
        have : ¬ s.getD 0 0 < 128#8 := fun h => hc ⟨h1, h⟩
        rw [BitVec.lt_def] at this
        show 128#8 ≤ s.getD 0 0
        rw [BitVec.le_def]; omega
      · exact .inl h1
  | .lst l, f + 1, r, hd, hl => by
    rw [enc_lst] at hl ⊢
    rw [List.length_append] at hl
    rw [It.dep] at hd
    obtain ⟨b, h, k, e, hb, hk, hm⟩ := head_fwd 192#8 (encs l).length (by omega) (by decide)
    rw [c192] at hb
    rw [e, List.append_assoc, List.cons_append, itF_head b h k hb hm (encs l) rfl, itsF_fwd l f (by omega) (by omega), Option.map_some]
theorem itsF_fwd : ∀ (l : List It) (f : Nat), It.deps l + 1 ≤ f → (encs l).length ≤ 65536 → manyD (itF f) (encs l).length (encs l) = some l
  | [], f, _, _ => by rw [encs_nil]; rw [manyD.eq_def]
  | x :: l, f, hd, hl => by
    rw [It.deps] at hd
    rw [encs_cons] at hl ⊢
    rw [List.length_append] at hl
    have h1 : x.dep + 1 ≤ f := by have := Nat.le_max_left x.dep (It.deps l); omega
    have h2 : It.deps l + 1 ≤ f := by have := Nat.le_max_right x.dep (It.deps l); omega
    have hx := itF_fwd x f (encs l) h1 (by omega)
    have hr := itsF_fwd l f h2 (by omega)
    have hp := enc_pos x
    cases he : enc x with
    | nil => rw [he] at hp; simp at hp
    | cons b t =>
      rw [he] at hx hl
      rw [List.cons_append, List.length_cons, manyD, ← List.cons_append, hx]
      simp only
      rw [manyD_fuel (itF_len f) _ (encs l).length (encs l) (by rw [List.length_append]; omega) (Nat.le_refl _), hr]; rfl
end
/-! ### more behind changes nothing -/
theorem mnF_more {k n : Nat} {s r : List B} (t : List B) (h : mnF k s = some (n, r)) : mnF k (s ++ t) = some (n, r ++ t) := by
  unfold mnF at h ⊢
  split at h
  · rename_i hk
    cases h
    rw [if_pos hk]
  · rename_i hk
    rw [if_neg hk]
    split at h
    · rename_i hc
      cases h
      rw [List.take_append_of_le_length hc.1, List.drop_append_of_le_length hc.1, if_pos ⟨by rw [List.length_append]; omega, hc.2⟩]
    · cases h
theorem tkF_more {k : Nat} {s : List B} {q : List B × List B} (t : List B) (h : tkF k s = some q) : tkF k (s ++ t) = some (q.1, q.2 ++ t) := by
  unfold tkF at h ⊢
  split at h
  · rename_i hk
    cases h
    rw [if_pos (by rw [List.length_append]; omega), List.take_append_of_le_length hk, List.drop_append_of_le_length hk]
  · cases h
theorem itF_more : ∀ (f : Nat) (s t : List B) (x : It) (r : List B), itF f s = some (x, r) → itF f (s ++ t) = some (x, r ++ t)
  | 0, s, t, x, r, h => by cases s <;> cases h
  | f + 1, [], t, x, r, h => by cases h
  | f + 1, b :: s, t, x, r, h => by
    rw [List.cons_append]
    rw [itF] at h ⊢
    split at h
    · rename_i hlt
      cases h
      rw [if_pos hlt]
    · rename_i hlt
      rw [if_neg hlt]
      split at h
      · rename_i hlt2
        rw [if_pos hlt2]
        rw [Option.bind_eq_some_iff] at h
        obtain ⟨⟨n, r1⟩, hp, h⟩ := h
        rw [Option.bind_eq_some_iff] at h
        obtain ⟨q, hq, h⟩ := h
        rw [mnF_more t hp, Option.bind_some]
        simp only
        rw [tkF_more t hq, Option.bind_some]
        split at h
        · rename_i hc
          cases h
          simp only
          rw [if_pos hc]
        · cases h
      · rename_i hlt2
        rw [if_neg hlt2]
        rw [Option.bind_eq_some_iff] at h
        obtain ⟨⟨n, r1⟩, hp, h⟩ := h
        rw [Option.bind_eq_some_iff] at h
        obtain ⟨q, hq, h⟩ := h
        rw [mnF_more t hp, Option.bind_some]
        simp only
        rw [tkF_more t hq, Option.bind_some]
        simp only
        rw [Option.map_eq_some_iff] at h
        obtain ⟨l, hl, h⟩ := h
        cases h
        rw [hl]; rfl
/-! ### Decode -/
theorem decF_back {s : List B} {x : It} (h : decF s = some x) : enc x = s ∧ s.length ≤ 65536 := by
  unfold decF at h
  split at h
  · rename_i hs
    rw [Option.bind_eq_some_iff] at h
    obtain ⟨⟨y, r⟩, hp, h⟩ := h
    split at h
    · rename_i hr
      cases h
      simp only at hr
      subst hr
      have := itF_back 65 s _ [] hp
      rw [List.append_nil] at this
      exact ⟨this, hs⟩
    · cases h
  · cases h
theorem decF_fwd (x : It) (hd : x.dep ≤ 64) (hl : (enc x).length ≤ 65536) : decF (enc x) = some x := by
  have := itF_fwd x 65 [] (by omega) hl
  rw [List.append_nil] at this
  unfold decF
  rw [if_pos hl, this, Option.bind_some, if_pos rfl]
theorem decF_behind (x : It) (hd : x.dep ≤ 64) (hl : (enc x).length ≤ 65536) (b : B) (r : List B) : decF (enc x ++ b :: r) = none := by
  have := itF_fwd x 65 (b :: r) (by omega) hl
  unfold decF
  split
  · rw [this, Option.bind_some, if_neg (by simp)]
  · rfl
theorem decF_cut (x : It) (hd : x.dep ≤ 64) (hl : (enc x).length ≤ 65536) (m : Nat) (hm : m < (enc x).length) : decF ((enc x).take m) = none := by
  cases h : decF ((enc x).take m) with
  | none => rfl
  | some y =>
    exfalso
    unfold decF at h
    split at h
    · rw [Option.bind_eq_some_iff] at h
      obtain ⟨⟨z, r⟩, hp, h⟩ := h
      split at h
      · rename_i hr
        simp only at hr
        subst hr
        have h1 := itF_more 65 _ ((enc x).drop m) z [] hp
        have h2 := itF_fwd x 65 [] (by omega) hl
        rw [List.take_append_drop] at h1
        rw [List.append_nil] at h2
        rw [h1] at h2
        injection h2 with h2
        injection h2 with _ h2
        rw [List.nil_append] at h2
        have := congrArg List.length h2
        rw [List.length_drop, List.length_nil] at this
        omega
      · cases h
    · cases h
end
end Go.Proofs.YtbgiickegljpoaaDoor.K
end
section
open Go Go.Lh
namespace Go.Proofs.YtbgiickegljpoaaDoor.K
noncomputable section
set_option maxRecDepth 100000
def okP (c : CM) (x : B) : Bool := bif Nat.beq x.toNat 97 then (c.ad.length : Int) == (20 : Int) else bif Nat.beq x.toNat 115 then decide ((c.s.length : Int) ≤ (32768 : Int)) else true
def txP (c : CM) (x : B) : List B := bif Nat.beq x.toNat 97 then c.ad else bif Nat.beq x.toNat 110 then numB c.n else bif Nat.beq x.toNat 107 then c.k.bytes else bif Nat.beq x.toNat 118 then c.v.bytes else c.s
def eok (f : List B) (c : CM) : Bool := bareB f c && f.all (okP c)
def eTs (f : List B) (c : CM) : List (List B) := c.nm :: f.map (txP c)
def eIt (f : List B) (c : CM) : It := .lst ((eTs f c).map .txt)
def eS (f : List B) (c : CM) : List B := @ite _ True (Classical.propDecidable True) (enc (eIt f c)) []
theorem eS_eq (f : List B) (c : CM) : eS f c = enc (eIt f c) := if_pos trivial
def eV (f : List B) (c : CM) : Fin := if eok f c = true then .ret (.tup [.str (eS f c), .bool true]) else .ret (.tup [.str [], .bool false])
theorem is_ls (xs : List (List B)) : isIt (nrm (lsV xs.length (rowT xs))) (.lst (xs.map .txt)) := by
  have h : isIt (.agg [.bool true, .str [], .isl 3 (xs.map It.txt).length (rwF (rowT xs))]) (.lst (xs.map .txt)) := by
    refine .lst (rowT xs) (xs.map .txt) fun i hi => ?_
    have hi' : i < xs.length := by simpa using hi
    have e : (rowT xs).at i = .agg [.bool false, .str xs[i], .isl 3 0 (fun _ _ => .any)] := by
      show V.agg [.bool false, .str (xs.getD i []), .isl 3 0 (fun _ _ => .any)] = _
      rw [List.getD_eq_getElem?_getD, List.getElem?_eq_getElem hi']; rfl
    rw [e, List.getElem_map]
    exact .txt _ _
  rw [List.length_map] at h
  exact h
theorem txts_len : ∀ (xs : List (List B)), (encs (xs.map .txt)).length ≤ (xs.map fun x => x.length + 9).sum
  | [] => by rw [List.map_nil, encs_nil]; exact Nat.zero_le _
  | x :: r => by
    rw [List.map_cons, encs_cons, List.length_append, List.map_cons, List.sum_cons]
    have h1 := txts_len r
    have h2 : (enc (.txt x)).length ≤ x.length + 9 := by
      rw [enc_txt_eq]
      split
      · omega
      · rw [List.length_append]; have := headO_len 128#8 x.length; omega
    omega
theorem lst_len (xs : List (List B)) : (enc (.lst (xs.map .txt))).length ≤ (xs.map fun x => x.length + 9).sum + 9 := by
  rw [enc_lst, List.length_append]
  have := txts_len xs
  have := headO_len 192#8 (encs (xs.map .txt)).length
  omega
theorem ok_ls {xs : List (List B)} (h : (xs.map fun x => x.length + 9).sum ≤ 1000000) : okVB (lsV xs.length (rowT xs)) = true := by
  refine @decide_eq_true _ (Classical.propDecidable _) ⟨⟨_, is_ls xs⟩, ?_⟩
  rw [encV_eq (is_ls xs)]
  have := lst_len xs
  have : most40 = 1099511627776 := rfl
  omega
theorem hasS_mem : ∀ {es : List (List B × List B)} {s : List B}, hasS es s = true → ∃ p, p ∈ es ∧ p.1 = s ∧ lookS es s = p.2
  | [], s, h => by cases h
  | (k, v) :: r, s, h => by
    unfold hasS at h
    unfold lookS
    cases he : eqB k s with
    | true => exact ⟨(k, v), by simp, eqB_iff.1 he, rfl⟩
    | false =>
      rw [he] at h
      obtain ⟨p, h1, h2, h3⟩ := hasS_mem (es := r) h
      exact ⟨p, by simp [h1], h2, h3⟩
theorem names_len : ∀ p ∈ fieldsL, p.1.length ≤ 11 := by decide
theorem fk_len {f s : List B} (h : fkP f s) : s.length ≤ 11 := by
  obtain ⟨p, h1, h2, _⟩ := hasS_mem h.2
  rw [← h2]; exact names_len p h1
theorem fkB_t {f s : List B} (h : fkP f s) : fkB f s = true := @decide_eq_true _ (Classical.propDecidable _) h
theorem okBa_t {a : BA} (h : okBa a) : okBaB a = true := @decide_eq_true _ (Classical.propDecidable _) h
theorem numB_len8 (n : BitVec 64) : (numB n).length ≤ 8 := by rw [numB_eq]; exact trL_length _ _
theorem eok_n (c : CM) : eok f_n c = (bareB f_n c && true) := by kernel_rfl
theorem eTs_n (c : CM) : eTs f_n c = [c.nm, (numB c.n)] := by kernel_rfl
theorem enc_n (c : CM) (hn : fkP f_n c.nm) (hc : okC c) : LFn Pr 8 [.agg (c.cs .nilSl)] [] (eV f_n c) [] := by
  have hnl := fk_len hn
  have hb : okBaB (BA.mk f_n c) = true := okBa_t ⟨.inr (.inl rfl), hc⟩
  have no : eok f_n c = false → (fun r : Fin × Heap => r = (eV f_n c, [])) (.ret (.tup [.str (bytesOf (ByteArray.mk #[])), .bool false]), []) := by
    intro e
    unfold eV
    rw [if_neg (by rw [e]; decide)]; rfl
  have yes : eok f_n c = true → (fun r : Fin × Heap => r = (eV f_n c, [])) (.ret (.tup [.str (encV (lsV 2 (rowT [c.nm, (numB c.n)]))), .bool true]), []) := by
    intro e
    have e2 : encV (lsV 2 (rowT [c.nm, (numB c.n)])) = eS f_n c := by
      rw [eS_eq, eIt, eTs_n]; exact encV_eq (is_ls [c.nm, (numB c.n)])
    unfold eV
    rw [if_pos e, e2]
  rw [eok_n] at no yes
  refine fnT (OEn_sound f_n) mixed (by kernel_rfl) LoopsOk.noneT (en_n_x c) ?_
  refine wp_chk.2 ⟨by rw [fkB_t hn, hb]; rfl, wp_br.2 ⟨fun e0 => wp_chk_true.2 (wp_leaf.2 (no ?_)), fun e0 => wp_chk.2 ⟨?_, wp_leaf.2 (yes ?_)⟩⟩⟩
  · have h0 : bareB f_n c = false := by simpa using e0
    rw [h0]; rfl
  · have h0 : bareB f_n c = true := by simpa using e0
    have a0 := numB_len8 c.n
    have a1 := W4.bytes_length c.k
    have a2 := W4.bytes_length c.v
    have hq : okVB (lsV 2 (rowT [c.nm, (numB c.n)])) = true := ok_ls (xs := [c.nm, (numB c.n)]) (by simp only [List.map_cons, List.map_nil, List.sum_cons, List.sum_nil]; omega)
    have hq' : okVB (V.agg [V.bool true, V.str [], V.isl (3 : Nat) (2 : Nat) (rwF (rowT [c.nm, (numB c.n)]))]) = true := hq
    rw [hq']; rfl
  · have h0 : bareB f_n c = true := by simpa using e0
    rw [h0]; rfl
theorem eok_a (c : CM) : eok f_a c = (bareB f_a c && (((c.ad.length : Int) == (20 : Int)) && true)) := by kernel_rfl
theorem eTs_a (c : CM) : eTs f_a c = [c.nm, c.ad] := by kernel_rfl
theorem enc_a (c : CM) (hn : fkP f_a c.nm) (hc : okC c) : LFn Pr 8 [.agg (c.cs .nilSl)] [] (eV f_a c) [] := by
  have hnl := fk_len hn
  have hb : okBaB (BA.mk f_a c) = true := okBa_t ⟨.inr (.inr (.inl rfl)), hc⟩
  have no : eok f_a c = false → (fun r : Fin × Heap => r = (eV f_a c, [])) (.ret (.tup [.str (bytesOf (ByteArray.mk #[])), .bool false]), []) := by
    intro e
    unfold eV
    rw [if_neg (by rw [e]; decide)]; rfl
  have yes : eok f_a c = true → (fun r : Fin × Heap => r = (eV f_a c, [])) (.ret (.tup [.str (encV (lsV 2 (rowT [c.nm, c.ad]))), .bool true]), []) := by
    intro e
    have e2 : encV (lsV 2 (rowT [c.nm, c.ad])) = eS f_a c := by
      rw [eS_eq, eIt, eTs_a]; exact encV_eq (is_ls [c.nm, c.ad])
    unfold eV
    rw [if_pos e, e2]
  rw [eok_a] at no yes
  refine fnT (OEn_sound f_a) mixed (by kernel_rfl) LoopsOk.noneT (en_a_x c) ?_
  refine wp_chk.2 ⟨by rw [fkB_t hn, hb]; rfl, wp_br.2 ⟨fun e0 => wp_chk_true.2 (wp_leaf.2 (no ?_)), fun e0 => wp_chk_true.2 (wp_br.2 ⟨fun e1 => wp_chk_true.2 (wp_leaf.2 (no ?_)), fun e1 => wp_chk.2 ⟨?_, wp_leaf.2 (yes ?_)⟩⟩)⟩⟩
  · have h0 : bareB f_a c = false := by simpa using e0
    rw [h0]; rfl
  · have h0 : bareB f_a c = true := by simpa using e0
    have h1 : ((c.ad.length : Int) == (20 : Int)) = false := by simpa using e1
    rw [h0, h1]; rfl
  · have h0 : bareB f_a c = true := by simpa using e0
    have h1 : ((c.ad.length : Int) == (20 : Int)) = true := by simpa using e1
    have a0 := numB_len8 c.n
    have a1 := W4.bytes_length c.k
    have a2 := W4.bytes_length c.v
    have b0 : c.ad.length = 20 := by have := beq_iff_eq.1 h1; omega
    have hq : okVB (lsV 2 (rowT [c.nm, c.ad])) = true := ok_ls (xs := [c.nm, c.ad]) (by simp only [List.map_cons, List.map_nil, List.sum_cons, List.sum_nil]; omega)
    have hq' : okVB (V.agg [V.bool true, V.str [], V.isl (3 : Nat) (2 : Nat) (rwF (rowT [c.nm, c.ad]))]) = true := hq
    rw [hq']; rfl
  · have h0 : bareB f_a c = true := by simpa using e0
    have h1 : ((c.ad.length : Int) == (20 : Int)) = true := by simpa using e1
    rw [h0, h1]; rfl
theorem eok_ak (c : CM) : eok f_ak c = (bareB f_ak c && (((c.ad.length : Int) == (20 : Int)) && true)) := by kernel_rfl
theorem eTs_ak (c : CM) : eTs f_ak c = [c.nm, c.ad, c.k.bytes] := by kernel_rfl
theorem enc_ak (c : CM) (hn : fkP f_ak c.nm) (hc : okC c) : LFn Pr 8 [.agg (c.cs .nilSl)] [] (eV f_ak c) [] := by
  have hnl := fk_len hn
  have hb : okBaB (BA.mk f_ak c) = true := okBa_t ⟨.inr (.inr (.inr (.inl rfl))), hc⟩
  have no : eok f_ak c = false → (fun r : Fin × Heap => r = (eV f_ak c, [])) (.ret (.tup [.str (bytesOf (ByteArray.mk #[])), .bool false]), []) := by
    intro e
    unfold eV
    rw [if_neg (by rw [e]; decide)]; rfl
  have yes : eok f_ak c = true → (fun r : Fin × Heap => r = (eV f_ak c, [])) (.ret (.tup [.str (encV (lsV 3 (rowT [c.nm, c.ad, c.k.bytes]))), .bool true]), []) := by
    intro e
    have e2 : encV (lsV 3 (rowT [c.nm, c.ad, c.k.bytes])) = eS f_ak c := by
      rw [eS_eq, eIt, eTs_ak]; exact encV_eq (is_ls [c.nm, c.ad, c.k.bytes])
    unfold eV
    rw [if_pos e, e2]
  rw [eok_ak] at no yes
  refine fnT (OEn_sound f_ak) mixed (by kernel_rfl) LoopsOk.noneT (en_ak_x c) ?_
  refine wp_chk.2 ⟨by rw [fkB_t hn, hb]; rfl, wp_br.2 ⟨fun e0 => wp_chk_true.2 (wp_leaf.2 (no ?_)), fun e0 => wp_chk_true.2 (wp_br.2 ⟨fun e1 => wp_chk_true.2 (wp_leaf.2 (no ?_)), fun e1 => wp_chk.2 ⟨?_, wp_leaf.2 (yes ?_)⟩⟩)⟩⟩
  · have h0 : bareB f_ak c = false := by simpa using e0
    rw [h0]; rfl
  · have h0 : bareB f_ak c = true := by simpa using e0
    have h1 : ((c.ad.length : Int) == (20 : Int)) = false := by simpa using e1
    rw [h0, h1]; rfl
  · have h0 : bareB f_ak c = true := by simpa using e0
    have h1 : ((c.ad.length : Int) == (20 : Int)) = true := by simpa using e1
    have a0 := numB_len8 c.n
    have a1 := W4.bytes_length c.k
    have a2 := W4.bytes_length c.v
    have b0 : c.ad.length = 20 := by have := beq_iff_eq.1 h1; omega
    have hq : okVB (lsV 3 (rowT [c.nm, c.ad, c.k.bytes])) = true := ok_ls (xs := [c.nm, c.ad, c.k.bytes]) (by simp only [List.map_cons, List.map_nil, List.sum_cons, List.sum_nil]; omega)
    have hq' : okVB (V.agg [V.bool true, V.str [], V.isl (3 : Nat) (3 : Nat) (rwF (rowT [c.nm, c.ad, c.k.bytes]))]) = true := hq
    rw [hq']; rfl
  · have h0 : bareB f_ak c = true := by simpa using e0
    have h1 : ((c.ad.length : Int) == (20 : Int)) = true := by simpa using e1
    rw [h0, h1]; rfl
theorem eok_av (c : CM) : eok f_av c = (bareB f_av c && (((c.ad.length : Int) == (20 : Int)) && true)) := by kernel_rfl
theorem eTs_av (c : CM) : eTs f_av c = [c.nm, c.ad, c.v.bytes] := by kernel_rfl
theorem enc_av (c : CM) (hn : fkP f_av c.nm) (hc : okC c) : LFn Pr 8 [.agg (c.cs .nilSl)] [] (eV f_av c) [] := by
  have hnl := fk_len hn
  have hb : okBaB (BA.mk f_av c) = true := okBa_t ⟨.inr (.inr (.inr (.inr (.inl rfl)))), hc⟩
  have no : eok f_av c = false → (fun r : Fin × Heap => r = (eV f_av c, [])) (.ret (.tup [.str (bytesOf (ByteArray.mk #[])), .bool false]), []) := by
    intro e
    unfold eV
    rw [if_neg (by rw [e]; decide)]; rfl
  have yes : eok f_av c = true → (fun r : Fin × Heap => r = (eV f_av c, [])) (.ret (.tup [.str (encV (lsV 3 (rowT [c.nm, c.ad, c.v.bytes]))), .bool true]), []) := by
    intro e
    have e2 : encV (lsV 3 (rowT [c.nm, c.ad, c.v.bytes])) = eS f_av c := by
      rw [eS_eq, eIt, eTs_av]; exact encV_eq (is_ls [c.nm, c.ad, c.v.bytes])
    unfold eV
    rw [if_pos e, e2]
  rw [eok_av] at no yes
  refine fnT (OEn_sound f_av) mixed (by kernel_rfl) LoopsOk.noneT (en_av_x c) ?_
  refine wp_chk.2 ⟨by rw [fkB_t hn, hb]; rfl, wp_br.2 ⟨fun e0 => wp_chk_true.2 (wp_leaf.2 (no ?_)), fun e0 => wp_chk_true.2 (wp_br.2 ⟨fun e1 => wp_chk_true.2 (wp_leaf.2 (no ?_)), fun e1 => wp_chk.2 ⟨?_, wp_leaf.2 (yes ?_)⟩⟩)⟩⟩
  · have h0 : bareB f_av c = false := by simpa using e0
    rw [h0]; rfl
  · have h0 : bareB f_av c = true := by simpa using e0
    have h1 : ((c.ad.length : Int) == (20 : Int)) = false := by simpa using e1
    rw [h0, h1]; rfl
  · have h0 : bareB f_av c = true := by simpa using e0
    have h1 : ((c.ad.length : Int) == (20 : Int)) = true := by simpa using e1
    have a0 := numB_len8 c.n
    have a1 := W4.bytes_length c.k
    have a2 := W4.bytes_length c.v
    have b0 : c.ad.length = 20 := by have := beq_iff_eq.1 h1; omega
    have hq : okVB (lsV 3 (rowT [c.nm, c.ad, c.v.bytes])) = true := ok_ls (xs := [c.nm, c.ad, c.v.bytes]) (by simp only [List.map_cons, List.map_nil, List.sum_cons, List.sum_nil]; omega)
    have hq' : okVB (V.agg [V.bool true, V.str [], V.isl (3 : Nat) (3 : Nat) (rwF (rowT [c.nm, c.ad, c.v.bytes]))]) = true := hq
    rw [hq']; rfl
  · have h0 : bareB f_av c = true := by simpa using e0
    have h1 : ((c.ad.length : Int) == (20 : Int)) = true := by simpa using e1
    rw [h0, h1]; rfl
theorem eok_an (c : CM) : eok f_an c = (bareB f_an c && (((c.ad.length : Int) == (20 : Int)) && true)) := by kernel_rfl
theorem eTs_an (c : CM) : eTs f_an c = [c.nm, c.ad, (numB c.n)] := by kernel_rfl
theorem enc_an (c : CM) (hn : fkP f_an c.nm) (hc : okC c) : LFn Pr 8 [.agg (c.cs .nilSl)] [] (eV f_an c) [] := by
  have hnl := fk_len hn
  have hb : okBaB (BA.mk f_an c) = true := okBa_t ⟨.inr (.inr (.inr (.inr (.inr (.inl rfl))))), hc⟩
  have no : eok f_an c = false → (fun r : Fin × Heap => r = (eV f_an c, [])) (.ret (.tup [.str (bytesOf (ByteArray.mk #[])), .bool false]), []) := by
    intro e
    unfold eV
    rw [if_neg (by rw [e]; decide)]; rfl
  have yes : eok f_an c = true → (fun r : Fin × Heap => r = (eV f_an c, [])) (.ret (.tup [.str (encV (lsV 3 (rowT [c.nm, c.ad, (numB c.n)]))), .bool true]), []) := by
    intro e
    have e2 : encV (lsV 3 (rowT [c.nm, c.ad, (numB c.n)])) = eS f_an c := by
      rw [eS_eq, eIt, eTs_an]; exact encV_eq (is_ls [c.nm, c.ad, (numB c.n)])
    unfold eV
    rw [if_pos e, e2]
  rw [eok_an] at no yes
  refine fnT (OEn_sound f_an) mixed (by kernel_rfl) LoopsOk.noneT (en_an_x c) ?_
  refine wp_chk.2 ⟨by rw [fkB_t hn, hb]; rfl, wp_br.2 ⟨fun e0 => wp_chk_true.2 (wp_leaf.2 (no ?_)), fun e0 => wp_chk_true.2 (wp_br.2 ⟨fun e1 => wp_chk_true.2 (wp_leaf.2 (no ?_)), fun e1 => wp_chk.2 ⟨?_, wp_leaf.2 (yes ?_)⟩⟩)⟩⟩
  · have h0 : bareB f_an c = false := by simpa using e0
    rw [h0]; rfl
  · have h0 : bareB f_an c = true := by simpa using e0
    have h1 : ((c.ad.length : Int) == (20 : Int)) = false := by simpa using e1
    rw [h0, h1]; rfl
  · have h0 : bareB f_an c = true := by simpa using e0
    have h1 : ((c.ad.length : Int) == (20 : Int)) = true := by simpa using e1
    have a0 := numB_len8 c.n
    have a1 := W4.bytes_length c.k
    have a2 := W4.bytes_length c.v
    have b0 : c.ad.length = 20 := by have := beq_iff_eq.1 h1; omega
    have hq : okVB (lsV 3 (rowT [c.nm, c.ad, (numB c.n)])) = true := ok_ls (xs := [c.nm, c.ad, (numB c.n)]) (by simp only [List.map_cons, List.map_nil, List.sum_cons, List.sum_nil]; omega)
    have hq' : okVB (V.agg [V.bool true, V.str [], V.isl (3 : Nat) (3 : Nat) (rwF (rowT [c.nm, c.ad, (numB c.n)]))]) = true := hq
    rw [hq']; rfl
  · have h0 : bareB f_an c = true := by simpa using e0
    have h1 : ((c.ad.length : Int) == (20 : Int)) = true := by simpa using e1
    rw [h0, h1]; rfl
theorem eok_as (c : CM) : eok f_as c = (bareB f_as c && (((c.ad.length : Int) == (20 : Int)) && ((decide ((c.s.length : Int) ≤ (32768 : Int))) && true))) := by kernel_rfl
theorem eTs_as (c : CM) : eTs f_as c = [c.nm, c.ad, c.s] := by kernel_rfl
theorem enc_as (c : CM) (hn : fkP f_as c.nm) (hc : okC c) : LFn Pr 8 [.agg (c.cs .nilSl)] [] (eV f_as c) [] := by
  have hnl := fk_len hn
  have hb : okBaB (BA.mk f_as c) = true := okBa_t ⟨.inr (.inr (.inr (.inr (.inr (.inr (.inl rfl)))))), hc⟩
  have no : eok f_as c = false → (fun r : Fin × Heap => r = (eV f_as c, [])) (.ret (.tup [.str (bytesOf (ByteArray.mk #[])), .bool false]), []) := by
    intro e
    unfold eV
    rw [if_neg (by rw [e]; decide)]; rfl
  have yes : eok f_as c = true → (fun r : Fin × Heap => r = (eV f_as c, [])) (.ret (.tup [.str (encV (lsV 3 (rowT [c.nm, c.ad, c.s]))), .bool true]), []) := by
    intro e
    have e2 : encV (lsV 3 (rowT [c.nm, c.ad, c.s])) = eS f_as c := by
      rw [eS_eq, eIt, eTs_as]; exact encV_eq (is_ls [c.nm, c.ad, c.s])
    unfold eV
    rw [if_pos e, e2]
  rw [eok_as] at no yes
  refine fnT (OEn_sound f_as) mixed (by kernel_rfl) LoopsOk.noneT (en_as_x c) ?_
  refine wp_chk.2 ⟨by rw [fkB_t hn, hb]; rfl, wp_br.2 ⟨fun e0 => wp_chk_true.2 (wp_leaf.2 (no ?_)), fun e0 => wp_chk_true.2 (wp_br.2 ⟨fun e1 => wp_chk_true.2 (wp_leaf.2 (no ?_)), fun e1 => wp_chk_true.2 (wp_br.2 ⟨fun e2 => wp_chk_true.2 (wp_leaf.2 (no ?_)), fun e2 => wp_chk.2 ⟨?_, wp_leaf.2 (yes ?_)⟩⟩)⟩)⟩⟩
  · have h0 : bareB f_as c = false := by simpa using e0
    rw [h0]; rfl
  · have h0 : bareB f_as c = true := by simpa using e0
    have h1 : ((c.ad.length : Int) == (20 : Int)) = false := by simpa using e1
    rw [h0, h1]; rfl
  · have h0 : bareB f_as c = true := by simpa using e0
    have h1 : ((c.ad.length : Int) == (20 : Int)) = true := by simpa using e1
    have h2 : (decide ((c.s.length : Int) ≤ (32768 : Int))) = false := by simpa using e2
    rw [h0, h1, h2]; rfl
  · have h0 : bareB f_as c = true := by simpa using e0
    have h1 : ((c.ad.length : Int) == (20 : Int)) = true := by simpa using e1
    have h2 : (decide ((c.s.length : Int) ≤ (32768 : Int))) = true := by simpa using e2
    have a0 := numB_len8 c.n
    have a1 := W4.bytes_length c.k
    have a2 := W4.bytes_length c.v
    have b0 : c.ad.length = 20 := by have := beq_iff_eq.1 h1; omega
    have b1 : c.s.length ≤ 32768 := by have := of_decide_eq_true h2; omega
    have hq : okVB (lsV 3 (rowT [c.nm, c.ad, c.s])) = true := ok_ls (xs := [c.nm, c.ad, c.s]) (by simp only [List.map_cons, List.map_nil, List.sum_cons, List.sum_nil]; omega)
    have hq' : okVB (V.agg [V.bool true, V.str [], V.isl (3 : Nat) (3 : Nat) (rwF (rowT [c.nm, c.ad, c.s]))]) = true := hq
    rw [hq']; rfl
  · have h0 : bareB f_as c = true := by simpa using e0
    have h1 : ((c.ad.length : Int) == (20 : Int)) = true := by simpa using e1
    have h2 : (decide ((c.s.length : Int) ≤ (32768 : Int))) = true := by simpa using e2
    rw [h0, h1, h2]; rfl
theorem eok_akv (c : CM) : eok f_akv c = (bareB f_akv c && (((c.ad.length : Int) == (20 : Int)) && true)) := by kernel_rfl
theorem eTs_akv (c : CM) : eTs f_akv c = [c.nm, c.ad, c.k.bytes, c.v.bytes] := by kernel_rfl
theorem enc_akv (c : CM) (hn : fkP f_akv c.nm) (hc : okC c) : LFn Pr 8 [.agg (c.cs .nilSl)] [] (eV f_akv c) [] := by
  have hnl := fk_len hn
  have hb : okBaB (BA.mk f_akv c) = true := okBa_t ⟨.inr (.inr (.inr (.inr (.inr (.inr (.inr (.inl rfl))))))), hc⟩
  have no : eok f_akv c = false → (fun r : Fin × Heap => r = (eV f_akv c, [])) (.ret (.tup [.str (bytesOf (ByteArray.mk #[])), .bool false]), []) := by
    intro e
    unfold eV
    rw [if_neg (by rw [e]; decide)]; rfl
  have yes : eok f_akv c = true → (fun r : Fin × Heap => r = (eV f_akv c, [])) (.ret (.tup [.str (encV (lsV 4 (rowT [c.nm, c.ad, c.k.bytes, c.v.bytes]))), .bool true]), []) := by
    intro e
    have e2 : encV (lsV 4 (rowT [c.nm, c.ad, c.k.bytes, c.v.bytes])) = eS f_akv c := by
      rw [eS_eq, eIt, eTs_akv]; exact encV_eq (is_ls [c.nm, c.ad, c.k.bytes, c.v.bytes])
    unfold eV
    rw [if_pos e, e2]
  rw [eok_akv] at no yes
  refine fnT (OEn_sound f_akv) mixed (by kernel_rfl) LoopsOk.noneT (en_akv_x c) ?_
  refine wp_chk.2 ⟨by rw [fkB_t hn, hb]; rfl, wp_br.2 ⟨fun e0 => wp_chk_true.2 (wp_leaf.2 (no ?_)), fun e0 => wp_chk_true.2 (wp_br.2 ⟨fun e1 => wp_chk_true.2 (wp_leaf.2 (no ?_)), fun e1 => wp_chk.2 ⟨?_, wp_leaf.2 (yes ?_)⟩⟩)⟩⟩
  · have h0 : bareB f_akv c = false := by simpa using e0
    rw [h0]; rfl
  · have h0 : bareB f_akv c = true := by simpa using e0
    have h1 : ((c.ad.length : Int) == (20 : Int)) = false := by simpa using e1
    rw [h0, h1]; rfl
  · have h0 : bareB f_akv c = true := by simpa using e0
    have h1 : ((c.ad.length : Int) == (20 : Int)) = true := by simpa using e1
    have a0 := numB_len8 c.n
    have a1 := W4.bytes_length c.k
    have a2 := W4.bytes_length c.v
    have b0 : c.ad.length = 20 := by have := beq_iff_eq.1 h1; omega
    have hq : okVB (lsV 4 (rowT [c.nm, c.ad, c.k.bytes, c.v.bytes])) = true := ok_ls (xs := [c.nm, c.ad, c.k.bytes, c.v.bytes]) (by simp only [List.map_cons, List.map_nil, List.sum_cons, List.sum_nil]; omega)
    have hq' : okVB (V.agg [V.bool true, V.str [], V.isl (3 : Nat) (4 : Nat) (rwF (rowT [c.nm, c.ad, c.k.bytes, c.v.bytes]))]) = true := hq
    rw [hq']; rfl
  · have h0 : bareB f_akv c = true := by simpa using e0
    have h1 : ((c.ad.length : Int) == (20 : Int)) = true := by simpa using e1
    rw [h0, h1]; rfl
theorem eok_e (c : CM) : eok f_e c = (bareB f_e c && true) := by kernel_rfl
theorem eTs_e (c : CM) : eTs f_e c = [c.nm] := by kernel_rfl
theorem enc_e (c : CM) (hn : fkP f_e c.nm) (hc : okC c) : LFn Pr 8 [.agg (c.cs .nilSl)] [] (eV f_e c) [] := by
  have hnl := fk_len hn
  have hb : okBaB (BA.mk f_e c) = true := okBa_t ⟨.inr (.inr (.inr (.inr (.inr (.inr (.inr (.inr (.inl rfl)))))))), hc⟩
  have no : eok f_e c = false → (fun r : Fin × Heap => r = (eV f_e c, [])) (.ret (.tup [.str (bytesOf (ByteArray.mk #[])), .bool false]), []) := by
    intro e
    unfold eV
    rw [if_neg (by rw [e]; decide)]; rfl
  have yes : eok f_e c = true → (fun r : Fin × Heap => r = (eV f_e c, [])) (.ret (.tup [.str (encV (lsV 1 (rowT [c.nm]))), .bool true]), []) := by
    intro e
    have e2 : encV (lsV 1 (rowT [c.nm])) = eS f_e c := by
      rw [eS_eq, eIt, eTs_e]; exact encV_eq (is_ls [c.nm])
    unfold eV
    rw [if_pos e, e2]
  rw [eok_e] at no yes
  refine fnT (OEn_sound f_e) mixed (by kernel_rfl) LoopsOk.noneT (en_e_x c) ?_
  refine wp_chk.2 ⟨by rw [fkB_t hn, hb]; rfl, wp_br.2 ⟨fun e0 => wp_chk_true.2 (wp_leaf.2 (no ?_)), fun e0 => wp_chk.2 ⟨?_, wp_leaf.2 (yes ?_)⟩⟩⟩
  · have h0 : bareB f_e c = false := by simpa using e0
    rw [h0]; rfl
  · have h0 : bareB f_e c = true := by simpa using e0
    have a0 := numB_len8 c.n
    have a1 := W4.bytes_length c.k
    have a2 := W4.bytes_length c.v
    have hq : okVB (lsV 1 (rowT [c.nm])) = true := ok_ls (xs := [c.nm]) (by simp only [List.map_cons, List.map_nil, List.sum_cons, List.sum_nil]; omega)
    have hq' : okVB (V.agg [V.bool true, V.str [], V.isl (3 : Nat) (1 : Nat) (rwF (rowT [c.nm]))]) = true := hq
    rw [hq']; rfl
  · have h0 : bareB f_e c = true := by simpa using e0
    rw [h0]; rfl
theorem eok_s (c : CM) : eok f_s c = (bareB f_s c && ((decide ((c.s.length : Int) ≤ (32768 : Int))) && true)) := by kernel_rfl
theorem eTs_s (c : CM) : eTs f_s c = [c.nm, c.s] := by kernel_rfl
theorem enc_s (c : CM) (hn : fkP f_s c.nm) (hc : okC c) : LFn Pr 8 [.agg (c.cs .nilSl)] [] (eV f_s c) [] := by
  have hnl := fk_len hn
  have hb : okBaB (BA.mk f_s c) = true := okBa_t ⟨.inr (.inr (.inr (.inr (.inr (.inr (.inr (.inr (.inr (rfl))))))))), hc⟩
  have no : eok f_s c = false → (fun r : Fin × Heap => r = (eV f_s c, [])) (.ret (.tup [.str (bytesOf (ByteArray.mk #[])), .bool false]), []) := by
    intro e
    unfold eV
    rw [if_neg (by rw [e]; decide)]; rfl
  have yes : eok f_s c = true → (fun r : Fin × Heap => r = (eV f_s c, [])) (.ret (.tup [.str (encV (lsV 2 (rowT [c.nm, c.s]))), .bool true]), []) := by
    intro e
    have e2 : encV (lsV 2 (rowT [c.nm, c.s])) = eS f_s c := by
      rw [eS_eq, eIt, eTs_s]; exact encV_eq (is_ls [c.nm, c.s])
    unfold eV
    rw [if_pos e, e2]
  rw [eok_s] at no yes
  refine fnT (OEn_sound f_s) mixed (by kernel_rfl) LoopsOk.noneT (en_s_x c) ?_
  refine wp_chk.2 ⟨by rw [fkB_t hn, hb]; rfl, wp_br.2 ⟨fun e0 => wp_chk_true.2 (wp_leaf.2 (no ?_)), fun e0 => wp_chk_true.2 (wp_br.2 ⟨fun e1 => wp_chk_true.2 (wp_leaf.2 (no ?_)), fun e1 => wp_chk.2 ⟨?_, wp_leaf.2 (yes ?_)⟩⟩)⟩⟩
  · have h0 : bareB f_s c = false := by simpa using e0
    rw [h0]; rfl
  · have h0 : bareB f_s c = true := by simpa using e0
    have h1 : (decide ((c.s.length : Int) ≤ (32768 : Int))) = false := by simpa using e1
    rw [h0, h1]; rfl
  · have h0 : bareB f_s c = true := by simpa using e0
    have h1 : (decide ((c.s.length : Int) ≤ (32768 : Int))) = true := by simpa using e1
    have a0 := numB_len8 c.n
    have a1 := W4.bytes_length c.k
    have a2 := W4.bytes_length c.v
    have b0 : c.s.length ≤ 32768 := by have := of_decide_eq_true h1; omega
    have hq : okVB (lsV 2 (rowT [c.nm, c.s])) = true := ok_ls (xs := [c.nm, c.s]) (by simp only [List.map_cons, List.map_nil, List.sum_cons, List.sum_nil]; omega)
    have hq' : okVB (V.agg [V.bool true, V.str [], V.isl (3 : Nat) (2 : Nat) (rwF (rowT [c.nm, c.s]))]) = true := hq
    rw [hq']; rfl
  · have h0 : bareB f_s c = true := by simpa using e0
    have h1 : (decide ((c.s.length : Int) ≤ (32768 : Int))) = true := by simpa using e1
    rw [h0, h1]; rfl
end
end Go.Proofs.YtbgiickegljpoaaDoor.K
end
section
open Go Go.Lh
namespace Go.Proofs.YtbgiickegljpoaaDoor.K
noncomputable section
set_option maxRecDepth 100000
def ca_read : List V → Heap → Option CM := fun a h => match a, h with
  | [.agg [.str nm, .str ad, .u64 n, .u64 ka, .u64 kb, .u64 kc, .u64 kd, .u64 va, .u64 vb, .u64 vc, .u64 vd, .str s, .int .i64 tk, .str tf, .str tt, .u64 tn, .u64 tg, .u64 pa, .u64 pb, .u64 pc, .u64 pd, .u64 ia, .u64 ib, .u64 ic, .u64 id, .u64 wa, .u64 wb, .u64 wc, .u64 wd, .str td, .nilSl]], [] =>
    some ⟨nm, ad, n, ⟨ka, kb, kc, kd⟩, ⟨va, vb, vc, vd⟩, s, tk, tf, tt, tn, tg, ⟨pa, pb, pc, pd⟩, ⟨ia, ib, ic, id⟩, ⟨wa, wb, wc, wd⟩, td⟩
  | _, _ => none
def eokO (f : List B) (c : CM) : Bool := @decide (eok f c = true) (Classical.propDecidable _)
theorem eokO_eq (f : List B) (c : CM) : eokO f c = eok f c := by
  unfold eokO
  cases h : eok f c with
  | true => exact @decide_eq_true _ (Classical.propDecidable _) rfl
  | false => exact @decide_eq_false _ (Classical.propDecidable _) (by decide)
def isF (f : List B) : Prop := f = f_n ∨ f = f_a ∨ f = f_ak ∨ f = f_av ∨ f = f_an ∨ f = f_as ∨ f = f_akv ∨ f = f_e ∨ f = f_s
theorem enc_all {f : List B} (hf : isF f) (c : CM) (hn : fkP f c.nm) (hc : okC c) : LFn Pr 8 [.agg (c.cs .nilSl)] [] (eV f c) [] := by
  rcases hf with rfl | rfl | rfl | rfl | rfl | rfl | rfl | rfl | rfl
  · exact enc_n c hn hc
  · exact enc_a c hn hc
  · exact enc_ak c hn hc
  · exact enc_av c hn hc
  · exact enc_an c hn hc
  · exact enc_as c hn hc
  · exact enc_akv c hn hc
  · exact enc_e c hn hc
  · exact enc_s c hn hc
def ecP (f : List B) (c : CM) : Prop := isF f ∧ fkP f c.nm ∧ okC c
def ecB (f : List B) (c : CM) : Bool := @decide (ecP f c) (Classical.propDecidable _)
def ecm_f (f : List B) (c : CM) : Tr (Fin × Heap) := .chk (ecB f c) (.br (eokO f c) (.leaf (.ret (.tup [.str (eS f c), .bool true]), [])) (.leaf (.ret (.tup [.str [], .bool false]), [])))
theorem ecm_ok (f : List B) : ∀ args h r, ((ctT ca_read (ecm_f f)) args h).is r → LFn Pr 8 args h r.1 r.2 := by
  refine ctT_ok (fun c => [.agg (c.cs .nilSl)]) (fun _ => []) ?_ (fun c r h => ?_)
  · intro args h a e
    unfold ca_read at e
    split at e <;> cases e <;> exact ⟨rfl, rfl⟩
  · rw [ecm_f, Tr.is_chk, Tr.is_br] at h
    obtain ⟨h1, h⟩ := h
    obtain ⟨h2, h3, h4⟩ : ecP f c := @of_decide_eq_true _ (Classical.propDecidable _) h1
    have H := enc_all h2 c h3 h4
    unfold eV at H
    rw [eokO_eq] at h
    split at h
    · rename_i hh
      rw [Tr.is_leaf] at h; subst h
      rw [if_pos hh] at H; exact H
    · rename_i hh
      rw [Tr.is_leaf] at h; subst h
      rw [if_neg hh] at H; exact H
/-- the item that is read -/
def dqP (n : Nat) (q : RW) (s : List B) : Prop := ∃ l : List It, decF s = some (.lst l) ∧ l.length = n ∧ It.rI l = q
def dqB (n : Nat) (q : RW) (s : List B) : Bool := @decide (dqP n q s) (Classical.propDecidable _)
def dq_f (n : Nat) (q : RW) (s : List B) : Tr (Fin × Heap) := .chk (dqB n q s) (.leaf (.ret (.tup [.agg [.bool true, .str [], .isl 3 n (rwF q)], .int .i64 0]), []))
theorem dcO_t {s : List B} {x : It} (h : decF s = some x) : dcO s = true := @decide_eq_true _ (Classical.propDecidable _) ⟨_, h⟩
theorem dcO_n {s : List B} (h : decF s = none) : dcO s = false := @decide_eq_false _ (Classical.propDecidable _) (by rw [h]; rintro ⟨x, hx⟩; cases hx)
theorem dq_ok (n : Nat) (q : RW) : ∀ args h r, ((ctT dc_read (dq_f n q)) args h).is r → LFn Pr 17 args h r.1 r.2 := by
  intro args h r hr
  refine dc_ok args h r ?_
  unfold ctT at hr ⊢
  split at hr
  · rename_i s hs
    rw [dq_f, Tr.is_chk] at hr
    obtain ⟨h1, hr⟩ := hr
    obtain ⟨l, h2, rfl, rfl⟩ : dqP n q s := @of_decide_eq_true _ (Classical.propDecidable _) h1
    rw [dc_f, Tr.is_br, if_pos (dcO_t h2), dcI_eq h2, itV_lst]
    exact hr
  · exact hr
def KD2 (f : List B) (n : Nat) (q : RW) : KnownT := (17, ctT dc_read (dq_f n q)) :: (10, ctT readS (fk_f f)) :: (8, ctT ca_read (ecm_f f)) :: (18, ta_g) :: (51, ctS ofV) :: KR5
theorem KD2_ok (f : List B) (n : Nat) (q : RW) : KOkT Pr (KD2 f n q) := KOkT.cons (Enters.of (fn := Go.Proofs.Tryd.f17) (by kernel_rfl) (by kernel_rfl)) (dq_ok n q) (KOkT.cons (Enters.of (fn := Go.Proofs.Tryd.f10) (by kernel_rfl) (by kernel_rfl)) (fk_ok f) (KOkT.cons (Enters.of (fn := Go.Proofs.Tryd.f8) (by kernel_rfl) (by kernel_rfl)) (ecm_ok f) (KOkT.cons (Enters.of (fn := Go.Proofs.Tryd.f18) (by kernel_rfl) (by kernel_rfl)) ta_ok (KOkT.cons of_en (ctS_ok of_fn) KR5_ok))))
def OD2 (f : List B) (n : Nat) (q : RW) : OrcT := autoT Pr ext (KD2 f n q) [33,34,35,36,37] 3
theorem OD2_sound (f : List B) (n : Nat) (q : RW) : OrcSound Pr (OD2 f n q).o := autoT_sound mixed ext_ok (KD2_ok f n q) (by kernel_rfl) 3
theorem dc_n_x (s : List B) (q : RW) : Tr.prune ((Tr.Sh.any.both
 ((Tr.Sh.any.both Tr.Sh.any).r.r.r.both Tr.Sh.any.l.l.l.l).r).l.r.r.r.r.r.r.r.r.r.r.r.r.r)
 (execBF Pr (OD2 f_n (2 : Nat) q) noLoopsT (100 : Nat) Go.Proofs.Tryd.f9 [V.str s] []) =
 Tr.chk (dqB (2 : Nat) q s && true && true && (fkB f_n (q.s (0 : Nat)) && true && true && true))
 (Tr.br (!smallO (q.b (1 : Nat)) (q.s (1 : Nat)))
 (Tr.chk true
 (Tr.leaf
 (Fin.ret
 (V.tup
 [V.agg
 [V.str (bytesOf (ByteArray.mk #[])), V.str (bytesOf (ByteArray.mk #[])),
 V.u64 (BitVec.ofInt (64 : Nat) (0 : Int)), V.u64 (BitVec.ofInt (64 : Nat) (0 : Int)),
 V.u64 (BitVec.ofInt (64 : Nat) (0 : Int)), V.u64 (BitVec.ofInt (64 : Nat) (0 : Int)),
 V.u64 (BitVec.ofInt (64 : Nat) (0 : Int)), V.u64 (BitVec.ofInt (64 : Nat) (0 : Int)),
 V.u64 (BitVec.ofInt (64 : Nat) (0 : Int)), V.u64 (BitVec.ofInt (64 : Nat) (0 : Int)),
 V.u64 (BitVec.ofInt (64 : Nat) (0 : Int)), V.str (bytesOf (ByteArray.mk #[])),
 V.int IntKind.i64 (0 : Int), V.str (bytesOf (ByteArray.mk #[])), V.str (bytesOf (ByteArray.mk #[])),
 V.u64 (BitVec.ofInt (64 : Nat) (0 : Int)), V.u64 (BitVec.ofInt (64 : Nat) (0 : Int)),
 V.u64 (BitVec.ofInt (64 : Nat) (0 : Int)), V.u64 (BitVec.ofInt (64 : Nat) (0 : Int)),
 V.u64 (BitVec.ofInt (64 : Nat) (0 : Int)), V.u64 (BitVec.ofInt (64 : Nat) (0 : Int)),
 V.u64 (BitVec.ofInt (64 : Nat) (0 : Int)), V.u64 (BitVec.ofInt (64 : Nat) (0 : Int)),
 V.u64 (BitVec.ofInt (64 : Nat) (0 : Int)), V.u64 (BitVec.ofInt (64 : Nat) (0 : Int)),
 V.u64 (BitVec.ofInt (64 : Nat) (0 : Int)), V.u64 (BitVec.ofInt (64 : Nat) (0 : Int)),
 V.u64 (BitVec.ofInt (64 : Nat) (0 : Int)), V.u64 (BitVec.ofInt (64 : Nat) (0 : Int)),
 V.str (bytesOf (ByteArray.mk #[])), V.nilSl],
 V.bool false]),
 [])))
 (Tr.chk
 (ecB f_n
 (CM.mk (q.s (0 : Nat)) (bytesOf (ByteArray.mk #[])) (smallN (q.b (1 : Nat)) (q.s (1 : Nat)))
 (W4.mk (BitVec.ofInt (64 : Nat) (0 : Int)) (BitVec.ofInt (64 : Nat) (0 : Int))
 (BitVec.ofInt (64 : Nat) (0 : Int)) (BitVec.ofInt (64 : Nat) (0 : Int)))
 (W4.mk (BitVec.ofInt (64 : Nat) (0 : Int)) (BitVec.ofInt (64 : Nat) (0 : Int))
 (BitVec.ofInt (64 : Nat) (0 : Int)) (BitVec.ofInt (64 : Nat) (0 : Int)))
 (bytesOf (ByteArray.mk #[])) (0 : Int) (bytesOf (ByteArray.mk #[])) (bytesOf (ByteArray.mk #[]))
 (BitVec.ofInt (64 : Nat) (0 : Int)) (BitVec.ofInt (64 : Nat) (0 : Int))
 (W4.mk (BitVec.ofInt (64 : Nat) (0 : Int)) (BitVec.ofInt (64 : Nat) (0 : Int))
 (BitVec.ofInt (64 : Nat) (0 : Int)) (BitVec.ofInt (64 : Nat) (0 : Int)))
 (W4.mk (BitVec.ofInt (64 : Nat) (0 : Int)) (BitVec.ofInt (64 : Nat) (0 : Int))
 (BitVec.ofInt (64 : Nat) (0 : Int)) (BitVec.ofInt (64 : Nat) (0 : Int)))
 (W4.mk (BitVec.ofInt (64 : Nat) (0 : Int)) (BitVec.ofInt (64 : Nat) (0 : Int))
 (BitVec.ofInt (64 : Nat) (0 : Int)) (BitVec.ofInt (64 : Nat) (0 : Int)))
 (bytesOf (ByteArray.mk #[]))))
 (Tr.br
 (eokO f_n
 (CM.mk (q.s (0 : Nat)) (bytesOf (ByteArray.mk #[])) (smallN (q.b (1 : Nat)) (q.s (1 : Nat)))
 (W4.mk (BitVec.ofInt (64 : Nat) (0 : Int)) (BitVec.ofInt (64 : Nat) (0 : Int))
 (BitVec.ofInt (64 : Nat) (0 : Int)) (BitVec.ofInt (64 : Nat) (0 : Int)))
 (W4.mk (BitVec.ofInt (64 : Nat) (0 : Int)) (BitVec.ofInt (64 : Nat) (0 : Int))
 (BitVec.ofInt (64 : Nat) (0 : Int)) (BitVec.ofInt (64 : Nat) (0 : Int)))
 (bytesOf (ByteArray.mk #[])) (0 : Int) (bytesOf (ByteArray.mk #[])) (bytesOf (ByteArray.mk #[]))
 (BitVec.ofInt (64 : Nat) (0 : Int)) (BitVec.ofInt (64 : Nat) (0 : Int))
 (W4.mk (BitVec.ofInt (64 : Nat) (0 : Int)) (BitVec.ofInt (64 : Nat) (0 : Int))
 (BitVec.ofInt (64 : Nat) (0 : Int)) (BitVec.ofInt (64 : Nat) (0 : Int)))
 (W4.mk (BitVec.ofInt (64 : Nat) (0 : Int)) (BitVec.ofInt (64 : Nat) (0 : Int))
 (BitVec.ofInt (64 : Nat) (0 : Int)) (BitVec.ofInt (64 : Nat) (0 : Int)))
 (W4.mk (BitVec.ofInt (64 : Nat) (0 : Int)) (BitVec.ofInt (64 : Nat) (0 : Int))
 (BitVec.ofInt (64 : Nat) (0 : Int)) (BitVec.ofInt (64 : Nat) (0 : Int)))
 (bytesOf (ByteArray.mk #[]))))
 (Tr.chk true
 (Tr.br
 (!eS f_n
 (CM.mk (q.s (0 : Nat)) (bytesOf (ByteArray.mk #[])) (smallN (q.b (1 : Nat)) (q.s (1 : Nat)))
 (W4.mk (BitVec.ofInt (64 : Nat) (0 : Int)) (BitVec.ofInt (64 : Nat) (0 : Int))
 (BitVec.ofInt (64 : Nat) (0 : Int)) (BitVec.ofInt (64 : Nat) (0 : Int)))
 (W4.mk (BitVec.ofInt (64 : Nat) (0 : Int)) (BitVec.ofInt (64 : Nat) (0 : Int))
 (BitVec.ofInt (64 : Nat) (0 : Int)) (BitVec.ofInt (64 : Nat) (0 : Int)))
 (bytesOf (ByteArray.mk #[])) (0 : Int) (bytesOf (ByteArray.mk #[])) (bytesOf (ByteArray.mk #[]))
 (BitVec.ofInt (64 : Nat) (0 : Int)) (BitVec.ofInt (64 : Nat) (0 : Int))
 (W4.mk (BitVec.ofInt (64 : Nat) (0 : Int)) (BitVec.ofInt (64 : Nat) (0 : Int))
 (BitVec.ofInt (64 : Nat) (0 : Int)) (BitVec.ofInt (64 : Nat) (0 : Int)))
 (W4.mk (BitVec.ofInt (64 : Nat) (0 : Int)) (BitVec.ofInt (64 : Nat) (0 : Int))
 (BitVec.ofInt (64 : Nat) (0 : Int)) (BitVec.ofInt (64 : Nat) (0 : Int)))
 (W4.mk (BitVec.ofInt (64 : Nat) (0 : Int)) (BitVec.ofInt (64 : Nat) (0 : Int))
 (BitVec.ofInt (64 : Nat) (0 : Int)) (BitVec.ofInt (64 : Nat) (0 : Int)))
 (bytesOf (ByteArray.mk #[]))) ==
 s)
 (Tr.chk true
 (Tr.leaf
 (Fin.ret
 (V.tup
 [V.agg
 [V.str (bytesOf (ByteArray.mk #[])), V.str (bytesOf (ByteArray.mk #[])),
 V.u64 (BitVec.ofInt (64 : Nat) (0 : Int)), V.u64 (BitVec.ofInt (64 : Nat) (0 : Int)),
 V.u64 (BitVec.ofInt (64 : Nat) (0 : Int)), V.u64 (BitVec.ofInt (64 : Nat) (0 : Int)),
 V.u64 (BitVec.ofInt (64 : Nat) (0 : Int)), V.u64 (BitVec.ofInt (64 : Nat) (0 : Int)),
 V.u64 (BitVec.ofInt (64 : Nat) (0 : Int)), V.u64 (BitVec.ofInt (64 : Nat) (0 : Int)),
 V.u64 (BitVec.ofInt (64 : Nat) (0 : Int)), V.str (bytesOf (ByteArray.mk #[])),
 V.int IntKind.i64 (0 : Int), V.str (bytesOf (ByteArray.mk #[])),
 V.str (bytesOf (ByteArray.mk #[])), V.u64 (BitVec.ofInt (64 : Nat) (0 : Int)),
 V.u64 (BitVec.ofInt (64 : Nat) (0 : Int)), V.u64 (BitVec.ofInt (64 : Nat) (0 : Int)),
 V.u64 (BitVec.ofInt (64 : Nat) (0 : Int)), V.u64 (BitVec.ofInt (64 : Nat) (0 : Int)),
 V.u64 (BitVec.ofInt (64 : Nat) (0 : Int)), V.u64 (BitVec.ofInt (64 : Nat) (0 : Int)),
 V.u64 (BitVec.ofInt (64 : Nat) (0 : Int)), V.u64 (BitVec.ofInt (64 : Nat) (0 : Int)),
 V.u64 (BitVec.ofInt (64 : Nat) (0 : Int)), V.u64 (BitVec.ofInt (64 : Nat) (0 : Int)),
 V.u64 (BitVec.ofInt (64 : Nat) (0 : Int)), V.u64 (BitVec.ofInt (64 : Nat) (0 : Int)),
 V.u64 (BitVec.ofInt (64 : Nat) (0 : Int)), V.str (bytesOf (ByteArray.mk #[])), V.nilSl],
 V.bool false]),
 [])))
 (Tr.chk true
 (Tr.leaf
 (Fin.ret
 (V.tup
 [V.agg
 [V.str (q.s (0 : Nat)), V.str (bytesOf (ByteArray.mk #[])),
 V.u64 (smallN (q.b (1 : Nat)) (q.s (1 : Nat))), V.u64 (BitVec.ofInt (64 : Nat) (0 : Int)),
 V.u64 (BitVec.ofInt (64 : Nat) (0 : Int)), V.u64 (BitVec.ofInt (64 : Nat) (0 : Int)),
 V.u64 (BitVec.ofInt (64 : Nat) (0 : Int)), V.u64 (BitVec.ofInt (64 : Nat) (0 : Int)),
 V.u64 (BitVec.ofInt (64 : Nat) (0 : Int)), V.u64 (BitVec.ofInt (64 : Nat) (0 : Int)),
 V.u64 (BitVec.ofInt (64 : Nat) (0 : Int)), V.str (bytesOf (ByteArray.mk #[])),
 V.int IntKind.i64 (0 : Int), V.str (bytesOf (ByteArray.mk #[])),
 V.str (bytesOf (ByteArray.mk #[])), V.u64 (BitVec.ofInt (64 : Nat) (0 : Int)),
 V.u64 (BitVec.ofInt (64 : Nat) (0 : Int)), V.u64 (BitVec.ofInt (64 : Nat) (0 : Int)),
 V.u64 (BitVec.ofInt (64 : Nat) (0 : Int)), V.u64 (BitVec.ofInt (64 : Nat) (0 : Int)),
 V.u64 (BitVec.ofInt (64 : Nat) (0 : Int)), V.u64 (BitVec.ofInt (64 : Nat) (0 : Int)),
 V.u64 (BitVec.ofInt (64 : Nat) (0 : Int)), V.u64 (BitVec.ofInt (64 : Nat) (0 : Int)),
 V.u64 (BitVec.ofInt (64 : Nat) (0 : Int)), V.u64 (BitVec.ofInt (64 : Nat) (0 : Int)),
 V.u64 (BitVec.ofInt (64 : Nat) (0 : Int)), V.u64 (BitVec.ofInt (64 : Nat) (0 : Int)),
 V.u64 (BitVec.ofInt (64 : Nat) (0 : Int)), V.str (bytesOf (ByteArray.mk #[])), V.nilSl],
 V.bool true]),
 [])))))
 (Tr.chk true
 (Tr.leaf
 (Fin.ret
 (V.tup
 [V.agg
 [V.str (bytesOf (ByteArray.mk #[])), V.str (bytesOf (ByteArray.mk #[])),
 V.u64 (BitVec.ofInt (64 : Nat) (0 : Int)), V.u64 (BitVec.ofInt (64 : Nat) (0 : Int)),
 V.u64 (BitVec.ofInt (64 : Nat) (0 : Int)), V.u64 (BitVec.ofInt (64 : Nat) (0 : Int)),
 V.u64 (BitVec.ofInt (64 : Nat) (0 : Int)), V.u64 (BitVec.ofInt (64 : Nat) (0 : Int)),
 V.u64 (BitVec.ofInt (64 : Nat) (0 : Int)), V.u64 (BitVec.ofInt (64 : Nat) (0 : Int)),
 V.u64 (BitVec.ofInt (64 : Nat) (0 : Int)), V.str (bytesOf (ByteArray.mk #[])),
 V.int IntKind.i64 (0 : Int), V.str (bytesOf (ByteArray.mk #[])),
 V.str (bytesOf (ByteArray.mk #[])), V.u64 (BitVec.ofInt (64 : Nat) (0 : Int)),
 V.u64 (BitVec.ofInt (64 : Nat) (0 : Int)), V.u64 (BitVec.ofInt (64 : Nat) (0 : Int)),
 V.u64 (BitVec.ofInt (64 : Nat) (0 : Int)), V.u64 (BitVec.ofInt (64 : Nat) (0 : Int)),
 V.u64 (BitVec.ofInt (64 : Nat) (0 : Int)), V.u64 (BitVec.ofInt (64 : Nat) (0 : Int)),
 V.u64 (BitVec.ofInt (64 : Nat) (0 : Int)), V.u64 (BitVec.ofInt (64 : Nat) (0 : Int)),
 V.u64 (BitVec.ofInt (64 : Nat) (0 : Int)), V.u64 (BitVec.ofInt (64 : Nat) (0 : Int)),
 V.u64 (BitVec.ofInt (64 : Nat) (0 : Int)), V.u64 (BitVec.ofInt (64 : Nat) (0 : Int)),
 V.u64 (BitVec.ofInt (64 : Nat) (0 : Int)), V.str (bytesOf (ByteArray.mk #[])), V.nilSl],
 V.bool false]),
 [])))))) := by kernel_rfl
theorem dc_a_x (s : List B) (q : RW) : Tr.prune (((Tr.Sh.any.both Tr.Sh.any).r.r.r.both
 Tr.Sh.any.l.l.l.l).r.r.l.r.r.r.r.r.r.r.r.r.r.r.r.r)
 (execBF Pr (OD2 f_a (2 : Nat) q) noLoopsT (100 : Nat) Go.Proofs.Tryd.f9 [V.str s] []) =
 Tr.chk
 (dqB (2 : Nat) q s && true && true &&
 (fkB f_a (q.s (0 : Nat)) && true && true &&
 ecB f_a
 (CM.mk (q.s (0 : Nat)) (q.s (1 : Nat)) (BitVec.ofInt (64 : Nat) (0 : Int))
 (W4.mk (BitVec.ofInt (64 : Nat) (0 : Int)) (BitVec.ofInt (64 : Nat) (0 : Int))
 (BitVec.ofInt (64 : Nat) (0 : Int)) (BitVec.ofInt (64 : Nat) (0 : Int)))
 (W4.mk (BitVec.ofInt (64 : Nat) (0 : Int)) (BitVec.ofInt (64 : Nat) (0 : Int))
 (BitVec.ofInt (64 : Nat) (0 : Int)) (BitVec.ofInt (64 : Nat) (0 : Int)))
 (bytesOf (ByteArray.mk #[])) (0 : Int) (bytesOf (ByteArray.mk #[])) (bytesOf (ByteArray.mk #[]))
 (BitVec.ofInt (64 : Nat) (0 : Int)) (BitVec.ofInt (64 : Nat) (0 : Int))
 (W4.mk (BitVec.ofInt (64 : Nat) (0 : Int)) (BitVec.ofInt (64 : Nat) (0 : Int))
 (BitVec.ofInt (64 : Nat) (0 : Int)) (BitVec.ofInt (64 : Nat) (0 : Int)))
 (W4.mk (BitVec.ofInt (64 : Nat) (0 : Int)) (BitVec.ofInt (64 : Nat) (0 : Int))
 (BitVec.ofInt (64 : Nat) (0 : Int)) (BitVec.ofInt (64 : Nat) (0 : Int)))
 (W4.mk (BitVec.ofInt (64 : Nat) (0 : Int)) (BitVec.ofInt (64 : Nat) (0 : Int))
 (BitVec.ofInt (64 : Nat) (0 : Int)) (BitVec.ofInt (64 : Nat) (0 : Int)))
 (bytesOf (ByteArray.mk #[])))))
 (Tr.br
 (eokO f_a
 (CM.mk (q.s (0 : Nat)) (q.s (1 : Nat)) (BitVec.ofInt (64 : Nat) (0 : Int))
 (W4.mk (BitVec.ofInt (64 : Nat) (0 : Int)) (BitVec.ofInt (64 : Nat) (0 : Int))
 (BitVec.ofInt (64 : Nat) (0 : Int)) (BitVec.ofInt (64 : Nat) (0 : Int)))
 (W4.mk (BitVec.ofInt (64 : Nat) (0 : Int)) (BitVec.ofInt (64 : Nat) (0 : Int))
 (BitVec.ofInt (64 : Nat) (0 : Int)) (BitVec.ofInt (64 : Nat) (0 : Int)))
 (bytesOf (ByteArray.mk #[])) (0 : Int) (bytesOf (ByteArray.mk #[])) (bytesOf (ByteArray.mk #[]))
 (BitVec.ofInt (64 : Nat) (0 : Int)) (BitVec.ofInt (64 : Nat) (0 : Int))
 (W4.mk (BitVec.ofInt (64 : Nat) (0 : Int)) (BitVec.ofInt (64 : Nat) (0 : Int))
 (BitVec.ofInt (64 : Nat) (0 : Int)) (BitVec.ofInt (64 : Nat) (0 : Int)))
 (W4.mk (BitVec.ofInt (64 : Nat) (0 : Int)) (BitVec.ofInt (64 : Nat) (0 : Int))
 (BitVec.ofInt (64 : Nat) (0 : Int)) (BitVec.ofInt (64 : Nat) (0 : Int)))
 (W4.mk (BitVec.ofInt (64 : Nat) (0 : Int)) (BitVec.ofInt (64 : Nat) (0 : Int))
 (BitVec.ofInt (64 : Nat) (0 : Int)) (BitVec.ofInt (64 : Nat) (0 : Int)))
 (bytesOf (ByteArray.mk #[]))))
 (Tr.chk true
 (Tr.br
 (!eS f_a
 (CM.mk (q.s (0 : Nat)) (q.s (1 : Nat)) (BitVec.ofInt (64 : Nat) (0 : Int))
 (W4.mk (BitVec.ofInt (64 : Nat) (0 : Int)) (BitVec.ofInt (64 : Nat) (0 : Int))
 (BitVec.ofInt (64 : Nat) (0 : Int)) (BitVec.ofInt (64 : Nat) (0 : Int)))
 (W4.mk (BitVec.ofInt (64 : Nat) (0 : Int)) (BitVec.ofInt (64 : Nat) (0 : Int))
 (BitVec.ofInt (64 : Nat) (0 : Int)) (BitVec.ofInt (64 : Nat) (0 : Int)))
 (bytesOf (ByteArray.mk #[])) (0 : Int) (bytesOf (ByteArray.mk #[])) (bytesOf (ByteArray.mk #[]))
 (BitVec.ofInt (64 : Nat) (0 : Int)) (BitVec.ofInt (64 : Nat) (0 : Int))
 (W4.mk (BitVec.ofInt (64 : Nat) (0 : Int)) (BitVec.ofInt (64 : Nat) (0 : Int))
 (BitVec.ofInt (64 : Nat) (0 : Int)) (BitVec.ofInt (64 : Nat) (0 : Int)))
 (W4.mk (BitVec.ofInt (64 : Nat) (0 : Int)) (BitVec.ofInt (64 : Nat) (0 : Int))
 (BitVec.ofInt (64 : Nat) (0 : Int)) (BitVec.ofInt (64 : Nat) (0 : Int)))
 (W4.mk (BitVec.ofInt (64 : Nat) (0 : Int)) (BitVec.ofInt (64 : Nat) (0 : Int))
 (BitVec.ofInt (64 : Nat) (0 : Int)) (BitVec.ofInt (64 : Nat) (0 : Int)))
 (bytesOf (ByteArray.mk #[]))) ==
 s)
 (Tr.chk true
 (Tr.leaf
 (Fin.ret
 (V.tup
 [V.agg
 [V.str (bytesOf (ByteArray.mk #[])), V.str (bytesOf (ByteArray.mk #[])),
 V.u64 (BitVec.ofInt (64 : Nat) (0 : Int)), V.u64 (BitVec.ofInt (64 : Nat) (0 : Int)),
 V.u64 (BitVec.ofInt (64 : Nat) (0 : Int)), V.u64 (BitVec.ofInt (64 : Nat) (0 : Int)),
 V.u64 (BitVec.ofInt (64 : Nat) (0 : Int)), V.u64 (BitVec.ofInt (64 : Nat) (0 : Int)),
 V.u64 (BitVec.ofInt (64 : Nat) (0 : Int)), V.u64 (BitVec.ofInt (64 : Nat) (0 : Int)),
 V.u64 (BitVec.ofInt (64 : Nat) (0 : Int)), V.str (bytesOf (ByteArray.mk #[])),
 V.int IntKind.i64 (0 : Int), V.str (bytesOf (ByteArray.mk #[])),
 V.str (bytesOf (ByteArray.mk #[])), V.u64 (BitVec.ofInt (64 : Nat) (0 : Int)),
 V.u64 (BitVec.ofInt (64 : Nat) (0 : Int)), V.u64 (BitVec.ofInt (64 : Nat) (0 : Int)),
 V.u64 (BitVec.ofInt (64 : Nat) (0 : Int)), V.u64 (BitVec.ofInt (64 : Nat) (0 : Int)),
 V.u64 (BitVec.ofInt (64 : Nat) (0 : Int)), V.u64 (BitVec.ofInt (64 : Nat) (0 : Int)),
 V.u64 (BitVec.ofInt (64 : Nat) (0 : Int)), V.u64 (BitVec.ofInt (64 : Nat) (0 : Int)),
 V.u64 (BitVec.ofInt (64 : Nat) (0 : Int)), V.u64 (BitVec.ofInt (64 : Nat) (0 : Int)),
 V.u64 (BitVec.ofInt (64 : Nat) (0 : Int)), V.u64 (BitVec.ofInt (64 : Nat) (0 : Int)),
 V.u64 (BitVec.ofInt (64 : Nat) (0 : Int)), V.str (bytesOf (ByteArray.mk #[])), V.nilSl],
 V.bool false]),
 [])))
 (Tr.chk true
 (Tr.leaf
 (Fin.ret
 (V.tup
 [V.agg
 [V.str (q.s (0 : Nat)), V.str (q.s (1 : Nat)), V.u64 (BitVec.ofInt (64 : Nat) (0 : Int)),
 V.u64 (BitVec.ofInt (64 : Nat) (0 : Int)), V.u64 (BitVec.ofInt (64 : Nat) (0 : Int)),
 V.u64 (BitVec.ofInt (64 : Nat) (0 : Int)), V.u64 (BitVec.ofInt (64 : Nat) (0 : Int)),
 V.u64 (BitVec.ofInt (64 : Nat) (0 : Int)), V.u64 (BitVec.ofInt (64 : Nat) (0 : Int)),
 V.u64 (BitVec.ofInt (64 : Nat) (0 : Int)), V.u64 (BitVec.ofInt (64 : Nat) (0 : Int)),
 V.str (bytesOf (ByteArray.mk #[])), V.int IntKind.i64 (0 : Int),
 V.str (bytesOf (ByteArray.mk #[])), V.str (bytesOf (ByteArray.mk #[])),
 V.u64 (BitVec.ofInt (64 : Nat) (0 : Int)), V.u64 (BitVec.ofInt (64 : Nat) (0 : Int)),
 V.u64 (BitVec.ofInt (64 : Nat) (0 : Int)), V.u64 (BitVec.ofInt (64 : Nat) (0 : Int)),
 V.u64 (BitVec.ofInt (64 : Nat) (0 : Int)), V.u64 (BitVec.ofInt (64 : Nat) (0 : Int)),
 V.u64 (BitVec.ofInt (64 : Nat) (0 : Int)), V.u64 (BitVec.ofInt (64 : Nat) (0 : Int)),
 V.u64 (BitVec.ofInt (64 : Nat) (0 : Int)), V.u64 (BitVec.ofInt (64 : Nat) (0 : Int)),
 V.u64 (BitVec.ofInt (64 : Nat) (0 : Int)), V.u64 (BitVec.ofInt (64 : Nat) (0 : Int)),
 V.u64 (BitVec.ofInt (64 : Nat) (0 : Int)), V.u64 (BitVec.ofInt (64 : Nat) (0 : Int)),
 V.str (bytesOf (ByteArray.mk #[])), V.nilSl],
 V.bool true]),
 [])))))
 (Tr.chk true
 (Tr.leaf
 (Fin.ret
 (V.tup
 [V.agg
 [V.str (bytesOf (ByteArray.mk #[])), V.str (bytesOf (ByteArray.mk #[])),
 V.u64 (BitVec.ofInt (64 : Nat) (0 : Int)), V.u64 (BitVec.ofInt (64 : Nat) (0 : Int)),
 V.u64 (BitVec.ofInt (64 : Nat) (0 : Int)), V.u64 (BitVec.ofInt (64 : Nat) (0 : Int)),
 V.u64 (BitVec.ofInt (64 : Nat) (0 : Int)), V.u64 (BitVec.ofInt (64 : Nat) (0 : Int)),
 V.u64 (BitVec.ofInt (64 : Nat) (0 : Int)), V.u64 (BitVec.ofInt (64 : Nat) (0 : Int)),
 V.u64 (BitVec.ofInt (64 : Nat) (0 : Int)), V.str (bytesOf (ByteArray.mk #[])),
 V.int IntKind.i64 (0 : Int), V.str (bytesOf (ByteArray.mk #[])), V.str (bytesOf (ByteArray.mk #[])),
 V.u64 (BitVec.ofInt (64 : Nat) (0 : Int)), V.u64 (BitVec.ofInt (64 : Nat) (0 : Int)),
 V.u64 (BitVec.ofInt (64 : Nat) (0 : Int)), V.u64 (BitVec.ofInt (64 : Nat) (0 : Int)),
 V.u64 (BitVec.ofInt (64 : Nat) (0 : Int)), V.u64 (BitVec.ofInt (64 : Nat) (0 : Int)),
 V.u64 (BitVec.ofInt (64 : Nat) (0 : Int)), V.u64 (BitVec.ofInt (64 : Nat) (0 : Int)),
 V.u64 (BitVec.ofInt (64 : Nat) (0 : Int)), V.u64 (BitVec.ofInt (64 : Nat) (0 : Int)),
 V.u64 (BitVec.ofInt (64 : Nat) (0 : Int)), V.u64 (BitVec.ofInt (64 : Nat) (0 : Int)),
 V.u64 (BitVec.ofInt (64 : Nat) (0 : Int)), V.u64 (BitVec.ofInt (64 : Nat) (0 : Int)),
 V.str (bytesOf (ByteArray.mk #[])), V.nilSl],
 V.bool false]),
 [])))) := by kernel_rfl
theorem dc_ak_x (s : List B) (q : RW) : Tr.prune ((Tr.Sh.any.both
 ((Tr.Sh.any.both Tr.Sh.any).r.r.r.both
 Tr.Sh.any.l.l.l.l).r).l.r.l.r.r.r.r.r.r.r.r.r.r.r.r.r)
 (execBF Pr (OD2 f_ak (3 : Nat) q) noLoopsT (100 : Nat) Go.Proofs.Tryd.f9 [V.str s] []) =
 Tr.chk (dqB (3 : Nat) q s && true && true && (fkB f_ak (q.s (0 : Nat)) && true && true && true))
 (Tr.br (!decide ((q.s (2 : Nat)).length ≤ (32 : Nat)))
 (Tr.chk true
 (Tr.leaf
 (Fin.ret
 (V.tup
 [V.agg
 [V.str (bytesOf (ByteArray.mk #[])), V.str (bytesOf (ByteArray.mk #[])),
 V.u64 (BitVec.ofInt (64 : Nat) (0 : Int)), V.u64 (BitVec.ofInt (64 : Nat) (0 : Int)),
 V.u64 (BitVec.ofInt (64 : Nat) (0 : Int)), V.u64 (BitVec.ofInt (64 : Nat) (0 : Int)),
 V.u64 (BitVec.ofInt (64 : Nat) (0 : Int)), V.u64 (BitVec.ofInt (64 : Nat) (0 : Int)),
 V.u64 (BitVec.ofInt (64 : Nat) (0 : Int)), V.u64 (BitVec.ofInt (64 : Nat) (0 : Int)),
 V.u64 (BitVec.ofInt (64 : Nat) (0 : Int)), V.str (bytesOf (ByteArray.mk #[])),
 V.int IntKind.i64 (0 : Int), V.str (bytesOf (ByteArray.mk #[])), V.str (bytesOf (ByteArray.mk #[])),
 V.u64 (BitVec.ofInt (64 : Nat) (0 : Int)), V.u64 (BitVec.ofInt (64 : Nat) (0 : Int)),
 V.u64 (BitVec.ofInt (64 : Nat) (0 : Int)), V.u64 (BitVec.ofInt (64 : Nat) (0 : Int)),
 V.u64 (BitVec.ofInt (64 : Nat) (0 : Int)), V.u64 (BitVec.ofInt (64 : Nat) (0 : Int)),
 V.u64 (BitVec.ofInt (64 : Nat) (0 : Int)), V.u64 (BitVec.ofInt (64 : Nat) (0 : Int)),
 V.u64 (BitVec.ofInt (64 : Nat) (0 : Int)), V.u64 (BitVec.ofInt (64 : Nat) (0 : Int)),
 V.u64 (BitVec.ofInt (64 : Nat) (0 : Int)), V.u64 (BitVec.ofInt (64 : Nat) (0 : Int)),
 V.u64 (BitVec.ofInt (64 : Nat) (0 : Int)), V.u64 (BitVec.ofInt (64 : Nat) (0 : Int)),
 V.str (bytesOf (ByteArray.mk #[])), V.nilSl],
 V.bool false]),
 [])))
 (Tr.chk
 (ecB f_ak
 (CM.mk (q.s (0 : Nat)) (q.s (1 : Nat)) (BitVec.ofInt (64 : Nat) (0 : Int))
 (if (q.s (2 : Nat)).length ≤ (32 : Nat) then W4.ofBytes (q.s (2 : Nat)) else W4.zero)
 (W4.mk (BitVec.ofInt (64 : Nat) (0 : Int)) (BitVec.ofInt (64 : Nat) (0 : Int))
 (BitVec.ofInt (64 : Nat) (0 : Int)) (BitVec.ofInt (64 : Nat) (0 : Int)))
 (bytesOf (ByteArray.mk #[])) (0 : Int) (bytesOf (ByteArray.mk #[])) (bytesOf (ByteArray.mk #[]))
 (BitVec.ofInt (64 : Nat) (0 : Int)) (BitVec.ofInt (64 : Nat) (0 : Int))
 (W4.mk (BitVec.ofInt (64 : Nat) (0 : Int)) (BitVec.ofInt (64 : Nat) (0 : Int))
 (BitVec.ofInt (64 : Nat) (0 : Int)) (BitVec.ofInt (64 : Nat) (0 : Int)))
 (W4.mk (BitVec.ofInt (64 : Nat) (0 : Int)) (BitVec.ofInt (64 : Nat) (0 : Int))
 (BitVec.ofInt (64 : Nat) (0 : Int)) (BitVec.ofInt (64 : Nat) (0 : Int)))
 (W4.mk (BitVec.ofInt (64 : Nat) (0 : Int)) (BitVec.ofInt (64 : Nat) (0 : Int))
 (BitVec.ofInt (64 : Nat) (0 : Int)) (BitVec.ofInt (64 : Nat) (0 : Int)))
 (bytesOf (ByteArray.mk #[]))))
 (Tr.br
 (eokO f_ak
 (CM.mk (q.s (0 : Nat)) (q.s (1 : Nat)) (BitVec.ofInt (64 : Nat) (0 : Int))
 (if (q.s (2 : Nat)).length ≤ (32 : Nat) then W4.ofBytes (q.s (2 : Nat)) else W4.zero)
 (W4.mk (BitVec.ofInt (64 : Nat) (0 : Int)) (BitVec.ofInt (64 : Nat) (0 : Int))
 (BitVec.ofInt (64 : Nat) (0 : Int)) (BitVec.ofInt (64 : Nat) (0 : Int)))
 (bytesOf (ByteArray.mk #[])) (0 : Int) (bytesOf (ByteArray.mk #[])) (bytesOf (ByteArray.mk #[]))
 (BitVec.ofInt (64 : Nat) (0 : Int)) (BitVec.ofInt (64 : Nat) (0 : Int))
 (W4.mk (BitVec.ofInt (64 : Nat) (0 : Int)) (BitVec.ofInt (64 : Nat) (0 : Int))
 (BitVec.ofInt (64 : Nat) (0 : Int)) (BitVec.ofInt (64 : Nat) (0 : Int)))
 (W4.mk (BitVec.ofInt (64 : Nat) (0 : Int)) (BitVec.ofInt (64 : Nat) (0 : Int))
 (BitVec.ofInt (64 : Nat) (0 : Int)) (BitVec.ofInt (64 : Nat) (0 : Int)))
 (W4.mk (BitVec.ofInt (64 : Nat) (0 : Int)) (BitVec.ofInt (64 : Nat) (0 : Int))
 (BitVec.ofInt (64 : Nat) (0 : Int)) (BitVec.ofInt (64 : Nat) (0 : Int)))
 (bytesOf (ByteArray.mk #[]))))
 (Tr.chk true
 (Tr.br
 (!eS f_ak
 (CM.mk (q.s (0 : Nat)) (q.s (1 : Nat)) (BitVec.ofInt (64 : Nat) (0 : Int))
 (if (q.s (2 : Nat)).length ≤ (32 : Nat) then W4.ofBytes (q.s (2 : Nat)) else W4.zero)
 (W4.mk (BitVec.ofInt (64 : Nat) (0 : Int)) (BitVec.ofInt (64 : Nat) (0 : Int))
 (BitVec.ofInt (64 : Nat) (0 : Int)) (BitVec.ofInt (64 : Nat) (0 : Int)))
 (bytesOf (ByteArray.mk #[])) (0 : Int) (bytesOf (ByteArray.mk #[])) (bytesOf (ByteArray.mk #[]))
 (BitVec.ofInt (64 : Nat) (0 : Int)) (BitVec.ofInt (64 : Nat) (0 : Int))
 (W4.mk (BitVec.ofInt (64 : Nat) (0 : Int)) (BitVec.ofInt (64 : Nat) (0 : Int))
 (BitVec.ofInt (64 : Nat) (0 : Int)) (BitVec.ofInt (64 : Nat) (0 : Int)))
 (W4.mk (BitVec.ofInt (64 : Nat) (0 : Int)) (BitVec.ofInt (64 : Nat) (0 : Int))
 (BitVec.ofInt (64 : Nat) (0 : Int)) (BitVec.ofInt (64 : Nat) (0 : Int)))
 (W4.mk (BitVec.ofInt (64 : Nat) (0 : Int)) (BitVec.ofInt (64 : Nat) (0 : Int))
 (BitVec.ofInt (64 : Nat) (0 : Int)) (BitVec.ofInt (64 : Nat) (0 : Int)))
 (bytesOf (ByteArray.mk #[]))) ==
 s)
 (Tr.chk true
 (Tr.leaf
 (Fin.ret
 (V.tup
 [V.agg
 [V.str (bytesOf (ByteArray.mk #[])), V.str (bytesOf (ByteArray.mk #[])),
 V.u64 (BitVec.ofInt (64 : Nat) (0 : Int)), V.u64 (BitVec.ofInt (64 : Nat) (0 : Int)),
 V.u64 (BitVec.ofInt (64 : Nat) (0 : Int)), V.u64 (BitVec.ofInt (64 : Nat) (0 : Int)),
 V.u64 (BitVec.ofInt (64 : Nat) (0 : Int)), V.u64 (BitVec.ofInt (64 : Nat) (0 : Int)),
 V.u64 (BitVec.ofInt (64 : Nat) (0 : Int)), V.u64 (BitVec.ofInt (64 : Nat) (0 : Int)),
 V.u64 (BitVec.ofInt (64 : Nat) (0 : Int)), V.str (bytesOf (ByteArray.mk #[])),
 V.int IntKind.i64 (0 : Int), V.str (bytesOf (ByteArray.mk #[])),
 V.str (bytesOf (ByteArray.mk #[])), V.u64 (BitVec.ofInt (64 : Nat) (0 : Int)),
 V.u64 (BitVec.ofInt (64 : Nat) (0 : Int)), V.u64 (BitVec.ofInt (64 : Nat) (0 : Int)),
 V.u64 (BitVec.ofInt (64 : Nat) (0 : Int)), V.u64 (BitVec.ofInt (64 : Nat) (0 : Int)),
 V.u64 (BitVec.ofInt (64 : Nat) (0 : Int)), V.u64 (BitVec.ofInt (64 : Nat) (0 : Int)),
 V.u64 (BitVec.ofInt (64 : Nat) (0 : Int)), V.u64 (BitVec.ofInt (64 : Nat) (0 : Int)),
 V.u64 (BitVec.ofInt (64 : Nat) (0 : Int)), V.u64 (BitVec.ofInt (64 : Nat) (0 : Int)),
 V.u64 (BitVec.ofInt (64 : Nat) (0 : Int)), V.u64 (BitVec.ofInt (64 : Nat) (0 : Int)),
 V.u64 (BitVec.ofInt (64 : Nat) (0 : Int)), V.str (bytesOf (ByteArray.mk #[])), V.nilSl],
 V.bool false]),
 [])))
 (Tr.chk true
 (Tr.leaf
 (Fin.ret
 (V.tup
 [V.agg
 [V.str (q.s (0 : Nat)), V.str (q.s (1 : Nat)), V.u64 (BitVec.ofInt (64 : Nat) (0 : Int)),
 V.u64
 (if (q.s (2 : Nat)).length ≤ (32 : Nat) then W4.ofBytes (q.s (2 : Nat)) else W4.zero).a,
 V.u64
 (if (q.s (2 : Nat)).length ≤ (32 : Nat) then W4.ofBytes (q.s (2 : Nat)) else W4.zero).b,
 V.u64
 (if (q.s (2 : Nat)).length ≤ (32 : Nat) then W4.ofBytes (q.s (2 : Nat)) else W4.zero).c,
 V.u64
 (if (q.s (2 : Nat)).length ≤ (32 : Nat) then W4.ofBytes (q.s (2 : Nat)) else W4.zero).d,
 V.u64 (BitVec.ofInt (64 : Nat) (0 : Int)), V.u64 (BitVec.ofInt (64 : Nat) (0 : Int)),
 V.u64 (BitVec.ofInt (64 : Nat) (0 : Int)), V.u64 (BitVec.ofInt (64 : Nat) (0 : Int)),
 V.str (bytesOf (ByteArray.mk #[])), V.int IntKind.i64 (0 : Int),
 V.str (bytesOf (ByteArray.mk #[])), V.str (bytesOf (ByteArray.mk #[])),
 V.u64 (BitVec.ofInt (64 : Nat) (0 : Int)), V.u64 (BitVec.ofInt (64 : Nat) (0 : Int)),
 V.u64 (BitVec.ofInt (64 : Nat) (0 : Int)), V.u64 (BitVec.ofInt (64 : Nat) (0 : Int)),
 V.u64 (BitVec.ofInt (64 : Nat) (0 : Int)), V.u64 (BitVec.ofInt (64 : Nat) (0 : Int)),
 V.u64 (BitVec.ofInt (64 : Nat) (0 : Int)), V.u64 (BitVec.ofInt (64 : Nat) (0 : Int)),
 V.u64 (BitVec.ofInt (64 : Nat) (0 : Int)), V.u64 (BitVec.ofInt (64 : Nat) (0 : Int)),
 V.u64 (BitVec.ofInt (64 : Nat) (0 : Int)), V.u64 (BitVec.ofInt (64 : Nat) (0 : Int)),
 V.u64 (BitVec.ofInt (64 : Nat) (0 : Int)), V.u64 (BitVec.ofInt (64 : Nat) (0 : Int)),
 V.str (bytesOf (ByteArray.mk #[])), V.nilSl],
 V.bool true]),
 [])))))
 (Tr.chk true
 (Tr.leaf
 (Fin.ret
 (V.tup
 [V.agg
 [V.str (bytesOf (ByteArray.mk #[])), V.str (bytesOf (ByteArray.mk #[])),
 V.u64 (BitVec.ofInt (64 : Nat) (0 : Int)), V.u64 (BitVec.ofInt (64 : Nat) (0 : Int)),
 V.u64 (BitVec.ofInt (64 : Nat) (0 : Int)), V.u64 (BitVec.ofInt (64 : Nat) (0 : Int)),
 V.u64 (BitVec.ofInt (64 : Nat) (0 : Int)), V.u64 (BitVec.ofInt (64 : Nat) (0 : Int)),
 V.u64 (BitVec.ofInt (64 : Nat) (0 : Int)), V.u64 (BitVec.ofInt (64 : Nat) (0 : Int)),
 V.u64 (BitVec.ofInt (64 : Nat) (0 : Int)), V.str (bytesOf (ByteArray.mk #[])),
 V.int IntKind.i64 (0 : Int), V.str (bytesOf (ByteArray.mk #[])),
 V.str (bytesOf (ByteArray.mk #[])), V.u64 (BitVec.ofInt (64 : Nat) (0 : Int)),
 V.u64 (BitVec.ofInt (64 : Nat) (0 : Int)), V.u64 (BitVec.ofInt (64 : Nat) (0 : Int)),
 V.u64 (BitVec.ofInt (64 : Nat) (0 : Int)), V.u64 (BitVec.ofInt (64 : Nat) (0 : Int)),
 V.u64 (BitVec.ofInt (64 : Nat) (0 : Int)), V.u64 (BitVec.ofInt (64 : Nat) (0 : Int)),
 V.u64 (BitVec.ofInt (64 : Nat) (0 : Int)), V.u64 (BitVec.ofInt (64 : Nat) (0 : Int)),
 V.u64 (BitVec.ofInt (64 : Nat) (0 : Int)), V.u64 (BitVec.ofInt (64 : Nat) (0 : Int)),
 V.u64 (BitVec.ofInt (64 : Nat) (0 : Int)), V.u64 (BitVec.ofInt (64 : Nat) (0 : Int)),
 V.u64 (BitVec.ofInt (64 : Nat) (0 : Int)), V.str (bytesOf (ByteArray.mk #[])), V.nilSl],
 V.bool false]),
 [])))))) := by kernel_rfl
theorem dc_av_x (s : List B) (q : RW) : Tr.prune ((Tr.Sh.any.both
 ((Tr.Sh.any.both Tr.Sh.any).r.r.r.both
 Tr.Sh.any.l.l.l.l).r).l.r.l.r.r.r.r.r.r.r.r.r.r.r.r.r)
 (execBF Pr (OD2 f_av (3 : Nat) q) noLoopsT (100 : Nat) Go.Proofs.Tryd.f9 [V.str s] []) =
 Tr.chk (dqB (3 : Nat) q s && true && true && (fkB f_av (q.s (0 : Nat)) && true && true && true))
 (Tr.br (!decide ((q.s (2 : Nat)).length ≤ (32 : Nat)))
 (Tr.chk true
 (Tr.leaf
 (Fin.ret
 (V.tup
 [V.agg
 [V.str (bytesOf (ByteArray.mk #[])), V.str (bytesOf (ByteArray.mk #[])),
 V.u64 (BitVec.ofInt (64 : Nat) (0 : Int)), V.u64 (BitVec.ofInt (64 : Nat) (0 : Int)),
 V.u64 (BitVec.ofInt (64 : Nat) (0 : Int)), V.u64 (BitVec.ofInt (64 : Nat) (0 : Int)),
 V.u64 (BitVec.ofInt (64 : Nat) (0 : Int)), V.u64 (BitVec.ofInt (64 : Nat) (0 : Int)),
 V.u64 (BitVec.ofInt (64 : Nat) (0 : Int)), V.u64 (BitVec.ofInt (64 : Nat) (0 : Int)),
 V.u64 (BitVec.ofInt (64 : Nat) (0 : Int)), V.str (bytesOf (ByteArray.mk #[])),
 V.int IntKind.i64 (0 : Int), V.str (bytesOf (ByteArray.mk #[])), V.str (bytesOf (ByteArray.mk #[])),
 V.u64 (BitVec.ofInt (64 : Nat) (0 : Int)), V.u64 (BitVec.ofInt (64 : Nat) (0 : Int)),
 V.u64 (BitVec.ofInt (64 : Nat) (0 : Int)), V.u64 (BitVec.ofInt (64 : Nat) (0 : Int)),
 V.u64 (BitVec.ofInt (64 : Nat) (0 : Int)), V.u64 (BitVec.ofInt (64 : Nat) (0 : Int)),
 V.u64 (BitVec.ofInt (64 : Nat) (0 : Int)), V.u64 (BitVec.ofInt (64 : Nat) (0 : Int)),
 V.u64 (BitVec.ofInt (64 : Nat) (0 : Int)), V.u64 (BitVec.ofInt (64 : Nat) (0 : Int)),
 V.u64 (BitVec.ofInt (64 : Nat) (0 : Int)), V.u64 (BitVec.ofInt (64 : Nat) (0 : Int)),
 V.u64 (BitVec.ofInt (64 : Nat) (0 : Int)), V.u64 (BitVec.ofInt (64 : Nat) (0 : Int)),
 V.str (bytesOf (ByteArray.mk #[])), V.nilSl],
 V.bool false]),
 [])))
 (Tr.chk
 (ecB f_av
 (CM.mk (q.s (0 : Nat)) (q.s (1 : Nat)) (BitVec.ofInt (64 : Nat) (0 : Int))
 (W4.mk (BitVec.ofInt (64 : Nat) (0 : Int)) (BitVec.ofInt (64 : Nat) (0 : Int))
 (BitVec.ofInt (64 : Nat) (0 : Int)) (BitVec.ofInt (64 : Nat) (0 : Int)))
 (if (q.s (2 : Nat)).length ≤ (32 : Nat) then W4.ofBytes (q.s (2 : Nat)) else W4.zero)
 (bytesOf (ByteArray.mk #[])) (0 : Int) (bytesOf (ByteArray.mk #[])) (bytesOf (ByteArray.mk #[]))
 (BitVec.ofInt (64 : Nat) (0 : Int)) (BitVec.ofInt (64 : Nat) (0 : Int))
 (W4.mk (BitVec.ofInt (64 : Nat) (0 : Int)) (BitVec.ofInt (64 : Nat) (0 : Int))
 (BitVec.ofInt (64 : Nat) (0 : Int)) (BitVec.ofInt (64 : Nat) (0 : Int)))
 (W4.mk (BitVec.ofInt (64 : Nat) (0 : Int)) (BitVec.ofInt (64 : Nat) (0 : Int))
 (BitVec.ofInt (64 : Nat) (0 : Int)) (BitVec.ofInt (64 : Nat) (0 : Int)))
 (W4.mk (BitVec.ofInt (64 : Nat) (0 : Int)) (BitVec.ofInt (64 : Nat) (0 : Int))
 (BitVec.ofInt (64 : Nat) (0 : Int)) (BitVec.ofInt (64 : Nat) (0 : Int)))
 (bytesOf (ByteArray.mk #[]))))
 (Tr.br
 (eokO f_av
 (CM.mk (q.s (0 : Nat)) (q.s (1 : Nat)) (BitVec.ofInt (64 : Nat) (0 : Int))
 (W4.mk (BitVec.ofInt (64 : Nat) (0 : Int)) (BitVec.ofInt (64 : Nat) (0 : Int))
 (BitVec.ofInt (64 : Nat) (0 : Int)) (BitVec.ofInt (64 : Nat) (0 : Int)))
 (if (q.s (2 : Nat)).length ≤ (32 : Nat) then W4.ofBytes (q.s (2 : Nat)) else W4.zero)
 (bytesOf (ByteArray.mk #[])) (0 : Int) (bytesOf (ByteArray.mk #[])) (bytesOf (ByteArray.mk #[]))
 (BitVec.ofInt (64 : Nat) (0 : Int)) (BitVec.ofInt (64 : Nat) (0 : Int))
 (W4.mk (BitVec.ofInt (64 : Nat) (0 : Int)) (BitVec.ofInt (64 : Nat) (0 : Int))
 (BitVec.ofInt (64 : Nat) (0 : Int)) (BitVec.ofInt (64 : Nat) (0 : Int)))
 (W4.mk (BitVec.ofInt (64 : Nat) (0 : Int)) (BitVec.ofInt (64 : Nat) (0 : Int))
 (BitVec.ofInt (64 : Nat) (0 : Int)) (BitVec.ofInt (64 : Nat) (0 : Int)))
 (W4.mk (BitVec.ofInt (64 : Nat) (0 : Int)) (BitVec.ofInt (64 : Nat) (0 : Int))
 (BitVec.ofInt (64 : Nat) (0 : Int)) (BitVec.ofInt (64 : Nat) (0 : Int)))
 (bytesOf (ByteArray.mk #[]))))
 (Tr.chk true
 (Tr.br
 (!eS f_av
 (CM.mk (q.s (0 : Nat)) (q.s (1 : Nat)) (BitVec.ofInt (64 : Nat) (0 : Int))
 (W4.mk (BitVec.ofInt (64 : Nat) (0 : Int)) (BitVec.ofInt (64 : Nat) (0 : Int))
 (BitVec.ofInt (64 : Nat) (0 : Int)) (BitVec.ofInt (64 : Nat) (0 : Int)))
 (if (q.s (2 : Nat)).length ≤ (32 : Nat) then W4.ofBytes (q.s (2 : Nat)) else W4.zero)
 (bytesOf (ByteArray.mk #[])) (0 : Int) (bytesOf (ByteArray.mk #[])) (bytesOf (ByteArray.mk #[]))
 (BitVec.ofInt (64 : Nat) (0 : Int)) (BitVec.ofInt (64 : Nat) (0 : Int))
 (W4.mk (BitVec.ofInt (64 : Nat) (0 : Int)) (BitVec.ofInt (64 : Nat) (0 : Int))
 (BitVec.ofInt (64 : Nat) (0 : Int)) (BitVec.ofInt (64 : Nat) (0 : Int)))
 (W4.mk (BitVec.ofInt (64 : Nat) (0 : Int)) (BitVec.ofInt (64 : Nat) (0 : Int))
 (BitVec.ofInt (64 : Nat) (0 : Int)) (BitVec.ofInt (64 : Nat) (0 : Int)))
 (W4.mk (BitVec.ofInt (64 : Nat) (0 : Int)) (BitVec.ofInt (64 : Nat) (0 : Int))
 (BitVec.ofInt (64 : Nat) (0 : Int)) (BitVec.ofInt (64 : Nat) (0 : Int)))
 (bytesOf (ByteArray.mk #[]))) ==
 s)
 (Tr.chk true
 (Tr.leaf
 (Fin.ret
 (V.tup
 [V.agg
 [V.str (bytesOf (ByteArray.mk #[])), V.str (bytesOf (ByteArray.mk #[])),
 V.u64 (BitVec.ofInt (64 : Nat) (0 : Int)), V.u64 (BitVec.ofInt (64 : Nat) (0 : Int)),
 V.u64 (BitVec.ofInt (64 : Nat) (0 : Int)), V.u64 (BitVec.ofInt (64 : Nat) (0 : Int)),
 V.u64 (BitVec.ofInt (64 : Nat) (0 : Int)), V.u64 (BitVec.ofInt (64 : Nat) (0 : Int)),
 V.u64 (BitVec.ofInt (64 : Nat) (0 : Int)), V.u64 (BitVec.ofInt (64 : Nat) (0 : Int)),
 V.u64 (BitVec.ofInt (64 : Nat) (0 : Int)), V.str (bytesOf (ByteArray.mk #[])),
 V.int IntKind.i64 (0 : Int), V.str (bytesOf (ByteArray.mk #[])),
 V.str (bytesOf (ByteArray.mk #[])), V.u64 (BitVec.ofInt (64 : Nat) (0 : Int)),
 V.u64 (BitVec.ofInt (64 : Nat) (0 : Int)), V.u64 (BitVec.ofInt (64 : Nat) (0 : Int)),
 V.u64 (BitVec.ofInt (64 : Nat) (0 : Int)), V.u64 (BitVec.ofInt (64 : Nat) (0 : Int)),
 V.u64 (BitVec.ofInt (64 : Nat) (0 : Int)), V.u64 (BitVec.ofInt (64 : Nat) (0 : Int)),
 V.u64 (BitVec.ofInt (64 : Nat) (0 : Int)), V.u64 (BitVec.ofInt (64 : Nat) (0 : Int)),
 V.u64 (BitVec.ofInt (64 : Nat) (0 : Int)), V.u64 (BitVec.ofInt (64 : Nat) (0 : Int)),
 V.u64 (BitVec.ofInt (64 : Nat) (0 : Int)), V.u64 (BitVec.ofInt (64 : Nat) (0 : Int)),
 V.u64 (BitVec.ofInt (64 : Nat) (0 : Int)), V.str (bytesOf (ByteArray.mk #[])), V.nilSl],
 V.bool false]),
 [])))
 (Tr.chk true
 (Tr.leaf
 (Fin.ret
 (V.tup
 [V.agg
 [V.str (q.s (0 : Nat)), V.str (q.s (1 : Nat)), V.u64 (BitVec.ofInt (64 : Nat) (0 : Int)),
 V.u64 (BitVec.ofInt (64 : Nat) (0 : Int)), V.u64 (BitVec.ofInt (64 : Nat) (0 : Int)),
 V.u64 (BitVec.ofInt (64 : Nat) (0 : Int)), V.u64 (BitVec.ofInt (64 : Nat) (0 : Int)),
 V.u64
 (if (q.s (2 : Nat)).length ≤ (32 : Nat) then W4.ofBytes (q.s (2 : Nat)) else W4.zero).a,
 V.u64
 (if (q.s (2 : Nat)).length ≤ (32 : Nat) then W4.ofBytes (q.s (2 : Nat)) else W4.zero).b,
 V.u64
 (if (q.s (2 : Nat)).length ≤ (32 : Nat) then W4.ofBytes (q.s (2 : Nat)) else W4.zero).c,
 V.u64
 (if (q.s (2 : Nat)).length ≤ (32 : Nat) then W4.ofBytes (q.s (2 : Nat)) else W4.zero).d,
 V.str (bytesOf (ByteArray.mk #[])), V.int IntKind.i64 (0 : Int),
 V.str (bytesOf (ByteArray.mk #[])), V.str (bytesOf (ByteArray.mk #[])),
 V.u64 (BitVec.ofInt (64 : Nat) (0 : Int)), V.u64 (BitVec.ofInt (64 : Nat) (0 : Int)),
 V.u64 (BitVec.ofInt (64 : Nat) (0 : Int)), V.u64 (BitVec.ofInt (64 : Nat) (0 : Int)),
 V.u64 (BitVec.ofInt (64 : Nat) (0 : Int)), V.u64 (BitVec.ofInt (64 : Nat) (0 : Int)),
 V.u64 (BitVec.ofInt (64 : Nat) (0 : Int)), V.u64 (BitVec.ofInt (64 : Nat) (0 : Int)),
 V.u64 (BitVec.ofInt (64 : Nat) (0 : Int)), V.u64 (BitVec.ofInt (64 : Nat) (0 : Int)),
 V.u64 (BitVec.ofInt (64 : Nat) (0 : Int)), V.u64 (BitVec.ofInt (64 : Nat) (0 : Int)),
 V.u64 (BitVec.ofInt (64 : Nat) (0 : Int)), V.u64 (BitVec.ofInt (64 : Nat) (0 : Int)),
 V.str (bytesOf (ByteArray.mk #[])), V.nilSl],
 V.bool true]),
 [])))))
 (Tr.chk true
 (Tr.leaf
 (Fin.ret
 (V.tup
 [V.agg
 [V.str (bytesOf (ByteArray.mk #[])), V.str (bytesOf (ByteArray.mk #[])),
 V.u64 (BitVec.ofInt (64 : Nat) (0 : Int)), V.u64 (BitVec.ofInt (64 : Nat) (0 : Int)),
 V.u64 (BitVec.ofInt (64 : Nat) (0 : Int)), V.u64 (BitVec.ofInt (64 : Nat) (0 : Int)),
 V.u64 (BitVec.ofInt (64 : Nat) (0 : Int)), V.u64 (BitVec.ofInt (64 : Nat) (0 : Int)),
 V.u64 (BitVec.ofInt (64 : Nat) (0 : Int)), V.u64 (BitVec.ofInt (64 : Nat) (0 : Int)),
 V.u64 (BitVec.ofInt (64 : Nat) (0 : Int)), V.str (bytesOf (ByteArray.mk #[])),
 V.int IntKind.i64 (0 : Int), V.str (bytesOf (ByteArray.mk #[])),
 V.str (bytesOf (ByteArray.mk #[])), V.u64 (BitVec.ofInt (64 : Nat) (0 : Int)),
 V.u64 (BitVec.ofInt (64 : Nat) (0 : Int)), V.u64 (BitVec.ofInt (64 : Nat) (0 : Int)),
 V.u64 (BitVec.ofInt (64 : Nat) (0 : Int)), V.u64 (BitVec.ofInt (64 : Nat) (0 : Int)),
 V.u64 (BitVec.ofInt (64 : Nat) (0 : Int)), V.u64 (BitVec.ofInt (64 : Nat) (0 : Int)),
 V.u64 (BitVec.ofInt (64 : Nat) (0 : Int)), V.u64 (BitVec.ofInt (64 : Nat) (0 : Int)),
 V.u64 (BitVec.ofInt (64 : Nat) (0 : Int)), V.u64 (BitVec.ofInt (64 : Nat) (0 : Int)),
 V.u64 (BitVec.ofInt (64 : Nat) (0 : Int)), V.u64 (BitVec.ofInt (64 : Nat) (0 : Int)),
 V.u64 (BitVec.ofInt (64 : Nat) (0 : Int)), V.str (bytesOf (ByteArray.mk #[])), V.nilSl],
 V.bool false]),
 [])))))) := by kernel_rfl
theorem dc_an_x (s : List B) (q : RW) : Tr.prune ((Tr.Sh.any.both
 ((Tr.Sh.any.both Tr.Sh.any).r.r.r.both
 Tr.Sh.any.l.l.l.l).r).l.r.l.r.r.r.r.r.r.r.r.r.r.r.r.r)
 (execBF Pr (OD2 f_an (3 : Nat) q) noLoopsT (100 : Nat) Go.Proofs.Tryd.f9 [V.str s] []) =
 Tr.chk (dqB (3 : Nat) q s && true && true && (fkB f_an (q.s (0 : Nat)) && true && true && true))
 (Tr.br (!smallO (q.b (2 : Nat)) (q.s (2 : Nat)))
 (Tr.chk true
 (Tr.leaf
 (Fin.ret
 (V.tup
 [V.agg
 [V.str (bytesOf (ByteArray.mk #[])), V.str (bytesOf (ByteArray.mk #[])),
 V.u64 (BitVec.ofInt (64 : Nat) (0 : Int)), V.u64 (BitVec.ofInt (64 : Nat) (0 : Int)),
 V.u64 (BitVec.ofInt (64 : Nat) (0 : Int)), V.u64 (BitVec.ofInt (64 : Nat) (0 : Int)),
 V.u64 (BitVec.ofInt (64 : Nat) (0 : Int)), V.u64 (BitVec.ofInt (64 : Nat) (0 : Int)),
 V.u64 (BitVec.ofInt (64 : Nat) (0 : Int)), V.u64 (BitVec.ofInt (64 : Nat) (0 : Int)),
 V.u64 (BitVec.ofInt (64 : Nat) (0 : Int)), V.str (bytesOf (ByteArray.mk #[])),
 V.int IntKind.i64 (0 : Int), V.str (bytesOf (ByteArray.mk #[])), V.str (bytesOf (ByteArray.mk #[])),
 V.u64 (BitVec.ofInt (64 : Nat) (0 : Int)), V.u64 (BitVec.ofInt (64 : Nat) (0 : Int)),
 V.u64 (BitVec.ofInt (64 : Nat) (0 : Int)), V.u64 (BitVec.ofInt (64 : Nat) (0 : Int)),
 V.u64 (BitVec.ofInt (64 : Nat) (0 : Int)), V.u64 (BitVec.ofInt (64 : Nat) (0 : Int)),
 V.u64 (BitVec.ofInt (64 : Nat) (0 : Int)), V.u64 (BitVec.ofInt (64 : Nat) (0 : Int)),
 V.u64 (BitVec.ofInt (64 : Nat) (0 : Int)), V.u64 (BitVec.ofInt (64 : Nat) (0 : Int)),
 V.u64 (BitVec.ofInt (64 : Nat) (0 : Int)), V.u64 (BitVec.ofInt (64 : Nat) (0 : Int)),
 V.u64 (BitVec.ofInt (64 : Nat) (0 : Int)), V.u64 (BitVec.ofInt (64 : Nat) (0 : Int)),
 V.str (bytesOf (ByteArray.mk #[])), V.nilSl],
 V.bool false]),
 [])))
 (Tr.chk
 (ecB f_an
 (CM.mk (q.s (0 : Nat)) (q.s (1 : Nat)) (smallN (q.b (2 : Nat)) (q.s (2 : Nat)))
 (W4.mk (BitVec.ofInt (64 : Nat) (0 : Int)) (BitVec.ofInt (64 : Nat) (0 : Int))
 (BitVec.ofInt (64 : Nat) (0 : Int)) (BitVec.ofInt (64 : Nat) (0 : Int)))
 (W4.mk (BitVec.ofInt (64 : Nat) (0 : Int)) (BitVec.ofInt (64 : Nat) (0 : Int))
 (BitVec.ofInt (64 : Nat) (0 : Int)) (BitVec.ofInt (64 : Nat) (0 : Int)))
 (bytesOf (ByteArray.mk #[])) (0 : Int) (bytesOf (ByteArray.mk #[])) (bytesOf (ByteArray.mk #[]))
 (BitVec.ofInt (64 : Nat) (0 : Int)) (BitVec.ofInt (64 : Nat) (0 : Int))
 (W4.mk (BitVec.ofInt (64 : Nat) (0 : Int)) (BitVec.ofInt (64 : Nat) (0 : Int))
 (BitVec.ofInt (64 : Nat) (0 : Int)) (BitVec.ofInt (64 : Nat) (0 : Int)))
 (W4.mk (BitVec.ofInt (64 : Nat) (0 : Int)) (BitVec.ofInt (64 : Nat) (0 : Int))
 (BitVec.ofInt (64 : Nat) (0 : Int)) (BitVec.ofInt (64 : Nat) (0 : Int)))
 (W4.mk (BitVec.ofInt (64 : Nat) (0 : Int)) (BitVec.ofInt (64 : Nat) (0 : Int))
 (BitVec.ofInt (64 : Nat) (0 : Int)) (BitVec.ofInt (64 : Nat) (0 : Int)))
 (bytesOf (ByteArray.mk #[]))))
 (Tr.br
 (eokO f_an
 (CM.mk (q.s (0 : Nat)) (q.s (1 : Nat)) (smallN (q.b (2 : Nat)) (q.s (2 : Nat)))
 (W4.mk (BitVec.ofInt (64 : Nat) (0 : Int)) (BitVec.ofInt (64 : Nat) (0 : Int))
 (BitVec.ofInt (64 : Nat) (0 : Int)) (BitVec.ofInt (64 : Nat) (0 : Int)))
 (W4.mk (BitVec.ofInt (64 : Nat) (0 : Int)) (BitVec.ofInt (64 : Nat) (0 : Int))
 (BitVec.ofInt (64 : Nat) (0 : Int)) (BitVec.ofInt (64 : Nat) (0 : Int)))
 (bytesOf (ByteArray.mk #[])) (0 : Int) (bytesOf (ByteArray.mk #[])) (bytesOf (ByteArray.mk #[]))
 (BitVec.ofInt (64 : Nat) (0 : Int)) (BitVec.ofInt (64 : Nat) (0 : Int))
 (W4.mk (BitVec.ofInt (64 : Nat) (0 : Int)) (BitVec.ofInt (64 : Nat) (0 : Int))
 (BitVec.ofInt (64 : Nat) (0 : Int)) (BitVec.ofInt (64 : Nat) (0 : Int)))
 (W4.mk (BitVec.ofInt (64 : Nat) (0 : Int)) (BitVec.ofInt (64 : Nat) (0 : Int))
 (BitVec.ofInt (64 : Nat) (0 : Int)) (BitVec.ofInt (64 : Nat) (0 : Int)))
 (W4.mk (BitVec.ofInt (64 : Nat) (0 : Int)) (BitVec.ofInt (64 : Nat) (0 : Int))
 (BitVec.ofInt (64 : Nat) (0 : Int)) (BitVec.ofInt (64 : Nat) (0 : Int)))
 (bytesOf (ByteArray.mk #[]))))
 (Tr.chk true
 (Tr.br
 (!eS f_an
 (CM.mk (q.s (0 : Nat)) (q.s (1 : Nat)) (smallN (q.b (2 : Nat)) (q.s (2 : Nat)))
 (W4.mk (BitVec.ofInt (64 : Nat) (0 : Int)) (BitVec.ofInt (64 : Nat) (0 : Int))
 (BitVec.ofInt (64 : Nat) (0 : Int)) (BitVec.ofInt (64 : Nat) (0 : Int)))
 (W4.mk (BitVec.ofInt (64 : Nat) (0 : Int)) (BitVec.ofInt (64 : Nat) (0 : Int))
 (BitVec.ofInt (64 : Nat) (0 : Int)) (BitVec.ofInt (64 : Nat) (0 : Int)))
 (bytesOf (ByteArray.mk #[])) (0 : Int) (bytesOf (ByteArray.mk #[])) (bytesOf (ByteArray.mk #[]))
 (BitVec.ofInt (64 : Nat) (0 : Int)) (BitVec.ofInt (64 : Nat) (0 : Int))
 (W4.mk (BitVec.ofInt (64 : Nat) (0 : Int)) (BitVec.ofInt (64 : Nat) (0 : Int))
 (BitVec.ofInt (64 : Nat) (0 : Int)) (BitVec.ofInt (64 : Nat) (0 : Int)))
 (W4.mk (BitVec.ofInt (64 : Nat) (0 : Int)) (BitVec.ofInt (64 : Nat) (0 : Int))
 (BitVec.ofInt (64 : Nat) (0 : Int)) (BitVec.ofInt (64 : Nat) (0 : Int)))
 (W4.mk (BitVec.ofInt (64 : Nat) (0 : Int)) (BitVec.ofInt (64 : Nat) (0 : Int))
 (BitVec.ofInt (64 : Nat) (0 : Int)) (BitVec.ofInt (64 : Nat) (0 : Int)))
 (bytesOf (ByteArray.mk #[]))) ==
 s)
 (Tr.chk true
 (Tr.leaf
 (Fin.ret
 (V.tup
 [V.agg
 [V.str (bytesOf (ByteArray.mk #[])), V.str (bytesOf (ByteArray.mk #[])),
 V.u64 (BitVec.ofInt (64 : Nat) (0 : Int)), V.u64 (BitVec.ofInt (64 : Nat) (0 : Int)),
 V.u64 (BitVec.ofInt (64 : Nat) (0 : Int)), V.u64 (BitVec.ofInt (64 : Nat) (0 : Int)),
 V.u64 (BitVec.ofInt (64 : Nat) (0 : Int)), V.u64 (BitVec.ofInt (64 : Nat) (0 : Int)),
 V.u64 (BitVec.ofInt (64 : Nat) (0 : Int)), V.u64 (BitVec.ofInt (64 : Nat) (0 : Int)),
 V.u64 (BitVec.ofInt (64 : Nat) (0 : Int)), V.str (bytesOf (ByteArray.mk #[])),
 V.int IntKind.i64 (0 : Int), V.str (bytesOf (ByteArray.mk #[])),
 V.str (bytesOf (ByteArray.mk #[])), V.u64 (BitVec.ofInt (64 : Nat) (0 : Int)),
 V.u64 (BitVec.ofInt (64 : Nat) (0 : Int)), V.u64 (BitVec.ofInt (64 : Nat) (0 : Int)),
 V.u64 (BitVec.ofInt (64 : Nat) (0 : Int)), V.u64 (BitVec.ofInt (64 : Nat) (0 : Int)),
 V.u64 (BitVec.ofInt (64 : Nat) (0 : Int)), V.u64 (BitVec.ofInt (64 : Nat) (0 : Int)),
 V.u64 (BitVec.ofInt (64 : Nat) (0 : Int)), V.u64 (BitVec.ofInt (64 : Nat) (0 : Int)),
 V.u64 (BitVec.ofInt (64 : Nat) (0 : Int)), V.u64 (BitVec.ofInt (64 : Nat) (0 : Int)),
 V.u64 (BitVec.ofInt (64 : Nat) (0 : Int)), V.u64 (BitVec.ofInt (64 : Nat) (0 : Int)),
 V.u64 (BitVec.ofInt (64 : Nat) (0 : Int)), V.str (bytesOf (ByteArray.mk #[])), V.nilSl],
 V.bool false]),
 [])))
 (Tr.chk true
 (Tr.leaf
 (Fin.ret
 (V.tup
 [V.agg
 [V.str (q.s (0 : Nat)), V.str (q.s (1 : Nat)), V.u64 (smallN (q.b (2 : Nat)) (q.s (2 : Nat))),
 V.u64 (BitVec.ofInt (64 : Nat) (0 : Int)), V.u64 (BitVec.ofInt (64 : Nat) (0 : Int)),
 V.u64 (BitVec.ofInt (64 : Nat) (0 : Int)), V.u64 (BitVec.ofInt (64 : Nat) (0 : Int)),
 V.u64 (BitVec.ofInt (64 : Nat) (0 : Int)), V.u64 (BitVec.ofInt (64 : Nat) (0 : Int)),
 V.u64 (BitVec.ofInt (64 : Nat) (0 : Int)), V.u64 (BitVec.ofInt (64 : Nat) (0 : Int)),
 V.str (bytesOf (ByteArray.mk #[])), V.int IntKind.i64 (0 : Int),
 V.str (bytesOf (ByteArray.mk #[])), V.str (bytesOf (ByteArray.mk #[])),
 V.u64 (BitVec.ofInt (64 : Nat) (0 : Int)), V.u64 (BitVec.ofInt (64 : Nat) (0 : Int)),
 V.u64 (BitVec.ofInt (64 : Nat) (0 : Int)), V.u64 (BitVec.ofInt (64 : Nat) (0 : Int)),
 V.u64 (BitVec.ofInt (64 : Nat) (0 : Int)), V.u64 (BitVec.ofInt (64 : Nat) (0 : Int)),
 V.u64 (BitVec.ofInt (64 : Nat) (0 : Int)), V.u64 (BitVec.ofInt (64 : Nat) (0 : Int)),
 V.u64 (BitVec.ofInt (64 : Nat) (0 : Int)), V.u64 (BitVec.ofInt (64 : Nat) (0 : Int)),
 V.u64 (BitVec.ofInt (64 : Nat) (0 : Int)), V.u64 (BitVec.ofInt (64 : Nat) (0 : Int)),
 V.u64 (BitVec.ofInt (64 : Nat) (0 : Int)), V.u64 (BitVec.ofInt (64 : Nat) (0 : Int)),
 V.str (bytesOf (ByteArray.mk #[])), V.nilSl],
 V.bool true]),
 [])))))
 (Tr.chk true
 (Tr.leaf
 (Fin.ret
 (V.tup
 [V.agg
 [V.str (bytesOf (ByteArray.mk #[])), V.str (bytesOf (ByteArray.mk #[])),
 V.u64 (BitVec.ofInt (64 : Nat) (0 : Int)), V.u64 (BitVec.ofInt (64 : Nat) (0 : Int)),
 V.u64 (BitVec.ofInt (64 : Nat) (0 : Int)), V.u64 (BitVec.ofInt (64 : Nat) (0 : Int)),
 V.u64 (BitVec.ofInt (64 : Nat) (0 : Int)), V.u64 (BitVec.ofInt (64 : Nat) (0 : Int)),
 V.u64 (BitVec.ofInt (64 : Nat) (0 : Int)), V.u64 (BitVec.ofInt (64 : Nat) (0 : Int)),
 V.u64 (BitVec.ofInt (64 : Nat) (0 : Int)), V.str (bytesOf (ByteArray.mk #[])),
 V.int IntKind.i64 (0 : Int), V.str (bytesOf (ByteArray.mk #[])),
 V.str (bytesOf (ByteArray.mk #[])), V.u64 (BitVec.ofInt (64 : Nat) (0 : Int)),
 V.u64 (BitVec.ofInt (64 : Nat) (0 : Int)), V.u64 (BitVec.ofInt (64 : Nat) (0 : Int)),
 V.u64 (BitVec.ofInt (64 : Nat) (0 : Int)), V.u64 (BitVec.ofInt (64 : Nat) (0 : Int)),
 V.u64 (BitVec.ofInt (64 : Nat) (0 : Int)), V.u64 (BitVec.ofInt (64 : Nat) (0 : Int)),
 V.u64 (BitVec.ofInt (64 : Nat) (0 : Int)), V.u64 (BitVec.ofInt (64 : Nat) (0 : Int)),
 V.u64 (BitVec.ofInt (64 : Nat) (0 : Int)), V.u64 (BitVec.ofInt (64 : Nat) (0 : Int)),
 V.u64 (BitVec.ofInt (64 : Nat) (0 : Int)), V.u64 (BitVec.ofInt (64 : Nat) (0 : Int)),
 V.u64 (BitVec.ofInt (64 : Nat) (0 : Int)), V.str (bytesOf (ByteArray.mk #[])), V.nilSl],
 V.bool false]),
 [])))))) := by kernel_rfl
theorem dc_as_x (s : List B) (q : RW) : Tr.prune (((Tr.Sh.any.both Tr.Sh.any).r.r.r.both
 Tr.Sh.any.l.l.l.l).r.r.l.r.l.r.r.r.r.r.r.r.r.r.r.r.r.r)
 (execBF Pr (OD2 f_as (3 : Nat) q) noLoopsT (100 : Nat) Go.Proofs.Tryd.f9 [V.str s] []) =
 Tr.chk
 (dqB (3 : Nat) q s && true && true &&
 (fkB f_as (q.s (0 : Nat)) && true && true &&
 ecB f_as
 (CM.mk (q.s (0 : Nat)) (q.s (1 : Nat)) (BitVec.ofInt (64 : Nat) (0 : Int))
 (W4.mk (BitVec.ofInt (64 : Nat) (0 : Int)) (BitVec.ofInt (64 : Nat) (0 : Int))
 (BitVec.ofInt (64 : Nat) (0 : Int)) (BitVec.ofInt (64 : Nat) (0 : Int)))
 (W4.mk (BitVec.ofInt (64 : Nat) (0 : Int)) (BitVec.ofInt (64 : Nat) (0 : Int))
 (BitVec.ofInt (64 : Nat) (0 : Int)) (BitVec.ofInt (64 : Nat) (0 : Int)))
 (q.s (2 : Nat)) (0 : Int) (bytesOf (ByteArray.mk #[])) (bytesOf (ByteArray.mk #[]))
 (BitVec.ofInt (64 : Nat) (0 : Int)) (BitVec.ofInt (64 : Nat) (0 : Int))
 (W4.mk (BitVec.ofInt (64 : Nat) (0 : Int)) (BitVec.ofInt (64 : Nat) (0 : Int))
 (BitVec.ofInt (64 : Nat) (0 : Int)) (BitVec.ofInt (64 : Nat) (0 : Int)))
 (W4.mk (BitVec.ofInt (64 : Nat) (0 : Int)) (BitVec.ofInt (64 : Nat) (0 : Int))
 (BitVec.ofInt (64 : Nat) (0 : Int)) (BitVec.ofInt (64 : Nat) (0 : Int)))
 (W4.mk (BitVec.ofInt (64 : Nat) (0 : Int)) (BitVec.ofInt (64 : Nat) (0 : Int))
 (BitVec.ofInt (64 : Nat) (0 : Int)) (BitVec.ofInt (64 : Nat) (0 : Int)))
 (bytesOf (ByteArray.mk #[])))))
 (Tr.br
 (eokO f_as
 (CM.mk (q.s (0 : Nat)) (q.s (1 : Nat)) (BitVec.ofInt (64 : Nat) (0 : Int))
 (W4.mk (BitVec.ofInt (64 : Nat) (0 : Int)) (BitVec.ofInt (64 : Nat) (0 : Int))
 (BitVec.ofInt (64 : Nat) (0 : Int)) (BitVec.ofInt (64 : Nat) (0 : Int)))
 (W4.mk (BitVec.ofInt (64 : Nat) (0 : Int)) (BitVec.ofInt (64 : Nat) (0 : Int))
 (BitVec.ofInt (64 : Nat) (0 : Int)) (BitVec.ofInt (64 : Nat) (0 : Int)))
 (q.s (2 : Nat)) (0 : Int) (bytesOf (ByteArray.mk #[])) (bytesOf (ByteArray.mk #[]))
 (BitVec.ofInt (64 : Nat) (0 : Int)) (BitVec.ofInt (64 : Nat) (0 : Int))
 (W4.mk (BitVec.ofInt (64 : Nat) (0 : Int)) (BitVec.ofInt (64 : Nat) (0 : Int))
 (BitVec.ofInt (64 : Nat) (0 : Int)) (BitVec.ofInt (64 : Nat) (0 : Int)))
 (W4.mk (BitVec.ofInt (64 : Nat) (0 : Int)) (BitVec.ofInt (64 : Nat) (0 : Int))
 (BitVec.ofInt (64 : Nat) (0 : Int)) (BitVec.ofInt (64 : Nat) (0 : Int)))
 (W4.mk (BitVec.ofInt (64 : Nat) (0 : Int)) (BitVec.ofInt (64 : Nat) (0 : Int))
 (BitVec.ofInt (64 : Nat) (0 : Int)) (BitVec.ofInt (64 : Nat) (0 : Int)))
 (bytesOf (ByteArray.mk #[]))))
 (Tr.chk true
 (Tr.br
 (!eS f_as
 (CM.mk (q.s (0 : Nat)) (q.s (1 : Nat)) (BitVec.ofInt (64 : Nat) (0 : Int))
 (W4.mk (BitVec.ofInt (64 : Nat) (0 : Int)) (BitVec.ofInt (64 : Nat) (0 : Int))
 (BitVec.ofInt (64 : Nat) (0 : Int)) (BitVec.ofInt (64 : Nat) (0 : Int)))
 (W4.mk (BitVec.ofInt (64 : Nat) (0 : Int)) (BitVec.ofInt (64 : Nat) (0 : Int))
 (BitVec.ofInt (64 : Nat) (0 : Int)) (BitVec.ofInt (64 : Nat) (0 : Int)))
 (q.s (2 : Nat)) (0 : Int) (bytesOf (ByteArray.mk #[])) (bytesOf (ByteArray.mk #[]))
 (BitVec.ofInt (64 : Nat) (0 : Int)) (BitVec.ofInt (64 : Nat) (0 : Int))
 (W4.mk (BitVec.ofInt (64 : Nat) (0 : Int)) (BitVec.ofInt (64 : Nat) (0 : Int))
 (BitVec.ofInt (64 : Nat) (0 : Int)) (BitVec.ofInt (64 : Nat) (0 : Int)))
 (W4.mk (BitVec.ofInt (64 : Nat) (0 : Int)) (BitVec.ofInt (64 : Nat) (0 : Int))
 (BitVec.ofInt (64 : Nat) (0 : Int)) (BitVec.ofInt (64 : Nat) (0 : Int)))
 (W4.mk (BitVec.ofInt (64 : Nat) (0 : Int)) (BitVec.ofInt (64 : Nat) (0 : Int))
 (BitVec.ofInt (64 : Nat) (0 : Int)) (BitVec.ofInt (64 : Nat) (0 : Int)))
 (bytesOf (ByteArray.mk #[]))) ==
 s)
 (Tr.chk true
 (Tr.leaf
 (Fin.ret
 (V.tup
 [V.agg
 [V.str (bytesOf (ByteArray.mk #[])), V.str (bytesOf (ByteArray.mk #[])),
 V.u64 (BitVec.ofInt (64 : Nat) (0 : Int)), V.u64 (BitVec.ofInt (64 : Nat) (0 : Int)),
 V.u64 (BitVec.ofInt (64 : Nat) (0 : Int)), V.u64 (BitVec.ofInt (64 : Nat) (0 : Int)),
 V.u64 (BitVec.ofInt (64 : Nat) (0 : Int)), V.u64 (BitVec.ofInt (64 : Nat) (0 : Int)),
 V.u64 (BitVec.ofInt (64 : Nat) (0 : Int)), V.u64 (BitVec.ofInt (64 : Nat) (0 : Int)),
 V.u64 (BitVec.ofInt (64 : Nat) (0 : Int)), V.str (bytesOf (ByteArray.mk #[])),
 V.int IntKind.i64 (0 : Int), V.str (bytesOf (ByteArray.mk #[])),
 V.str (bytesOf (ByteArray.mk #[])), V.u64 (BitVec.ofInt (64 : Nat) (0 : Int)),
 V.u64 (BitVec.ofInt (64 : Nat) (0 : Int)), V.u64 (BitVec.ofInt (64 : Nat) (0 : Int)),
 V.u64 (BitVec.ofInt (64 : Nat) (0 : Int)), V.u64 (BitVec.ofInt (64 : Nat) (0 : Int)),
 V.u64 (BitVec.ofInt (64 : Nat) (0 : Int)), V.u64 (BitVec.ofInt (64 : Nat) (0 : Int)),
 V.u64 (BitVec.ofInt (64 : Nat) (0 : Int)), V.u64 (BitVec.ofInt (64 : Nat) (0 : Int)),
 V.u64 (BitVec.ofInt (64 : Nat) (0 : Int)), V.u64 (BitVec.ofInt (64 : Nat) (0 : Int)),
 V.u64 (BitVec.ofInt (64 : Nat) (0 : Int)), V.u64 (BitVec.ofInt (64 : Nat) (0 : Int)),
 V.u64 (BitVec.ofInt (64 : Nat) (0 : Int)), V.str (bytesOf (ByteArray.mk #[])), V.nilSl],
 V.bool false]),
 [])))
 (Tr.chk true
 (Tr.leaf
 (Fin.ret
 (V.tup
 [V.agg
 [V.str (q.s (0 : Nat)), V.str (q.s (1 : Nat)), V.u64 (BitVec.ofInt (64 : Nat) (0 : Int)),
 V.u64 (BitVec.ofInt (64 : Nat) (0 : Int)), V.u64 (BitVec.ofInt (64 : Nat) (0 : Int)),
 V.u64 (BitVec.ofInt (64 : Nat) (0 : Int)), V.u64 (BitVec.ofInt (64 : Nat) (0 : Int)),
 V.u64 (BitVec.ofInt (64 : Nat) (0 : Int)), V.u64 (BitVec.ofInt (64 : Nat) (0 : Int)),
 V.u64 (BitVec.ofInt (64 : Nat) (0 : Int)), V.u64 (BitVec.ofInt (64 : Nat) (0 : Int)),
 V.str (q.s (2 : Nat)), V.int IntKind.i64 (0 : Int), V.str (bytesOf (ByteArray.mk #[])),
 V.str (bytesOf (ByteArray.mk #[])), V.u64 (BitVec.ofInt (64 : Nat) (0 : Int)),
 V.u64 (BitVec.ofInt (64 : Nat) (0 : Int)), V.u64 (BitVec.ofInt (64 : Nat) (0 : Int)),
 V.u64 (BitVec.ofInt (64 : Nat) (0 : Int)), V.u64 (BitVec.ofInt (64 : Nat) (0 : Int)),
 V.u64 (BitVec.ofInt (64 : Nat) (0 : Int)), V.u64 (BitVec.ofInt (64 : Nat) (0 : Int)),
 V.u64 (BitVec.ofInt (64 : Nat) (0 : Int)), V.u64 (BitVec.ofInt (64 : Nat) (0 : Int)),
 V.u64 (BitVec.ofInt (64 : Nat) (0 : Int)), V.u64 (BitVec.ofInt (64 : Nat) (0 : Int)),
 V.u64 (BitVec.ofInt (64 : Nat) (0 : Int)), V.u64 (BitVec.ofInt (64 : Nat) (0 : Int)),
 V.u64 (BitVec.ofInt (64 : Nat) (0 : Int)), V.str (bytesOf (ByteArray.mk #[])), V.nilSl],
 V.bool true]),
 [])))))
 (Tr.chk true
 (Tr.leaf
 (Fin.ret
 (V.tup
 [V.agg
 [V.str (bytesOf (ByteArray.mk #[])), V.str (bytesOf (ByteArray.mk #[])),
 V.u64 (BitVec.ofInt (64 : Nat) (0 : Int)), V.u64 (BitVec.ofInt (64 : Nat) (0 : Int)),
 V.u64 (BitVec.ofInt (64 : Nat) (0 : Int)), V.u64 (BitVec.ofInt (64 : Nat) (0 : Int)),
 V.u64 (BitVec.ofInt (64 : Nat) (0 : Int)), V.u64 (BitVec.ofInt (64 : Nat) (0 : Int)),
 V.u64 (BitVec.ofInt (64 : Nat) (0 : Int)), V.u64 (BitVec.ofInt (64 : Nat) (0 : Int)),
 V.u64 (BitVec.ofInt (64 : Nat) (0 : Int)), V.str (bytesOf (ByteArray.mk #[])),
 V.int IntKind.i64 (0 : Int), V.str (bytesOf (ByteArray.mk #[])), V.str (bytesOf (ByteArray.mk #[])),
 V.u64 (BitVec.ofInt (64 : Nat) (0 : Int)), V.u64 (BitVec.ofInt (64 : Nat) (0 : Int)),
 V.u64 (BitVec.ofInt (64 : Nat) (0 : Int)), V.u64 (BitVec.ofInt (64 : Nat) (0 : Int)),
 V.u64 (BitVec.ofInt (64 : Nat) (0 : Int)), V.u64 (BitVec.ofInt (64 : Nat) (0 : Int)),
 V.u64 (BitVec.ofInt (64 : Nat) (0 : Int)), V.u64 (BitVec.ofInt (64 : Nat) (0 : Int)),
 V.u64 (BitVec.ofInt (64 : Nat) (0 : Int)), V.u64 (BitVec.ofInt (64 : Nat) (0 : Int)),
 V.u64 (BitVec.ofInt (64 : Nat) (0 : Int)), V.u64 (BitVec.ofInt (64 : Nat) (0 : Int)),
 V.u64 (BitVec.ofInt (64 : Nat) (0 : Int)), V.u64 (BitVec.ofInt (64 : Nat) (0 : Int)),
 V.str (bytesOf (ByteArray.mk #[])), V.nilSl],
 V.bool false]),
 [])))) := by kernel_rfl
theorem dc_akv_x (s : List B) (q : RW) : Tr.prune ((Tr.Sh.any.both
 (Tr.Sh.any.both
 ((Tr.Sh.any.both Tr.Sh.any).r.r.r.both
 Tr.Sh.any.l.l.l.l).r).l).l.r.l.r.r.r.r.r.r.r.r.r.r.r.r.r)
 (execBF Pr (OD2 f_akv (4 : Nat) q) noLoopsT (100 : Nat) Go.Proofs.Tryd.f9 [V.str s] []) =
 Tr.chk (dqB (4 : Nat) q s && true && true && (fkB f_akv (q.s (0 : Nat)) && true && true && true))
 (Tr.br (!decide ((q.s (2 : Nat)).length ≤ (32 : Nat)))
 (Tr.chk true
 (Tr.leaf
 (Fin.ret
 (V.tup
 [V.agg
 [V.str (bytesOf (ByteArray.mk #[])), V.str (bytesOf (ByteArray.mk #[])),
 V.u64 (BitVec.ofInt (64 : Nat) (0 : Int)), V.u64 (BitVec.ofInt (64 : Nat) (0 : Int)),
 V.u64 (BitVec.ofInt (64 : Nat) (0 : Int)), V.u64 (BitVec.ofInt (64 : Nat) (0 : Int)),
 V.u64 (BitVec.ofInt (64 : Nat) (0 : Int)), V.u64 (BitVec.ofInt (64 : Nat) (0 : Int)),
 V.u64 (BitVec.ofInt (64 : Nat) (0 : Int)), V.u64 (BitVec.ofInt (64 : Nat) (0 : Int)),
 V.u64 (BitVec.ofInt (64 : Nat) (0 : Int)), V.str (bytesOf (ByteArray.mk #[])),
 V.int IntKind.i64 (0 : Int), V.str (bytesOf (ByteArray.mk #[])), V.str (bytesOf (ByteArray.mk #[])),
 V.u64 (BitVec.ofInt (64 : Nat) (0 : Int)), V.u64 (BitVec.ofInt (64 : Nat) (0 : Int)),
 V.u64 (BitVec.ofInt (64 : Nat) (0 : Int)), V.u64 (BitVec.ofInt (64 : Nat) (0 : Int)),
 V.u64 (BitVec.ofInt (64 : Nat) (0 : Int)), V.u64 (BitVec.ofInt (64 : Nat) (0 : Int)),
 V.u64 (BitVec.ofInt (64 : Nat) (0 : Int)), V.u64 (BitVec.ofInt (64 : Nat) (0 : Int)),
 V.u64 (BitVec.ofInt (64 : Nat) (0 : Int)), V.u64 (BitVec.ofInt (64 : Nat) (0 : Int)),
 V.u64 (BitVec.ofInt (64 : Nat) (0 : Int)), V.u64 (BitVec.ofInt (64 : Nat) (0 : Int)),
 V.u64 (BitVec.ofInt (64 : Nat) (0 : Int)), V.u64 (BitVec.ofInt (64 : Nat) (0 : Int)),
 V.str (bytesOf (ByteArray.mk #[])), V.nilSl],
 V.bool false]),
 [])))
 (Tr.chk true
 (Tr.br (!decide ((q.s (3 : Nat)).length ≤ (32 : Nat)))
 (Tr.chk true
 (Tr.leaf
 (Fin.ret
 (V.tup
 [V.agg
 [V.str (bytesOf (ByteArray.mk #[])), V.str (bytesOf (ByteArray.mk #[])),
 V.u64 (BitVec.ofInt (64 : Nat) (0 : Int)), V.u64 (BitVec.ofInt (64 : Nat) (0 : Int)),
 V.u64 (BitVec.ofInt (64 : Nat) (0 : Int)), V.u64 (BitVec.ofInt (64 : Nat) (0 : Int)),
 V.u64 (BitVec.ofInt (64 : Nat) (0 : Int)), V.u64 (BitVec.ofInt (64 : Nat) (0 : Int)),
 V.u64 (BitVec.ofInt (64 : Nat) (0 : Int)), V.u64 (BitVec.ofInt (64 : Nat) (0 : Int)),
 V.u64 (BitVec.ofInt (64 : Nat) (0 : Int)), V.str (bytesOf (ByteArray.mk #[])),
 V.int IntKind.i64 (0 : Int), V.str (bytesOf (ByteArray.mk #[])),
 V.str (bytesOf (ByteArray.mk #[])), V.u64 (BitVec.ofInt (64 : Nat) (0 : Int)),
 V.u64 (BitVec.ofInt (64 : Nat) (0 : Int)), V.u64 (BitVec.ofInt (64 : Nat) (0 : Int)),
 V.u64 (BitVec.ofInt (64 : Nat) (0 : Int)), V.u64 (BitVec.ofInt (64 : Nat) (0 : Int)),
 V.u64 (BitVec.ofInt (64 : Nat) (0 : Int)), V.u64 (BitVec.ofInt (64 : Nat) (0 : Int)),
 V.u64 (BitVec.ofInt (64 : Nat) (0 : Int)), V.u64 (BitVec.ofInt (64 : Nat) (0 : Int)),
 V.u64 (BitVec.ofInt (64 : Nat) (0 : Int)), V.u64 (BitVec.ofInt (64 : Nat) (0 : Int)),
 V.u64 (BitVec.ofInt (64 : Nat) (0 : Int)), V.u64 (BitVec.ofInt (64 : Nat) (0 : Int)),
 V.u64 (BitVec.ofInt (64 : Nat) (0 : Int)), V.str (bytesOf (ByteArray.mk #[])), V.nilSl],
 V.bool false]),
 [])))
 (Tr.chk
 (ecB f_akv
 (CM.mk (q.s (0 : Nat)) (q.s (1 : Nat)) (BitVec.ofInt (64 : Nat) (0 : Int))
 (if (q.s (2 : Nat)).length ≤ (32 : Nat) then W4.ofBytes (q.s (2 : Nat)) else W4.zero)
 (if (q.s (3 : Nat)).length ≤ (32 : Nat) then W4.ofBytes (q.s (3 : Nat)) else W4.zero)
 (bytesOf (ByteArray.mk #[])) (0 : Int) (bytesOf (ByteArray.mk #[])) (bytesOf (ByteArray.mk #[]))
 (BitVec.ofInt (64 : Nat) (0 : Int)) (BitVec.ofInt (64 : Nat) (0 : Int))
 (W4.mk (BitVec.ofInt (64 : Nat) (0 : Int)) (BitVec.ofInt (64 : Nat) (0 : Int))
 (BitVec.ofInt (64 : Nat) (0 : Int)) (BitVec.ofInt (64 : Nat) (0 : Int)))
 (W4.mk (BitVec.ofInt (64 : Nat) (0 : Int)) (BitVec.ofInt (64 : Nat) (0 : Int))
 (BitVec.ofInt (64 : Nat) (0 : Int)) (BitVec.ofInt (64 : Nat) (0 : Int)))
 (W4.mk (BitVec.ofInt (64 : Nat) (0 : Int)) (BitVec.ofInt (64 : Nat) (0 : Int))
 (BitVec.ofInt (64 : Nat) (0 : Int)) (BitVec.ofInt (64 : Nat) (0 : Int)))
 (bytesOf (ByteArray.mk #[]))))
 (Tr.br
 (eokO f_akv
 (CM.mk (q.s (0 : Nat)) (q.s (1 : Nat)) (BitVec.ofInt (64 : Nat) (0 : Int))
 (if (q.s (2 : Nat)).length ≤ (32 : Nat) then W4.ofBytes (q.s (2 : Nat)) else W4.zero)
 (if (q.s (3 : Nat)).length ≤ (32 : Nat) then W4.ofBytes (q.s (3 : Nat)) else W4.zero)
 (bytesOf (ByteArray.mk #[])) (0 : Int) (bytesOf (ByteArray.mk #[])) (bytesOf (ByteArray.mk #[]))
 (BitVec.ofInt (64 : Nat) (0 : Int)) (BitVec.ofInt (64 : Nat) (0 : Int))
 (W4.mk (BitVec.ofInt (64 : Nat) (0 : Int)) (BitVec.ofInt (64 : Nat) (0 : Int))
 (BitVec.ofInt (64 : Nat) (0 : Int)) (BitVec.ofInt (64 : Nat) (0 : Int)))
 (W4.mk (BitVec.ofInt (64 : Nat) (0 : Int)) (BitVec.ofInt (64 : Nat) (0 : Int))
 (BitVec.ofInt (64 : Nat) (0 : Int)) (BitVec.ofInt (64 : Nat) (0 : Int)))
 (W4.mk (BitVec.ofInt (64 : Nat) (0 : Int)) (BitVec.ofInt (64 : Nat) (0 : Int))
 (BitVec.ofInt (64 : Nat) (0 : Int)) (BitVec.ofInt (64 : Nat) (0 : Int)))
 (bytesOf (ByteArray.mk #[]))))
 (Tr.chk true
 (Tr.br
 (!eS f_akv
 (CM.mk (q.s (0 : Nat)) (q.s (1 : Nat)) (BitVec.ofInt (64 : Nat) (0 : Int))
 (if (q.s (2 : Nat)).length ≤ (32 : Nat) then W4.ofBytes (q.s (2 : Nat)) else W4.zero)
 (if (q.s (3 : Nat)).length ≤ (32 : Nat) then W4.ofBytes (q.s (3 : Nat)) else W4.zero)
 (bytesOf (ByteArray.mk #[])) (0 : Int) (bytesOf (ByteArray.mk #[])) (bytesOf (ByteArray.mk #[]))
 (BitVec.ofInt (64 : Nat) (0 : Int)) (BitVec.ofInt (64 : Nat) (0 : Int))
 (W4.mk (BitVec.ofInt (64 : Nat) (0 : Int)) (BitVec.ofInt (64 : Nat) (0 : Int))
 (BitVec.ofInt (64 : Nat) (0 : Int)) (BitVec.ofInt (64 : Nat) (0 : Int)))
 (W4.mk (BitVec.ofInt (64 : Nat) (0 : Int)) (BitVec.ofInt (64 : Nat) (0 : Int))
 (BitVec.ofInt (64 : Nat) (0 : Int)) (BitVec.ofInt (64 : Nat) (0 : Int)))
 (W4.mk (BitVec.ofInt (64 : Nat) (0 : Int)) (BitVec.ofInt (64 : Nat) (0 : Int))
 (BitVec.ofInt (64 : Nat) (0 : Int)) (BitVec.ofInt (64 : Nat) (0 : Int)))
 (bytesOf (ByteArray.mk #[]))) ==
 s)
 (Tr.chk true
 (Tr.leaf
 (Fin.ret
 (V.tup
 [V.agg
 [V.str (bytesOf (ByteArray.mk #[])), V.str (bytesOf (ByteArray.mk #[])),
 V.u64 (BitVec.ofInt (64 : Nat) (0 : Int)), V.u64 (BitVec.ofInt (64 : Nat) (0 : Int)),
 V.u64 (BitVec.ofInt (64 : Nat) (0 : Int)), V.u64 (BitVec.ofInt (64 : Nat) (0 : Int)),
 V.u64 (BitVec.ofInt (64 : Nat) (0 : Int)), V.u64 (BitVec.ofInt (64 : Nat) (0 : Int)),
 V.u64 (BitVec.ofInt (64 : Nat) (0 : Int)), V.u64 (BitVec.ofInt (64 : Nat) (0 : Int)),
 V.u64 (BitVec.ofInt (64 : Nat) (0 : Int)), V.str (bytesOf (ByteArray.mk #[])),
 V.int IntKind.i64 (0 : Int), V.str (bytesOf (ByteArray.mk #[])),
 V.str (bytesOf (ByteArray.mk #[])), V.u64 (BitVec.ofInt (64 : Nat) (0 : Int)),
 V.u64 (BitVec.ofInt (64 : Nat) (0 : Int)), V.u64 (BitVec.ofInt (64 : Nat) (0 : Int)),
 V.u64 (BitVec.ofInt (64 : Nat) (0 : Int)), V.u64 (BitVec.ofInt (64 : Nat) (0 : Int)),
 V.u64 (BitVec.ofInt (64 : Nat) (0 : Int)), V.u64 (BitVec.ofInt (64 : Nat) (0 : Int)),
 V.u64 (BitVec.ofInt (64 : Nat) (0 : Int)), V.u64 (BitVec.ofInt (64 : Nat) (0 : Int)),
 V.u64 (BitVec.ofInt (64 : Nat) (0 : Int)), V.u64 (BitVec.ofInt (64 : Nat) (0 : Int)),
 V.u64 (BitVec.ofInt (64 : Nat) (0 : Int)), V.u64 (BitVec.ofInt (64 : Nat) (0 : Int)),
 V.u64 (BitVec.ofInt (64 : Nat) (0 : Int)), V.str (bytesOf (ByteArray.mk #[])), V.nilSl],
 V.bool false]),
 [])))
 (Tr.chk true
 (Tr.leaf
 (Fin.ret
 (V.tup
 [V.agg
 [V.str (q.s (0 : Nat)), V.str (q.s (1 : Nat)), V.u64 (BitVec.ofInt (64 : Nat) (0 : Int)),
 V.u64
 (if (q.s (2 : Nat)).length ≤ (32 : Nat) then W4.ofBytes (q.s (2 : Nat))
 else W4.zero).a,
 V.u64
 (if (q.s (2 : Nat)).length ≤ (32 : Nat) then W4.ofBytes (q.s (2 : Nat))
 else W4.zero).b,
 V.u64
 (if (q.s (2 : Nat)).length ≤ (32 : Nat) then W4.ofBytes (q.s (2 : Nat))
 else W4.zero).c,
 V.u64
 (if (q.s (2 : Nat)).length ≤ (32 : Nat) then W4.ofBytes (q.s (2 : Nat))
 else W4.zero).d,
 V.u64
 (if (q.s (3 : Nat)).length ≤ (32 : Nat) then W4.ofBytes (q.s (3 : Nat))
 else W4.zero).a,
 V.u64
 (if (q.s (3 : Nat)).length ≤ (32 : Nat) then W4.ofBytes (q.s (3 : Nat))
 else W4.zero).b,
 V.u64
 (if (q.s (3 : Nat)).length ≤ (32 : Nat) then W4.ofBytes (q.s (3 : Nat))
 else W4.zero).c,
 V.u64
 (if (q.s (3 : Nat)).length ≤ (32 : Nat) then W4.ofBytes (q.s (3 : Nat))
 else W4.zero).d,
 V.str (bytesOf (ByteArray.mk #[])), V.int IntKind.i64 (0 : Int),
 V.str (bytesOf (ByteArray.mk #[])), V.str (bytesOf (ByteArray.mk #[])),
 V.u64 (BitVec.ofInt (64 : Nat) (0 : Int)), V.u64 (BitVec.ofInt (64 : Nat) (0 : Int)),
 V.u64 (BitVec.ofInt (64 : Nat) (0 : Int)), V.u64 (BitVec.ofInt (64 : Nat) (0 : Int)),
 V.u64 (BitVec.ofInt (64 : Nat) (0 : Int)), V.u64 (BitVec.ofInt (64 : Nat) (0 : Int)),
 V.u64 (BitVec.ofInt (64 : Nat) (0 : Int)), V.u64 (BitVec.ofInt (64 : Nat) (0 : Int)),
 V.u64 (BitVec.ofInt (64 : Nat) (0 : Int)), V.u64 (BitVec.ofInt (64 : Nat) (0 : Int)),
 V.u64 (BitVec.ofInt (64 : Nat) (0 : Int)), V.u64 (BitVec.ofInt (64 : Nat) (0 : Int)),
 V.u64 (BitVec.ofInt (64 : Nat) (0 : Int)), V.u64 (BitVec.ofInt (64 : Nat) (0 : Int)),
 V.str (bytesOf (ByteArray.mk #[])), V.nilSl],
 V.bool true]),
 [])))))
 (Tr.chk true
 (Tr.leaf
 (Fin.ret
 (V.tup
 [V.agg
 [V.str (bytesOf (ByteArray.mk #[])), V.str (bytesOf (ByteArray.mk #[])),
 V.u64 (BitVec.ofInt (64 : Nat) (0 : Int)), V.u64 (BitVec.ofInt (64 : Nat) (0 : Int)),
 V.u64 (BitVec.ofInt (64 : Nat) (0 : Int)), V.u64 (BitVec.ofInt (64 : Nat) (0 : Int)),
 V.u64 (BitVec.ofInt (64 : Nat) (0 : Int)), V.u64 (BitVec.ofInt (64 : Nat) (0 : Int)),
 V.u64 (BitVec.ofInt (64 : Nat) (0 : Int)), V.u64 (BitVec.ofInt (64 : Nat) (0 : Int)),
 V.u64 (BitVec.ofInt (64 : Nat) (0 : Int)), V.str (bytesOf (ByteArray.mk #[])),
 V.int IntKind.i64 (0 : Int), V.str (bytesOf (ByteArray.mk #[])),
 V.str (bytesOf (ByteArray.mk #[])), V.u64 (BitVec.ofInt (64 : Nat) (0 : Int)),
 V.u64 (BitVec.ofInt (64 : Nat) (0 : Int)), V.u64 (BitVec.ofInt (64 : Nat) (0 : Int)),
 V.u64 (BitVec.ofInt (64 : Nat) (0 : Int)), V.u64 (BitVec.ofInt (64 : Nat) (0 : Int)),
 V.u64 (BitVec.ofInt (64 : Nat) (0 : Int)), V.u64 (BitVec.ofInt (64 : Nat) (0 : Int)),
 V.u64 (BitVec.ofInt (64 : Nat) (0 : Int)), V.u64 (BitVec.ofInt (64 : Nat) (0 : Int)),
 V.u64 (BitVec.ofInt (64 : Nat) (0 : Int)), V.u64 (BitVec.ofInt (64 : Nat) (0 : Int)),
 V.u64 (BitVec.ofInt (64 : Nat) (0 : Int)), V.u64 (BitVec.ofInt (64 : Nat) (0 : Int)),
 V.u64 (BitVec.ofInt (64 : Nat) (0 : Int)), V.str (bytesOf (ByteArray.mk #[])), V.nilSl],
 V.bool false]),
 [])))))))) := by kernel_rfl
theorem dc_e_x (s : List B) (q : RW) : Tr.prune (((Tr.Sh.any.both Tr.Sh.any).r.r.r.both
 Tr.Sh.any.l.l.l.l).r.r.r.r.r.r.r.r.r.r.r.r.r.r)
 (execBF Pr (OD2 f_e (1 : Nat) q) noLoopsT (100 : Nat) Go.Proofs.Tryd.f9 [V.str s] []) =
 Tr.chk
 (dqB (1 : Nat) q s && true && true &&
 (fkB f_e (q.s (0 : Nat)) && true && true &&
 ecB f_e
 (CM.mk (q.s (0 : Nat)) (bytesOf (ByteArray.mk #[])) (BitVec.ofInt (64 : Nat) (0 : Int))
 (W4.mk (BitVec.ofInt (64 : Nat) (0 : Int)) (BitVec.ofInt (64 : Nat) (0 : Int))
 (BitVec.ofInt (64 : Nat) (0 : Int)) (BitVec.ofInt (64 : Nat) (0 : Int)))
 (W4.mk (BitVec.ofInt (64 : Nat) (0 : Int)) (BitVec.ofInt (64 : Nat) (0 : Int))
 (BitVec.ofInt (64 : Nat) (0 : Int)) (BitVec.ofInt (64 : Nat) (0 : Int)))
 (bytesOf (ByteArray.mk #[])) (0 : Int) (bytesOf (ByteArray.mk #[])) (bytesOf (ByteArray.mk #[]))
 (BitVec.ofInt (64 : Nat) (0 : Int)) (BitVec.ofInt (64 : Nat) (0 : Int))
 (W4.mk (BitVec.ofInt (64 : Nat) (0 : Int)) (BitVec.ofInt (64 : Nat) (0 : Int))
 (BitVec.ofInt (64 : Nat) (0 : Int)) (BitVec.ofInt (64 : Nat) (0 : Int)))
 (W4.mk (BitVec.ofInt (64 : Nat) (0 : Int)) (BitVec.ofInt (64 : Nat) (0 : Int))
 (BitVec.ofInt (64 : Nat) (0 : Int)) (BitVec.ofInt (64 : Nat) (0 : Int)))
 (W4.mk (BitVec.ofInt (64 : Nat) (0 : Int)) (BitVec.ofInt (64 : Nat) (0 : Int))
 (BitVec.ofInt (64 : Nat) (0 : Int)) (BitVec.ofInt (64 : Nat) (0 : Int)))
 (bytesOf (ByteArray.mk #[])))))
 (Tr.br
 (eokO f_e
 (CM.mk (q.s (0 : Nat)) (bytesOf (ByteArray.mk #[])) (BitVec.ofInt (64 : Nat) (0 : Int))
 (W4.mk (BitVec.ofInt (64 : Nat) (0 : Int)) (BitVec.ofInt (64 : Nat) (0 : Int))
 (BitVec.ofInt (64 : Nat) (0 : Int)) (BitVec.ofInt (64 : Nat) (0 : Int)))
 (W4.mk (BitVec.ofInt (64 : Nat) (0 : Int)) (BitVec.ofInt (64 : Nat) (0 : Int))
 (BitVec.ofInt (64 : Nat) (0 : Int)) (BitVec.ofInt (64 : Nat) (0 : Int)))
 (bytesOf (ByteArray.mk #[])) (0 : Int) (bytesOf (ByteArray.mk #[])) (bytesOf (ByteArray.mk #[]))
 (BitVec.ofInt (64 : Nat) (0 : Int)) (BitVec.ofInt (64 : Nat) (0 : Int))
 (W4.mk (BitVec.ofInt (64 : Nat) (0 : Int)) (BitVec.ofInt (64 : Nat) (0 : Int))
 (BitVec.ofInt (64 : Nat) (0 : Int)) (BitVec.ofInt (64 : Nat) (0 : Int)))
 (W4.mk (BitVec.ofInt (64 : Nat) (0 : Int)) (BitVec.ofInt (64 : Nat) (0 : Int))
 (BitVec.ofInt (64 : Nat) (0 : Int)) (BitVec.ofInt (64 : Nat) (0 : Int)))
 (W4.mk (BitVec.ofInt (64 : Nat) (0 : Int)) (BitVec.ofInt (64 : Nat) (0 : Int))
 (BitVec.ofInt (64 : Nat) (0 : Int)) (BitVec.ofInt (64 : Nat) (0 : Int)))
 (bytesOf (ByteArray.mk #[]))))
 (Tr.chk true
 (Tr.br
 (!eS f_e
 (CM.mk (q.s (0 : Nat)) (bytesOf (ByteArray.mk #[])) (BitVec.ofInt (64 : Nat) (0 : Int))
 (W4.mk (BitVec.ofInt (64 : Nat) (0 : Int)) (BitVec.ofInt (64 : Nat) (0 : Int))
 (BitVec.ofInt (64 : Nat) (0 : Int)) (BitVec.ofInt (64 : Nat) (0 : Int)))
 (W4.mk (BitVec.ofInt (64 : Nat) (0 : Int)) (BitVec.ofInt (64 : Nat) (0 : Int))
 (BitVec.ofInt (64 : Nat) (0 : Int)) (BitVec.ofInt (64 : Nat) (0 : Int)))
 (bytesOf (ByteArray.mk #[])) (0 : Int) (bytesOf (ByteArray.mk #[])) (bytesOf (ByteArray.mk #[]))
 (BitVec.ofInt (64 : Nat) (0 : Int)) (BitVec.ofInt (64 : Nat) (0 : Int))
 (W4.mk (BitVec.ofInt (64 : Nat) (0 : Int)) (BitVec.ofInt (64 : Nat) (0 : Int))
 (BitVec.ofInt (64 : Nat) (0 : Int)) (BitVec.ofInt (64 : Nat) (0 : Int)))
 (W4.mk (BitVec.ofInt (64 : Nat) (0 : Int)) (BitVec.ofInt (64 : Nat) (0 : Int))
 (BitVec.ofInt (64 : Nat) (0 : Int)) (BitVec.ofInt (64 : Nat) (0 : Int)))
 (W4.mk (BitVec.ofInt (64 : Nat) (0 : Int)) (BitVec.ofInt (64 : Nat) (0 : Int))
 (BitVec.ofInt (64 : Nat) (0 : Int)) (BitVec.ofInt (64 : Nat) (0 : Int)))
 (bytesOf (ByteArray.mk #[]))) ==
 s)
 (Tr.chk true
 (Tr.leaf
 (Fin.ret
 (V.tup
 [V.agg
 [V.str (bytesOf (ByteArray.mk #[])), V.str (bytesOf (ByteArray.mk #[])),
 V.u64 (BitVec.ofInt (64 : Nat) (0 : Int)), V.u64 (BitVec.ofInt (64 : Nat) (0 : Int)),
 V.u64 (BitVec.ofInt (64 : Nat) (0 : Int)), V.u64 (BitVec.ofInt (64 : Nat) (0 : Int)),
 V.u64 (BitVec.ofInt (64 : Nat) (0 : Int)), V.u64 (BitVec.ofInt (64 : Nat) (0 : Int)),
 V.u64 (BitVec.ofInt (64 : Nat) (0 : Int)), V.u64 (BitVec.ofInt (64 : Nat) (0 : Int)),
 V.u64 (BitVec.ofInt (64 : Nat) (0 : Int)), V.str (bytesOf (ByteArray.mk #[])),
 V.int IntKind.i64 (0 : Int), V.str (bytesOf (ByteArray.mk #[])),
 V.str (bytesOf (ByteArray.mk #[])), V.u64 (BitVec.ofInt (64 : Nat) (0 : Int)),
 V.u64 (BitVec.ofInt (64 : Nat) (0 : Int)), V.u64 (BitVec.ofInt (64 : Nat) (0 : Int)),
 V.u64 (BitVec.ofInt (64 : Nat) (0 : Int)), V.u64 (BitVec.ofInt (64 : Nat) (0 : Int)),
 V.u64 (BitVec.ofInt (64 : Nat) (0 : Int)), V.u64 (BitVec.ofInt (64 : Nat) (0 : Int)),
 V.u64 (BitVec.ofInt (64 : Nat) (0 : Int)), V.u64 (BitVec.ofInt (64 : Nat) (0 : Int)),
 V.u64 (BitVec.ofInt (64 : Nat) (0 : Int)), V.u64 (BitVec.ofInt (64 : Nat) (0 : Int)),
 V.u64 (BitVec.ofInt (64 : Nat) (0 : Int)), V.u64 (BitVec.ofInt (64 : Nat) (0 : Int)),
 V.u64 (BitVec.ofInt (64 : Nat) (0 : Int)), V.str (bytesOf (ByteArray.mk #[])), V.nilSl],
 V.bool false]),
 [])))
 (Tr.chk true
 (Tr.leaf
 (Fin.ret
 (V.tup
 [V.agg
 [V.str (q.s (0 : Nat)), V.str (bytesOf (ByteArray.mk #[])),
 V.u64 (BitVec.ofInt (64 : Nat) (0 : Int)), V.u64 (BitVec.ofInt (64 : Nat) (0 : Int)),
 V.u64 (BitVec.ofInt (64 : Nat) (0 : Int)), V.u64 (BitVec.ofInt (64 : Nat) (0 : Int)),
 V.u64 (BitVec.ofInt (64 : Nat) (0 : Int)), V.u64 (BitVec.ofInt (64 : Nat) (0 : Int)),
 V.u64 (BitVec.ofInt (64 : Nat) (0 : Int)), V.u64 (BitVec.ofInt (64 : Nat) (0 : Int)),
 V.u64 (BitVec.ofInt (64 : Nat) (0 : Int)), V.str (bytesOf (ByteArray.mk #[])),
 V.int IntKind.i64 (0 : Int), V.str (bytesOf (ByteArray.mk #[])),
 V.str (bytesOf (ByteArray.mk #[])), V.u64 (BitVec.ofInt (64 : Nat) (0 : Int)),
 V.u64 (BitVec.ofInt (64 : Nat) (0 : Int)), V.u64 (BitVec.ofInt (64 : Nat) (0 : Int)),
 V.u64 (BitVec.ofInt (64 : Nat) (0 : Int)), V.u64 (BitVec.ofInt (64 : Nat) (0 : Int)),
 V.u64 (BitVec.ofInt (64 : Nat) (0 : Int)), V.u64 (BitVec.ofInt (64 : Nat) (0 : Int)),
 V.u64 (BitVec.ofInt (64 : Nat) (0 : Int)), V.u64 (BitVec.ofInt (64 : Nat) (0 : Int)),
 V.u64 (BitVec.ofInt (64 : Nat) (0 : Int)), V.u64 (BitVec.ofInt (64 : Nat) (0 : Int)),
 V.u64 (BitVec.ofInt (64 : Nat) (0 : Int)), V.u64 (BitVec.ofInt (64 : Nat) (0 : Int)),
 V.u64 (BitVec.ofInt (64 : Nat) (0 : Int)), V.str (bytesOf (ByteArray.mk #[])), V.nilSl],
 V.bool true]),
 [])))))
 (Tr.chk true
 (Tr.leaf
 (Fin.ret
 (V.tup
 [V.agg
 [V.str (bytesOf (ByteArray.mk #[])), V.str (bytesOf (ByteArray.mk #[])),
 V.u64 (BitVec.ofInt (64 : Nat) (0 : Int)), V.u64 (BitVec.ofInt (64 : Nat) (0 : Int)),
 V.u64 (BitVec.ofInt (64 : Nat) (0 : Int)), V.u64 (BitVec.ofInt (64 : Nat) (0 : Int)),
 V.u64 (BitVec.ofInt (64 : Nat) (0 : Int)), V.u64 (BitVec.ofInt (64 : Nat) (0 : Int)),
 V.u64 (BitVec.ofInt (64 : Nat) (0 : Int)), V.u64 (BitVec.ofInt (64 : Nat) (0 : Int)),
 V.u64 (BitVec.ofInt (64 : Nat) (0 : Int)), V.str (bytesOf (ByteArray.mk #[])),
 V.int IntKind.i64 (0 : Int), V.str (bytesOf (ByteArray.mk #[])), V.str (bytesOf (ByteArray.mk #[])),
 V.u64 (BitVec.ofInt (64 : Nat) (0 : Int)), V.u64 (BitVec.ofInt (64 : Nat) (0 : Int)),
 V.u64 (BitVec.ofInt (64 : Nat) (0 : Int)), V.u64 (BitVec.ofInt (64 : Nat) (0 : Int)),
 V.u64 (BitVec.ofInt (64 : Nat) (0 : Int)), V.u64 (BitVec.ofInt (64 : Nat) (0 : Int)),
 V.u64 (BitVec.ofInt (64 : Nat) (0 : Int)), V.u64 (BitVec.ofInt (64 : Nat) (0 : Int)),
 V.u64 (BitVec.ofInt (64 : Nat) (0 : Int)), V.u64 (BitVec.ofInt (64 : Nat) (0 : Int)),
 V.u64 (BitVec.ofInt (64 : Nat) (0 : Int)), V.u64 (BitVec.ofInt (64 : Nat) (0 : Int)),
 V.u64 (BitVec.ofInt (64 : Nat) (0 : Int)), V.u64 (BitVec.ofInt (64 : Nat) (0 : Int)),
 V.str (bytesOf (ByteArray.mk #[])), V.nilSl],
 V.bool false]),
 [])))) := by kernel_rfl
theorem dc_s_x (s : List B) (q : RW) : Tr.prune (((Tr.Sh.any.both Tr.Sh.any).r.r.r.both
 Tr.Sh.any.l.l.l.l).r.r.l.r.r.r.r.r.r.r.r.r.r.r.r.r)
 (execBF Pr (OD2 f_s (2 : Nat) q) noLoopsT (100 : Nat) Go.Proofs.Tryd.f9 [V.str s] []) =
 Tr.chk
 (dqB (2 : Nat) q s && true && true &&
 (fkB f_s (q.s (0 : Nat)) && true && true &&
 ecB f_s
 (CM.mk (q.s (0 : Nat)) (bytesOf (ByteArray.mk #[])) (BitVec.ofInt (64 : Nat) (0 : Int))
 (W4.mk (BitVec.ofInt (64 : Nat) (0 : Int)) (BitVec.ofInt (64 : Nat) (0 : Int))
 (BitVec.ofInt (64 : Nat) (0 : Int)) (BitVec.ofInt (64 : Nat) (0 : Int)))
 (W4.mk (BitVec.ofInt (64 : Nat) (0 : Int)) (BitVec.ofInt (64 : Nat) (0 : Int))
 (BitVec.ofInt (64 : Nat) (0 : Int)) (BitVec.ofInt (64 : Nat) (0 : Int)))
 (q.s (1 : Nat)) (0 : Int) (bytesOf (ByteArray.mk #[])) (bytesOf (ByteArray.mk #[]))
 (BitVec.ofInt (64 : Nat) (0 : Int)) (BitVec.ofInt (64 : Nat) (0 : Int))
 (W4.mk (BitVec.ofInt (64 : Nat) (0 : Int)) (BitVec.ofInt (64 : Nat) (0 : Int))
 (BitVec.ofInt (64 : Nat) (0 : Int)) (BitVec.ofInt (64 : Nat) (0 : Int)))
 (W4.mk (BitVec.ofInt (64 : Nat) (0 : Int)) (BitVec.ofInt (64 : Nat) (0 : Int))
 (BitVec.ofInt (64 : Nat) (0 : Int)) (BitVec.ofInt (64 : Nat) (0 : Int)))
 (W4.mk (BitVec.ofInt (64 : Nat) (0 : Int)) (BitVec.ofInt (64 : Nat) (0 : Int))
 (BitVec.ofInt (64 : Nat) (0 : Int)) (BitVec.ofInt (64 : Nat) (0 : Int)))
 (bytesOf (ByteArray.mk #[])))))
 (Tr.br
 (eokO f_s
 (CM.mk (q.s (0 : Nat)) (bytesOf (ByteArray.mk #[])) (BitVec.ofInt (64 : Nat) (0 : Int))
 (W4.mk (BitVec.ofInt (64 : Nat) (0 : Int)) (BitVec.ofInt (64 : Nat) (0 : Int))
 (BitVec.ofInt (64 : Nat) (0 : Int)) (BitVec.ofInt (64 : Nat) (0 : Int)))
 (W4.mk (BitVec.ofInt (64 : Nat) (0 : Int)) (BitVec.ofInt (64 : Nat) (0 : Int))
 (BitVec.ofInt (64 : Nat) (0 : Int)) (BitVec.ofInt (64 : Nat) (0 : Int)))
 (q.s (1 : Nat)) (0 : Int) (bytesOf (ByteArray.mk #[])) (bytesOf (ByteArray.mk #[]))
 (BitVec.ofInt (64 : Nat) (0 : Int)) (BitVec.ofInt (64 : Nat) (0 : Int))
 (W4.mk (BitVec.ofInt (64 : Nat) (0 : Int)) (BitVec.ofInt (64 : Nat) (0 : Int))
 (BitVec.ofInt (64 : Nat) (0 : Int)) (BitVec.ofInt (64 : Nat) (0 : Int)))
 (W4.mk (BitVec.ofInt (64 : Nat) (0 : Int)) (BitVec.ofInt (64 : Nat) (0 : Int))
 (BitVec.ofInt (64 : Nat) (0 : Int)) (BitVec.ofInt (64 : Nat) (0 : Int)))
 (W4.mk (BitVec.ofInt (64 : Nat) (0 : Int)) (BitVec.ofInt (64 : Nat) (0 : Int))
 (BitVec.ofInt (64 : Nat) (0 : Int)) (BitVec.ofInt (64 : Nat) (0 : Int)))
 (bytesOf (ByteArray.mk #[]))))
 (Tr.chk true
 (Tr.br
 (!eS f_s
 (CM.mk (q.s (0 : Nat)) (bytesOf (ByteArray.mk #[])) (BitVec.ofInt (64 : Nat) (0 : Int))
 (W4.mk (BitVec.ofInt (64 : Nat) (0 : Int)) (BitVec.ofInt (64 : Nat) (0 : Int))
 (BitVec.ofInt (64 : Nat) (0 : Int)) (BitVec.ofInt (64 : Nat) (0 : Int)))
 (W4.mk (BitVec.ofInt (64 : Nat) (0 : Int)) (BitVec.ofInt (64 : Nat) (0 : Int))
 (BitVec.ofInt (64 : Nat) (0 : Int)) (BitVec.ofInt (64 : Nat) (0 : Int)))
 (q.s (1 : Nat)) (0 : Int) (bytesOf (ByteArray.mk #[])) (bytesOf (ByteArray.mk #[]))
 (BitVec.ofInt (64 : Nat) (0 : Int)) (BitVec.ofInt (64 : Nat) (0 : Int))
 (W4.mk (BitVec.ofInt (64 : Nat) (0 : Int)) (BitVec.ofInt (64 : Nat) (0 : Int))
 (BitVec.ofInt (64 : Nat) (0 : Int)) (BitVec.ofInt (64 : Nat) (0 : Int)))
 (W4.mk (BitVec.ofInt (64 : Nat) (0 : Int)) (BitVec.ofInt (64 : Nat) (0 : Int))
 (BitVec.ofInt (64 : Nat) (0 : Int)) (BitVec.ofInt (64 : Nat) (0 : Int)))
 (W4.mk (BitVec.ofInt (64 : Nat) (0 : Int)) (BitVec.ofInt (64 : Nat) (0 : Int))
 (BitVec.ofInt (64 : Nat) (0 : Int)) (BitVec.ofInt (64 : Nat) (0 : Int)))
 (bytesOf (ByteArray.mk #[]))) ==
 s)
 (Tr.chk true
 (Tr.leaf
 (Fin.ret
 (V.tup
 [V.agg
 [V.str (bytesOf (ByteArray.mk #[])), V.str (bytesOf (ByteArray.mk #[])),
 V.u64 (BitVec.ofInt (64 : Nat) (0 : Int)), V.u64 (BitVec.ofInt (64 : Nat) (0 : Int)),
 V.u64 (BitVec.ofInt (64 : Nat) (0 : Int)), V.u64 (BitVec.ofInt (64 : Nat) (0 : Int)),
 V.u64 (BitVec.ofInt (64 : Nat) (0 : Int)), V.u64 (BitVec.ofInt (64 : Nat) (0 : Int)),
 V.u64 (BitVec.ofInt (64 : Nat) (0 : Int)), V.u64 (BitVec.ofInt (64 : Nat) (0 : Int)),
 V.u64 (BitVec.ofInt (64 : Nat) (0 : Int)), V.str (bytesOf (ByteArray.mk #[])),
 V.int IntKind.i64 (0 : Int), V.str (bytesOf (ByteArray.mk #[])),
 V.str (bytesOf (ByteArray.mk #[])), V.u64 (BitVec.ofInt (64 : Nat) (0 : Int)),
 V.u64 (BitVec.ofInt (64 : Nat) (0 : Int)), V.u64 (BitVec.ofInt (64 : Nat) (0 : Int)),
 V.u64 (BitVec.ofInt (64 : Nat) (0 : Int)), V.u64 (BitVec.ofInt (64 : Nat) (0 : Int)),
 V.u64 (BitVec.ofInt (64 : Nat) (0 : Int)), V.u64 (BitVec.ofInt (64 : Nat) (0 : Int)),
 V.u64 (BitVec.ofInt (64 : Nat) (0 : Int)), V.u64 (BitVec.ofInt (64 : Nat) (0 : Int)),
 V.u64 (BitVec.ofInt (64 : Nat) (0 : Int)), V.u64 (BitVec.ofInt (64 : Nat) (0 : Int)),
 V.u64 (BitVec.ofInt (64 : Nat) (0 : Int)), V.u64 (BitVec.ofInt (64 : Nat) (0 : Int)),
 V.u64 (BitVec.ofInt (64 : Nat) (0 : Int)), V.str (bytesOf (ByteArray.mk #[])), V.nilSl],
 V.bool false]),
 [])))
 (Tr.chk true
 (Tr.leaf
 (Fin.ret
 (V.tup
 [V.agg
 [V.str (q.s (0 : Nat)), V.str (bytesOf (ByteArray.mk #[])),
 V.u64 (BitVec.ofInt (64 : Nat) (0 : Int)), V.u64 (BitVec.ofInt (64 : Nat) (0 : Int)),
 V.u64 (BitVec.ofInt (64 : Nat) (0 : Int)), V.u64 (BitVec.ofInt (64 : Nat) (0 : Int)),
 V.u64 (BitVec.ofInt (64 : Nat) (0 : Int)), V.u64 (BitVec.ofInt (64 : Nat) (0 : Int)),
 V.u64 (BitVec.ofInt (64 : Nat) (0 : Int)), V.u64 (BitVec.ofInt (64 : Nat) (0 : Int)),
 V.u64 (BitVec.ofInt (64 : Nat) (0 : Int)), V.str (q.s (1 : Nat)), V.int IntKind.i64 (0 : Int),
 V.str (bytesOf (ByteArray.mk #[])), V.str (bytesOf (ByteArray.mk #[])),
 V.u64 (BitVec.ofInt (64 : Nat) (0 : Int)), V.u64 (BitVec.ofInt (64 : Nat) (0 : Int)),
 V.u64 (BitVec.ofInt (64 : Nat) (0 : Int)), V.u64 (BitVec.ofInt (64 : Nat) (0 : Int)),
 V.u64 (BitVec.ofInt (64 : Nat) (0 : Int)), V.u64 (BitVec.ofInt (64 : Nat) (0 : Int)),
 V.u64 (BitVec.ofInt (64 : Nat) (0 : Int)), V.u64 (BitVec.ofInt (64 : Nat) (0 : Int)),
 V.u64 (BitVec.ofInt (64 : Nat) (0 : Int)), V.u64 (BitVec.ofInt (64 : Nat) (0 : Int)),
 V.u64 (BitVec.ofInt (64 : Nat) (0 : Int)), V.u64 (BitVec.ofInt (64 : Nat) (0 : Int)),
 V.u64 (BitVec.ofInt (64 : Nat) (0 : Int)), V.u64 (BitVec.ofInt (64 : Nat) (0 : Int)),
 V.str (bytesOf (ByteArray.mk #[])), V.nilSl],
 V.bool true]),
 [])))))
 (Tr.chk true
 (Tr.leaf
 (Fin.ret
 (V.tup
 [V.agg
 [V.str (bytesOf (ByteArray.mk #[])), V.str (bytesOf (ByteArray.mk #[])),
 V.u64 (BitVec.ofInt (64 : Nat) (0 : Int)), V.u64 (BitVec.ofInt (64 : Nat) (0 : Int)),
 V.u64 (BitVec.ofInt (64 : Nat) (0 : Int)), V.u64 (BitVec.ofInt (64 : Nat) (0 : Int)),
 V.u64 (BitVec.ofInt (64 : Nat) (0 : Int)), V.u64 (BitVec.ofInt (64 : Nat) (0 : Int)),
 V.u64 (BitVec.ofInt (64 : Nat) (0 : Int)), V.u64 (BitVec.ofInt (64 : Nat) (0 : Int)),
 V.u64 (BitVec.ofInt (64 : Nat) (0 : Int)), V.str (bytesOf (ByteArray.mk #[])),
 V.int IntKind.i64 (0 : Int), V.str (bytesOf (ByteArray.mk #[])), V.str (bytesOf (ByteArray.mk #[])),
 V.u64 (BitVec.ofInt (64 : Nat) (0 : Int)), V.u64 (BitVec.ofInt (64 : Nat) (0 : Int)),
 V.u64 (BitVec.ofInt (64 : Nat) (0 : Int)), V.u64 (BitVec.ofInt (64 : Nat) (0 : Int)),
 V.u64 (BitVec.ofInt (64 : Nat) (0 : Int)), V.u64 (BitVec.ofInt (64 : Nat) (0 : Int)),
 V.u64 (BitVec.ofInt (64 : Nat) (0 : Int)), V.u64 (BitVec.ofInt (64 : Nat) (0 : Int)),
 V.u64 (BitVec.ofInt (64 : Nat) (0 : Int)), V.u64 (BitVec.ofInt (64 : Nat) (0 : Int)),
 V.u64 (BitVec.ofInt (64 : Nat) (0 : Int)), V.u64 (BitVec.ofInt (64 : Nat) (0 : Int)),
 V.u64 (BitVec.ofInt (64 : Nat) (0 : Int)), V.u64 (BitVec.ofInt (64 : Nat) (0 : Int)),
 V.str (bytesOf (ByteArray.mk #[])), V.nilSl],
 V.bool false]),
 [])))) := by kernel_rfl
end
end Go.Proofs.YtbgiickegljpoaaDoor.K
end
section
open Go Go.Lh
namespace Go.Proofs.YtbgiickegljpoaaDoor.K
noncomputable section
set_option maxRecDepth 100000
def z4 : W4 := W4.mk (BitVec.ofInt 64 0) (BitVec.ofInt 64 0) (BitVec.ofInt 64 0) (BitVec.ofInt 64 0)
def noT : List B := bytesOf (ByteArray.mk #[])
def CM0 (nm : List B) : CM := ⟨nm, noT, BitVec.ofInt 64 0, z4, z4, noT, 0, noT, noT, BitVec.ofInt 64 0, BitVec.ofInt 64 0, z4, z4, z4, noT⟩
def ofW (s : List B) : W4 := if s.length ≤ 32 then W4.ofBytes s else W4.zero
def fillC : List B → Nat → RW → CM → CM
  | [], _, _, c => c
  | x :: r, i, q, c => fillC r (i + 1) q (bif Nat.beq x.toNat 97 then { c with ad := q.s i } else bif Nat.beq x.toNat 110 then { c with n := smallN (q.b i) (q.s i) } else bif Nat.beq x.toNat 107 then { c with k := ofW (q.s i) } else bif Nat.beq x.toNat 118 then { c with v := ofW (q.s i) } else { c with s := q.s i })
def fillO : List B → Nat → RW → Bool
  | [], _, _ => true
  | x :: r, i, q => bif Nat.beq x.toNat 110 then smallO (q.b i) (q.s i) && fillO r (i + 1) q else bif Nat.beq x.toNat 107 then decide ((q.s i).length ≤ 32) && fillO r (i + 1) q else bif Nat.beq x.toNat 118 then decide ((q.s i).length ≤ 32) && fillO r (i + 1) q else fillO r (i + 1) q
def cmF (f : List B) (q : RW) : CM := fillC f 1 q (CM0 (q.s 0))
def okD (f : List B) (q : RW) (s : List B) : Bool := fillO f 1 q && (eok f (cmF f q) && (eS f (cmF f q) == s))
def dcV : Option CM → Fin
  | some c => .ret (.tup [.agg (c.cs .nilSl), .bool true])
  | none => .ret (.tup [.agg ((CM0 noT).cs .nilSl), .bool false])
def dV (f : List B) (q : RW) (s : List B) : Fin := dcV (if okD f q s = true then some (cmF f q) else none)
theorem bn_t {b : Bool} (h : (!b) = true) : b = false := by cases b <;> simp_all
theorem bn_f {b : Bool} (h : (!b) = false) : b = true := by cases b <;> simp_all
theorem dqB_t {n : Nat} {q : RW} {s : List B} (h : dqP n q s) : dqB n q s = true := @decide_eq_true _ (Classical.propDecidable _) h
theorem ecB_t {f : List B} {c : CM} (h : ecP f c) : ecB f c = true := @decide_eq_true _ (Classical.propDecidable _) h
theorem fillO_n (q : RW) : fillO f_n 1 q = (smallO (q.b 1) (q.s 1) && true) := by kernel_rfl
theorem dec_n (s : List B) (q : RW) (hq : dqP 2 q s) (hn : fkP f_n (q.s 0)) : LFn Pr 9 [.str s] [] (dV f_n q s) [] := by
  have hec : ecB f_n (cmF f_n q) = true := ecB_t ⟨.inl rfl, hn, by show (0 : Nat) + 0 + 0 ≤ 9223372036854775807; decide⟩
  have no : okD f_n q s = false → (fun r : Fin × Heap => r = (dV f_n q s, [])) (.ret (.tup [.agg ((CM0 noT).cs .nilSl), .bool false]), []) := by
    intro e
    unfold dV
    rw [if_neg (by rw [e]; decide)]; rfl
  have yes : okD f_n q s = true → (fun r : Fin × Heap => r = (dV f_n q s, [])) (.ret (.tup [.agg ((cmF f_n q).cs .nilSl), .bool true]), []) := by
    intro e
    unfold dV
    rw [if_pos e]; rfl
  unfold okD at no yes
  rw [fillO_n] at no yes
  refine fnT (OD2_sound f_n 2 q) mixed (by kernel_rfl) LoopsOk.noneT (dc_n_x s q) ?_
  refine wp_chk.2 ⟨by rw [dqB_t hq, fkB_t hn]; rfl, wp_br.2 ⟨fun e0 => wp_chk_true.2 (wp_leaf.2 (no ?_)), fun e0 => wp_chk.2 ⟨?_, wp_br.2 ⟨fun ea => wp_chk_true.2 (wp_br.2 ⟨fun eb => wp_chk_true.2 (wp_leaf.2 (no ?_)), fun eb => wp_chk_true.2 (wp_leaf.2 (yes ?_))⟩), fun ea => wp_chk_true.2 (wp_leaf.2 (no ?_))⟩⟩⟩⟩
  · have h0 : (smallO (q.b 1) (q.s 1)) = false := bn_t e0
    rw [h0]; rfl
  · exact hec
  · have h0 : (smallO (q.b 1) (q.s 1)) = true := bn_f e0
    have ha : eok f_n (cmF f_n q) = true := by rw [← eokO_eq]; exact ea
    have hb : (eS f_n (cmF f_n q) == s) = false := bn_t eb
    rw [h0, ha, hb]; rfl
  · have h0 : (smallO (q.b 1) (q.s 1)) = true := bn_f e0
    have ha : eok f_n (cmF f_n q) = true := by rw [← eokO_eq]; exact ea
    have hb : (eS f_n (cmF f_n q) == s) = true := bn_f eb
    rw [h0, ha, hb]; rfl
  · have h0 : (smallO (q.b 1) (q.s 1)) = true := bn_f e0
    have ha : eok f_n (cmF f_n q) = false := by rw [← eokO_eq]; exact ea
    rw [h0, ha]; rfl
theorem fillO_a (q : RW) : fillO f_a 1 q = true := by kernel_rfl
theorem dec_a (s : List B) (q : RW) (hq : dqP 2 q s) (hn : fkP f_a (q.s 0)) : LFn Pr 9 [.str s] [] (dV f_a q s) [] := by
  have hec : ecB f_a (cmF f_a q) = true := ecB_t ⟨.inr (.inl rfl), hn, by show (0 : Nat) + 0 + 0 ≤ 9223372036854775807; decide⟩
  have no : okD f_a q s = false → (fun r : Fin × Heap => r = (dV f_a q s, [])) (.ret (.tup [.agg ((CM0 noT).cs .nilSl), .bool false]), []) := by
    intro e
    unfold dV
    rw [if_neg (by rw [e]; decide)]; rfl
  have yes : okD f_a q s = true → (fun r : Fin × Heap => r = (dV f_a q s, [])) (.ret (.tup [.agg ((cmF f_a q).cs .nilSl), .bool true]), []) := by
    intro e
    unfold dV
    rw [if_pos e]; rfl
  unfold okD at no yes
  rw [fillO_a] at no yes
  refine fnT (OD2_sound f_a 2 q) mixed (by kernel_rfl) LoopsOk.noneT (dc_a_x s q) ?_
  refine wp_chk.2 ⟨?_, wp_br.2 ⟨fun ea => wp_chk_true.2 (wp_br.2 ⟨fun eb => wp_chk_true.2 (wp_leaf.2 (no ?_)), fun eb => wp_chk_true.2 (wp_leaf.2 (yes ?_))⟩), fun ea => wp_chk_true.2 (wp_leaf.2 (no ?_))⟩⟩
  · have h2 : (dqB 2 q s && true && true && (fkB f_a (q.s 0) && true && true && ecB f_a (cmF f_a q))) = true := by rw [dqB_t hq, fkB_t hn, hec]; rfl
    exact h2
  · have ha : eok f_a (cmF f_a q) = true := by rw [← eokO_eq]; exact ea
    have hb : (eS f_a (cmF f_a q) == s) = false := bn_t eb
    rw [ha, hb]; rfl
  · have ha : eok f_a (cmF f_a q) = true := by rw [← eokO_eq]; exact ea
    have hb : (eS f_a (cmF f_a q) == s) = true := bn_f eb
    rw [ha, hb]; rfl
  · have ha : eok f_a (cmF f_a q) = false := by rw [← eokO_eq]; exact ea
    rw [ha]; rfl
theorem fillO_ak (q : RW) : fillO f_ak 1 q = (decide ((q.s 2).length ≤ 32) && true) := by kernel_rfl
theorem dec_ak (s : List B) (q : RW) (hq : dqP 3 q s) (hn : fkP f_ak (q.s 0)) : LFn Pr 9 [.str s] [] (dV f_ak q s) [] := by
  have hec : ecB f_ak (cmF f_ak q) = true := ecB_t ⟨.inr (.inr (.inl rfl)), hn, by show (0 : Nat) + 0 + 0 ≤ 9223372036854775807; decide⟩
  have no : okD f_ak q s = false → (fun r : Fin × Heap => r = (dV f_ak q s, [])) (.ret (.tup [.agg ((CM0 noT).cs .nilSl), .bool false]), []) := by
    intro e
    unfold dV
    rw [if_neg (by rw [e]; decide)]; rfl
  have yes : okD f_ak q s = true → (fun r : Fin × Heap => r = (dV f_ak q s, [])) (.ret (.tup [.agg ((cmF f_ak q).cs .nilSl), .bool true]), []) := by
    intro e
    unfold dV
    rw [if_pos e]; rfl
  unfold okD at no yes
  rw [fillO_ak] at no yes
  refine fnT (OD2_sound f_ak 3 q) mixed (by kernel_rfl) LoopsOk.noneT (dc_ak_x s q) ?_
  refine wp_chk.2 ⟨by rw [dqB_t hq, fkB_t hn]; rfl, wp_br.2 ⟨fun e0 => wp_chk_true.2 (wp_leaf.2 (no ?_)), fun e0 => wp_chk.2 ⟨?_, wp_br.2 ⟨fun ea => wp_chk_true.2 (wp_br.2 ⟨fun eb => wp_chk_true.2 (wp_leaf.2 (no ?_)), fun eb => wp_chk_true.2 (wp_leaf.2 (yes ?_))⟩), fun ea => wp_chk_true.2 (wp_leaf.2 (no ?_))⟩⟩⟩⟩
  · have h0 : (decide ((q.s 2).length ≤ 32)) = false := bn_t e0
    rw [h0]; rfl
  · exact hec
  · have h0 : (decide ((q.s 2).length ≤ 32)) = true := bn_f e0
    have ha : eok f_ak (cmF f_ak q) = true := by rw [← eokO_eq]; exact ea
    have hb : (eS f_ak (cmF f_ak q) == s) = false := bn_t eb
    rw [h0, ha, hb]; rfl
  · have h0 : (decide ((q.s 2).length ≤ 32)) = true := bn_f e0
    have ha : eok f_ak (cmF f_ak q) = true := by rw [← eokO_eq]; exact ea
    have hb : (eS f_ak (cmF f_ak q) == s) = true := bn_f eb
    rw [h0, ha, hb]; rfl
  · have h0 : (decide ((q.s 2).length ≤ 32)) = true := bn_f e0
    have ha : eok f_ak (cmF f_ak q) = false := by rw [← eokO_eq]; exact ea
    rw [h0, ha]; rfl
theorem fillO_av (q : RW) : fillO f_av 1 q = (decide ((q.s 2).length ≤ 32) && true) := by kernel_rfl
theorem dec_av (s : List B) (q : RW) (hq : dqP 3 q s) (hn : fkP f_av (q.s 0)) : LFn Pr 9 [.str s] [] (dV f_av q s) [] := by
  have hec : ecB f_av (cmF f_av q) = true := ecB_t ⟨.inr (.inr (.inr (.inl rfl))), hn, by show (0 : Nat) + 0 + 0 ≤ 9223372036854775807; decide⟩
  have no : okD f_av q s = false → (fun r : Fin × Heap => r = (dV f_av q s, [])) (.ret (.tup [.agg ((CM0 noT).cs .nilSl), .bool false]), []) := by
    intro e
    unfold dV
    rw [if_neg (by rw [e]; decide)]; rfl
  have yes : okD f_av q s = true → (fun r : Fin × Heap => r = (dV f_av q s, [])) (.ret (.tup [.agg ((cmF f_av q).cs .nilSl), .bool true]), []) := by
    intro e
    unfold dV
    rw [if_pos e]; rfl
  unfold okD at no yes
  rw [fillO_av] at no yes
  refine fnT (OD2_sound f_av 3 q) mixed (by kernel_rfl) LoopsOk.noneT (dc_av_x s q) ?_
  refine wp_chk.2 ⟨by rw [dqB_t hq, fkB_t hn]; rfl, wp_br.2 ⟨fun e0 => wp_chk_true.2 (wp_leaf.2 (no ?_)), fun e0 => wp_chk.2 ⟨?_, wp_br.2 ⟨fun ea => wp_chk_true.2 (wp_br.2 ⟨fun eb => wp_chk_true.2 (wp_leaf.2 (no ?_)), fun eb => wp_chk_true.2 (wp_leaf.2 (yes ?_))⟩), fun ea => wp_chk_true.2 (wp_leaf.2 (no ?_))⟩⟩⟩⟩
  · have h0 : (decide ((q.s 2).length ≤ 32)) = false := bn_t e0
    rw [h0]; rfl
  · exact hec
  · have h0 : (decide ((q.s 2).length ≤ 32)) = true := bn_f e0
    have ha : eok f_av (cmF f_av q) = true := by rw [← eokO_eq]; exact ea
    have hb : (eS f_av (cmF f_av q) == s) = false := bn_t eb
    rw [h0, ha, hb]; rfl
  · have h0 : (decide ((q.s 2).length ≤ 32)) = true := bn_f e0
    have ha : eok f_av (cmF f_av q) = true := by rw [← eokO_eq]; exact ea
    have hb : (eS f_av (cmF f_av q) == s) = true := bn_f eb
    rw [h0, ha, hb]; rfl
  · have h0 : (decide ((q.s 2).length ≤ 32)) = true := bn_f e0
    have ha : eok f_av (cmF f_av q) = false := by rw [← eokO_eq]; exact ea
    rw [h0, ha]; rfl
theorem fillO_an (q : RW) : fillO f_an 1 q = (smallO (q.b 2) (q.s 2) && true) := by kernel_rfl
theorem dec_an (s : List B) (q : RW) (hq : dqP 3 q s) (hn : fkP f_an (q.s 0)) : LFn Pr 9 [.str s] [] (dV f_an q s) [] := by
  have hec : ecB f_an (cmF f_an q) = true := ecB_t ⟨.inr (.inr (.inr (.inr (.inl rfl)))), hn, by show (0 : Nat) + 0 + 0 ≤ 9223372036854775807; decide⟩
  have no : okD f_an q s = false → (fun r : Fin × Heap => r = (dV f_an q s, [])) (.ret (.tup [.agg ((CM0 noT).cs .nilSl), .bool false]), []) := by
    intro e
    unfold dV
    rw [if_neg (by rw [e]; decide)]; rfl
  have yes : okD f_an q s = true → (fun r : Fin × Heap => r = (dV f_an q s, [])) (.ret (.tup [.agg ((cmF f_an q).cs .nilSl), .bool true]), []) := by
    intro e
    unfold dV
    rw [if_pos e]; rfl
  unfold okD at no yes
  rw [fillO_an] at no yes
  refine fnT (OD2_sound f_an 3 q) mixed (by kernel_rfl) LoopsOk.noneT (dc_an_x s q) ?_
  refine wp_chk.2 ⟨by rw [dqB_t hq, fkB_t hn]; rfl, wp_br.2 ⟨fun e0 => wp_chk_true.2 (wp_leaf.2 (no ?_)), fun e0 => wp_chk.2 ⟨?_, wp_br.2 ⟨fun ea => wp_chk_true.2 (wp_br.2 ⟨fun eb => wp_chk_true.2 (wp_leaf.2 (no ?_)), fun eb => wp_chk_true.2 (wp_leaf.2 (yes ?_))⟩), fun ea => wp_chk_true.2 (wp_leaf.2 (no ?_))⟩⟩⟩⟩
  · have h0 : (smallO (q.b 2) (q.s 2)) = false := bn_t e0
    rw [h0]; rfl
  · exact hec
  · have h0 : (smallO (q.b 2) (q.s 2)) = true := bn_f e0
    have ha : eok f_an (cmF f_an q) = true := by rw [← eokO_eq]; exact ea
    have hb : (eS f_an (cmF f_an q) == s) = false := bn_t eb
    rw [h0, ha, hb]; rfl
  · have h0 : (smallO (q.b 2) (q.s 2)) = true := bn_f e0
    have ha : eok f_an (cmF f_an q) = true := by rw [← eokO_eq]; exact ea
    have hb : (eS f_an (cmF f_an q) == s) = true := bn_f eb
    rw [h0, ha, hb]; rfl
  · have h0 : (smallO (q.b 2) (q.s 2)) = true := bn_f e0
    have ha : eok f_an (cmF f_an q) = false := by rw [← eokO_eq]; exact ea
    rw [h0, ha]; rfl
theorem fillO_as (q : RW) : fillO f_as 1 q = true := by kernel_rfl
theorem dec_as (s : List B) (q : RW) (hq : dqP 3 q s) (hn : fkP f_as (q.s 0)) : LFn Pr 9 [.str s] [] (dV f_as q s) [] := by
  have hec : ecB f_as (cmF f_as q) = true := ecB_t ⟨.inr (.inr (.inr (.inr (.inr (.inl rfl))))), hn, by show (0 : Nat) + 0 + 0 ≤ 9223372036854775807; decide⟩
  have no : okD f_as q s = false → (fun r : Fin × Heap => r = (dV f_as q s, [])) (.ret (.tup [.agg ((CM0 noT).cs .nilSl), .bool false]), []) := by
    intro e
    unfold dV
    rw [if_neg (by rw [e]; decide)]; rfl
  have yes : okD f_as q s = true → (fun r : Fin × Heap => r = (dV f_as q s, [])) (.ret (.tup [.agg ((cmF f_as q).cs .nilSl), .bool true]), []) := by
    intro e
    unfold dV
    rw [if_pos e]; rfl
  unfold okD at no yes
  rw [fillO_as] at no yes
  refine fnT (OD2_sound f_as 3 q) mixed (by kernel_rfl) LoopsOk.noneT (dc_as_x s q) ?_
  refine wp_chk.2 ⟨?_, wp_br.2 ⟨fun ea => wp_chk_true.2 (wp_br.2 ⟨fun eb => wp_chk_true.2 (wp_leaf.2 (no ?_)), fun eb => wp_chk_true.2 (wp_leaf.2 (yes ?_))⟩), fun ea => wp_chk_true.2 (wp_leaf.2 (no ?_))⟩⟩
  · have h2 : (dqB 3 q s && true && true && (fkB f_as (q.s 0) && true && true && ecB f_as (cmF f_as q))) = true := by rw [dqB_t hq, fkB_t hn, hec]; rfl
    exact h2
  · have ha : eok f_as (cmF f_as q) = true := by rw [← eokO_eq]; exact ea
    have hb : (eS f_as (cmF f_as q) == s) = false := bn_t eb
    rw [ha, hb]; rfl
  · have ha : eok f_as (cmF f_as q) = true := by rw [← eokO_eq]; exact ea
    have hb : (eS f_as (cmF f_as q) == s) = true := bn_f eb
    rw [ha, hb]; rfl
  · have ha : eok f_as (cmF f_as q) = false := by rw [← eokO_eq]; exact ea
    rw [ha]; rfl
theorem fillO_akv (q : RW) : fillO f_akv 1 q = (decide ((q.s 2).length ≤ 32) && (decide ((q.s 3).length ≤ 32) && true)) := by kernel_rfl
theorem dec_akv (s : List B) (q : RW) (hq : dqP 4 q s) (hn : fkP f_akv (q.s 0)) : LFn Pr 9 [.str s] [] (dV f_akv q s) [] := by
  have hec : ecB f_akv (cmF f_akv q) = true := ecB_t ⟨.inr (.inr (.inr (.inr (.inr (.inr (.inl rfl)))))), hn, by show (0 : Nat) + 0 + 0 ≤ 9223372036854775807; decide⟩
  have no : okD f_akv q s = false → (fun r : Fin × Heap => r = (dV f_akv q s, [])) (.ret (.tup [.agg ((CM0 noT).cs .nilSl), .bool false]), []) := by
    intro e
    unfold dV
    rw [if_neg (by rw [e]; decide)]; rfl
  have yes : okD f_akv q s = true → (fun r : Fin × Heap => r = (dV f_akv q s, [])) (.ret (.tup [.agg ((cmF f_akv q).cs .nilSl), .bool true]), []) := by
    intro e
    unfold dV
    rw [if_pos e]; rfl
  unfold okD at no yes
  rw [fillO_akv] at no yes
  refine fnT (OD2_sound f_akv 4 q) mixed (by kernel_rfl) LoopsOk.noneT (dc_akv_x s q) ?_
  refine wp_chk.2 ⟨by rw [dqB_t hq, fkB_t hn]; rfl, wp_br.2 ⟨fun e0 => wp_chk_true.2 (wp_leaf.2 (no ?_)), fun e0 => wp_chk_true.2 (wp_br.2 ⟨fun e1 => wp_chk_true.2 (wp_leaf.2 (no ?_)), fun e1 => wp_chk.2 ⟨?_, wp_br.2 ⟨fun ea => wp_chk_true.2 (wp_br.2 ⟨fun eb => wp_chk_true.2 (wp_leaf.2 (no ?_)), fun eb => wp_chk_true.2 (wp_leaf.2 (yes ?_))⟩), fun ea => wp_chk_true.2 (wp_leaf.2 (no ?_))⟩⟩⟩)⟩⟩
  · have h0 : (decide ((q.s 2).length ≤ 32)) = false := bn_t e0
    rw [h0]; rfl
  · have h0 : (decide ((q.s 2).length ≤ 32)) = true := bn_f e0
    have h1 : (decide ((q.s 3).length ≤ 32)) = false := bn_t e1
    rw [h0, h1]; rfl
  · exact hec
  · have h0 : (decide ((q.s 2).length ≤ 32)) = true := bn_f e0
    have h1 : (decide ((q.s 3).length ≤ 32)) = true := bn_f e1
    have ha : eok f_akv (cmF f_akv q) = true := by rw [← eokO_eq]; exact ea
    have hb : (eS f_akv (cmF f_akv q) == s) = false := bn_t eb
    rw [h0, h1, ha, hb]; rfl
  · have h0 : (decide ((q.s 2).length ≤ 32)) = true := bn_f e0
    have h1 : (decide ((q.s 3).length ≤ 32)) = true := bn_f e1
    have ha : eok f_akv (cmF f_akv q) = true := by rw [← eokO_eq]; exact ea
    have hb : (eS f_akv (cmF f_akv q) == s) = true := bn_f eb
    rw [h0, h1, ha, hb]; rfl
  · have h0 : (decide ((q.s 2).length ≤ 32)) = true := bn_f e0
    have h1 : (decide ((q.s 3).length ≤ 32)) = true := bn_f e1
    have ha : eok f_akv (cmF f_akv q) = false := by rw [← eokO_eq]; exact ea
    rw [h0, h1, ha]; rfl
theorem fillO_e (q : RW) : fillO f_e 1 q = true := by kernel_rfl
theorem dec_e (s : List B) (q : RW) (hq : dqP 1 q s) (hn : fkP f_e (q.s 0)) : LFn Pr 9 [.str s] [] (dV f_e q s) [] := by
  have hec : ecB f_e (cmF f_e q) = true := ecB_t ⟨.inr (.inr (.inr (.inr (.inr (.inr (.inr (.inl rfl))))))), hn, by show (0 : Nat) + 0 + 0 ≤ 9223372036854775807; decide⟩
  have no : okD f_e q s = false → (fun r : Fin × Heap => r = (dV f_e q s, [])) (.ret (.tup [.agg ((CM0 noT).cs .nilSl), .bool false]), []) := by
    intro e
    unfold dV
    rw [if_neg (by rw [e]; decide)]; rfl
  have yes : okD f_e q s = true → (fun r : Fin × Heap => r = (dV f_e q s, [])) (.ret (.tup [.agg ((cmF f_e q).cs .nilSl), .bool true]), []) := by
    intro e
    unfold dV
    rw [if_pos e]; rfl
  unfold okD at no yes
  rw [fillO_e] at no yes
  refine fnT (OD2_sound f_e 1 q) mixed (by kernel_rfl) LoopsOk.noneT (dc_e_x s q) ?_
  refine wp_chk.2 ⟨?_, wp_br.2 ⟨fun ea => wp_chk_true.2 (wp_br.2 ⟨fun eb => wp_chk_true.2 (wp_leaf.2 (no ?_)), fun eb => wp_chk_true.2 (wp_leaf.2 (yes ?_))⟩), fun ea => wp_chk_true.2 (wp_leaf.2 (no ?_))⟩⟩
  · have h2 : (dqB 1 q s && true && true && (fkB f_e (q.s 0) && true && true && ecB f_e (cmF f_e q))) = true := by rw [dqB_t hq, fkB_t hn, hec]; rfl
    exact h2
  · have ha : eok f_e (cmF f_e q) = true := by rw [← eokO_eq]; exact ea
    have hb : (eS f_e (cmF f_e q) == s) = false := bn_t eb
    rw [ha, hb]; rfl
  · have ha : eok f_e (cmF f_e q) = true := by rw [← eokO_eq]; exact ea
    have hb : (eS f_e (cmF f_e q) == s) = true := bn_f eb
    rw [ha, hb]; rfl
  · have ha : eok f_e (cmF f_e q) = false := by rw [← eokO_eq]; exact ea
    rw [ha]; rfl
theorem fillO_s (q : RW) : fillO f_s 1 q = true := by kernel_rfl
theorem dec_s (s : List B) (q : RW) (hq : dqP 2 q s) (hn : fkP f_s (q.s 0)) : LFn Pr 9 [.str s] [] (dV f_s q s) [] := by
  have hec : ecB f_s (cmF f_s q) = true := ecB_t ⟨.inr (.inr (.inr (.inr (.inr (.inr (.inr (.inr (rfl)))))))), hn, by show (0 : Nat) + 0 + 0 ≤ 9223372036854775807; decide⟩
  have no : okD f_s q s = false → (fun r : Fin × Heap => r = (dV f_s q s, [])) (.ret (.tup [.agg ((CM0 noT).cs .nilSl), .bool false]), []) := by
    intro e
    unfold dV
    rw [if_neg (by rw [e]; decide)]; rfl
  have yes : okD f_s q s = true → (fun r : Fin × Heap => r = (dV f_s q s, [])) (.ret (.tup [.agg ((cmF f_s q).cs .nilSl), .bool true]), []) := by
    intro e
    unfold dV
    rw [if_pos e]; rfl
  unfold okD at no yes
  rw [fillO_s] at no yes
  refine fnT (OD2_sound f_s 2 q) mixed (by kernel_rfl) LoopsOk.noneT (dc_s_x s q) ?_
  refine wp_chk.2 ⟨?_, wp_br.2 ⟨fun ea => wp_chk_true.2 (wp_br.2 ⟨fun eb => wp_chk_true.2 (wp_leaf.2 (no ?_)), fun eb => wp_chk_true.2 (wp_leaf.2 (yes ?_))⟩), fun ea => wp_chk_true.2 (wp_leaf.2 (no ?_))⟩⟩
  · have h2 : (dqB 2 q s && true && true && (fkB f_s (q.s 0) && true && true && ecB f_s (cmF f_s q))) = true := by rw [dqB_t hq, fkB_t hn, hec]; rfl
    exact h2
  · have ha : eok f_s (cmF f_s q) = true := by rw [← eokO_eq]; exact ea
    have hb : (eS f_s (cmF f_s q) == s) = false := bn_t eb
    rw [ha, hb]; rfl
  · have ha : eok f_s (cmF f_s q) = true := by rw [← eokO_eq]; exact ea
    have hb : (eS f_s (cmF f_s q) == s) = true := bn_f eb
    rw [ha, hb]; rfl
  · have ha : eok f_s (cmF f_s q) = false := by rw [← eokO_eq]; exact ea
    rw [ha]; rfl
end
end Go.Proofs.YtbgiickegljpoaaDoor.K
end
section
open Go Go.Lh
namespace Go.Proofs.YtbgiickegljpoaaDoor.K
noncomputable section
set_option maxRecDepth 100000
def dnB (s : List B) : Bool := @decide (decF s = none) (Classical.propDecidable _)
def dn_f (s : List B) : Tr (Fin × Heap) := .chk (dnB s) (.leaf (.ret (.tup [.agg [.bool false, .str [], .nilSl], .int .i64 (dcE s)]), []))
theorem dn_ok : ∀ args h r, ((ctT dc_read dn_f) args h).is r → LFn Pr 17 args h r.1 r.2 := by
  intro args h r hr
  refine dc_ok args h r ?_
  unfold ctT at hr ⊢
  split at hr
  · rename_i s hs
    rw [dn_f, Tr.is_chk] at hr
    obtain ⟨h1, hr⟩ := hr
    have h2 : decF s = none := @of_decide_eq_true _ (Classical.propDecidable _) h1
    rw [dc_f, Tr.is_br, if_neg (by rw [dcO_n h2]; decide)]
    exact hr
  · exact hr
def dtB (t s : List B) : Bool := @decide (decF s = some (.txt t)) (Classical.propDecidable _)
def dt_f (t s : List B) : Tr (Fin × Heap) := .chk (dtB t s) (.leaf (.ret (.tup [.agg [.bool false, .str t, .isl 3 0 (fun _ _ => .any)], .int .i64 0]), []))
theorem dt_ok (t : List B) : ∀ args h r, ((ctT dc_read (dt_f t)) args h).is r → LFn Pr 17 args h r.1 r.2 := by
  intro args h r hr
  refine dc_ok args h r ?_
  unfold ctT at hr ⊢
  split at hr
  · rename_i s hs
    rw [dt_f, Tr.is_chk] at hr
    obtain ⟨h1, hr⟩ := hr
    have h2 : decF s = some (.txt t) := @of_decide_eq_true _ (Classical.propDecidable _) h1
    rw [dc_f, Tr.is_br, if_pos (dcO_t h2), dcI_eq h2, itV_txt]
    exact hr
  · exact hr
theorem lookS_no : ∀ {es : List (List B × List B)} {s : List B}, hasS es s = false → lookS es s = []
  | [], s, h => rfl
  | (k, v) :: r, s, h => by
    unfold hasS at h
    unfold lookS
    cases he : eqB k s with
    | true => rw [he] at h; cases h
    | false => rw [he] at h; exact lookS_no (es := r) h
def fuB (s : List B) : Bool := @decide (hasS fieldsL s = false) (Classical.propDecidable _)
def fu_f (s : List B) : Tr (Fin × Heap) := .chk (fuB s) (.leaf (.ret (.tup [.str [], .bool false]), []))
theorem fu_ok : ∀ args h r, ((ctT readS fu_f) args h).is r → LFn Pr 10 args h r.1 r.2 := by
  refine ctT_ok (fun s => [.str s]) (fun _ => []) ?_ (fun a r h => ?_)
  · intro args h a e
    unfold readS at e
    split at e <;> cases e
    exact ⟨rfl, rfl⟩
  · rw [fu_f, Tr.is_chk, Tr.is_leaf] at h
    obtain ⟨h1, rfl⟩ := h
    have h2 : hasS fieldsL a = false := @of_decide_eq_true _ (Classical.propDecidable _) h1
    have := fields_fn a
    rw [h2, lookS_no h2] at this
    exact this
def OnA : OrcT := autoT Pr ext [(17, ctT dc_read dn_f)] [] 3
theorem OnA_sound : OrcSound Pr OnA.o := autoT_sound mixed ext_ok (KOkT.cons (Enters.of (fn := Go.Proofs.Tryd.f17) (by kernel_rfl) (by kernel_rfl)) dn_ok KOkT.nil) (by kernel_rfl) 3
def OnB (t : List B) : OrcT := autoT Pr ext [(17, ctT dc_read (dt_f t))] [] 3
theorem OnB_sound (t : List B) : OrcSound Pr (OnB t).o := autoT_sound mixed ext_ok (KOkT.cons (Enters.of (fn := Go.Proofs.Tryd.f17) (by kernel_rfl) (by kernel_rfl)) (dt_ok t) KOkT.nil) (by kernel_rfl) 3
def OnD (n : Nat) (q : RW) : OrcT := autoT Pr ext [(17, ctT dc_read (dq_f n q)), (10, ctT readS fu_f)] [] 3
theorem OnD_sound (n : Nat) (q : RW) : OrcSound Pr (OnD n q).o := autoT_sound mixed ext_ok (KOkT.cons (Enters.of (fn := Go.Proofs.Tryd.f17) (by kernel_rfl) (by kernel_rfl)) (dq_ok n q) (KOkT.cons (Enters.of (fn := Go.Proofs.Tryd.f10) (by kernel_rfl) (by kernel_rfl)) fu_ok KOkT.nil)) (by kernel_rfl) 3
def OnE (f : List B) (n : Nat) (q : RW) : OrcT := autoT Pr ext [(17, ctT dc_read (dq_f n q)), (10, ctT readS (fk_f f))] [] 3
theorem OnE_sound (f : List B) (n : Nat) (q : RW) : OrcSound Pr (OnE f n q).o := autoT_sound mixed ext_ok (KOkT.cons (Enters.of (fn := Go.Proofs.Tryd.f17) (by kernel_rfl) (by kernel_rfl)) (dq_ok n q) (KOkT.cons (Enters.of (fn := Go.Proofs.Tryd.f10) (by kernel_rfl) (by kernel_rfl)) (fk_ok f) KOkT.nil)) (by kernel_rfl) 3
theorem dA_x (s : List B) : Tr.prune (Tr.Sh.any.l.l.l.l.both Tr.Sh.any.l.r.r.r)
 (execBF Pr OnA noLoopsT (100 : Nat) Go.Proofs.Tryd.f9 [V.str s] []) =
 Tr.chk (dnB s && true && true)
 (Tr.br (dcE s != (0 : Int))
 (Tr.chk true
 (Tr.leaf
 (Fin.ret
 (V.tup
 [V.agg
 [V.str (bytesOf (ByteArray.mk #[])), V.str (bytesOf (ByteArray.mk #[])),
 V.u64 (BitVec.ofInt (64 : Nat) (0 : Int)), V.u64 (BitVec.ofInt (64 : Nat) (0 : Int)),
 V.u64 (BitVec.ofInt (64 : Nat) (0 : Int)), V.u64 (BitVec.ofInt (64 : Nat) (0 : Int)),
 V.u64 (BitVec.ofInt (64 : Nat) (0 : Int)), V.u64 (BitVec.ofInt (64 : Nat) (0 : Int)),
 V.u64 (BitVec.ofInt (64 : Nat) (0 : Int)), V.u64 (BitVec.ofInt (64 : Nat) (0 : Int)),
 V.u64 (BitVec.ofInt (64 : Nat) (0 : Int)), V.str (bytesOf (ByteArray.mk #[])),
 V.int IntKind.i64 (0 : Int), V.str (bytesOf (ByteArray.mk #[])), V.str (bytesOf (ByteArray.mk #[])),
 V.u64 (BitVec.ofInt (64 : Nat) (0 : Int)), V.u64 (BitVec.ofInt (64 : Nat) (0 : Int)),
 V.u64 (BitVec.ofInt (64 : Nat) (0 : Int)), V.u64 (BitVec.ofInt (64 : Nat) (0 : Int)),
 V.u64 (BitVec.ofInt (64 : Nat) (0 : Int)), V.u64 (BitVec.ofInt (64 : Nat) (0 : Int)),
 V.u64 (BitVec.ofInt (64 : Nat) (0 : Int)), V.u64 (BitVec.ofInt (64 : Nat) (0 : Int)),
 V.u64 (BitVec.ofInt (64 : Nat) (0 : Int)), V.u64 (BitVec.ofInt (64 : Nat) (0 : Int)),
 V.u64 (BitVec.ofInt (64 : Nat) (0 : Int)), V.u64 (BitVec.ofInt (64 : Nat) (0 : Int)),
 V.u64 (BitVec.ofInt (64 : Nat) (0 : Int)), V.u64 (BitVec.ofInt (64 : Nat) (0 : Int)),
 V.str (bytesOf (ByteArray.mk #[])), V.nilSl],
 V.bool false]),
 [])))
 (Tr.chk true
 (Tr.leaf
 (Fin.ret
 (V.tup
 [V.agg
 [V.str (bytesOf (ByteArray.mk #[])), V.str (bytesOf (ByteArray.mk #[])),
 V.u64 (BitVec.ofInt (64 : Nat) (0 : Int)), V.u64 (BitVec.ofInt (64 : Nat) (0 : Int)),
 V.u64 (BitVec.ofInt (64 : Nat) (0 : Int)), V.u64 (BitVec.ofInt (64 : Nat) (0 : Int)),
 V.u64 (BitVec.ofInt (64 : Nat) (0 : Int)), V.u64 (BitVec.ofInt (64 : Nat) (0 : Int)),
 V.u64 (BitVec.ofInt (64 : Nat) (0 : Int)), V.u64 (BitVec.ofInt (64 : Nat) (0 : Int)),
 V.u64 (BitVec.ofInt (64 : Nat) (0 : Int)), V.str (bytesOf (ByteArray.mk #[])),
 V.int IntKind.i64 (0 : Int), V.str (bytesOf (ByteArray.mk #[])), V.str (bytesOf (ByteArray.mk #[])),
 V.u64 (BitVec.ofInt (64 : Nat) (0 : Int)), V.u64 (BitVec.ofInt (64 : Nat) (0 : Int)),
 V.u64 (BitVec.ofInt (64 : Nat) (0 : Int)), V.u64 (BitVec.ofInt (64 : Nat) (0 : Int)),
 V.u64 (BitVec.ofInt (64 : Nat) (0 : Int)), V.u64 (BitVec.ofInt (64 : Nat) (0 : Int)),
 V.u64 (BitVec.ofInt (64 : Nat) (0 : Int)), V.u64 (BitVec.ofInt (64 : Nat) (0 : Int)),
 V.u64 (BitVec.ofInt (64 : Nat) (0 : Int)), V.u64 (BitVec.ofInt (64 : Nat) (0 : Int)),
 V.u64 (BitVec.ofInt (64 : Nat) (0 : Int)), V.u64 (BitVec.ofInt (64 : Nat) (0 : Int)),
 V.u64 (BitVec.ofInt (64 : Nat) (0 : Int)), V.u64 (BitVec.ofInt (64 : Nat) (0 : Int)),
 V.str (bytesOf (ByteArray.mk #[])), V.nilSl],
 V.bool false]),
 [])))) := by kernel_rfl
theorem dB_x (t : List B) (s : List B) : Tr.prune (Tr.Sh.any.l.r.r.r.r)
 (execBF Pr (OnB t) noLoopsT (100 : Nat) Go.Proofs.Tryd.f9 [V.str s] []) =
 Tr.chk (dtB t s && true && true && true)
 (Tr.leaf
 (Fin.ret
 (V.tup
 [V.agg
 [V.str (bytesOf (ByteArray.mk #[])), V.str (bytesOf (ByteArray.mk #[])),
 V.u64 (BitVec.ofInt (64 : Nat) (0 : Int)), V.u64 (BitVec.ofInt (64 : Nat) (0 : Int)),
 V.u64 (BitVec.ofInt (64 : Nat) (0 : Int)), V.u64 (BitVec.ofInt (64 : Nat) (0 : Int)),
 V.u64 (BitVec.ofInt (64 : Nat) (0 : Int)), V.u64 (BitVec.ofInt (64 : Nat) (0 : Int)),
 V.u64 (BitVec.ofInt (64 : Nat) (0 : Int)), V.u64 (BitVec.ofInt (64 : Nat) (0 : Int)),
 V.u64 (BitVec.ofInt (64 : Nat) (0 : Int)), V.str (bytesOf (ByteArray.mk #[])),
 V.int IntKind.i64 (0 : Int), V.str (bytesOf (ByteArray.mk #[])), V.str (bytesOf (ByteArray.mk #[])),
 V.u64 (BitVec.ofInt (64 : Nat) (0 : Int)), V.u64 (BitVec.ofInt (64 : Nat) (0 : Int)),
 V.u64 (BitVec.ofInt (64 : Nat) (0 : Int)), V.u64 (BitVec.ofInt (64 : Nat) (0 : Int)),
 V.u64 (BitVec.ofInt (64 : Nat) (0 : Int)), V.u64 (BitVec.ofInt (64 : Nat) (0 : Int)),
 V.u64 (BitVec.ofInt (64 : Nat) (0 : Int)), V.u64 (BitVec.ofInt (64 : Nat) (0 : Int)),
 V.u64 (BitVec.ofInt (64 : Nat) (0 : Int)), V.u64 (BitVec.ofInt (64 : Nat) (0 : Int)),
 V.u64 (BitVec.ofInt (64 : Nat) (0 : Int)), V.u64 (BitVec.ofInt (64 : Nat) (0 : Int)),
 V.u64 (BitVec.ofInt (64 : Nat) (0 : Int)), V.u64 (BitVec.ofInt (64 : Nat) (0 : Int)),
 V.str (bytesOf (ByteArray.mk #[])), V.nilSl],
 V.bool false]),
 [])) := by kernel_rfl
theorem dC_x (q : RW) (s : List B) : Tr.prune (Tr.Sh.any.l.r.r.r.r)
 (execBF Pr (OnD (0 : Nat) q) noLoopsT (100 : Nat) Go.Proofs.Tryd.f9 [V.str s] []) =
 Tr.chk (dqB (0 : Nat) q s && true && true && true)
 (Tr.leaf
 (Fin.ret
 (V.tup
 [V.agg
 [V.str (bytesOf (ByteArray.mk #[])), V.str (bytesOf (ByteArray.mk #[])),
 V.u64 (BitVec.ofInt (64 : Nat) (0 : Int)), V.u64 (BitVec.ofInt (64 : Nat) (0 : Int)),
 V.u64 (BitVec.ofInt (64 : Nat) (0 : Int)), V.u64 (BitVec.ofInt (64 : Nat) (0 : Int)),
 V.u64 (BitVec.ofInt (64 : Nat) (0 : Int)), V.u64 (BitVec.ofInt (64 : Nat) (0 : Int)),
 V.u64 (BitVec.ofInt (64 : Nat) (0 : Int)), V.u64 (BitVec.ofInt (64 : Nat) (0 : Int)),
 V.u64 (BitVec.ofInt (64 : Nat) (0 : Int)), V.str (bytesOf (ByteArray.mk #[])),
 V.int IntKind.i64 (0 : Int), V.str (bytesOf (ByteArray.mk #[])), V.str (bytesOf (ByteArray.mk #[])),
 V.u64 (BitVec.ofInt (64 : Nat) (0 : Int)), V.u64 (BitVec.ofInt (64 : Nat) (0 : Int)),
 V.u64 (BitVec.ofInt (64 : Nat) (0 : Int)), V.u64 (BitVec.ofInt (64 : Nat) (0 : Int)),
 V.u64 (BitVec.ofInt (64 : Nat) (0 : Int)), V.u64 (BitVec.ofInt (64 : Nat) (0 : Int)),
 V.u64 (BitVec.ofInt (64 : Nat) (0 : Int)), V.u64 (BitVec.ofInt (64 : Nat) (0 : Int)),
 V.u64 (BitVec.ofInt (64 : Nat) (0 : Int)), V.u64 (BitVec.ofInt (64 : Nat) (0 : Int)),
 V.u64 (BitVec.ofInt (64 : Nat) (0 : Int)), V.u64 (BitVec.ofInt (64 : Nat) (0 : Int)),
 V.u64 (BitVec.ofInt (64 : Nat) (0 : Int)), V.u64 (BitVec.ofInt (64 : Nat) (0 : Int)),
 V.str (bytesOf (ByteArray.mk #[])), V.nilSl],
 V.bool false]),
 [])) := by kernel_rfl
theorem dD_x (n : Nat) (q : RW) (s : List B) : Tr.prune ((Tr.Sh.any.both Tr.Sh.any.l.l.l.l.l.l.l.l).r.r.r.r)
 (execBF Pr (OnD n q) noLoopsT (100 : Nat) Go.Proofs.Tryd.f9 [V.str s] []) =
 Tr.chk (dqB n q s && true && true && true)
 (Tr.br ((↑n : Int) == (0 : Int))
 (Tr.chk true
 (Tr.leaf
 (Fin.ret
 (V.tup
 [V.agg
 [V.str (bytesOf (ByteArray.mk #[])), V.str (bytesOf (ByteArray.mk #[])),
 V.u64 (BitVec.ofInt (64 : Nat) (0 : Int)), V.u64 (BitVec.ofInt (64 : Nat) (0 : Int)),
 V.u64 (BitVec.ofInt (64 : Nat) (0 : Int)), V.u64 (BitVec.ofInt (64 : Nat) (0 : Int)),
 V.u64 (BitVec.ofInt (64 : Nat) (0 : Int)), V.u64 (BitVec.ofInt (64 : Nat) (0 : Int)),
 V.u64 (BitVec.ofInt (64 : Nat) (0 : Int)), V.u64 (BitVec.ofInt (64 : Nat) (0 : Int)),
 V.u64 (BitVec.ofInt (64 : Nat) (0 : Int)), V.str (bytesOf (ByteArray.mk #[])),
 V.int IntKind.i64 (0 : Int), V.str (bytesOf (ByteArray.mk #[])), V.str (bytesOf (ByteArray.mk #[])),
 V.u64 (BitVec.ofInt (64 : Nat) (0 : Int)), V.u64 (BitVec.ofInt (64 : Nat) (0 : Int)),
 V.u64 (BitVec.ofInt (64 : Nat) (0 : Int)), V.u64 (BitVec.ofInt (64 : Nat) (0 : Int)),
 V.u64 (BitVec.ofInt (64 : Nat) (0 : Int)), V.u64 (BitVec.ofInt (64 : Nat) (0 : Int)),
 V.u64 (BitVec.ofInt (64 : Nat) (0 : Int)), V.u64 (BitVec.ofInt (64 : Nat) (0 : Int)),
 V.u64 (BitVec.ofInt (64 : Nat) (0 : Int)), V.u64 (BitVec.ofInt (64 : Nat) (0 : Int)),
 V.u64 (BitVec.ofInt (64 : Nat) (0 : Int)), V.u64 (BitVec.ofInt (64 : Nat) (0 : Int)),
 V.u64 (BitVec.ofInt (64 : Nat) (0 : Int)), V.u64 (BitVec.ofInt (64 : Nat) (0 : Int)),
 V.str (bytesOf (ByteArray.mk #[])), V.nilSl],
 V.bool false]),
 [])))
 (Tr.chk
 (decide ((0 : Int) < (↑n : Int)) && (decide ((0 : Nat) < n) && true && true) &&
 (fuB (q.s (0 : Nat)) && true && true) &&
 true)
 (Tr.leaf
 (Fin.ret
 (V.tup
 [V.agg
 [V.str (bytesOf (ByteArray.mk #[])), V.str (bytesOf (ByteArray.mk #[])),
 V.u64 (BitVec.ofInt (64 : Nat) (0 : Int)), V.u64 (BitVec.ofInt (64 : Nat) (0 : Int)),
 V.u64 (BitVec.ofInt (64 : Nat) (0 : Int)), V.u64 (BitVec.ofInt (64 : Nat) (0 : Int)),
 V.u64 (BitVec.ofInt (64 : Nat) (0 : Int)), V.u64 (BitVec.ofInt (64 : Nat) (0 : Int)),
 V.u64 (BitVec.ofInt (64 : Nat) (0 : Int)), V.u64 (BitVec.ofInt (64 : Nat) (0 : Int)),
 V.u64 (BitVec.ofInt (64 : Nat) (0 : Int)), V.str (bytesOf (ByteArray.mk #[])),
 V.int IntKind.i64 (0 : Int), V.str (bytesOf (ByteArray.mk #[])), V.str (bytesOf (ByteArray.mk #[])),
 V.u64 (BitVec.ofInt (64 : Nat) (0 : Int)), V.u64 (BitVec.ofInt (64 : Nat) (0 : Int)),
 V.u64 (BitVec.ofInt (64 : Nat) (0 : Int)), V.u64 (BitVec.ofInt (64 : Nat) (0 : Int)),
 V.u64 (BitVec.ofInt (64 : Nat) (0 : Int)), V.u64 (BitVec.ofInt (64 : Nat) (0 : Int)),
 V.u64 (BitVec.ofInt (64 : Nat) (0 : Int)), V.u64 (BitVec.ofInt (64 : Nat) (0 : Int)),
 V.u64 (BitVec.ofInt (64 : Nat) (0 : Int)), V.u64 (BitVec.ofInt (64 : Nat) (0 : Int)),
 V.u64 (BitVec.ofInt (64 : Nat) (0 : Int)), V.u64 (BitVec.ofInt (64 : Nat) (0 : Int)),
 V.u64 (BitVec.ofInt (64 : Nat) (0 : Int)), V.u64 (BitVec.ofInt (64 : Nat) (0 : Int)),
 V.str (bytesOf (ByteArray.mk #[])), V.nilSl],
 V.bool false]),
 [])))) := by kernel_rfl
theorem dE_x (f : List B) (n : Nat) (q : RW) (s : List B) : Tr.prune ((Tr.Sh.any.both
 (Tr.Sh.any.both Tr.Sh.any).r.r.r.r.r.r.r).r.r.r.r)
 (execBYE Pr (OnE f n q) noLoopsT (100 : Nat) Go.Proofs.Tryd.f9 (0 : Nat) (Tell.mk [] [] []) (Tell.mk [] [] [])
 (takeSeq (5 : Nat) (bodyOf Go.Proofs.Tryd.f9)) [((0 : Nat), V.str s)] []) =
 Tr.chk (dqB n q s && true && true && true)
 (Tr.br ((↑n : Int) == (0 : Int))
 (Tr.chk true
 (Tr.leaf
 (Sum.inl
 (Fin.ret
 (V.tup
 [V.agg
 [V.str (bytesOf (ByteArray.mk #[])), V.str (bytesOf (ByteArray.mk #[])),
 V.u64 (BitVec.ofInt (64 : Nat) (0 : Int)), V.u64 (BitVec.ofInt (64 : Nat) (0 : Int)),
 V.u64 (BitVec.ofInt (64 : Nat) (0 : Int)), V.u64 (BitVec.ofInt (64 : Nat) (0 : Int)),
 V.u64 (BitVec.ofInt (64 : Nat) (0 : Int)), V.u64 (BitVec.ofInt (64 : Nat) (0 : Int)),
 V.u64 (BitVec.ofInt (64 : Nat) (0 : Int)), V.u64 (BitVec.ofInt (64 : Nat) (0 : Int)),
 V.u64 (BitVec.ofInt (64 : Nat) (0 : Int)), V.str (bytesOf (ByteArray.mk #[])),
 V.int IntKind.i64 (0 : Int), V.str (bytesOf (ByteArray.mk #[])),
 V.str (bytesOf (ByteArray.mk #[])), V.u64 (BitVec.ofInt (64 : Nat) (0 : Int)),
 V.u64 (BitVec.ofInt (64 : Nat) (0 : Int)), V.u64 (BitVec.ofInt (64 : Nat) (0 : Int)),
 V.u64 (BitVec.ofInt (64 : Nat) (0 : Int)), V.u64 (BitVec.ofInt (64 : Nat) (0 : Int)),
 V.u64 (BitVec.ofInt (64 : Nat) (0 : Int)), V.u64 (BitVec.ofInt (64 : Nat) (0 : Int)),
 V.u64 (BitVec.ofInt (64 : Nat) (0 : Int)), V.u64 (BitVec.ofInt (64 : Nat) (0 : Int)),
 V.u64 (BitVec.ofInt (64 : Nat) (0 : Int)), V.u64 (BitVec.ofInt (64 : Nat) (0 : Int)),
 V.u64 (BitVec.ofInt (64 : Nat) (0 : Int)), V.u64 (BitVec.ofInt (64 : Nat) (0 : Int)),
 V.u64 (BitVec.ofInt (64 : Nat) (0 : Int)), V.str (bytesOf (ByteArray.mk #[])), V.nilSl],
 V.bool false]),
 []))))
 (Tr.chk
 (decide ((0 : Int) < (↑n : Int)) && (decide ((0 : Nat) < n) && true && true) &&
 (fkB f (q.s (0 : Nat)) && true && true) &&
 true)
 (Tr.br ((↑n : Int) != wrapI IntKind.i64 ((1 : Int) + (↑f.length : Int)))
 (Tr.chk true
 (Tr.leaf
 (Sum.inl
 (Fin.ret
 (V.tup
 [V.agg
 [V.str (bytesOf (ByteArray.mk #[])), V.str (bytesOf (ByteArray.mk #[])),
 V.u64 (BitVec.ofInt (64 : Nat) (0 : Int)), V.u64 (BitVec.ofInt (64 : Nat) (0 : Int)),
 V.u64 (BitVec.ofInt (64 : Nat) (0 : Int)), V.u64 (BitVec.ofInt (64 : Nat) (0 : Int)),
 V.u64 (BitVec.ofInt (64 : Nat) (0 : Int)), V.u64 (BitVec.ofInt (64 : Nat) (0 : Int)),
 V.u64 (BitVec.ofInt (64 : Nat) (0 : Int)), V.u64 (BitVec.ofInt (64 : Nat) (0 : Int)),
 V.u64 (BitVec.ofInt (64 : Nat) (0 : Int)), V.str (bytesOf (ByteArray.mk #[])),
 V.int IntKind.i64 (0 : Int), V.str (bytesOf (ByteArray.mk #[])),
 V.str (bytesOf (ByteArray.mk #[])), V.u64 (BitVec.ofInt (64 : Nat) (0 : Int)),
 V.u64 (BitVec.ofInt (64 : Nat) (0 : Int)), V.u64 (BitVec.ofInt (64 : Nat) (0 : Int)),
 V.u64 (BitVec.ofInt (64 : Nat) (0 : Int)), V.u64 (BitVec.ofInt (64 : Nat) (0 : Int)),
 V.u64 (BitVec.ofInt (64 : Nat) (0 : Int)), V.u64 (BitVec.ofInt (64 : Nat) (0 : Int)),
 V.u64 (BitVec.ofInt (64 : Nat) (0 : Int)), V.u64 (BitVec.ofInt (64 : Nat) (0 : Int)),
 V.u64 (BitVec.ofInt (64 : Nat) (0 : Int)), V.u64 (BitVec.ofInt (64 : Nat) (0 : Int)),
 V.u64 (BitVec.ofInt (64 : Nat) (0 : Int)), V.u64 (BitVec.ofInt (64 : Nat) (0 : Int)),
 V.u64 (BitVec.ofInt (64 : Nat) (0 : Int)), V.str (bytesOf (ByteArray.mk #[])), V.nilSl],
 V.bool false]),
 []))))
 (Tr.leaf (Sum.inr (X.normal, [], [])))))) := by kernel_rfl
end
end Go.Proofs.YtbgiickegljpoaaDoor.K
end
section
open Go Go.Lh
namespace Go.Proofs.YtbgiickegljpoaaDoor.K
noncomputable section
set_option maxRecDepth 100000
def nmL (l : List It) : List B := (It.rI l).s 0
def dcC (s : List B) : Option CM := match decF s with
  | some (.lst l) => @ite _ (l.length = (lookS fieldsL (nmL l)).length + 1 ∧ hasS fieldsL (nmL l) = true ∧ okD (lookS fieldsL (nmL l)) (It.rI l) s = true) (Classical.propDecidable _) (some (cmF (lookS fieldsL (nmL l)) (It.rI l))) none
  | _ => none
def noTx (s : List B) : Prop := ∀ l, decF s = some (.lst l) → hasS fieldsL (nmL l) = true → l.length = 2 → lookS fieldsL (nmL l) ≠ f_t
theorem fields_val : ∀ p ∈ fieldsL, p.2 = f_t ∨ p.2 = f_n ∨ p.2 = f_a ∨ p.2 = f_ak ∨ p.2 = f_av ∨ p.2 = f_an ∨ p.2 = f_as ∨ p.2 = f_akv ∨ p.2 = f_e ∨ p.2 = f_s := by decide
theorem fields_len : ∀ p ∈ fieldsL, p.2.length ≤ 3 := by decide
theorem fk_isF {s : List B} (h : hasS fieldsL s = true) : lookS fieldsL s = f_t ∨ isF (lookS fieldsL s) := by
  obtain ⟨p, h1, h2, h3⟩ := hasS_mem h
  rw [h3]
  exact fields_val p h1
theorem fk_len3 {s : List B} (h : hasS fieldsL s = true) : (lookS fieldsL s).length ≤ 3 := by
  obtain ⟨p, h1, h2, h3⟩ := hasS_mem h
  rw [h3]
  exact fields_len p h1
theorem dec_all {f : List B} (hf : isF f) (s : List B) (q : RW) (hq : dqP (f.length + 1) q s) (hn : fkP f (q.s 0)) : LFn Pr 9 [.str s] [] (dV f q s) [] := by
  rcases hf with rfl | rfl | rfl | rfl | rfl | rfl | rfl | rfl | rfl
  · exact dec_n s q hq hn
  · exact dec_a s q hq hn
  · exact dec_ak s q hq hn
  · exact dec_av s q hq hn
  · exact dec_an s q hq hn
  · exact dec_as s q hq hn
  · exact dec_akv s q hq hn
  · exact dec_e s q hq hn
  · exact dec_s s q hq hn
theorem dnB_t {s : List B} (h : decF s = none) : dnB s = true := @decide_eq_true _ (Classical.propDecidable _) h
theorem dtB_t {t s : List B} (h : decF s = some (.txt t)) : dtB t s = true := @decide_eq_true _ (Classical.propDecidable _) h
theorem fuB_t {s : List B} (h : hasS fieldsL s = false) : fuB s = true := @decide_eq_true _ (Classical.propDecidable _) h
theorem decode_fn (s : List B) (hx : noTx s) : LFn Pr 9 [.str s] [] (dcV (dcC s)) [] := by
  cases h : decF s with
  | none =>
    have e : dcC s = none := by unfold dcC; rw [h]
    rw [e]
    refine fnT OnA_sound mixed (by kernel_rfl) LoopsOk.noneT (dA_x s) ?_
    refine wp_chk.2 ⟨by rw [dnB_t h]; rfl, wp_br.2 ⟨fun _ => wp_chk_true.2 (wp_leaf.2 rfl), fun _ => wp_chk_true.2 (wp_leaf.2 rfl)⟩⟩
  | some x =>
    cases x with
    | txt t =>
      have e : dcC s = none := by unfold dcC; rw [h]
      rw [e]
      refine fnT (OnB_sound t) mixed (by kernel_rfl) LoopsOk.noneT (dB_x t s) ?_
      refine wp_chk.2 ⟨by rw [dtB_t h]; rfl, wp_leaf.2 rfl⟩
    | lst l =>
      have hq : dqP l.length (It.rI l) s := ⟨l, h, rfl, rfl⟩
      by_cases hl : l.length = 0
      · have e : dcC s = none := by
          unfold dcC; rw [h]; simp only
          rw [if_neg (fun e => by omega)]
        rw [e]
        rw [hl] at hq
        refine fnT (OnD_sound 0 (It.rI l)) mixed (by kernel_rfl) LoopsOk.noneT (dC_x (It.rI l) s) ?_
        refine wp_chk.2 ⟨by rw [dqB_t hq]; rfl, wp_leaf.2 rfl⟩
      · cases hh : hasS fieldsL (nmL l) with
        | false =>
          have e : dcC s = none := by
            unfold dcC; rw [h]; simp only
            rw [if_neg (fun e => by rw [hh] at e; cases e.2.1)]
          rw [e]
          refine fnT (OnD_sound l.length (It.rI l)) mixed (by kernel_rfl) LoopsOk.noneT (dD_x l.length (It.rI l) s) ?_
          refine wp_chk.2 ⟨by rw [dqB_t hq]; rfl, wp_br.2 ⟨fun _ => wp_chk_true.2 (wp_leaf.2 rfl), fun _ => wp_chk.2 ⟨?_, wp_leaf.2 rfl⟩⟩⟩
          have e1 : fuB ((It.rI l).s 0) = true := fuB_t hh
          rw [e1, decide_eq_true (show (0 : Int) < (l.length : Int) by omega), decide_eq_true (show 0 < l.length by omega)]; rfl
        | true =>
          have hn : fkP (lookS fieldsL (nmL l)) ((It.rI l).s 0) := ⟨rfl, hh⟩
          by_cases hlen : l.length = (lookS fieldsL (nmL l)).length + 1
          · have hF : isF (lookS fieldsL (nmL l)) := by
              rcases fk_isF hh with h9 | h9
              · exact absurd h9 (hx l h hh (by rw [hlen, h9]; rfl))
              · exact h9
            have H := dec_all hF s (It.rI l) (by rw [← hlen]; exact hq) hn
            have e : dcV (dcC s) = dV (lookS fieldsL (nmL l)) (It.rI l) s := by
              unfold dcC dV; rw [h]; simp only
              by_cases ho : okD (lookS fieldsL (nmL l)) (It.rI l) s = true
              · rw [if_pos ⟨hlen, hh, ho⟩, if_pos ho]
              · rw [if_neg (fun e => ho e.2.2), if_neg ho]
            rw [e]; exact H
          · have e : dcC s = none := by
              unfold dcC; rw [h]; simp only
              rw [if_neg (fun e => hlen e.1)]
            rw [e]
            have hf3 := fk_len3 hh
            refine EndsIn.done (fn := Go.Proofs.Tryd.f9) (by kernel_rfl) (by kernel_rfl) (by kernel_rfl) ?_
            refine EndsIn.cutY (L := noLoopsT) 5 (OnE_sound (lookS fieldsL (nmL l)) l.length (It.rI l)) mixed (by kernel_rfl) noLoops_all (by kernel_rfl) (dE_x (lookS fieldsL (nmL l)) l.length (It.rI l) s) ?_
            refine wp_chk.2 ⟨by rw [dqB_t hq]; rfl, wp_br.2 ⟨fun _ => wp_chk_true.2 (wp_leaf.2 ⟨trivial, .inr ⟨_, rfl, .inl rfl⟩⟩), fun _ => wp_chk.2 ⟨?_, wp_br.2 ⟨fun _ => wp_chk_true.2 (wp_leaf.2 ⟨trivial, .inr ⟨_, rfl, .inl rfl⟩⟩), fun e9 => ?_⟩⟩⟩⟩
            · have e1 : fkB (lookS fieldsL (nmL l)) ((It.rI l).s 0) = true := fkB_t hn
              rw [e1, decide_eq_true (show (0 : Int) < (l.length : Int) by omega), decide_eq_true (show 0 < l.length by omega)]; rfl
            · exfalso
              have e8 : (1 : Int) + ((lookS fieldsL (nmL l)).length : Int) = (((lookS fieldsL (nmL l)).length + 1 : Nat) : Int) := by omega
              rw [e8, wrapI_nat (by omega)] at e9
              have := bne_eq_false_iff_eq.1 e9
              omega
/-- as an oracle answers -/
def ddB (s : List B) : Bool := @decide (noTx s) (Classical.propDecidable _)
def ddO (s : List B) : Bool := @decide (∃ c, dcC s = some c) (Classical.propDecidable _)
def ddC (s : List B) : CM := @ite _ True (Classical.propDecidable True) ((dcC s).getD (CM0 noT)) (CM0 noT)
theorem ddC_eq {s : List B} {c : CM} (h : dcC s = some c) : ddC s = c := by unfold ddC; rw [if_pos trivial, h]; rfl
theorem ddO_t {s : List B} {c : CM} (h : dcC s = some c) : ddO s = true := @decide_eq_true _ (Classical.propDecidable _) ⟨c, h⟩
theorem ddO_n {s : List B} (h : dcC s = none) : ddO s = false := @decide_eq_false _ (Classical.propDecidable _) (by rw [h]; rintro ⟨c, e⟩; cases e)
theorem ddB_t {s : List B} (h : noTx s) : ddB s = true := @decide_eq_true _ (Classical.propDecidable _) h
theorem noTx_none {s : List B} (h : decF s = none) : noTx s := by intro l e; rw [h] at e; cases e
theorem dcC_none {s : List B} (h : decF s = none) : dcC s = none := by unfold dcC; rw [h]
def dd_f (s : List B) : Tr (Fin × Heap) := .chk (ddB s) (.br (ddO s) (.leaf (.ret (.tup [.agg ((ddC s).cs .nilSl), .bool true]), [])) (.leaf (.ret (.tup [.agg ((CM0 noT).cs .nilSl), .bool false]), [])))
theorem dd_ok : ∀ args h r, ((ctT readS dd_f) args h).is r → LFn Pr 9 args h r.1 r.2 := by
  refine ctT_ok (fun s => [.str s]) (fun _ => []) ?_ (fun s r h => ?_)
  · intro args h a e
    unfold readS at e
    split at e <;> cases e
    exact ⟨rfl, rfl⟩
  · rw [dd_f, Tr.is_chk, Tr.is_br] at h
    obtain ⟨h1, h⟩ := h
    have h2 : noTx s := @of_decide_eq_true _ (Classical.propDecidable _) h1
    have H := decode_fn s h2
    cases hc : dcC s with
    | none =>
      rw [hc] at H
      rw [if_neg (by rw [ddO_n hc]; decide), Tr.is_leaf] at h
      subst h; exact H
    | some c =>
      rw [hc] at H
      rw [if_pos (ddO_t hc), Tr.is_leaf, ddC_eq hc] at h
      subst h; exact H
/-- Encode of any command but for transactions -/
def eeP (c : CM) : Prop := isF (lookS fieldsL c.nm) ∧ hasS fieldsL c.nm = true ∧ okC c
def eeB (c : CM) : Bool := @decide (eeP c) (Classical.propDecidable _)
def eeO (c : CM) : Bool := @decide (eok (lookS fieldsL c.nm) c = true) (Classical.propDecidable _)
def eeS (c : CM) : List B := @ite _ True (Classical.propDecidable True) (eS (lookS fieldsL c.nm) c) []
theorem eeS_eq (c : CM) : eeS c = eS (lookS fieldsL c.nm) c := if_pos trivial
theorem eeO_eq (c : CM) : eeO c = eok (lookS fieldsL c.nm) c := eokO_eq (lookS fieldsL c.nm) c
theorem eeB_t {c : CM} (h : eeP c) : eeB c = true := @decide_eq_true _ (Classical.propDecidable _) h
def ee_f (c : CM) : Tr (Fin × Heap) := .chk (eeB c) (.br (eeO c) (.leaf (.ret (.tup [.str (eeS c), .bool true]), [])) (.leaf (.ret (.tup [.str [], .bool false]), [])))
theorem ee_ok : ∀ args h r, ((ctT ca_read ee_f) args h).is r → LFn Pr 8 args h r.1 r.2 := by
  intro args h r hr
  unfold ctT at hr
  split at hr
  · rename_i c hc
    rw [ee_f, Tr.is_chk] at hr
    obtain ⟨h1, hr⟩ := hr
    obtain ⟨h2, h3, h4⟩ : eeP c := @of_decide_eq_true _ (Classical.propDecidable _) h1
    refine ecm_ok (lookS fieldsL c.nm) args h r ?_
    unfold ctT
    rw [hc]
    show (ecm_f (lookS fieldsL c.nm) c).is r
    rw [ecm_f, Tr.is_chk]
    rw [eeS_eq] at hr
    exact ⟨ecB_t ⟨h2, ⟨rfl, h3⟩, h4⟩, hr⟩
  · exact (Tr.is_no.1 hr).elim
end
end Go.Proofs.YtbgiickegljpoaaDoor.K
end
section
open Go Go.Lh
namespace Go.Proofs.YtbgiickegljpoaaDoor.K
noncomputable section
set_option maxRecDepth 100000
def OCh : OrcT := autoT Pr ext [] [19,39] 4
theorem OCh_sound : OrcSound Pr OCh.o := autoT_sound mixed ext_ok KOkT.nil (by kernel_rfl) 4
theorem ch_x (s : List B) : Tr.prune ((Tr.Sh.any.both
 (Tr.Sh.any.both
 (Tr.Sh.any.both
 (Tr.Sh.any.both
 (Tr.Sh.any.both
 (Tr.Sh.any.both
 (Tr.Sh.any.both
 (Tr.Sh.any.both
 (Tr.Sh.any.both
 (Tr.Sh.any.both
 (Tr.Sh.any.both
 (Tr.Sh.any.both
 (Tr.Sh.any.both Tr.Sh.any.r).l).l).l).l).l).l).l).l).l).l).l).l).l)
 (execBF Pr OCh noLoopsT (100 : Nat) Go.Proofs.Tryd.f11 [V.str s] []) =
 Tr.chk true
 (Tr.br
 (s ==
 bytesOf
 (ByteArray.mk
 #[OfNat.ofNat (115 : Nat), OfNat.ofNat (101 : Nat), OfNat.ofNat (110 : Nat), OfNat.ofNat (100 : Nat)]))
 (Tr.chk true (Tr.leaf (Fin.ret (V.bool true), [])))
 (Tr.chk true
 (Tr.br
 (s ==
 bytesOf
 (ByteArray.mk
 #[OfNat.ofNat (109 : Nat), OfNat.ofNat (105 : Nat), OfNat.ofNat (110 : Nat), OfNat.ofNat (101 : Nat)]))
 (Tr.chk true (Tr.leaf (Fin.ret (V.bool true), [])))
 (Tr.chk true
 (Tr.br
 (s ==
 bytesOf
 (ByteArray.mk
 #[OfNat.ofNat (119 : Nat), OfNat.ofNat (97 : Nat), OfNat.ofNat (114 : Nat), OfNat.ofNat (112 : Nat)]))
 (Tr.chk true (Tr.leaf (Fin.ret (V.bool true), [])))
 (Tr.chk true
 (Tr.br
 (s ==
 bytesOf
 (ByteArray.mk
 #[OfNat.ofNat (97 : Nat), OfNat.ofNat (117 : Nat), OfNat.ofNat (116 : Nat),
 OfNat.ofNat (111 : Nat)]))
 (Tr.chk true (Tr.leaf (Fin.ret (V.bool true), [])))
 (Tr.chk true
 (Tr.br
 (s ==
 bytesOf
 (ByteArray.mk
 #[OfNat.ofNat (115 : Nat), OfNat.ofNat (101 : Nat), OfNat.ofNat (116 : Nat),
 OfNat.ofNat (98 : Nat), OfNat.ofNat (97 : Nat), OfNat.ofNat (108 : Nat),
 OfNat.ofNat (97 : Nat), OfNat.ofNat (110 : Nat), OfNat.ofNat (99 : Nat),
 OfNat.ofNat (101 : Nat)]))
 (Tr.chk true (Tr.leaf (Fin.ret (V.bool true), [])))
 (Tr.chk true
 (Tr.br
 (s ==
 bytesOf
 (ByteArray.mk
 #[OfNat.ofNat (115 : Nat), OfNat.ofNat (101 : Nat), OfNat.ofNat (116 : Nat),
 OfNat.ofNat (110 : Nat), OfNat.ofNat (111 : Nat), OfNat.ofNat (110 : Nat),
 OfNat.ofNat (99 : Nat), OfNat.ofNat (101 : Nat)]))
 (Tr.chk true (Tr.leaf (Fin.ret (V.bool true), [])))
 (Tr.chk true
 (Tr.br
 (s ==
 bytesOf
 (ByteArray.mk
 #[OfNat.ofNat (115 : Nat), OfNat.ofNat (101 : Nat), OfNat.ofNat (116 : Nat),
 OfNat.ofNat (99 : Nat), OfNat.ofNat (111 : Nat), OfNat.ofNat (100 : Nat),
 OfNat.ofNat (101 : Nat)]))
 (Tr.chk true (Tr.leaf (Fin.ret (V.bool true), [])))
 (Tr.chk true
 (Tr.br
 (s ==
 bytesOf
 (ByteArray.mk
 #[OfNat.ofNat (115 : Nat), OfNat.ofNat (101 : Nat), OfNat.ofNat (116 : Nat),
 OfNat.ofNat (115 : Nat), OfNat.ofNat (108 : Nat), OfNat.ofNat (111 : Nat),
 OfNat.ofNat (116 : Nat)]))
 (Tr.chk true (Tr.leaf (Fin.ret (V.bool true), [])))
 (Tr.chk true
 (Tr.br
 (s ==
 bytesOf
 (ByteArray.mk
 #[OfNat.ofNat (105 : Nat), OfNat.ofNat (109 : Nat), OfNat.ofNat (112 : Nat),
 OfNat.ofNat (101 : Nat), OfNat.ofNat (114 : Nat), OfNat.ofNat (115 : Nat),
 OfNat.ofNat (111 : Nat), OfNat.ofNat (110 : Nat), OfNat.ofNat (97 : Nat),
 OfNat.ofNat (116 : Nat), OfNat.ofNat (101 : Nat)]))
 (Tr.chk true (Tr.leaf (Fin.ret (V.bool true), [])))
 (Tr.chk true
 (Tr.br
 (s ==
 bytesOf
 (ByteArray.mk
 #[OfNat.ofNat (115 : Nat), OfNat.ofNat (116 : Nat),
 OfNat.ofNat (111 : Nat), OfNat.ofNat (112 : Nat)]))
 (Tr.chk true (Tr.leaf (Fin.ret (V.bool true), [])))
 (Tr.chk true
 (Tr.br
 (s ==
 bytesOf
 (ByteArray.mk
 #[OfNat.ofNat (115 : Nat), OfNat.ofNat (110 : Nat),
 OfNat.ofNat (97 : Nat), OfNat.ofNat (112 : Nat),
 OfNat.ofNat (115 : Nat), OfNat.ofNat (104 : Nat),
 OfNat.ofNat (111 : Nat), OfNat.ofNat (116 : Nat)]))
 (Tr.chk true (Tr.leaf (Fin.ret (V.bool true), [])))
 (Tr.chk true
 (Tr.br
 (s ==
 bytesOf
 (ByteArray.mk
 #[OfNat.ofNat (114 : Nat), OfNat.ofNat (101 : Nat),
 OfNat.ofNat (118 : Nat), OfNat.ofNat (101 : Nat),
 OfNat.ofNat (114 : Nat), OfNat.ofNat (116 : Nat)]))
 (Tr.chk true (Tr.leaf (Fin.ret (V.bool true), [])))
 (Tr.chk true
 (Tr.br
 (s ==
 bytesOf
 (ByteArray.mk
 #[OfNat.ofNat (108 : Nat), OfNat.ofNat (111 : Nat),
 OfNat.ofNat (97 : Nat), OfNat.ofNat (100 : Nat)]))
 (Tr.chk true (Tr.leaf (Fin.ret (V.bool true), [])))
 (Tr.chk true
 (Tr.leaf
 (Fin.ret (V.bool false),
 [])))))))))))))))))))))))))))) := by kernel_rfl
def chgL : List (List B) := [n_send, n_mine, n_warp, n_auto, n_setbalance, n_setnonce, n_setcode, n_setslot, n_impersonate, n_stop, n_snapshot, n_revert, n_load]
def chgB (s : List B) : Bool := (s == n_send) || (s == n_mine) || (s == n_warp) || (s == n_auto) || (s == n_setbalance) || (s == n_setnonce) || (s == n_setcode) || (s == n_setslot) || (s == n_impersonate) || (s == n_stop) || (s == n_snapshot) || (s == n_revert) || (s == n_load)
theorem ofW_bytes (w : W4) : ofW w.bytes = w := by
  unfold ofW; rw [if_pos (by rw [W4.bytes_length]; decide), W4.ofBytes_bytes]
theorem smO_numB (n : BitVec 64) : smallO false (numB n) = true := by rw [smallO_eq]; exact numB_small n
theorem deps_txt : ∀ xs : List (List B), It.deps (xs.map .txt) ≤ 1
  | [] => by rw [List.map_nil, It.deps]; exact Nat.zero_le _
  | x :: r => by
    have := deps_txt r
    rw [List.map_cons, It.deps, It.dep]
    omega
theorem bw {b : Bool} (h : b = true) : (b && true) = true := by rw [h]; rfl
theorem list_beq (s : List B) : (s == s) = true := by simp
def pick_n (c : CM) : CM := ({ CM0 c.nm with n := c.n } : CM)
theorem cmF_n (c : CM) : cmF f_n (It.rI ((eTs f_n c).map .txt)) = pick_n c := by
  show ({ CM0 c.nm with n := smallN false (numB c.n) } : CM) = pick_n c
  rw [smallN_numB]
  try rfl
theorem fo_n (c : CM) : fillO f_n 1 (It.rI ((eTs f_n c).map .txt)) = true := by
  rw [fillO_n]
  show (smallO false (numB c.n) && true) = true
  simp only [smO_numB, W4.bytes_length, Bool.and_true, Bool.true_and]
theorem eok_pick_n (c : CM) (h : eok f_n c = true) : eok f_n (pick_n c) = true := by
  rw [eok_n] at h ⊢
  rw [Bool.and_eq_true] at h ⊢
  refine ⟨?_, h.2⟩
  rw [bareB_n]
  try rfl
theorem eTs_pick_n (c : CM) : eTs f_n (pick_n c) = eTs f_n c := rfl
theorem back_n (c : CM) (hn : fkP f_n c.nm) (h : eok f_n c = true) (hl : (enc (eIt f_n c)).length ≤ 65536) : dcC (eS f_n c) = some (pick_n c) := by
  have hd : decF (eS f_n c) = some (eIt f_n c) := by
    rw [eS_eq]
    exact decF_fwd _ (by unfold eIt; rw [It.dep]; have := deps_txt (eTs f_n c); omega) hl
  have hs : eS f_n (pick_n c) = eS f_n c := by rw [eS_eq, eS_eq, eIt, eIt, eTs_pick_n]
  have hnm : nmL ((eTs f_n c).map .txt) = c.nm := rfl
  unfold dcC
  rw [hd]
  unfold eIt
  simp only
  rw [hnm, hn.1, hn.2]
  have ho : okD f_n (It.rI ((eTs f_n c).map .txt)) (eS f_n c) = true := by
    unfold okD
    rw [fo_n, cmF_n, eok_pick_n c h, hs, list_beq]; rfl
  rw [if_pos ⟨rfl, rfl, ho⟩, cmF_n]
def pick_a (c : CM) : CM := ({ CM0 c.nm with ad := c.ad } : CM)
theorem cmF_a (c : CM) : cmF f_a (It.rI ((eTs f_a c).map .txt)) = pick_a c := by
  show ({ CM0 c.nm with ad := c.ad } : CM) = pick_a c
  rfl
theorem fo_a (c : CM) : fillO f_a 1 (It.rI ((eTs f_a c).map .txt)) = true := by
  rw [fillO_a]
theorem eok_pick_a (c : CM) (h : eok f_a c = true) : eok f_a (pick_a c) = true := by
  rw [eok_a] at h ⊢
  rw [Bool.and_eq_true] at h ⊢
  refine ⟨?_, h.2⟩
  rw [bareB_a]
  try rfl
theorem eTs_pick_a (c : CM) : eTs f_a (pick_a c) = eTs f_a c := rfl
theorem back_a (c : CM) (hn : fkP f_a c.nm) (h : eok f_a c = true) (hl : (enc (eIt f_a c)).length ≤ 65536) : dcC (eS f_a c) = some (pick_a c) := by
  have hd : decF (eS f_a c) = some (eIt f_a c) := by
    rw [eS_eq]
    exact decF_fwd _ (by unfold eIt; rw [It.dep]; have := deps_txt (eTs f_a c); omega) hl
  have hs : eS f_a (pick_a c) = eS f_a c := by rw [eS_eq, eS_eq, eIt, eIt, eTs_pick_a]
  have hnm : nmL ((eTs f_a c).map .txt) = c.nm := rfl
  unfold dcC
  rw [hd]
  unfold eIt
  simp only
  rw [hnm, hn.1, hn.2]
  have ho : okD f_a (It.rI ((eTs f_a c).map .txt)) (eS f_a c) = true := by
    unfold okD
    rw [fo_a, cmF_a, eok_pick_a c h, hs, list_beq]; rfl
  rw [if_pos ⟨rfl, rfl, ho⟩, cmF_a]
def pick_ak (c : CM) : CM := ({ CM0 c.nm with ad := c.ad, k := c.k } : CM)
theorem cmF_ak (c : CM) : cmF f_ak (It.rI ((eTs f_ak c).map .txt)) = pick_ak c := by
  show ({ CM0 c.nm with ad := c.ad, k := ofW c.k.bytes } : CM) = pick_ak c
  rw [ofW_bytes]
  try rfl
theorem fo_ak (c : CM) : fillO f_ak 1 (It.rI ((eTs f_ak c).map .txt)) = true := by
  rw [fillO_ak]
  show (decide (c.k.bytes.length ≤ 32) && true) = true
  simp only [smO_numB, W4.bytes_length, Bool.and_true, Bool.true_and]
  try decide
theorem eok_pick_ak (c : CM) (h : eok f_ak c = true) : eok f_ak (pick_ak c) = true := by
  rw [eok_ak] at h ⊢
  rw [Bool.and_eq_true] at h ⊢
  refine ⟨?_, h.2⟩
  rw [bareB_ak]
  try rfl
theorem eTs_pick_ak (c : CM) : eTs f_ak (pick_ak c) = eTs f_ak c := rfl
theorem back_ak (c : CM) (hn : fkP f_ak c.nm) (h : eok f_ak c = true) (hl : (enc (eIt f_ak c)).length ≤ 65536) : dcC (eS f_ak c) = some (pick_ak c) := by
  have hd : decF (eS f_ak c) = some (eIt f_ak c) := by
    rw [eS_eq]
    exact decF_fwd _ (by unfold eIt; rw [It.dep]; have := deps_txt (eTs f_ak c); omega) hl
  have hs : eS f_ak (pick_ak c) = eS f_ak c := by rw [eS_eq, eS_eq, eIt, eIt, eTs_pick_ak]
  have hnm : nmL ((eTs f_ak c).map .txt) = c.nm := rfl
  unfold dcC
  rw [hd]
  unfold eIt
  simp only
  rw [hnm, hn.1, hn.2]
  have ho : okD f_ak (It.rI ((eTs f_ak c).map .txt)) (eS f_ak c) = true := by
    unfold okD
    rw [fo_ak, cmF_ak, eok_pick_ak c h, hs, list_beq]; rfl
  rw [if_pos ⟨rfl, rfl, ho⟩, cmF_ak]
def pick_av (c : CM) : CM := ({ CM0 c.nm with ad := c.ad, v := c.v } : CM)
theorem cmF_av (c : CM) : cmF f_av (It.rI ((eTs f_av c).map .txt)) = pick_av c := by
  show ({ CM0 c.nm with ad := c.ad, v := ofW c.v.bytes } : CM) = pick_av c
  rw [ofW_bytes]
  try rfl
theorem fo_av (c : CM) : fillO f_av 1 (It.rI ((eTs f_av c).map .txt)) = true := by
  rw [fillO_av]
  show (decide (c.v.bytes.length ≤ 32) && true) = true
  simp only [smO_numB, W4.bytes_length, Bool.and_true, Bool.true_and]
  try decide
theorem eok_pick_av (c : CM) (h : eok f_av c = true) : eok f_av (pick_av c) = true := by
  rw [eok_av] at h ⊢
  rw [Bool.and_eq_true] at h ⊢
  refine ⟨?_, h.2⟩
  rw [bareB_av]
  try rfl
theorem eTs_pick_av (c : CM) : eTs f_av (pick_av c) = eTs f_av c := rfl
theorem back_av (c : CM) (hn : fkP f_av c.nm) (h : eok f_av c = true) (hl : (enc (eIt f_av c)).length ≤ 65536) : dcC (eS f_av c) = some (pick_av c) := by
  have hd : decF (eS f_av c) = some (eIt f_av c) := by
    rw [eS_eq]
    exact decF_fwd _ (by unfold eIt; rw [It.dep]; have := deps_txt (eTs f_av c); omega) hl
  have hs : eS f_av (pick_av c) = eS f_av c := by rw [eS_eq, eS_eq, eIt, eIt, eTs_pick_av]
  have hnm : nmL ((eTs f_av c).map .txt) = c.nm := rfl
  unfold dcC
  rw [hd]
  unfold eIt
  simp only
  rw [hnm, hn.1, hn.2]
  have ho : okD f_av (It.rI ((eTs f_av c).map .txt)) (eS f_av c) = true := by
    unfold okD
    rw [fo_av, cmF_av, eok_pick_av c h, hs, list_beq]; rfl
  rw [if_pos ⟨rfl, rfl, ho⟩, cmF_av]
def pick_an (c : CM) : CM := ({ CM0 c.nm with ad := c.ad, n := c.n } : CM)
theorem cmF_an (c : CM) : cmF f_an (It.rI ((eTs f_an c).map .txt)) = pick_an c := by
  show ({ CM0 c.nm with ad := c.ad, n := smallN false (numB c.n) } : CM) = pick_an c
  rw [smallN_numB]
  try rfl
theorem fo_an (c : CM) : fillO f_an 1 (It.rI ((eTs f_an c).map .txt)) = true := by
  rw [fillO_an]
  show (smallO false (numB c.n) && true) = true
  simp only [smO_numB, W4.bytes_length, Bool.and_true, Bool.true_and]
theorem eok_pick_an (c : CM) (h : eok f_an c = true) : eok f_an (pick_an c) = true := by
  rw [eok_an] at h ⊢
  rw [Bool.and_eq_true] at h ⊢
  refine ⟨?_, h.2⟩
  rw [bareB_an]
  try rfl
theorem eTs_pick_an (c : CM) : eTs f_an (pick_an c) = eTs f_an c := rfl
theorem back_an (c : CM) (hn : fkP f_an c.nm) (h : eok f_an c = true) (hl : (enc (eIt f_an c)).length ≤ 65536) : dcC (eS f_an c) = some (pick_an c) := by
  have hd : decF (eS f_an c) = some (eIt f_an c) := by
    rw [eS_eq]
    exact decF_fwd _ (by unfold eIt; rw [It.dep]; have := deps_txt (eTs f_an c); omega) hl
  have hs : eS f_an (pick_an c) = eS f_an c := by rw [eS_eq, eS_eq, eIt, eIt, eTs_pick_an]
  have hnm : nmL ((eTs f_an c).map .txt) = c.nm := rfl
  unfold dcC
  rw [hd]
  unfold eIt
  simp only
  rw [hnm, hn.1, hn.2]
  have ho : okD f_an (It.rI ((eTs f_an c).map .txt)) (eS f_an c) = true := by
    unfold okD
    rw [fo_an, cmF_an, eok_pick_an c h, hs, list_beq]; rfl
  rw [if_pos ⟨rfl, rfl, ho⟩, cmF_an]
def pick_as (c : CM) : CM := ({ CM0 c.nm with ad := c.ad, s := c.s } : CM)
theorem cmF_as (c : CM) : cmF f_as (It.rI ((eTs f_as c).map .txt)) = pick_as c := by
  show ({ CM0 c.nm with ad := c.ad, s := c.s } : CM) = pick_as c
  rfl
theorem fo_as (c : CM) : fillO f_as 1 (It.rI ((eTs f_as c).map .txt)) = true := by
  rw [fillO_as]
theorem eok_pick_as (c : CM) (h : eok f_as c = true) : eok f_as (pick_as c) = true := by
  rw [eok_as] at h ⊢
  rw [Bool.and_eq_true] at h ⊢
  refine ⟨?_, h.2⟩
  rw [bareB_as]
  try rfl
theorem eTs_pick_as (c : CM) : eTs f_as (pick_as c) = eTs f_as c := rfl
theorem back_as (c : CM) (hn : fkP f_as c.nm) (h : eok f_as c = true) (hl : (enc (eIt f_as c)).length ≤ 65536) : dcC (eS f_as c) = some (pick_as c) := by
  have hd : decF (eS f_as c) = some (eIt f_as c) := by
    rw [eS_eq]
    exact decF_fwd _ (by unfold eIt; rw [It.dep]; have := deps_txt (eTs f_as c); omega) hl
  have hs : eS f_as (pick_as c) = eS f_as c := by rw [eS_eq, eS_eq, eIt, eIt, eTs_pick_as]
  have hnm : nmL ((eTs f_as c).map .txt) = c.nm := rfl
  unfold dcC
  rw [hd]
  unfold eIt
  simp only
  rw [hnm, hn.1, hn.2]
  have ho : okD f_as (It.rI ((eTs f_as c).map .txt)) (eS f_as c) = true := by
    unfold okD
    rw [fo_as, cmF_as, eok_pick_as c h, hs, list_beq]; rfl
  rw [if_pos ⟨rfl, rfl, ho⟩, cmF_as]
def pick_akv (c : CM) : CM := ({ CM0 c.nm with ad := c.ad, k := c.k, v := c.v } : CM)
theorem cmF_akv (c : CM) : cmF f_akv (It.rI ((eTs f_akv c).map .txt)) = pick_akv c := by
  show ({ CM0 c.nm with ad := c.ad, k := ofW c.k.bytes, v := ofW c.v.bytes } : CM) = pick_akv c
  rw [ofW_bytes, ofW_bytes]
  try rfl
theorem fo_akv (c : CM) : fillO f_akv 1 (It.rI ((eTs f_akv c).map .txt)) = true := by
  rw [fillO_akv]
  show (decide (c.k.bytes.length ≤ 32) && (decide (c.v.bytes.length ≤ 32) && true)) = true
  simp only [smO_numB, W4.bytes_length, Bool.and_true, Bool.true_and]
  try decide
theorem eok_pick_akv (c : CM) (h : eok f_akv c = true) : eok f_akv (pick_akv c) = true := by
  rw [eok_akv] at h ⊢
  rw [Bool.and_eq_true] at h ⊢
  refine ⟨?_, h.2⟩
  rw [bareB_akv]
  try rfl
theorem eTs_pick_akv (c : CM) : eTs f_akv (pick_akv c) = eTs f_akv c := rfl
theorem back_akv (c : CM) (hn : fkP f_akv c.nm) (h : eok f_akv c = true) (hl : (enc (eIt f_akv c)).length ≤ 65536) : dcC (eS f_akv c) = some (pick_akv c) := by
  have hd : decF (eS f_akv c) = some (eIt f_akv c) := by
    rw [eS_eq]
    exact decF_fwd _ (by unfold eIt; rw [It.dep]; have := deps_txt (eTs f_akv c); omega) hl
  have hs : eS f_akv (pick_akv c) = eS f_akv c := by rw [eS_eq, eS_eq, eIt, eIt, eTs_pick_akv]
  have hnm : nmL ((eTs f_akv c).map .txt) = c.nm := rfl
  unfold dcC
  rw [hd]
  unfold eIt
  simp only
  rw [hnm, hn.1, hn.2]
  have ho : okD f_akv (It.rI ((eTs f_akv c).map .txt)) (eS f_akv c) = true := by
    unfold okD
    rw [fo_akv, cmF_akv, eok_pick_akv c h, hs, list_beq]; rfl
  rw [if_pos ⟨rfl, rfl, ho⟩, cmF_akv]
def pick_e (c : CM) : CM := (CM0 c.nm)
theorem cmF_e (c : CM) : cmF f_e (It.rI ((eTs f_e c).map .txt)) = pick_e c := by
  show (CM0 c.nm) = pick_e c
  rfl
theorem fo_e (c : CM) : fillO f_e 1 (It.rI ((eTs f_e c).map .txt)) = true := by
  rw [fillO_e]
theorem eok_pick_e (c : CM) (h : eok f_e c = true) : eok f_e (pick_e c) = true := by
  rw [eok_e] at h ⊢
  rw [Bool.and_eq_true] at h ⊢
  refine ⟨?_, h.2⟩
  rw [bareB_e]
  try rfl
theorem eTs_pick_e (c : CM) : eTs f_e (pick_e c) = eTs f_e c := rfl
theorem back_e (c : CM) (hn : fkP f_e c.nm) (h : eok f_e c = true) (hl : (enc (eIt f_e c)).length ≤ 65536) : dcC (eS f_e c) = some (pick_e c) := by
  have hd : decF (eS f_e c) = some (eIt f_e c) := by
    rw [eS_eq]
    exact decF_fwd _ (by unfold eIt; rw [It.dep]; have := deps_txt (eTs f_e c); omega) hl
  have hs : eS f_e (pick_e c) = eS f_e c := by rw [eS_eq, eS_eq, eIt, eIt, eTs_pick_e]
  have hnm : nmL ((eTs f_e c).map .txt) = c.nm := rfl
  unfold dcC
  rw [hd]
  unfold eIt
  simp only
  rw [hnm, hn.1, hn.2]
  have ho : okD f_e (It.rI ((eTs f_e c).map .txt)) (eS f_e c) = true := by
    unfold okD
    rw [fo_e, cmF_e, eok_pick_e c h, hs, list_beq]; rfl
  rw [if_pos ⟨rfl, rfl, ho⟩, cmF_e]
def pick_s (c : CM) : CM := ({ CM0 c.nm with s := c.s } : CM)
theorem cmF_s (c : CM) : cmF f_s (It.rI ((eTs f_s c).map .txt)) = pick_s c := by
  show ({ CM0 c.nm with s := c.s } : CM) = pick_s c
  rfl
theorem fo_s (c : CM) : fillO f_s 1 (It.rI ((eTs f_s c).map .txt)) = true := by
  rw [fillO_s]
theorem eok_pick_s (c : CM) (h : eok f_s c = true) : eok f_s (pick_s c) = true := by
  rw [eok_s] at h ⊢
  rw [Bool.and_eq_true] at h ⊢
  refine ⟨?_, h.2⟩
  rw [bareB_s]
  try rfl
theorem eTs_pick_s (c : CM) : eTs f_s (pick_s c) = eTs f_s c := rfl
theorem back_s (c : CM) (hn : fkP f_s c.nm) (h : eok f_s c = true) (hl : (enc (eIt f_s c)).length ≤ 65536) : dcC (eS f_s c) = some (pick_s c) := by
  have hd : decF (eS f_s c) = some (eIt f_s c) := by
    rw [eS_eq]
    exact decF_fwd _ (by unfold eIt; rw [It.dep]; have := deps_txt (eTs f_s c); omega) hl
  have hs : eS f_s (pick_s c) = eS f_s c := by rw [eS_eq, eS_eq, eIt, eIt, eTs_pick_s]
  have hnm : nmL ((eTs f_s c).map .txt) = c.nm := rfl
  unfold dcC
  rw [hd]
  unfold eIt
  simp only
  rw [hnm, hn.1, hn.2]
  have ho : okD f_s (It.rI ((eTs f_s c).map .txt)) (eS f_s c) = true := by
    unfold okD
    rw [fo_s, cmF_s, eok_pick_s c h, hs, list_beq]; rfl
  rw [if_pos ⟨rfl, rfl, ho⟩, cmF_s]
theorem changes_fn (s : List B) : LFn Pr 11 [.str s] [] (.ret (.bool (chgB s))) [] := by
  have yes : chgB s = true → (fun r : Fin × Heap => r = (.ret (.bool (chgB s)), [])) (.ret (.bool true), []) := by intro e; rw [e]
  have no : chgB s = false → (fun r : Fin × Heap => r = (.ret (.bool (chgB s)), [])) (.ret (.bool false), []) := by intro e; rw [e]
  refine fnT OCh_sound mixed (by kernel_rfl) LoopsOk.noneT (ch_x s) ?_
  refine wp_chk_true.2 (wp_br.2 ⟨fun e0 => wp_chk_true.2 (wp_leaf.2 (yes ?_)), fun e0 => wp_chk_true.2 (wp_br.2 ⟨fun e1 => wp_chk_true.2 (wp_leaf.2 (yes ?_)), fun e1 => wp_chk_true.2 (wp_br.2 ⟨fun e2 => wp_chk_true.2 (wp_leaf.2 (yes ?_)), fun e2 => wp_chk_true.2 (wp_br.2 ⟨fun e3 => wp_chk_true.2 (wp_leaf.2 (yes ?_)), fun e3 => wp_chk_true.2 (wp_br.2 ⟨fun e4 => wp_chk_true.2 (wp_leaf.2 (yes ?_)), fun e4 => wp_chk_true.2 (wp_br.2 ⟨fun e5 => wp_chk_true.2 (wp_leaf.2 (yes ?_)), fun e5 => wp_chk_true.2 (wp_br.2 ⟨fun e6 => wp_chk_true.2 (wp_leaf.2 (yes ?_)), fun e6 => wp_chk_true.2 (wp_br.2 ⟨fun e7 => wp_chk_true.2 (wp_leaf.2 (yes ?_)), fun e7 => wp_chk_true.2 (wp_br.2 ⟨fun e8 => wp_chk_true.2 (wp_leaf.2 (yes ?_)), fun e8 => wp_chk_true.2 (wp_br.2 ⟨fun e9 => wp_chk_true.2 (wp_leaf.2 (yes ?_)), fun e9 => wp_chk_true.2 (wp_br.2 ⟨fun e10 => wp_chk_true.2 (wp_leaf.2 (yes ?_)), fun e10 => wp_chk_true.2 (wp_br.2 ⟨fun e11 => wp_chk_true.2 (wp_leaf.2 (yes ?_)), fun e11 => wp_chk_true.2 (wp_br.2 ⟨fun e12 => wp_chk_true.2 (wp_leaf.2 (yes ?_)), fun e12 => wp_chk_true.2 (wp_leaf.2 (no ?_))⟩)⟩)⟩)⟩)⟩)⟩)⟩)⟩)⟩)⟩)⟩)⟩)⟩)
  · have h0 : (s == n_send) = true := e0
    simp only [chgB, h0, Bool.or_true, Bool.true_or, Bool.false_or, Bool.or_false]
  · have h0 : (s == n_send) = false := e0
    have h1 : (s == n_mine) = true := e1
    simp only [chgB, h0, h1, Bool.or_true, Bool.true_or, Bool.false_or, Bool.or_false]
  · have h0 : (s == n_send) = false := e0
    have h1 : (s == n_mine) = false := e1
    have h2 : (s == n_warp) = true := e2
    simp only [chgB, h0, h1, h2, Bool.or_true, Bool.true_or, Bool.false_or, Bool.or_false]
  · have h0 : (s == n_send) = false := e0
    have h1 : (s == n_mine) = false := e1
    have h2 : (s == n_warp) = false := e2
    have h3 : (s == n_auto) = true := e3
    simp only [chgB, h0, h1, h2, h3, Bool.or_true, Bool.true_or, Bool.false_or, Bool.or_false]
  · have h0 : (s == n_send) = false := e0
    have h1 : (s == n_mine) = false := e1
    have h2 : (s == n_warp) = false := e2
    have h3 : (s == n_auto) = false := e3
    have h4 : (s == n_setbalance) = true := e4
    simp only [chgB, h0, h1, h2, h3, h4, Bool.or_true, Bool.true_or, Bool.false_or, Bool.or_false]
  · have h0 : (s == n_send) = false := e0
    have h1 : (s == n_mine) = false := e1
    have h2 : (s == n_warp) = false := e2
    have h3 : (s == n_auto) = false := e3
    have h4 : (s == n_setbalance) = false := e4
    have h5 : (s == n_setnonce) = true := e5
    simp only [chgB, h0, h1, h2, h3, h4, h5, Bool.or_true, Bool.true_or, Bool.false_or, Bool.or_false]
  · have h0 : (s == n_send) = false := e0
    have h1 : (s == n_mine) = false := e1
    have h2 : (s == n_warp) = false := e2
    have h3 : (s == n_auto) = false := e3
    have h4 : (s == n_setbalance) = false := e4
    have h5 : (s == n_setnonce) = false := e5
    have h6 : (s == n_setcode) = true := e6
    simp only [chgB, h0, h1, h2, h3, h4, h5, h6, Bool.or_true, Bool.true_or, Bool.false_or, Bool.or_false]
  · have h0 : (s == n_send) = false := e0
    have h1 : (s == n_mine) = false := e1
    have h2 : (s == n_warp) = false := e2
    have h3 : (s == n_auto) = false := e3
    have h4 : (s == n_setbalance) = false := e4
    have h5 : (s == n_setnonce) = false := e5
    have h6 : (s == n_setcode) = false := e6
    have h7 : (s == n_setslot) = true := e7
    simp only [chgB, h0, h1, h2, h3, h4, h5, h6, h7, Bool.or_true, Bool.true_or, Bool.false_or, Bool.or_false]
  · have h0 : (s == n_send) = false := e0
    have h1 : (s == n_mine) = false := e1
    have h2 : (s == n_warp) = false := e2
    have h3 : (s == n_auto) = false := e3
    have h4 : (s == n_setbalance) = false := e4
    have h5 : (s == n_setnonce) = false := e5
    have h6 : (s == n_setcode) = false := e6
    have h7 : (s == n_setslot) = false := e7
    have h8 : (s == n_impersonate) = true := e8
    simp only [chgB, h0, h1, h2, h3, h4, h5, h6, h7, h8, Bool.or_true, Bool.true_or, Bool.false_or, Bool.or_false]
  · have h0 : (s == n_send) = false := e0
    have h1 : (s == n_mine) = false := e1
    have h2 : (s == n_warp) = false := e2
    have h3 : (s == n_auto) = false := e3
    have h4 : (s == n_setbalance) = false := e4
    have h5 : (s == n_setnonce) = false := e5
    have h6 : (s == n_setcode) = false := e6
    have h7 : (s == n_setslot) = false := e7
    have h8 : (s == n_impersonate) = false := e8
    have h9 : (s == n_stop) = true := e9
    simp only [chgB, h0, h1, h2, h3, h4, h5, h6, h7, h8, h9, Bool.or_true, Bool.true_or, Bool.false_or, Bool.or_false]
  · have h0 : (s == n_send) = false := e0
    have h1 : (s == n_mine) = false := e1
    have h2 : (s == n_warp) = false := e2
    have h3 : (s == n_auto) = false := e3
    have h4 : (s == n_setbalance) = false := e4
    have h5 : (s == n_setnonce) = false := e5
    have h6 : (s == n_setcode) = false := e6
    have h7 : (s == n_setslot) = false := e7
    have h8 : (s == n_impersonate) = false := e8
    have h9 : (s == n_stop) = false := e9
    have h10 : (s == n_snapshot) = true := e10
    simp only [chgB, h0, h1, h2, h3, h4, h5, h6, h7, h8, h9, h10, Bool.or_true, Bool.true_or, Bool.false_or, Bool.or_false]
  · have h0 : (s == n_send) = false := e0
    have h1 : (s == n_mine) = false := e1
    have h2 : (s == n_warp) = false := e2
    have h3 : (s == n_auto) = false := e3
    have h4 : (s == n_setbalance) = false := e4
    have h5 : (s == n_setnonce) = false := e5
    have h6 : (s == n_setcode) = false := e6
    have h7 : (s == n_setslot) = false := e7
    have h8 : (s == n_impersonate) = false := e8
    have h9 : (s == n_stop) = false := e9
    have h10 : (s == n_snapshot) = false := e10
    have h11 : (s == n_revert) = true := e11
    simp only [chgB, h0, h1, h2, h3, h4, h5, h6, h7, h8, h9, h10, h11, Bool.or_true, Bool.true_or, Bool.false_or, Bool.or_false]
  · have h0 : (s == n_send) = false := e0
    have h1 : (s == n_mine) = false := e1
    have h2 : (s == n_warp) = false := e2
    have h3 : (s == n_auto) = false := e3
    have h4 : (s == n_setbalance) = false := e4
    have h5 : (s == n_setnonce) = false := e5
    have h6 : (s == n_setcode) = false := e6
    have h7 : (s == n_setslot) = false := e7
    have h8 : (s == n_impersonate) = false := e8
    have h9 : (s == n_stop) = false := e9
    have h10 : (s == n_snapshot) = false := e10
    have h11 : (s == n_revert) = false := e11
    have h12 : (s == n_load) = true := e12
    simp only [chgB, h0, h1, h2, h3, h4, h5, h6, h7, h8, h9, h10, h11, h12, Bool.or_true, Bool.true_or, Bool.false_or, Bool.or_false]
  · have h0 : (s == n_send) = false := e0
    have h1 : (s == n_mine) = false := e1
    have h2 : (s == n_warp) = false := e2
    have h3 : (s == n_auto) = false := e3
    have h4 : (s == n_setbalance) = false := e4
    have h5 : (s == n_setnonce) = false := e5
    have h6 : (s == n_setcode) = false := e6
    have h7 : (s == n_setslot) = false := e7
    have h8 : (s == n_impersonate) = false := e8
    have h9 : (s == n_stop) = false := e9
    have h10 : (s == n_snapshot) = false := e10
    have h11 : (s == n_revert) = false := e11
    have h12 : (s == n_load) = false := e12
    simp only [chgB, h0, h1, h2, h3, h4, h5, h6, h7, h8, h9, h10, h11, h12, Bool.or_true, Bool.true_or, Bool.false_or, Bool.or_false]
end
end Go.Proofs.YtbgiickegljpoaaDoor.K
end
section
open Go Go.Lh
namespace Go.Proofs.YtbgiickegljpoaaDoor.K
noncomputable section
set_option maxRecDepth 100000
def KX2 : KnownT := (8, ctT ca_read ee_f) :: (9, ctT readS dd_f) :: (10, fi_g) :: (11, ctS fun s => .bool (chgB s)) :: []
theorem KX2_ok : KOkT Pr KX2 := KOkT.cons (Enters.of (fn := Go.Proofs.Tryd.f8) (by kernel_rfl) (by kernel_rfl)) ee_ok (KOkT.cons (Enters.of (fn := Go.Proofs.Tryd.f9) (by kernel_rfl) (by kernel_rfl)) dd_ok (KOkT.cons (Enters.of (fn := Go.Proofs.Tryd.f10) (by kernel_rfl) (by kernel_rfl)) fi_ok (KOkT.cons (Enters.of (fn := Go.Proofs.Tryd.f11) (by kernel_rfl) (by kernel_rfl)) (ctS_ok changes_fn) KOkT.nil)))
def OX2 : OrcT := autoT Pr ext KX2 [] 3
theorem OX2_sound : OrcSound Pr OX2.o := autoT_sound mixed ext_ok KX2_ok (by kernel_rfl) 3
def cm5 : CM := { CM0 n_mine with n := BitVec.ofInt 64 5 }
def cmx : CM := { CM0 n_mine with s := [120#8] }
theorem exa_x : Tr.prune (Tr.Sh.any.both Tr.Sh.any) (execBYE Pr OX2 noLoopsT 100 Go.Proofs.Tryd.f7 0 ⟨[1,2],[],[]⟩ ⟨[],[],[]⟩ (takeSeq 1 (bodyOf Go.Proofs.Tryd.f7)) [] []) =
 .chk (eeB cm5) (.br (eeO cm5) (.chk true (.leaf (.inr (.normal, [(1,.str (eeS cm5)),(2,.bool true)], [])))) (.chk true (.leaf (.inr (.normal, [(1,.str []),(2,.bool false)], []))))) := by kernel_rfl
theorem exb_x (s : List B) (ok : Bool) : Tr.prune (Tr.Sh.any.both Tr.Sh.any)
 (execBYE Pr OX2 noLoopsT (100 : Nat) Go.Proofs.Tryd.f7 (0 : Nat)
 (Tell.mk [(2 : Nat), (3 : Nat), (4 : Nat)] [(0 : Nat)] []) (Tell.mk [] [] [])
 (takeSeq (0 : Nat) (dropSeq (1 : Nat) (bodyOf Go.Proofs.Tryd.f7))) [((1 : Nat), V.str s), ((2 : Nat), V.bool ok)] []) =
 Tr.chk (ddB s)
 (Tr.br (ddO s)
 (Tr.chk true
 (Tr.leaf
 (Sum.inr
 (X.normal, [((2 : Nat), V.bool ok), ((3 : Nat), V.ptr (0 : Nat) (0 : Nat)), ((4 : Nat), V.bool true)],
 [Blk.vals
 [V.str (ddC s).nm, V.str (ddC s).ad, V.u64 (ddC s).n, V.u64 (ddC s).k.a, V.u64 (ddC s).k.b,
 V.u64 (ddC s).k.c, V.u64 (ddC s).k.d, V.u64 (ddC s).v.a, V.u64 (ddC s).v.b, V.u64 (ddC s).v.c,
 V.u64 (ddC s).v.d, V.str (ddC s).s, V.int IntKind.i64 (ddC s).tk, V.str (ddC s).tf, V.str (ddC s).tt,
 V.u64 (ddC s).tn, V.u64 (ddC s).tg, V.u64 (ddC s).tp.a, V.u64 (ddC s).tp.b, V.u64 (ddC s).tp.c,
 V.u64 (ddC s).tp.d, V.u64 (ddC s).ti.a, V.u64 (ddC s).ti.b, V.u64 (ddC s).ti.c, V.u64 (ddC s).ti.d,
 V.u64 (ddC s).tv.a, V.u64 (ddC s).tv.b, V.u64 (ddC s).tv.c, V.u64 (ddC s).tv.d, V.str (ddC s).td,
 V.nilSl]]))))
 (Tr.chk true
 (Tr.leaf
 (Sum.inr
 (X.normal, [((2 : Nat), V.bool ok), ((3 : Nat), V.ptr (0 : Nat) (0 : Nat)), ((4 : Nat), V.bool false)],
 [Blk.vals
 [V.str (CM0 noT).nm, V.str (CM0 noT).ad, V.u64 (CM0 noT).n, V.u64 (CM0 noT).k.a, V.u64 (CM0 noT).k.b,
 V.u64 (CM0 noT).k.c, V.u64 (CM0 noT).k.d, V.u64 (CM0 noT).v.a, V.u64 (CM0 noT).v.b,
 V.u64 (CM0 noT).v.c, V.u64 (CM0 noT).v.d, V.str (CM0 noT).s, V.int IntKind.i64 (0 : Int),
 V.str (CM0 noT).tf, V.str (CM0 noT).tt, V.u64 (CM0 noT).tn, V.u64 (CM0 noT).tg, V.u64 (CM0 noT).tp.a,
 V.u64 (CM0 noT).tp.b, V.u64 (CM0 noT).tp.c, V.u64 (CM0 noT).tp.d, V.u64 (CM0 noT).ti.a,
 V.u64 (CM0 noT).ti.b, V.u64 (CM0 noT).ti.c, V.u64 (CM0 noT).ti.d, V.u64 (CM0 noT).tv.a,
 V.u64 (CM0 noT).tv.b, V.u64 (CM0 noT).tv.c, V.u64 (CM0 noT).tv.d, V.str (CM0 noT).td,
 V.nilSl]]))))) := by kernel_rfl
theorem exc_x (ok is : Bool) (c : CM) : Tr.prune (Tr.Sh.any.both Tr.Sh.any) (execBYE Pr OX2 noLoopsT 100 Go.Proofs.Tryd.f7 0 ⟨[2,3,4,6],[0],[]⟩ ⟨[],[],[]⟩ (takeSeq 0 (dropSeq 2 (bodyOf Go.Proofs.Tryd.f7))) [(2,.bool ok),(3,.ptr 0 0),(4,.bool is)] [.vals (c.cs .nilSl)]) =
 .chk (eeB cmx) (.br (eeO cmx) (.chk true (.leaf (.inr (.normal, [(2,.bool ok),(3,.ptr 0 0),(4,.bool is),(6,.bool true)], [.vals (c.cs .nilSl)])))) (.chk true (.leaf (.inr (.normal, [(2,.bool ok),(3,.ptr 0 0),(4,.bool is),(6,.bool false)], [.vals (c.cs .nilSl)]))))) := by kernel_rfl
theorem exd_x (ok : Bool) (is : Bool) (no : Bool) (c : CM) : Tr.prune (((((Tr.Sh.any.l.l.l.l.l.both
 Tr.Sh.any.r.r.r.r.r).l.both
 Tr.Sh.any.r.r.r.r.r.r.r).l.l.both
 Tr.Sh.any.r.r.r.r.r.r.r.r.r.r).l.l.both
 Tr.Sh.any.r.r.r.r.r.r.r.r.r.r.r.r.r).both
 Tr.Sh.any.r.r.r.r.r.r.r.r.r.r.r.r.r.r)
 (execBR Pr OX2 noLoopsT (100 : Nat) Go.Proofs.Tryd.f7 (0 : Nat)
 (dropSeq (2 : Nat) (dropSeq (0 : Nat) (bodyOf Go.Proofs.Tryd.f7)))
 [((2 : Nat), V.bool ok), ((3 : Nat), V.ptr (0 : Nat) (0 : Nat)), ((4 : Nat), V.bool is), ((6 : Nat), V.bool no)]
 [Blk.vals (c.cs V.nilSl)]) =
 Tr.chk true
 (Tr.br ok
 (Tr.chk true
 (Tr.br is
 (Tr.chk true
 (Tr.br
 (c.nm ==
 bytesOf
 (ByteArray.mk
 #[OfNat.ofNat (109 : Nat), OfNat.ofNat (105 : Nat), OfNat.ofNat (110 : Nat),
 OfNat.ofNat (101 : Nat)]))
 (Tr.chk true
 (Tr.br (c.n == BitVec.ofInt (64 : Nat) (5 : Int))
 (Tr.chk true
 (Tr.br (!no) (Tr.chk true (Tr.leaf (Fin.ret (V.bool true), [])))
 (Tr.chk true (Tr.leaf (Fin.ret (V.bool false), [])))))
 (Tr.chk true (Tr.leaf (Fin.ret (V.bool false), [])))))
 (Tr.chk true (Tr.leaf (Fin.ret (V.bool false), [])))))
 (Tr.chk true (Tr.leaf (Fin.ret (V.bool false), [])))))
 (Tr.chk true (Tr.leaf (Fin.ret (V.bool false), [])))) := by kernel_rfl
end
end Go.Proofs.YtbgiickegljpoaaDoor.K
end
section
open Go Go.Lh
namespace Go.Proofs.YtbgiickegljpoaaDoor.K
noncomputable section
set_option maxRecDepth 100000
theorem isF_ne {f : List B} (h : isF f) : f ≠ f_t := by
  rcases h with rfl | rfl | rfl | rfl | rfl | rfl | rfl | rfl | rfl <;> decide
theorem len_n (c : CM) (hn : fkP f_n c.nm) (h : eok f_n c = true) : (enc (eIt f_n c)).length ≤ 65536 := by
  rw [eok_n] at h
  simp only [Bool.and_eq_true, beq_iff_eq, decide_eq_true_eq, and_true] at h
  have h1 := fk_len hn
  have h2 := numB_len8 c.n
  have h3 := W4.bytes_length c.k
  have h4 := W4.bytes_length c.v
  have h5 := lst_len (eTs f_n c)
  rw [eTs_n] at h5
  simp only [List.map_cons, List.map_nil, List.sum_cons, List.sum_nil] at h5
  show (enc (.lst ((eTs f_n c).map .txt))).length ≤ 65536
  rw [eTs_n]
  simp only [List.map_cons, List.map_nil]
  omega
theorem bk_n (c : CM) (hn : fkP f_n c.nm) (h : eok f_n c = true) : dcC (eeS c) = some (pick_n c) ∧ noTx (eeS c) ∧ decF (eeS c) = some (eIt f_n c) := by
  have e : eeS c = eS f_n c := by rw [eeS_eq, hn.1]
  have hd : decF (eS f_n c) = some (eIt f_n c) := by
    rw [eS_eq]
    exact decF_fwd _ (by unfold eIt; rw [It.dep]; have := deps_txt (eTs f_n c); omega) (len_n c hn h)
  rw [e]
  refine ⟨back_n c hn h (len_n c hn h), ?_, hd⟩
  intro l hl _ _
  rw [hd] at hl
  unfold eIt at hl
  cases hl
  show lookS fieldsL c.nm ≠ f_t
  rw [hn.1]
  exact isF_ne (.inl rfl)
theorem eo_n (c : CM) (hn : fkP f_n c.nm) : eeO c = eok f_n c := by rw [eeO_eq, hn.1]
theorem ep_n (c : CM) (hn : fkP f_n c.nm) (hc : okC c) : eeP c := ⟨by rw [hn.1]; exact .inl rfl, hn.2, hc⟩
theorem len_a (c : CM) (hn : fkP f_a c.nm) (h : eok f_a c = true) : (enc (eIt f_a c)).length ≤ 65536 := by
  rw [eok_a] at h
  simp only [Bool.and_eq_true, beq_iff_eq, decide_eq_true_eq, and_true] at h
  have h1 := fk_len hn
  have h2 := numB_len8 c.n
  have h3 := W4.bytes_length c.k
  have h4 := W4.bytes_length c.v
  have h5 := lst_len (eTs f_a c)
  rw [eTs_a] at h5
  simp only [List.map_cons, List.map_nil, List.sum_cons, List.sum_nil] at h5
  show (enc (.lst ((eTs f_a c).map .txt))).length ≤ 65536
  rw [eTs_a]
  simp only [List.map_cons, List.map_nil]
  omega
theorem bk_a (c : CM) (hn : fkP f_a c.nm) (h : eok f_a c = true) : dcC (eeS c) = some (pick_a c) ∧ noTx (eeS c) ∧ decF (eeS c) = some (eIt f_a c) := by
  have e : eeS c = eS f_a c := by rw [eeS_eq, hn.1]
  have hd : decF (eS f_a c) = some (eIt f_a c) := by
    rw [eS_eq]
    exact decF_fwd _ (by unfold eIt; rw [It.dep]; have := deps_txt (eTs f_a c); omega) (len_a c hn h)
  rw [e]
  refine ⟨back_a c hn h (len_a c hn h), ?_, hd⟩
  intro l hl _ _
  rw [hd] at hl
  unfold eIt at hl
  cases hl
  show lookS fieldsL c.nm ≠ f_t
  rw [hn.1]
  exact isF_ne (.inr (.inl rfl))
theorem eo_a (c : CM) (hn : fkP f_a c.nm) : eeO c = eok f_a c := by rw [eeO_eq, hn.1]
theorem ep_a (c : CM) (hn : fkP f_a c.nm) (hc : okC c) : eeP c := ⟨by rw [hn.1]; exact .inr (.inl rfl), hn.2, hc⟩
theorem len_ak (c : CM) (hn : fkP f_ak c.nm) (h : eok f_ak c = true) : (enc (eIt f_ak c)).length ≤ 65536 := by
  rw [eok_ak] at h
  simp only [Bool.and_eq_true, beq_iff_eq, decide_eq_true_eq, and_true] at h
  have h1 := fk_len hn
  have h2 := numB_len8 c.n
  have h3 := W4.bytes_length c.k
  have h4 := W4.bytes_length c.v
  have h5 := lst_len (eTs f_ak c)
  rw [eTs_ak] at h5
  simp only [List.map_cons, List.map_nil, List.sum_cons, List.sum_nil] at h5
  show (enc (.lst ((eTs f_ak c).map .txt))).length ≤ 65536
  rw [eTs_ak]
  simp only [List.map_cons, List.map_nil]
  omega
theorem bk_ak (c : CM) (hn : fkP f_ak c.nm) (h : eok f_ak c = true) : dcC (eeS c) = some (pick_ak c) ∧ noTx (eeS c) ∧ decF (eeS c) = some (eIt f_ak c) := by
  have e : eeS c = eS f_ak c := by rw [eeS_eq, hn.1]
  have hd : decF (eS f_ak c) = some (eIt f_ak c) := by
    rw [eS_eq]
    exact decF_fwd _ (by unfold eIt; rw [It.dep]; have := deps_txt (eTs f_ak c); omega) (len_ak c hn h)
  rw [e]
  refine ⟨back_ak c hn h (len_ak c hn h), ?_, hd⟩
  intro l hl _ _
  rw [hd] at hl
  unfold eIt at hl
  cases hl
  show lookS fieldsL c.nm ≠ f_t
  rw [hn.1]
  exact isF_ne (.inr (.inr (.inl rfl)))
theorem eo_ak (c : CM) (hn : fkP f_ak c.nm) : eeO c = eok f_ak c := by rw [eeO_eq, hn.1]
theorem ep_ak (c : CM) (hn : fkP f_ak c.nm) (hc : okC c) : eeP c := ⟨by rw [hn.1]; exact .inr (.inr (.inl rfl)), hn.2, hc⟩
theorem len_av (c : CM) (hn : fkP f_av c.nm) (h : eok f_av c = true) : (enc (eIt f_av c)).length ≤ 65536 := by
  rw [eok_av] at h
  simp only [Bool.and_eq_true, beq_iff_eq, decide_eq_true_eq, and_true] at h
  have h1 := fk_len hn
  have h2 := numB_len8 c.n
  have h3 := W4.bytes_length c.k
  have h4 := W4.bytes_length c.v
  have h5 := lst_len (eTs f_av c)
  rw [eTs_av] at h5
  simp only [List.map_cons, List.map_nil, List.sum_cons, List.sum_nil] at h5
  show (enc (.lst ((eTs f_av c).map .txt))).length ≤ 65536
  rw [eTs_av]
  simp only [List.map_cons, List.map_nil]
  omega
theorem bk_av (c : CM) (hn : fkP f_av c.nm) (h : eok f_av c = true) : dcC (eeS c) = some (pick_av c) ∧ noTx (eeS c) ∧ decF (eeS c) = some (eIt f_av c) := by
  have e : eeS c = eS f_av c := by rw [eeS_eq, hn.1]
  have hd : decF (eS f_av c) = some (eIt f_av c) := by
    rw [eS_eq]
    exact decF_fwd _ (by unfold eIt; rw [It.dep]; have := deps_txt (eTs f_av c); omega) (len_av c hn h)
  rw [e]
  refine ⟨back_av c hn h (len_av c hn h), ?_, hd⟩
  intro l hl _ _
  rw [hd] at hl
  unfold eIt at hl
  cases hl
  show lookS fieldsL c.nm ≠ f_t
  rw [hn.1]
  exact isF_ne (.inr (.inr (.inr (.inl rfl))))
theorem eo_av (c : CM) (hn : fkP f_av c.nm) : eeO c = eok f_av c := by rw [eeO_eq, hn.1]
theorem ep_av (c : CM) (hn : fkP f_av c.nm) (hc : okC c) : eeP c := ⟨by rw [hn.1]; exact .inr (.inr (.inr (.inl rfl))), hn.2, hc⟩
theorem len_an (c : CM) (hn : fkP f_an c.nm) (h : eok f_an c = true) : (enc (eIt f_an c)).length ≤ 65536 := by
  rw [eok_an] at h
  simp only [Bool.and_eq_true, beq_iff_eq, decide_eq_true_eq, and_true] at h
  have h1 := fk_len hn
  have h2 := numB_len8 c.n
  have h3 := W4.bytes_length c.k
  have h4 := W4.bytes_length c.v
  have h5 := lst_len (eTs f_an c)
  rw [eTs_an] at h5
  simp only [List.map_cons, List.map_nil, List.sum_cons, List.sum_nil] at h5
  show (enc (.lst ((eTs f_an c).map .txt))).length ≤ 65536
  rw [eTs_an]
  simp only [List.map_cons, List.map_nil]
  omega
theorem bk_an (c : CM) (hn : fkP f_an c.nm) (h : eok f_an c = true) : dcC (eeS c) = some (pick_an c) ∧ noTx (eeS c) ∧ decF (eeS c) = some (eIt f_an c) := by
  have e : eeS c = eS f_an c := by rw [eeS_eq, hn.1]
  have hd : decF (eS f_an c) = some (eIt f_an c) := by
    rw [eS_eq]
    exact decF_fwd _ (by unfold eIt; rw [It.dep]; have := deps_txt (eTs f_an c); omega) (len_an c hn h)
  rw [e]
  refine ⟨back_an c hn h (len_an c hn h), ?_, hd⟩
  intro l hl _ _
  rw [hd] at hl
  unfold eIt at hl
  cases hl
  show lookS fieldsL c.nm ≠ f_t
  rw [hn.1]
  exact isF_ne (.inr (.inr (.inr (.inr (.inl rfl)))))
theorem eo_an (c : CM) (hn : fkP f_an c.nm) : eeO c = eok f_an c := by rw [eeO_eq, hn.1]
theorem ep_an (c : CM) (hn : fkP f_an c.nm) (hc : okC c) : eeP c := ⟨by rw [hn.1]; exact .inr (.inr (.inr (.inr (.inl rfl)))), hn.2, hc⟩
theorem len_as (c : CM) (hn : fkP f_as c.nm) (h : eok f_as c = true) : (enc (eIt f_as c)).length ≤ 65536 := by
  rw [eok_as] at h
  simp only [Bool.and_eq_true, beq_iff_eq, decide_eq_true_eq, and_true] at h
  have h1 := fk_len hn
  have h2 := numB_len8 c.n
  have h3 := W4.bytes_length c.k
  have h4 := W4.bytes_length c.v
  have h5 := lst_len (eTs f_as c)
  rw [eTs_as] at h5
  simp only [List.map_cons, List.map_nil, List.sum_cons, List.sum_nil] at h5
  show (enc (.lst ((eTs f_as c).map .txt))).length ≤ 65536
  rw [eTs_as]
  simp only [List.map_cons, List.map_nil]
  omega
theorem bk_as (c : CM) (hn : fkP f_as c.nm) (h : eok f_as c = true) : dcC (eeS c) = some (pick_as c) ∧ noTx (eeS c) ∧ decF (eeS c) = some (eIt f_as c) := by
  have e : eeS c = eS f_as c := by rw [eeS_eq, hn.1]
  have hd : decF (eS f_as c) = some (eIt f_as c) := by
    rw [eS_eq]
    exact decF_fwd _ (by unfold eIt; rw [It.dep]; have := deps_txt (eTs f_as c); omega) (len_as c hn h)
  rw [e]
  refine ⟨back_as c hn h (len_as c hn h), ?_, hd⟩
  intro l hl _ _
  rw [hd] at hl
  unfold eIt at hl
  cases hl
  show lookS fieldsL c.nm ≠ f_t
  rw [hn.1]
  exact isF_ne (.inr (.inr (.inr (.inr (.inr (.inl rfl))))))
theorem eo_as (c : CM) (hn : fkP f_as c.nm) : eeO c = eok f_as c := by rw [eeO_eq, hn.1]
theorem ep_as (c : CM) (hn : fkP f_as c.nm) (hc : okC c) : eeP c := ⟨by rw [hn.1]; exact .inr (.inr (.inr (.inr (.inr (.inl rfl))))), hn.2, hc⟩
theorem len_akv (c : CM) (hn : fkP f_akv c.nm) (h : eok f_akv c = true) : (enc (eIt f_akv c)).length ≤ 65536 := by
  rw [eok_akv] at h
  simp only [Bool.and_eq_true, beq_iff_eq, decide_eq_true_eq, and_true] at h
  have h1 := fk_len hn
  have h2 := numB_len8 c.n
  have h3 := W4.bytes_length c.k
  have h4 := W4.bytes_length c.v
  have h5 := lst_len (eTs f_akv c)
  rw [eTs_akv] at h5
  simp only [List.map_cons, List.map_nil, List.sum_cons, List.sum_nil] at h5
  show (enc (.lst ((eTs f_akv c).map .txt))).length ≤ 65536
  rw [eTs_akv]
  simp only [List.map_cons, List.map_nil]
  omega
theorem bk_akv (c : CM) (hn : fkP f_akv c.nm) (h : eok f_akv c = true) : dcC (eeS c) = some (pick_akv c) ∧ noTx (eeS c) ∧ decF (eeS c) = some (eIt f_akv c) := by
  have e : eeS c = eS f_akv c := by rw [eeS_eq, hn.1]
  have hd : decF (eS f_akv c) = some (eIt f_akv c) := by
    rw [eS_eq]
    exact decF_fwd _ (by unfold eIt; rw [It.dep]; have := deps_txt (eTs f_akv c); omega) (len_akv c hn h)
  rw [e]
  refine ⟨back_akv c hn h (len_akv c hn h), ?_, hd⟩
  intro l hl _ _
  rw [hd] at hl
  unfold eIt at hl
  cases hl
  show lookS fieldsL c.nm ≠ f_t
  rw [hn.1]
  exact isF_ne (.inr (.inr (.inr (.inr (.inr (.inr (.inl rfl)))))))
theorem eo_akv (c : CM) (hn : fkP f_akv c.nm) : eeO c = eok f_akv c := by rw [eeO_eq, hn.1]
theorem ep_akv (c : CM) (hn : fkP f_akv c.nm) (hc : okC c) : eeP c := ⟨by rw [hn.1]; exact .inr (.inr (.inr (.inr (.inr (.inr (.inl rfl)))))), hn.2, hc⟩
theorem len_e (c : CM) (hn : fkP f_e c.nm) (h : eok f_e c = true) : (enc (eIt f_e c)).length ≤ 65536 := by
  rw [eok_e] at h
  simp only [Bool.and_eq_true, beq_iff_eq, decide_eq_true_eq, and_true] at h
  have h1 := fk_len hn
  have h2 := numB_len8 c.n
  have h3 := W4.bytes_length c.k
  have h4 := W4.bytes_length c.v
  have h5 := lst_len (eTs f_e c)
  rw [eTs_e] at h5
  simp only [List.map_cons, List.map_nil, List.sum_cons, List.sum_nil] at h5
  show (enc (.lst ((eTs f_e c).map .txt))).length ≤ 65536
  rw [eTs_e]
  simp only [List.map_cons, List.map_nil]
  omega
theorem bk_e (c : CM) (hn : fkP f_e c.nm) (h : eok f_e c = true) : dcC (eeS c) = some (pick_e c) ∧ noTx (eeS c) ∧ decF (eeS c) = some (eIt f_e c) := by
  have e : eeS c = eS f_e c := by rw [eeS_eq, hn.1]
  have hd : decF (eS f_e c) = some (eIt f_e c) := by
    rw [eS_eq]
    exact decF_fwd _ (by unfold eIt; rw [It.dep]; have := deps_txt (eTs f_e c); omega) (len_e c hn h)
  rw [e]
  refine ⟨back_e c hn h (len_e c hn h), ?_, hd⟩
  intro l hl _ _
  rw [hd] at hl
  unfold eIt at hl
  cases hl
  show lookS fieldsL c.nm ≠ f_t
  rw [hn.1]
  exact isF_ne (.inr (.inr (.inr (.inr (.inr (.inr (.inr (.inl rfl))))))))
theorem eo_e (c : CM) (hn : fkP f_e c.nm) : eeO c = eok f_e c := by rw [eeO_eq, hn.1]
theorem ep_e (c : CM) (hn : fkP f_e c.nm) (hc : okC c) : eeP c := ⟨by rw [hn.1]; exact .inr (.inr (.inr (.inr (.inr (.inr (.inr (.inl rfl))))))), hn.2, hc⟩
theorem len_s (c : CM) (hn : fkP f_s c.nm) (h : eok f_s c = true) : (enc (eIt f_s c)).length ≤ 65536 := by
  rw [eok_s] at h
  simp only [Bool.and_eq_true, beq_iff_eq, decide_eq_true_eq, and_true] at h
  have h1 := fk_len hn
  have h2 := numB_len8 c.n
  have h3 := W4.bytes_length c.k
  have h4 := W4.bytes_length c.v
  have h5 := lst_len (eTs f_s c)
  rw [eTs_s] at h5
  simp only [List.map_cons, List.map_nil, List.sum_cons, List.sum_nil] at h5
  show (enc (.lst ((eTs f_s c).map .txt))).length ≤ 65536
  rw [eTs_s]
  simp only [List.map_cons, List.map_nil]
  omega
theorem bk_s (c : CM) (hn : fkP f_s c.nm) (h : eok f_s c = true) : dcC (eeS c) = some (pick_s c) ∧ noTx (eeS c) ∧ decF (eeS c) = some (eIt f_s c) := by
  have e : eeS c = eS f_s c := by rw [eeS_eq, hn.1]
  have hd : decF (eS f_s c) = some (eIt f_s c) := by
    rw [eS_eq]
    exact decF_fwd _ (by unfold eIt; rw [It.dep]; have := deps_txt (eTs f_s c); omega) (len_s c hn h)
  rw [e]
  refine ⟨back_s c hn h (len_s c hn h), ?_, hd⟩
  intro l hl _ _
  rw [hd] at hl
  unfold eIt at hl
  cases hl
  show lookS fieldsL c.nm ≠ f_t
  rw [hn.1]
  exact isF_ne (.inr (.inr (.inr (.inr (.inr (.inr (.inr (.inr (rfl)))))))))
theorem eo_s (c : CM) (hn : fkP f_s c.nm) : eeO c = eok f_s c := by rw [eeO_eq, hn.1]
theorem ep_s (c : CM) (hn : fkP f_s c.nm) (hc : okC c) : eeP c := ⟨by rw [hn.1]; exact .inr (.inr (.inr (.inr (.inr (.inr (.inr (.inr (rfl)))))))), hn.2, hc⟩
theorem fk_mine : fkP f_n n_mine := ⟨by decide, by decide⟩
theorem ex_fn : LFn Pr 7 [] [] (.ret (.bool true)) [] := by
  have k1 : eok f_n cm5 = true := by kernel_rfl
  have k2 : eok f_n cmx = false := by kernel_rfl
  have p1 : eeB cm5 = true := eeB_t (ep_n cm5 fk_mine (by show 0 + 0 + 0 ≤ _; decide))
  have p2 : eeB cmx = true := eeB_t (ep_n cmx fk_mine (by show 0 + 0 + 0 ≤ _; decide))
  have o1 : eeO cm5 = true := by rw [eo_n cm5 fk_mine, k1]
  have o2 : eeO cmx = false := by rw [eo_n cmx fk_mine, k2]
  obtain ⟨d1, d2, _⟩ := bk_n cm5 fk_mine k1
  have d3 : dcC (eeS cm5) = some cm5 := d1
  refine EndsIn.done (fn := Go.Proofs.Tryd.f7) (by kernel_rfl) (by kernel_rfl) (by kernel_rfl) ?_
  refine EndsIn.cutY (L := noLoopsT) 1 OX2_sound mixed (by kernel_rfl) noLoops_all (by kernel_rfl) exa_x ?_
  refine wp_chk.2 ⟨p1, wp_br.2 ⟨fun _ => wp_chk_true.2 (wp_leaf.2 ⟨clo_nil, .inl ⟨_, _, rfl, ?_⟩⟩), fun e => by rw [o1] at e; cases e⟩⟩
  refine EndsIn.cutY (L := noLoopsT) 0 OX2_sound mixed (by kernel_rfl) noLoops_all (by kernel_rfl) (exb_x (eeS cm5) true) ?_
  refine wp_chk.2 ⟨ddB_t d2, wp_br.2 ⟨fun _ => wp_chk_true.2 (wp_leaf.2 ⟨clo_nil, .inl ⟨_, _, rfl, ?_⟩⟩), fun e => by rw [ddO_t d3] at e; cases e⟩⟩
  rw [ddC_eq d3]
  refine EndsIn.cutY (L := noLoopsT) 0 OX2_sound mixed (by kernel_rfl) noLoops_all (by kernel_rfl) (exc_x true true cm5) ?_
  refine wp_chk.2 ⟨p2, wp_br.2 ⟨fun e => (by rw [o2] at e; cases e), fun _ => wp_chk_true.2 (wp_leaf.2 ⟨clo_nil, .inl ⟨_, _, rfl, ?_⟩⟩)⟩⟩
  refine EndsIn.last (L := noLoopsT) OX2_sound mixed noLoops_all (by kernel_rfl) (exd_x true true false cm5) ?_
  refine wp_chk_true.2 (wp_br.2 ⟨fun _ => wp_chk_true.2 (wp_br.2 ⟨fun _ => wp_chk_true.2 (wp_br.2 ⟨fun _ => wp_chk_true.2 (wp_br.2 ⟨fun _ => wp_chk_true.2 (wp_br.2 ⟨fun _ => wp_chk_true.2 (wp_leaf.2 rfl), fun e => by cases e⟩), fun e => absurd e (by decide)⟩), fun e => absurd e (by decide)⟩), fun e => by cases e⟩), fun e => by cases e⟩)
def ex_g : List V → Heap → Tr (Fin × Heap) := fun args h => match args, h with
  | [], [] => .leaf (.ret (.bool true), [])
  | _, _ => .no
theorem ex_ok2 : ∀ args h r, (ex_g args h).is r → LFn Pr 7 args h r.1 r.2 := by
  intro args h r e
  unfold ex_g at e
  split at e
  · rw [Tr.is_leaf] at e; subst e; exact ex_fn
  · exact (Tr.is_no.1 e).elim
def KL2 : KnownT := (7, ex_g) :: KX2
theorem KL2_ok : KOkT Pr KL2 := KOkT.cons (Enters.of (fn := Go.Proofs.Tryd.f7) (by kernel_rfl) (by kernel_rfl)) ex_ok2 KX2_ok
def OL2 : OrcT := autoT Pr ext KL2 [] 3
theorem OL2_sound : OrcSound Pr OL2.o := autoT_sound mixed ext_ok KL2_ok (by kernel_rfl) 3
end
end Go.Proofs.YtbgiickegljpoaaDoor.K
end
