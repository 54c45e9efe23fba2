/- The functions that this law reaches: what each comes to. -/
import Derived.Test.YtajbaocfdlopbaaCFReckons1
set_option linter.unusedSimpArgs false
set_option linter.unusedVariables false
section
open Go Go.Lh
namespace Go.Proofs.Ytajbaocfdlopbaa.K
noncomputable section
set_option maxRecDepth 100000
structure MT where
  k : Int
  s1 : List (BitVec 8)
  s2 : List (BitVec 8)
  n : BitVec 64
  g : BitVec 64
  p : W4
  t : W4
  v : W4
  d : List (BitVec 8)
def MT.a (x : MT) : V := .agg [.int .i64 x.k, .str x.s1, .str x.s2, .u64 x.n, .u64 x.g, .u64 x.p.a, .u64 x.p.b, .u64 x.p.c, .u64 x.p.d, .u64 x.t.a, .u64 x.t.b, .u64 x.t.c, .u64 x.t.d, .u64 x.v.a, .u64 x.v.b, .u64 x.v.c, .u64 x.v.d, .str x.d, .nilSl]
def mostOk (g : BitVec 64) (p v : W4) : Bool := timesOk p (W4.small g) && plusOk (p.mul (W4.small g)) v
def mostV (g : BitVec 64) (p v : W4) : W4 := (p.mul (W4.small g)).add v
def most_f (x : MT) : Tr (Fin × Heap) := .br (mostOk x.g x.p x.v) (.leaf (.ret (.tup [(mostV x.g x.p x.v).v, .bool true]), [])) (.leaf (.ret (.tup [W4.zero.v, .bool false]), []))
def readMT : List V → Heap → Option MT := fun args h => match args, h with
  | [.agg [.int .i64 k, .str s1, .str s2, .u64 n, .u64 g, .u64 pa, .u64 pb, .u64 pc, .u64 pd, .u64 ta, .u64 tb, .u64 tc, .u64 td, .u64 va, .u64 vb, .u64 vc, .u64 vd, .str d, .nilSl]], [] => some ⟨k, s1, s2, n, g, ⟨pa, pb, pc, pd⟩, ⟨ta, tb, tc, td⟩, ⟨va, vb, vc, vd⟩, d⟩
  | _, _ => none
theorem most_ok : ∀ args h r, (ctT readMT most_f args h).is r → LFn Pr 53 args h r.1 r.2 := by
  refine ctT_ok (fun x => [x.a]) (fun _ => []) ?_ (fun x r h => ?_)
  · intro args h a e
    unfold readMT at e
    split at e <;> cases e
    exact ⟨rfl, rfl⟩
  · obtain ⟨k, s1, s2, n, g, p, t, v, d⟩ := x
    refine fnDT OG1_sound mixed (by kernel_rfl) (fmost_x k s1 s2 d n g p t v) (E := most_f ⟨k, s1, s2, n, g, p, t, v, d⟩) ?_ r h
    intro q h
    simp only [most_f, mostOk, mostV, Tr.is_br, Tr.is_leaf] at h
    refine wp_chk_true.2 (wp_br.2 ⟨fun h1 => wp_chk_true.2 (wp_br.2 ⟨fun h2 => wp_chk_true.2 ?_, fun h2 => wp_chk_true.2 ?_⟩), fun h1 => wp_chk_true.2 ?_⟩)
    · rw [h1, h2, Bool.true_and, if_pos rfl] at h; exact h
    · rw [h1, h2, Bool.true_and, if_neg (by decide)] at h; exact h
    · rw [h1, Bool.false_and, if_neg (by decide)] at h; exact h
def feex_g : List V → Heap → Tr (Fin × Heap) := fun args h => match args, h with
  | [], [] => .leaf (.ret (.bool true), [])
  | _, _ => .no
theorem feex_ok : ∀ args h r, (feex_g args h).is r → LFn Pr 35 args h r.1 r.2 := by
  intro args h r e
  unfold feex_g at e
  split at e
  · rw [Tr.is_leaf] at e; subst e; exact E.feeEx_fn
  · exact (Tr.is_no.1 e).elim
def KG2 : KnownT := (35, feex_g) :: (53, ctT readMT most_f) :: KW2
theorem KG2_ok : KOkT Pr KG2 := KOkT.cons (Enters.of (fn := Go.Proofs.Try.f35) (by kernel_rfl) (by kernel_rfl)) feex_ok (KOkT.cons (Enters.of (fn := Go.Proofs.Try.f53) (by kernel_rfl) (by kernel_rfl)) most_ok KW2_ok)
def OG2 : OrcT := autoT Pr ext KG2 [] 5
theorem OG2_sound : OrcSound Pr OG2.o := autoT_sound mixed ext_ok KG2_ok (by kernel_rfl) 5
theorem fml_x (gas : BitVec 64) (price : BitVec 64) (up : BitVec 8) (value : BitVec 64) : Tr.prune ((Tr.Sh.any.both
    (((Tr.Sh.any.l.r.r.r.l.l.both Tr.Sh.any.r.r.r).l.l.l.l.l.l.both Tr.Sh.any.r.r.r.r.l.l.l.r.r.r).both
      ((Tr.Sh.any.l.l.l.l.l.l.both Tr.Sh.any.r.r.r).l.l.l.l.l.l.both Tr.Sh.any.l.l.l.l.l.l.l.l.l.l.r.r.r))).r)
  (execBF Pr OG2 noLoopsT (200 : Nat) Go.Proofs.Try.f18 [V.u64 gas, V.u64 price, V.u8 up, V.u64 value] []) =
  Tr.chk true
  (Tr.br
    (!((shrW (W4.small (BitVec.setWidth (64 : Nat) up))
              (shlW (W4.small (BitVec.setWidth (64 : Nat) up)) (W4.small price))).a ==
          (W4.small price).a &&
        ((shrW (W4.small (BitVec.setWidth (64 : Nat) up))
                (shlW (W4.small (BitVec.setWidth (64 : Nat) up)) (W4.small price))).b ==
            (W4.small price).b &&
          ((shrW (W4.small (BitVec.setWidth (64 : Nat) up))
                  (shlW (W4.small (BitVec.setWidth (64 : Nat) up)) (W4.small price))).c ==
              (W4.small price).c &&
            ((shrW (W4.small (BitVec.setWidth (64 : Nat) up))
                    (shlW (W4.small (BitVec.setWidth (64 : Nat) up)) (W4.small price))).d ==
                (W4.small price).d &&
              true)))))
    (Tr.chk true (Tr.leaf (Fin.ret (V.bool true), [])))
    (Tr.chk true
      (Tr.br (mostOk gas (shlW (W4.small (BitVec.setWidth (64 : Nat) up)) (W4.small price)) (W4.small value))
        (Tr.chk true
          (Tr.br
            ((shrW (W4.small (BitVec.setWidth (64 : Nat) up))
                    (shlW (W4.small (BitVec.setWidth (64 : Nat) up)) ((W4.small gas).mul (W4.small price)))).a ==
                ((W4.small gas).mul (W4.small price)).a &&
              ((shrW (W4.small (BitVec.setWidth (64 : Nat) up))
                      (shlW (W4.small (BitVec.setWidth (64 : Nat) up)) ((W4.small gas).mul (W4.small price)))).b ==
                  ((W4.small gas).mul (W4.small price)).b &&
                ((shrW (W4.small (BitVec.setWidth (64 : Nat) up))
                        (shlW (W4.small (BitVec.setWidth (64 : Nat) up)) ((W4.small gas).mul (W4.small price)))).c ==
                    ((W4.small gas).mul (W4.small price)).c &&
                  ((shrW (W4.small (BitVec.setWidth (64 : Nat) up))
                          (shlW (W4.small (BitVec.setWidth (64 : Nat) up)) ((W4.small gas).mul (W4.small price)))).d ==
                      ((W4.small gas).mul (W4.small price)).d &&
                    true))))
            (Tr.chk true
              (Tr.br
                (true ==
                  !((shlW (W4.small (BitVec.setWidth (64 : Nat) up)) ((W4.small gas).mul (W4.small price))).add
                          (W4.small value)).lt
                      (shlW (W4.small (BitVec.setWidth (64 : Nat) up)) ((W4.small gas).mul (W4.small price))))
                (Tr.chk true
                  (Tr.leaf
                    (Fin.ret
                        (V.bool
                          ((mostV gas (shlW (W4.small (BitVec.setWidth (64 : Nat) up)) (W4.small price))
                                  (W4.small value)).a ==
                              ((shlW (W4.small (BitVec.setWidth (64 : Nat) up))
                                      ((W4.small gas).mul (W4.small price))).add
                                  (W4.small value)).a &&
                            ((mostV gas (shlW (W4.small (BitVec.setWidth (64 : Nat) up)) (W4.small price))
                                    (W4.small value)).b ==
                                ((shlW (W4.small (BitVec.setWidth (64 : Nat) up))
                                        ((W4.small gas).mul (W4.small price))).add
                                    (W4.small value)).b &&
                              ((mostV gas (shlW (W4.small (BitVec.setWidth (64 : Nat) up)) (W4.small price))
                                      (W4.small value)).c ==
                                  ((shlW (W4.small (BitVec.setWidth (64 : Nat) up))
                                          ((W4.small gas).mul (W4.small price))).add
                                      (W4.small value)).c &&
                                ((mostV gas (shlW (W4.small (BitVec.setWidth (64 : Nat) up)) (W4.small price))
                                        (W4.small value)).d ==
                                    ((shlW (W4.small (BitVec.setWidth (64 : Nat) up))
                                            ((W4.small gas).mul (W4.small price))).add
                                        (W4.small value)).d &&
                                  true))))),
                      [])))
                (Tr.chk true (Tr.leaf (Fin.ret (V.bool false), [])))))
            (Tr.chk true (Tr.leaf (Fin.ret (V.bool false), [])))))
        (Tr.chk true
          (Tr.br
            ((shrW (W4.small (BitVec.setWidth (64 : Nat) up))
                    (shlW (W4.small (BitVec.setWidth (64 : Nat) up)) ((W4.small gas).mul (W4.small price)))).a ==
                ((W4.small gas).mul (W4.small price)).a &&
              ((shrW (W4.small (BitVec.setWidth (64 : Nat) up))
                      (shlW (W4.small (BitVec.setWidth (64 : Nat) up)) ((W4.small gas).mul (W4.small price)))).b ==
                  ((W4.small gas).mul (W4.small price)).b &&
                ((shrW (W4.small (BitVec.setWidth (64 : Nat) up))
                        (shlW (W4.small (BitVec.setWidth (64 : Nat) up)) ((W4.small gas).mul (W4.small price)))).c ==
                    ((W4.small gas).mul (W4.small price)).c &&
                  ((shrW (W4.small (BitVec.setWidth (64 : Nat) up))
                          (shlW (W4.small (BitVec.setWidth (64 : Nat) up)) ((W4.small gas).mul (W4.small price)))).d ==
                      ((W4.small gas).mul (W4.small price)).d &&
                    true))))
            (Tr.chk true
              (Tr.br
                (false ==
                  !((shlW (W4.small (BitVec.setWidth (64 : Nat) up)) ((W4.small gas).mul (W4.small price))).add
                          (W4.small value)).lt
                      (shlW (W4.small (BitVec.setWidth (64 : Nat) up)) ((W4.small gas).mul (W4.small price))))
                (Tr.chk true (Tr.leaf (Fin.ret (V.bool true), [])))
                (Tr.chk true (Tr.leaf (Fin.ret (V.bool false), [])))))
            (Tr.chk true (Tr.leaf (Fin.ret (V.bool true), [])))))))) := by kernel_rfl
end
end Go.Proofs.Ytajbaocfdlopbaa.K
end
section
open Go Go.Lh
namespace Go.Proofs.Ytajbaocfdlopbaa.K
noncomputable section
set_option maxRecDepth 100000
theorem eqW_iff {x y : W4} : eqW x y = true ↔ x = y := by
  obtain ⟨a, b, c, d⟩ := x
  obtain ⟨e, f, g, h⟩ := y
  simp [eqW]
theorem z0W_iff {y : W4} : z0W y = true ↔ y.n = 0 := by
  have h : z0W y = true ↔ y = W4.zero := by
    obtain ⟨a, b, c, d⟩ := y
    simp [z0W, W4.zero]
  rw [h]
  constructor
  · rintro rfl; rfl
  · intro e; exact W4.ext_n (by rw [e]; rfl)
theorem div_room {A c N : Nat} (hN : 0 < N) (h : (A * c % N) / c = A) : A * c < N := by
  have h1 : (A * c % N) / c * c ≤ A * c % N := Nat.div_mul_le_self _ _
  rw [h] at h1
  exact Nat.lt_of_le_of_lt h1 (Nat.mod_lt _ hN)
theorem timesOk_iff {x y : W4} : timesOk x y = true ↔ x.n * y.n < 2 ^ 256 := by
  unfold timesOk
  rw [Bool.or_eq_true, z0W_iff, eqW_iff, ← W4.inj_n, divQ_n, W4.mul_n]
  by_cases h0 : y.n = 0
  · rw [h0]; simp
  · constructor
    · rintro (h | h)
      · exact (h0 h).elim
      · exact div_room (by decide) h
    · intro h
      right
      rw [Nat.mod_eq_of_lt h, Nat.mul_div_cancel _ (by omega)]
def upW (up : BitVec 8) : W4 := W4.small (BitVec.setWidth 64 up)
theorem upW_n (up : BitVec 8) : (upW up).n = up.toNat := by
  unfold upW
  rw [W4.small_n, BitVec.toNat_setWidth]
  have := up.isLt
  omega
theorem shlW_up (up : BitVec 8) (x : W4) : shlW (upW up) x = W4.shl x up.toNat := by
  have := up.isLt
  unfold shlW
  rw [upW_n, if_pos (by omega)]
theorem shrW_up (up : BitVec 8) (x : W4) : shrW (upW up) x = W4.shr x up.toNat := by
  have := up.isLt
  unfold shrW
  rw [upW_n, if_pos (by omega)]
theorem shiftOk_iff {up : BitVec 8} {x : W4} : eqW (shrW (upW up) (shlW (upW up) x)) x = true ↔ x.n * 2 ^ up.toNat < 2 ^ 256 := by
  rw [eqW_iff, shlW_up, shrW_up, ← W4.inj_n, W4.shr_n, W4.shl_n]
  constructor
  · intro h; exact div_room (by decide) h
  · intro h
    rw [Nat.mod_eq_of_lt h, Nat.mul_div_cancel _ (Nat.two_pow_pos _)]
theorem small_lt (x : BitVec 64) : (W4.small x).n < 2 ^ 64 := by rw [W4.small_n]; exact x.isLt
theorem prod_n (gas price : BitVec 64) : ((W4.small gas).mul (W4.small price)).n = (W4.small gas).n * (W4.small price).n := by
  apply W4.mul_n'
  have h1 := small_lt gas
  have h2 := small_lt price
  calc (W4.small gas).n * (W4.small price).n ≤ 2 ^ 64 * 2 ^ 64 := Nat.mul_le_mul (Nat.le_of_lt h1) (Nat.le_of_lt h2)
    _ < 2 ^ 256 := by decide
/-- there is room for the price times the gas, just if there is for all of it moved -/
theorem room_iff {gas price : BitVec 64} {up : BitVec 8} (hf : (W4.small price).n * 2 ^ up.toNat < 2 ^ 256) :
    timesOk (shlW (upW up) (W4.small price)) (W4.small gas) = eqW (shrW (upW up) (shlW (upW up) ((W4.small gas).mul (W4.small price)))) ((W4.small gas).mul (W4.small price)) := by
  rw [Bool.eq_iff_iff, timesOk_iff, shiftOk_iff, shlW_up, W4.shl_n, Nat.mod_eq_of_lt hf, prod_n]
  rw [show (W4.small price).n * 2 ^ up.toNat * (W4.small gas).n = (W4.small gas).n * (W4.small price).n * 2 ^ up.toNat by
    rw [Nat.mul_comm (W4.small gas).n, Nat.mul_assoc, Nat.mul_assoc, Nat.mul_comm (2 ^ up.toNat)]]
theorem whole_eq {gas price : BitVec 64} {up : BitVec 8} (hf : (W4.small price).n * 2 ^ up.toNat < 2 ^ 256) :
    (shlW (upW up) (W4.small price)).mul (W4.small gas) = shlW (upW up) ((W4.small gas).mul (W4.small price)) := by
  apply W4.ext_n
  rw [W4.mul_n, shlW_up, shlW_up, W4.shl_n, W4.shl_n, Nat.mod_eq_of_lt hf, prod_n]
  rw [show (W4.small price).n * 2 ^ up.toNat * (W4.small gas).n = (W4.small gas).n * (W4.small price).n * 2 ^ up.toNat by
    rw [Nat.mul_comm (W4.small gas).n, Nat.mul_assoc, Nat.mul_assoc, Nat.mul_comm (2 ^ up.toNat)]]
theorem feeMost_fn (gas price : BitVec 64) (up : BitVec 8) (value : BitVec 64) : LFn Pr 18 [.u64 gas, .u64 price, .u8 up, .u64 value] [] (.ret (.bool true)) [] := by
  refine fnT OG2_sound mixed (by kernel_rfl) LoopsOk.noneT (fml_x gas price up value) ?_
  refine wp_chk_true.2 (wp_br.2 ⟨fun h1 => wp_chk_true.2 rfl, fun h1 => ?_⟩)
  have h1 : (!eqW (shrW (upW up) (shlW (upW up) (W4.small price))) (W4.small price)) = false := h1
  have hf := shiftOk_iff.1 (by simpa using h1)
  have hr := room_iff (gas := gas) hf
  have hw := whole_eq (gas := gas) hf
  have hmo : mostOk gas (shlW (upW up) (W4.small price)) (W4.small value) = (eqW (shrW (upW up) (shlW (upW up) ((W4.small gas).mul (W4.small price)))) ((W4.small gas).mul (W4.small price)) && !((shlW (upW up) ((W4.small gas).mul (W4.small price))).add (W4.small value)).lt (shlW (upW up) ((W4.small gas).mul (W4.small price)))) := by
    unfold mostOk plusOk
    rw [hr, hw]
  refine wp_chk_true.2 (wp_br.2 ⟨fun h2 => wp_chk_true.2 (wp_br.2 ⟨fun h3 => wp_chk_true.2 (wp_br.2 ⟨fun h4 => wp_chk_true.2 ?_, fun h4 => ?_⟩), fun h3 => ?_⟩), fun h2 => wp_chk_true.2 (wp_br.2 ⟨fun h3 => wp_chk_true.2 (wp_br.2 ⟨fun h4 => wp_chk_true.2 rfl, fun h4 => ?_⟩), fun h3 => wp_chk_true.2 rfl⟩)⟩)
  · have : eqW (mostV gas (shlW (upW up) (W4.small price)) (W4.small value)) ((shlW (upW up) ((W4.small gas).mul (W4.small price))).add (W4.small value)) = true := by
      rw [eqW_iff]; unfold mostV; rw [hw]
    show (Fin.ret (V.bool (eqW (mostV gas (shlW (upW up) (W4.small price)) (W4.small value)) ((shlW (upW up) ((W4.small gas).mul (W4.small price))).add (W4.small value)))), ([] : Heap)) = _
    rw [this]
  · exfalso
    have h2 : mostOk gas (shlW (upW up) (W4.small price)) (W4.small value) = true := h2
    rw [hmo, Bool.and_eq_true] at h2
    have h4 : (true == !((shlW (upW up) ((W4.small gas).mul (W4.small price))).add (W4.small value)).lt (shlW (upW up) ((W4.small gas).mul (W4.small price)))) = false := h4
    rw [h2.2] at h4; cases h4
  · exfalso
    have h2 : mostOk gas (shlW (upW up) (W4.small price)) (W4.small value) = true := h2
    rw [hmo, Bool.and_eq_true] at h2
    have h3 : eqW (shrW (upW up) (shlW (upW up) ((W4.small gas).mul (W4.small price)))) ((W4.small gas).mul (W4.small price)) = false := h3
    rw [h2.1] at h3; cases h3
  · exfalso
    have h2 : mostOk gas (shlW (upW up) (W4.small price)) (W4.small value) = false := h2
    have h3 : eqW (shrW (upW up) (shlW (upW up) ((W4.small gas).mul (W4.small price)))) ((W4.small gas).mul (W4.small price)) = true := h3
    have h4 : (false == !((shlW (upW up) ((W4.small gas).mul (W4.small price))).add (W4.small value)).lt (shlW (upW up) ((W4.small gas).mul (W4.small price)))) = false := h4
    rw [hmo, h3, Bool.true_and] at h2
    rw [h2] at h4; cases h4
end
end Go.Proofs.Ytajbaocfdlopbaa.K
end
section
open Go Go.Lh
namespace Go.Proofs.Ytajbaocfdlopbaa.K
noncomputable section
set_option maxRecDepth 100000
def OR17 : OrcT := autoT Pr ext KR8 [75] 4
theorem OR17_sound : OrcSound Pr OR17.o := autoT_sound mixed ext_ok KR8_ok (by kernel_rfl) 4
theorem rnext_x (b : W4) (u : BitVec 64) (l : BitVec 64) : Tr.prune (Tr.Sh.any.l.l.l.both
  (Tr.Sh.any.both (Tr.Sh.any.both (Tr.Sh.any.both Tr.Sh.any))).r.r)
  (execBF Pr OR17 noLoopsT (100 : Nat) Go.Proofs.Try.f55 [b.v, V.u64 u, V.u64 l] []) =
  Tr.chk true
  (Tr.br (l / BitVec.ofInt (64 : Nat) (2 : Int) == BitVec.ofInt (64 : Nat) (0 : Int))
    (Tr.chk true (Tr.leaf (Fin.ret (V.agg [V.u64 b.a, V.u64 b.b, V.u64 b.c, V.u64 b.d]), [])))
    (Tr.chk true
      (Tr.br (u == l / BitVec.ofInt (64 : Nat) (2 : Int))
        (Tr.chk true (Tr.leaf (Fin.ret (V.agg [V.u64 b.a, V.u64 b.b, V.u64 b.c, V.u64 b.d]), [])))
        (Tr.chk true
          (Tr.br (decide (u < l / BitVec.ofInt (64 : Nat) (2 : Int)))
            (Tr.chk true
              (Tr.leaf
                (Fin.ret
                    (V.agg
                      [V.u64
                          (b.sub
                              (divQ
                                (divQ
                                  (b.mul
                                    (W4.mk (BitVec.ofInt (64 : Nat) (0 : Int)) (BitVec.ofInt (64 : Nat) (0 : Int))
                                      (BitVec.ofInt (64 : Nat) (0 : Int))
                                      ((if u < l / BitVec.ofInt (64 : Nat) (2 : Int) then
                                          l / BitVec.ofInt (64 : Nat) (2 : Int)
                                        else u) -
                                        if l / BitVec.ofInt (64 : Nat) (2 : Int) < u then
                                          l / BitVec.ofInt (64 : Nat) (2 : Int)
                                        else u)))
                                  (W4.mk (BitVec.ofInt (64 : Nat) (0 : Int)) (BitVec.ofInt (64 : Nat) (0 : Int))
                                    (BitVec.ofInt (64 : Nat) (0 : Int)) (l / BitVec.ofInt (64 : Nat) (2 : Int))))
                                (W4.mk (BitVec.ofInt (64 : Nat) (0 : Int)) (BitVec.ofInt (64 : Nat) (0 : Int))
                                  (BitVec.ofInt (64 : Nat) (0 : Int)) (BitVec.ofInt (64 : Nat) (8 : Int))))).a,
                        V.u64
                          (b.sub
                              (divQ
                                (divQ
                                  (b.mul
                                    (W4.mk (BitVec.ofInt (64 : Nat) (0 : Int)) (BitVec.ofInt (64 : Nat) (0 : Int))
                                      (BitVec.ofInt (64 : Nat) (0 : Int))
                                      ((if u < l / BitVec.ofInt (64 : Nat) (2 : Int) then
                                          l / BitVec.ofInt (64 : Nat) (2 : Int)
                                        else u) -
                                        if l / BitVec.ofInt (64 : Nat) (2 : Int) < u then
                                          l / BitVec.ofInt (64 : Nat) (2 : Int)
                                        else u)))
                                  (W4.mk (BitVec.ofInt (64 : Nat) (0 : Int)) (BitVec.ofInt (64 : Nat) (0 : Int))
                                    (BitVec.ofInt (64 : Nat) (0 : Int)) (l / BitVec.ofInt (64 : Nat) (2 : Int))))
                                (W4.mk (BitVec.ofInt (64 : Nat) (0 : Int)) (BitVec.ofInt (64 : Nat) (0 : Int))
                                  (BitVec.ofInt (64 : Nat) (0 : Int)) (BitVec.ofInt (64 : Nat) (8 : Int))))).b,
                        V.u64
                          (b.sub
                              (divQ
                                (divQ
                                  (b.mul
                                    (W4.mk (BitVec.ofInt (64 : Nat) (0 : Int)) (BitVec.ofInt (64 : Nat) (0 : Int))
                                      (BitVec.ofInt (64 : Nat) (0 : Int))
                                      ((if u < l / BitVec.ofInt (64 : Nat) (2 : Int) then
                                          l / BitVec.ofInt (64 : Nat) (2 : Int)
                                        else u) -
                                        if l / BitVec.ofInt (64 : Nat) (2 : Int) < u then
                                          l / BitVec.ofInt (64 : Nat) (2 : Int)
                                        else u)))
                                  (W4.mk (BitVec.ofInt (64 : Nat) (0 : Int)) (BitVec.ofInt (64 : Nat) (0 : Int))
                                    (BitVec.ofInt (64 : Nat) (0 : Int)) (l / BitVec.ofInt (64 : Nat) (2 : Int))))
                                (W4.mk (BitVec.ofInt (64 : Nat) (0 : Int)) (BitVec.ofInt (64 : Nat) (0 : Int))
                                  (BitVec.ofInt (64 : Nat) (0 : Int)) (BitVec.ofInt (64 : Nat) (8 : Int))))).c,
                        V.u64
                          (b.sub
                              (divQ
                                (divQ
                                  (b.mul
                                    (W4.mk (BitVec.ofInt (64 : Nat) (0 : Int)) (BitVec.ofInt (64 : Nat) (0 : Int))
                                      (BitVec.ofInt (64 : Nat) (0 : Int))
                                      ((if u < l / BitVec.ofInt (64 : Nat) (2 : Int) then
                                          l / BitVec.ofInt (64 : Nat) (2 : Int)
                                        else u) -
                                        if l / BitVec.ofInt (64 : Nat) (2 : Int) < u then
                                          l / BitVec.ofInt (64 : Nat) (2 : Int)
                                        else u)))
                                  (W4.mk (BitVec.ofInt (64 : Nat) (0 : Int)) (BitVec.ofInt (64 : Nat) (0 : Int))
                                    (BitVec.ofInt (64 : Nat) (0 : Int)) (l / BitVec.ofInt (64 : Nat) (2 : Int))))
                                (W4.mk (BitVec.ofInt (64 : Nat) (0 : Int)) (BitVec.ofInt (64 : Nat) (0 : Int))
                                  (BitVec.ofInt (64 : Nat) (0 : Int)) (BitVec.ofInt (64 : Nat) (8 : Int))))).d]),
                  [])))
            (Tr.chk true
              (Tr.br
                ((divQ
                        (divQ
                          (b.mul
                            (W4.mk (BitVec.ofInt (64 : Nat) (0 : Int)) (BitVec.ofInt (64 : Nat) (0 : Int))
                              (BitVec.ofInt (64 : Nat) (0 : Int))
                              ((if u < l / BitVec.ofInt (64 : Nat) (2 : Int) then l / BitVec.ofInt (64 : Nat) (2 : Int)
                                else u) -
                                if l / BitVec.ofInt (64 : Nat) (2 : Int) < u then l / BitVec.ofInt (64 : Nat) (2 : Int)
                                else u)))
                          (W4.mk (BitVec.ofInt (64 : Nat) (0 : Int)) (BitVec.ofInt (64 : Nat) (0 : Int))
                            (BitVec.ofInt (64 : Nat) (0 : Int)) (l / BitVec.ofInt (64 : Nat) (2 : Int))))
                        (W4.mk (BitVec.ofInt (64 : Nat) (0 : Int)) (BitVec.ofInt (64 : Nat) (0 : Int))
                          (BitVec.ofInt (64 : Nat) (0 : Int)) (BitVec.ofInt (64 : Nat) (8 : Int)))).a ==
                    BitVec.ofInt (64 : Nat) (0 : Int) &&
                  ((divQ
                          (divQ
                            (b.mul
                              (W4.mk (BitVec.ofInt (64 : Nat) (0 : Int)) (BitVec.ofInt (64 : Nat) (0 : Int))
                                (BitVec.ofInt (64 : Nat) (0 : Int))
                                ((if u < l / BitVec.ofInt (64 : Nat) (2 : Int) then
                                    l / BitVec.ofInt (64 : Nat) (2 : Int)
                                  else u) -
                                  if l / BitVec.ofInt (64 : Nat) (2 : Int) < u then
                                    l / BitVec.ofInt (64 : Nat) (2 : Int)
                                  else u)))
                            (W4.mk (BitVec.ofInt (64 : Nat) (0 : Int)) (BitVec.ofInt (64 : Nat) (0 : Int))
                              (BitVec.ofInt (64 : Nat) (0 : Int)) (l / BitVec.ofInt (64 : Nat) (2 : Int))))
                          (W4.mk (BitVec.ofInt (64 : Nat) (0 : Int)) (BitVec.ofInt (64 : Nat) (0 : Int))
                            (BitVec.ofInt (64 : Nat) (0 : Int)) (BitVec.ofInt (64 : Nat) (8 : Int)))).b ==
                      BitVec.ofInt (64 : Nat) (0 : Int) &&
                    ((divQ
                            (divQ
                              (b.mul
                                (W4.mk (BitVec.ofInt (64 : Nat) (0 : Int)) (BitVec.ofInt (64 : Nat) (0 : Int))
                                  (BitVec.ofInt (64 : Nat) (0 : Int))
                                  ((if u < l / BitVec.ofInt (64 : Nat) (2 : Int) then
                                      l / BitVec.ofInt (64 : Nat) (2 : Int)
                                    else u) -
                                    if l / BitVec.ofInt (64 : Nat) (2 : Int) < u then
                                      l / BitVec.ofInt (64 : Nat) (2 : Int)
                                    else u)))
                              (W4.mk (BitVec.ofInt (64 : Nat) (0 : Int)) (BitVec.ofInt (64 : Nat) (0 : Int))
                                (BitVec.ofInt (64 : Nat) (0 : Int)) (l / BitVec.ofInt (64 : Nat) (2 : Int))))
                            (W4.mk (BitVec.ofInt (64 : Nat) (0 : Int)) (BitVec.ofInt (64 : Nat) (0 : Int))
                              (BitVec.ofInt (64 : Nat) (0 : Int)) (BitVec.ofInt (64 : Nat) (8 : Int)))).c ==
                        BitVec.ofInt (64 : Nat) (0 : Int) &&
                      ((divQ
                              (divQ
                                (b.mul
                                  (W4.mk (BitVec.ofInt (64 : Nat) (0 : Int)) (BitVec.ofInt (64 : Nat) (0 : Int))
                                    (BitVec.ofInt (64 : Nat) (0 : Int))
                                    ((if u < l / BitVec.ofInt (64 : Nat) (2 : Int) then
                                        l / BitVec.ofInt (64 : Nat) (2 : Int)
                                      else u) -
                                      if l / BitVec.ofInt (64 : Nat) (2 : Int) < u then
                                        l / BitVec.ofInt (64 : Nat) (2 : Int)
                                      else u)))
                                (W4.mk (BitVec.ofInt (64 : Nat) (0 : Int)) (BitVec.ofInt (64 : Nat) (0 : Int))
                                  (BitVec.ofInt (64 : Nat) (0 : Int)) (l / BitVec.ofInt (64 : Nat) (2 : Int))))
                              (W4.mk (BitVec.ofInt (64 : Nat) (0 : Int)) (BitVec.ofInt (64 : Nat) (0 : Int))
                                (BitVec.ofInt (64 : Nat) (0 : Int)) (BitVec.ofInt (64 : Nat) (8 : Int)))).d ==
                          BitVec.ofInt (64 : Nat) (0 : Int) &&
                        true))))
                (Tr.chk true
                  (Tr.leaf
                    (Fin.ret
                        (V.agg
                          [V.u64
                              (b.add
                                  (W4.mk (BitVec.ofInt (64 : Nat) (0 : Int)) (BitVec.ofInt (64 : Nat) (0 : Int))
                                    (BitVec.ofInt (64 : Nat) (0 : Int)) (BitVec.ofInt (64 : Nat) (1 : Int)))).a,
                            V.u64
                              (b.add
                                  (W4.mk (BitVec.ofInt (64 : Nat) (0 : Int)) (BitVec.ofInt (64 : Nat) (0 : Int))
                                    (BitVec.ofInt (64 : Nat) (0 : Int)) (BitVec.ofInt (64 : Nat) (1 : Int)))).b,
                            V.u64
                              (b.add
                                  (W4.mk (BitVec.ofInt (64 : Nat) (0 : Int)) (BitVec.ofInt (64 : Nat) (0 : Int))
                                    (BitVec.ofInt (64 : Nat) (0 : Int)) (BitVec.ofInt (64 : Nat) (1 : Int)))).c,
                            V.u64
                              (b.add
                                  (W4.mk (BitVec.ofInt (64 : Nat) (0 : Int)) (BitVec.ofInt (64 : Nat) (0 : Int))
                                    (BitVec.ofInt (64 : Nat) (0 : Int)) (BitVec.ofInt (64 : Nat) (1 : Int)))).d]),
                      [])))
                (Tr.chk true
                  (Tr.leaf
                    (Fin.ret
                        (V.agg
                          [V.u64
                              (b.add
                                  (divQ
                                    (divQ
                                      (b.mul
                                        (W4.mk (BitVec.ofInt (64 : Nat) (0 : Int)) (BitVec.ofInt (64 : Nat) (0 : Int))
                                          (BitVec.ofInt (64 : Nat) (0 : Int))
                                          ((if u < l / BitVec.ofInt (64 : Nat) (2 : Int) then
                                              l / BitVec.ofInt (64 : Nat) (2 : Int)
                                            else u) -
                                            if l / BitVec.ofInt (64 : Nat) (2 : Int) < u then
                                              l / BitVec.ofInt (64 : Nat) (2 : Int)
                                            else u)))
                                      (W4.mk (BitVec.ofInt (64 : Nat) (0 : Int)) (BitVec.ofInt (64 : Nat) (0 : Int))
                                        (BitVec.ofInt (64 : Nat) (0 : Int)) (l / BitVec.ofInt (64 : Nat) (2 : Int))))
                                    (W4.mk (BitVec.ofInt (64 : Nat) (0 : Int)) (BitVec.ofInt (64 : Nat) (0 : Int))
                                      (BitVec.ofInt (64 : Nat) (0 : Int)) (BitVec.ofInt (64 : Nat) (8 : Int))))).a,
                            V.u64
                              (b.add
                                  (divQ
                                    (divQ
                                      (b.mul
                                        (W4.mk (BitVec.ofInt (64 : Nat) (0 : Int)) (BitVec.ofInt (64 : Nat) (0 : Int))
                                          (BitVec.ofInt (64 : Nat) (0 : Int))
                                          ((if u < l / BitVec.ofInt (64 : Nat) (2 : Int) then
                                              l / BitVec.ofInt (64 : Nat) (2 : Int)
                                            else u) -
                                            if l / BitVec.ofInt (64 : Nat) (2 : Int) < u then
                                              l / BitVec.ofInt (64 : Nat) (2 : Int)
                                            else u)))
                                      (W4.mk (BitVec.ofInt (64 : Nat) (0 : Int)) (BitVec.ofInt (64 : Nat) (0 : Int))
                                        (BitVec.ofInt (64 : Nat) (0 : Int)) (l / BitVec.ofInt (64 : Nat) (2 : Int))))
                                    (W4.mk (BitVec.ofInt (64 : Nat) (0 : Int)) (BitVec.ofInt (64 : Nat) (0 : Int))
                                      (BitVec.ofInt (64 : Nat) (0 : Int)) (BitVec.ofInt (64 : Nat) (8 : Int))))).b,
                            V.u64
                              (b.add
                                  (divQ
                                    (divQ
                                      (b.mul
                                        (W4.mk (BitVec.ofInt (64 : Nat) (0 : Int)) (BitVec.ofInt (64 : Nat) (0 : Int))
                                          (BitVec.ofInt (64 : Nat) (0 : Int))
                                          ((if u < l / BitVec.ofInt (64 : Nat) (2 : Int) then
                                              l / BitVec.ofInt (64 : Nat) (2 : Int)
                                            else u) -
                                            if l / BitVec.ofInt (64 : Nat) (2 : Int) < u then
                                              l / BitVec.ofInt (64 : Nat) (2 : Int)
                                            else u)))
                                      (W4.mk (BitVec.ofInt (64 : Nat) (0 : Int)) (BitVec.ofInt (64 : Nat) (0 : Int))
                                        (BitVec.ofInt (64 : Nat) (0 : Int)) (l / BitVec.ofInt (64 : Nat) (2 : Int))))
                                    (W4.mk (BitVec.ofInt (64 : Nat) (0 : Int)) (BitVec.ofInt (64 : Nat) (0 : Int))
                                      (BitVec.ofInt (64 : Nat) (0 : Int)) (BitVec.ofInt (64 : Nat) (8 : Int))))).c,
                            V.u64
                              (b.add
                                  (divQ
                                    (divQ
                                      (b.mul
                                        (W4.mk (BitVec.ofInt (64 : Nat) (0 : Int)) (BitVec.ofInt (64 : Nat) (0 : Int))
                                          (BitVec.ofInt (64 : Nat) (0 : Int))
                                          ((if u < l / BitVec.ofInt (64 : Nat) (2 : Int) then
                                              l / BitVec.ofInt (64 : Nat) (2 : Int)
                                            else u) -
                                            if l / BitVec.ofInt (64 : Nat) (2 : Int) < u then
                                              l / BitVec.ofInt (64 : Nat) (2 : Int)
                                            else u)))
                                      (W4.mk (BitVec.ofInt (64 : Nat) (0 : Int)) (BitVec.ofInt (64 : Nat) (0 : Int))
                                        (BitVec.ofInt (64 : Nat) (0 : Int)) (l / BitVec.ofInt (64 : Nat) (2 : Int))))
                                    (W4.mk (BitVec.ofInt (64 : Nat) (0 : Int)) (BitVec.ofInt (64 : Nat) (0 : Int))
                                      (BitVec.ofInt (64 : Nat) (0 : Int)) (BitVec.ofInt (64 : Nat) (8 : Int))))).d]),
                      [])))))))))) := by kernel_rfl
theorem rprice_x (x : E.TX) (b : W4) : Tr.prune (Tr.Sh.any.l.l.l.l.l.both
  ((Tr.Sh.any.both ((Tr.Sh.any.both Tr.Sh.any).l.l.l.both Tr.Sh.any.r.r.r.r)).r.l.l.l.l.both
          ((Tr.Sh.any.both Tr.Sh.any).l.l.l.both Tr.Sh.any.r.r.r.r).r.r.r.r.r.r).r.r.r)
  (execBF Pr OR17 noLoopsT (100 : Nat) Go.Proofs.Try.f52 [x.val, b.v] []) =
  Tr.chk true
  (Tr.br (x.p.lt b)
    (Tr.chk true
      (Tr.leaf
        (Fin.ret
            (V.tup
              [V.agg
                  [V.u64 (BitVec.ofInt (64 : Nat) (0 : Int)), V.u64 (BitVec.ofInt (64 : Nat) (0 : Int)),
                    V.u64 (BitVec.ofInt (64 : Nat) (0 : Int)), V.u64 (BitVec.ofInt (64 : Nat) (0 : Int))],
                V.agg
                  [V.u64 (BitVec.ofInt (64 : Nat) (0 : Int)), V.u64 (BitVec.ofInt (64 : Nat) (0 : Int)),
                    V.u64 (BitVec.ofInt (64 : Nat) (0 : Int)), V.u64 (BitVec.ofInt (64 : Nat) (0 : Int))],
                V.int IntKind.i64 (17 : Int)]),
          [])))
    (Tr.chk true
      (Tr.br (x.k == (2 : Int))
        (Tr.chk true
          (Tr.br (x.p.lt x.t)
            (Tr.chk true
              (Tr.leaf
                (Fin.ret
                    (V.tup
                      [V.agg
                          [V.u64 (BitVec.ofInt (64 : Nat) (0 : Int)), V.u64 (BitVec.ofInt (64 : Nat) (0 : Int)),
                            V.u64 (BitVec.ofInt (64 : Nat) (0 : Int)), V.u64 (BitVec.ofInt (64 : Nat) (0 : Int))],
                        V.agg
                          [V.u64 (BitVec.ofInt (64 : Nat) (0 : Int)), V.u64 (BitVec.ofInt (64 : Nat) (0 : Int)),
                            V.u64 (BitVec.ofInt (64 : Nat) (0 : Int)), V.u64 (BitVec.ofInt (64 : Nat) (0 : Int))],
                        V.int IntKind.i64 (17 : Int)]),
                  [])))
            (Tr.chk true
              (Tr.br (x.k == (2 : Int))
                (Tr.chk true
                  (Tr.br (x.t.lt (x.p.sub b))
                    (Tr.chk true
                      (Tr.leaf
                        (Fin.ret
                            (V.tup
                              [V.agg
                                  [V.u64 (b.add x.t).a, V.u64 (b.add x.t).b, V.u64 (b.add x.t).c, V.u64 (b.add x.t).d],
                                V.agg [V.u64 x.t.a, V.u64 x.t.b, V.u64 x.t.c, V.u64 x.t.d],
                                V.int IntKind.i64 (0 : Int)]),
                          [])))
                    (Tr.chk true
                      (Tr.leaf
                        (Fin.ret
                            (V.tup
                              [V.agg
                                  [V.u64 (b.add (x.p.sub b)).a, V.u64 (b.add (x.p.sub b)).b,
                                    V.u64 (b.add (x.p.sub b)).c, V.u64 (b.add (x.p.sub b)).d],
                                V.agg
                                  [V.u64 (x.p.sub b).a, V.u64 (x.p.sub b).b, V.u64 (x.p.sub b).c, V.u64 (x.p.sub b).d],
                                V.int IntKind.i64 (0 : Int)]),
                          [])))))
                (Tr.chk true
                  (Tr.leaf
                    (Fin.ret
                        (V.tup
                          [V.agg
                              [V.u64 (b.add (x.p.sub b)).a, V.u64 (b.add (x.p.sub b)).b, V.u64 (b.add (x.p.sub b)).c,
                                V.u64 (b.add (x.p.sub b)).d],
                            V.agg [V.u64 (x.p.sub b).a, V.u64 (x.p.sub b).b, V.u64 (x.p.sub b).c, V.u64 (x.p.sub b).d],
                            V.int IntKind.i64 (0 : Int)]),
                      [])))))))
        (Tr.chk true
          (Tr.br (x.k == (2 : Int))
            (Tr.chk true
              (Tr.br (x.t.lt (x.p.sub b))
                (Tr.chk true
                  (Tr.leaf
                    (Fin.ret
                        (V.tup
                          [V.agg [V.u64 (b.add x.t).a, V.u64 (b.add x.t).b, V.u64 (b.add x.t).c, V.u64 (b.add x.t).d],
                            V.agg [V.u64 x.t.a, V.u64 x.t.b, V.u64 x.t.c, V.u64 x.t.d], V.int IntKind.i64 (0 : Int)]),
                      [])))
                (Tr.chk true
                  (Tr.leaf
                    (Fin.ret
                        (V.tup
                          [V.agg
                              [V.u64 (b.add (x.p.sub b)).a, V.u64 (b.add (x.p.sub b)).b, V.u64 (b.add (x.p.sub b)).c,
                                V.u64 (b.add (x.p.sub b)).d],
                            V.agg [V.u64 (x.p.sub b).a, V.u64 (x.p.sub b).b, V.u64 (x.p.sub b).c, V.u64 (x.p.sub b).d],
                            V.int IntKind.i64 (0 : Int)]),
                      [])))))
            (Tr.chk true
              (Tr.leaf
                (Fin.ret
                    (V.tup
                      [V.agg
                          [V.u64 (b.add (x.p.sub b)).a, V.u64 (b.add (x.p.sub b)).b, V.u64 (b.add (x.p.sub b)).c,
                            V.u64 (b.add (x.p.sub b)).d],
                        V.agg [V.u64 (x.p.sub b).a, V.u64 (x.p.sub b).b, V.u64 (x.p.sub b).c, V.u64 (x.p.sub b).d],
                        V.int IntKind.i64 (0 : Int)]),
                  [])))))))) := by kernel_rfl
end
end Go.Proofs.Ytajbaocfdlopbaa.K
end
section
open Go Go.Lh
namespace Go.Proofs.Ytajbaocfdlopbaa.K
noncomputable section
set_option maxRecDepth 100000
theorem rnext_fn (b : W4) (u l : BitVec 64) : LFn Pr 55 [b.v, .u64 u, .u64 l] [] (.ret (E.nextC b u l).v) [] := by
  refine fnT OR17_sound mixed (by kernel_rfl) LoopsOk.noneT (rnext_x b u l) ?_
  have e2 : l / BitVec.ofInt 64 2 = E.tgt l := rfl
  rw [e2]
  unfold E.nextC
  refine wp_chk_true.2 (wp_br.2 ⟨fun h1 => wp_chk_true.2 ?_, fun h1 => wp_chk_true.2 (wp_br.2 ⟨fun h2 => wp_chk_true.2 ?_, fun h2 => wp_chk_true.2 (wp_br.2 ⟨fun h3 => wp_chk_true.2 ?_, fun h3 => ?_⟩)⟩)⟩)
  · rw [if_pos (show E.tgt l = 0 from beq_iff_eq.1 h1)]; exact (rfl : _ = _)
  · rw [if_neg (show ¬ E.tgt l = 0 from beq_eq_false_iff_ne.1 h1), if_pos (beq_iff_eq.1 h2)]; exact (rfl : _ = _)
  · have h3 := of_decide_eq_true h3
    have h4 : ¬ E.tgt l < u := fun h => by rw [BitVec.lt_def] at h h3; omega
    rw [if_neg (show ¬ E.tgt l = 0 from beq_eq_false_iff_ne.1 h1), if_neg (beq_eq_false_iff_ne.1 h2), if_pos h3]
    rw [if_pos h3, if_neg h4]
    exact (rfl : _ = _)
  · have h3 := of_decide_eq_false h3
    have h2' := beq_eq_false_iff_ne.1 h2
    have h4 : E.tgt l < u := by
      rw [BitVec.lt_def] at h3 ⊢
      have : u.toNat ≠ (E.tgt l).toNat := fun e => h2' (BitVec.eq_of_toNat_eq e)
      omega
    rw [if_neg (show ¬ E.tgt l = 0 from beq_eq_false_iff_ne.1 h1), if_neg h2', if_neg h3]
    rw [if_neg h3, if_pos h4]
    refine wp_chk_true.2 (wp_br.2 ⟨fun h5 => wp_chk_true.2 ?_, fun h5 => wp_chk_true.2 ?_⟩)
    · have h6 : z0W (E.stepW b (u - E.tgt l) (E.tgt l)) = true := h5
      have hs : E.stepW b (u - E.tgt l) (E.tgt l) = W4.zero := W4.ext_n (by rw [z0W_iff.1 h6]; rfl)
      have hb : E.bump (E.stepW b (u - E.tgt l) (E.tgt l)) = ⟨BitVec.ofInt 64 0, BitVec.ofInt 64 0, BitVec.ofInt 64 0, BitVec.ofInt 64 1⟩ := by rw [hs]; rfl
      rw [hb]; exact (rfl : _ = _)
    · have h6 : z0W (E.stepW b (u - E.tgt l) (E.tgt l)) = false := h5
      have hb : E.bump (E.stepW b (u - E.tgt l) (E.tgt l)) = E.stepW b (u - E.tgt l) (E.tgt l) := by
        unfold E.bump
        rw [if_neg (fun e => by rw [z0W_iff.2 e] at h6; cases h6)]
      rw [hb]; exact (rfl : _ = _)
theorem rprice_fn (x : E.TX) (b : W4) : LFn Pr 52 [x.val, b.v] [] (.ret (E.priceV x b)) [] := by
  refine fnT OR17_sound mixed (by kernel_rfl) LoopsOk.noneT (rprice_x x b) ?_
  unfold E.priceV E.badC E.tipC
  refine wp_chk_true.2 (wp_br.2 ⟨fun h1 => wp_chk_true.2 ?_, fun h1 => wp_chk_true.2 (wp_br.2 ⟨fun h2 => wp_chk_true.2 (wp_br.2 ⟨fun h3 => wp_chk_true.2 ?_, fun h3 => wp_chk_true.2 (wp_br.2 ⟨fun h4 => wp_chk_true.2 (wp_br.2 ⟨fun h5 => wp_chk_true.2 ?_, fun h5 => wp_chk_true.2 ?_⟩), fun h4 => wp_chk_true.2 ?_⟩)⟩), fun h2 => wp_chk_true.2 (wp_br.2 ⟨fun h4 => wp_chk_true.2 (wp_br.2 ⟨fun h5 => ?_, fun h5 => ?_⟩), fun h4 => wp_chk_true.2 ?_⟩)⟩)⟩)
  · rw [h1]; exact (rfl : _ = _)
  · rw [h1, decide_eq_true (beq_iff_eq.1 h2), h3]; exact (rfl : _ = _)
  · rw [h1, decide_eq_true (beq_iff_eq.1 h2), h3, if_pos (beq_iff_eq.1 h2)]
    unfold E.lesserC; rw [h5]; exact (rfl : _ = _)
  · rw [h1, decide_eq_true (beq_iff_eq.1 h2), h3, if_pos (beq_iff_eq.1 h2)]
    unfold E.lesserC; rw [h5]; exact (rfl : _ = _)
  · rw [h2] at h4; cases h4
  · rw [h2] at h4; cases h4
  · rw [h2] at h4; cases h4
  · rw [h1, decide_eq_false (beq_eq_false_iff_ne.1 h2), if_neg (beq_eq_false_iff_ne.1 h2)]; exact (rfl : _ = _)
end
end Go.Proofs.Ytajbaocfdlopbaa.K
end
section
open Go Go.Lh
namespace Go.Proofs.Ytajbaocfdlopbaa.K
noncomputable section
set_option maxRecDepth 100000
def sumC2 (f g : Nat → Int) : Nat → Int
  | 0 => 0
  | i + 1 => bif Nat.blt i 32 then wrapI .i64 ((wrapI .i64 (wrapI .i64 (sumC2 f g i + f i) + g i)).tdiv 256) else wrapI .i64 ((wrapI .i64 (sumC2 f g i + f i)).tdiv 256)
def sumO2 (f g : Nat → Int) (i : Nat) : Int := bif Nat.blt i 32 then (wrapI .i64 (wrapI .i64 (sumC2 f g i + f i) + g i)).tmod 256 else (wrapI .i64 (sumC2 f g i + f i)).tmod 256
theorem sumf2_fn (f g : Nat → Int) : LFn Pr 99 [.sl 0 0 1 64 (some 64), .sl 1 0 1 32 none] [.ints ((List.range 64).map f), .ints ((List.range 32).map g)] (.ret (.sl 2 0 1 64 none)) [.ints ((List.range 64).map f), .ints ((List.range 32).map g), .ints ((List.range 64).map (sumO2 f g))] :=
  fnC (fn := Go.Proofs.Try.f99) OR3_sound mixed (fuel := 100) (by kernel_rfl) LoopsOk.noneT (by kernel_rfl)
end
end Go.Proofs.Ytajbaocfdlopbaa.K
end
