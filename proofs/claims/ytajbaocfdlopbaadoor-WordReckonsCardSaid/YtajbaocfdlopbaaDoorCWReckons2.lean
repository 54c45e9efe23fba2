/- The functions that this law reaches: what each comes to. -/
import Derived.Test.YtajbaocfdlopbaaDoorCWReckons1
set_option linter.unusedSimpArgs false
set_option linter.unusedVariables false
section
open Go Go.Lh
namespace Go.Proofs.YtajbaocfdlopbaaDoor.K
noncomputable section
set_option maxRecDepth 100000
theorem sumf_fn (f g : Nat → Int) : LFn Pr 98 [.sl 0 0 1 32 none, .sl 1 0 1 32 none] [.ints ((List.range 32).map f), .ints ((List.range 32).map g)] (.ret (.sl 2 0 1 32 none)) [.ints ((List.range 32).map f), .ints ((List.range 32).map g), .ints ((List.range 32).map (W4.sumO f g))] :=
  fnC (fn := Go.Proofs.Tryd.f98) OR3_sound mixed (fuel := 100) (by kernel_rfl) LoopsOk.noneT (by kernel_rfl)
theorem sum_fn (x y : Nat) : LFn Pr 98 [.sl 0 0 1 32 none, .sl 1 0 1 32 none] [.ints (W4.dg 32 x), .ints (W4.dg 32 y)] (.ret (.sl 2 0 1 32 none)) [.ints (W4.dg 32 x), .ints (W4.dg 32 y), .ints (W4.dg 32 (x + y))] := by
  have h := sumf_fn (W4.dig x) (W4.dig y)
  rw [W4.sumO_dg] at h
  exact h
structure PrS where
  A : List Int
  B : List Int
  O : List Int
  i : Nat
  k : Nat
theorem pri_x (A : List Int) (B : List Int) (O : List Int) (i : Nat) (k : Nat) (c : Int) : Tr.prune ((Tr.Sh.any.both
          Tr.Sh.any).l.l.both
  ((Tr.Sh.any.both Tr.Sh.any).both Tr.Sh.any).r)
  (execBN Pr OR3 noLoopsT (100 : Nat) (2 : Nat) [(0 : Nat), (1 : Nat), (5 : Nat), (6 : Nat), (7 : Nat), (8 : Nat)]
  [(0 : Nat), (1 : Nat), (5 : Nat), (6 : Nat)] (loopBody Go.Proofs.Tryd.f99 (1 : Nat))
  [((0 : Nat), V.sl (0 : Nat) (0 : Nat) (1 : Nat) (32 : Nat) none),
    ((1 : Nat), V.sl (1 : Nat) (0 : Nat) (1 : Nat) (32 : Nat) none),
    ((5 : Nat), V.sl (2 : Nat) (0 : Nat) (1 : Nat) (64 : Nat) (some (64 : Nat))),
    ((6 : Nat), V.int IntKind.i64 (↑i : Int)), ((7 : Nat), V.int IntKind.i64 c),
    ((8 : Nat), V.int IntKind.i64 (↑k : Int))]
  [Blk.ints A, Blk.ints B, Blk.ints O]) =
  Tr.chk true
  (Tr.br (decide ((↑k : Int) < (32 : Int)))
    (Tr.chk true
      (Tr.br (decide ((↑k : Int) < (32 : Int)))
        (Tr.chk
          (decide ((↑i : Int) < (32 : Int)) &&
                (decide ((0 : Nat) + i * (1 : Nat) < A.length) &&
                  (decide ((↑k : Int) < (32 : Int)) && (decide ((0 : Nat) + k * (1 : Nat) < B.length) && true))) &&
              (decide ((0 : Int) ≤ wrapI IntKind.i64 ((↑i : Int) + (↑k : Int))) &&
                    decide (wrapI IntKind.i64 ((↑i : Int) + (↑k : Int)) < (64 : Int)) &&
                  (decide ((0 : Nat) + (wrapI IntKind.i64 ((↑i : Int) + (↑k : Int))).toNat * (1 : Nat) < O.length) &&
                    true) &&
                (decide ((0 : Int) ≤ wrapI IntKind.i64 ((↑i : Int) + (↑k : Int))) &&
                      decide (wrapI IntKind.i64 ((↑i : Int) + (↑k : Int)) < (64 : Int)) &&
                    decide
                      ((0 : Nat) + (wrapI IntKind.i64 ((↑i : Int) + (↑k : Int))).toNat * (1 : Nat) + (1 : Nat) ≤
                        O.length) &&
                  true)) &&
            true)
          (Tr.leaf
            (X.normal,
              [((0 : Nat), V.sl (0 : Nat) (0 : Nat) (1 : Nat) (32 : Nat) none),
                ((1 : Nat), V.sl (1 : Nat) (0 : Nat) (1 : Nat) (32 : Nat) none),
                ((5 : Nat), V.sl (2 : Nat) (0 : Nat) (1 : Nat) (64 : Nat) (some (64 : Nat))),
                ((6 : Nat), V.int IntKind.i64 (↑i : Int)),
                ((7 : Nat),
                  V.int IntKind.i64
                    (wrapI IntKind.i64
                      ((wrapI IntKind.i64
                            (wrapI IntKind.i64
                                (c +
                                  wrapI IntKind.i64
                                    (A.getD ((0 : Nat) + i * (1 : Nat)) (0 : Int) *
                                      B.getD ((0 : Nat) + k * (1 : Nat)) (0 : Int))) +
                              O.getD ((0 : Nat) + (wrapI IntKind.i64 ((↑i : Int) + (↑k : Int))).toNat * (1 : Nat))
                                (0 : Int))).tdiv
                        (256 : Int)))),
                ((8 : Nat), V.int IntKind.i64 (wrapI IntKind.i64 ((↑k : Int) + (1 : Int))))],
              [Blk.ints A, Blk.ints B,
                Blk.ints
                  (O.set ((0 : Nat) + (wrapI IntKind.i64 ((↑i : Int) + (↑k : Int))).toNat * (1 : Nat))
                    ((wrapI IntKind.i64
                          (wrapI IntKind.i64
                              (c +
                                wrapI IntKind.i64
                                  (A.getD ((0 : Nat) + i * (1 : Nat)) (0 : Int) *
                                    B.getD ((0 : Nat) + k * (1 : Nat)) (0 : Int))) +
                            O.getD ((0 : Nat) + (wrapI IntKind.i64 ((↑i : Int) + (↑k : Int))).toNat * (1 : Nat))
                              (0 : Int))).tmod
                      (256 : Int)))])))
        (Tr.chk
          (decide ((0 : Int) ≤ wrapI IntKind.i64 ((↑i : Int) + (↑k : Int))) &&
                  decide (wrapI IntKind.i64 ((↑i : Int) + (↑k : Int)) < (64 : Int)) &&
                (decide ((0 : Nat) + (wrapI IntKind.i64 ((↑i : Int) + (↑k : Int))).toNat * (1 : Nat) < O.length) &&
                  true) &&
              (decide ((0 : Int) ≤ wrapI IntKind.i64 ((↑i : Int) + (↑k : Int))) &&
                    decide (wrapI IntKind.i64 ((↑i : Int) + (↑k : Int)) < (64 : Int)) &&
                  decide
                    ((0 : Nat) + (wrapI IntKind.i64 ((↑i : Int) + (↑k : Int))).toNat * (1 : Nat) + (1 : Nat) ≤
                      O.length) &&
                true) &&
            true)
          (Tr.leaf
            (X.normal,
              [((0 : Nat), V.sl (0 : Nat) (0 : Nat) (1 : Nat) (32 : Nat) none),
                ((1 : Nat), V.sl (1 : Nat) (0 : Nat) (1 : Nat) (32 : Nat) none),
                ((5 : Nat), V.sl (2 : Nat) (0 : Nat) (1 : Nat) (64 : Nat) (some (64 : Nat))),
                ((6 : Nat), V.int IntKind.i64 (↑i : Int)),
                ((7 : Nat),
                  V.int IntKind.i64
                    (wrapI IntKind.i64
                      ((wrapI IntKind.i64
                            (c +
                              O.getD ((0 : Nat) + (wrapI IntKind.i64 ((↑i : Int) + (↑k : Int))).toNat * (1 : Nat))
                                (0 : Int))).tdiv
                        (256 : Int)))),
                ((8 : Nat), V.int IntKind.i64 (wrapI IntKind.i64 ((↑k : Int) + (1 : Int))))],
              [Blk.ints A, Blk.ints B,
                Blk.ints
                  (O.set ((0 : Nat) + (wrapI IntKind.i64 ((↑i : Int) + (↑k : Int))).toNat * (1 : Nat))
                    ((wrapI IntKind.i64
                          (c +
                            O.getD ((0 : Nat) + (wrapI IntKind.i64 ((↑i : Int) + (↑k : Int))).toNat * (1 : Nat))
                              (0 : Int))).tmod
                      (256 : Int)))])))))
    (Tr.chk true
      (Tr.br (decide (c > (0 : Int)))
        (Tr.chk true
          (Tr.br (decide ((↑k : Int) < (32 : Int)))
            (Tr.chk
              (decide ((↑i : Int) < (32 : Int)) &&
                    (decide ((0 : Nat) + i * (1 : Nat) < A.length) &&
                      (decide ((↑k : Int) < (32 : Int)) && (decide ((0 : Nat) + k * (1 : Nat) < B.length) && true))) &&
                  (decide ((0 : Int) ≤ wrapI IntKind.i64 ((↑i : Int) + (↑k : Int))) &&
                        decide (wrapI IntKind.i64 ((↑i : Int) + (↑k : Int)) < (64 : Int)) &&
                      (decide
                          ((0 : Nat) + (wrapI IntKind.i64 ((↑i : Int) + (↑k : Int))).toNat * (1 : Nat) < O.length) &&
                        true) &&
                    (decide ((0 : Int) ≤ wrapI IntKind.i64 ((↑i : Int) + (↑k : Int))) &&
                          decide (wrapI IntKind.i64 ((↑i : Int) + (↑k : Int)) < (64 : Int)) &&
                        decide
                          ((0 : Nat) + (wrapI IntKind.i64 ((↑i : Int) + (↑k : Int))).toNat * (1 : Nat) + (1 : Nat) ≤
                            O.length) &&
                      true)) &&
                true)
              (Tr.leaf
                (X.normal,
                  [((0 : Nat), V.sl (0 : Nat) (0 : Nat) (1 : Nat) (32 : Nat) none),
                    ((1 : Nat), V.sl (1 : Nat) (0 : Nat) (1 : Nat) (32 : Nat) none),
                    ((5 : Nat), V.sl (2 : Nat) (0 : Nat) (1 : Nat) (64 : Nat) (some (64 : Nat))),
                    ((6 : Nat), V.int IntKind.i64 (↑i : Int)),
                    ((7 : Nat),
                      V.int IntKind.i64
                        (wrapI IntKind.i64
                          ((wrapI IntKind.i64
                                (wrapI IntKind.i64
                                    (c +
                                      wrapI IntKind.i64
                                        (A.getD ((0 : Nat) + i * (1 : Nat)) (0 : Int) *
                                          B.getD ((0 : Nat) + k * (1 : Nat)) (0 : Int))) +
                                  O.getD ((0 : Nat) + (wrapI IntKind.i64 ((↑i : Int) + (↑k : Int))).toNat * (1 : Nat))
                                    (0 : Int))).tdiv
                            (256 : Int)))),
                    ((8 : Nat), V.int IntKind.i64 (wrapI IntKind.i64 ((↑k : Int) + (1 : Int))))],
                  [Blk.ints A, Blk.ints B,
                    Blk.ints
                      (O.set ((0 : Nat) + (wrapI IntKind.i64 ((↑i : Int) + (↑k : Int))).toNat * (1 : Nat))
                        ((wrapI IntKind.i64
                              (wrapI IntKind.i64
                                  (c +
                                    wrapI IntKind.i64
                                      (A.getD ((0 : Nat) + i * (1 : Nat)) (0 : Int) *
                                        B.getD ((0 : Nat) + k * (1 : Nat)) (0 : Int))) +
                                O.getD ((0 : Nat) + (wrapI IntKind.i64 ((↑i : Int) + (↑k : Int))).toNat * (1 : Nat))
                                  (0 : Int))).tmod
                          (256 : Int)))])))
            (Tr.chk
              (decide ((0 : Int) ≤ wrapI IntKind.i64 ((↑i : Int) + (↑k : Int))) &&
                      decide (wrapI IntKind.i64 ((↑i : Int) + (↑k : Int)) < (64 : Int)) &&
                    (decide ((0 : Nat) + (wrapI IntKind.i64 ((↑i : Int) + (↑k : Int))).toNat * (1 : Nat) < O.length) &&
                      true) &&
                  (decide ((0 : Int) ≤ wrapI IntKind.i64 ((↑i : Int) + (↑k : Int))) &&
                        decide (wrapI IntKind.i64 ((↑i : Int) + (↑k : Int)) < (64 : Int)) &&
                      decide
                        ((0 : Nat) + (wrapI IntKind.i64 ((↑i : Int) + (↑k : Int))).toNat * (1 : Nat) + (1 : Nat) ≤
                          O.length) &&
                    true) &&
                true)
              (Tr.leaf
                (X.normal,
                  [((0 : Nat), V.sl (0 : Nat) (0 : Nat) (1 : Nat) (32 : Nat) none),
                    ((1 : Nat), V.sl (1 : Nat) (0 : Nat) (1 : Nat) (32 : Nat) none),
                    ((5 : Nat), V.sl (2 : Nat) (0 : Nat) (1 : Nat) (64 : Nat) (some (64 : Nat))),
                    ((6 : Nat), V.int IntKind.i64 (↑i : Int)),
                    ((7 : Nat),
                      V.int IntKind.i64
                        (wrapI IntKind.i64
                          ((wrapI IntKind.i64
                                (c +
                                  O.getD ((0 : Nat) + (wrapI IntKind.i64 ((↑i : Int) + (↑k : Int))).toNat * (1 : Nat))
                                    (0 : Int))).tdiv
                            (256 : Int)))),
                    ((8 : Nat), V.int IntKind.i64 (wrapI IntKind.i64 ((↑k : Int) + (1 : Int))))],
                  [Blk.ints A, Blk.ints B,
                    Blk.ints
                      (O.set ((0 : Nat) + (wrapI IntKind.i64 ((↑i : Int) + (↑k : Int))).toNat * (1 : Nat))
                        ((wrapI IntKind.i64
                              (c +
                                O.getD ((0 : Nat) + (wrapI IntKind.i64 ((↑i : Int) + (↑k : Int))).toNat * (1 : Nat))
                                  (0 : Int))).tmod
                          (256 : Int)))])))))
        (Tr.leaf
          (X.exit (2 : Nat),
            [((0 : Nat), V.sl (0 : Nat) (0 : Nat) (1 : Nat) (32 : Nat) none),
              ((1 : Nat), V.sl (1 : Nat) (0 : Nat) (1 : Nat) (32 : Nat) none),
              ((5 : Nat), V.sl (2 : Nat) (0 : Nat) (1 : Nat) (64 : Nat) (some (64 : Nat))),
              ((6 : Nat), V.int IntKind.i64 (↑i : Int))],
            [Blk.ints A, Blk.ints B, Blk.ints O]))))) := by kernel_rfl
def pri_c (a : PrS) : Int := if a.k = 0 then 0 else ((W4.prC (W4.valI a.O) (a.A.getD a.i 0).toNat (W4.valI a.B) a.i a.k : Nat) : Int)
def pri_O (a : PrS) : List Int := if a.k = 0 then a.O else W4.dg 64 (W4.prV (W4.valI a.O) (a.A.getD a.i 0).toNat (W4.valI a.B) a.i a.k)
def pri_S (a : PrS) : Fr × Heap := ([(0,.sl 0 0 1 32 none),(1,.sl 1 0 1 32 none),(5,.sl 2 0 1 64 (some 64)),(6,.int .i64 (a.i : Nat)),(7,.int .i64 (pri_c a)),(8,.int .i64 (a.k : Nat))], [.ints a.A, .ints a.B, .ints (pri_O a)])
def pri_read : Fr → Heap → Option PrS := fun f h => match f, h with
  | [(0,.sl 0 0 1 32 none),(1,.sl 1 0 1 32 none),(5,.sl 2 0 1 64 (some 64)),(6,.int .i64 (.ofNat i)),(7,.int .i64 0),(8,.int .i64 0)], [.ints A, .ints B, .ints O] => some ⟨A, B, O, i, 0⟩
  | _, _ => none
def pri_T (a : PrS) : Nat := W4.valI a.O + (a.A.getD a.i 0).toNat * W4.valI a.B * 256 ^ a.i
def pri_P (a : PrS) : Prop := a.A = W4.dg 32 (W4.valI a.A) ∧ a.B = W4.dg 32 (W4.valI a.B) ∧ a.O = W4.dg 64 (W4.valI a.O) ∧ a.i < 32 ∧ a.k ≤ 64 ∧ pri_T a < 256 ^ 64
def pri_ok (a : PrS) : Bool := @decide (pri_P a) (Classical.propDecidable _)
def pri_E (a : PrS) : Tr (X × Fr × Heap) := .leaf (.exit 2, [(0,.sl 0 0 1 32 none),(1,.sl 1 0 1 32 none),(5,.sl 2 0 1 64 (some 64)),(6,.int .i64 (a.i : Nat))], [.ints a.A, .ints a.B, .ints (W4.dg 64 (pri_T a))])
def pri_s : SmT := whT 7 [0,1,5,6,7,8] pri_read pri_ok pri_E
theorem pri_at : SmAtT Pr Go.Proofs.Tryd.f99 2 pri_s 1 := by
  refine whT_x OR3_sound mixed pri_S (fun a => 64 - a.k) (fun a => pri_x a.A a.B (pri_O a) a.i a.k (pri_c a)) (by kernel_rfl) (by kernel_rfl) (by kernel_rfl) LoopsOk.noneT ?_ ?_
  · intro f g a h
    unfold pri_read at h
    split at h <;> cases h
    rfl
  · rintro ⟨A, B, O, i, k⟩ q hok hq
    obtain ⟨hA, hB, hO, hi, hk, hf⟩ : pri_P ⟨A, B, O, i, k⟩ := @of_decide_eq_true _ (Classical.propDecidable _) hok
    simp only [pri_T] at hA hB hO hi hk hf
    rw [pri_E, Tr.is_leaf] at hq
    simp only [pri_T] at hq ⊢
    have hAg : A.getD i 0 = (((A.getD i 0).toNat : Nat) : Int) := by rw [hA, W4.dg_get hi]; rfl
    have hxl : (A.getD i 0).toNat < 256 := by rw [hA, W4.dg_get hi, Int.toNat_natCast]; exact Nat.mod_lt _ (by decide)
    have hAl : A.length = 32 := by rw [hA, W4.dg_length]
    have hBg : ∀ j, j < 32 → B.getD j 0 = ((W4.valI B / 256 ^ j % 256 : Nat) : Int) := fun j hj => by
      conv => lhs; rw [hB, W4.dg_get hj]
    have hyl : W4.valI B < 256 ^ 32 := by rw [hB, W4.valI_dg]; exact Nat.mod_lt _ (by decide)
    have hBl : B.length = 32 := by rw [hB, W4.dg_length]
    have hc : ∀ j, pri_c ⟨A, B, O, i, j⟩ = ((W4.prC (W4.valI O) (A.getD i 0).toNat (W4.valI B) i j : Nat) : Int) := by
      intro j; unfold pri_c; split
      · rename_i h; rw [show j = 0 from h, (W4.pr_zero _ _ _ _).1]; rfl
      · rfl
    have hV : ∀ j, pri_O ⟨A, B, O, i, j⟩ = W4.dg 64 (W4.prV (W4.valI O) (A.getD i 0).toNat (W4.valI B) i j) := by
      intro j; unfold pri_O; split
      · rename_i h; rw [show j = 0 from h, (W4.pr_zero _ _ _ _).2]; exact hO
      · rfl
    have hS : ∀ j, pri_S ⟨A, B, O, i, j⟩ = ([(0,.sl 0 0 1 32 none),(1,.sl 1 0 1 32 none),(5,.sl 2 0 1 64 (some 64)),(6,.int .i64 (i : Nat)),(7,.int .i64 ((W4.prC (W4.valI O) (A.getD i 0).toNat (W4.valI B) i j : Nat) : Int)),(8,.int .i64 (j : Nat))], [.ints A, .ints B, .ints (W4.dg 64 (W4.prV (W4.valI O) (A.getD i 0).toNat (W4.valI B) i j))]) := by
      intro j; rw [pri_S, hc, hV]
    have hcl := W4.prC_le (m := W4.valI O) (y := W4.valI B) (i := i) (k := k) hxl
    have hsucc := W4.prC_succ (W4.valI O) (A.getD i 0).toNat (W4.valI B) i k
    have hput := fun h => W4.pr_put (N := 64) (m := W4.valI O) (xi := (A.getD i 0).toNat) (y := W4.valI B) (i := i) (k := k) h
    have hmore := fun hy h => W4.pr_more (m := W4.valI O) (xi := (A.getD i 0).toNat) (y := W4.valI B) (i := i) (k := k) hy hf h
    have hend := fun hy h => W4.pr_end (m := W4.valI O) (xi := (A.getD i 0).toNat) (y := W4.valI B) (i := i) (k := k) hy h
    have hy32 : 32 ≤ k → W4.valI B < 256 ^ k := fun h => Nat.lt_of_lt_of_le hyl (Nat.pow_le_pow_right (by decide) h)
    have hnx : ∀ j, i + k < 64 → j = k + 1 → pri_ok ⟨A, B, O, i, j⟩ = true := by
      rintro _ h rfl
      exact @decide_eq_true _ (Classical.propDecidable _) ⟨hA, hB, hO, hi, (by show k + 1 ≤ 64; omega), hf⟩
    have hyk : W4.valI B / 256 ^ k % 256 < 256 := Nat.mod_lt _ (by decide)
    have hvk : W4.prV (W4.valI O) (A.getD i 0).toNat (W4.valI B) i k / 256 ^ (i + k) % 256 < 256 := Nat.mod_lt _ (by decide)
    have hmul : (A.getD i 0).toNat * (W4.valI B / 256 ^ k % 256) ≤ 255 * 255 := Nat.mul_le_mul (by omega) (by omega)
    simp only [hc, hV, hS, wp_chk, wp_leaf, wp_br, decide_eq_true_eq, decide_eq_false_iff_not, true_and, W4.dg_length, hAl, hBl]
    have ht1 : k < 32 → wrapI .i64 (wrapI .i64 (((W4.prC (W4.valI O) (A.getD i 0).toNat (W4.valI B) i k : Nat) : Int) + wrapI .i64 (A.getD i 0 * B.getD k 0)) + ((W4.prV (W4.valI O) (A.getD i 0).toNat (W4.valI B) i k / 256 ^ (i + k) % 256 : Nat) : Int)) = ((W4.prC (W4.valI O) (A.getD i 0).toNat (W4.valI B) i k + (A.getD i 0).toNat * (W4.valI B / 256 ^ k % 256) + W4.prV (W4.valI O) (A.getD i 0).toNat (W4.valI B) i k / 256 ^ (i + k) % 256 : Nat) : Int) := by
      intro h
      rw [hBg k h, hAg, Int.toNat_natCast, ← Int.natCast_mul, wrapI_nat (n := _ * _) (by omega), ← Int.natCast_add, wrapI_nat (n := _ + _ * _) (by omega), ← Int.natCast_add, wrapI_nat (by omega)]
    have hz : 32 ≤ k → W4.valI B / 256 ^ k % 256 = 0 := fun h => by rw [Nat.div_eq_of_lt (hy32 h)]
    have ht2 : 32 ≤ k → wrapI .i64 (((W4.prC (W4.valI O) (A.getD i 0).toNat (W4.valI B) i k : Nat) : Int) + ((W4.prV (W4.valI O) (A.getD i 0).toNat (W4.valI B) i k / 256 ^ (i + k) % 256 : Nat) : Int)) = ((W4.prC (W4.valI O) (A.getD i 0).toNat (W4.valI B) i k + (A.getD i 0).toNat * (W4.valI B / 256 ^ k % 256) + W4.prV (W4.valI O) (A.getD i 0).toNat (W4.valI B) i k / 256 ^ (i + k) % 256 : Nat) : Int) := by
      intro h
      rw [hz h, Nat.mul_zero, Nat.add_zero, ← Int.natCast_add, wrapI_nat (by omega)]
    have hik : ((i : Int) + (k : Int)) = ((i + k : Nat) : Int) := by omega
    refine ⟨fun h1 => ⟨fun _ => ⟨?_, .inl ?_⟩, fun h2 => absurd h1 h2⟩, fun h1 => ⟨fun h2 => ⟨fun h3 => absurd h3 h1, fun h3 => ⟨?_, .inl ?_⟩⟩, fun h2 => .inr ⟨fun h => (by cases h), ?_⟩⟩⟩
    · rw [hik, wrapI_nat (by omega)]
      simp only [Bool.and_eq_true, decide_eq_true_eq]
      (repeat' apply And.intro) <;> first | omega | trivial
    · have h64 : i + k < 64 := by omega
      refine ⟨⟨A, B, O, i, k + 1⟩, ?_, hnx _ h64 rfl, by show 64 - (k + 1) < 64 - k; omega, by rw [pri_E, Tr.is_leaf, ← hq]; rfl⟩
      rw [hS, hik, wrapI_nat (n := i + k) (by omega), Int.toNat_natCast, Nat.zero_add, Nat.mul_one, Nat.zero_add, Nat.mul_one, Nat.zero_add, Nat.mul_one, W4.dg_get h64, ht1 (by omega), tdiv_lit, tmod_lit, hput h64, hsucc, wrapI_nat (by omega)]
      rw [show ((k : Int) + 1) = ((k + 1 : Nat) : Int) by omega, wrapI_nat (by omega)]
    · have h64 : i + k < 64 := hmore (hy32 (by omega)) (by omega)
      rw [hik, wrapI_nat (by omega)]
      simp only [Bool.and_eq_true, decide_eq_true_eq]
      (repeat' apply And.intro) <;> first | omega | trivial
    · have h64 : i + k < 64 := hmore (hy32 (by omega)) (by omega)
      refine ⟨⟨A, B, O, i, k + 1⟩, ?_, hnx _ h64 rfl, by show 64 - (k + 1) < 64 - k; omega, by rw [pri_E, Tr.is_leaf, ← hq]; rfl⟩
      rw [hS, hik, wrapI_nat (n := i + k) (by omega), Int.toNat_natCast, Nat.zero_add, Nat.mul_one, W4.dg_get h64, ht2 (by omega), tdiv_lit, tmod_lit, hput h64, hsucc, wrapI_nat (by omega)]
      rw [show ((k : Int) + 1) = ((k + 1 : Nat) : Int) by omega, wrapI_nat (by omega)]
    · rw [← hq, hend (hy32 (by omega)) (by omega)]
end
end Go.Proofs.YtajbaocfdlopbaaDoor.K
end
section
open Go Go.Lh
namespace Go.Proofs.YtajbaocfdlopbaaDoor.K
noncomputable section
set_option maxRecDepth 100000
structure PoS where
  A : List Int
  B : List Int
  O : List Int
theorem pri_Ls : LoopsOk Pr Go.Proofs.Tryd.f99 2 (smLT 2 [pri_s]).o := LoopsOk.one (by kernel_rfl) pri_at
theorem pro_x (A : List Int) (B : List Int) (O : List Int) (i : Nat) : Tr.prune (Tr.Sh.any.both Tr.Sh.any)
  (execBN Pr OR3 (smLT (2 : Nat) [pri_s]) (100 : Nat) (2 : Nat) [(0 : Nat), (1 : Nat), (5 : Nat), (6 : Nat)] [(5 : Nat)]
  (loopBody Go.Proofs.Tryd.f99 (0 : Nat))
  [((0 : Nat), V.sl (0 : Nat) (0 : Nat) (1 : Nat) (32 : Nat) none),
    ((1 : Nat), V.sl (1 : Nat) (0 : Nat) (1 : Nat) (32 : Nat) none),
    ((5 : Nat), V.sl (2 : Nat) (0 : Nat) (1 : Nat) (64 : Nat) (some (64 : Nat))),
    ((6 : Nat), V.int IntKind.i64 (↑i : Int))]
  [Blk.ints A, Blk.ints B, Blk.ints O]) =
  Tr.chk true
  (Tr.br (decide ((↑i : Int) < (32 : Int)))
    (Tr.chk (pri_ok (PrS.mk A B O i (0 : Nat)) && true)
      (Tr.leaf
        (X.normal,
          [((0 : Nat), V.sl (0 : Nat) (0 : Nat) (1 : Nat) (32 : Nat) none),
            ((1 : Nat), V.sl (1 : Nat) (0 : Nat) (1 : Nat) (32 : Nat) none),
            ((5 : Nat), V.sl (2 : Nat) (0 : Nat) (1 : Nat) (64 : Nat) (some (64 : Nat))),
            ((6 : Nat), V.int IntKind.i64 (wrapI IntKind.i64 ((↑i : Int) + (1 : Int))))],
          [Blk.ints A, Blk.ints B, Blk.ints (W4.dg (64 : Nat) (pri_T (PrS.mk A B O i (0 : Nat))))])))
    (Tr.leaf
      (X.exit (0 : Nat), [((5 : Nat), V.sl (2 : Nat) (0 : Nat) (1 : Nat) (64 : Nat) (some (64 : Nat)))],
        [Blk.ints A, Blk.ints B, Blk.ints O]))) := by kernel_rfl
def pro_O (a : PoS) (i : Nat) : List Int := if i = 0 then a.O else W4.dg 64 (W4.valI a.A % 256 ^ i * W4.valI a.B)
def pro_S (a : PoS) (i : Nat) : Fr × Heap := ([(0,.sl 0 0 1 32 none),(1,.sl 1 0 1 32 none),(5,.sl 2 0 1 64 (some 64)),(6,.int .i64 (i : Nat))], [.ints a.A, .ints a.B, .ints (pro_O a i)])
def pro_read : Fr → Heap → Option PoS := fun f h => match f, h with
  | [(0,.sl 0 0 1 32 none),(1,.sl 1 0 1 32 none),(5,.sl 2 0 1 64 (some 64)),(6,.int .i64 0)], [.ints A, .ints B, .ints O] => some ⟨A, B, O⟩
  | _, _ => none
def pro_ok (a : PoS) : Bool := W4.isD 32 a.A && (W4.isD 32 a.B && W4.is0 64 a.O)
def pro_E (a : PoS) : Tr (X × Fr × Heap) := .leaf (.exit 0, [(5,.sl 2 0 1 64 (some 64))], [.ints a.A, .ints a.B, .ints (W4.dg 64 (W4.valI a.A * W4.valI a.B))])
def pro_s : SmT := whT 3 [0,1,5,6] pro_read pro_ok pro_E
theorem prod_x (A : List Int) (B : List Int) : Tr.prune (Tr.Sh.any)
  (execBF Pr OR3 (smLT (2 : Nat) [pro_s]) (100 : Nat) Go.Proofs.Tryd.f99
  [V.sl (0 : Nat) (0 : Nat) (1 : Nat) (32 : Nat) none, V.sl (1 : Nat) (0 : Nat) (1 : Nat) (32 : Nat) none]
  [Blk.ints A, Blk.ints B]) =
  Tr.chk (pro_ok (PoS.mk A B (List.replicate (64 : Nat) (0 : Int))) && true && true)
  (Tr.leaf
    (Fin.ret (V.sl (2 : Nat) (0 : Nat) (1 : Nat) (64 : Nat) (some (64 : Nat))),
      [Blk.ints A, Blk.ints B, Blk.ints (W4.dg (64 : Nat) (W4.valI A * W4.valI B))])) := by kernel_rfl
end
end Go.Proofs.YtajbaocfdlopbaaDoor.K
end
section
open Go Go.Lh
namespace Go.Proofs.YtajbaocfdlopbaaDoor.K
noncomputable section
set_option maxRecDepth 100000
theorem pro_at : SmAtT Pr Go.Proofs.Tryd.f99 2 pro_s 0 := by
  refine cntT_x OR3_sound mixed pro_S (fun _ => 32) (fun a i => pro_x a.A a.B (pro_O a i) i) (by kernel_rfl) (by kernel_rfl) (by kernel_rfl) pri_Ls ?_ ?_
  · intro f g a h
    unfold pro_read at h
    split at h <;> cases h
    rfl
  · rintro ⟨A, B, O⟩ q hok hq i hi
    simp only [pro_ok, Bool.and_eq_true, W4.isD_iff, W4.is0_iff] at hok
    obtain ⟨hA, hB, hO⟩ := hok
    rw [pro_E, Tr.is_leaf] at hq
    simp only at hq hi ⊢
    have hxl : W4.valI A < 256 ^ 32 := by rw [hA, W4.valI_dg]; exact Nat.mod_lt _ (by decide)
    have hyl : W4.valI B < 256 ^ 32 := by rw [hB, W4.valI_dg]; exact Nat.mod_lt _ (by decide)
    have hV : ∀ j, pro_O ⟨A, B, O⟩ j = W4.dg 64 (W4.valI A % 256 ^ j * W4.valI B) := by
      intro j; unfold pro_O; split
      · rename_i h; subst h; rw [Nat.pow_zero, Nat.mod_one, Nat.zero_mul]; exact hO
      · rfl
    have hlt : ∀ j, W4.valI A % 256 ^ j * W4.valI B < 256 ^ 64 := fun j => by
      have h1 : W4.valI A % 256 ^ j ≤ W4.valI A := Nat.mod_le _ _
      have h2 : W4.valI A % 256 ^ j * W4.valI B ≤ W4.valI A * W4.valI B := Nat.mul_le_mul_right _ h1
      have h3 : W4.valI A * W4.valI B < 256 ^ 32 * 256 ^ 32 := Nat.mul_lt_mul_of_lt_of_le hxl (Nat.le_of_lt hyl) (by decide)
      rw [← Nat.pow_add] at h3
      exact Nat.lt_of_le_of_lt h2 h3
    have hT : i < 32 → pri_T ⟨A, B, W4.dg 64 (W4.valI A % 256 ^ i * W4.valI B), i, 0⟩ = W4.valI A % 256 ^ (i + 1) * W4.valI B := by
      intro h
      have hg : (A.getD i 0).toNat = W4.valI A / 256 ^ i % 256 := by
        conv => lhs; rw [hA, W4.dg_get h]
        rfl
      simp only [pri_T]
      rw [W4.valI_dg, Nat.mod_eq_of_lt (hlt i), hg, Nat.mod_pow_succ, Nat.add_mul]
      ac_rfl
    simp only [hV, wp_chk, wp_leaf, wp_br, decide_eq_true_eq, decide_eq_false_iff_not, true_and, Bool.and_true]
    refine ⟨fun h => ⟨?_, .inl ⟨by omega, ?_⟩⟩, fun h => .inr ⟨fun h => (by cases h), ?_⟩⟩
    · refine @decide_eq_true _ (Classical.propDecidable _) ⟨hA, hB, ?_, (by show i < 32; omega), Nat.zero_le _, ?_⟩
      · show W4.dg 64 _ = W4.dg 64 (W4.valI (W4.dg 64 _))
        rw [W4.valI_dg, W4.dg_mod]
      · rw [hT (by omega)]; exact hlt _
    · rw [hT (by omega), pro_S, hV, show ((i : Int) + 1) = ((i + 1 : Nat) : Int) by omega, wrapI_nat (by omega)]
    · have e : i = 32 := by omega
      rw [← hq, e, Nat.mod_eq_of_lt hxl]
theorem pro_Ls : LoopsOk Pr Go.Proofs.Tryd.f99 2 (smLT 2 [pro_s]).o := LoopsOk.one (by kernel_rfl) pro_at
theorem prod_fn (x y : Nat) (hx : x < 256 ^ 32) (hy : y < 256 ^ 32) : LFn Pr 99 [.sl 0 0 1 32 none, .sl 1 0 1 32 none] [.ints (W4.dg 32 x), .ints (W4.dg 32 y)] (.ret (.sl 2 0 1 64 (some 64))) [.ints (W4.dg 32 x), .ints (W4.dg 32 y), .ints (W4.dg 64 (x * y))] := by
  refine fnT OR3_sound mixed (by kernel_rfl) pro_Ls (prod_x (W4.dg 32 x) (W4.dg 32 y)) (tr1 ?_ ?_)
  · simp only [pro_ok, W4.isD_dg, W4.is0_rep, Bool.and_true]
  · rw [W4.valI_dg, W4.valI_dg, Nat.mod_eq_of_lt hx, Nat.mod_eq_of_lt hy]
def readD2 : List V → Heap → Option (List Int × List Int) := fun args h => match args, h with
  | [.sl 0 0 1 32 none, .sl 1 0 1 32 none], [.ints xs, .ints ys] => some (xs, ys)
  | _, _ => none
def sum_g : List V → Heap → Tr (Fin × Heap) := ctT readD2 (fun a => .chk (W4.isD 32 a.1 && W4.isD 32 a.2) (.leaf (.ret (.sl 2 0 1 32 none), [.ints a.1, .ints a.2, .ints (W4.dg 32 (W4.valI a.1 + W4.valI a.2))])))
def prod_g : List V → Heap → Tr (Fin × Heap) := ctT readD2 (fun a => .chk (W4.isD 32 a.1 && W4.isD 32 a.2) (.leaf (.ret (.sl 2 0 1 64 (some 64)), [.ints a.1, .ints a.2, .ints (W4.dg 64 (W4.valI a.1 * W4.valI a.2))])))
theorem readD2_ok : ∀ args h a, readD2 args h = some a → args = [.sl 0 0 1 32 none, .sl 1 0 1 32 none] ∧ h = [.ints a.1, .ints a.2] := by
  intro args h a e
  unfold readD2 at e
  split at e <;> cases e
  exact ⟨rfl, rfl⟩
theorem sum_ok : ∀ args h r, (sum_g args h).is r → LFn Pr 98 args h r.1 r.2 := by
  refine ctT_ok (fun _ => [.sl 0 0 1 32 none, .sl 1 0 1 32 none]) (fun a => [.ints a.1, .ints a.2]) readD2_ok (fun a r h => ?_)
  obtain ⟨xs, ys⟩ := a
  rw [Tr.is_chk, Tr.is_leaf] at h
  obtain ⟨h, rfl⟩ := h
  simp only [Bool.and_eq_true, W4.isD_iff] at h
  have := sum_fn (W4.valI xs) (W4.valI ys)
  rw [← h.1, ← h.2] at this
  exact this
theorem prod_ok : ∀ args h r, (prod_g args h).is r → LFn Pr 99 args h r.1 r.2 := by
  refine ctT_ok (fun _ => [.sl 0 0 1 32 none, .sl 1 0 1 32 none]) (fun a => [.ints a.1, .ints a.2]) readD2_ok (fun a r h => ?_)
  obtain ⟨xs, ys⟩ := a
  rw [Tr.is_chk, Tr.is_leaf] at h
  obtain ⟨h, rfl⟩ := h
  simp only [Bool.and_eq_true, W4.isD_iff] at h
  have h1 : W4.valI xs < 256 ^ 32 := by rw [h.1, W4.valI_dg]; exact Nat.mod_lt _ (by decide)
  have h2 : W4.valI ys < 256 ^ 32 := by rw [h.2, W4.valI_dg]; exact Nat.mod_lt _ (by decide)
  have := prod_fn (W4.valI xs) (W4.valI ys) h1 h2
  rw [← h.1, ← h.2] at this
  exact this
theorem sum_en : Enters Pr 98 := Enters.of (fn := Go.Proofs.Tryd.f98) (by kernel_rfl) (by kernel_rfl)
theorem prod_en : Enters Pr 99 := Enters.of (fn := Go.Proofs.Tryd.f99) (by kernel_rfl) (by kernel_rfl)
def KR4 : KnownT := (98, sum_g) :: (99, prod_g) :: KR3
theorem KR4_ok : KOkT Pr KR4 := KOkT.cons sum_en sum_ok (KOkT.cons prod_en prod_ok KR3_ok)
def OR4 : OrcT := autoT Pr ext KR4 [94, 93] 3
theorem OR4_sound : OrcSound Pr OR4.o := autoT_sound mixed ext_ok KR4_ok (by kernel_rfl) 3
theorem radd_x (a : W4) (b : W4) : Tr.prune (Tr.Sh.any)
  (execBF Pr OR4 noLoopsT (100 : Nat) Go.Proofs.Tryd.f41 [a.v, b.v] []) =
  Tr.chk
  (W4.isD (32 : Nat) (W4.dg (32 : Nat) a.n) && W4.isD (32 : Nat) (W4.dg (32 : Nat) b.n) &&
      ((true || false) &&
          W4.isD (32 : Nat) (W4.dg (32 : Nat) (W4.valI (W4.dg (32 : Nat) a.n) + W4.valI (W4.dg (32 : Nat) b.n))) &&
        true) &&
    true)
  (Tr.leaf
    (Fin.ret
        (V.agg
          [V.u64
              (W4.ofN (W4.valI (W4.dg (32 : Nat) (W4.valI (W4.dg (32 : Nat) a.n) + W4.valI (W4.dg (32 : Nat) b.n))))).a,
            V.u64
              (W4.ofN (W4.valI (W4.dg (32 : Nat) (W4.valI (W4.dg (32 : Nat) a.n) + W4.valI (W4.dg (32 : Nat) b.n))))).b,
            V.u64
              (W4.ofN (W4.valI (W4.dg (32 : Nat) (W4.valI (W4.dg (32 : Nat) a.n) + W4.valI (W4.dg (32 : Nat) b.n))))).c,
            V.u64
              (W4.ofN
                  (W4.valI (W4.dg (32 : Nat) (W4.valI (W4.dg (32 : Nat) a.n) + W4.valI (W4.dg (32 : Nat) b.n))))).d]),
      [])) := by kernel_rfl
theorem rmul_x (a : W4) (b : W4) : Tr.prune (Tr.Sh.any)
  (execBF Pr OR4 noLoopsT (100 : Nat) Go.Proofs.Tryd.f43 [a.v, b.v] []) =
  Tr.chk
  (W4.isD (32 : Nat) (W4.dg (32 : Nat) a.n) && W4.isD (32 : Nat) (W4.dg (32 : Nat) b.n) &&
      ((false || true) &&
          W4.isD (64 : Nat) (W4.dg (64 : Nat) (W4.valI (W4.dg (32 : Nat) a.n) * W4.valI (W4.dg (32 : Nat) b.n))) &&
        true) &&
    true)
  (Tr.leaf
    (Fin.ret
        (V.agg
          [V.u64
              (W4.ofN (W4.valI (W4.dg (64 : Nat) (W4.valI (W4.dg (32 : Nat) a.n) * W4.valI (W4.dg (32 : Nat) b.n))))).a,
            V.u64
              (W4.ofN (W4.valI (W4.dg (64 : Nat) (W4.valI (W4.dg (32 : Nat) a.n) * W4.valI (W4.dg (32 : Nat) b.n))))).b,
            V.u64
              (W4.ofN (W4.valI (W4.dg (64 : Nat) (W4.valI (W4.dg (32 : Nat) a.n) * W4.valI (W4.dg (32 : Nat) b.n))))).c,
            V.u64
              (W4.ofN
                  (W4.valI (W4.dg (64 : Nat) (W4.valI (W4.dg (32 : Nat) a.n) * W4.valI (W4.dg (32 : Nat) b.n))))).d]),
      [])) := by kernel_rfl
theorem rbelow_x (a : W4) (b : W4) : Tr.prune (Tr.Sh.any.both Tr.Sh.any)
  (execBF Pr OR4 noLoopsT (100 : Nat) Go.Proofs.Tryd.f48 [a.v, b.v] []) =
  Tr.chk true
  (Tr.br
    (!(a.a >>> (63 : Nat) == BitVec.ofInt (64 : Nat) (1 : Int)) ==
        (b.a >>> (63 : Nat) == BitVec.ofInt (64 : Nat) (1 : Int)))
    (Tr.chk true (Tr.leaf (Fin.ret (V.bool (a.a >>> (63 : Nat) == BitVec.ofInt (64 : Nat) (1 : Int))), [])))
    (Tr.chk true (Tr.leaf (Fin.ret (V.bool (a.lt b)), [])))) := by kernel_rfl
end
end Go.Proofs.YtajbaocfdlopbaaDoor.K
end
section
open Go Go.Lh
namespace Go.Proofs.YtajbaocfdlopbaaDoor.K
noncomputable section
set_option maxRecDepth 100000
theorem radd_fn (a b : W4) : LFn Pr 41 [a.v, b.v] [] (.ret (W4.add a b).v) [] := by
  refine fnT OR4_sound mixed (by kernel_rfl) LoopsOk.noneT (radd_x a b) (tr1 ?_ ?_)
  · rw [W4.isD_dg, W4.isD_dg, W4.isD_dg]; rfl
  · have e : W4.ofN (W4.valI (W4.dg 32 (W4.valI (W4.dg 32 a.n) + W4.valI (W4.dg 32 b.n)))) = a.add b := W4.ext_n (by
      rw [valI_dg32 a.n_lt, valI_dg32 b.n_lt, W4.valI_dg, W4.ofN_n, W4.add_n, show (256 : Nat) ^ 32 = 2 ^ 256 from rfl, Nat.mod_mod])
    rw [e]; rfl
theorem rmul_fn (a b : W4) : LFn Pr 43 [a.v, b.v] [] (.ret (W4.mul a b).v) [] := by
  refine fnT OR4_sound mixed (by kernel_rfl) LoopsOk.noneT (rmul_x a b) (tr1 ?_ ?_)
  · rw [W4.isD_dg, W4.isD_dg, W4.isD_dg]; rfl
  · have e : W4.ofN (W4.valI (W4.dg 64 (W4.valI (W4.dg 32 a.n) * W4.valI (W4.dg 32 b.n)))) = a.mul b := W4.ext_n (by
      rw [valI_dg32 a.n_lt, valI_dg32 b.n_lt, W4.valI_dg, W4.ofN_n, W4.mul_n, show (256 : Nat) ^ 64 = 2 ^ 256 * 2 ^ 256 from rfl, Nat.mod_mul_right_mod])
    rw [e]; rfl
theorem topB (x : W4) : (x.a >>> 63 == BitVec.ofInt 64 1) = decide (2 ^ 255 ≤ x.n) := by
  rw [Bool.eq_iff_iff, beq_iff_eq, decide_eq_true_iff, top1]; omega
theorem rbelow_fn (a b : W4) : LFn Pr 48 [a.v, b.v] [] (.ret (.bool (slt a b))) [] := by
  refine fnT OR4_sound mixed (by kernel_rfl) LoopsOk.noneT (rbelow_x a b) ?_
  simp only [wp_chk_true, wp_br, wp_leaf, ret_inj, and_true, bool_inj, topB, slt_sign, Bool.not_eq_true', beq_iff_eq, decide_eq_decide, beq_eq_false_iff_ne, ne_eq, Bool.not_eq_false', decide_eq_true_eq, W4.lt]
  refine ⟨fun h => ?_, fun h => ?_⟩
  · by_cases h1 : 2 ^ 255 ≤ a.n <;> by_cases h2 : 2 ^ 255 ≤ b.n <;> simp [h1, h2] at h ⊢ <;> omega
  · have h : (2 ^ 255 ≤ a.n ↔ 2 ^ 255 ≤ b.n) := by
      by_cases h1 : 2 ^ 255 ≤ a.n <;> by_cases h2 : 2 ^ 255 ≤ b.n <;> simp [h1, h2] at h ⊢
    omega
theorem radd_en : Enters Pr 41 := Enters.of (fn := Go.Proofs.Tryd.f41) (by kernel_rfl) (by kernel_rfl)
theorem rmul_en : Enters Pr 43 := Enters.of (fn := Go.Proofs.Tryd.f43) (by kernel_rfl) (by kernel_rfl)
theorem rbelow_en : Enters Pr 48 := Enters.of (fn := Go.Proofs.Tryd.f48) (by kernel_rfl) (by kernel_rfl)
def KR5 : KnownT := (41, old (ctWW fun x y => (W4.add x y).v)) :: (43, old (ctWW fun x y => (W4.mul x y).v)) :: (48, old (ctWW fun x y => .bool (slt x y))) :: KR4
theorem KR5_ok : KOkT Pr KR5 := KOkT.cons radd_en (old_ok (ctWW_ok radd_fn)) (KOkT.cons rmul_en (old_ok (ctWW_ok rmul_fn)) (KOkT.cons rbelow_en (old_ok (ctWW_ok rbelow_fn)) KR4_ok))
def OR5 : OrcT := autoT Pr ext KR5 [94] 3
theorem OR5_sound : OrcSound Pr OR5.o := autoT_sound mixed ext_ok KR5_ok (by kernel_rfl) 3
theorem rsub_x (a : W4) (b : W4) : Tr.prune (Tr.Sh.any)
  (execBF Pr OR5 noLoopsT (100 : Nat) Go.Proofs.Tryd.f42 [a.v, b.v] []) =
  Tr.chk true
  (Tr.leaf
    (Fin.ret
        (V.agg
          [V.u64
              (a.add
                  (b.notW.add
                    (W4.mk (BitVec.ofInt (64 : Nat) (0 : Int)) (BitVec.ofInt (64 : Nat) (0 : Int))
                      (BitVec.ofInt (64 : Nat) (0 : Int)) (BitVec.ofInt (64 : Nat) (1 : Int))))).a,
            V.u64
              (a.add
                  (b.notW.add
                    (W4.mk (BitVec.ofInt (64 : Nat) (0 : Int)) (BitVec.ofInt (64 : Nat) (0 : Int))
                      (BitVec.ofInt (64 : Nat) (0 : Int)) (BitVec.ofInt (64 : Nat) (1 : Int))))).b,
            V.u64
              (a.add
                  (b.notW.add
                    (W4.mk (BitVec.ofInt (64 : Nat) (0 : Int)) (BitVec.ofInt (64 : Nat) (0 : Int))
                      (BitVec.ofInt (64 : Nat) (0 : Int)) (BitVec.ofInt (64 : Nat) (1 : Int))))).c,
            V.u64
              (a.add
                  (b.notW.add
                    (W4.mk (BitVec.ofInt (64 : Nat) (0 : Int)) (BitVec.ofInt (64 : Nat) (0 : Int))
                      (BitVec.ofInt (64 : Nat) (0 : Int)) (BitVec.ofInt (64 : Nat) (1 : Int))))).d]),
      [])) := by kernel_rfl
theorem rsub_fn (a b : W4) : LFn Pr 42 [a.v, b.v] [] (.ret (W4.sub a b).v) [] := by
  refine fnT OR5_sound mixed (by kernel_rfl) LoopsOk.noneT (rsub_x a b) (tr1 rfl ?_)
  have e : a.add (b.notW.add ⟨BitVec.ofInt 64 0, BitVec.ofInt 64 0, BitVec.ofInt 64 0, BitVec.ofInt 64 1⟩) = a.sub b := W4.ext_n (by
    have h1 : (⟨BitVec.ofInt 64 0, BitVec.ofInt 64 0, BitVec.ofInt 64 0, BitVec.ofInt 64 1⟩ : W4).n = 1 := rfl
    rw [W4.add_n, W4.add_n, W4.not_n, h1, W4.sub_nn]
    have := a.n_lt
    have := b.n_lt
    omega)
  rw [← e]; rfl
theorem rsub_en : Enters Pr 42 := Enters.of (fn := Go.Proofs.Tryd.f42) (by kernel_rfl) (by kernel_rfl)
def KR6 : KnownT := (42, old (ctWW fun x y => (W4.sub x y).v)) :: KR5
theorem KR6_ok : KOkT Pr KR6 := KOkT.cons rsub_en (old_ok (ctWW_ok rsub_fn)) KR5_ok
def OR6 : OrcT := autoT Pr ext KR6 [] 3
theorem OR6_sound : OrcSound Pr OR6.o := autoT_sound mixed ext_ok KR6_ok (by kernel_rfl) 3
theorem dvl_x (A : List Int) (Q : List Int) (b : W4) (r : W4) (u : List (BitVec 64)) (i : Int) : Tr.prune ((Tr.Sh.any.l.l.l.l.both
      (Tr.Sh.any.both Tr.Sh.any).r.r.r).both
  Tr.Sh.any)
  (execBN Pr OR6 noLoopsT (100 : Nat) (1 : Nat) [(0 : Nat), (3 : Nat), (5 : Nat), (6 : Nat), (7 : Nat), (8 : Nat)]
  [(5 : Nat), (6 : Nat), (7 : Nat)] (loopBody Go.Proofs.Tryd.f100 (0 : Nat))
  [((0 : Nat), V.sl (0 : Nat) (0 : Nat) (1 : Nat) (32 : Nat) none), ((3 : Nat), V.ptr (1 : Nat) (0 : Nat)),
    ((5 : Nat), V.ptr (2 : Nat) (0 : Nat)),
    ((6 : Nat), V.sl (3 : Nat) (0 : Nat) (1 : Nat) (32 : Nat) (some (32 : Nat))),
    ((7 : Nat), V.ptr (4 : Nat) (0 : Nat)), ((8 : Nat), V.int IntKind.i64 i)]
  [Blk.ints A, Blk.b64 [b.a, b.b, b.c, b.d], Blk.b64 u, Blk.ints Q, Blk.b64 [r.a, r.b, r.c, r.d]]) =
  Tr.chk true
  (Tr.br (decide (i ≥ (0 : Int)))
    (Tr.chk
      (decide ((0 : Int) ≤ wrapI IntKind.i64 (i.tdiv (8 : Int))) &&
            decide (wrapI IntKind.i64 (i.tdiv (8 : Int)) < (32 : Int)) &&
          (decide ((0 : Nat) + (wrapI IntKind.i64 (i.tdiv (8 : Int))).toNat * (1 : Nat) < A.length) &&
            (decide ((0 : Int) ≤ i.tmod (8 : Int)) && true)) &&
        true)
      (Tr.br (r.a >>> (63 : Nat) == BitVec.ofInt (64 : Nat) (1 : Int))
        (Tr.chk
          (decide ((0 : Int) ≤ wrapI IntKind.i64 (i.tdiv (8 : Int))) &&
                decide (wrapI IntKind.i64 (i.tdiv (8 : Int)) < (32 : Int)) &&
              (decide ((0 : Nat) + (wrapI IntKind.i64 (i.tdiv (8 : Int))).toNat * (1 : Nat) < Q.length) &&
                (decide ((0 : Int) ≤ i.tmod (8 : Int)) &&
                  (decide ((0 : Int) ≤ wrapI IntKind.i64 (i.tdiv (8 : Int))) &&
                      decide (wrapI IntKind.i64 (i.tdiv (8 : Int)) < (32 : Int)) &&
                    decide
                      ((0 : Nat) + (wrapI IntKind.i64 (i.tdiv (8 : Int))).toNat * (1 : Nat) + (1 : Nat) ≤
                        Q.length)))) &&
            true)
          (Tr.leaf
            (X.normal,
              [((0 : Nat), V.sl (0 : Nat) (0 : Nat) (1 : Nat) (32 : Nat) none), ((3 : Nat), V.ptr (1 : Nat) (0 : Nat)),
                ((5 : Nat), V.ptr (2 : Nat) (0 : Nat)),
                ((6 : Nat), V.sl (3 : Nat) (0 : Nat) (1 : Nat) (32 : Nat) (some (32 : Nat))),
                ((7 : Nat), V.ptr (4 : Nat) (0 : Nat)),
                ((8 : Nat), V.int IntKind.i64 (wrapI IntKind.i64 (i - (1 : Int))))],
              [Blk.ints A, Blk.b64 [b.a, b.b, b.c, b.d], Blk.b64 u,
                Blk.ints
                  (Q.set ((0 : Nat) + (wrapI IntKind.i64 (i.tdiv (8 : Int))).toNat * (1 : Nat))
                    (wrapI IntKind.i64
                      (↑(BitVec.ofInt (64 : Nat)
                                (Q.getD ((0 : Nat) + (wrapI IntKind.i64 (i.tdiv (8 : Int))).toNat * (1 : Nat))
                                  (0 : Int)) |||
                              BitVec.ofInt (64 : Nat)
                                (wrapI IntKind.i64
                                  ((1 : Int) * (2 : Int) ^ min (i.tmod (8 : Int)).toNat (64 : Nat)))).toNat :
                        Int))),
                Blk.b64
                  [((W4.mk (r.a <<< (1 : Nat) ||| r.b >>> (63 : Nat)) (r.b <<< (1 : Nat) ||| r.c >>> (63 : Nat))
                            (r.c <<< (1 : Nat) ||| r.d >>> (63 : Nat))
                            (r.d <<< (1 : Nat) |||
                              BitVec.ofInt (64 : Nat)
                                (wrapI IntKind.i64
                                  (↑(BitVec.ofInt (64 : Nat)
                                            ((A.getD
                                                  ((0 : Nat) + (wrapI IntKind.i64 (i.tdiv (8 : Int))).toNat * (1 : Nat))
                                                  (0 : Int)).fdiv
                                              ((2 : Int) ^ min (i.tmod (8 : Int)).toNat (64 : Nat))) &&&
                                          BitVec.ofInt (64 : Nat) (1 : Int)).toNat :
                                    Int)))).sub
                        b).a,
                    ((W4.mk (r.a <<< (1 : Nat) ||| r.b >>> (63 : Nat)) (r.b <<< (1 : Nat) ||| r.c >>> (63 : Nat))
                            (r.c <<< (1 : Nat) ||| r.d >>> (63 : Nat))
                            (r.d <<< (1 : Nat) |||
                              BitVec.ofInt (64 : Nat)
                                (wrapI IntKind.i64
                                  (↑(BitVec.ofInt (64 : Nat)
                                            ((A.getD
                                                  ((0 : Nat) + (wrapI IntKind.i64 (i.tdiv (8 : Int))).toNat * (1 : Nat))
                                                  (0 : Int)).fdiv
                                              ((2 : Int) ^ min (i.tmod (8 : Int)).toNat (64 : Nat))) &&&
                                          BitVec.ofInt (64 : Nat) (1 : Int)).toNat :
                                    Int)))).sub
                        b).b,
                    ((W4.mk (r.a <<< (1 : Nat) ||| r.b >>> (63 : Nat)) (r.b <<< (1 : Nat) ||| r.c >>> (63 : Nat))
                            (r.c <<< (1 : Nat) ||| r.d >>> (63 : Nat))
                            (r.d <<< (1 : Nat) |||
                              BitVec.ofInt (64 : Nat)
                                (wrapI IntKind.i64
                                  (↑(BitVec.ofInt (64 : Nat)
                                            ((A.getD
                                                  ((0 : Nat) + (wrapI IntKind.i64 (i.tdiv (8 : Int))).toNat * (1 : Nat))
                                                  (0 : Int)).fdiv
                                              ((2 : Int) ^ min (i.tmod (8 : Int)).toNat (64 : Nat))) &&&
                                          BitVec.ofInt (64 : Nat) (1 : Int)).toNat :
                                    Int)))).sub
                        b).c,
                    ((W4.mk (r.a <<< (1 : Nat) ||| r.b >>> (63 : Nat)) (r.b <<< (1 : Nat) ||| r.c >>> (63 : Nat))
                            (r.c <<< (1 : Nat) ||| r.d >>> (63 : Nat))
                            (r.d <<< (1 : Nat) |||
                              BitVec.ofInt (64 : Nat)
                                (wrapI IntKind.i64
                                  (↑(BitVec.ofInt (64 : Nat)
                                            ((A.getD
                                                  ((0 : Nat) + (wrapI IntKind.i64 (i.tdiv (8 : Int))).toNat * (1 : Nat))
                                                  (0 : Int)).fdiv
                                              ((2 : Int) ^ min (i.tmod (8 : Int)).toNat (64 : Nat))) &&&
                                          BitVec.ofInt (64 : Nat) (1 : Int)).toNat :
                                    Int)))).sub
                        b).d]])))
        (Tr.chk true
          (Tr.br
            (!(W4.mk (r.a <<< (1 : Nat) ||| r.b >>> (63 : Nat)) (r.b <<< (1 : Nat) ||| r.c >>> (63 : Nat))
                    (r.c <<< (1 : Nat) ||| r.d >>> (63 : Nat))
                    (r.d <<< (1 : Nat) |||
                      BitVec.ofInt (64 : Nat)
                        (wrapI IntKind.i64
                          (↑(BitVec.ofInt (64 : Nat)
                                    ((A.getD ((0 : Nat) + (wrapI IntKind.i64 (i.tdiv (8 : Int))).toNat * (1 : Nat))
                                          (0 : Int)).fdiv
                                      ((2 : Int) ^ min (i.tmod (8 : Int)).toNat (64 : Nat))) &&&
                                  BitVec.ofInt (64 : Nat) (1 : Int)).toNat :
                            Int)))).lt
                b)
            (Tr.chk
              (decide ((0 : Int) ≤ wrapI IntKind.i64 (i.tdiv (8 : Int))) &&
                    decide (wrapI IntKind.i64 (i.tdiv (8 : Int)) < (32 : Int)) &&
                  (decide ((0 : Nat) + (wrapI IntKind.i64 (i.tdiv (8 : Int))).toNat * (1 : Nat) < Q.length) &&
                    (decide ((0 : Int) ≤ i.tmod (8 : Int)) &&
                      (decide ((0 : Int) ≤ wrapI IntKind.i64 (i.tdiv (8 : Int))) &&
                          decide (wrapI IntKind.i64 (i.tdiv (8 : Int)) < (32 : Int)) &&
                        decide
                          ((0 : Nat) + (wrapI IntKind.i64 (i.tdiv (8 : Int))).toNat * (1 : Nat) + (1 : Nat) ≤
                            Q.length)))) &&
                true)
              (Tr.leaf
                (X.normal,
                  [((0 : Nat), V.sl (0 : Nat) (0 : Nat) (1 : Nat) (32 : Nat) none),
                    ((3 : Nat), V.ptr (1 : Nat) (0 : Nat)), ((5 : Nat), V.ptr (2 : Nat) (0 : Nat)),
                    ((6 : Nat), V.sl (3 : Nat) (0 : Nat) (1 : Nat) (32 : Nat) (some (32 : Nat))),
                    ((7 : Nat), V.ptr (4 : Nat) (0 : Nat)),
                    ((8 : Nat), V.int IntKind.i64 (wrapI IntKind.i64 (i - (1 : Int))))],
                  [Blk.ints A, Blk.b64 [b.a, b.b, b.c, b.d], Blk.b64 u,
                    Blk.ints
                      (Q.set ((0 : Nat) + (wrapI IntKind.i64 (i.tdiv (8 : Int))).toNat * (1 : Nat))
                        (wrapI IntKind.i64
                          (↑(BitVec.ofInt (64 : Nat)
                                    (Q.getD ((0 : Nat) + (wrapI IntKind.i64 (i.tdiv (8 : Int))).toNat * (1 : Nat))
                                      (0 : Int)) |||
                                  BitVec.ofInt (64 : Nat)
                                    (wrapI IntKind.i64
                                      ((1 : Int) * (2 : Int) ^ min (i.tmod (8 : Int)).toNat (64 : Nat)))).toNat :
                            Int))),
                    Blk.b64
                      [((W4.mk (r.a <<< (1 : Nat) ||| r.b >>> (63 : Nat)) (r.b <<< (1 : Nat) ||| r.c >>> (63 : Nat))
                                (r.c <<< (1 : Nat) ||| r.d >>> (63 : Nat))
                                (r.d <<< (1 : Nat) |||
                                  BitVec.ofInt (64 : Nat)
                                    (wrapI IntKind.i64
                                      (↑(BitVec.ofInt (64 : Nat)
                                                ((A.getD
                                                      ((0 : Nat) +
                                                        (wrapI IntKind.i64 (i.tdiv (8 : Int))).toNat * (1 : Nat))
                                                      (0 : Int)).fdiv
                                                  ((2 : Int) ^ min (i.tmod (8 : Int)).toNat (64 : Nat))) &&&
                                              BitVec.ofInt (64 : Nat) (1 : Int)).toNat :
                                        Int)))).sub
                            b).a,
                        ((W4.mk (r.a <<< (1 : Nat) ||| r.b >>> (63 : Nat)) (r.b <<< (1 : Nat) ||| r.c >>> (63 : Nat))
                                (r.c <<< (1 : Nat) ||| r.d >>> (63 : Nat))
                                (r.d <<< (1 : Nat) |||
                                  BitVec.ofInt (64 : Nat)
                                    (wrapI IntKind.i64
                                      (↑(BitVec.ofInt (64 : Nat)
                                                ((A.getD
                                                      ((0 : Nat) +
                                                        (wrapI IntKind.i64 (i.tdiv (8 : Int))).toNat * (1 : Nat))
                                                      (0 : Int)).fdiv
                                                  ((2 : Int) ^ min (i.tmod (8 : Int)).toNat (64 : Nat))) &&&
                                              BitVec.ofInt (64 : Nat) (1 : Int)).toNat :
                                        Int)))).sub
                            b).b,
                        ((W4.mk (r.a <<< (1 : Nat) ||| r.b >>> (63 : Nat)) (r.b <<< (1 : Nat) ||| r.c >>> (63 : Nat))
                                (r.c <<< (1 : Nat) ||| r.d >>> (63 : Nat))
                                (r.d <<< (1 : Nat) |||
                                  BitVec.ofInt (64 : Nat)
                                    (wrapI IntKind.i64
                                      (↑(BitVec.ofInt (64 : Nat)
                                                ((A.getD
                                                      ((0 : Nat) +
                                                        (wrapI IntKind.i64 (i.tdiv (8 : Int))).toNat * (1 : Nat))
                                                      (0 : Int)).fdiv
                                                  ((2 : Int) ^ min (i.tmod (8 : Int)).toNat (64 : Nat))) &&&
                                              BitVec.ofInt (64 : Nat) (1 : Int)).toNat :
                                        Int)))).sub
                            b).c,
                        ((W4.mk (r.a <<< (1 : Nat) ||| r.b >>> (63 : Nat)) (r.b <<< (1 : Nat) ||| r.c >>> (63 : Nat))
                                (r.c <<< (1 : Nat) ||| r.d >>> (63 : Nat))
                                (r.d <<< (1 : Nat) |||
                                  BitVec.ofInt (64 : Nat)
                                    (wrapI IntKind.i64
                                      (↑(BitVec.ofInt (64 : Nat)
                                                ((A.getD
                                                      ((0 : Nat) +
                                                        (wrapI IntKind.i64 (i.tdiv (8 : Int))).toNat * (1 : Nat))
                                                      (0 : Int)).fdiv
                                                  ((2 : Int) ^ min (i.tmod (8 : Int)).toNat (64 : Nat))) &&&
                                              BitVec.ofInt (64 : Nat) (1 : Int)).toNat :
                                        Int)))).sub
                            b).d]])))
            (Tr.chk true
              (Tr.leaf
                (X.normal,
                  [((0 : Nat), V.sl (0 : Nat) (0 : Nat) (1 : Nat) (32 : Nat) none),
                    ((3 : Nat), V.ptr (1 : Nat) (0 : Nat)), ((5 : Nat), V.ptr (2 : Nat) (0 : Nat)),
                    ((6 : Nat), V.sl (3 : Nat) (0 : Nat) (1 : Nat) (32 : Nat) (some (32 : Nat))),
                    ((7 : Nat), V.ptr (4 : Nat) (0 : Nat)),
                    ((8 : Nat), V.int IntKind.i64 (wrapI IntKind.i64 (i - (1 : Int))))],
                  [Blk.ints A, Blk.b64 [b.a, b.b, b.c, b.d], Blk.b64 u, Blk.ints Q,
                    Blk.b64
                      [r.a <<< (1 : Nat) ||| r.b >>> (63 : Nat), r.b <<< (1 : Nat) ||| r.c >>> (63 : Nat),
                        r.c <<< (1 : Nat) ||| r.d >>> (63 : Nat),
                        r.d <<< (1 : Nat) |||
                          BitVec.ofInt (64 : Nat)
                            (wrapI IntKind.i64
                              (↑(BitVec.ofInt (64 : Nat)
                                        ((A.getD ((0 : Nat) + (wrapI IntKind.i64 (i.tdiv (8 : Int))).toNat * (1 : Nat))
                                              (0 : Int)).fdiv
                                          ((2 : Int) ^ min (i.tmod (8 : Int)).toNat (64 : Nat))) &&&
                                      BitVec.ofInt (64 : Nat) (1 : Int)).toNat :
                                Int))]])))))))
    (Tr.leaf
      (X.exit (0 : Nat),
        [((5 : Nat), V.ptr (1 : Nat) (0 : Nat)),
          ((6 : Nat), V.sl (2 : Nat) (0 : Nat) (1 : Nat) (32 : Nat) (some (32 : Nat))),
          ((7 : Nat), V.ptr (3 : Nat) (0 : Nat))],
        [Blk.ints A, Blk.b64 u, Blk.ints Q, Blk.b64 [r.a, r.b, r.c, r.d]]))) := by kernel_rfl
end
end Go.Proofs.YtajbaocfdlopbaaDoor.K
end
section
open Go Go.Lh
namespace Go.Proofs.YtajbaocfdlopbaaDoor.K
noncomputable section
set_option maxRecDepth 100000
structure DwS where
  A : List Int
  Q : List Int
  b : W4
  r : W4
  u : List (BitVec 64)
def dw_r (a : DwS) (n : Nat) : W4 := if n = 0 then a.r else W4.ofN (W4.valI a.A / 2 ^ (256 - n) % a.b.n)
def dw_Q (a : DwS) (n : Nat) : List Int := if n = 0 then a.Q else W4.dg 32 (W4.valI a.A / 2 ^ (256 - n) / a.b.n * 2 ^ (256 - n))
def dw_S (a : DwS) (n : Nat) : Fr × Heap := ([(0,.sl 0 0 1 32 none),(3,.ptr 1 0),(5,.ptr 2 0),(6,.sl 3 0 1 32 (some 32)),(7,.ptr 4 0),(8,.int .i64 (255 - (n : Int)))], [.ints a.A, .b64 [a.b.a,a.b.b,a.b.c,a.b.d], .b64 a.u, .ints (dw_Q a n), .b64 [(dw_r a n).a,(dw_r a n).b,(dw_r a n).c,(dw_r a n).d]])
def dw_read : Fr → Heap → Option DwS := fun f h => match f, h with
  | [(0,.sl 0 0 1 32 none),(3,.ptr 1 0),(5,.ptr 2 0),(6,.sl 3 0 1 32 (some 32)),(7,.ptr 4 0),(8,.int .i64 255)], [.ints A, .b64 [ba,bb,bc,bd], .b64 u, .ints Q, .b64 [ra,rb,rc,rd]] => some ⟨A, Q, ⟨ba,bb,bc,bd⟩, ⟨ra,rb,rc,rd⟩, u⟩
  | _, _ => none
def dw_P (a : DwS) : Prop := a.A = W4.dg 32 (W4.valI a.A) ∧ a.Q = W4.dg 32 0 ∧ a.r = W4.zero ∧ a.b.n ≠ 0
def dw_ok (a : DwS) : Bool := @decide (dw_P a) (Classical.propDecidable _)
def dw_R (a : DwS) : W4 := W4.ofN (W4.valI a.A % a.b.n)
def dw_E (a : DwS) : Tr (X × Fr × Heap) := .leaf (.exit 0, [(5,.ptr 1 0),(6,.sl 2 0 1 32 (some 32)),(7,.ptr 3 0)], [.ints a.A, .b64 a.u, .ints (W4.dg 32 (W4.valI a.A / a.b.n)), .b64 [(dw_R a).a,(dw_R a).b,(dw_R a).c,(dw_R a).d]])
def dw_s : SmT := whT 4 [0,3,5,6,7,8] dw_read dw_ok dw_E
theorem dw_at : SmAtT Pr Go.Proofs.Tryd.f100 1 dw_s 0 := by
  refine cntT_x OR6_sound mixed dw_S (fun _ => 256) (fun a n => dvl_x a.A (dw_Q a n) a.b (dw_r a n) a.u (255 - (n : Int))) (by kernel_rfl) (by kernel_rfl) (by kernel_rfl) LoopsOk.noneT ?_ ?_
  · intro f g a h
    unfold dw_read at h
    split at h <;> cases h
    rfl
  · rintro ⟨A, Q, b, r, u⟩ q hok hq n hn
    obtain ⟨hA, hQ, hr, hb⟩ : dw_P ⟨A, Q, b, r, u⟩ := @of_decide_eq_true _ (Classical.propDecidable _) hok
    simp only at hA hQ hr hb hn
    rw [dw_E, Tr.is_leaf] at hq
    simp only [dw_R] at hq ⊢
    generalize hx : W4.valI A = N at *
    subst hA
    have hN : N < 2 ^ 256 := by rw [← hx, W4.valI_dg]; exact Nat.mod_lt _ (by decide)
    have hr' : ∀ j, dw_r ⟨W4.dg 32 N, Q, b, r, u⟩ j = W4.ofN (N / 2 ^ (256 - j) % b.n) := by
      intro j; unfold dw_r; split
      · rename_i h; subst h; rw [Nat.sub_zero, Nat.div_eq_of_lt hN, Nat.zero_mod, hr]; rfl
      · rw [hx]
    have hQ' : ∀ j, dw_Q ⟨W4.dg 32 N, Q, b, r, u⟩ j = W4.dg 32 (N / 2 ^ (256 - j) / b.n * 2 ^ (256 - j)) := by
      intro j; unfold dw_Q; split
      · rename_i h; subst h; rw [Nat.sub_zero, Nat.div_eq_of_lt hN, Nat.zero_div, Nat.zero_mul]; exact hQ
      · rw [hx]
    simp only [dw_S, hr', hQ', wp_chk, wp_leaf, wp_br, decide_eq_true_eq, decide_eq_false_iff_not, true_and, W4.dg_length, topB]
    refine ⟨fun h => ?_, fun h => .inr ⟨fun h => (by cases h), ?_⟩⟩
    · obtain ⟨t, ht⟩ : ∃ t, n + t = 255 := ⟨255 - n, by omega⟩
      have e1 : 256 - n = t + 1 := by omega
      have e2 : 256 - (n + 1) = t := by omega
      have e3 : (255 - (n : Int)) = (t : Int) := by omega
      have e4 : wrapI .i64 ((t : Int) - 1) = 255 - ((n + 1 : Nat) : Int) := by rw [wrapI_in (by omega) (by omega)]; omega
      have e5 : wrapI .i64 (Int.tdiv (t : Int) 8) = ((t / 8 : Nat) : Int) := by rw [tdiv_lit, wrapI_nat (by omega)]
      have e6 : Int.tmod (t : Int) 8 = ((t % 8 : Nat) : Int) := by rw [tmod_lit]
      simp only [e1, e2, e3, e4, e5, e6, Int.toNat_natCast, Nat.zero_add, Nat.mul_one]
      rw [W4.dg_get (n := 32) (m := N) (by omega : t / 8 < 32), W4.bit_el (by omega) hN, W4.dg_get (n := 32) (by omega : t / 8 < 32)]
      have hB : (BitVec.ofInt 64 (((N.testBit t).toNat : Nat) : Int)).toNat = (N.testBit t).toNat := by
        rw [BitVec.ofInt_natCast, BitVec.toNat_ofNat]; cases N.testBit t <;> rfl
      have hB1 : (N.testBit t).toNat ≤ 1 := by cases N.testBit t <;> decide
      have hbl := b.n_lt
      have hRl : N / 2 ^ (t + 1) % b.n < b.n := Nat.mod_lt _ (Nat.pos_of_ne_zero hb)
      have hRn : (W4.ofN (N / 2 ^ (t + 1) % b.n)).n = N / 2 ^ (t + 1) % b.n := by rw [W4.ofN_n, Nat.mod_eq_of_lt (by omega)]
      have hdbl := W4.dbl_n (W4.ofN (N / 2 ^ (t + 1) % b.n)) (e := BitVec.ofInt 64 (((N.testBit t).toNat : Nat) : Int)) (by omega)
      obtain ⟨h1, h2, h3⟩ := W4.dv_round (N := N) (b := b.n) (t := t) hb _ rfl
      have hset := W4.dg_or (N := 32) (t := t) (V := N / 2 ^ (t + 1) / b.n * 2 ^ (t + 1)) (by omega) rfl
      rw [hB, hRn] at hdbl
      rw [hset]
      generalize hr2 : (W4.mk ((W4.ofN (N / 2 ^ (t + 1) % b.n)).a <<< 1 ||| (W4.ofN (N / 2 ^ (t + 1) % b.n)).b >>> 63) ((W4.ofN (N / 2 ^ (t + 1) % b.n)).b <<< 1 ||| (W4.ofN (N / 2 ^ (t + 1) % b.n)).c >>> 63) ((W4.ofN (N / 2 ^ (t + 1) % b.n)).c <<< 1 ||| (W4.ofN (N / 2 ^ (t + 1) % b.n)).d >>> 63) ((W4.ofN (N / 2 ^ (t + 1) % b.n)).d <<< 1 ||| BitVec.ofInt 64 (((N.testBit t).toNat : Nat) : Int))) = r2 at *
      rw [hRn]
      have hle : N / 2 ^ t % b.n < 2 ^ 256 := Nat.lt_trans (Nat.mod_lt _ (Nat.pos_of_ne_zero hb)) hbl
      generalize N / 2 ^ (t + 1) % b.n = R at *
      generalize (N.testBit t).toNat = e at *
      have hfl : (decide (0 ≤ ((t / 8 : Nat) : Int)) && decide (((t / 8 : Nat) : Int) < 32)) = true := by simp only [Bool.and_eq_true, decide_eq_true_eq]; omega
      have hsub : b.n ≤ 2 * R + e → 2 ^ 256 ≤ 2 * R + e ∨ b.n ≤ r2.n → r2.sub b = W4.ofN (N / 2 ^ t % b.n) := fun h4 h5 => W4.ext_n (by
        rw [W4.ofN_n, h1, if_pos h4, W4.sub_nn, hdbl, Nat.mod_eq_of_lt (by omega : 2 * R + e - b.n < 2 ^ 256)]
        omega)
      refine ⟨?_, fun ho => ⟨?_, .inl ⟨by omega, ?_⟩⟩, fun ho => ⟨fun hl => ⟨?_, .inl ⟨by omega, ?_⟩⟩, fun hl => .inl ⟨by omega, ?_⟩⟩⟩
      · simp only [Bool.and_eq_true, decide_eq_true_eq]
        (repeat' apply And.intro) <;> first | omega | trivial
      · simp only [Bool.and_eq_true, decide_eq_true_eq]
        (repeat' apply And.intro) <;> first | omega | trivial
      · have h4 : b.n ≤ 2 * R + e := by omega
        rw [hsub h4 (.inl (by omega)), h2, if_pos h4]
      · simp only [Bool.and_eq_true, decide_eq_true_eq]
        (repeat' apply And.intro) <;> first | omega | trivial
      · rw [Bool.not_eq_true', W4.lt_false] at hl
        have h4 : b.n ≤ 2 * R + e := by
          rw [hdbl] at hl; exact Nat.le_trans hl (Nat.mod_le _ _)
        rw [hsub h4 (.inr hl), h2, if_pos h4]
      · rw [Bool.not_eq_false', W4.lt_iff] at hl
        have h6 : r2.n = 2 * R + e := by rw [hdbl, Nat.mod_eq_of_lt (by omega)]
        have h4 : ¬ b.n ≤ 2 * R + e := by omega
        have h7 : r2 = W4.ofN (N / 2 ^ t % b.n) := W4.ext_n (by rw [W4.ofN_n, h1, if_neg h4, Nat.mod_eq_of_lt (by omega), h6])
        rw [h2, if_neg h4, Nat.add_zero, ← h7, ← hr2]
        try rfl
    · have e : n = 256 := by omega
      subst e
      rw [← hq, Nat.sub_self, Nat.pow_zero, Nat.div_one, Nat.mul_one]
theorem dw_Ls : LoopsOk Pr Go.Proofs.Tryd.f100 1 (smLT 1 [dw_s]).o := LoopsOk.one (by kernel_rfl) dw_at
theorem rdivide_x (A : List Int) (b : W4) : Tr.prune (Tr.Sh.any)
  (execBF Pr OR6 (smLT (1 : Nat) [dw_s]) (100 : Nat) Go.Proofs.Tryd.f100
  [V.sl (0 : Nat) (0 : Nat) (1 : Nat) (32 : Nat) none, b.v] [Blk.ints A]) =
  Tr.chk
  (dw_ok
        (DwS.mk A (List.replicate (32 : Nat) (0 : Int)) b
          (W4.mk (BitVec.ofInt (64 : Nat) (0 : Int)) (BitVec.ofInt (64 : Nat) (0 : Int))
            (BitVec.ofInt (64 : Nat) (0 : Int)) (BitVec.ofInt (64 : Nat) (0 : Int)))
          [BitVec.ofInt (64 : Nat) (0 : Int), BitVec.ofInt (64 : Nat) (0 : Int), BitVec.ofInt (64 : Nat) (0 : Int),
            BitVec.ofInt (64 : Nat) (0 : Int)]) &&
      true &&
    true)
  (Tr.leaf
    (Fin.ret
        (V.tup
          [V.sl (1 : Nat) (0 : Nat) (1 : Nat) (32 : Nat) (some (32 : Nat)),
            V.agg
              [V.u64
                  (dw_R
                      (DwS.mk A (List.replicate (32 : Nat) (0 : Int)) b
                        (W4.mk (BitVec.ofInt (64 : Nat) (0 : Int)) (BitVec.ofInt (64 : Nat) (0 : Int))
                          (BitVec.ofInt (64 : Nat) (0 : Int)) (BitVec.ofInt (64 : Nat) (0 : Int)))
                        [BitVec.ofInt (64 : Nat) (0 : Int), BitVec.ofInt (64 : Nat) (0 : Int),
                          BitVec.ofInt (64 : Nat) (0 : Int), BitVec.ofInt (64 : Nat) (0 : Int)])).a,
                V.u64
                  (dw_R
                      (DwS.mk A (List.replicate (32 : Nat) (0 : Int)) b
                        (W4.mk (BitVec.ofInt (64 : Nat) (0 : Int)) (BitVec.ofInt (64 : Nat) (0 : Int))
                          (BitVec.ofInt (64 : Nat) (0 : Int)) (BitVec.ofInt (64 : Nat) (0 : Int)))
                        [BitVec.ofInt (64 : Nat) (0 : Int), BitVec.ofInt (64 : Nat) (0 : Int),
                          BitVec.ofInt (64 : Nat) (0 : Int), BitVec.ofInt (64 : Nat) (0 : Int)])).b,
                V.u64
                  (dw_R
                      (DwS.mk A (List.replicate (32 : Nat) (0 : Int)) b
                        (W4.mk (BitVec.ofInt (64 : Nat) (0 : Int)) (BitVec.ofInt (64 : Nat) (0 : Int))
                          (BitVec.ofInt (64 : Nat) (0 : Int)) (BitVec.ofInt (64 : Nat) (0 : Int)))
                        [BitVec.ofInt (64 : Nat) (0 : Int), BitVec.ofInt (64 : Nat) (0 : Int),
                          BitVec.ofInt (64 : Nat) (0 : Int), BitVec.ofInt (64 : Nat) (0 : Int)])).c,
                V.u64
                  (dw_R
                      (DwS.mk A (List.replicate (32 : Nat) (0 : Int)) b
                        (W4.mk (BitVec.ofInt (64 : Nat) (0 : Int)) (BitVec.ofInt (64 : Nat) (0 : Int))
                          (BitVec.ofInt (64 : Nat) (0 : Int)) (BitVec.ofInt (64 : Nat) (0 : Int)))
                        [BitVec.ofInt (64 : Nat) (0 : Int), BitVec.ofInt (64 : Nat) (0 : Int),
                          BitVec.ofInt (64 : Nat) (0 : Int), BitVec.ofInt (64 : Nat) (0 : Int)])).d]]),
      [Blk.ints A, Blk.ints (W4.dg (32 : Nat) (W4.valI A / b.n))])) := by kernel_rfl
end
end Go.Proofs.YtajbaocfdlopbaaDoor.K
end
section
open Go Go.Lh
namespace Go.Proofs.YtajbaocfdlopbaaDoor.K
noncomputable section
set_option maxRecDepth 100000
theorem rdivide_fn (N : Nat) (b : W4) (hN : N < 2 ^ 256) (hb : b.n ≠ 0) : LFn Pr 100 [.sl 0 0 1 32 none, b.v] [.ints (W4.dg 32 N)] (.ret (.tup [.sl 1 0 1 32 (some 32), (W4.ofN (N % b.n)).v])) [.ints (W4.dg 32 N), .ints (W4.dg 32 (N / b.n))] := by
  refine fnT OR6_sound mixed (by kernel_rfl) dw_Ls (rdivide_x (W4.dg 32 N) b) (tr1 ?_ ?_)
  · rw [Bool.and_true, Bool.and_true]
    refine @decide_eq_true _ (Classical.propDecidable _) ⟨?_, W4.is0_iff.1 (W4.is0_rep 32), rfl, hb⟩
    show W4.dg 32 _ = W4.dg 32 (W4.valI (W4.dg 32 _))
    rw [W4.valI_dg, W4.dg_mod]
  · simp only [dw_R]
    rw [valI_dg32 hN]; rfl
def nzW (b : W4) : Bool := @decide (b.n ≠ 0) (Classical.propDecidable _)
theorem nzW_iff {b : W4} : nzW b = true ↔ b.n ≠ 0 := by simp [nzW]
def readDv : List V → Heap → Option (List Int × W4) := fun args h => match args, h with
  | [.sl 0 0 1 32 none, .agg [.u64 a, .u64 b, .u64 c, .u64 d]], [.ints xs] => some (xs, ⟨a, b, c, d⟩)
  | _, _ => none
def rdivide_g : List V → Heap → Tr (Fin × Heap) := ctT readDv (fun a => .chk (W4.isD 32 a.1 && nzW a.2) (.leaf (.ret (.tup [.sl 1 0 1 32 (some 32), (W4.ofN (W4.valI a.1 % a.2.n)).v]), [.ints a.1, .ints (W4.dg 32 (W4.valI a.1 / a.2.n))])))
theorem rdivide_ok : ∀ args h r, (rdivide_g args h).is r → LFn Pr 100 args h r.1 r.2 := by
  refine ctT_ok (fun a => [.sl 0 0 1 32 none, a.2.v]) (fun a => [.ints a.1]) ?_ (fun a r h => ?_)
  · intro args h a e
    unfold readDv at e
    split at e <;> cases e
    exact ⟨rfl, rfl⟩
  · obtain ⟨xs, b⟩ := a
    rw [Tr.is_chk, Tr.is_leaf] at h
    obtain ⟨h, rfl⟩ := h
    simp only [Bool.and_eq_true, W4.isD_iff, nzW_iff] at h
    have h1 : W4.valI xs < 2 ^ 256 := by rw [h.1, W4.valI_dg]; exact Nat.mod_lt _ (by decide)
    have := rdivide_fn (W4.valI xs) b h1 h.2
    rw [← h.1] at this
    exact this
theorem rdivide_en : Enters Pr 100 := Enters.of (fn := Go.Proofs.Tryd.f100) (by kernel_rfl) (by kernel_rfl)
def KR7 : KnownT := (100, rdivide_g) :: KR6
theorem KR7_ok : KOkT Pr KR7 := KOkT.cons rdivide_en rdivide_ok KR6_ok
def OR7 : OrcT := autoT Pr ext KR7 [] 3
theorem OR7_sound : OrcSound Pr OR7.o := autoT_sound mixed ext_ok KR7_ok (by kernel_rfl) 3
theorem rdiv_x (a : W4) (b : W4) : Tr.prune (Tr.Sh.any.both Tr.Sh.any)
  (execBF Pr OR7 noLoopsT (100 : Nat) Go.Proofs.Tryd.f44 [a.v, b.v] []) =
  Tr.chk true
  (Tr.br
    (b.a == BitVec.ofInt (64 : Nat) (0 : Int) &&
      (b.b == BitVec.ofInt (64 : Nat) (0 : Int) &&
        (b.c == BitVec.ofInt (64 : Nat) (0 : Int) && (b.d == BitVec.ofInt (64 : Nat) (0 : Int) && true))))
    (Tr.chk true (Tr.leaf (Fin.ret (V.agg [V.u64 b.a, V.u64 b.b, V.u64 b.c, V.u64 b.d]), [])))
    (Tr.chk
      (W4.isD (32 : Nat) (W4.dg (32 : Nat) a.n) && nzW b && true &&
          ((true || false) && W4.isD (32 : Nat) (W4.dg (32 : Nat) (W4.valI (W4.dg (32 : Nat) a.n) / b.n)) && true) &&
        true)
      (Tr.leaf
        (Fin.ret
            (V.agg
              [V.u64 (W4.ofN (W4.valI (W4.dg (32 : Nat) (W4.valI (W4.dg (32 : Nat) a.n) / b.n)))).a,
                V.u64 (W4.ofN (W4.valI (W4.dg (32 : Nat) (W4.valI (W4.dg (32 : Nat) a.n) / b.n)))).b,
                V.u64 (W4.ofN (W4.valI (W4.dg (32 : Nat) (W4.valI (W4.dg (32 : Nat) a.n) / b.n)))).c,
                V.u64 (W4.ofN (W4.valI (W4.dg (32 : Nat) (W4.valI (W4.dg (32 : Nat) a.n) / b.n)))).d]),
          [])))) := by kernel_rfl
theorem rmod_x (a : W4) (b : W4) : Tr.prune (Tr.Sh.any.both Tr.Sh.any)
  (execBF Pr OR7 noLoopsT (100 : Nat) Go.Proofs.Tryd.f46 [a.v, b.v] []) =
  Tr.chk true
  (Tr.br
    (b.a == BitVec.ofInt (64 : Nat) (0 : Int) &&
      (b.b == BitVec.ofInt (64 : Nat) (0 : Int) &&
        (b.c == BitVec.ofInt (64 : Nat) (0 : Int) && (b.d == BitVec.ofInt (64 : Nat) (0 : Int) && true))))
    (Tr.chk true (Tr.leaf (Fin.ret (V.agg [V.u64 b.a, V.u64 b.b, V.u64 b.c, V.u64 b.d]), [])))
    (Tr.chk (W4.isD (32 : Nat) (W4.dg (32 : Nat) a.n) && nzW b && true && true && true)
      (Tr.leaf
        (Fin.ret
            (V.agg
              [V.u64 (W4.ofN (W4.valI (W4.dg (32 : Nat) a.n) % b.n)).a,
                V.u64 (W4.ofN (W4.valI (W4.dg (32 : Nat) a.n) % b.n)).b,
                V.u64 (W4.ofN (W4.valI (W4.dg (32 : Nat) a.n) % b.n)).c,
                V.u64 (W4.ofN (W4.valI (W4.dg (32 : Nat) a.n) % b.n)).d]),
          [])))) := by kernel_rfl
theorem rdiv_fn (a b : W4) : LFn Pr 44 [a.v, b.v] [] (.ret (divQ a b).v) [] := by
  refine fnT OR7_sound mixed (by kernel_rfl) LoopsOk.noneT (rdiv_x a b) ?_
  simp only [wp_chk_true, wp_br, Bool.and_true, z64, W4.zeroT', decide_eq_true_eq, decide_eq_false_iff_not]
  refine ⟨fun h => ?_, fun h => ?_⟩
  · have e : divQ a b = b := W4.ext_n (by rw [divQ_n, h, Nat.div_zero])
    rw [e]; exact (rfl : _ = _)
  · have e : divQ a b = W4.ofN (a.n / b.n) := W4.ext_n (by rw [divQ_n, W4.ofN_n, Nat.mod_eq_of_lt (Nat.lt_of_le_of_lt (Nat.div_le_self _ _) a.n_lt)])
    rw [valI_dg32 a.n_lt, valI_dg32 (Nat.lt_of_le_of_lt (Nat.div_le_self _ _) a.n_lt), e, W4.isD_dg, W4.isD_dg, nzW_iff.2 h]
    exact tr1 rfl rfl
theorem rmod_fn (a b : W4) : LFn Pr 46 [a.v, b.v] [] (.ret (divR a b).v) [] := by
  refine fnT OR7_sound mixed (by kernel_rfl) LoopsOk.noneT (rmod_x a b) ?_
  simp only [wp_chk_true, wp_br, Bool.and_true, z64, W4.zeroT', decide_eq_true_eq, decide_eq_false_iff_not]
  refine ⟨fun h => ?_, fun h => ?_⟩
  · have e : divR a b = b := W4.ext_n (by rw [divR, if_pos h, h]; rfl)
    rw [e]; exact (rfl : _ = _)
  · have e : divR a b = W4.ofN (a.n % b.n) := W4.ext_n (by rw [divR_n h, W4.ofN_n, Nat.mod_eq_of_lt (Nat.lt_of_le_of_lt (Nat.mod_le _ _) a.n_lt)])
    rw [valI_dg32 a.n_lt, e, W4.isD_dg, nzW_iff.2 h]
    exact tr1 rfl rfl
theorem rdiv_en : Enters Pr 44 := Enters.of (fn := Go.Proofs.Tryd.f44) (by kernel_rfl) (by kernel_rfl)
theorem rmod_en : Enters Pr 46 := Enters.of (fn := Go.Proofs.Tryd.f46) (by kernel_rfl) (by kernel_rfl)
def KR8 : KnownT := (44, old (ctWW fun x y => (divQ x y).v)) :: (46, old (ctWW fun x y => (divR x y).v)) :: KR7
theorem KR8_ok : KOkT Pr KR8 := KOkT.cons rdiv_en (old_ok (ctWW_ok rdiv_fn)) (KOkT.cons rmod_en (old_ok (ctWW_ok rmod_fn)) KR7_ok)
def OR8 : OrcT := autoT Pr ext KR8 [] 3
theorem OR8_sound : OrcSound Pr OR8.o := autoT_sound mixed ext_ok KR8_ok (by kernel_rfl) 3
theorem wreck_x (a : W4) (b : W4) : Tr.prune (((((((Tr.Sh.any.l.l.l.l.l.l.both
                                                                                                  Tr.Sh.any.r.r.r.r.r.r).l.l.l.l.l.l.both
                                                                                  Tr.Sh.any.r.r.r.r.r.r.r.r.r.r.r.r.r).l.l.l.l.l.l.both
                                                                  Tr.Sh.any.r.r.r.r.r.r.r.r.r.r.r.r.r.r.r.r.r.r.r.r).l.l.l.l.l.l.both
                                                  Tr.Sh.any.r.r.r.r.r.r.r.r.r.r.r.r.r.r.r.r.r.r.r.r.r.r.r.r.r.r.r).l.l.l.l.l.l.both
                                  Tr.Sh.any.r.r.r.r.r.r.r.r.r.r.r.r.r.r.r.r.r.r.r.r.r.r.r.r.r.r.r.r.r.r.r.r.r.r).l.l.l.l.l.l.both
                  Tr.Sh.any.r.r.r.r.r.r.r.r.r.r.r.r.r.r.r.r.r.r.r.r.r.r.r.r.r.r.r.r.r.r.r.r.r.r.r.r.r.r.r.r.r).l.l.l.l.l.l.l.r)
  (execBF Pr OR8 noLoopsT (100 : Nat) Go.Proofs.Tryd.f8 [a.v, b.v] []) =
  Tr.chk true
  (Tr.br
    ((a.add b).a == (a.add b).a &&
      ((a.add b).b == (a.add b).b && ((a.add b).c == (a.add b).c && ((a.add b).d == (a.add b).d && true))))
    (Tr.chk true
      (Tr.br
        ((a.sub b).a == (a.sub b).a &&
          ((a.sub b).b == (a.sub b).b && ((a.sub b).c == (a.sub b).c && ((a.sub b).d == (a.sub b).d && true))))
        (Tr.chk true
          (Tr.br
            ((a.mul b).a == (a.mul b).a &&
              ((a.mul b).b == (a.mul b).b && ((a.mul b).c == (a.mul b).c && ((a.mul b).d == (a.mul b).d && true))))
            (Tr.chk true
              (Tr.br
                ((divQ a b).a == (divQ a b).a &&
                  ((divQ a b).b == (divQ a b).b &&
                    ((divQ a b).c == (divQ a b).c && ((divQ a b).d == (divQ a b).d && true))))
                (Tr.chk true
                  (Tr.br
                    ((divR a b).a == (divR a b).a &&
                      ((divR a b).b == (divR a b).b &&
                        ((divR a b).c == (divR a b).c && ((divR a b).d == (divR a b).d && true))))
                    (Tr.chk true
                      (Tr.br (a.lt b == a.lt b) (Tr.chk true (Tr.leaf (Fin.ret (V.bool (slt a b == slt a b)), [])))
                        (Tr.chk true (Tr.leaf (Fin.ret (V.bool false), [])))))
                    (Tr.chk true (Tr.leaf (Fin.ret (V.bool false), [])))))
                (Tr.chk true (Tr.leaf (Fin.ret (V.bool false), [])))))
            (Tr.chk true (Tr.leaf (Fin.ret (V.bool false), [])))))
        (Tr.chk true (Tr.leaf (Fin.ret (V.bool false), [])))))
    (Tr.chk true (Tr.leaf (Fin.ret (V.bool false), [])))) := by kernel_rfl
theorem wordReckons_fn (a b : W4) : LFn Pr 8 [a.v, b.v] [] (.ret (.bool true)) [] := by
  refine fnT OR8_sound mixed (by kernel_rfl) LoopsOk.noneT (wreck_x a b) ?_
  simp only [wp_chk_true, wp_chk, wp_leaf, wp_br, ret_bool, Bool.and_true, beq_self_eq_true, Bool.and_self, and_true, true_and, true_implies, Bool.true_eq_false, false_implies, implies_true]
end
end Go.Proofs.YtajbaocfdlopbaaDoor.K
end
