/- Numbers of four parts. -/
import Derived.Test.YtajbaocfdlopbaaLhAE
set_option linter.unusedSimpArgs false
set_option linter.unusedVariables false
namespace Go.Lh

structure W4 where
  a : BitVec 64
  b : BitVec 64
  c : BitVec 64
  d : BitVec 64
  deriving DecidableEq

namespace W4
def v (x : W4) : V := .agg [.u64 x.a, .u64 x.b, .u64 x.c, .u64 x.d]
def n (x : W4) : Nat := 2 ^ 192 * x.a.toNat + (2 ^ 128 * x.b.toNat + (2 ^ 64 * x.c.toNat + x.d.toNat))
def bv (x : W4) : BitVec 256 := BitVec.ofNat 256 x.n
def of (y : BitVec 256) : W4 := ⟨y.extractLsb' 192 64, y.extractLsb' 128 64, y.extractLsb' 64 64, y.extractLsb' 0 64⟩

theorem n_lt (x : W4) : x.n < 2 ^ 256 := by
  have := x.a.isLt; have := x.b.isLt; have := x.c.isLt; have := x.d.isLt
  unfold n; omega
theorem bv_toNat (x : W4) : x.bv.toNat = x.n := by
  unfold bv; rw [BitVec.toNat_ofNat, Nat.mod_eq_of_lt x.n_lt]
theorem ext_n {x y : W4} (h : x.n = y.n) : x = y := by
  have := x.a.isLt; have := x.b.isLt; have := x.c.isLt; have := x.d.isLt
  have := y.a.isLt; have := y.b.isLt; have := y.c.isLt; have := y.d.isLt
  cases x; cases y
  simp only [n] at h
  simp only [mk.injEq]
  refine ⟨?_, ?_, ?_, ?_⟩ <;> apply BitVec.eq_of_toNat_eq <;> simp only at * <;> omega
theorem ext_bv {x y : W4} (h : x.bv = y.bv) : x = y := ext_n (by rw [← bv_toNat, ← bv_toNat, h])
theorem of_toNat (y : BitVec 256) : (of y).n = y.toNat := by
  have := y.isLt
  simp only [n, of, BitVec.extractLsb'_toNat, Nat.shiftRight_eq_div_pow]
  omega
theorem bv_of (y : BitVec 256) : (of y).bv = y := BitVec.eq_of_toNat_eq (by rw [bv_toNat, of_toNat])
theorem of_bv (x : W4) : of x.bv = x := ext_bv (bv_of _)
theorem bv_inj {x y : W4} : x.bv = y.bv ↔ x = y := ⟨ext_bv, fun h => by rw [h]⟩
theorem of_inj {x y : BitVec 256} : of x = of y ↔ x = y := ⟨fun h => by rw [← bv_of x, h, bv_of], fun h => by rw [h]⟩
theorem of_eq {x : BitVec 256} {y : W4} (h : y.bv = x) : of x = y := by rw [← h, of_bv]
theorem eq_of {x : BitVec 256} {y : W4} (h : y.bv = x) : y = of x := (of_eq h).symm

/-- one of four, by the place -/
def sel (i : Nat) (d c b a : Nat → Bool) : Bool := if i < 64 then d i else if i < 128 then c (i - 64) else if i < 192 then b (i - 128) else a (i - 192)
theorem sel_congr {i : Nat} (hi : i < 256) {d c b a d' c' b' a' : Nat → Bool} (hd : ∀ j, j < 64 → d j = d' j) (hc : ∀ j, j < 64 → c j = c' j) (hb : ∀ j, j < 64 → b j = b' j) (ha : ∀ j, j < 64 → a j = a' j) : sel i d c b a = sel i d' c' b' a' := by
  unfold sel
  by_cases h1 : i < 64
  · rw [if_pos h1, if_pos h1, hd _ h1]
  · rw [if_neg h1, if_neg h1]
    by_cases h2 : i < 128
    · rw [if_pos h2, if_pos h2, hc _ (by omega)]
    · rw [if_neg h2, if_neg h2]
      by_cases h3 : i < 192
      · rw [if_pos h3, if_pos h3, hb _ (by omega)]
      · rw [if_neg h3, if_neg h3, ha _ (by omega)]
theorem sel_two (f : Bool → Bool → Bool) (i : Nat) (d c b a d' c' b' a' : Nat → Bool) : f (sel i d c b a) (sel i d' c' b' a') = sel i (fun j => f (d j) (d' j)) (fun j => f (c j) (c' j)) (fun j => f (b j) (b' j)) (fun j => f (a j) (a' j)) := by
  unfold sel
  by_cases h1 : i < 64
  · rw [if_pos h1, if_pos h1, if_pos h1]
  · rw [if_neg h1, if_neg h1, if_neg h1]
    by_cases h2 : i < 128
    · rw [if_pos h2, if_pos h2, if_pos h2]
    · rw [if_neg h2, if_neg h2, if_neg h2]
      by_cases h3 : i < 192
      · rw [if_pos h3, if_pos h3, if_pos h3]
      · rw [if_neg h3, if_neg h3, if_neg h3]
theorem bit (x : W4) (i : Nat) : x.bv.getLsbD i = sel i x.d.getLsbD x.c.getLsbD x.b.getLsbD x.a.getLsbD := by
  have ha := x.a.isLt; have hb := x.b.isLt; have hc := x.c.isLt; have hd := x.d.isLt
  have e : x.bv.getLsbD i = x.n.testBit i := by rw [← bv_toNat]; rfl
  rw [e]
  unfold n sel
  rw [Nat.testBit_two_pow_mul_add _ (by omega), Nat.testBit_two_pow_mul_add _ (by omega), Nat.testBit_two_pow_mul_add _ hd]
  simp only [BitVec.getLsbD]
  by_cases h1 : i < 64
  · rw [if_pos (by omega), if_pos (by omega), if_pos h1, if_pos h1]
  · by_cases h2 : i < 128
    · rw [if_pos (by omega), if_pos h2, if_neg h1, if_neg h1, if_pos h2]
    · by_cases h3 : i < 192
      · rw [if_pos h3, if_neg h2, if_neg h1, if_neg h2, if_pos h3]
      · rw [if_neg h3, if_neg h1, if_neg h2, if_neg h3]

def zero : W4 := ⟨0, 0, 0, 0⟩
def small (n : BitVec 64) : W4 := ⟨0, 0, 0, n⟩
theorem zero_bv : zero.bv = 0 := rfl
theorem small_n (m : BitVec 64) : (small m).n = m.toNat := by simp [small, n]
theorem small_bv (m : BitVec 64) : (small m).bv = m.setWidth 256 := by
  apply BitVec.eq_of_toNat_eq
  rw [bv_toNat, small_n, BitVec.toNat_setWidth]
  have := m.isLt
  omega

/-- part by part -/
def map2 (f : BitVec 64 → BitVec 64 → BitVec 64) (x y : W4) : W4 := ⟨f x.a y.a, f x.b y.b, f x.c y.c, f x.d y.d⟩
def andW (x y : W4) : W4 := ⟨x.a &&& y.a, x.b &&& y.b, x.c &&& y.c, x.d &&& y.d⟩
def orW (x y : W4) : W4 := ⟨x.a ||| y.a, x.b ||| y.b, x.c ||| y.c, x.d ||| y.d⟩
def xorW (x y : W4) : W4 := ⟨x.a ^^^ y.a, x.b ^^^ y.b, x.c ^^^ y.c, x.d ^^^ y.d⟩
def notW (x : W4) : W4 := ⟨~~~x.a, ~~~x.b, ~~~x.c, ~~~x.d⟩
theorem andW_bv (x y : W4) : (andW x y).bv = x.bv &&& y.bv := by
  apply BitVec.eq_of_getLsbD_eq; intro i hi
  rw [BitVec.getLsbD_and, bit, bit, bit]
  refine Eq.trans ?_ (sel_two Bool.and i _ _ _ _ _ _ _ _).symm
  refine sel_congr hi ?_ ?_ ?_ ?_ <;> intro j hj <;> exact BitVec.getLsbD_and
theorem orW_bv (x y : W4) : (orW x y).bv = x.bv ||| y.bv := by
  apply BitVec.eq_of_getLsbD_eq; intro i hi
  rw [BitVec.getLsbD_or, bit, bit, bit]
  refine Eq.trans ?_ (sel_two Bool.or i _ _ _ _ _ _ _ _).symm
  refine sel_congr hi ?_ ?_ ?_ ?_ <;> intro j hj <;> exact BitVec.getLsbD_or
theorem xorW_bv (x y : W4) : (xorW x y).bv = x.bv ^^^ y.bv := by
  apply BitVec.eq_of_getLsbD_eq; intro i hi
  rw [BitVec.getLsbD_xor, bit, bit, bit]
  refine Eq.trans ?_ (sel_two Bool.xor i _ _ _ _ _ _ _ _).symm
  refine sel_congr hi ?_ ?_ ?_ ?_ <;> intro j hj <;> exact BitVec.getLsbD_xor
theorem notW_bv (x : W4) : (notW x).bv = ~~~x.bv := by
  apply BitVec.eq_of_getLsbD_eq; intro i hi
  rw [BitVec.getLsbD_not, bit, bit, decide_eq_true hi, Bool.true_and]
  refine Eq.trans ?_ (sel_two (fun p _ => !p) i _ _ _ _ x.d.getLsbD x.c.getLsbD x.b.getLsbD x.a.getLsbD).symm
  refine sel_congr hi ?_ ?_ ?_ ?_ <;> intro j hj <;> (refine (BitVec.getLsbD_not).trans ?_) <;> rw [decide_eq_true hj, Bool.true_and]

def add (x y : W4) : W4 := of (x.bv + y.bv)
def sub (x y : W4) : W4 := of (x.bv - y.bv)
def mul (x y : W4) : W4 := of (x.bv * y.bv)
def lt (x y : W4) : Bool := decide (x.n < y.n)

theorem beq (x y : W4) : (x == y) = (x.a == y.a && (x.b == y.b && (x.c == y.c && x.d == y.d))) := by
  rw [Bool.eq_iff_iff]
  cases x; cases y
  simp
end W4

/-! ### with a carry -/
def sumC (x y c : BitVec 64) : BitVec 64 := x + y + c
def outC (x y c : BitVec 64) : BitVec 64 := ((x &&& y) ||| ((x ||| y) &&& ~~~(x + y + c))) >>> 63
def difB (x y c : BitVec 64) : BitVec 64 := x - y - c
def outB (x y c : BitVec 64) : BitVec 64 := ((~~~x &&& y) ||| (~~~(x ^^^ y) &&& (x - y - c))) >>> 63

theorem top_bit (x : BitVec 64) : (x >>> 63).toNat = if x.msb then 1 else 0 := by
  have := x.isLt
  rw [BitVec.toNat_ushiftRight, Nat.shiftRight_eq_div_pow, BitVec.msb_eq_decide]
  simp only [decide_eq_true_eq]
  split <;> omega
theorem msb_iff (x : BitVec 64) : x.msb = decide (9223372036854775808 ≤ x.toNat) := by rw [BitVec.msb_eq_decide]

theorem outC_toNat (x y c : BitVec 64) (hc : c.toNat ≤ 1) : (outC x y c).toNat = (x.toNat + y.toNat + c.toNat) / 2 ^ 64 := by
  have hx := x.isLt; have hy := y.isLt
  unfold outC
  rw [top_bit]
  have hs : (x + y + c).toNat = (x.toNat + y.toNat + c.toNat) % 2 ^ 64 := by
    rw [BitVec.toNat_add, BitVec.toNat_add]; omega
  have h1 := msb_iff x; have h2 := msb_iff y; have h3 := msb_iff (x + y + c)
  rw [hs] at h3
  have e : ((x &&& y) ||| ((x ||| y) &&& ~~~(x + y + c))).msb = ((x.msb && y.msb) || ((x.msb || y.msb) && !(x + y + c).msb)) := by
    simp [BitVec.msb_or, BitVec.msb_and, BitVec.msb_not]
  rw [e, h1, h2, h3]
  by_cases a : 9223372036854775808 ≤ x.toNat <;> by_cases b : 9223372036854775808 ≤ y.toNat <;> by_cases d : 9223372036854775808 ≤ (x.toNat + y.toNat + c.toNat) % 2 ^ 64 <;> simp [a, b, d] <;> try omega
theorem sumC_toNat (x y c : BitVec 64) : (sumC x y c).toNat = (x.toNat + y.toNat + c.toNat) % 2 ^ 64 := by
  unfold sumC; rw [BitVec.toNat_add, BitVec.toNat_add]; omega
theorem outC_le (x y c : BitVec 64) (hc : c.toNat ≤ 1) : (outC x y c).toNat ≤ 1 := by
  rw [outC_toNat x y c hc]
  have hx := x.isLt; have hy := y.isLt; omega

theorem difB_toNat (x y c : BitVec 64) (hc : c.toNat ≤ 1) : (difB x y c).toNat = (x.toNat + 2 ^ 65 - y.toNat - c.toNat) % 2 ^ 64 := by
  have hx := x.isLt; have hy := y.isLt
  unfold difB; rw [BitVec.toNat_sub, BitVec.toNat_sub]; omega
theorem outB_toNat (x y c : BitVec 64) (hc : c.toNat ≤ 1) : (outB x y c).toNat = if x.toNat < y.toNat + c.toNat then 1 else 0 := by
  have hx := x.isLt; have hy := y.isLt
  unfold outB
  rw [top_bit]
  have hs := difB_toNat x y c hc
  unfold difB at hs
  have h1 := msb_iff x; have h2 := msb_iff y; have h3 := msb_iff (x - y - c)
  rw [hs] at h3
  have e : ((~~~x &&& y) ||| (~~~(x ^^^ y) &&& (x - y - c))).msb = ((!x.msb && y.msb) || (!(x.msb ^^ y.msb) && (x - y - c).msb)) := by
    simp [BitVec.msb_or, BitVec.msb_and, BitVec.msb_not, BitVec.msb_xor]
  rw [e, h1, h2, h3]
  by_cases a : 9223372036854775808 ≤ x.toNat <;> by_cases b : 9223372036854775808 ≤ y.toNat <;> by_cases d : 9223372036854775808 ≤ (x.toNat + 2 ^ 65 - y.toNat - c.toNat) % 2 ^ 64 <;> simp [a, b, d] <;> try omega
theorem outB_le (x y c : BitVec 64) (hc : c.toNat ≤ 1) : (outB x y c).toNat ≤ 1 := by
  rw [outB_toNat x y c hc]; split <;> omega

namespace W4
/-- the sum, part by part -/
def addP (x y : W4) : W4 :=
  ⟨sumC x.a y.a (outC x.b y.b (outC x.c y.c (outC x.d y.d 0))), sumC x.b y.b (outC x.c y.c (outC x.d y.d 0)), sumC x.c y.c (outC x.d y.d 0), sumC x.d y.d 0⟩
theorem addP_eq (x y : W4) : addP x y = add x y := by
  apply ext_n
  unfold add
  rw [of_toNat, BitVec.toNat_add, bv_toNat, bv_toNat]
  have h0 : (0 : BitVec 64).toNat ≤ 1 := by decide
  have e1 := outC_toNat x.d y.d 0 h0
  have l1 := outC_le x.d y.d 0 h0
  have e2 := outC_toNat x.c y.c _ l1
  have l2 := outC_le x.c y.c _ l1
  have e3 := outC_toNat x.b y.b _ l2
  have l3 := outC_le x.b y.b _ l2
  have s0 := sumC_toNat x.d y.d 0
  have s1 := sumC_toNat x.c y.c (outC x.d y.d 0)
  have s2 := sumC_toNat x.b y.b (outC x.c y.c (outC x.d y.d 0))
  have s3 := sumC_toNat x.a y.a (outC x.b y.b (outC x.c y.c (outC x.d y.d 0)))
  have z : (0 : BitVec 64).toNat = 0 := rfl
  rw [z] at e1 s0
  have := x.a.isLt; have := x.b.isLt; have := x.c.isLt; have := x.d.isLt
  have := y.a.isLt; have := y.b.isLt; have := y.c.isLt; have := y.d.isLt
  simp only [n, addP]
  omega
def subP (x y : W4) : W4 :=
  ⟨difB x.a y.a (outB x.b y.b (outB x.c y.c (outB x.d y.d 0))), difB x.b y.b (outB x.c y.c (outB x.d y.d 0)), difB x.c y.c (outB x.d y.d 0), difB x.d y.d 0⟩
def ltP (x y : W4) : BitVec 64 := outB x.a y.a (outB x.b y.b (outB x.c y.c (outB x.d y.d 0)))
theorem subP_eq (x y : W4) : subP x y = sub x y := by
  apply ext_n
  unfold sub
  rw [of_toNat, BitVec.toNat_sub, bv_toNat, bv_toNat]
  have h0 : (0 : BitVec 64).toNat ≤ 1 := by decide
  have e1 := outB_toNat x.d y.d 0 h0
  have l1 := outB_le x.d y.d 0 h0
  have e2 := outB_toNat x.c y.c _ l1
  have l2 := outB_le x.c y.c _ l1
  have e3 := outB_toNat x.b y.b _ l2
  have l3 := outB_le x.b y.b _ l2
  have s0 := difB_toNat x.d y.d 0 h0
  have s1 := difB_toNat x.c y.c (outB x.d y.d 0) l1
  have s2 := difB_toNat x.b y.b (outB x.c y.c (outB x.d y.d 0)) l2
  have s3 := difB_toNat x.a y.a (outB x.b y.b (outB x.c y.c (outB x.d y.d 0))) l3
  have z : (0 : BitVec 64).toNat = 0 := rfl
  rw [z] at e1 s0
  have := x.a.isLt; have := x.b.isLt; have := x.c.isLt; have := x.d.isLt
  have := y.a.isLt; have := y.b.isLt; have := y.c.isLt; have := y.d.isLt
  simp only [n, subP]
  generalize outB x.d y.d 0 = c1 at *
  generalize outB x.c y.c c1 = c2 at *
  generalize outB x.b y.b c2 = c3 at *
  split at e1 <;> split at e2 <;> split at e3 <;> omega
theorem ltP_eq (x y : W4) : (ltP x y == 1) = lt x y := by
  have h0 : (0 : BitVec 64).toNat ≤ 1 := by decide
  have e1 := outB_toNat x.d y.d 0 h0
  have l1 := outB_le x.d y.d 0 h0
  have e2 := outB_toNat x.c y.c _ l1
  have l2 := outB_le x.c y.c _ l1
  have e3 := outB_toNat x.b y.b _ l2
  have l3 := outB_le x.b y.b _ l2
  have e4 := outB_toNat x.a y.a _ l3
  have z : (0 : BitVec 64).toNat = 0 := rfl
  rw [z] at e1
  have := x.a.isLt; have := x.b.isLt; have := x.c.isLt; have := x.d.isLt
  have := y.a.isLt; have := y.b.isLt; have := y.c.isLt; have := y.d.isLt
  have k : (ltP x y == 1) = decide ((ltP x y).toNat = 1) := by
    rw [Bool.eq_iff_iff]; simp only [beq_iff_eq, decide_eq_true_eq]; rw [← BitVec.toNat_inj]; rfl
  rw [k]
  unfold lt ltP n
  generalize outB x.d y.d 0 = c1 at *
  generalize outB x.c y.c c1 = c2 at *
  generalize outB x.b y.b c2 = c3 at *
  generalize outB x.a y.a c3 = c4 at *
  rw [Bool.eq_iff_iff]; simp only [decide_eq_true_eq]
  split at e1 <;> split at e2 <;> split at e3 <;> split at e4 <;> constructor <;> intro h <;> omega
end W4

/-! ### products -/
def lo32 (x : BitVec 64) : BitVec 64 := x &&& 4294967295#64
def mulHi (x y : BitVec 64) : BitVec 64 :=
  (x >>> 32) * (y >>> 32) + ((x >>> 32) * lo32 y + (lo32 x * lo32 y) >>> 32) >>> 32 + (lo32 ((x >>> 32) * lo32 y + (lo32 x * lo32 y) >>> 32) + lo32 x * (y >>> 32)) >>> 32
theorem lo32_toNat (x : BitVec 64) : (lo32 x).toNat = x.toNat % 2 ^ 32 := by
  unfold lo32
  rw [BitVec.toNat_and]
  exact Nat.and_two_pow_sub_one_eq_mod x.toNat 32
theorem shr32_toNat (x : BitVec 64) : (x >>> 32).toNat = x.toNat / 2 ^ 32 := by
  rw [BitVec.toNat_ushiftRight, Nat.shiftRight_eq_div_pow]
theorem mulHi_toNat (x y : BitVec 64) : (mulHi x y).toNat = x.toNat * y.toNat / 2 ^ 64 := by
  have hx := x.isLt; have hy := y.isLt
  have x0 : x.toNat % 2 ^ 32 ≤ 4294967295 := by omega
  have x1 : x.toNat / 2 ^ 32 ≤ 4294967295 := by omega
  have y0 : y.toNat % 2 ^ 32 ≤ 4294967295 := by omega
  have y1 : y.toNat / 2 ^ 32 ≤ 4294967295 := by omega
  have p00 := Nat.mul_le_mul x0 y0
  have p01 := Nat.mul_le_mul x0 y1
  have p10 := Nat.mul_le_mul x1 y0
  have p11 := Nat.mul_le_mul x1 y1
  have hxy : x.toNat * y.toNat = (x.toNat / 2 ^ 32) * (y.toNat / 2 ^ 32) * 2 ^ 64 + (x.toNat / 2 ^ 32) * (y.toNat % 2 ^ 32) * 2 ^ 32 + (x.toNat % 2 ^ 32) * (y.toNat / 2 ^ 32) * 2 ^ 32 + (x.toNat % 2 ^ 32) * (y.toNat % 2 ^ 32) := by
    have ex : x.toNat = (x.toNat / 2 ^ 32) * 2 ^ 32 + x.toNat % 2 ^ 32 := by omega
    have ey : y.toNat = (y.toNat / 2 ^ 32) * 2 ^ 32 + y.toNat % 2 ^ 32 := by omega
    generalize x.toNat / 2 ^ 32 = a at *
    generalize x.toNat % 2 ^ 32 = b at *
    generalize y.toNat / 2 ^ 32 = c at *
    generalize y.toNat % 2 ^ 32 = d at *
    rw [ex, ey, Nat.add_mul, Nat.mul_add, Nat.mul_add]
    have q1 : a * 2 ^ 32 * (c * 2 ^ 32) = a * c * 2 ^ 64 := by rw [Nat.mul_mul_mul_comm]
    have q2 : a * 2 ^ 32 * d = a * d * 2 ^ 32 := by rw [Nat.mul_right_comm]
    have q3 : b * (c * 2 ^ 32) = b * c * 2 ^ 32 := by rw [Nat.mul_assoc]
    rw [q1, q2, q3]; omega
  rw [hxy]
  unfold mulHi
  simp only [BitVec.toNat_add, BitVec.toNat_mul, lo32_toNat, shr32_toNat]
  generalize (x.toNat / 2 ^ 32) * (y.toNat / 2 ^ 32) = p11' at *
  generalize (x.toNat / 2 ^ 32) * (y.toNat % 2 ^ 32) = p10' at *
  generalize (x.toNat % 2 ^ 32) * (y.toNat / 2 ^ 32) = p01' at *
  generalize (x.toNat % 2 ^ 32) * (y.toNat % 2 ^ 32) = p00' at *
  omega
end Go.Lh
