/- A reckoner for functions over a local heap: what each operation does, and that it is sound; numbers of 256 bits. -/
import Derived.Lib.Bytealg
import Derived.Deep.Slices
import Derived.SizedLaws
import Derived.Test.YtbgiickegljpoaaDoorLh2
set_option linter.unusedSimpArgs false
set_option linter.unusedVariables false
section
namespace Go.Lh

structure W4 where
  a : BitVec 64
  b : BitVec 64
  c : BitVec 64
  d : BitVec 64
  deriving DecidableEq

namespace W4
def v (x : W4) : V := .agg [.u64 x.a, .u64 x.b, .u64 x.c, .u64 x.d]
def n (x : W4) : Nat := 2 ^ 192 * x.a.toNat + (2 ^ 128 * x.b.toNat + (2 ^ 64 * x.c.toNat + x.d.toNat))
def bv (x : W4) : BitVec 256 := BitVec.ofNat 256 x.n
def of (y : BitVec 256) : W4 := ⟨y.extractLsb' 192 64, y.extractLsb' 128 64, y.extractLsb' 64 64, y.extractLsb' 0 64⟩

theorem n_lt (x : W4) : x.n < 2 ^ 256 := by
  have := x.a.isLt; have := x.b.isLt; have := x.c.isLt; have := x.d.isLt
  unfold n; omega
theorem bv_toNat (x : W4) : x.bv.toNat = x.n := by
  unfold bv; rw [BitVec.toNat_ofNat, Nat.mod_eq_of_lt x.n_lt]
theorem ext_n {x y : W4} (h : x.n = y.n) : x = y := by
  have := x.a.isLt; have := x.b.isLt; have := x.c.isLt; have := x.d.isLt
  have := y.a.isLt; have := y.b.isLt; have := y.c.isLt; have := y.d.isLt
  cases x; cases y
  simp only [n] at h
  simp only [mk.injEq]
  refine ⟨?_, ?_, ?_, ?_⟩ <;> apply BitVec.eq_of_toNat_eq <;> simp only at * <;> omega
theorem ext_bv {x y : W4} (h : x.bv = y.bv) : x = y := ext_n (by rw [← bv_toNat, ← bv_toNat, h])
theorem of_toNat (y : BitVec 256) : (of y).n = y.toNat := by
  have := y.isLt
  simp only [n, of, BitVec.extractLsb'_toNat, Nat.shiftRight_eq_div_pow]
  omega
theorem bv_of (y : BitVec 256) : (of y).bv = y := BitVec.eq_of_toNat_eq (by rw [bv_toNat, of_toNat])
theorem of_bv (x : W4) : of x.bv = x := ext_bv (bv_of _)
theorem bv_inj {x y : W4} : x.bv = y.bv ↔ x = y := ⟨ext_bv, fun h => by rw [h]⟩
theorem of_inj {x y : BitVec 256} : of x = of y ↔ x = y := ⟨fun h => by rw [← bv_of x, h, bv_of], fun h => by rw [h]⟩
theorem of_eq {x : BitVec 256} {y : W4} (h : y.bv = x) : of x = y := by rw [← h, of_bv]
theorem eq_of {x : BitVec 256} {y : W4} (h : y.bv = x) : y = of x := (of_eq h).symm

/-- one of four, by the place -/
def sel (i : Nat) (d c b a : Nat → Bool) : Bool := if i < 64 then d i else if i < 128 then c (i - 64) else if i < 192 then b (i - 128) else a (i - 192)
theorem sel_congr {i : Nat} (hi : i < 256) {d c b a d' c' b' a' : Nat → Bool} (hd : ∀ j, j < 64 → d j = d' j) (hc : ∀ j, j < 64 → c j = c' j) (hb : ∀ j, j < 64 → b j = b' j) (ha : ∀ j, j < 64 → a j = a' j) : sel i d c b a = sel i d' c' b' a' := by
  unfold sel
  by_cases h1 : i < 64
  · rw [if_pos h1, if_pos h1, hd _ h1]
  · rw [if_neg h1, if_neg h1]
    by_cases h2 : i < 128
    · rw [if_pos h2, if_pos h2, hc _ (by omega)]
    · rw [if_neg h2, if_neg h2]
      by_cases h3 : i < 192
      · rw [if_pos h3, if_pos h3, hb _ (by omega)]
      · rw [if_neg h3, if_neg h3, ha _ (by omega)]
theorem sel_two (f : Bool → Bool → Bool) (i : Nat) (d c b a d' c' b' a' : Nat → Bool) : f (sel i d c b a) (sel i d' c' b' a') = sel i (fun j => f (d j) (d' j)) (fun j => f (c j) (c' j)) (fun j => f (b j) (b' j)) (fun j => f (a j) (a' j)) := by
  unfold sel
  by_cases h1 : i < 64
  · rw [if_pos h1, if_pos h1, if_pos h1]
  · rw [if_neg h1, if_neg h1, if_neg h1]
    by_cases h2 : i < 128
    · rw [if_pos h2, if_pos h2, if_pos h2]
    · rw [if_neg h2, if_neg h2, if_neg h2]
      by_cases h3 : i < 192
      · rw [if_pos h3, if_pos h3, if_pos h3]
      · rw [if_neg h3, if_neg h3, if_neg h3]
theorem bit (x : W4) (i : Nat) : x.bv.getLsbD i = sel i x.d.getLsbD x.c.getLsbD x.b.getLsbD x.a.getLsbD := by
  have ha := x.a.isLt; have hb := x.b.isLt; have hc := x.c.isLt; have hd := x.d.isLt
  have e : x.bv.getLsbD i = x.n.testBit i := by rw [← bv_toNat]; rfl
  rw [e]
  unfold n sel
  rw [Nat.testBit_two_pow_mul_add _ (by omega), Nat.testBit_two_pow_mul_add _ (by omega), Nat.testBit_two_pow_mul_add _ hd]
  simp only [BitVec.getLsbD]
  by_cases h1 : i < 64
  · rw [if_pos (by omega), if_pos (by omega), if_pos h1, if_pos h1]
  · by_cases h2 : i < 128
    · rw [if_pos (by omega), if_pos h2, if_neg h1, if_neg h1, if_pos h2]
    · by_cases h3 : i < 192
      · rw [if_pos h3, if_neg h2, if_neg h1, if_neg h2, if_pos h3]
      · rw [if_neg h3, if_neg h1, if_neg h2, if_neg h3]

def zero : W4 := ⟨0, 0, 0, 0⟩
def small (n : BitVec 64) : W4 := ⟨0, 0, 0, n⟩
theorem zero_bv : zero.bv = 0 := rfl
theorem small_n (m : BitVec 64) : (small m).n = m.toNat := by simp [small, n]
theorem small_bv (m : BitVec 64) : (small m).bv = m.setWidth 256 := by
  apply BitVec.eq_of_toNat_eq
  rw [bv_toNat, small_n, BitVec.toNat_setWidth]
  have := m.isLt
  omega

/-- part by part -/
def map2 (f : BitVec 64 → BitVec 64 → BitVec 64) (x y : W4) : W4 := ⟨f x.a y.a, f x.b y.b, f x.c y.c, f x.d y.d⟩
def andW (x y : W4) : W4 := ⟨x.a &&& y.a, x.b &&& y.b, x.c &&& y.c, x.d &&& y.d⟩
def orW (x y : W4) : W4 := ⟨x.a ||| y.a, x.b ||| y.b, x.c ||| y.c, x.d ||| y.d⟩
def xorW (x y : W4) : W4 := ⟨x.a ^^^ y.a, x.b ^^^ y.b, x.c ^^^ y.c, x.d ^^^ y.d⟩
def notW (x : W4) : W4 := ⟨~~~x.a, ~~~x.b, ~~~x.c, ~~~x.d⟩
theorem andW_bv (x y : W4) : (andW x y).bv = x.bv &&& y.bv := by
  apply BitVec.eq_of_getLsbD_eq; intro i hi
  rw [BitVec.getLsbD_and, bit, bit, bit]
  refine Eq.trans ?_ (sel_two Bool.and i _ _ _ _ _ _ _ _).symm
  refine sel_congr hi ?_ ?_ ?_ ?_ <;> intro j hj <;> exact BitVec.getLsbD_and
theorem orW_bv (x y : W4) : (orW x y).bv = x.bv ||| y.bv := by
  apply BitVec.eq_of_getLsbD_eq; intro i hi
  rw [BitVec.getLsbD_or, bit, bit, bit]
  refine Eq.trans ?_ (sel_two Bool.or i _ _ _ _ _ _ _ _).symm
  refine sel_congr hi ?_ ?_ ?_ ?_ <;> intro j hj <;> exact BitVec.getLsbD_or
theorem xorW_bv (x y : W4) : (xorW x y).bv = x.bv ^^^ y.bv := by
  apply BitVec.eq_of_getLsbD_eq; intro i hi
  rw [BitVec.getLsbD_xor, bit, bit, bit]
  refine Eq.trans ?_ (sel_two Bool.xor i _ _ _ _ _ _ _ _).symm
  refine sel_congr hi ?_ ?_ ?_ ?_ <;> intro j hj <;> exact BitVec.getLsbD_xor
theorem notW_bv (x : W4) : (notW x).bv = ~~~x.bv := by
  apply BitVec.eq_of_getLsbD_eq; intro i hi
  rw [BitVec.getLsbD_not, bit, bit, decide_eq_true hi, Bool.true_and]
  refine Eq.trans ?_ (sel_two (fun p _ => !p) i _ _ _ _ x.d.getLsbD x.c.getLsbD x.b.getLsbD x.a.getLsbD).symm
  refine sel_congr hi ?_ ?_ ?_ ?_ <;> intro j hj <;> (refine (BitVec.getLsbD_not).trans ?_) <;> rw [decide_eq_true hj, Bool.true_and]

def add (x y : W4) : W4 := of (x.bv + y.bv)
def sub (x y : W4) : W4 := of (x.bv - y.bv)
def mul (x y : W4) : W4 := of (x.bv * y.bv)
def lt (x y : W4) : Bool := decide (x.n < y.n)

theorem beq (x y : W4) : (x == y) = (x.a == y.a && (x.b == y.b && (x.c == y.c && x.d == y.d))) := by
  rw [Bool.eq_iff_iff]
  cases x; cases y
  simp
end W4

/-! ### with a carry -/
def sumC (x y c : BitVec 64) : BitVec 64 := x + y + c
def outC (x y c : BitVec 64) : BitVec 64 := ((x &&& y) ||| ((x ||| y) &&& ~~~(x + y + c))) >>> 63
def difB (x y c : BitVec 64) : BitVec 64 := x - y - c
def outB (x y c : BitVec 64) : BitVec 64 := ((~~~x &&& y) ||| (~~~(x ^^^ y) &&& (x - y - c))) >>> 63

theorem top_bit (x : BitVec 64) : (x >>> 63).toNat = if x.msb then 1 else 0 := by
  have := x.isLt
  rw [BitVec.toNat_ushiftRight, Nat.shiftRight_eq_div_pow, BitVec.msb_eq_decide]
  simp only [decide_eq_true_eq]
  split <;> omega
theorem msb_iff (x : BitVec 64) : x.msb = decide (9223372036854775808 ≤ x.toNat) := by rw [BitVec.msb_eq_decide]

theorem outC_toNat (x y c : BitVec 64) (hc : c.toNat ≤ 1) : (outC x y c).toNat = (x.toNat + y.toNat + c.toNat) / 2 ^ 64 := by
  have hx := x.isLt; have hy := y.isLt
  unfold outC
  rw [top_bit]
  have hs : (x + y + c).toNat = (x.toNat + y.toNat + c.toNat) % 2 ^ 64 := by
    rw [BitVec.toNat_add, BitVec.toNat_add]; omega
  have h1 := msb_iff x; have h2 := msb_iff y; have h3 := msb_iff (x + y + c)
  rw [hs] at h3
  have e : ((x &&& y) ||| ((x ||| y) &&& ~~~(x + y + c))).msb = ((x.msb && y.msb) || ((x.msb || y.msb) && !(x + y + c).msb)) := by
    simp [BitVec.msb_or, BitVec.msb_and, BitVec.msb_not]
  rw [e, h1, h2, h3]
  by_cases a : 9223372036854775808 ≤ x.toNat <;> by_cases b : 9223372036854775808 ≤ y.toNat <;> by_cases d : 9223372036854775808 ≤ (x.toNat + y.toNat + c.toNat) % 2 ^ 64 <;> simp [a, b, d] <;> try omega
theorem sumC_toNat (x y c : BitVec 64) : (sumC x y c).toNat = (x.toNat + y.toNat + c.toNat) % 2 ^ 64 := by
  unfold sumC; rw [BitVec.toNat_add, BitVec.toNat_add]; omega
theorem outC_le (x y c : BitVec 64) (hc : c.toNat ≤ 1) : (outC x y c).toNat ≤ 1 := by
  rw [outC_toNat x y c hc]
  have hx := x.isLt; have hy := y.isLt; omega

theorem difB_toNat (x y c : BitVec 64) (hc : c.toNat ≤ 1) : (difB x y c).toNat = (x.toNat + 2 ^ 65 - y.toNat - c.toNat) % 2 ^ 64 := by
  have hx := x.isLt; have hy := y.isLt
  unfold difB; rw [BitVec.toNat_sub, BitVec.toNat_sub]; omega
theorem outB_toNat (x y c : BitVec 64) (hc : c.toNat ≤ 1) : (outB x y c).toNat = if x.toNat < y.toNat + c.toNat then 1 else 0 := by
  have hx := x.isLt; have hy := y.isLt
  unfold outB
  rw [top_bit]
  have hs := difB_toNat x y c hc
  unfold difB at hs
  have h1 := msb_iff x; have h2 := msb_iff y; have h3 := msb_iff (x - y - c)
  rw [hs] at h3
  have e : ((~~~x &&& y) ||| (~~~(x ^^^ y) &&& (x - y - c))).msb = ((!x.msb && y.msb) || (!(x.msb ^^ y.msb) && (x - y - c).msb)) := by
    simp [BitVec.msb_or, BitVec.msb_and, BitVec.msb_not, BitVec.msb_xor]
  rw [e, h1, h2, h3]
  by_cases a : 9223372036854775808 ≤ x.toNat <;> by_cases b : 9223372036854775808 ≤ y.toNat <;> by_cases d : 9223372036854775808 ≤ (x.toNat + 2 ^ 65 - y.toNat - c.toNat) % 2 ^ 64 <;> simp [a, b, d] <;> try omega
theorem outB_le (x y c : BitVec 64) (hc : c.toNat ≤ 1) : (outB x y c).toNat ≤ 1 := by
  rw [outB_toNat x y c hc]; split <;> omega

namespace W4
/-- the sum, part by part -/
def addP (x y : W4) : W4 :=
  ⟨sumC x.a y.a (outC x.b y.b (outC x.c y.c (outC x.d y.d 0))), sumC x.b y.b (outC x.c y.c (outC x.d y.d 0)), sumC x.c y.c (outC x.d y.d 0), sumC x.d y.d 0⟩
theorem addP_eq (x y : W4) : addP x y = add x y := by
  apply ext_n
  unfold add
  rw [of_toNat, BitVec.toNat_add, bv_toNat, bv_toNat]
  have h0 : (0 : BitVec 64).toNat ≤ 1 := by decide
  have e1 := outC_toNat x.d y.d 0 h0
  have l1 := outC_le x.d y.d 0 h0
  have e2 := outC_toNat x.c y.c _ l1
  have l2 := outC_le x.c y.c _ l1
  have e3 := outC_toNat x.b y.b _ l2
  have l3 := outC_le x.b y.b _ l2
  have s0 := sumC_toNat x.d y.d 0
  have s1 := sumC_toNat x.c y.c (outC x.d y.d 0)
  have s2 := sumC_toNat x.b y.b (outC x.c y.c (outC x.d y.d 0))
  have s3 := sumC_toNat x.a y.a (outC x.b y.b (outC x.c y.c (outC x.d y.d 0)))
  have z : (0 : BitVec 64).toNat = 0 := rfl
  rw [z] at e1 s0
  have := x.a.isLt; have := x.b.isLt; have := x.c.isLt; have := x.d.isLt
  have := y.a.isLt; have := y.b.isLt; have := y.c.isLt; have := y.d.isLt
  simp only [n, addP]
  omega
def subP (x y : W4) : W4 :=
  ⟨difB x.a y.a (outB x.b y.b (outB x.c y.c (outB x.d y.d 0))), difB x.b y.b (outB x.c y.c (outB x.d y.d 0)), difB x.c y.c (outB x.d y.d 0), difB x.d y.d 0⟩
def ltP (x y : W4) : BitVec 64 := outB x.a y.a (outB x.b y.b (outB x.c y.c (outB x.d y.d 0)))
theorem subP_eq (x y : W4) : subP x y = sub x y := by
  apply ext_n
  unfold sub
  rw [of_toNat, BitVec.toNat_sub, bv_toNat, bv_toNat]
  have h0 : (0 : BitVec 64).toNat ≤ 1 := by decide
  have e1 := outB_toNat x.d y.d 0 h0
  have l1 := outB_le x.d y.d 0 h0
  have e2 := outB_toNat x.c y.c _ l1
  have l2 := outB_le x.c y.c _ l1
  have e3 := outB_toNat x.b y.b _ l2
  have l3 := outB_le x.b y.b _ l2
  have s0 := difB_toNat x.d y.d 0 h0
  have s1 := difB_toNat x.c y.c (outB x.d y.d 0) l1
  have s2 := difB_toNat x.b y.b (outB x.c y.c (outB x.d y.d 0)) l2
  have s3 := difB_toNat x.a y.a (outB x.b y.b (outB x.c y.c (outB x.d y.d 0))) l3
  have z : (0 : BitVec 64).toNat = 0 := rfl
  rw [z] at e1 s0
  have := x.a.isLt; have := x.b.isLt; have := x.c.isLt; have := x.d.isLt
  have := y.a.isLt; have := y.b.isLt; have := y.c.isLt; have := y.d.isLt
  simp only [n, subP]
  generalize outB x.d y.d 0 = c1 at *
  generalize outB x.c y.c c1 = c2 at *
  generalize outB x.b y.b c2 = c3 at *
  split at e1 <;> split at e2 <;> split at e3 <;> omega
theorem ltP_eq (x y : W4) : (ltP x y == 1) = lt x y := by
  have h0 : (0 : BitVec 64).toNat ≤ 1 := by decide
  have e1 := outB_toNat x.d y.d 0 h0
  have l1 := outB_le x.d y.d 0 h0
  have e2 := outB_toNat x.c y.c _ l1
  have l2 := outB_le x.c y.c _ l1
  have e3 := outB_toNat x.b y.b _ l2
  have l3 := outB_le x.b y.b _ l2
  have e4 := outB_toNat x.a y.a _ l3
  have z : (0 : BitVec 64).toNat = 0 := rfl
  rw [z] at e1
  have := x.a.isLt; have := x.b.isLt; have := x.c.isLt; have := x.d.isLt
  have := y.a.isLt; have := y.b.isLt; have := y.c.isLt; have := y.d.isLt
  have k : (ltP x y == 1) = decide ((ltP x y).toNat = 1) := by
    rw [Bool.eq_iff_iff]; simp only [beq_iff_eq, decide_eq_true_eq]; rw [← BitVec.toNat_inj]; rfl
  rw [k]
  unfold lt ltP n
  generalize outB x.d y.d 0 = c1 at *
  generalize outB x.c y.c c1 = c2 at *
  generalize outB x.b y.b c2 = c3 at *
  generalize outB x.a y.a c3 = c4 at *
  rw [Bool.eq_iff_iff]; simp only [decide_eq_true_eq]
  split at e1 <;> split at e2 <;> split at e3 <;> split at e4 <;> constructor <;> intro h <;> omega
end W4

/-! ### products -/
def lo32 (x : BitVec 64) : BitVec 64 := x &&& 4294967295#64
def mulHi (x y : BitVec 64) : BitVec 64 :=
  (x >>> 32) * (y >>> 32) + ((x >>> 32) * lo32 y + (lo32 x * lo32 y) >>> 32) >>> 32 + (lo32 ((x >>> 32) * lo32 y + (lo32 x * lo32 y) >>> 32) + lo32 x * (y >>> 32)) >>> 32
theorem lo32_toNat (x : BitVec 64) : (lo32 x).toNat = x.toNat % 2 ^ 32 := by
  unfold lo32
  rw [BitVec.toNat_and]
  exact Nat.and_two_pow_sub_one_eq_mod x.toNat 32
theorem shr32_toNat (x : BitVec 64) : (x >>> 32).toNat = x.toNat / 2 ^ 32 := by
  rw [BitVec.toNat_ushiftRight, Nat.shiftRight_eq_div_pow]
theorem mulHi_toNat (x y : BitVec 64) : (mulHi x y).toNat = x.toNat * y.toNat / 2 ^ 64 := by
  have hx := x.isLt; have hy := y.isLt
  have x0 : x.toNat % 2 ^ 32 ≤ 4294967295 := by omega
  have x1 : x.toNat / 2 ^ 32 ≤ 4294967295 := by omega
  have y0 : y.toNat % 2 ^ 32 ≤ 4294967295 := by omega
  have y1 : y.toNat / 2 ^ 32 ≤ 4294967295 := by omega
  have p00 := Nat.mul_le_mul x0 y0
  have p01 := Nat.mul_le_mul x0 y1
  have p10 := Nat.mul_le_mul x1 y0
  have p11 := Nat.mul_le_mul x1 y1
  have hxy : x.toNat * y.toNat = (x.toNat / 2 ^ 32) * (y.toNat / 2 ^ 32) * 2 ^ 64 + (x.toNat / 2 ^ 32) * (y.toNat % 2 ^ 32) * 2 ^ 32 + (x.toNat % 2 ^ 32) * (y.toNat / 2 ^ 32) * 2 ^ 32 + (x.toNat % 2 ^ 32) * (y.toNat % 2 ^ 32) := by
    have ex : x.toNat = (x.toNat / 2 ^ 32) * 2 ^ 32 + x.toNat % 2 ^ 32 := by omega
    have ey : y.toNat = (y.toNat / 2 ^ 32) * 2 ^ 32 + y.toNat % 2 ^ 32 := by omega
    generalize x.toNat / 2 ^ 32 = a at *
    generalize x.toNat % 2 ^ 32 = b at *
    generalize y.toNat / 2 ^ 32 = c at *
    generalize y.toNat % 2 ^ 32 = d at *
    rw [ex, ey, Nat.add_mul, Nat.mul_add, Nat.mul_add]
    have q1 : a * 2 ^ 32 * (c * 2 ^ 32) = a * c * 2 ^ 64 := by rw [Nat.mul_mul_mul_comm]
    have q2 : a * 2 ^ 32 * d = a * d * 2 ^ 32 := by rw [Nat.mul_right_comm]
    have q3 : b * (c * 2 ^ 32) = b * c * 2 ^ 32 := by rw [Nat.mul_assoc]
    rw [q1, q2, q3]; omega
  rw [hxy]
  unfold mulHi
  simp only [BitVec.toNat_add, BitVec.toNat_mul, lo32_toNat, shr32_toNat]
  generalize (x.toNat / 2 ^ 32) * (y.toNat / 2 ^ 32) = p11' at *
  generalize (x.toNat / 2 ^ 32) * (y.toNat % 2 ^ 32) = p10' at *
  generalize (x.toNat % 2 ^ 32) * (y.toNat / 2 ^ 32) = p01' at *
  generalize (x.toNat % 2 ^ 32) * (y.toNat % 2 ^ 32) = p00' at *
  omega
end Go.Lh
end
section
namespace Go.Lh
def macLo (l m o c : BitVec 64) : BitVec 64 := sumC (sumC (l * m) o 0) c 0
def macHi (l m o c : BitVec 64) : BitVec 64 := mulHi l m + outC (l * m) o 0 + outC (sumC (l * m) o 0) c 0
theorem mac_eq (l m o c : BitVec 64) : (macLo l m o c).toNat + 2 ^ 64 * (macHi l m o c).toNat = l.toNat * m.toNat + o.toNat + c.toNat := by
  have hl := l.isLt; have hm := m.isLt; have ho := o.isLt; have hc := c.isLt
  have h0 : (0 : BitVec 64).toNat ≤ 1 := by decide
  have e1 := outC_toNat (l * m) o 0 h0
  have e2 := outC_toNat (sumC (l * m) o 0) c 0 h0
  have s1 := sumC_toNat (l * m) o 0
  have s2 := sumC_toNat (sumC (l * m) o 0) c 0
  have hh := mulHi_toNat l m
  have hlo : (l * m).toNat = l.toNat * m.toNat % 2 ^ 64 := BitVec.toNat_mul _ _
  have z : (0 : BitVec 64).toNat = 0 := rfl
  rw [z] at e1 e2 s1 s2
  have hb : l.toNat * m.toNat ≤ 18446744073709551615 * 18446744073709551615 := Nat.mul_le_mul (by omega) (by omega)
  unfold macLo macHi
  rw [BitVec.toNat_add, BitVec.toNat_add, hh, e1, e2, s2, s1, hlo]
  generalize l.toNat * m.toNat = p at *
  omega
namespace W4
theorem mul4 (l a b c d : Nat) : l * (2 ^ 192 * a + (2 ^ 128 * b + (2 ^ 64 * c + d))) = 2 ^ 192 * (l * a) + (2 ^ 128 * (l * b) + (2 ^ 64 * (l * c) + l * d)) := by
  rw [Nat.mul_add, Nat.mul_add, Nat.mul_add, Nat.mul_left_comm l, Nat.mul_left_comm l, Nat.mul_left_comm l]
theorem mul4r (a b c d y : Nat) : (2 ^ 192 * a + (2 ^ 128 * b + (2 ^ 64 * c + d))) * y = 2 ^ 192 * (a * y) + (2 ^ 128 * (b * y) + (2 ^ 64 * (c * y) + d * y)) := by
  rw [Nat.add_mul, Nat.add_mul, Nat.add_mul, Nat.mul_assoc, Nat.mul_assoc, Nat.mul_assoc]
/-- the product, part by part -/
def mulP (x y : W4) : W4 :=
  let o0 := macLo x.d y.d 0 0
  let c0 := macHi x.d y.d 0 0
  let o1 := macLo x.d y.c 0 c0
  let c1 := macHi x.d y.c 0 c0
  let o2 := macLo x.d y.b 0 c1
  let c2 := macHi x.d y.b 0 c1
  let o3 := macLo x.d y.a 0 c2
  let p1 := macLo x.c y.d o1 0
  let d1 := macHi x.c y.d o1 0
  let p2 := macLo x.c y.c o2 d1
  let d2 := macHi x.c y.c o2 d1
  let p3 := macLo x.c y.b o3 d2
  let q2 := macLo x.b y.d p2 0
  let e2 := macHi x.b y.d p2 0
  let q3 := macLo x.b y.c p3 e2
  ⟨macLo x.a y.d q3 0, q2, p1, o0⟩
theorem mulP_eq (x y : W4) : mulP x y = mul x y := by
  apply ext_n
  unfold mul
  rw [of_toNat, BitVec.toNat_mul, bv_toNat, bv_toNat]
  have z : (0 : BitVec 64).toNat = 0 := rfl
  have m0 := mac_eq x.d y.d 0 0
  have m1 := mac_eq x.d y.c 0 (macHi x.d y.d 0 0)
  have m2 := mac_eq x.d y.b 0 (macHi x.d y.c 0 (macHi x.d y.d 0 0))
  have m3 := mac_eq x.d y.a 0 (macHi x.d y.b 0 (macHi x.d y.c 0 (macHi x.d y.d 0 0)))
  simp only [mulP]
  generalize macLo x.d y.d 0 0 = o0 at *
  generalize macHi x.d y.d 0 0 = c0 at *
  generalize macLo x.d y.c 0 c0 = o1 at *
  generalize macHi x.d y.c 0 c0 = c1 at *
  generalize macLo x.d y.b 0 c1 = o2 at *
  generalize macHi x.d y.b 0 c1 = c2 at *
  generalize macLo x.d y.a 0 c2 = o3 at *
  generalize macHi x.d y.a 0 c2 = c3 at *
  have n1 := mac_eq x.c y.d o1 0
  have n2 := mac_eq x.c y.c o2 (macHi x.c y.d o1 0)
  have n3 := mac_eq x.c y.b o3 (macHi x.c y.c o2 (macHi x.c y.d o1 0))
  generalize macLo x.c y.d o1 0 = p1 at *
  generalize macHi x.c y.d o1 0 = d1 at *
  generalize macLo x.c y.c o2 d1 = p2 at *
  generalize macHi x.c y.c o2 d1 = d2 at *
  generalize macLo x.c y.b o3 d2 = p3 at *
  generalize macHi x.c y.b o3 d2 = d3 at *
  have k2 := mac_eq x.b y.d p2 0
  have k3 := mac_eq x.b y.c p3 (macHi x.b y.d p2 0)
  generalize macLo x.b y.d p2 0 = q2 at *
  generalize macHi x.b y.d p2 0 = e2 at *
  generalize macLo x.b y.c p3 e2 = q3 at *
  generalize macHi x.b y.c p3 e2 = e3 at *
  have l3 := mac_eq x.a y.d q3 0
  generalize macLo x.a y.d q3 0 = r3 at *
  generalize macHi x.a y.d q3 0 = f3 at *
  rw [z] at m0 m1 m2 m3 n1 k2 l3
  have hx : x.n * y.n = 2 ^ 192 * (x.a.toNat * y.n) + (2 ^ 128 * (x.b.toNat * y.n) + (2 ^ 64 * (x.c.toNat * y.n) + x.d.toNat * y.n)) := by
    conv => lhs; rw [show x.n = 2 ^ 192 * x.a.toNat + (2 ^ 128 * x.b.toNat + (2 ^ 64 * x.c.toNat + x.d.toNat)) from rfl]
    rw [mul4r]
  have ea : x.a.toNat * y.n = _ := mul4 x.a.toNat y.a.toNat y.b.toNat y.c.toNat y.d.toNat
  have eb : x.b.toNat * y.n = _ := mul4 x.b.toNat y.a.toNat y.b.toNat y.c.toNat y.d.toNat
  have ec : x.c.toNat * y.n = _ := mul4 x.c.toNat y.a.toNat y.b.toNat y.c.toNat y.d.toNat
  have ed : x.d.toNat * y.n = _ := mul4 x.d.toNat y.a.toNat y.b.toNat y.c.toNat y.d.toNat
  rw [hx, ea, eb, ec, ed]
  have g : ∀ (u v : Nat), (⟨r3, q2, p1, o0⟩ : W4).n = u → u % 2 ^ 256 = v % 2 ^ 256 → (⟨r3, q2, p1, o0⟩ : W4).n = v % 2 ^ 256 := by
    intro u v h1 h2
    have := n_lt ⟨r3, q2, p1, o0⟩
    rw [← h2, ← h1, Nat.mod_eq_of_lt this]
  refine g _ _ rfl ?_
  simp only [n]
  generalize x.a.toNat * y.a.toNat = t33 at *
  generalize x.a.toNat * y.b.toNat = t32 at *
  generalize x.a.toNat * y.c.toNat = t31 at *
  generalize x.a.toNat * y.d.toNat = t30 at *
  generalize x.b.toNat * y.a.toNat = t23 at *
  generalize x.b.toNat * y.b.toNat = t22 at *
  generalize x.b.toNat * y.c.toNat = t21 at *
  generalize x.b.toNat * y.d.toNat = t20 at *
  generalize x.c.toNat * y.a.toNat = t13 at *
  generalize x.c.toNat * y.b.toNat = t12 at *
  generalize x.c.toNat * y.c.toNat = t11 at *
  generalize x.c.toNat * y.d.toNat = t10 at *
  generalize x.d.toNat * y.a.toNat = t03 at *
  generalize x.d.toNat * y.b.toNat = t02 at *
  generalize x.d.toNat * y.c.toNat = t01 at *
  generalize x.d.toNat * y.d.toNat = t00 at *
  clear hx ea eb ec ed g
  omega
end W4

/-! ### quotients -/
theorem div_two {a B : Nat} (hB : 0 < B) : a / B = 2 * (a / (2 * B)) + (if B ≤ a % (2 * B) then 1 else 0) ∧ a % B = a % (2 * B) - (if B ≤ a % (2 * B) then B else 0) := by
  have e := Nat.div_add_mod a (2 * B)
  have hr : a % (2 * B) < 2 * B := Nat.mod_lt _ (by omega)
  generalize a / (2 * B) = q at *
  generalize a % (2 * B) = r at *
  have : a = B * (2 * q + (if B ≤ r then 1 else 0)) + (r - (if B ≤ r then B else 0)) := by
    rw [← e, Nat.mul_add, ← Nat.mul_assoc, Nat.mul_comm B 2]
    split <;> omega
  have hlt : r - (if B ≤ r then B else 0) < B := by split <;> omega
  exact (Nat.div_mod_unique hB).2 ⟨by rw [Nat.add_comm]; exact this.symm, hlt⟩
end Go.Lh
end
section
namespace Go.Lh
section
variable {P : Program}
theorem callFunc_extern {f : FuncId} {fn : Func} {e : Array Value → Sem Value} (hf : P.funcs[f]? = some fn) (hname : (fn.name == "runtime.NumGoroutine") = false) (hb : fn.body.isNone = true) (hn : Extern.findNext fn = none) (he : Extern.find fn = some e)
    {args : Array Value} {w w' : World} {v : Value} (hr : (e args).run P w = .ok v w') : (callFunc f args).run P w = .ok (.value v) w' := by
  simp only [callFunc, Sem.run_bind, run_program, Result.andThen_ok, hf, hname, Bool.false_eq_true, if_false, hb, if_true, run_mark, hn, he, hr, Sem.run_pure]

/-- one entry of an oracle for such functions -/
structure ExtAt (P : Program) (f : FuncId) (g : List V → Option (Bool × V)) : Prop where
  ok : ∀ args v, g args = some (true, v) → ∀ (I : Nat → Prop) (w : World) (ρ : Ren) (args' : List Value), VsRel I w ρ args args' → ∃ v', (callFunc f ⟨args'⟩).run P w = .ok (.value v') w ∧ VRel I w ρ v v'

def extL : List (FuncId × (List V → Option (Bool × V))) → FuncId → List V → Option (Bool × V)
  | [], _, _ => none
  | (i, g) :: r, f, args => if Nat.beq i f then g args else extL r f args
theorem extL_nil : ExtOk P (extL []) := fun f args v h => by simp [extL] at h
theorem extL_cons {i : FuncId} {g : List V → Option (Bool × V)} {r : List (FuncId × (List V → Option (Bool × V)))} (h : ExtAt P i g) (hr : ExtOk P (extL r)) : ExtOk P (extL ((i, g) :: r)) := by
  intro f args v hx
  simp only [extL] at hx
  split at hx
  · rename_i e
    have := Nat.eq_of_beq_eq_true e
    subst this
    exact h.ok args v hx
  · exact hr f args v hx

def addX : List V → Option (Bool × V)
  | [.u64 x, .u64 y, .u64 c] => some (decide (c.toNat ≤ 1), .tup [.u64 (sumC x y c), .u64 (outC x y c)])
  | _ => none
def subX : List V → Option (Bool × V)
  | [.u64 x, .u64 y, .u64 c] => some (decide (c.toNat ≤ 1), .tup [.u64 (difB x y c), .u64 (outB x y c)])
  | _ => none
def cntX : List V → Option (Bool × V)
  | [.str s, .u8 c] => some (true, .int .i64 (s.count c : Nat))
  | _ => none

theorem three_u64 {args' : List Value} {I : Nat → Prop} {w : World} {ρ : Ren} {x y c : BitVec 64} (h : VsRel I w ρ [.u64 x, .u64 y, .u64 c] args') : args' = [.int .u64 x.toNat, .int .u64 y.toNat, .int .u64 c.toNat] := by
  cases h with
  | cons _ _ _ _ _ h1 r =>
    cases h1
    cases r with
    | cons _ _ _ _ _ h2 r =>
      cases h2
      cases r with
      | cons _ _ _ _ _ h3 r => cases h3; cases r; rfl

theorem run_three {w : World} (nm : String) (x y c : Nat) (hc : c ≤ 1) : (Extern.MathBitsCarry.three nm ⟨[.int .u64 x, .int .u64 y, .int .u64 c]⟩).run P w = .ok (x, y, c) w := by
  have h1 : ¬ 1 < c := by omega
  change Sem.run P (do
    let c := (← asInt (.int .u64 c)).toNat
    if c > 1 then unsupported (.noEntry ("extern/math/bits." ++ nm ++ ": a carry that is neither 0 nor 1"))
    pure ((← asInt (.int .u64 x)).toNat, (← asInt (.int .u64 y)).toNat, c)) w = _
  simp [asInt, asIntOf]
  omega
theorem addX_at {f : FuncId} {fn : Func} (hf : P.funcs[f]? = some fn) (hname : (fn.name == "runtime.NumGoroutine") = false) (hb : fn.body.isNone = true) (hn : Extern.findNext fn = none)
    (he : Extern.find fn = some (fun args => do let (x, y, c) ← Extern.MathBitsCarry.three "Add64" args; pure (Extern.MathBitsCarry.pair ((x + y + c) % Extern.MathBitsCarry.m64) ((x + y + c) / Extern.MathBitsCarry.m64)))) : ExtAt P f addX := by
  refine ⟨fun args v hx I w ρ args' ha => ?_⟩
  unfold addX at hx
  split at hx <;> simp only [Option.some.injEq, Prod.mk.injEq, decide_eq_true_eq, reduceCtorEq] at hx
  rename_i x y c
  obtain ⟨hc, rfl⟩ := hx
  rw [three_u64 ha]
  refine ⟨.tuple #[.int .u64 (sumC x y c).toNat, .int .u64 (outC x y c).toNat], callFunc_extern hf hname hb hn he ?_, ?_⟩
  · rw [Sem.run_bind, run_three _ _ _ _ hc]
    simp [Extern.MathBitsCarry.pair, Extern.MathBitsCarry.m64, sumC_toNat, outC_toNat x y c hc]
  · exact .tup _ _ _ (.cons _ _ _ _ _ (.u64 _ _) (.cons _ _ _ _ _ (.u64 _ _) (.nil _)))
theorem subX_at {f : FuncId} {fn : Func} (hf : P.funcs[f]? = some fn) (hname : (fn.name == "runtime.NumGoroutine") = false) (hb : fn.body.isNone = true) (hn : Extern.findNext fn = none)
    (he : Extern.find fn = some (fun args => do let (x, y, b) ← Extern.MathBitsCarry.three "Sub64" args; pure (Extern.MathBitsCarry.pair ((x + Extern.MathBitsCarry.m64 - y - b) % Extern.MathBitsCarry.m64) (if x < y + b then 1 else 0)))) : ExtAt P f subX := by
  refine ⟨fun args v hx I w ρ args' ha => ?_⟩
  unfold subX at hx
  split at hx <;> simp only [Option.some.injEq, Prod.mk.injEq, decide_eq_true_eq, reduceCtorEq] at hx
  rename_i x y c
  obtain ⟨hc, rfl⟩ := hx
  rw [three_u64 ha]
  refine ⟨.tuple #[.int .u64 (difB x y c).toNat, .int .u64 (outB x y c).toNat], callFunc_extern hf hname hb hn he ?_, ?_⟩
  · have e : (x.toNat + 2 ^ 65 - y.toNat - c.toNat) % 2 ^ 64 = (x.toNat + 2 ^ 64 - y.toNat - c.toNat) % 2 ^ 64 := by have := x.isLt; have := y.isLt; omega
    rw [Sem.run_bind, run_three _ _ _ _ hc]
    simp only [Result.andThen_ok, Sem.run_pure, Extern.MathBitsCarry.pair, Extern.MathBitsCarry.m64, difB_toNat x y c hc, outB_toNat x y c hc, e]
    split <;> rfl
  · exact .tup _ _ _ (.cons _ _ _ _ _ (.u64 _ _) (.cons _ _ _ _ _ (.u64 _ _) (.nil _)))
theorem count_bytes (s : ByteArray) (c : BitVec 8) : (bytesOf s).count c = Lib.countByte s.data.toList (((c.toNat : Int).toNat).toUInt8) := by
  unfold bytesOf Lib.countByte
  rw [Int.toNat_natCast]
  have hc : c.toNat.toUInt8.toBitVec = c := by
    apply BitVec.eq_of_toNat_eq
    simp
  induction s.data.toList with
  | nil => rfl
  | cons b l ih =>
    rw [List.map_cons, List.count_cons, List.count_cons, ih]
    have : (b.toBitVec == c) = (b == c.toNat.toUInt8) := by
      rw [Bool.eq_iff_iff, beq_iff_eq, beq_iff_eq]
      constructor
      · intro h; apply UInt8.toBitVec_inj.1; rw [hc]; exact h
      · intro h; rw [h]; exact hc
    rw [this]
theorem cntX_at {f : FuncId} {fn : Func} (hf : P.funcs[f]? = some fn) (hname : (fn.name == "runtime.NumGoroutine") = false) (hb : fn.body.isNone = true) (hn : Extern.findNext fn = none)
    (he : Extern.find fn = some Extern.BytealgCount.count) : ExtAt P f cntX := by
  refine ⟨fun args v hx I w ρ args' ha => ?_⟩
  unfold cntX at hx
  split at hx <;> simp only [Option.some.injEq, Prod.mk.injEq, true_and, reduceCtorEq] at hx
  rename_i s c
  subst hx
  cases ha with
  | cons _ _ _ _ _ h1 r =>
    cases h1 with
    | str _ s =>
      cases r with
      | cons _ _ _ _ _ h2 r =>
        cases h2
        cases r
        refine ⟨_, callFunc_extern hf hname hb hn he (Lib.run_countString s _ w), ?_⟩
        rw [count_bytes]
        exact .int _ _ _ rfl
end
end Go.Lh
namespace Go.Lh
/-- internal/abi.NoEscape: what is handed in -/
def escX : List V → Option (Bool × V)
  | [x] => some (true, x)
  | _ => none
theorem escX_at {P : Program} {f : FuncId} {fn : Func} (hf : P.funcs[f]? = some fn) (hname : (fn.name == "runtime.NumGoroutine") = false) (hb : fn.body.isNone = true) (hn : Extern.findNext fn = none)
    (he : Extern.find fn = some Extern.AbiNoEscape.same) : ExtAt P f escX := by
  refine ⟨fun args v hx I w ρ args' ha => ?_⟩
  unfold escX at hx
  split at hx <;> simp only [Option.some.injEq, Prod.mk.injEq, true_and, reduceCtorEq] at hx
  subst hx
  cases ha with
  | cons _ _ x' _ _ h1 r =>
    cases r
    exact ⟨x', callFunc_extern hf hname hb hn he (Lib.run_noEscape w x'), h1⟩
end Go.Lh
end
section
namespace Go.Lh
section
variable {P : Program} {w : World} {r : Reach} {base : Nat}
theorem cells_okWide {t : TypeId} {fs : Array Field} {ts : List TypeId} {v : Value} (hs : P.underlying t = some (.struct fs)) (hct : P.cellTypes P.depth t = some ts) (hn : P.cellsOf t = ts.length) (h : Value.okWide P w r base t v) :
    ∃ l : List Value, v = .agg ⟨l⟩ ∧ l.length = ts.length ∧ ∀ (i : Nat) (u : TypeId), ts[i]? = some u → ∃ c, l[i]? = some c ∧ Cell.okWide P w r base u c := by
  simp only [Value.okWide, hs] at h
  obtain ⟨⟨l⟩, rfl, hsz, ts', hts, _, hc⟩ := h
  rw [hct] at hts
  cases hts
  have hl : l.length = ts.length := by rw [← hn]; simpa using hsz
  refine ⟨l, rfl, hl, fun i u hu => ?_⟩
  have hi : i < ts.length := (List.getElem?_eq_some_iff.1 hu).1
  have hli : l[i]? = some l[i] := List.getElem?_eq_getElem (by omega)
  refine ⟨_, hli, ?_⟩
  obtain ⟨u', h1, h2⟩ := hc i l[i] (by simp [hli])
  rw [Nat.mod_eq_of_lt hi, hu] at h1
  cases h1
  exact h2

theorem cell_u64 {I : Nat → Prop} {ρ : Ren} {u : TypeId} {c : Value} (hu : P.underlying u = some (.int .u64)) (h : Cell.okWide P w r base u c) : ∃ x : BitVec 64, VRel I w ρ (.u64 x) c := by
  simp only [Cell.okWide, Cell.ok, hu] at h
  cases c <;> simp only at h
  all_goals first | exact h.elim | skip
  rename_i k n
  obtain ⟨rfl, h1, h2⟩ := h
  exact ⟨_, vu64 (n := n) (by simp only [Lit.wf, Bool.and_eq_true, decide_eq_true_eq]; exact ⟨h1, h2⟩)⟩
theorem cell_i64 {I : Nat → Prop} {ρ : Ren} {u : TypeId} {c : Value} (hu : P.underlying u = some (.int .i64)) (h : Cell.okWide P w r base u c) : ∃ x : Int, VRel I w ρ (.int .i64 x) c ∧ x < 9223372036854775808 ∧ -9223372036854775808 ≤ x := by
  simp only [Cell.okWide, Cell.ok, hu] at h
  cases c <;> simp only at h
  all_goals first | exact h.elim | skip
  rename_i k n
  obtain ⟨rfl, h1, h2⟩ := h
  have hw : (Lit.int .i64 n).wf = true := by simp only [Lit.wf, Bool.and_eq_true, decide_eq_true_eq]; exact ⟨h1, h2⟩
  exact ⟨_, .int _ _ n rfl, int_lt hw, int_ge hw⟩
theorem cell_str {I : Nat → Prop} {ρ : Ren} {u : TypeId} {c : Value} (hu : P.underlying u = some .string) (h : Cell.okWide P w r base u c) : ∃ s : List (BitVec 8), VRel I w ρ (.str s) c ∧ s.length < 9223372036854775808 := by
  simp only [Cell.okWide, Cell.ok, hu] at h
  cases c <;> simp only at h
  all_goals first | exact h.elim | skip
  rename_i s
  refine ⟨_, .str _ s, ?_⟩
  have : (bytesOf s).length = s.size := by unfold bytesOf; rw [List.length_map]; rfl
  rw [this]
  have e : IntKind.i64.max = 9223372036854775807 := by decide
  rw [e] at h
  omega
theorem cell_bool {I : Nat → Prop} {ρ : Ren} {u : TypeId} {c : Value} (hu : P.underlying u = some .bool) (h : Cell.okWide P w r base u c) : ∃ b : Bool, VRel I w ρ (.bool b) c := by
  simp only [Cell.okWide, Cell.ok, hu] at h
  cases c <;> simp only at h
  all_goals first | exact h.elim | skip
  exact ⟨_, .bool _ _⟩

theorem word_arg {I : Nat → Prop} {ρ : Ren} {t u : TypeId} {fs : Array Field} {v : Value} (hs : P.underlying t = some (.struct fs)) (hct : P.cellTypes P.depth t = some [u, u, u, u]) (hn : P.cellsOf t = 4) (hu : P.underlying u = some (.int .u64)) (h : Value.okWide P w r base t v) :
    ∃ x : W4, VRel I w ρ x.v v := by
  obtain ⟨l, rfl, hl, hc⟩ := cells_okWide hs hct hn h
  obtain ⟨c0, e0, k0⟩ := hc 0 u rfl
  obtain ⟨c1, e1, k1⟩ := hc 1 u rfl
  obtain ⟨c2, e2, k2⟩ := hc 2 u rfl
  obtain ⟨c3, e3, k3⟩ := hc 3 u rfl
  obtain ⟨x0, r0⟩ := cell_u64 (I := I) (ρ := ρ) hu k0
  obtain ⟨x1, r1⟩ := cell_u64 (I := I) (ρ := ρ) hu k1
  obtain ⟨x2, r2⟩ := cell_u64 (I := I) (ρ := ρ) hu k2
  obtain ⟨x3, r3⟩ := cell_u64 (I := I) (ρ := ρ) hu k3
  match l, hl with
  | [a, b, c, d], _ =>
    simp at e0 e1 e2 e3
    subst e0 e1 e2 e3
    exact ⟨⟨x0, x1, x2, x3⟩, .agg _ _ _ (.cons _ _ _ _ _ r0 (.cons _ _ _ _ _ r1 (.cons _ _ _ _ _ r2 (.cons _ _ _ _ _ r3 (.nil _)))))⟩
end
end Go.Lh
end
section
namespace Go.Lh
open Go.ChangeShapes Go.WideShapes
section
variable {H : Type} {enc : TypeId × Value → H} {P : Program} {w : World} {base : Nat} {spare : Nat → Bool} {held : Bool}

/-- what is read of a type is told so -/
def TR (enc : TypeId × Value → H) (P : Program) (w : World) (base : Nat) (spare : Nat → Bool) (held : Bool) (t : TypeId) {α : Type} (F : α → List V) (Q : α → Prop) : Prop :=
  ∀ n cs x, DataW.trod enc P w base spare held n t cs = some x → ∃ a, (∀ ρ, VsRel (Old w) w ρ (F a) cs) ∧ Q a
/-- .. of fields, from a place on -/
def TRF (enc : TypeId × Value → H) (P : Program) (w : World) (base : Nat) (spare : Nat → Bool) (held : Bool) (fs : List Field) (o T : Nat) {α : Type} (F : α → List V) (Q : α → Prop) : Prop :=
  ∀ n (cs : List Value), cs.length = T → (∀ f ∈ fs, ∃ x, DataW.trod enc P w base spare held n f.type ((cs.drop f.offset).take (P.cellsOf f.type)) = some x) → ∃ a, (∀ ρ, VsRel (Old w) w ρ (F a) (cs.drop o)) ∧ Q a

theorem VsRel.one {I : Nat → Prop} {ρ : Ren} {v : V} {v' : Value} (h : VRel I w ρ v v') : VsRel I w ρ [v] [v'] := .cons _ _ _ _ _ h (.nil _)

theorem TR.u64 {t : TypeId} (ht : P.underlying t = some (.int .u64)) : TR enc P w base spare held t (fun x : BitVec 64 => [.u64 x]) (fun _ => True) := by
  intro n cs x h
  obtain ⟨m, rfl, _, hw⟩ := DataW.trod_int ht h
  exact ⟨_, fun ρ => .one (vu64 hw), trivial⟩
theorem TR.u8 {t : TypeId} (ht : P.underlying t = some (.int .u8)) : TR enc P w base spare held t (fun x : BitVec 8 => [.u8 x]) (fun _ => True) := by
  intro n cs x h
  obtain ⟨m, rfl, _, hw⟩ := DataW.trod_int ht h
  exact ⟨_, fun ρ => .one (vu8 hw), trivial⟩
theorem TR.i64 {t : TypeId} (ht : P.underlying t = some (.int .i64)) : TR enc P w base spare held t (fun x : Int => [.int .i64 x]) (fun x => x < 9223372036854775808 ∧ -9223372036854775808 ≤ x) := by
  intro n cs x h
  obtain ⟨m, rfl, _, hw⟩ := DataW.trod_int ht h
  exact ⟨m, fun ρ => .one (.int _ _ m rfl), int_lt hw, int_ge hw⟩
theorem TR.bool {t : TypeId} (ht : P.underlying t = some .bool) : TR enc P w base spare held t (fun x : Bool => [.bool x]) (fun _ => True) := by
  intro n cs x h
  obtain ⟨m, rfl, _⟩ := DataW.trod_bool ht h
  exact ⟨m, fun ρ => .one (.bool _ m), trivial⟩
theorem TR.str {t : TypeId} (ht : P.underlying t = some .string) : TR enc P w base spare held t (fun x : List (BitVec 8) => [.str x]) (fun x => x.length < 9223372036854775808) := by
  intro n cs x h
  obtain ⟨s, rfl, _, hs⟩ := DataW.trod_string ht h
  refine ⟨bytesOf s, fun ρ => .one (.str _ s), ?_⟩
  have : (bytesOf s).length = s.size := by unfold bytesOf; rw [List.length_map]; rfl
  show (bytesOf s).length < _
  rw [this]
  have e : maxLen = 9223372036854775807 := rfl
  omega
/-- whatever it is -/
theorem TR.any {t : TypeId} (k : Nat) (hk : P.cellsOf t = k) (hl : ∀ n cs x, DataW.trod enc P w base spare held n t cs = some x → cs.length = k) : TR enc P w base spare held t (fun _ : Unit => List.replicate k .any) (fun _ => True) := by
  intro n cs x h
  refine ⟨(), fun ρ => ?_, trivial⟩
  have := hl n cs x h
  clear h hl hk
  induction cs generalizing k with
  | nil => simp at this; subst this; exact .nil _
  | cons c r ih => subst this; exact .cons _ _ _ _ _ (.any _ _) (ih _ rfl)

theorem TR.slice {t e : TypeId} {α : Type} [Inhabited α] {F : α → List V} {Q : α → Prop} (s : Nat) (ht : P.underlying t = some (.slice e)) (hs : P.cellsOf e = s) (h0 : 0 < s) (he : TR enc P w base spare held e F Q) :
    TR enc P w base spare held t (fun p : Nat × (Nat → α) => [.isl s p.1 (fun i j => (F (p.2 i)).getD j .any)]) (fun p => p.1 < 9223372036854775808 ∧ ∀ i, i < p.1 → Q (p.2 i)) := by
  intro n cs x h
  rcases Go.Deep.open_slice ht h with ⟨rfl, _⟩ | ⟨a, len, cap, m, n', D, Pl, rfl, hb, hl, hm, rfl, _, hi⟩
  · exact ⟨(0, fun _ => default), fun ρ => .one (.islz _ _ _ _ _ (fun _ => rfl)), by simp⟩
  · have hlt : len < 9223372036854775808 := by
      have e : maxLen = 9223372036854775807 := rfl
      omega
    by_cases hz : len = 0
    · subst hz
      exact ⟨(0, fun _ => default), fun ρ => .one (.islz _ _ _ _ _ (fun h => by cases h)), by simp⟩
    · have hle : len ≤ (if spare a.block then cap else len) := by split <;> omega
      have hel : ∀ i, i < len → ∃ q : α × List Value, w.cells? base (a.add (i * s)) s = some q.2 ∧ (∀ ρ, VsRel (Old w) w ρ (F q.1) q.2) ∧ Q q.1 := by
        intro i hil
        obtain ⟨cs', h1, h2⟩ := hi i (by omega)
        rw [hs] at h1
        obtain ⟨q, h3, h4⟩ := he _ _ _ h2
        exact ⟨(q, cs'), h1, h3, h4⟩
      obtain ⟨A, hA⟩ := Go.Deep.choose_lt hel
      obtain ⟨b, o, sp⟩ := a
      have hcell : ∀ i j, i < len → j < s → w.cell? ((Addr.mk b o sp).add (i * s + j)) = (A i).2[j]? := by
        intro i j hil hjs
        obtain ⟨_, hcl, hat⟩ := World.cells?_some (hA i hil).1
        rw [← hat j hjs, Go.Deep.add_add]
      have hlen : ∀ i, i < len → (A i).2.length = s := fun i hil => (World.cells?_some (hA i hil).1).2.1
      have hsome : ∀ i j, i < len → j < s → ∃ c, (A i).2[j]? = some c := fun i j hil hjs => ⟨_, List.getElem?_eq_getElem (by rw [hlen i hil]; exact hjs)⟩
      have hsp : sp = none := by
        obtain ⟨c, hc⟩ := hsome 0 0 (by omega) h0
        have := hcell 0 0 (by omega) h0
        rw [hc] at this
        simp only [Nat.zero_mul, Nat.add_zero, Addr.add, if_true] at this
        unfold World.cell? at this
        split at this
        · split at this
          · cases this
          · rename_i hh; cases sp with
            | none => rfl
            | some _ => simp at hh
        · cases this
      subst hsp
      have hlt2 : b < w.heap.size := by
        obtain ⟨c, hc⟩ := hsome 0 0 (by omega) h0
        have := hcell 0 0 (by omega) h0
        rw [hc] at this
        simp only [Nat.zero_mul, Nat.add_zero, Addr.add, if_true] at this
        unfold World.cell? at this
        split at this
        · rename_i e; exact (Array.getElem?_eq_some_iff.1 e).1
        · cases this
      refine ⟨(len, fun i => (A i).1), fun ρ => .one (.isl ρ s len _ b o cap (fun i j => (A i).2.getD j default) hlt2 hl (fun i j hil hjs => ?_) (fun i j hil hjs => ?_)), hlt, fun i hil => (hA i hil).2.2⟩
      · obtain ⟨c, hc⟩ := hsome i j hil hjs
        have := hcell i j hil hjs
        rw [hc, add_eq] at this
        rw [show o + i * s + j = o + (i * s + j) by omega, this, List.getD_eq_getElem?_getD, hc]; rfl
      · have hv := (hA i hil).2.1 (fun _ => none)
        have hlF : (F (A i).1).length = s := by rw [hv.length, hlen i hil]
        have hx : (F (A i).1)[j]? = some ((F (A i).1)[j]'(by omega)) := List.getElem?_eq_getElem (by omega)
        obtain ⟨c, h1, h2⟩ := hv.get j _ hx
        show VRel (Old w) w (fun _ => none) ((F (A i).1).getD j .any) ((A i).2.getD j default)
        rw [List.getD_eq_getElem?_getD, List.getD_eq_getElem?_getD, h1, hx]; exact h2

theorem TRF.nil (T : Nat) : TRF enc P w base spare held [] T T (fun _ : Unit => []) (fun _ => True) := by
  intro n cs hl _
  refine ⟨(), fun ρ => ?_, trivial⟩
  rw [List.drop_of_length_le (by omega)]
  exact .nil _
theorem TRF.cons {f : Field} {fs : List Field} {o T k : Nat} {α β : Type} {F : α → List V} {Q : α → Prop} {G : β → List V} {R : β → Prop} (ho : f.offset = o) (hk : P.cellsOf f.type = k) (h : TR enc P w base spare held f.type F Q)
    (hr : TRF enc P w base spare held fs (o + k) T G R) : TRF enc P w base spare held (f :: fs) o T (fun p : α × β => F p.1 ++ G p.2) (fun p => Q p.1 ∧ R p.2) := by
  intro n cs hl hx
  obtain ⟨x, h1⟩ := hx f (by simp)
  rw [ho, hk] at h1
  obtain ⟨a, ha, hq⟩ := h _ _ _ h1
  obtain ⟨b, hb, hR⟩ := hr n cs hl (fun g hg => hx g (by simp [hg]))
  refine ⟨(a, b), fun ρ => ?_, hq, hR⟩
  have e : cs.drop o = (cs.drop o).take k ++ cs.drop (o + k) := by
    rw [← List.drop_drop, List.take_append_drop]
  rw [e]
  exact VsRel.append (hb ρ) (ha ρ)
theorem TRF.cons' {f : Field} {fs : List Field} {o T : Nat} {α β : Type} {F : α → List V} {Q : α → Prop} {G : β → List V} {R : β → Prop} (t : TypeId) (k : Nat) (ht : f.type = t) (ho : f.offset = o) (hk : P.cellsOf t = k) (h : TR enc P w base spare held t F Q)
    (hr : TRF enc P w base spare held fs (o + k) T G R) : TRF enc P w base spare held (f :: fs) o T (fun p : α × β => F p.1 ++ G p.2) (fun p => Q p.1 ∧ R p.2) := by
  subst ht
  exact TRF.cons ho hk h hr
theorem VRel.isl_any {I : Nat → Prop} {ρ : Ren} {s n : Nat} {f : Nat → Nat → V} {v : Value} (h : VRel I w ρ (.isl s n f) v) : VRel I w ρ (.isl s n (fun _ _ => .any)) v := by
  cases h with
  | isl _ _ _ _ b o c g hI hc hw hv => exact .isl _ _ _ _ b o c g hI hc hw (fun _ _ _ _ => .any _ _)
  | islz _ _ _ a c h => exact .islz _ _ _ _ _ h
/-- of rows, how long they are -/
theorem TR.rows {t e : TypeId} {α : Type} [Inhabited α] {F : α → List V} {Q : α → Prop} (s : Nat) (ht : P.underlying t = some (.slice e)) (hs : P.cellsOf e = s) (h0 : 0 < s) (he : TR enc P w base spare held e F Q) :
    TR enc P w base spare held t (fun n : Nat => [.isl s n (fun _ _ => .any)]) (fun n => n < 9223372036854775808) := by
  intro n cs x h
  obtain ⟨a, ha, hq⟩ := TR.slice s ht hs h0 he n cs x h
  refine ⟨a.1, fun ρ => ?_, hq.1⟩
  have := ha ρ
  cases this with | cons _ _ v' _ r' h1 h2 => exact .cons _ _ _ _ _ h1.isl_any h2
theorem VRel.isl_congr {I : Nat → Prop} {ρ : Ren} {s n : Nat} {f g : Nat → Nat → V} {v : Value} (e : ∀ i j, j < s → f i j = g i j) (h : VRel I w ρ (.isl s n f) v) : VRel I w ρ (.isl s n g) v := by
  cases h with
  | isl _ _ _ _ b o c k hI hc hw hv => exact .isl _ _ _ _ b o c k hI hc hw (fun i j hi hj => by rw [← e i j hj]; exact hv i j hi hj)
  | islz _ _ _ a c h => exact .islz _ _ _ _ _ h
theorem TR.map {t : TypeId} {α β : Type} {F : α → List V} {Q : α → Prop} {G : β → List V} (m : α → β) (hm : ∀ a ρ cs, VsRel (Old w) w ρ (F a) cs → VsRel (Old w) w ρ (G (m a)) cs) (h : TR enc P w base spare held t F Q) : TR enc P w base spare held t G (fun b => ∃ a, Q a ∧ m a = b) := by
  intro n cs x hx
  obtain ⟨a, ha, hq⟩ := h n cs x hx
  exact ⟨m a, fun ρ => hm a ρ cs (ha ρ), a, hq, rfl⟩
/-- a row, told in another way -/
theorem TR.sliceAs {t e : TypeId} {α β : Type} [Inhabited α] {F : α → List V} {Q : α → Prop} (s : Nat) (m : (Nat → α) → β) (g : β → Nat → Nat → V) (hg : ∀ A i j, j < s → (F (A i)).getD j .any = g (m A) i j) (ht : P.underlying t = some (.slice e)) (hs : P.cellsOf e = s) (h0 : 0 < s) (he : TR enc P w base spare held e F Q) :
    TR enc P w base spare held t (fun p : Nat × β => [.isl s p.1 (g p.2)]) (fun p => p.1 < 9223372036854775808 ∧ ∃ A, m A = p.2 ∧ ∀ i, i < p.1 → Q (A i)) := by
  intro n cs x hx
  obtain ⟨a, ha, hq⟩ := TR.slice s ht hs h0 he n cs x hx
  refine ⟨(a.1, m a.2), fun ρ => ?_, hq.1, a.2, rfl, hq.2⟩
  have := ha ρ
  cases this with | cons _ _ v' _ r' h1 h2 => exact .cons _ _ _ _ _ (h1.isl_congr (fun i j hj => hg a.2 i j hj)) h2
theorem TR.struct {t : TypeId} {fs : Array Field} {l : List Field} {T : Nat} {α : Type} {F : α → List V} {Q : α → Prop} (hs : P.underlying t = some (.struct fs)) (hl : fs.toList = l) (hT : P.cellsOf t = T) (h : TRF enc P w base spare held l 0 T F Q) : TR enc P w base spare held t F Q := by
  intro n cs x hx
  obtain ⟨xs, m, _, _, hlen, hxl, hf⟩ := DataW.trod_struct hs hx
  refine h m cs (by rw [← hT]; exact hlen) (fun f hfm => ?_)
  rw [← hl] at hfm
  obtain ⟨i, hi, hif⟩ := List.mem_iff_getElem.1 hfm
  have h1 : fs[i]? = some f := by rw [← Array.getElem?_toList, List.getElem?_eq_getElem hi, hif]
  have h2 : i < xs.length := by rw [hxl]; exact (Array.getElem?_eq_some_iff.1 h1).1
  exact ⟨_, (hf i f h1).trans (List.getElem?_eq_getElem h2)⟩

theorem TR.arg_struct {t : TypeId} {fs : Array Field} {α : Type} {F : α → List V} {Q : α → Prop} {v : Value} {r : Reach} {b0 : Nat} {d : DataW H} {p : List MemPlace} (hs : P.underlying t = some (.struct fs)) (h : TR enc P w base spare held t F Q) (hok : Value.okWide P w r b0 t v) (hr : DataW.Trod enc P w base spare held t v d p) :
    ∃ a, (∀ ρ, VRel (Old w) w ρ (.agg (F a)) v) ∧ Q a := by
  simp only [Value.okWide, hs] at hok
  obtain ⟨⟨cs⟩, rfl, _⟩ := hok
  obtain ⟨n, hn⟩ := hr
  obtain ⟨a, ha, hq⟩ := h _ _ _ hn
  exact ⟨a, fun ρ => .agg _ _ _ (ha ρ), hq⟩
theorem TR.arg_slice {t e : TypeId} {α : Type} {f : α → V} {Q : α → Prop} {v : Value} {r : Reach} {b0 : Nat} {d : DataW H} {p : List MemPlace} (hs : P.underlying t = some (.slice e)) (h : TR enc P w base spare held t (fun a => [f a]) Q) (hok : Value.okWide P w r b0 t v) (hr : DataW.Trod enc P w base spare held t v d p) :
    ∃ a, (∀ ρ, VRel (Old w) w ρ (f a) v) ∧ Q a := by
  obtain ⟨n, hn⟩ := hr
  obtain ⟨a, ha, hq⟩ := h _ _ _ hn
  refine ⟨a, fun ρ => ?_, hq⟩
  have h1 := ha ρ
  have hv : v.cells.toList = [v] := by
    simp only [Value.okWide, hs, Cell.okWide, Cell.ok] at hok
    cases v <;> first | rfl | exact hok.elim
  rw [hv] at h1
  cases h1 with | cons _ _ _ _ _ h2 _ => exact h2
theorem str_arg' {t : TypeId} {v : Value} {r : Reach} {b0 : Nat} (hs : P.underlying t = some .string) (hok : Value.okWide P w r b0 t v) : ∃ s : List (BitVec 8), (∀ ρ, VRel (Old w) w ρ (.str s) v) ∧ s.length < 9223372036854775808 := by
  simp only [Value.okWide, hs] at hok
  obtain ⟨s, h1, h2⟩ := cell_str (I := Old w) (ρ := fun _ => none) hs hok
  exact ⟨s, fun ρ => h1.mono (fun _ h => h) (fun _ _ => rfl) ρ (fun _ _ h => by cases h), h2⟩
end
end Go.Lh
end
section
namespace Go.Lh
open Go.ChangeShapes Go.WideShapes
section
variable {H : Type} {enc : TypeId × Value → H} {P : Program} {w : World} {base : Nat} {spare : Nat → Bool} {held : Bool}

theorem weights_all {e : TypeId} : ∀ {l : List (DataW H)} {d : DataW H}, d ∈ l → ∀ n ∈ d.weights P e, n ∈ DataW.weightsAll P e l
  | d0 :: r, d, hd, n, hn => by
    simp only [DataW.weightsAll, List.mem_append]
    rcases List.mem_cons.1 hd with rfl | hd
    · exact .inl hn
    · exact .inr (weights_all hd n hn)
/-- none of it is greater than may be -/
def Zd (P : Program) (t : TypeId) (d : DataW H) : Prop := ∀ k ∈ d.weights P t, k ≤ reachBytes
def TZ (enc : TypeId × Value → H) (P : Program) (w : World) (base : Nat) (spare : Nat → Bool) (held : Bool) (t : TypeId) {α : Type} (F : α → List V) (Q : α → Prop) : Prop :=
  ∀ n cs x, DataW.trod enc P w base spare held n t cs = some x → Zd P t x.1 → ∃ a, (∀ ρ, VsRel (Old w) w ρ (F a) cs) ∧ Q a
def TZF (enc : TypeId × Value → H) (P : Program) (w : World) (base : Nat) (spare : Nat → Bool) (held : Bool) (fs : List Field) (o T : Nat) {α : Type} (F : α → List V) (Q : α → Prop) : Prop :=
  ∀ n (cs : List Value), cs.length = T → (∀ f ∈ fs, ∃ x, DataW.trod enc P w base spare held n f.type ((cs.drop f.offset).take (P.cellsOf f.type)) = some x ∧ Zd P f.type x.1) → ∃ a, (∀ ρ, VsRel (Old w) w ρ (F a) (cs.drop o)) ∧ Q a
theorem TZ.of {t : TypeId} {α : Type} {F : α → List V} {Q : α → Prop} (h : TR enc P w base spare held t F Q) : TZ enc P w base spare held t F Q := fun n cs x hx _ => h n cs x hx
theorem TZ.str {t : TypeId} (ht : P.underlying t = some .string) : TZ enc P w base spare held t (fun x : List (BitVec 8) => [.str x]) (fun x => x.length ≤ reachBytes) := by
  intro n cs x h hZ
  obtain ⟨s, rfl, rfl, hs⟩ := DataW.trod_string ht h
  refine ⟨bytesOf s, fun ρ => .one (.str _ s), ?_⟩
  have := hZ _ (by simp [DataW.weights]; rfl)
  show (bytesOf s).length ≤ reachBytes
  unfold bytesOf
  rw [List.length_map]
  simpa using this
theorem TZ.slice {t e : TypeId} {α : Type} [Inhabited α] {F : α → List V} {Q : α → Prop} (s : Nat) (ht : P.underlying t = some (.slice e)) (hs : P.cellsOf e = s) (h0 : 0 < s) (he : TZ enc P w base spare held e F Q) :
    TZ enc P w base spare held t (fun p : Nat × (Nat → α) => [.isl s p.1 (fun i j => (F (p.2 i)).getD j .any)]) (fun p => p.1 < 9223372036854775808 ∧ ∀ i, i < p.1 → Q (p.2 i)) := by
  intro n cs x h hZ
  rcases Go.Deep.open_slice ht h with ⟨rfl, _⟩ | ⟨a, len, cap, m, n', D, Pl, rfl, hb, hl, hm, rfl, hxe, hi⟩
  · exact ⟨(0, fun _ => default), fun ρ => .one (.islz _ _ _ _ _ (fun _ => rfl)), by simp⟩
  · have hlt : len < 9223372036854775808 := by
      have e : maxLen = 9223372036854775807 := rfl
      omega
    by_cases hz : len = 0
    · subst hz
      exact ⟨(0, fun _ => default), fun ρ => .one (.islz _ _ _ _ _ (fun h => by cases h)), by simp⟩
    · have hle : len ≤ (if spare a.block then cap else len) := by split <;> omega
      have hel : ∀ i, i < len → ∃ q : α × List Value, w.cells? base (a.add (i * s)) s = some q.2 ∧ (∀ ρ, VsRel (Old w) w ρ (F q.1) q.2) ∧ Q q.1 := by
        intro i hil
        obtain ⟨cs', h1, h2⟩ := hi i (by omega)
        rw [hs] at h1
        obtain ⟨q, h3, h4⟩ := he _ _ _ h2 (fun k hk => hZ k (by
          rw [hxe]
          show _ ∈ DataW.weights P t (DataW.slice _ _)
          rw [DataW.weights, ht]
          simp only [List.mem_cons, List.mem_append]
          exact .inr (.inl (weights_all (List.mem_map.2 ⟨i, List.mem_range.2 hil, rfl⟩) k hk))))
        exact ⟨(q, cs'), h1, h3, h4⟩
      obtain ⟨A, hA⟩ := Go.Deep.choose_lt hel
      obtain ⟨b, o, sp⟩ := a
      have hcell : ∀ i j, i < len → j < s → w.cell? ((Addr.mk b o sp).add (i * s + j)) = (A i).2[j]? := by
        intro i j hil hjs
        obtain ⟨_, hcl, hat⟩ := World.cells?_some (hA i hil).1
        rw [← hat j hjs, Go.Deep.add_add]
      have hlen : ∀ i, i < len → (A i).2.length = s := fun i hil => (World.cells?_some (hA i hil).1).2.1
      have hsome : ∀ i j, i < len → j < s → ∃ c, (A i).2[j]? = some c := fun i j hil hjs => ⟨_, List.getElem?_eq_getElem (by rw [hlen i hil]; exact hjs)⟩
      have hsp : sp = none := by
        obtain ⟨c, hc⟩ := hsome 0 0 (by omega) h0
        have := hcell 0 0 (by omega) h0
        rw [hc] at this
        simp only [Nat.zero_mul, Nat.add_zero, Addr.add, if_true] at this
        unfold World.cell? at this
        split at this
        · split at this
          · cases this
          · rename_i hh; cases sp with
            | none => rfl
            | some _ => simp at hh
        · cases this
      subst hsp
      have hlt2 : b < w.heap.size := by
        obtain ⟨c, hc⟩ := hsome 0 0 (by omega) h0
        have := hcell 0 0 (by omega) h0
        rw [hc] at this
        simp only [Nat.zero_mul, Nat.add_zero, Addr.add, if_true] at this
        unfold World.cell? at this
        split at this
        · rename_i e; exact (Array.getElem?_eq_some_iff.1 e).1
        · cases this
      refine ⟨(len, fun i => (A i).1), fun ρ => .one (.isl ρ s len _ b o cap (fun i j => (A i).2.getD j default) hlt2 hl (fun i j hil hjs => ?_) (fun i j hil hjs => ?_)), hlt, fun i hil => (hA i hil).2.2⟩
      · obtain ⟨c, hc⟩ := hsome i j hil hjs
        have := hcell i j hil hjs
        rw [hc, add_eq] at this
        rw [show o + i * s + j = o + (i * s + j) by omega, this, List.getD_eq_getElem?_getD, hc]; rfl
      · have hv := (hA i hil).2.1 (fun _ => none)
        have hlF : (F (A i).1).length = s := by rw [hv.length, hlen i hil]
        have hx : (F (A i).1)[j]? = some ((F (A i).1)[j]'(by omega)) := List.getElem?_eq_getElem (by omega)
        obtain ⟨c, h1, h2⟩ := hv.get j _ hx
        show VRel (Old w) w (fun _ => none) ((F (A i).1).getD j .any) ((A i).2.getD j default)
        rw [List.getD_eq_getElem?_getD, List.getD_eq_getElem?_getD, h1, hx]; exact h2


theorem TZF.nil (T : Nat) : TZF enc P w base spare held [] T T (fun _ : Unit => []) (fun _ => True) := by
  intro n cs hl _
  refine ⟨(), fun ρ => ?_, trivial⟩
  rw [List.drop_of_length_le (by omega)]
  exact .nil _
theorem TZF.cons {f : Field} {fs : List Field} {o T k : Nat} {α β : Type} {F : α → List V} {Q : α → Prop} {G : β → List V} {R : β → Prop} (ho : f.offset = o) (hk : P.cellsOf f.type = k) (h : TZ enc P w base spare held f.type F Q)
    (hr : TZF enc P w base spare held fs (o + k) T G R) : TZF enc P w base spare held (f :: fs) o T (fun p : α × β => F p.1 ++ G p.2) (fun p => Q p.1 ∧ R p.2) := by
  intro n cs hl hx
  obtain ⟨x, h1, hz⟩ := hx f (by simp)
  rw [ho, hk] at h1
  obtain ⟨a, ha, hq⟩ := h _ _ _ h1 hz
  obtain ⟨b, hb, hR⟩ := hr n cs hl (fun g hg => hx g (by simp [hg]))
  refine ⟨(a, b), fun ρ => ?_, hq, hR⟩
  have e : cs.drop o = (cs.drop o).take k ++ cs.drop (o + k) := by
    rw [← List.drop_drop, List.take_append_drop]
  rw [e]
  exact VsRel.append (hb ρ) (ha ρ)
theorem TZF.cons' {f : Field} {fs : List Field} {o T : Nat} {α β : Type} {F : α → List V} {Q : α → Prop} {G : β → List V} {R : β → Prop} (t : TypeId) (k : Nat) (ht : f.type = t) (ho : f.offset = o) (hk : P.cellsOf t = k) (h : TZ enc P w base spare held t F Q)
    (hr : TZF enc P w base spare held fs (o + k) T G R) : TZF enc P w base spare held (f :: fs) o T (fun p : α × β => F p.1 ++ G p.2) (fun p => Q p.1 ∧ R p.2) := by
  subst ht
  exact TZF.cons ho hk h hr
theorem TZ.sliceAs {t e : TypeId} {α β : Type} [Inhabited α] {F : α → List V} {Q : α → Prop} (s : Nat) (m : (Nat → α) → β) (g : β → Nat → Nat → V) (hg : ∀ A i j, j < s → (F (A i)).getD j .any = g (m A) i j) (ht : P.underlying t = some (.slice e)) (hs : P.cellsOf e = s) (h0 : 0 < s) (he : TZ enc P w base spare held e F Q) :
    TZ enc P w base spare held t (fun p : Nat × β => [.isl s p.1 (g p.2)]) (fun p => p.1 < 9223372036854775808 ∧ ∃ A, m A = p.2 ∧ ∀ i, i < p.1 → Q (A i)) := by
  intro n cs x hx hZ
  obtain ⟨a, ha, hq⟩ := TZ.slice s ht hs h0 he n cs x hx hZ
  refine ⟨(a.1, m a.2), fun ρ => ?_, hq.1, a.2, rfl, hq.2⟩
  have := ha ρ
  cases this with | cons _ _ v' _ r' h1 h2 => exact .cons _ _ _ _ _ (h1.isl_congr (fun i j hj => hg a.2 i j hj)) h2
theorem TZ.struct {t : TypeId} {fs : Array Field} {l : List Field} {T : Nat} {α : Type} {F : α → List V} {Q : α → Prop} (hs : P.underlying t = some (.struct fs)) (hl : fs.toList = l) (hT : P.cellsOf t = T) (h : TZF enc P w base spare held l 0 T F Q) : TZ enc P w base spare held t F Q := by
  intro n cs x hx hZ
  obtain ⟨xs, m, _, rfl, hlen, hxl, hf⟩ := DataW.trod_struct hs hx
  refine h m cs (by rw [← hT]; exact hlen) (fun f hfm => ?_)
  rw [← hl] at hfm
  obtain ⟨i, hi, hif⟩ := List.mem_iff_getElem.1 hfm
  have h1 : fs[i]? = some f := by rw [← Array.getElem?_toList, List.getElem?_eq_getElem hi, hif]
  have h2 : i < xs.length := by rw [hxl]; exact (Array.getElem?_eq_some_iff.1 h1).1
  refine ⟨_, (hf i f h1).trans (List.getElem?_eq_getElem h2), fun k hk => hZ k ?_⟩
  simp only [DataW.weights, hs]
  exact DataW.weights_mem_each (j := i) (t := f.type) (d := (xs[i]).1) (by rw [List.getElem?_map, Array.getElem?_toList, h1]; rfl) (by rw [List.getElem?_map, List.getElem?_eq_getElem h2]; rfl) k hk
theorem TZ.arg_slice {t e : TypeId} {α : Type} {f : α → V} {Q : α → Prop} {v : Value} {r : Reach} {b0 : Nat} {d : DataW H} {p : List MemPlace} (hs : P.underlying t = some (.slice e)) (h : TZ enc P w base spare held t (fun a => [f a]) Q) (hok : Value.okWide P w r b0 t v) (hr : DataW.Trod enc P w base spare held t v d p) (hZ : Zd P t d) :
    ∃ a, (∀ ρ, VRel (Old w) w ρ (f a) v) ∧ Q a := by
  obtain ⟨n, hn⟩ := hr
  obtain ⟨a, ha, hq⟩ := h _ _ _ hn hZ
  refine ⟨a, fun ρ => ?_, hq⟩
  have h1 := ha ρ
  have hv : v.cells.toList = [v] := by
    simp only [Value.okWide, hs, Cell.okWide, Cell.ok] at hok
    cases v <;> first | rfl | exact hok.elim
  rw [hv] at h1
  cases h1 with | cons _ _ _ _ _ h2 _ => exact h2
theorem Zd.of_each {ts : List TypeId} {ds : List (DataW H)} (h : (DataW.weightsEach P ts ds).all (· ≤ reachBytes) = true) {j : Nat} {t : TypeId} {d : DataW H} (ht : ts[j]? = some t) (hd : ds[j]? = some d) : Zd P t d := by
  intro k hk
  have := List.all_eq_true.1 h _ (DataW.weights_mem_each ht hd k hk)
  simpa using this
end
end Go.Lh
end
section
namespace Go.Lh
def readW : List V → Heap → Option W4 := fun args h => match args, h with
  | [.agg [.u64 a, .u64 b, .u64 c, .u64 d]], [] => some ⟨a, b, c, d⟩
  | _, _ => none
structure WW where
  x : W4
  y : W4
def readWW : List V → Heap → Option WW := fun args h => match args, h with
  | [.agg [.u64 a, .u64 b, .u64 c, .u64 d], .agg [.u64 e, .u64 f, .u64 g, .u64 i]], [] => some ⟨⟨a, b, c, d⟩, ⟨e, f, g, i⟩⟩
  | _, _ => none
structure WI where
  x : W4
  n : Int
def readWI : List V → Heap → Option WI := fun args h => match args, h with
  | [.agg [.u64 a, .u64 b, .u64 c, .u64 d], .int .i64 n], [] => some ⟨⟨a, b, c, d⟩, n⟩
  | _, _ => none
def readU : List V → Heap → Option (BitVec 64) := fun args h => match args, h with
  | [.u64 a], [] => some a
  | _, _ => none
structure UU where
  x : BitVec 64
  y : BitVec 64
def readUU : List V → Heap → Option UU := fun args h => match args, h with
  | [.u64 a, .u64 b], [] => some ⟨a, b⟩
  | _, _ => none
def always {α : Type} : α → Bool := fun _ => true
def noHeap {α : Type} : α → Heap := fun _ => []
section
variable {P : Program} {i : FuncId}
def ctW (f : W4 → V) := ct readW always (fun a => .ret (f a)) noHeap
theorem ctW_ok {f : W4 → V} (hf : ∀ x : W4, LFn P i [x.v] [] (.ret (f x)) []) : ∀ args h fin h', ctW f args h = some (true, fin, h') → LFn P i args h fin h' := by
  refine ct_ok (fun a => [a.v]) (fun _ => []) ?_ (fun a _ => hf a)
  intro args h a e
  unfold readW at e
  split at e <;> cases e
  exact ⟨rfl, rfl⟩
def ctWW (f : W4 → W4 → V) := ct readWW always (fun a => .ret (f a.x a.y)) noHeap
theorem ctWW_ok {f : W4 → W4 → V} (hf : ∀ x y : W4, LFn P i [x.v, y.v] [] (.ret (f x y)) []) : ∀ args h fin h', ctWW f args h = some (true, fin, h') → LFn P i args h fin h' := by
  refine ct_ok (fun a => [a.x.v, a.y.v]) (fun _ => []) ?_ (fun a _ => hf a.x a.y)
  intro args h a e
  unfold readWW at e
  split at e <;> cases e
  exact ⟨rfl, rfl⟩
def ctWI (ok : W4 → Int → Bool) (f : W4 → Int → V) := ct readWI (fun a => ok a.x a.n) (fun a => .ret (f a.x a.n)) noHeap
theorem ctWI_ok {ok : W4 → Int → Bool} {f : W4 → Int → V} (hf : ∀ (x : W4) (n : Int), ok x n = true → LFn P i [x.v, .int .i64 n] [] (.ret (f x n)) []) : ∀ args h fin h', ctWI ok f args h = some (true, fin, h') → LFn P i args h fin h' := by
  refine ct_ok (fun a => [a.x.v, .int .i64 a.n]) (fun _ => []) ?_ (fun a h => hf a.x a.n h)
  intro args h a e
  unfold readWI at e
  split at e <;> cases e
  exact ⟨rfl, rfl⟩
def ctU (f : BitVec 64 → V) := ct readU always (fun a => .ret (f a)) noHeap
theorem ctU_ok {f : BitVec 64 → V} (hf : ∀ x, LFn P i [.u64 x] [] (.ret (f x)) []) : ∀ args h fin h', ctU f args h = some (true, fin, h') → LFn P i args h fin h' := by
  refine ct_ok (fun a => [.u64 a]) (fun _ => []) ?_ (fun a _ => hf a)
  intro args h a e
  unfold readU at e
  split at e <;> cases e
  exact ⟨rfl, rfl⟩
def ctUU (f : BitVec 64 → BitVec 64 → V) := ct readUU always (fun a => .ret (f a.x a.y)) noHeap
theorem ctUU_ok {f : BitVec 64 → BitVec 64 → V} (hf : ∀ x y, LFn P i [.u64 x, .u64 y] [] (.ret (f x y)) []) : ∀ args h fin h', ctUU f args h = some (true, fin, h') → LFn P i args h fin h' := by
  refine ct_ok (fun a => [.u64 a.x, .u64 a.y]) (fun _ => []) ?_ (fun a _ => hf a.x a.y)
  intro args h a e
  unfold readUU at e
  split at e <;> cases e
  exact ⟨rfl, rfl⟩
end
/-- how many bits -/
def len64 (x : BitVec 64) : Nat := if x.toNat = 0 then 0 else Nat.log2 x.toNat + 1
end Go.Lh
end
section
namespace Go.Lh
theorem pow_split {r : Nat} (h : r ≤ 64) : 2 ^ (64 - r) * 2 ^ r = 2 ^ 64 := by rw [← Nat.pow_add]; congr 1; omega
theorem shl_toNat64 (a : BitVec 64) (r : Nat) : (a <<< r).toNat = a.toNat * 2 ^ r % 2 ^ 64 := by rw [BitVec.toNat_shiftLeft, Nat.shiftLeft_eq]
theorem shr_div (b r : Nat) (h : r ≤ 64) : b / 2 ^ (64 - r) = b * 2 ^ r / 2 ^ 64 := by
  rw [← pow_split h, Nat.mul_div_mul_right _ _ (Nat.two_pow_pos r)]
theorem shl_or (a b : BitVec 64) (r : Nat) (h : r < 64) : (a <<< r ||| b >>> (64 - r)).toNat = a.toNat * 2 ^ r % 2 ^ 64 + b.toNat * 2 ^ r / 2 ^ 64 := by
  have hb := b.isLt
  rw [BitVec.toNat_or, shl_toNat64, BitVec.toNat_ushiftRight, Nat.shiftRight_eq_div_pow, ← shr_div _ _ (by omega)]
  have e : a.toNat * 2 ^ r % 2 ^ 64 = 2 ^ r * (a.toNat % 2 ^ (64 - r)) := by
    rw [← pow_split (Nat.le_of_lt h), Nat.mul_mod_mul_right, Nat.mul_comm]
  have hlt : b.toNat / 2 ^ (64 - r) < 2 ^ r := by
    apply Nat.div_lt_of_lt_mul
    rw [pow_split (Nat.le_of_lt h)]; exact hb
  rw [e, ← Nat.two_pow_add_eq_or_of_lt hlt]
theorem shr_or (a b : BitVec 64) (r : Nat) (h0 : 0 < r) (h : r < 64) : (a >>> r ||| b <<< (64 - r)).toNat = a.toNat / 2 ^ r + (b.toNat % 2 ^ r) * 2 ^ (64 - r) := by
  have ha := a.isLt
  rw [BitVec.or_comm, BitVec.toNat_or, shl_toNat64, BitVec.toNat_ushiftRight, Nat.shiftRight_eq_div_pow]
  have p : 2 ^ r * 2 ^ (64 - r) = 2 ^ 64 := by rw [Nat.mul_comm]; exact pow_split (Nat.le_of_lt h)
  have e : b.toNat * 2 ^ (64 - r) % 2 ^ 64 = 2 ^ (64 - r) * (b.toNat % 2 ^ r) := by
    rw [← p, Nat.mul_mod_mul_right, Nat.mul_comm]
  have hlt : a.toNat / 2 ^ r < 2 ^ (64 - r) := by
    apply Nat.div_lt_of_lt_mul
    rw [p]; exact ha
  rw [e, ← Nat.two_pow_add_eq_or_of_lt hlt, Nat.add_comm, Nat.mul_comm (2 ^ (64 - r))]
namespace W4
/-- part k of a number's parts, the lowest first -/
def lo (x : W4) : Nat → BitVec 64
  | 0 => x.d
  | 1 => x.c
  | 2 => x.b
  | 3 => x.a
  | _ => 0
/-- moved left by 64 q + r: part i -/
def lP (x : W4) (q r i : Nat) : BitVec 64 := if i < q then 0 else if 0 < r ∧ 0 < i - q then x.lo (i - q) <<< r ||| x.lo (i - q - 1) >>> (64 - r) else x.lo (i - q) <<< r
def shlP (x : W4) (q r : Nat) : W4 := ⟨lP x q r 3, lP x q r 2, lP x q r 1, lP x q r 0⟩
def shl (x : W4) (n : Nat) : W4 := of (x.bv <<< n)
def shr (x : W4) (n : Nat) : W4 := of (x.bv >>> n)
theorem shl_n (x : W4) (n : Nat) : (shl x n).n = x.n * 2 ^ n % 2 ^ 256 := by
  unfold shl; rw [of_toNat, BitVec.toNat_shiftLeft, Nat.shiftLeft_eq, bv_toNat]
theorem shr_n (x : W4) (n : Nat) : (shr x n).n = x.n / 2 ^ n := by
  unfold shr; rw [of_toNat, BitVec.toNat_ushiftRight, Nat.shiftRight_eq_div_pow, bv_toNat]
theorem lP_nat (x : W4) (q r i : Nat) (hr : r < 64) (hi : i ≤ 3) : (lP x q r i).toNat = if i < q then 0 else if 0 < i - q then (x.lo (i - q)).toNat * 2 ^ r % 2 ^ 64 + (x.lo (i - q - 1)).toNat * 2 ^ r / 2 ^ 64 else (x.lo (i - q)).toNat * 2 ^ r % 2 ^ 64 := by
  unfold lP
  by_cases h1 : i < q
  · rw [if_pos h1, if_pos h1]; rfl
  · rw [if_neg h1, if_neg h1]
    by_cases h2 : 0 < i - q
    · rw [if_pos h2]
      by_cases h3 : 0 < r
      · rw [if_pos ⟨h3, h2⟩, shl_or _ _ _ hr]
      · have : r = 0 := by omega
        subst this
        have := (x.lo (i - q)).isLt
        have := (x.lo (i - q - 1)).isLt
        rw [if_neg (by omega), shl_toNat64]
        omega
    · rw [if_neg h2, if_neg (by omega), shl_toNat64]
theorem shlP_eq (x : W4) (q r : Nat) (hq : q < 4) (hr : r < 64) : shlP x q r = shl x (64 * q + r) := by
  apply ext_n
  rw [shl_n, Nat.pow_add, Nat.mul_comm (2 ^ (64 * q)), ← Nat.mul_assoc]
  have e : x.n * 2 ^ r = 2 ^ 192 * (x.a.toNat * 2 ^ r) + (2 ^ 128 * (x.b.toNat * 2 ^ r) + (2 ^ 64 * (x.c.toNat * 2 ^ r) + x.d.toNat * 2 ^ r)) := mul4r _ _ _ _ _
  rw [e]
  have m0 := lP_nat x q r 0 hr (by omega)
  have m1 := lP_nat x q r 1 hr (by omega)
  have m2 := lP_nat x q r 2 hr (by omega)
  have m3 := lP_nat x q r 3 hr (by omega)
  rw [← Nat.mod_eq_of_lt (n_lt (shlP x q r))]
  simp only [shlP, n, m0, m1, m2, m3]
  clear e m0 m1 m2 m3
  have h4 : q = 0 ∨ q = 1 ∨ q = 2 ∨ q = 3 := by omega
  rcases h4 with rfl | rfl | rfl | rfl
  all_goals
    simp only [lo, Nat.sub_zero, Nat.sub_self, Nat.reduceSub, Nat.reduceLT, Nat.lt_irrefl, if_true, if_false, Nat.not_lt_zero, Nat.reduceMul, Nat.reducePow, Nat.mul_one, Nat.add_zero, Nat.mul_zero]
    generalize x.a.toNat * 2 ^ r = A
    generalize x.b.toNat * 2 ^ r = B
    generalize x.c.toNat * 2 ^ r = C
    generalize x.d.toNat * 2 ^ r = D
    obtain ⟨A1, A0, hA, hA0⟩ : ∃ A1 A0, A = 2 ^ 64 * A1 + A0 ∧ A0 < 2 ^ 64 := ⟨A / 2 ^ 64, A % 2 ^ 64, by omega, by omega⟩
    obtain ⟨B1, B0, hB, hB0⟩ : ∃ B1 B0, B = 2 ^ 64 * B1 + B0 ∧ B0 < 2 ^ 64 := ⟨B / 2 ^ 64, B % 2 ^ 64, by omega, by omega⟩
    obtain ⟨C1, C0, hC, hC0⟩ : ∃ C1 C0, C = 2 ^ 64 * C1 + C0 ∧ C0 < 2 ^ 64 := ⟨C / 2 ^ 64, C % 2 ^ 64, by omega, by omega⟩
    obtain ⟨D1, D0, hD, hD0⟩ : ∃ D1 D0, D = 2 ^ 64 * D1 + D0 ∧ D0 < 2 ^ 64 := ⟨D / 2 ^ 64, D % 2 ^ 64, by omega, by omega⟩
    have a0 : A % 2 ^ 64 = A0 := by omega
    have b0 : B % 2 ^ 64 = B0 := by omega
    have c0 : C % 2 ^ 64 = C0 := by omega
    have d0 : D % 2 ^ 64 = D0 := by omega
    have b1 : B / 2 ^ 64 = B1 := by omega
    have c1 : C / 2 ^ 64 = C1 := by omega
    have d1 : D / 2 ^ 64 = D1 := by omega
    try rw [a0]
    try rw [b0]
    try rw [c0]
    try rw [d0]
    try rw [b1]
    try rw [c1]
    try rw [d1]
    subst hA hB hC hD
    clear a0 b0 c0 d0 b1 c1 d1
    omega
/-- moved right by 64 q + r: part j -/
def rP (x : W4) (q r j : Nat) : BitVec 64 := if 4 ≤ j + q then 0 else if 0 < r ∧ j + q + 1 < 4 then x.lo (j + q) >>> r ||| x.lo (j + q + 1) <<< (64 - r) else x.lo (j + q) >>> r
def shrP (x : W4) (q r : Nat) : W4 := ⟨rP x q r 3, rP x q r 2, rP x q r 1, rP x q r 0⟩
theorem rP_nat (x : W4) (q r j : Nat) (hr : r < 64) : (rP x q r j).toNat = if 4 ≤ j + q then 0 else if j + q + 1 < 4 then (x.lo (j + q)).toNat / 2 ^ r + ((x.lo (j + q + 1)).toNat % 2 ^ r) * 2 ^ (64 - r) else (x.lo (j + q)).toNat / 2 ^ r := by
  unfold rP
  by_cases h1 : 4 ≤ j + q
  · rw [if_pos h1, if_pos h1]; rfl
  · rw [if_neg h1, if_neg h1]
    by_cases h2 : j + q + 1 < 4
    · rw [if_pos h2]
      by_cases h3 : 0 < r
      · rw [if_pos ⟨h3, h2⟩, shr_or _ _ _ h3 hr]
      · have : r = 0 := by omega
        subst this
        rw [if_neg (by omega), BitVec.toNat_ushiftRight, Nat.shiftRight_eq_div_pow]
        simp [Nat.mod_one]
    · rw [if_neg h2, if_neg (by omega), BitVec.toNat_ushiftRight, Nat.shiftRight_eq_div_pow]
theorem shrP_eq (x : W4) (q r : Nat) (hq : q < 4) (hr : r < 64) : shrP x q r = shr x (64 * q + r) := by
  apply ext_n
  rw [shr_n, Nat.pow_add, ← Nat.div_div_eq_div_mul]
  have hp : 0 < 2 ^ r := Nat.two_pow_pos r
  have pp : 2 ^ r * 2 ^ (64 - r) = 2 ^ 64 := by rw [Nat.mul_comm]; exact pow_split (Nat.le_of_lt hr)
  have ua := Nat.div_add_mod x.a.toNat (2 ^ r)
  have ub := Nat.div_add_mod x.b.toNat (2 ^ r)
  have uc := Nat.div_add_mod x.c.toNat (2 ^ r)
  have ud := Nat.div_add_mod x.d.toNat (2 ^ r)
  have va := Nat.mod_lt x.a.toNat hp
  have vb := Nat.mod_lt x.b.toNat hp
  have vc := Nat.mod_lt x.c.toNat hp
  have vd := Nat.mod_lt x.d.toNat hp
  have wp : ∀ v, 2 ^ r * (v * 2 ^ (64 - r)) = v * 2 ^ 64 := by intro v; rw [Nat.mul_left_comm, pp]
  have wb := wp (x.b.toNat % 2 ^ r)
  have wc := wp (x.c.toNat % 2 ^ r)
  have wa := wp (x.a.toNat % 2 ^ r)
  have ha := x.a.isLt; have hb := x.b.isLt; have hc := x.c.isLt; have hd := x.d.isLt
  have m0 := rP_nat x q r 0 hr
  have m1 := rP_nat x q r 1 hr
  have m2 := rP_nat x q r 2 hr
  have m3 := rP_nat x q r 3 hr
  have fin : ∀ (R V X : Nat), V < 2 ^ r → 2 ^ r * R + V = X → R = X / 2 ^ r := fun R V X h1 h2 => by
    have := (Nat.div_mod_unique (d := R) (c := V) (a := X) hp).2 ⟨by omega, h1⟩
    exact this.1.symm
  have h4 : q = 0 ∨ q = 1 ∨ q = 2 ∨ q = 3 := by omega
  rcases h4 with rfl | rfl | rfl | rfl
  · refine fin _ _ _ vd ?_
    simp only [shrP, n, m0, m1, m2, m3, lo, Nat.reduceAdd, Nat.reduceLT, Nat.reduceLeDiff, if_true, if_false, Nat.reduceMul, Nat.reducePow, Nat.div_one, Nat.mul_add, Nat.zero_add, BitVec.toNat_ofNat]
    try simp only [Nat.mul_left_comm (2 ^ r), pp, Nat.mul_zero]
    clear fin wp m0 m1 m2 m3 pp hp wa wb wc
    generalize 2 ^ r * (x.a.toNat / 2 ^ r) = A at *
    generalize 2 ^ r * (x.b.toNat / 2 ^ r) = B at *
    generalize 2 ^ r * (x.c.toNat / 2 ^ r) = C at *
    generalize 2 ^ r * (x.d.toNat / 2 ^ r) = D at *
    generalize x.a.toNat % 2 ^ r = a1 at *
    generalize x.b.toNat % 2 ^ r = b1 at *
    generalize x.c.toNat % 2 ^ r = c1 at *
    generalize x.d.toNat % 2 ^ r = d1 at *
    omega
  · refine fin _ _ _ vc ?_
    simp only [shrP, n, m0, m1, m2, m3, lo, Nat.reduceAdd, Nat.reduceLT, Nat.reduceLeDiff, if_true, if_false, Nat.reduceMul, Nat.reducePow, Nat.div_one, Nat.mul_add, Nat.zero_add, BitVec.toNat_ofNat]
    try simp only [Nat.mul_left_comm (2 ^ r), pp, Nat.mul_zero]
    clear fin wp m0 m1 m2 m3 pp hp wa wb wc
    generalize 2 ^ r * (x.a.toNat / 2 ^ r) = A at *
    generalize 2 ^ r * (x.b.toNat / 2 ^ r) = B at *
    generalize 2 ^ r * (x.c.toNat / 2 ^ r) = C at *
    generalize 2 ^ r * (x.d.toNat / 2 ^ r) = D at *
    generalize x.a.toNat % 2 ^ r = a1 at *
    generalize x.b.toNat % 2 ^ r = b1 at *
    generalize x.c.toNat % 2 ^ r = c1 at *
    generalize x.d.toNat % 2 ^ r = d1 at *
    omega
  · refine fin _ _ _ vb ?_
    simp only [shrP, n, m0, m1, m2, m3, lo, Nat.reduceAdd, Nat.reduceLT, Nat.reduceLeDiff, if_true, if_false, Nat.reduceMul, Nat.reducePow, Nat.div_one, Nat.mul_add, Nat.zero_add, BitVec.toNat_ofNat]
    try simp only [Nat.mul_left_comm (2 ^ r), pp, Nat.mul_zero]
    clear fin wp m0 m1 m2 m3 pp hp wa wb wc
    generalize 2 ^ r * (x.a.toNat / 2 ^ r) = A at *
    generalize 2 ^ r * (x.b.toNat / 2 ^ r) = B at *
    generalize 2 ^ r * (x.c.toNat / 2 ^ r) = C at *
    generalize 2 ^ r * (x.d.toNat / 2 ^ r) = D at *
    generalize x.a.toNat % 2 ^ r = a1 at *
    generalize x.b.toNat % 2 ^ r = b1 at *
    generalize x.c.toNat % 2 ^ r = c1 at *
    generalize x.d.toNat % 2 ^ r = d1 at *
    omega
  · refine fin _ _ _ va ?_
    simp only [shrP, n, m0, m1, m2, m3, lo, Nat.reduceAdd, Nat.reduceLT, Nat.reduceLeDiff, if_true, if_false, Nat.reduceMul, Nat.reducePow, Nat.div_one, Nat.mul_add, Nat.zero_add, BitVec.toNat_ofNat]
    try simp only [Nat.mul_left_comm (2 ^ r), pp, Nat.mul_zero]
    clear fin wp m0 m1 m2 m3 pp hp wa wb wc
    generalize 2 ^ r * (x.a.toNat / 2 ^ r) = A at *
    generalize 2 ^ r * (x.b.toNat / 2 ^ r) = B at *
    generalize 2 ^ r * (x.c.toNat / 2 ^ r) = C at *
    generalize 2 ^ r * (x.d.toNat / 2 ^ r) = D at *
    generalize x.a.toNat % 2 ^ r = a1 at *
    generalize x.b.toNat % 2 ^ r = b1 at *
    generalize x.c.toNat % 2 ^ r = c1 at *
    generalize x.d.toNat % 2 ^ r = d1 at *
    omega
end W4
end Go.Lh
end
