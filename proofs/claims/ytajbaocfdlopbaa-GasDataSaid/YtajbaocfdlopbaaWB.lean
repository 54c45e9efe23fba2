/- Products, quotients: the plain law. -/
import Derived.Test.YtajbaocfdlopbaaWA
set_option linter.unusedSimpArgs false
set_option linter.unusedVariables false
namespace Go.Lh
def macLo (l m o c : BitVec 64) : BitVec 64 := sumC (sumC (l * m) o 0) c 0
def macHi (l m o c : BitVec 64) : BitVec 64 := mulHi l m + outC (l * m) o 0 + outC (sumC (l * m) o 0) c 0
theorem mac_eq (l m o c : BitVec 64) : (macLo l m o c).toNat + 2 ^ 64 * (macHi l m o c).toNat = l.toNat * m.toNat + o.toNat + c.toNat := by
  have hl := l.isLt; have hm := m.isLt; have ho := o.isLt; have hc := c.isLt
  have h0 : (0 : BitVec 64).toNat ≤ 1 := by decide
  have e1 := outC_toNat (l * m) o 0 h0
  have e2 := outC_toNat (sumC (l * m) o 0) c 0 h0
  have s1 := sumC_toNat (l * m) o 0
  have s2 := sumC_toNat (sumC (l * m) o 0) c 0
  have hh := mulHi_toNat l m
  have hlo : (l * m).toNat = l.toNat * m.toNat % 2 ^ 64 := BitVec.toNat_mul _ _
  have z : (0 : BitVec 64).toNat = 0 := rfl
  rw [z] at e1 e2 s1 s2
  have hb : l.toNat * m.toNat ≤ 18446744073709551615 * 18446744073709551615 := Nat.mul_le_mul (by omega) (by omega)
  unfold macLo macHi
  rw [BitVec.toNat_add, BitVec.toNat_add, hh, e1, e2, s2, s1, hlo]
  generalize l.toNat * m.toNat = p at *
  omega
namespace W4
theorem mul4 (l a b c d : Nat) : l * (2 ^ 192 * a + (2 ^ 128 * b + (2 ^ 64 * c + d))) = 2 ^ 192 * (l * a) + (2 ^ 128 * (l * b) + (2 ^ 64 * (l * c) + l * d)) := by
  rw [Nat.mul_add, Nat.mul_add, Nat.mul_add, Nat.mul_left_comm l, Nat.mul_left_comm l, Nat.mul_left_comm l]
theorem mul4r (a b c d y : Nat) : (2 ^ 192 * a + (2 ^ 128 * b + (2 ^ 64 * c + d))) * y = 2 ^ 192 * (a * y) + (2 ^ 128 * (b * y) + (2 ^ 64 * (c * y) + d * y)) := by
  rw [Nat.add_mul, Nat.add_mul, Nat.add_mul, Nat.mul_assoc, Nat.mul_assoc, Nat.mul_assoc]
/-- the product, part by part -/
def mulP (x y : W4) : W4 :=
  let o0 := macLo x.d y.d 0 0
  let c0 := macHi x.d y.d 0 0
  let o1 := macLo x.d y.c 0 c0
  let c1 := macHi x.d y.c 0 c0
  let o2 := macLo x.d y.b 0 c1
  let c2 := macHi x.d y.b 0 c1
  let o3 := macLo x.d y.a 0 c2
  let p1 := macLo x.c y.d o1 0
  let d1 := macHi x.c y.d o1 0
  let p2 := macLo x.c y.c o2 d1
  let d2 := macHi x.c y.c o2 d1
  let p3 := macLo x.c y.b o3 d2
  let q2 := macLo x.b y.d p2 0
  let e2 := macHi x.b y.d p2 0
  let q3 := macLo x.b y.c p3 e2
  ⟨macLo x.a y.d q3 0, q2, p1, o0⟩
theorem mulP_eq (x y : W4) : mulP x y = mul x y := by
  apply ext_n
  unfold mul
  rw [of_toNat, BitVec.toNat_mul, bv_toNat, bv_toNat]
  have z : (0 : BitVec 64).toNat = 0 := rfl
  have m0 := mac_eq x.d y.d 0 0
  have m1 := mac_eq x.d y.c 0 (macHi x.d y.d 0 0)
  have m2 := mac_eq x.d y.b 0 (macHi x.d y.c 0 (macHi x.d y.d 0 0))
  have m3 := mac_eq x.d y.a 0 (macHi x.d y.b 0 (macHi x.d y.c 0 (macHi x.d y.d 0 0)))
  simp only [mulP]
  generalize macLo x.d y.d 0 0 = o0 at *
  generalize macHi x.d y.d 0 0 = c0 at *
  generalize macLo x.d y.c 0 c0 = o1 at *
  generalize macHi x.d y.c 0 c0 = c1 at *
  generalize macLo x.d y.b 0 c1 = o2 at *
  generalize macHi x.d y.b 0 c1 = c2 at *
  generalize macLo x.d y.a 0 c2 = o3 at *
  generalize macHi x.d y.a 0 c2 = c3 at *
  have n1 := mac_eq x.c y.d o1 0
  have n2 := mac_eq x.c y.c o2 (macHi x.c y.d o1 0)
  have n3 := mac_eq x.c y.b o3 (macHi x.c y.c o2 (macHi x.c y.d o1 0))
  generalize macLo x.c y.d o1 0 = p1 at *
  generalize macHi x.c y.d o1 0 = d1 at *
  generalize macLo x.c y.c o2 d1 = p2 at *
  generalize macHi x.c y.c o2 d1 = d2 at *
  generalize macLo x.c y.b o3 d2 = p3 at *
  generalize macHi x.c y.b o3 d2 = d3 at *
  have k2 := mac_eq x.b y.d p2 0
  have k3 := mac_eq x.b y.c p3 (macHi x.b y.d p2 0)
  generalize macLo x.b y.d p2 0 = q2 at *
  generalize macHi x.b y.d p2 0 = e2 at *
  generalize macLo x.b y.c p3 e2 = q3 at *
  generalize macHi x.b y.c p3 e2 = e3 at *
  have l3 := mac_eq x.a y.d q3 0
  generalize macLo x.a y.d q3 0 = r3 at *
  generalize macHi x.a y.d q3 0 = f3 at *
  rw [z] at m0 m1 m2 m3 n1 k2 l3
  have hx : x.n * y.n = 2 ^ 192 * (x.a.toNat * y.n) + (2 ^ 128 * (x.b.toNat * y.n) + (2 ^ 64 * (x.c.toNat * y.n) + x.d.toNat * y.n)) := by
    conv => lhs; rw [show x.n = 2 ^ 192 * x.a.toNat + (2 ^ 128 * x.b.toNat + (2 ^ 64 * x.c.toNat + x.d.toNat)) from rfl]
    rw [mul4r]
  have ea : x.a.toNat * y.n = _ := mul4 x.a.toNat y.a.toNat y.b.toNat y.c.toNat y.d.toNat
  have eb : x.b.toNat * y.n = _ := mul4 x.b.toNat y.a.toNat y.b.toNat y.c.toNat y.d.toNat
  have ec : x.c.toNat * y.n = _ := mul4 x.c.toNat y.a.toNat y.b.toNat y.c.toNat y.d.toNat
  have ed : x.d.toNat * y.n = _ := mul4 x.d.toNat y.a.toNat y.b.toNat y.c.toNat y.d.toNat
  rw [hx, ea, eb, ec, ed]
  have g : ∀ (u v : Nat), (⟨r3, q2, p1, o0⟩ : W4).n = u → u % 2 ^ 256 = v % 2 ^ 256 → (⟨r3, q2, p1, o0⟩ : W4).n = v % 2 ^ 256 := by
    intro u v h1 h2
    have := n_lt ⟨r3, q2, p1, o0⟩
    rw [← h2, ← h1, Nat.mod_eq_of_lt this]
  refine g _ _ rfl ?_
  simp only [n]
  generalize x.a.toNat * y.a.toNat = t33 at *
  generalize x.a.toNat * y.b.toNat = t32 at *
  generalize x.a.toNat * y.c.toNat = t31 at *
  generalize x.a.toNat * y.d.toNat = t30 at *
  generalize x.b.toNat * y.a.toNat = t23 at *
  generalize x.b.toNat * y.b.toNat = t22 at *
  generalize x.b.toNat * y.c.toNat = t21 at *
  generalize x.b.toNat * y.d.toNat = t20 at *
  generalize x.c.toNat * y.a.toNat = t13 at *
  generalize x.c.toNat * y.b.toNat = t12 at *
  generalize x.c.toNat * y.c.toNat = t11 at *
  generalize x.c.toNat * y.d.toNat = t10 at *
  generalize x.d.toNat * y.a.toNat = t03 at *
  generalize x.d.toNat * y.b.toNat = t02 at *
  generalize x.d.toNat * y.c.toNat = t01 at *
  generalize x.d.toNat * y.d.toNat = t00 at *
  clear hx ea eb ec ed g
  omega
end W4

/-! ### quotients -/
theorem div_two {a B : Nat} (hB : 0 < B) : a / B = 2 * (a / (2 * B)) + (if B ≤ a % (2 * B) then 1 else 0) ∧ a % B = a % (2 * B) - (if B ≤ a % (2 * B) then B else 0) := by
  have e := Nat.div_add_mod a (2 * B)
  have hr : a % (2 * B) < 2 * B := Nat.mod_lt _ (by omega)
  generalize a / (2 * B) = q at *
  generalize a % (2 * B) = r at *
  have : a = B * (2 * q + (if B ≤ r then 1 else 0)) + (r - (if B ≤ r then B else 0)) := by
    rw [← e, Nat.mul_add, ← Nat.mul_assoc, Nat.mul_comm B 2]
    split <;> omega
  have hlt : r - (if B ≤ r then B else 0) < B := by split <;> omega
  exact (Nat.div_mod_unique hB).2 ⟨by rw [Nat.add_comm]; exact this.symm, hlt⟩
end Go.Lh
