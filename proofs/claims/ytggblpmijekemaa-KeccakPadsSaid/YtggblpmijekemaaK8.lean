/- Permute is one to one: the plain law. -/
import Derived.Test.YtggblpmijekemaaK2
set_option linter.unusedSimpArgs false
set_option linter.unusedVariables false
open Go Go.Lh
namespace Go.Proofs.Ytggblpmijekemaa.K
theorem rotl_bit (x : BitVec 64) (k i : Nat) (hi : i < 64) : (rotl x k).getLsbD i = x.getLsbD ((i + 64 - k % 64) % 64) := by
  have hk : k % 64 < 64 := Nat.mod_lt _ (by omega)
  unfold rotl
  simp only [BitVec.getLsbD_or, BitVec.getLsbD_shiftLeft, BitVec.getLsbD_ushiftRight]
  by_cases h : i < k % 64
  · have e : (i + 64 - k % 64) % 64 = 64 - k % 64 + i := by omega
    rw [e]; simp [h]
  · have e : (i + 64 - k % 64) % 64 = i - k % 64 := by omega
    rw [e]
    have : x.getLsbD (64 - k % 64 + i) = false := BitVec.getLsbD_of_ge _ _ (by omega)
    simp [h, hi, this]
theorem rotl_inj {x y : BitVec 64} {k : Nat} (h : rotl x k = rotl y k) : x = y := by
  apply BitVec.eq_of_getLsbD_eq
  intro i hi
  have e := congrArg (fun z => z.getLsbD ((i + k % 64) % 64)) h
  simp only [rotl_bit _ _ _ (Nat.mod_lt _ (show 0 < 64 by omega))] at e
  have : ((i + k % 64) % 64 + 64 - k % 64) % 64 = i := by
    have hk : k % 64 < 64 := Nat.mod_lt _ (by omega)
    omega
  rwa [this] at e

/-- a plane of bits that theta makes of nothing is nothing -/
theorem plane_zero (Q : Nat → Nat → Bool) (h5 : ∀ x i, Q (x + 5) i = Q x i) (h64 : ∀ x i, Q x (i + 64) = Q x i)
    (h : ∀ x i, Q x (i + 1) = (Q (x + 4) (i + 1) ^^ Q (x + 1) i)) : ∀ x i, Q x i = false := by
  have h5s : ∀ s x i, Q (x + 5 * s) i = Q x i := by
    intro s
    induction s with
    | zero => intro x i; rfl
    | succ s ih => intro x i; rw [show x + 5 * (s + 1) = x + 5 * s + 5 by omega, h5, ih]
  have dbl : ∀ s, (∀ x i, Q x (i + s) = (Q (x + 4 * s) (i + s) ^^ Q (x + s) i)) → ∀ x i, Q x (i + 2 * s) = (Q (x + 4 * (2 * s)) (i + 2 * s) ^^ Q (x + 2 * s) i) := by
    intro s hs x i
    have a1 := hs x (i + s)
    have a2 := hs (x + 4 * s) (i + s)
    have a3 := hs (x + s) i
    rw [show i + s + s = i + 2 * s by omega] at a1 a2
    rw [show x + 4 * s + 4 * s = x + 4 * (2 * s) by omega, show x + 4 * s + s = x + 5 * s by omega, h5s] at a2
    rw [show x + s + 4 * s = x + 5 * s by omega, h5s, show x + s + s = x + 2 * s by omega] at a3
    rw [a1, a2, a3]
    cases Q (x + 4 * (2 * s)) (i + 2 * s) <;> cases Q x (i + s) <;> cases Q (x + 2 * s) i <;> rfl
  have r1 : ∀ x i, Q x (i + 1) = (Q (x + 4 * 1) (i + 1) ^^ Q (x + 1) i) := h
  have r64 := dbl 32 (dbl 16 (dbl 8 (dbl 4 (dbl 2 (dbl 1 r1)))))
  have k : ∀ x i, Q x i = (Q (x + 1) i ^^ Q (x + 4) i) := by
    intro x i
    have := r64 x i
    rw [show 2 * 32 = 64 by omega, h64, h64, show x + 4 * 64 = x + 1 + 5 * 51 by omega, h5s, show x + 64 = x + 4 + 5 * 12 by omega, h5s] at this
    exact this
  intro x i
  have k0 := k x i
  have k1 := k (x + 1) i
  have k2 := k (x + 2) i
  have k3 := k (x + 3) i
  have k4 := k (x + 4) i
  simp only [Nat.add_assoc, Nat.reduceAdd] at k0 k1 k2 k3 k4
  rw [h5] at k1
  rw [show x + 6 = x + 1 + 5 by omega, h5] at k2
  rw [show x + 7 = x + 2 + 5 by omega, h5] at k3
  rw [h5, show x + 8 = x + 3 + 5 by omega, h5] at k4
  revert k0 k1 k2 k3 k4
  cases Q x i <;> cases Q (x + 1) i <;> cases Q (x + 2) i <;> cases Q (x + 3) i <;> cases Q (x + 4) i <;> decide

theorem lanes_get (n : Nat) (f : Nat → BitVec 64) : ∀ i, i < n → col (lanes n f) i = f i := by
  have hu : ∀ n i, i < n → (upto n)[i]? = some i := by
    intro n
    induction n with
    | zero => intro i hi; omega
    | succ n ih =>
      intro i hi
      simp only [upto]
      by_cases e : i = n
      · subst e; rw [List.getElem?_append_right (by rw [upto_length]; exact Nat.le_refl _), upto_length]; simp
      · rw [List.getElem?_append_left (by rw [upto_length]; omega)]; exact ih i (by omega)
  intro i hi
  simp [col, lanes, List.getD_eq_getElem?_getD, List.getElem?_map, hu n i hi]
theorem col_ext {xs ys : List (BitVec 64)} (hx : xs.length = 25) (hy : ys.length = 25) (h : ∀ i, i < 25 → col xs i = col ys i) : xs = ys := by
  apply List.ext_getElem (by omega)
  intro j hj hj'
  have := h j (by omega)
  simpa [col, List.getD_eq_getElem?_getD, List.getElem?_eq_getElem hj, List.getElem?_eq_getElem hj'] using this

theorem theta_inj {xs ys : List (BitVec 64)} (hx : xs.length = 25) (hy : ys.length = 25) (h : thetaL xs = thetaL ys) : xs = ys := by
  have hl : ∀ i, i < 25 → col xs i ^^^ (par xs ((i + 4) % 5) ^^^ rotl (par xs ((i + 1) % 5)) 1) = col ys i ^^^ (par ys ((i + 4) % 5) ^^^ rotl (par ys ((i + 1) % 5)) 1) := by
    intro i hi
    have e := congrArg (fun l => col l i) h
    simp only [thetaL] at e
    rwa [lanes_get _ _ _ hi, lanes_get _ _ _ hi] at e
  -- the bits of what differs
  let D : Nat → Nat → Bool := fun i j => ((col xs i).getLsbD j ^^ (col ys i).getLsbD j)
  let Q : Nat → Nat → Bool := fun x j => (D (x % 5) (j % 64) ^^ D (x % 5 + 5) (j % 64) ^^ D (x % 5 + 10) (j % 64) ^^ D (x % 5 + 15) (j % 64) ^^ D (x % 5 + 20) (j % 64))
  have hpar : ∀ zs x j, (par zs x).getLsbD j = ((col zs x).getLsbD j ^^ (col zs (x + 5)).getLsbD j ^^ (col zs (x + 10)).getLsbD j ^^ (col zs (x + 15)).getLsbD j ^^ (col zs (x + 20)).getLsbD j) := by
    intro zs x j
    simp only [par, BitVec.getLsbD_xor]
    simp
  have hQ : ∀ x j, x < 5 → j < 64 → Q x j = ((par xs x).getLsbD j ^^ (par ys x).getLsbD j) := by
    intro x j hx' hj
    simp only [Q, D, hpar, Nat.mod_eq_of_lt hx', Nat.mod_eq_of_lt hj]
    cases (col xs x).getLsbD j <;> cases (col ys x).getLsbD j <;> cases (col xs (x+5)).getLsbD j <;> cases (col ys (x+5)).getLsbD j <;> cases (col xs (x+10)).getLsbD j <;> cases (col ys (x+10)).getLsbD j <;> simp <;> cases (col xs (x+15)).getLsbD j <;> cases (col ys (x+15)).getLsbD j <;> cases (col xs (x+20)).getLsbD j <;> cases (col ys (x+20)).getLsbD j <;> rfl
  have hD : ∀ i j, i < 25 → j < 64 → D i j = (Q (i + 4) j ^^ Q (i + 1) (j + 63)) := by
    intro i j hi hj
    have e := congrArg (fun z => z.getLsbD j) (hl i hi)
    simp only [BitVec.getLsbD_xor, rotl_bit _ _ _ hj] at e
    have q1 : Q (i + 4) j = Q ((i + 4) % 5) j := by simp only [Q, Nat.mod_mod]
    have q2 : Q (i + 1) (j + 63) = Q ((i + 1) % 5) ((j + 64 - 1 % 64) % 64) := by
      simp only [Q, Nat.mod_mod]
      rw [show (j + 64 - 1 % 64) = j + 63 by omega]
    rw [q1, q2, hQ _ _ (Nat.mod_lt _ (by omega)) hj, hQ _ _ (Nat.mod_lt _ (by omega)) (Nat.mod_lt _ (by omega))]
    simp only [D]
    revert e
    cases (col xs i).getLsbD j <;> cases (col ys i).getLsbD j <;> cases (par xs ((i + 4) % 5)).getLsbD j <;> cases (par ys ((i + 4) % 5)).getLsbD j <;> cases (par xs ((i + 1) % 5)).getLsbD ((j + 64 - 1 % 64) % 64) <;> cases (par ys ((i + 1) % 5)).getLsbD ((j + 64 - 1 % 64) % 64) <;> decide
  have hQ5 : ∀ x i, Q (x + 5) i = Q x i := by intro x i; simp only [Q, Nat.add_mod_right]
  have hQ64 : ∀ x i, Q x (i + 64) = Q x i := by intro x i; simp only [Q, Nat.add_mod_right]
  have hT : ∀ x j, x < 5 → j < 64 → Q x j = (Q (x + 4) j ^^ Q (x + 1) (j + 63)) := by
    intro x j hx' hj
    have e0 := hD x j (by omega) hj
    have e1 := hD (x + 5) j (by omega) hj
    have e2 := hD (x + 10) j (by omega) hj
    have e3 := hD (x + 15) j (by omega) hj
    have e4 := hD (x + 20) j (by omega) hj
    have p : ∀ k x i, Q (x + 5 * k) i = Q x i := by
      intro k; induction k with
      | zero => intro x i; rfl
      | succ k ih => intro x i; rw [show x + 5 * (k + 1) = x + 5 * k + 5 by omega, hQ5, ih]
    rw [show x + 5 + 4 = x + 4 + 5 * 1 by omega, p, show x + 5 + 1 = x + 1 + 5 * 1 by omega, p] at e1
    rw [show x + 10 + 4 = x + 4 + 5 * 2 by omega, p, show x + 10 + 1 = x + 1 + 5 * 2 by omega, p] at e2
    rw [show x + 15 + 4 = x + 4 + 5 * 3 by omega, p, show x + 15 + 1 = x + 1 + 5 * 3 by omega, p] at e3
    rw [show x + 20 + 4 = x + 4 + 5 * 4 by omega, p, show x + 20 + 1 = x + 1 + 5 * 4 by omega, p] at e4
    have e : Q x j = (D x j ^^ D (x + 5) j ^^ D (x + 10) j ^^ D (x + 15) j ^^ D (x + 20) j) := by
      simp only [Q, Nat.mod_eq_of_lt hx', Nat.mod_eq_of_lt hj]
    rw [e, e0, e1, e2, e3, e4]
    cases Q (x + 4) j <;> cases Q (x + 1) (j + 63) <;> rfl
  have hmod : ∀ x j, Q x j = Q (x % 5) (j % 64) := by intro x j; simp only [Q, Nat.mod_mod]
  have hz := plane_zero Q hQ5 hQ64 (by
    intro x i
    have e := hT (x % 5) ((i + 1) % 64) (Nat.mod_lt _ (by omega)) (Nat.mod_lt _ (by omega))
    rw [hmod x (i + 1), e, hmod (x + 4), hmod (x + 1) i, hmod (x % 5 + 4), hmod (x % 5 + 1)]
    have m1 : (x % 5 + 4) % 5 = (x + 4) % 5 := by omega
    have m2 : (x % 5 + 1) % 5 = (x + 1) % 5 := by omega
    have m3 : (i + 1) % 64 % 64 = (i + 1) % 64 := by omega
    have m4 : ((i + 1) % 64 + 63) % 64 = i % 64 := by omega
    rw [m1, m2, m3, m4])
  refine col_ext hx hy fun i hi => ?_
  apply BitVec.eq_of_getLsbD_eq
  intro j hj
  have e := hD i j hi hj
  rw [hz, hz] at e
  simp only [D] at e
  revert e
  cases (col xs i).getLsbD j <;> cases (col ys i).getLsbD j <;> decide

theorem moves_all : ∀ k, k < 25 → ∃ i, i < 25 ∧ (moves.getD i (0, 0)).1 = k := by decide
theorem rhoPi_inj {xs ys : List (BitVec 64)} (hx : xs.length = 25) (hy : ys.length = 25) (h : rhoPiL xs = rhoPiL ys) : xs = ys := by
  refine col_ext hx hy fun k hk => ?_
  obtain ⟨i, hi, rfl⟩ := moves_all k hk
  have e := congrArg (fun l => col l i) h
  simp only [rhoPiL] at e
  rw [lanes_get _ _ _ hi, lanes_get _ _ _ hi] at e
  by_cases e0 : i = 0
  · subst e0; exact e
  · have : Nat.beq i 0 = false := by rw [Bool.eq_false_iff]; intro h; exact e0 (Nat.eq_of_beq_eq_true h)
    rw [this] at e
    exact rotl_inj e

theorem chi_bits (a b c d e a' b' c' d' e' : Bool) (h0 : (a ^^ (!b && c)) = (a' ^^ (!b' && c'))) (h1 : (b ^^ (!c && d)) = (b' ^^ (!c' && d'))) (h2 : (c ^^ (!d && e)) = (c' ^^ (!d' && e')))
    (h3 : (d ^^ (!e && a)) = (d' ^^ (!e' && a'))) (h4 : (e ^^ (!a && b)) = (e' ^^ (!a' && b'))) : a = a' ∧ b = b' ∧ c = c' ∧ d = d' ∧ e = e' := by
  revert h0 h1 h2 h3 h4
  cases a <;> cases b <;> cases c <;> cases d <;> cases e <;> cases a' <;> cases b' <;> cases c' <;> cases d' <;> cases e' <;> decide
theorem chi_inj {xs ys : List (BitVec 64)} (hx : xs.length = 25) (hy : ys.length = 25) (h : chiL xs = chiL ys) : xs = ys := by
  have hl : ∀ i j, i < 25 → j < 64 → ((col xs i).getLsbD j ^^ (!(col xs (i / 5 * 5 + (i + 1) % 5)).getLsbD j && (col xs (i / 5 * 5 + (i + 2) % 5)).getLsbD j)) = ((col ys i).getLsbD j ^^ (!(col ys (i / 5 * 5 + (i + 1) % 5)).getLsbD j && (col ys (i / 5 * 5 + (i + 2) % 5)).getLsbD j)) := by
    intro i j hi hj
    have e := congrArg (fun l => (col l i).getLsbD j) h
    simp only [chiL] at e
    rw [lanes_get _ _ _ hi, lanes_get _ _ _ hi] at e
    simpa [BitVec.getLsbD_xor, BitVec.getLsbD_and, BitVec.getLsbD_not, hj] using e
  have row : ∀ y j, y < 5 → j < 64 → ∀ x, x < 5 → (col xs (5 * y + x)).getLsbD j = (col ys (5 * y + x)).getLsbD j := by
    intro y j hy' hj
    have g : ∀ x, x < 5 → ((col xs (5 * y + x)).getLsbD j ^^ (!(col xs (5 * y + (x + 1) % 5)).getLsbD j && (col xs (5 * y + (x + 2) % 5)).getLsbD j)) = ((col ys (5 * y + x)).getLsbD j ^^ (!(col ys (5 * y + (x + 1) % 5)).getLsbD j && (col ys (5 * y + (x + 2) % 5)).getLsbD j)) := by
      intro x hx'
      have := hl (5 * y + x) j (by omega) hj
      rw [show (5 * y + x) / 5 * 5 = 5 * y by omega, show (5 * y + x + 1) % 5 = (x + 1) % 5 by omega, show (5 * y + x + 2) % 5 = (x + 2) % 5 by omega] at this
      exact this
    have := chi_bits _ _ _ _ _ _ _ _ _ _ (g 0 (by omega)) (g 1 (by omega)) (g 2 (by omega)) (g 3 (by omega)) (g 4 (by omega))
    obtain ⟨p0, p1, p2, p3, p4⟩ := this
    intro x hx'
    match x, hx' with
    | 0, _ => exact p0
    | 1, _ => exact p1
    | 2, _ => exact p2
    | 3, _ => exact p3
    | 4, _ => exact p4
    | n + 5, h => omega
  refine col_ext hx hy fun i hi => ?_
  apply BitVec.eq_of_getLsbD_eq
  intro j hj
  have := row (i / 5) j (by omega) hj (i % 5) (Nat.mod_lt _ (by omega))
  rwa [show 5 * (i / 5) + i % 5 = i by omega] at this

theorem thetaL_length (xs : List (BitVec 64)) : (thetaL xs).length = 25 := lanes_length _ _
theorem rhoPiL_length (xs : List (BitVec 64)) : (rhoPiL xs).length = 25 := lanes_length _ _
theorem chiL_length (xs : List (BitVec 64)) : (chiL xs).length = 25 := lanes_length _ _
theorem round_inj {i : Nat} {xs ys : List (BitVec 64)} (hx : xs.length = 25) (hy : ys.length = 25) (h : roundL i xs = roundL i ys) : xs = ys := by
  refine theta_inj hx hy (rhoPi_inj (thetaL_length _) (thetaL_length _) (chi_inj (rhoPiL_length _) (rhoPiL_length _) ?_))
  have lx := chiL_length (rhoPiL (thetaL xs))
  have ly := chiL_length (rhoPiL (thetaL ys))
  unfold roundL at h
  refine col_ext lx ly fun k hk => ?_
  have e := congrArg (fun l => col l k) h
  simp only [col, List.getD_eq_getElem?_getD] at e ⊢
  by_cases e0 : k = 0
  · subst e0
    rw [List.getElem?_set_self (by omega), List.getElem?_set_self (by omega)] at e
    simp only [Option.getD_some] at e
    exact (BitVec.xor_left_inj _).1 e
  · rw [List.getElem?_set_ne (Ne.symm e0), List.getElem?_set_ne (Ne.symm e0)] at e
    exact e
theorem perm_inj {xs ys : List (BitVec 64)} (hx : xs.length = 25) (hy : ys.length = 25) (h : permL xs = permL ys) : xs = ys := by
  have : ∀ n, permN n xs = permN n ys → xs = ys := by
    intro n
    induction n with
    | zero => exact id
    | succ n ih => intro h; exact ih (round_inj (permN_length n xs hx) (permN_length n ys hy) h)
  exact this 24 h
end Go.Proofs.Ytggblpmijekemaa.K
