/- A reckoner for functions over a local heap: what each operation does, and that it is sound; numbers of 256 bits. -/
import Derived.Test.YtklgiongdiojcaaLh5
set_option linter.unusedSimpArgs false
set_option linter.unusedVariables false
section
namespace Go.Lh.Bl

abbrev B := BitVec 8

/-- the i-th number of a sum -/
def nOf (h : List B) (i : Nat) : Nat := ((h.getD (2 * i) 0).toNat * 256 + (h.getD (2 * i + 1) 0).toNat) % 2048
def atOf (h : List B) (i : Nat) : Nat := 255 - nOf h i / 8
def bitOf (h : List B) (i : Nat) : B := 1#8 <<< (nOf h i % 8)
def set1 (xs : List B) (k : Nat) (b : B) : List B := xs.set k (xs.getD k 0 ||| b)
def setL (xs h : List B) : List B := set1 (set1 (set1 xs (atOf h 0) (bitOf h 0)) (atOf h 1) (bitOf h 1)) (atOf h 2) (bitOf h 2)
def has1 (xs : List B) (k : Nat) (b : B) : Bool := !((xs.getD k 0 &&& b) == 0#8)
def hasL (xs h : List B) : Bool := has1 xs (atOf h 0) (bitOf h 0) && has1 xs (atOf h 1) (bitOf h 1) && has1 xs (atOf h 2) (bitOf h 2)
def orL (xs ys : List B) : List B := List.zipWith (· ||| ·) xs ys
def zeros : List B := List.replicate 256 0#8
theorem zeros_len : zeros.length = 256 := List.length_replicate
theorem zeros_get (j : Nat) : zeros.getD j 0 = 0#8 := by
  unfold zeros
  rw [List.getD_eq_getElem?_getD, List.getElem?_replicate]
  split <;> rfl

theorem nOf_lt (h : List B) (i : Nat) : nOf h i < 2048 := Nat.mod_lt _ (by decide)
theorem atOf_lt (h : List B) (i : Nat) : atOf h i < 256 := by unfold atOf; omega
theorem len1 (xs : List B) (k : Nat) (b : B) : (set1 xs k b).length = xs.length := by simp [set1]
theorem lenL (xs h : List B) : (setL xs h).length = xs.length := by simp [setL, len1]

def m1 (k : Nat) (b : B) (j : Nat) : B := if j = k then b else 0#8
def mL (h : List B) (j : Nat) : B := m1 (atOf h 0) (bitOf h 0) j ||| (m1 (atOf h 1) (bitOf h 1) j ||| m1 (atOf h 2) (bitOf h 2) j)

theorem get1 (xs : List B) (k : Nat) (b : B) (hk : k < xs.length) (j : Nat) : (set1 xs k b).getD j 0 = xs.getD j 0 ||| m1 k b j := by
  unfold set1 m1
  by_cases e : j = k
  · subst e
    simp [hk]
  · rw [if_neg e]
    simp [List.getElem?_set, Ne.symm e]
theorem getL (xs h : List B) (hx : xs.length = 256) (j : Nat) : (setL xs h).getD j 0 = xs.getD j 0 ||| mL h j := by
  unfold setL mL
  rw [get1 _ _ _ (by rw [len1, len1, hx]; exact atOf_lt _ _), get1 _ _ _ (by rw [len1, hx]; exact atOf_lt _ _), get1 _ _ _ (by rw [hx]; exact atOf_lt _ _)]
  simp only [BitVec.or_assoc]
theorem ext256 {xs ys : List B} (hx : xs.length = 256) (hy : ys.length = 256) (h : ∀ j, xs.getD j 0 = ys.getD j 0) : xs = ys := by
  apply List.ext_getElem (by omega)
  intro j h1 h2
  have := h j
  simpa [h1, h2] using this
theorem len_or (xs ys : List B) : (orL xs ys).length = min xs.length ys.length := by simp [orL]
theorem get_or (xs ys : List B) (h : xs.length = ys.length) (j : Nat) : (orL xs ys).getD j 0 = xs.getD j 0 ||| ys.getD j 0 := by
  unfold orL
  rcases Nat.lt_or_ge j xs.length with h1 | h1
  · have h2 : j < ys.length := by omega
    simp [List.getElem?_zipWith, h1, h2]
  · have h2 : ys.length ≤ j := by omega
    simp [List.getElem?_zipWith, h1, h2]

theorem set_comm (xs h g : List B) (hx : xs.length = 256) : setL (setL xs h) g = setL (setL xs g) h := by
  refine ext256 (by rw [lenL, lenL, hx]) (by rw [lenL, lenL, hx]) fun j => ?_
  rw [getL _ _ (by rw [lenL, hx]), getL _ _ hx, getL _ _ (by rw [lenL, hx]), getL _ _ hx, BitVec.or_assoc, BitVec.or_assoc, BitVec.or_comm (mL h j)]
theorem set_again (xs h g : List B) (hx : xs.length = 256) : setL (setL (setL xs h) g) h = setL (setL xs h) g := by
  refine ext256 (by simp [lenL, hx]) (by simp [lenL, hx]) fun j => ?_
  rw [getL _ _ (by simp [lenL, hx]), getL _ _ (by simp [lenL, hx]), getL _ _ hx]
  generalize xs.getD j 0 = a; generalize mL h j = b; generalize mL g j = c
  rw [BitVec.or_assoc (a ||| b), BitVec.or_comm c b, ← BitVec.or_assoc (a ||| b), BitVec.or_assoc a b b, BitVec.or_self]

theorem or_has (x y : B) : x ||| y = x ↔ y &&& x = y := by
  constructor
  · intro h; rw [← h]; ext i; simp
    intro hy; exact Or.inr hy
  · intro h
    ext i hi
    have := congrArg (fun z => z.getLsbD i) h
    simp at this ⊢
    intro hy; exact this hy
/-- a byte of one bit -/
theorem one_bit : ∀ (j : Nat), j < 8 → ∀ x : B, (x ||| 1#8 <<< j = x ↔ ¬ (x &&& 1#8 <<< j = 0#8)) := by
  have h : ((List.range 8).all fun j => (List.range 256).all fun n => decide ((BitVec.ofNat 8 n ||| 1#8 <<< j = BitVec.ofNat 8 n) ↔ ¬ (BitVec.ofNat 8 n &&& 1#8 <<< j = 0#8))) = true := by decide +kernel
  intro j hj x
  have h1 := List.all_eq_true.1 (List.all_eq_true.1 h j (List.mem_range.2 hj)) x.toNat (List.mem_range.2 x.isLt)
  simpa using of_decide_eq_true h1
set_option maxRecDepth 100000 in
theorem bitOf_one (h : List B) (i : Nat) (x : B) : (x ||| bitOf h i = x ↔ ¬ (x &&& bitOf h i = 0#8)) := one_bit _ (Nat.mod_lt _ (by decide)) x
theorem bitOf_ne (h : List B) (i : Nat) (x : B) : ¬ ((x ||| bitOf h i) &&& bitOf h i = 0#8) := by
  rw [← bitOf_one, BitVec.or_assoc, BitVec.or_self]
theorem has1_iff (xs h : List B) (i : Nat) : has1 xs (atOf h i) (bitOf h i) = true ↔ xs.getD (atOf h i) 0 ||| bitOf h i = xs.getD (atOf h i) 0 := by
  rw [bitOf_one]; simp [has1]
theorem hasL_iff (xs h : List B) : hasL xs h = true ↔ ∀ i, i < 3 → xs.getD (atOf h i) 0 ||| bitOf h i = xs.getD (atOf h i) 0 := by
  unfold hasL
  rw [Bool.and_eq_true, Bool.and_eq_true, has1_iff, has1_iff, has1_iff]
  constructor
  · rintro ⟨⟨a, b⟩, c⟩ i hi
    match i, hi with
    | 0, _ => exact a
    | 1, _ => exact b
    | 2, _ => exact c
  · exact fun h => ⟨⟨h 0 (by decide), h 1 (by decide)⟩, h 2 (by decide)⟩
theorem or_ab1 (x y z : B) : (x ||| (y ||| z)) ||| x = x ||| (y ||| z) := by
  apply BitVec.eq_of_getLsbD_eq; intro i _; simp only [BitVec.getLsbD_or]; cases x.getLsbD i <;> cases y.getLsbD i <;> cases z.getLsbD i <;> rfl
theorem or_ab2 (x y z : B) : (x ||| (y ||| z)) ||| y = x ||| (y ||| z) := by
  apply BitVec.eq_of_getLsbD_eq; intro i _; simp only [BitVec.getLsbD_or]; cases x.getLsbD i <;> cases y.getLsbD i <;> cases z.getLsbD i <;> rfl
theorem or_ab3 (x y z : B) : (x ||| (y ||| z)) ||| z = x ||| (y ||| z) := by
  apply BitVec.eq_of_getLsbD_eq; intro i _; simp only [BitVec.getLsbD_or]; cases x.getLsbD i <;> cases y.getLsbD i <;> cases z.getLsbD i <;> rfl
theorem m1_self (k : Nat) (b : B) : m1 k b k = b := if_pos rfl
/-- what is set is there -/
theorem m_at (h : List B) (i : Nat) (hi : i < 3) : mL h (atOf h i) ||| bitOf h i = mL h (atOf h i) := by
  unfold mL
  rcases (show i = 0 ∨ i = 1 ∨ i = 2 by omega) with rfl | rfl | rfl
  · rw [m1_self]; exact or_ab1 _ _ _
  · rw [m1_self]; exact or_ab2 _ _ _
  · rw [m1_self]; exact or_ab3 _ _ _
theorem has_or (xs ys h : List B) (hx : xs.length = 256) (hy : ∀ j, ∃ r, ys.getD j 0 = r ||| mL h j) : hasL ys h = true := by
  rw [hasL_iff]
  intro i hi
  obtain ⟨r, e⟩ := hy (atOf h i)
  rw [e, BitVec.or_assoc, m_at h i hi]
theorem has_set (xs h : List B) (hx : xs.length = 256) : hasL (setL xs h) h = true := has_or xs _ h hx fun j => ⟨_, getL xs h hx j⟩
theorem has_set2 (xs h g : List B) (hx : xs.length = 256) : hasL (setL (setL xs h) g) h = true := by
  rw [set_comm _ _ _ hx]; exact has_set _ _ (by rw [lenL, hx])
theorem has_iff_set (xs h : List B) (hx : xs.length = 256) : hasL xs h = true ↔ setL xs h = xs := by
  constructor
  · intro H
    rw [hasL_iff] at H
    refine ext256 (by rw [lenL, hx]) hx fun j => ?_
    rw [getL _ _ hx]
    have one : ∀ i, i < 3 → xs.getD j 0 ||| m1 (atOf h i) (bitOf h i) j = xs.getD j 0 := by
      intro i hi
      unfold m1
      by_cases e : j = atOf h i
      · rw [if_pos e, e]; exact H i hi
      · rw [if_neg e]; simp
    unfold mL
    rw [← BitVec.or_assoc, one 0 (by decide), ← BitVec.or_assoc, one 1 (by decide), one 2 (by decide)]
  · intro H; rw [← H]; exact has_set _ _ hx
theorem join_set (xs h g : List B) (hx : xs.length = 256) : orL (setL xs h) (setL xs g) = setL (setL xs h) g := by
  refine ext256 (by simp [len_or, lenL, hx]) (by simp [lenL, hx]) fun j => ?_
  rw [get_or _ _ (by rw [lenL, lenL]), getL _ _ hx, getL _ _ hx, getL _ _ (by rw [lenL, hx]), getL _ _ hx]
  generalize xs.getD j 0 = a; generalize mL h j = b; generalize mL g j = c
  rw [BitVec.or_assoc, ← BitVec.or_assoc b a c, BitVec.or_comm b a, BitVec.or_assoc a b c, ← BitVec.or_assoc a a, BitVec.or_self, ← BitVec.or_assoc]
/-! ### many -/
def setAll (xs : List B) (hs : List (List B)) : List B := hs.foldl setL xs
theorem lenAll (hs : List (List B)) : ∀ xs : List B, (setAll xs hs).length = xs.length := by
  induction hs with
  | nil => intro xs; rfl
  | cons h r ih => intro xs; show (setAll (setL xs h) r).length = _; rw [ih, lenL]
theorem has_all (hs : List (List B)) : ∀ (xs h : List B), xs.length = 256 → (h ∈ hs ∨ hasL xs h = true) → hasL (setAll xs hs) h = true := by
  induction hs with
  | nil => intro xs h hx H; rcases H with H | H; exact absurd H (by simp); exact H
  | cons g r ih =>
    intro xs h hx H
    show hasL (setAll (setL xs g) r) h = true
    refine ih _ _ (by rw [lenL, hx]) ?_
    rcases H with H | H
    · rcases List.mem_cons.1 H with rfl | H
      · exact .inr (has_set _ _ hx)
      · exact .inl H
    · refine .inr ?_
      rw [has_iff_set _ _ (by rw [lenL, hx]), set_comm _ _ _ hx, (has_iff_set _ _ hx).1 H]
theorem or_setAll (hs : List (List B)) : ∀ (xs ys : List B), xs.length = 256 → ys.length = 256 → orL xs (setAll ys hs) = setAll (orL xs ys) hs := by
  induction hs with
  | nil => intro xs ys _ _; rfl
  | cons h r ih =>
    intro xs ys hx hy
    show orL xs (setAll (setL ys h) r) = setAll (setL (orL xs ys) h) r
    rw [ih _ _ hx (by rw [lenL, hy])]
    congr 1
    refine ext256 (by simp [len_or, lenL, hx, hy]) (by simp [lenL, len_or, hx, hy]) fun j => ?_
    rw [get_or _ _ (by rw [lenL, hx, hy]), getL _ _ hy, getL _ _ (by simp [len_or, hx, hy]), get_or _ _ (by rw [hx, hy]), BitVec.or_assoc]
theorem or_zeros (xs : List B) (hx : xs.length = 256) : orL xs zeros = xs := by
  refine ext256 (by rw [len_or, hx, zeros_len]; rfl) hx fun j => ?_
  rw [get_or _ _ (by rw [zeros_len, hx]), zeros_get, BitVec.or_zero]
/-- more logs: joined -/
theorem join_all (hs gs : List (List B)) : orL (setAll zeros hs) (setAll zeros gs) = setAll zeros (hs ++ gs) := by
  rw [or_setAll _ _ _ (by rw [lenAll, zeros_len]) zeros_len, or_zeros _ (by rw [lenAll, zeros_len])]
  unfold setAll
  rw [List.foldl_append]

/-! ### how many bits -/
def pop (x : B) : Nat := (List.range 8).foldl (fun s k => s + ((x >>> k) &&& 1#8).toNat) 0
def cnt (xs : List B) : Nat := (xs.map pop).sum
theorem pop_or : ∀ (j : Nat), j < 8 → ∀ x : B, pop (x ||| 1#8 <<< j) = pop x ∨ pop (x ||| 1#8 <<< j) = pop x + 1 := by
  have h : ((List.range 8).all fun j => (List.range 256).all fun n => decide (pop (BitVec.ofNat 8 n ||| 1#8 <<< j) = pop (BitVec.ofNat 8 n) ∨ pop (BitVec.ofNat 8 n ||| 1#8 <<< j) = pop (BitVec.ofNat 8 n) + 1)) = true := by decide +kernel
  intro j hj x
  have h1 := List.all_eq_true.1 (List.all_eq_true.1 h j (List.mem_range.2 hj)) x.toNat (List.mem_range.2 x.isLt)
  simpa using of_decide_eq_true h1
theorem pop_zero : ∀ (j : Nat), j < 8 → pop (0#8 ||| 1#8 <<< j) = 1 := by decide
theorem cnt_set (x : B) : ∀ (xs : List B) (k : Nat), k < xs.length → cnt (xs.set k x) + pop (xs.getD k 0) = cnt xs + pop x
  | [], k, h => by simp at h
  | y :: r, 0, _ => by simp [cnt]; omega
  | y :: r, k + 1, h => by
    have := cnt_set x r k (by simpa using h)
    simp [cnt] at this ⊢
    omega
theorem cnt_set1 (xs : List B) (k j : Nat) (hk : k < xs.length) (hj : j < 8) : cnt (set1 xs k (1#8 <<< j)) = cnt xs ∨ cnt (set1 xs k (1#8 <<< j)) = cnt xs + 1 := by
  have h1 := cnt_set (xs.getD k 0 ||| 1#8 <<< j) xs k hk
  have h2 := pop_or j hj (xs.getD k 0)
  unfold set1
  omega
theorem cnt_zeros : cnt zeros = 0 := by decide +kernel
theorem cnt_first (k j : Nat) (hk : k < 256) (hj : j < 8) : cnt (set1 zeros k (1#8 <<< j)) = 1 := by
  have h1 := cnt_set (zeros.getD k 0 ||| 1#8 <<< j) zeros k (by rw [zeros_len]; exact hk)
  have h0 : zeros.getD k 0 = 0#8 := zeros_get k
  rw [cnt_zeros, h0, pop_zero j hj] at h1
  have : pop 0#8 = 0 := by decide
  unfold set1
  rw [h0]
  omega
theorem cnt_setL (h : List B) : 1 ≤ cnt (setL zeros h) ∧ cnt (setL zeros h) ≤ 3 := by
  have e : ∀ i, nOf h i % 8 < 8 := fun i => Nat.mod_lt _ (by decide)
  have a := cnt_first (atOf h 0) (nOf h 0 % 8) (atOf_lt _ _) (e 0)
  have b := cnt_set1 (set1 zeros (atOf h 0) (1#8 <<< (nOf h 0 % 8))) (atOf h 1) (nOf h 1 % 8) (by rw [len1, zeros_len]; exact atOf_lt _ _) (e 1)
  have c := cnt_set1 (set1 (set1 zeros (atOf h 0) (1#8 <<< (nOf h 0 % 8))) (atOf h 1) (1#8 <<< (nOf h 1 % 8))) (atOf h 2) (nOf h 2 % 8) (by rw [len1, len1, zeros_len]; exact atOf_lt _ _) (e 2)
  unfold setL bitOf
  omega
end Go.Lh.Bl
end
section
namespace Go.Lh
section
variable {P : Program} {O : Orc} {N n0 : Nat}
theorem upon_mono2 {o : Oper} {a : Act} {n1 n2 : Act → World → Prop} {Q1 Q2 : Exit → Act → World → Prop} (hn : ∀ a w, n1 a w → n2 a w) (hQ : ∀ e a w, e ≠ .normal → Q1 e a w → Q2 e a w) (ho : LetsOut Q1 → LetsOut Q2) {r : Result Next} (h : o.upon P a n1 Q1 r) : o.upon P a n2 Q2 r := by
  unfold Oper.upon at h ⊢
  split at h
  · exact hn _ _ h
  · exact hn _ _ h
  · exact hn _ _ h
  · refine Calls.mono h (fun e w' he => ?_)
    cases e with
    | returned v => exact hn _ _ he
    | panicked c => exact hQ _ _ _ (by simp) he
    | outgrown => exact ho he
  · exact Rows.mono h (fun v w' hv => hn _ _ hv)
  · exact hQ _ _ _ (by simp) h
  · exact h.elim
theorem ops_gen {ops1 ops2 : Array Oper} {Q1 Q2 : Exit → Act → World → Prop} (φ : Nat → Nat) (rest : List Nat) (hQ : ∀ e a w, e ≠ .normal → Q1 e a w → Q2 e a w) (hrest : ∀ a w, Q1 .normal a w → wpOps P ops2 Q2 rest a w) :
    ∀ (l : List Nat) (_ : ∀ i, i ∈ l → ∃ o, ops1[i]? = some o ∧ ops2[φ i]? = some o ∧ o.guard = none) (a : Act) (w : World), wpOps P ops1 Q1 l a w → wpOps P ops2 Q2 (l.map φ ++ rest) a w
  | [], _, a, w, h => hrest a w h
  | i :: l, hs, a, w, h => by
    obtain ⟨o, h1, h2, h3⟩ := hs i (by simp)
    have hw : ∀ y, Region.wanted o y = true := by intro y; unfold Region.wanted; rw [h3]
    simp only [wpOps, h1, hw, if_true] at h
    simp only [List.map_cons, List.cons_append, wpOps, h2, hw, if_true]
    have hout : LetsOut Q1 → LetsOut Q2 := by rintro ⟨a', w', q⟩; exact ⟨a', w', hQ _ _ _ (by simp) q⟩
    rcases h with h | ⟨h, q⟩
    · left
      unfold Oper.wp at h ⊢
      refine upon_mono2 (fun a w => ops_gen φ rest hQ hrest l (fun j hj => hs j (by simp [hj])) a w) hQ hout h
    · exact .inr ⟨h, hout q⟩
def id' : Nat → Nat := fun i => i
/-- a region in two; between the parts a block goes over to the memory that stands still, or none does -/
theorem region_two {T : OrcT} {fuel id : Nat} {ops opsA opsB : Array Oper} {fr fr1 fr2 fr3 : Fr} {h h1 h2 h3 : Heap} (hO : OrcSound P T.o) (hm : P.follows .mixedOrders = true) (hab : ops.toList = opsA.toList ++ opsB.toList) (hg : ops.toList.all (fun o => o.guard.isNone) = true) (hd : dstsIn N (.region id ops false) = true)
    (hA : (execB P T noLoopsT fuel (.region id opsA false) fr h).is (.normal, fr1, h1)) (hf : (fr2 = fr1 ∧ h2 = h1) ∨ ∃ i cs, h1[i]? = some (.vals cs) ∧ (∀ v, v ∈ cs → v.clo = true) ∧ fr2 = frzF i cs fr1 ∧ h2 = h1.set i .dead)
    (hB : (execB P T noLoopsT fuel (.region id opsB false) fr2 h2).is (.normal, fr3, h3)) : Runs P N n0 (.region id ops false) fr h (EndW N n0 .normal fr3 h3) := by
  have hin : ∀ d, d ∈ ops.toList.filterMap (·.dst) → d < N := by
    intro d hd'
    obtain ⟨o, ho, hod⟩ := List.mem_filterMap.1 hd'
    exact dstIn_iff (List.all_eq_true.1 hd o ho) d hod
  have hinA : ∀ d, d ∈ opsA.toList.filterMap (·.dst) → d < N := fun d hd => hin d (by rw [hab, List.filterMap_append]; simp [hd])
  have hinB : ∀ d, d ∈ opsB.toList.filterMap (·.dst) → d < N := fun d hd => hin d (by rw [hab, List.filterMap_append]; simp [hd])
  have ofI : ∀ {o : Array Oper} {f f' : Fr} {g g' : Heap}, (execB P T noLoopsT fuel (.region id o false) f g).is (.normal, f', g') → runRegion P T.o o false f g = some (true, none, f', g') := by
    intro o f f' g g' hx
    have := execB_is hx
    simp only [execD] at this
    split at this <;> simp only [Option.some.injEq, Prod.mk.injEq, reduceCtorEq] at this
    · rename_i q f2 g2 hr
      obtain ⟨rfl, _, rfl, rfl⟩ := this
      exact hr
    · exact this.2.1.elim
  intro Q dfs ρ I w a S K
  refine wp_region ?_
  have hsz : ops.size = opsA.size + opsB.size := by
    have := congrArg List.length hab
    simpa using this
  have hrange : List.range ops.size = (List.range opsA.size).map id' ++ (List.range opsB.size).map (fun i => opsA.size + i) := by
    rw [hsz, List.range_add]
    rw [show (List.range opsA.size).map id' = List.range opsA.size from List.map_id _]
  have gA : ∀ i, i < opsA.size → ∃ o, opsA[i]? = some o ∧ ops[id' i]? = some o ∧ o.guard = none := by
    intro i hi
    have e1 : ops[i]? = opsA[i]? := by
      rw [← Array.getElem?_toList, hab, List.getElem?_append_left (by simpa using hi), Array.getElem?_toList]
    have e2 : opsA[i]? = some opsA[i] := Array.getElem?_eq_getElem hi
    refine ⟨_, e2, by show ops[i]? = _; rw [e1, e2], ?_⟩
    have := List.all_eq_true.1 hg opsA[i] (List.mem_of_getElem? (by rw [Array.getElem?_toList, e1, e2]))
    simpa using this
  have gB : ∀ i, i < opsB.size → ∃ o, opsB[i]? = some o ∧ ops[opsA.size + i]? = some o ∧ o.guard = none := by
    intro i hi
    have e1 : ops[opsA.size + i]? = opsB[i]? := by
      rw [← Array.getElem?_toList, hab, List.getElem?_append_right (by simp), Array.getElem?_toList]
      simp
    have e2 : opsB[i]? = some opsB[i] := Array.getElem?_eq_getElem hi
    refine ⟨_, e2, by rw [e1, e2], ?_⟩
    have := List.all_eq_true.1 hg opsB[i] (List.mem_of_getElem? (by rw [Array.getElem?_toList, e1, e2]))
    simpa using this
  rw [hrange]
  refine ops_gen (ops1 := opsA) (Q1 := fun e a' w' => e = .normal ∧ ∃ ρ' I', Sim N dfs ρ' I' w' a' fr1.get h1 (fun _ => False) ∧ Went ρ I w h ρ' I' w' h1) id' _ (fun e a w hne q => absurd q.1 hne) ?_ _ (fun i hi => gA i (List.mem_range.1 hi)) a w
    (region_ops hO hinA S (ofI hA) (fun ρ' I' w' a' s W => ⟨rfl, ρ', I', s, W⟩))
  rintro a1 w1 ⟨_, ρ1, I1, s1, W1⟩
  obtain ⟨I2, s2, W2⟩ : ∃ I2, Sim N dfs ρ1 I2 w1 a1 fr2.get h2 (fun _ => False) ∧ WentN n0 ρ1 I1 w1 h1 ρ1 I2 w1 h2 := by
    rcases hf with ⟨rfl, rfl⟩ | ⟨i, cs, hi, hc, rfl, rfl⟩
    · exact ⟨I1, s1, .refl⟩
    · obtain ⟨I', r1, w1', hv⟩ := s1.rel.frz (n0 := n0) hi hc
      refine ⟨I', ⟨s1.size, s1.defers, ?_, r1⟩, w1'⟩
      intro t v hg
      rw [frzF_get] at hg
      cases hf : fr1.get t with
      | none => rw [hf] at hg; cases hg
      | some u => rw [hf] at hg; cases hg; exact hv _ _ (s1.fr t u hf)
  have hB' := ops_gen (P := P) (ops1 := opsB) (ops2 := ops) (Q1 := fun e a' w' => e = .normal ∧ Q .normal a' w') (Q2 := Q) (fun i => opsA.size + i) [] (fun e a w hne q => absurd q.1 hne) (fun a w q => q.2) (List.range opsB.size) (fun i hi => gB i (List.mem_range.1 hi)) a1 w1
    (region_ops hO hinB s2 (ofI hB) (fun ρ' I' w' a' s W => ⟨rfl, K .normal _ _ ρ' I' w' a' .normal .rfl rfl s ((W1.toN.trans W2).trans W.toN)⟩))
  rw [List.append_nil] at hB'
  exact hB'
end
end Go.Lh
namespace Go.Lh
def regId0 : Code → Nat
  | .seq (.region id _ _) _ => id
  | _ => 0
def headOps : Code → Array Oper
  | .seq (.region _ ops _) _ => ops
  | _ => #[]
def tailC : Code → Code
  | .seq _ b => b
  | _ => .skip
def headOk : Code → Bool
  | .seq (.region _ ops false) _ => ops.toList.all (fun o => o.guard.isNone)
  | _ => false
def partA (k : Nat) (c : Code) : Code := .region (regId0 c) ⟨(headOps c).toList.take k⟩ false
def partB (k : Nat) (c : Code) : Code := .region (regId0 c) ⟨(headOps c).toList.drop k⟩ false
/-- cut within a region -/
theorem EndsIn.two {P : Program} {T : OrcT} {fuel n0 : Nat} {fn : Func} {c : Code} {fr fr1 fr2 fr3 : Fr} {h h1 h2 h3 h' : Heap} {fin : Fin} {on : List Nat} (k : Nat) (hO : OrcSound P T.o) (hm : P.follows .mixedOrders = true) (hc : headOk c = true) (hd : dstsIn fn.ntmps c = true)
    (hA : (execB P T noLoopsT fuel (partA k c) fr h).is (.normal, fr1, h1)) (hf : (fr2 = fr1 ∧ h2 = h1) ∨ ∃ i cs, h1[i]? = some (.vals cs) ∧ (∀ v, v ∈ cs → v.clo = true) ∧ fr2 = frzF i cs fr1 ∧ h2 = h1.set i .dead)
    (hB : (execBN P T noLoopsT fuel n0 on [] (partB k c) fr2 h2).is (.normal, fr3, h3)) (H : EndsIn P fn n0 (tailC c) fr3 h3 fin h') : EndsIn P fn n0 c fr h fin h' := by
  unfold headOk at hc
  split at hc
  · rename_i id ops rest
    simp only [dstsIn, Bool.and_eq_true] at hd
    unfold execBN at hB
    rw [Tr.is_bind] at hB
    obtain ⟨⟨x, fr', g'⟩, hB1, hB2⟩ := hB
    have hx : x = .normal := by
      cases x with
      | normal => rfl
      | pan v => simp only at hB2; rw [Tr.is_leaf] at hB2; cases hB2
      | exit _ =>
        simp only at hB2
        split at hB2
        · rw [Tr.is_leaf] at hB2; cases hB2
        · exact (Tr.is_no.1 hB2).elim
      | ret =>
        simp only at hB2
        split at hB2
        · rw [Tr.is_leaf] at hB2; cases hB2
        · exact (Tr.is_no.1 hB2).elim
    subst hx
    simp only at hB2
    split at hB2
    · rename_i q ht
      rw [Tr.is_leaf] at hB2
      cases hB2
      refine Runs.seq ((region_two hO hm (List.take_append_drop k ops.toList).symm hc (by simpa only [dstsIn] using hd.1) hA hf hB1).mono ?_)
      rintro y f g ⟨rfl, hw⟩
      exact Runs.weaken hw (Runs.weaken (tell_weaker ht) H)
    · exact (Tr.is_no.1 hB2).elim
  · cases hc
end Go.Lh
end
