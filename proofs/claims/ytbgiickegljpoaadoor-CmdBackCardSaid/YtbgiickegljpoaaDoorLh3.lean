/- A reckoner for functions over a local heap: what each operation does, and that it is sound; numbers of 256 bits. -/
import Derived.Lib.Bytealg
import Derived.Deep.Slices
import Derived.SizedLaws
import Derived.Test.YtbgiickegljpoaaDoorLh2
set_option linter.unusedSimpArgs false
set_option linter.unusedVariables false
section
namespace Go.Lh
structure W4 where
  a : BitVec 64
  b : BitVec 64
  c : BitVec 64
  d : BitVec 64
  deriving DecidableEq
namespace W4
def v (x : W4) : V := .agg [.u64 x.a, .u64 x.b, .u64 x.c, .u64 x.d]
def n (x : W4) : Nat := 2 ^ 192 * x.a.toNat + (2 ^ 128 * x.b.toNat + (2 ^ 64 * x.c.toNat + x.d.toNat))
def bv (x : W4) : BitVec 256 := BitVec.ofNat 256 x.n
def of (y : BitVec 256) : W4 := ⟨y.extractLsb' 192 64, y.extractLsb' 128 64, y.extractLsb' 64 64, y.extractLsb' 0 64⟩
theorem n_lt (x : W4) : x.n < 2 ^ 256 := by
  have := x.a.isLt; have := x.b.isLt; have := x.c.isLt; have := x.d.isLt
  unfold n; omega
theorem bv_toNat (x : W4) : x.bv.toNat = x.n := by
  unfold bv; rw [BitVec.toNat_ofNat, Nat.mod_eq_of_lt x.n_lt]
theorem ext_n {x y : W4} (h : x.n = y.n) : x = y := by
  have := x.a.isLt; have := x.b.isLt; have := x.c.isLt; have := x.d.isLt
  have := y.a.isLt; have := y.b.isLt; have := y.c.isLt; have := y.d.isLt
  cases x; cases y
  simp only [n] at h
  simp only [mk.injEq]
  refine ⟨?_, ?_, ?_, ?_⟩ <;> apply BitVec.eq_of_toNat_eq <;> simp only at * <;> omega
theorem ext_bv {x y : W4} (h : x.bv = y.bv) : x = y := ext_n (by rw [← bv_toNat, ← bv_toNat, h])
theorem of_toNat (y : BitVec 256) : (of y).n = y.toNat := by
  have := y.isLt
  simp only [n, of, BitVec.extractLsb'_toNat, Nat.shiftRight_eq_div_pow]
  omega
theorem bv_of (y : BitVec 256) : (of y).bv = y := BitVec.eq_of_toNat_eq (by rw [bv_toNat, of_toNat])
def sel (i : Nat) (d c b a : Nat → Bool) : Bool := if i < 64 then d i else if i < 128 then c (i - 64) else if i < 192 then b (i - 128) else a (i - 192)
theorem sel_congr {i : Nat} (hi : i < 256) {d c b a d' c' b' a' : Nat → Bool} (hd : ∀ j, j < 64 → d j = d' j) (hc : ∀ j, j < 64 → c j = c' j) (hb : ∀ j, j < 64 → b j = b' j) (ha : ∀ j, j < 64 → a j = a' j) : sel i d c b a = sel i d' c' b' a' := by
  unfold sel
  by_cases h1 : i < 64
  · rw [if_pos h1, if_pos h1, hd _ h1]
  · rw [if_neg h1, if_neg h1]
    by_cases h2 : i < 128
    · rw [if_pos h2, if_pos h2, hc _ (by omega)]
    · rw [if_neg h2, if_neg h2]
      by_cases h3 : i < 192
      · rw [if_pos h3, if_pos h3, hb _ (by omega)]
      · rw [if_neg h3, if_neg h3, ha _ (by omega)]
theorem sel_two (f : Bool → Bool → Bool) (i : Nat) (d c b a d' c' b' a' : Nat → Bool) : f (sel i d c b a) (sel i d' c' b' a') = sel i (fun j => f (d j) (d' j)) (fun j => f (c j) (c' j)) (fun j => f (b j) (b' j)) (fun j => f (a j) (a' j)) := by
  unfold sel
  by_cases h1 : i < 64
  · rw [if_pos h1, if_pos h1, if_pos h1]
  · rw [if_neg h1, if_neg h1, if_neg h1]
    by_cases h2 : i < 128
    · rw [if_pos h2, if_pos h2, if_pos h2]
    · rw [if_neg h2, if_neg h2, if_neg h2]
      by_cases h3 : i < 192
      · rw [if_pos h3, if_pos h3, if_pos h3]
      · rw [if_neg h3, if_neg h3, if_neg h3]
theorem bit (x : W4) (i : Nat) : x.bv.getLsbD i = sel i x.d.getLsbD x.c.getLsbD x.b.getLsbD x.a.getLsbD := by
  have ha := x.a.isLt; have hb := x.b.isLt; have hc := x.c.isLt; have hd := x.d.isLt
  have e : x.bv.getLsbD i = x.n.testBit i := by rw [← bv_toNat]; rfl
  rw [e]
  unfold n sel
  rw [Nat.testBit_two_pow_mul_add _ (by omega), Nat.testBit_two_pow_mul_add _ (by omega), Nat.testBit_two_pow_mul_add _ hd]
  simp only [BitVec.getLsbD]
  by_cases h1 : i < 64
  · rw [if_pos (by omega), if_pos (by omega), if_pos h1, if_pos h1]
  · by_cases h2 : i < 128
    · rw [if_pos (by omega), if_pos h2, if_neg h1, if_neg h1, if_pos h2]
    · by_cases h3 : i < 192
      · rw [if_pos h3, if_neg h2, if_neg h1, if_neg h2, if_pos h3]
      · rw [if_neg h3, if_neg h1, if_neg h2, if_neg h3]
def zero : W4 := ⟨0, 0, 0, 0⟩
def notW (x : W4) : W4 := ⟨~~~x.a, ~~~x.b, ~~~x.c, ~~~x.d⟩
theorem notW_bv (x : W4) : (notW x).bv = ~~~x.bv := by
  apply BitVec.eq_of_getLsbD_eq; intro i hi
  rw [BitVec.getLsbD_not, bit, bit, decide_eq_true hi, Bool.true_and]
  refine Eq.trans ?_ (sel_two (fun p _ => !p) i _ _ _ _ x.d.getLsbD x.c.getLsbD x.b.getLsbD x.a.getLsbD).symm
  refine sel_congr hi ?_ ?_ ?_ ?_ <;> intro j hj <;> (refine (BitVec.getLsbD_not).trans ?_) <;> rw [decide_eq_true hj, Bool.true_and]
def add (x y : W4) : W4 := of (x.bv + y.bv)
def sub (x y : W4) : W4 := of (x.bv - y.bv)
def mul (x y : W4) : W4 := of (x.bv * y.bv)
def lt (x y : W4) : Bool := decide (x.n < y.n)
theorem beq (x y : W4) : (x == y) = (x.a == y.a && (x.b == y.b && (x.c == y.c && x.d == y.d))) := by
  rw [Bool.eq_iff_iff]
  cases x; cases y
  simp
end W4
namespace W4
end W4
end Go.Lh
end
section
namespace Go.Lh
namespace W4
end W4
end Go.Lh
end
section
namespace Go.Lh
section
variable {P : Program}
theorem callFunc_extern {f : FuncId} {fn : Func} {e : Array Value → Sem Value} (hf : P.funcs[f]? = some fn) (hname : (fn.name == "runtime.NumGoroutine") = false) (hb : fn.body.isNone = true) (hn : Extern.findNext fn = none) (he : Extern.find fn = some e)
    {args : Array Value} {w w' : World} {v : Value} (hr : (e args).run P w = .ok v w') : (callFunc f args).run P w = .ok (.value v) w' := by
  simp only [callFunc, Sem.run_bind, run_program, Result.andThen_ok, hf, hname, Bool.false_eq_true, if_false, hb, if_true, run_mark, hn, he, hr, Sem.run_pure]
structure ExtAt (P : Program) (f : FuncId) (g : List V → Option (Bool × V)) : Prop where
  ok : ∀ args v, g args = some (true, v) → ∀ (I : Nat → Prop) (w : World) (ρ : Ren) (args' : List Value), VsRel I w ρ args args' → ∃ v', (callFunc f ⟨args'⟩).run P w = .ok (.value v') w ∧ VRel I w ρ v v'
def extL : List (FuncId × (List V → Option (Bool × V))) → FuncId → List V → Option (Bool × V)
  | [], _, _ => none
  | (i, g) :: r, f, args => if Nat.beq i f then g args else extL r f args
theorem extL_nil : ExtOk P (extL []) := fun f args v h => by simp [extL] at h
theorem extL_cons {i : FuncId} {g : List V → Option (Bool × V)} {r : List (FuncId × (List V → Option (Bool × V)))} (h : ExtAt P i g) (hr : ExtOk P (extL r)) : ExtOk P (extL ((i, g) :: r)) := by
  intro f args v hx
  simp only [extL] at hx
  split at hx
  · rename_i e
    have := Nat.eq_of_beq_eq_true e
    subst this
    exact h.ok args v hx
  · exact hr f args v hx
end
end Go.Lh
namespace Go.Lh
def escX : List V → Option (Bool × V)
  | [x] => some (true, x)
  | _ => none
theorem escX_at {P : Program} {f : FuncId} {fn : Func} (hf : P.funcs[f]? = some fn) (hname : (fn.name == "runtime.NumGoroutine") = false) (hb : fn.body.isNone = true) (hn : Extern.findNext fn = none)
    (he : Extern.find fn = some Extern.AbiNoEscape.same) : ExtAt P f escX := by
  refine ⟨fun args v hx I w ρ args' ha => ?_⟩
  unfold escX at hx
  split at hx <;> simp only [Option.some.injEq, Prod.mk.injEq, true_and, reduceCtorEq] at hx
  subst hx
  cases ha with
  | cons _ _ x' _ _ h1 r =>
    cases r
    exact ⟨x', callFunc_extern hf hname hb hn he (Lib.run_noEscape w x'), h1⟩
end Go.Lh
end
section
namespace Go.Lh
section
variable {P : Program} {w : World} {r : Reach} {base : Nat}
theorem cells_okWide {t : TypeId} {fs : Array Field} {ts : List TypeId} {v : Value} (hs : P.underlying t = some (.struct fs)) (hct : P.cellTypes P.depth t = some ts) (hn : P.cellsOf t = ts.length) (h : Value.okWide P w r base t v) :
    ∃ l : List Value, v = .agg ⟨l⟩ ∧ l.length = ts.length ∧ ∀ (i : Nat) (u : TypeId), ts[i]? = some u → ∃ c, l[i]? = some c ∧ Cell.okWide P w r base u c := by
  simp only [Value.okWide, hs] at h
  obtain ⟨⟨l⟩, rfl, hsz, ts', hts, _, hc⟩ := h
  rw [hct] at hts
  cases hts
  have hl : l.length = ts.length := by rw [← hn]; simpa using hsz
  refine ⟨l, rfl, hl, fun i u hu => ?_⟩
  have hi : i < ts.length := (List.getElem?_eq_some_iff.1 hu).1
  have hli : l[i]? = some l[i] := List.getElem?_eq_getElem (by omega)
  refine ⟨_, hli, ?_⟩
  obtain ⟨u', h1, h2⟩ := hc i l[i] (by simp [hli])
  rw [Nat.mod_eq_of_lt hi, hu] at h1
  cases h1
  exact h2
theorem cell_u64 {I : Nat → Prop} {ρ : Ren} {u : TypeId} {c : Value} (hu : P.underlying u = some (.int .u64)) (h : Cell.okWide P w r base u c) : ∃ x : BitVec 64, VRel I w ρ (.u64 x) c := by
  simp only [Cell.okWide, Cell.ok, hu] at h
  cases c <;> simp only at h
  all_goals first | exact h.elim | skip
  rename_i k n
  obtain ⟨rfl, h1, h2⟩ := h
  exact ⟨_, vu64 (n := n) (by simp only [Lit.wf, Bool.and_eq_true, decide_eq_true_eq]; exact ⟨h1, h2⟩)⟩
theorem word_arg {I : Nat → Prop} {ρ : Ren} {t u : TypeId} {fs : Array Field} {v : Value} (hs : P.underlying t = some (.struct fs)) (hct : P.cellTypes P.depth t = some [u, u, u, u]) (hn : P.cellsOf t = 4) (hu : P.underlying u = some (.int .u64)) (h : Value.okWide P w r base t v) :
    ∃ x : W4, VRel I w ρ x.v v := by
  obtain ⟨l, rfl, hl, hc⟩ := cells_okWide hs hct hn h
  obtain ⟨c0, e0, k0⟩ := hc 0 u rfl
  obtain ⟨c1, e1, k1⟩ := hc 1 u rfl
  obtain ⟨c2, e2, k2⟩ := hc 2 u rfl
  obtain ⟨c3, e3, k3⟩ := hc 3 u rfl
  obtain ⟨x0, r0⟩ := cell_u64 (I := I) (ρ := ρ) hu k0
  obtain ⟨x1, r1⟩ := cell_u64 (I := I) (ρ := ρ) hu k1
  obtain ⟨x2, r2⟩ := cell_u64 (I := I) (ρ := ρ) hu k2
  obtain ⟨x3, r3⟩ := cell_u64 (I := I) (ρ := ρ) hu k3
  match l, hl with
  | [a, b, c, d], _ =>
    simp at e0 e1 e2 e3
    subst e0 e1 e2 e3
    exact ⟨⟨x0, x1, x2, x3⟩, .agg _ _ _ (.cons _ _ _ _ _ r0 (.cons _ _ _ _ _ r1 (.cons _ _ _ _ _ r2 (.cons _ _ _ _ _ r3 (.nil _)))))⟩
end
end Go.Lh
end
section
namespace Go.Lh
open Go.ChangeShapes Go.WideShapes
section
variable {H : Type} {enc : TypeId × Value → H} {P : Program} {w : World} {base : Nat} {spare : Nat → Bool} {held : Bool}
def TR (enc : TypeId × Value → H) (P : Program) (w : World) (base : Nat) (spare : Nat → Bool) (held : Bool) (t : TypeId) {α : Type} (F : α → List V) (Q : α → Prop) : Prop :=
  ∀ n cs x, DataW.trod enc P w base spare held n t cs = some x → ∃ a, (∀ ρ, VsRel (Old w) w ρ (F a) cs) ∧ Q a
def TRF (enc : TypeId × Value → H) (P : Program) (w : World) (base : Nat) (spare : Nat → Bool) (held : Bool) (fs : List Field) (o T : Nat) {α : Type} (F : α → List V) (Q : α → Prop) : Prop :=
  ∀ n (cs : List Value), cs.length = T → (∀ f ∈ fs, ∃ x, DataW.trod enc P w base spare held n f.type ((cs.drop f.offset).take (P.cellsOf f.type)) = some x) → ∃ a, (∀ ρ, VsRel (Old w) w ρ (F a) (cs.drop o)) ∧ Q a
theorem VsRel.one {I : Nat → Prop} {ρ : Ren} {v : V} {v' : Value} (h : VRel I w ρ v v') : VsRel I w ρ [v] [v'] := .cons _ _ _ _ _ h (.nil _)
theorem TR.u64 {t : TypeId} (ht : P.underlying t = some (.int .u64)) : TR enc P w base spare held t (fun x : BitVec 64 => [.u64 x]) (fun _ => True) := by
  intro n cs x h
  obtain ⟨m, rfl, _, hw⟩ := DataW.trod_int ht h
  exact ⟨_, fun ρ => .one (vu64 hw), trivial⟩
theorem TR.u8 {t : TypeId} (ht : P.underlying t = some (.int .u8)) : TR enc P w base spare held t (fun x : BitVec 8 => [.u8 x]) (fun _ => True) := by
  intro n cs x h
  obtain ⟨m, rfl, _, hw⟩ := DataW.trod_int ht h
  exact ⟨_, fun ρ => .one (vu8 hw), trivial⟩
theorem TR.i64 {t : TypeId} (ht : P.underlying t = some (.int .i64)) : TR enc P w base spare held t (fun x : Int => [.int .i64 x]) (fun x => x < 9223372036854775808 ∧ -9223372036854775808 ≤ x) := by
  intro n cs x h
  obtain ⟨m, rfl, _, hw⟩ := DataW.trod_int ht h
  exact ⟨m, fun ρ => .one (.int _ _ m rfl), int_lt hw, int_ge hw⟩
theorem TR.bool {t : TypeId} (ht : P.underlying t = some .bool) : TR enc P w base spare held t (fun x : Bool => [.bool x]) (fun _ => True) := by
  intro n cs x h
  obtain ⟨m, rfl, _⟩ := DataW.trod_bool ht h
  exact ⟨m, fun ρ => .one (.bool _ m), trivial⟩
theorem TR.str {t : TypeId} (ht : P.underlying t = some .string) : TR enc P w base spare held t (fun x : List (BitVec 8) => [.str x]) (fun x => x.length < 9223372036854775808) := by
  intro n cs x h
  obtain ⟨s, rfl, _, hs⟩ := DataW.trod_string ht h
  refine ⟨bytesOf s, fun ρ => .one (.str _ s), ?_⟩
  have : (bytesOf s).length = s.size := by unfold bytesOf; rw [List.length_map]; rfl
  show (bytesOf s).length < _
  rw [this]
  have e : maxLen = 9223372036854775807 := rfl
  omega
theorem TR.any {t : TypeId} (k : Nat) (hk : P.cellsOf t = k) (hl : ∀ n cs x, DataW.trod enc P w base spare held n t cs = some x → cs.length = k) : TR enc P w base spare held t (fun _ : Unit => List.replicate k .any) (fun _ => True) := by
  intro n cs x h
  refine ⟨(), fun ρ => ?_, trivial⟩
  have := hl n cs x h
  clear h hl hk
  induction cs generalizing k with
  | nil => simp at this; subst this; exact .nil _
  | cons c r ih => subst this; exact .cons _ _ _ _ _ (.any _ _) (ih _ rfl)
theorem TR.slice {t e : TypeId} {α : Type} [Inhabited α] {F : α → List V} {Q : α → Prop} (s : Nat) (ht : P.underlying t = some (.slice e)) (hs : P.cellsOf e = s) (h0 : 0 < s) (he : TR enc P w base spare held e F Q) :
    TR enc P w base spare held t (fun p : Nat × (Nat → α) => [.isl s p.1 (fun i j => (F (p.2 i)).getD j .any)]) (fun p => p.1 < 9223372036854775808 ∧ ∀ i, i < p.1 → Q (p.2 i)) := by
  intro n cs x h
  rcases Go.Deep.open_slice ht h with ⟨rfl, _⟩ | ⟨a, len, cap, m, n', D, Pl, rfl, hb, hl, hm, rfl, _, hi⟩
  · exact ⟨(0, fun _ => default), fun ρ => .one (.islz _ _ _ _ _ (fun _ => rfl)), by simp⟩
  · have hlt : len < 9223372036854775808 := by
      have e : maxLen = 9223372036854775807 := rfl
      omega
    by_cases hz : len = 0
    · subst hz
      exact ⟨(0, fun _ => default), fun ρ => .one (.islz _ _ _ _ _ (fun h => by cases h)), by simp⟩
    · have hle : len ≤ (if spare a.block then cap else len) := by split <;> omega
      have hel : ∀ i, i < len → ∃ q : α × List Value, w.cells? base (a.add (i * s)) s = some q.2 ∧ (∀ ρ, VsRel (Old w) w ρ (F q.1) q.2) ∧ Q q.1 := by
        intro i hil
        obtain ⟨cs', h1, h2⟩ := hi i (by omega)
        rw [hs] at h1
        obtain ⟨q, h3, h4⟩ := he _ _ _ h2
        exact ⟨(q, cs'), h1, h3, h4⟩
      obtain ⟨A, hA⟩ := Go.Deep.choose_lt hel
      obtain ⟨b, o, sp⟩ := a
      have hcell : ∀ i j, i < len → j < s → w.cell? ((Addr.mk b o sp).add (i * s + j)) = (A i).2[j]? := by
        intro i j hil hjs
        obtain ⟨_, hcl, hat⟩ := World.cells?_some (hA i hil).1
        rw [← hat j hjs, Go.Deep.add_add]
      have hlen : ∀ i, i < len → (A i).2.length = s := fun i hil => (World.cells?_some (hA i hil).1).2.1
      have hsome : ∀ i j, i < len → j < s → ∃ c, (A i).2[j]? = some c := fun i j hil hjs => ⟨_, List.getElem?_eq_getElem (by rw [hlen i hil]; exact hjs)⟩
      have hsp : sp = none := by
        obtain ⟨c, hc⟩ := hsome 0 0 (by omega) h0
        have := hcell 0 0 (by omega) h0
        rw [hc] at this
        simp only [Nat.zero_mul, Nat.add_zero, Addr.add, if_true] at this
        unfold World.cell? at this
        split at this
        · split at this
          · cases this
          · rename_i hh; cases sp with
            | none => rfl
            | some _ => simp at hh
        · cases this
      subst hsp
      have hlt2 : b < w.heap.size := by
        obtain ⟨c, hc⟩ := hsome 0 0 (by omega) h0
        have := hcell 0 0 (by omega) h0
        rw [hc] at this
        simp only [Nat.zero_mul, Nat.add_zero, Addr.add, if_true] at this
        unfold World.cell? at this
        split at this
        · rename_i e; exact (Array.getElem?_eq_some_iff.1 e).1
        · cases this
      refine ⟨(len, fun i => (A i).1), fun ρ => .one (.isl ρ s len _ b o cap (fun i j => (A i).2.getD j default) hlt2 hl (fun i j hil hjs => ?_) (fun i j hil hjs => ?_)), hlt, fun i hil => (hA i hil).2.2⟩
      · obtain ⟨c, hc⟩ := hsome i j hil hjs
        have := hcell i j hil hjs
        rw [hc, add_eq] at this
        rw [show o + i * s + j = o + (i * s + j) by omega, this, List.getD_eq_getElem?_getD, hc]; rfl
      · have hv := (hA i hil).2.1 (fun _ => none)
        have hlF : (F (A i).1).length = s := by rw [hv.length, hlen i hil]
        have hx : (F (A i).1)[j]? = some ((F (A i).1)[j]'(by omega)) := List.getElem?_eq_getElem (by omega)
        obtain ⟨c, h1, h2⟩ := hv.get j _ hx
        show VRel (Old w) w (fun _ => none) ((F (A i).1).getD j .any) ((A i).2.getD j default)
        rw [List.getD_eq_getElem?_getD, List.getD_eq_getElem?_getD, h1, hx]; exact h2
theorem TRF.nil (T : Nat) : TRF enc P w base spare held [] T T (fun _ : Unit => []) (fun _ => True) := by
  intro n cs hl _
  refine ⟨(), fun ρ => ?_, trivial⟩
  rw [List.drop_of_length_le (by omega)]
  exact .nil _
theorem TRF.cons {f : Field} {fs : List Field} {o T k : Nat} {α β : Type} {F : α → List V} {Q : α → Prop} {G : β → List V} {R : β → Prop} (ho : f.offset = o) (hk : P.cellsOf f.type = k) (h : TR enc P w base spare held f.type F Q)
    (hr : TRF enc P w base spare held fs (o + k) T G R) : TRF enc P w base spare held (f :: fs) o T (fun p : α × β => F p.1 ++ G p.2) (fun p => Q p.1 ∧ R p.2) := by
  intro n cs hl hx
  obtain ⟨x, h1⟩ := hx f (by simp)
  rw [ho, hk] at h1
  obtain ⟨a, ha, hq⟩ := h _ _ _ h1
  obtain ⟨b, hb, hR⟩ := hr n cs hl (fun g hg => hx g (by simp [hg]))
  refine ⟨(a, b), fun ρ => ?_, hq, hR⟩
  have e : cs.drop o = (cs.drop o).take k ++ cs.drop (o + k) := by
    rw [← List.drop_drop, List.take_append_drop]
  rw [e]
  exact VsRel.append (hb ρ) (ha ρ)
theorem TR.map {t : TypeId} {α β : Type} {F : α → List V} {Q : α → Prop} {G : β → List V} (m : α → β) (hm : ∀ a ρ cs, VsRel (Old w) w ρ (F a) cs → VsRel (Old w) w ρ (G (m a)) cs) (h : TR enc P w base spare held t F Q) : TR enc P w base spare held t G (fun b => ∃ a, Q a ∧ m a = b) := by
  intro n cs x hx
  obtain ⟨a, ha, hq⟩ := h n cs x hx
  exact ⟨m a, fun ρ => hm a ρ cs (ha ρ), a, hq, rfl⟩
theorem TR.struct {t : TypeId} {fs : Array Field} {l : List Field} {T : Nat} {α : Type} {F : α → List V} {Q : α → Prop} (hs : P.underlying t = some (.struct fs)) (hl : fs.toList = l) (hT : P.cellsOf t = T) (h : TRF enc P w base spare held l 0 T F Q) : TR enc P w base spare held t F Q := by
  intro n cs x hx
  obtain ⟨xs, m, _, _, hlen, hxl, hf⟩ := DataW.trod_struct hs hx
  refine h m cs (by rw [← hT]; exact hlen) (fun f hfm => ?_)
  rw [← hl] at hfm
  obtain ⟨i, hi, hif⟩ := List.mem_iff_getElem.1 hfm
  have h1 : fs[i]? = some f := by rw [← Array.getElem?_toList, List.getElem?_eq_getElem hi, hif]
  have h2 : i < xs.length := by rw [hxl]; exact (Array.getElem?_eq_some_iff.1 h1).1
  exact ⟨_, (hf i f h1).trans (List.getElem?_eq_getElem h2)⟩
end
end Go.Lh
end
section
namespace Go.Lh
open Go.ChangeShapes Go.WideShapes
section
variable {H : Type} {enc : TypeId × Value → H} {P : Program} {w : World} {base : Nat} {spare : Nat → Bool} {held : Bool}
theorem weights_all {e : TypeId} : ∀ {l : List (DataW H)} {d : DataW H}, d ∈ l → ∀ n ∈ d.weights P e, n ∈ DataW.weightsAll P e l
  | d0 :: r, d, hd, n, hn => by
    simp only [DataW.weightsAll, List.mem_append]
    rcases List.mem_cons.1 hd with rfl | hd
    · exact .inl hn
    · exact .inr (weights_all hd n hn)
def Zd (P : Program) (t : TypeId) (d : DataW H) : Prop := ∀ k ∈ d.weights P t, k ≤ reachBytes
def TZ (enc : TypeId × Value → H) (P : Program) (w : World) (base : Nat) (spare : Nat → Bool) (held : Bool) (t : TypeId) {α : Type} (F : α → List V) (Q : α → Prop) : Prop :=
  ∀ n cs x, DataW.trod enc P w base spare held n t cs = some x → Zd P t x.1 → ∃ a, (∀ ρ, VsRel (Old w) w ρ (F a) cs) ∧ Q a
def TZF (enc : TypeId × Value → H) (P : Program) (w : World) (base : Nat) (spare : Nat → Bool) (held : Bool) (fs : List Field) (o T : Nat) {α : Type} (F : α → List V) (Q : α → Prop) : Prop :=
  ∀ n (cs : List Value), cs.length = T → (∀ f ∈ fs, ∃ x, DataW.trod enc P w base spare held n f.type ((cs.drop f.offset).take (P.cellsOf f.type)) = some x ∧ Zd P f.type x.1) → ∃ a, (∀ ρ, VsRel (Old w) w ρ (F a) (cs.drop o)) ∧ Q a
theorem TZ.of {t : TypeId} {α : Type} {F : α → List V} {Q : α → Prop} (h : TR enc P w base spare held t F Q) : TZ enc P w base spare held t F Q := fun n cs x hx _ => h n cs x hx
theorem TZ.str {t : TypeId} (ht : P.underlying t = some .string) : TZ enc P w base spare held t (fun x : List (BitVec 8) => [.str x]) (fun x => x.length ≤ reachBytes) := by
  intro n cs x h hZ
  obtain ⟨s, rfl, rfl, hs⟩ := DataW.trod_string ht h
  refine ⟨bytesOf s, fun ρ => .one (.str _ s), ?_⟩
  have := hZ _ (by simp [DataW.weights]; rfl)
  show (bytesOf s).length ≤ reachBytes
  unfold bytesOf
  rw [List.length_map]
  simpa using this
theorem TZ.slice {t e : TypeId} {α : Type} [Inhabited α] {F : α → List V} {Q : α → Prop} (s : Nat) (ht : P.underlying t = some (.slice e)) (hs : P.cellsOf e = s) (h0 : 0 < s) (he : TZ enc P w base spare held e F Q) :
    TZ enc P w base spare held t (fun p : Nat × (Nat → α) => [.isl s p.1 (fun i j => (F (p.2 i)).getD j .any)]) (fun p => p.1 < 9223372036854775808 ∧ ∀ i, i < p.1 → Q (p.2 i)) := by
  intro n cs x h hZ
  rcases Go.Deep.open_slice ht h with ⟨rfl, _⟩ | ⟨a, len, cap, m, n', D, Pl, rfl, hb, hl, hm, rfl, hxe, hi⟩
  · exact ⟨(0, fun _ => default), fun ρ => .one (.islz _ _ _ _ _ (fun _ => rfl)), by simp⟩
  · have hlt : len < 9223372036854775808 := by
      have e : maxLen = 9223372036854775807 := rfl
      omega
    by_cases hz : len = 0
    · subst hz
      exact ⟨(0, fun _ => default), fun ρ => .one (.islz _ _ _ _ _ (fun h => by cases h)), by simp⟩
    · have hle : len ≤ (if spare a.block then cap else len) := by split <;> omega
      have hel : ∀ i, i < len → ∃ q : α × List Value, w.cells? base (a.add (i * s)) s = some q.2 ∧ (∀ ρ, VsRel (Old w) w ρ (F q.1) q.2) ∧ Q q.1 := by
        intro i hil
        obtain ⟨cs', h1, h2⟩ := hi i (by omega)
        rw [hs] at h1
        obtain ⟨q, h3, h4⟩ := he _ _ _ h2 (fun k hk => hZ k (by
          rw [hxe]
          show _ ∈ DataW.weights P t (DataW.slice _ _)
          rw [DataW.weights, ht]
          simp only [List.mem_cons, List.mem_append]
          exact .inr (.inl (weights_all (List.mem_map.2 ⟨i, List.mem_range.2 hil, rfl⟩) k hk))))
        exact ⟨(q, cs'), h1, h3, h4⟩
      obtain ⟨A, hA⟩ := Go.Deep.choose_lt hel
      obtain ⟨b, o, sp⟩ := a
      have hcell : ∀ i j, i < len → j < s → w.cell? ((Addr.mk b o sp).add (i * s + j)) = (A i).2[j]? := by
        intro i j hil hjs
        obtain ⟨_, hcl, hat⟩ := World.cells?_some (hA i hil).1
        rw [← hat j hjs, Go.Deep.add_add]
      have hlen : ∀ i, i < len → (A i).2.length = s := fun i hil => (World.cells?_some (hA i hil).1).2.1
      have hsome : ∀ i j, i < len → j < s → ∃ c, (A i).2[j]? = some c := fun i j hil hjs => ⟨_, List.getElem?_eq_getElem (by rw [hlen i hil]; exact hjs)⟩
      have hsp : sp = none := by
        obtain ⟨c, hc⟩ := hsome 0 0 (by omega) h0
        have := hcell 0 0 (by omega) h0
        rw [hc] at this
        simp only [Nat.zero_mul, Nat.add_zero, Addr.add, if_true] at this
        unfold World.cell? at this
        split at this
        · split at this
          · cases this
          · rename_i hh; cases sp with
            | none => rfl
            | some _ => simp at hh
        · cases this
      subst hsp
      have hlt2 : b < w.heap.size := by
        obtain ⟨c, hc⟩ := hsome 0 0 (by omega) h0
        have := hcell 0 0 (by omega) h0
        rw [hc] at this
        simp only [Nat.zero_mul, Nat.add_zero, Addr.add, if_true] at this
        unfold World.cell? at this
        split at this
        · rename_i e; exact (Array.getElem?_eq_some_iff.1 e).1
        · cases this
      refine ⟨(len, fun i => (A i).1), fun ρ => .one (.isl ρ s len _ b o cap (fun i j => (A i).2.getD j default) hlt2 hl (fun i j hil hjs => ?_) (fun i j hil hjs => ?_)), hlt, fun i hil => (hA i hil).2.2⟩
      · obtain ⟨c, hc⟩ := hsome i j hil hjs
        have := hcell i j hil hjs
        rw [hc, add_eq] at this
        rw [show o + i * s + j = o + (i * s + j) by omega, this, List.getD_eq_getElem?_getD, hc]; rfl
      · have hv := (hA i hil).2.1 (fun _ => none)
        have hlF : (F (A i).1).length = s := by rw [hv.length, hlen i hil]
        have hx : (F (A i).1)[j]? = some ((F (A i).1)[j]'(by omega)) := List.getElem?_eq_getElem (by omega)
        obtain ⟨c, h1, h2⟩ := hv.get j _ hx
        show VRel (Old w) w (fun _ => none) ((F (A i).1).getD j .any) ((A i).2.getD j default)
        rw [List.getD_eq_getElem?_getD, List.getD_eq_getElem?_getD, h1, hx]; exact h2
theorem TZF.nil (T : Nat) : TZF enc P w base spare held [] T T (fun _ : Unit => []) (fun _ => True) := by
  intro n cs hl _
  refine ⟨(), fun ρ => ?_, trivial⟩
  rw [List.drop_of_length_le (by omega)]
  exact .nil _
theorem TZF.cons {f : Field} {fs : List Field} {o T k : Nat} {α β : Type} {F : α → List V} {Q : α → Prop} {G : β → List V} {R : β → Prop} (ho : f.offset = o) (hk : P.cellsOf f.type = k) (h : TZ enc P w base spare held f.type F Q)
    (hr : TZF enc P w base spare held fs (o + k) T G R) : TZF enc P w base spare held (f :: fs) o T (fun p : α × β => F p.1 ++ G p.2) (fun p => Q p.1 ∧ R p.2) := by
  intro n cs hl hx
  obtain ⟨x, h1, hz⟩ := hx f (by simp)
  rw [ho, hk] at h1
  obtain ⟨a, ha, hq⟩ := h _ _ _ h1 hz
  obtain ⟨b, hb, hR⟩ := hr n cs hl (fun g hg => hx g (by simp [hg]))
  refine ⟨(a, b), fun ρ => ?_, hq, hR⟩
  have e : cs.drop o = (cs.drop o).take k ++ cs.drop (o + k) := by
    rw [← List.drop_drop, List.take_append_drop]
  rw [e]
  exact VsRel.append (hb ρ) (ha ρ)
theorem TZ.struct {t : TypeId} {fs : Array Field} {l : List Field} {T : Nat} {α : Type} {F : α → List V} {Q : α → Prop} (hs : P.underlying t = some (.struct fs)) (hl : fs.toList = l) (hT : P.cellsOf t = T) (h : TZF enc P w base spare held l 0 T F Q) : TZ enc P w base spare held t F Q := by
  intro n cs x hx hZ
  obtain ⟨xs, m, _, rfl, hlen, hxl, hf⟩ := DataW.trod_struct hs hx
  refine h m cs (by rw [← hT]; exact hlen) (fun f hfm => ?_)
  rw [← hl] at hfm
  obtain ⟨i, hi, hif⟩ := List.mem_iff_getElem.1 hfm
  have h1 : fs[i]? = some f := by rw [← Array.getElem?_toList, List.getElem?_eq_getElem hi, hif]
  have h2 : i < xs.length := by rw [hxl]; exact (Array.getElem?_eq_some_iff.1 h1).1
  refine ⟨_, (hf i f h1).trans (List.getElem?_eq_getElem h2), fun k hk => hZ k ?_⟩
  simp only [DataW.weights, hs]
  exact DataW.weights_mem_each (j := i) (t := f.type) (d := (xs[i]).1) (by rw [List.getElem?_map, Array.getElem?_toList, h1]; rfl) (by rw [List.getElem?_map, List.getElem?_eq_getElem h2]; rfl) k hk
end
end Go.Lh
end
section
namespace Go.Lh
def readW : List V → Heap → Option W4 := fun args h => match args, h with
  | [.agg [.u64 a, .u64 b, .u64 c, .u64 d]], [] => some ⟨a, b, c, d⟩
  | _, _ => none
structure WW where
  x : W4
  y : W4
structure WI where
  x : W4
  n : Int
structure UU where
  x : BitVec 64
  y : BitVec 64
def always {α : Type} : α → Bool := fun _ => true
def noHeap {α : Type} : α → Heap := fun _ => []
section
variable {P : Program} {i : FuncId}
def ctW (f : W4 → V) := ct readW always (fun a => .ret (f a)) noHeap
theorem ctW_ok {f : W4 → V} (hf : ∀ x : W4, LFn P i [x.v] [] (.ret (f x)) []) : ∀ args h fin h', ctW f args h = some (true, fin, h') → LFn P i args h fin h' := by
  refine ct_ok (fun a => [a.v]) (fun _ => []) ?_ (fun a _ => hf a)
  intro args h a e
  unfold readW at e
  split at e <;> cases e
  exact ⟨rfl, rfl⟩
end
end Go.Lh
end
section
namespace Go.Lh
namespace W4
def lo (x : W4) : Nat → BitVec 64
  | 0 => x.d
  | 1 => x.c
  | 2 => x.b
  | 3 => x.a
  | _ => 0
def shl (x : W4) (n : Nat) : W4 := of (x.bv <<< n)
def shr (x : W4) (n : Nat) : W4 := of (x.bv >>> n)
end W4
end Go.Lh
end
