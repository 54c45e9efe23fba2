/- The functions that this law reaches: what each comes to. -/
import Derived.Test.YtajbaocfdlopbaaCMPlays1
set_option linter.unusedSimpArgs false
set_option linter.unusedVariables false
section
open Go Go.Lh
namespace Go.Proofs.Ytajbaocfdlopbaa.K
noncomputable section
set_option maxRecDepth 100000
inductive GS where
  | nil
  | one (k : Nat) (B : List (BitVec 8))
  | mov (k : Nat) (B : List (BitVec 8))
def GS.h : GS → Heap
  | .nil => [.vals [.nilSl]]
  | .one k B => [.vals [.sl 1 0 1 k none], .buf 5 B]
  | .mov k B => [.vals [.sl 2 0 1 k none], .dead, .buf 5 B]
def GS.B : GS → List (BitVec 8)
  | .nil => []
  | .one _ B => B
  | .mov _ B => B
def GS.k : GS → Nat
  | .nil => 0
  | .one k _ => k
  | .mov k _ => k
structure RGS where
  g : GS
  s : BitVec 64
  n : BitVec 64
  ok : Bool
def rg_S (a : RGS) : Fr × Heap := ([(0,.ptr 0 0),(2,.u64 a.s),(6,.u64 a.n),(7,.bool a.ok)], a.g.h)
def readGS : Heap → Option GS := fun h => match h with
  | [.vals [.nilSl]] => some .nil
  | [.vals [.sl 1 0 1 k none], .buf 5 B] => some (.one k B)
  | [.vals [.sl 2 0 1 k none], .dead, .buf 5 B] => some (.mov k B)
  | _ => none
def rg_read : Fr → Heap → Option RGS := fun f h => match f, readGS h with
  | [(0,.ptr 0 0),(2,.u64 s),(6,.u64 n),(7,.bool ok)], some g => some ⟨g, s, n, ok⟩
  | _, _ => none
theorem rg_rd : ∀ f h a, rg_read f h = some a → (f, h) = rg_S a := by
  intro f h a e
  unfold rg_read at e
  split at e <;> cases e
  rename_i hg
  unfold readGS at hg
  split at hg <;> cases hg <;> rfl
def rg_P (a : RGS) : Prop := a.g.k = a.g.B.length ∧ a.g.k % 32 = 0 ∧ a.n.toNat ≤ 16777216 ∧ a.g.k < 1099511627776
def rg1_P (a : RGS) : Prop := rg_P a ∧ (match a.g with | .mov _ _ => False | _ => True)
def rg2_P (a : RGS) : Prop := rg_P a ∧ (match a.g with | .nil => False | _ => True)
def rg1_ok (a : RGS) : Bool := @decide (rg1_P a) (Classical.propDecidable _)
theorem rg1_ok_iff {a : RGS} : rg1_ok a = true ↔ rg1_P a := by simp [rg1_ok]
def rg2_ok (a : RGS) : Bool := @decide (rg2_P a) (Classical.propDecidable _)
theorem rg2_ok_iff {a : RGS} : rg2_ok a = true ↔ rg2_P a := by simp [rg2_ok]
def oneH (B : List (BitVec 8)) : Heap := [.vals [.sl 1 0 1 B.length none], .buf 5 B]
def rg1_E (a : RGS) : Tr (X × Fr × Heap) := match a.g with
  | .nil => .br (rgC 0 a.s a.n a.ok) (.leaf (.exit 0, [], newH (rgL [] a.s a.n a.ok))) (.leaf (.exit 0, [], [.vals [.nilSl]]))
  | .one _ B => .leaf (.exit 0, [], newH (rgL B a.s a.n a.ok))
  | .mov _ _ => .no
def rg2_E (a : RGS) : Tr (X × Fr × Heap) := match a.g with
  | .one k B => .br (rgC k a.s a.n a.ok) (.leaf (.exit 0, [], movH (rgL B a.s a.n a.ok))) (.leaf (.exit 0, [], [.vals [.sl 1 0 1 k none], .buf 5 B]))
  | .mov _ B => .leaf (.exit 0, [], movH (rgL B a.s a.n a.ok))
  | .nil => .no
def rg1_s : SmT := whT 1 [0,2,6,7] rg_read rg1_ok rg1_E
def rg2_s : SmT := whT 1 [0,2,6,7] rg_read rg2_ok rg2_E
theorem rgL_same {B : List (BitVec 8)} {s n : BitVec 64} {ok : Bool} (h : rgC B.length s n ok = false) : rgL B s n ok = B := by unfold rgL; rw [h]; rfl
theorem z8 : BitVec.ofInt 8 0 = 0#8 := rfl
theorem ofInt_lt {k : Nat} {n : BitVec 64} (h : k < 18446744073709551616) : (BitVec.ofInt 64 (k : Int) < n) ↔ k < n.toNat := by rw [BitVec.lt_def, toNat_ofInt_nat h]
/-- one round, of a memory that is there -/
theorem rg_round {a : RGS} {q : X × Fr × Heap} {E : RGS → Tr (X × Fr × Heap)} {ok : RGS → Bool} {k : Nat} {B : List (BitVec 8)} {s n : BitVec 64} {b : Bool} {h1 : Heap} {mk : Nat → List (BitVec 8) → GS}
    (hk : k = B.length) (h32 : k % 32 = 0) (hn : n.toNat ≤ 16777216) (hkk : k < 1099511627776)
    (hmk : ∀ k B, (mk k B).h = (mk k B).h) (hok : ∀ B' : List (BitVec 8), B'.length % 32 = 0 → B'.length < 1099511627776 → ok ⟨mk B'.length B', s, n, b⟩ = true)
    (hst : rgC k s n b = true → (E ⟨mk (k + 32) (B ++ List.replicate 32 0), s, n, b⟩).is q) (hend : rgC k s n b = false → (X.exit 0, ([] : Fr), h1) = q) (hmu : a.n.toNat - a.g.k = n.toNat - k)
    {t : Tr (X × Fr × Heap)} (ht : t = Tr.chk true (Tr.br b (Tr.chk true (Tr.br (decide (BitVec.ofInt 64 0 < s)) (Tr.chk true (Tr.br (decide (BitVec.ofInt 64 (k : Int) < n))
      (Tr.chk (decide (0 + k * 1 ≤ B.length) && (decide (k + 32 ≤ 70368744177664) && decide ((2 * (k + 32) + 1024) * 1 ≤ 281474976710656) && true) && true && true)
        (Tr.leaf (X.normal, [(0,.ptr 0 0),(2,.u64 s),(6,.u64 n),(7,.bool b)], (mk (k + 32) (List.take (k * 1) B ++ List.replicate 32 (BitVec.ofInt 8 0))).h)))
      (Tr.leaf (X.exit 0, [], h1)))) (Tr.chk true (Tr.leaf (X.exit 0, [], h1))))) (Tr.chk true (Tr.leaf (X.exit 0, [], h1))))) (hkm : ∀ k B, (mk k B).k = k) :
    t.wp fun r => (r.1 = .normal ∧ ∃ a', r.2 = rg_S a' ∧ ok a' = true ∧ a'.n.toNat - a'.g.k < a.n.toNat - a.g.k ∧ (E a').is q) ∨ (r.1 ≠ .normal ∧ r = q) := by
  subst ht
  subst hk
  simp only [wp_chk_true, wp_br, wp_chk, wp_leaf, decide_eq_true_eq, decide_eq_false_iff_not, ofInt_lt (show B.length < 18446744073709551616 by omega), true_and, Bool.and_true, Bool.and_eq_true, Nat.mul_one, Nat.zero_add]
  refine ⟨fun b1 => ⟨fun b2 => ⟨fun b3 => ⟨⟨by omega, by omega, by omega⟩, .inl ?_⟩, fun b3 => .inr ⟨fun h => (by cases h), hend ?_⟩⟩, fun b2 => .inr ⟨fun h => (by cases h), hend ?_⟩⟩, fun b1 => .inr ⟨fun h => (by cases h), hend ?_⟩⟩
  · have hl : (B ++ List.replicate 32 (0 : BitVec 8)).length = B.length + 32 := by simp
    refine ⟨⟨mk (B.length + 32) (B ++ List.replicate 32 0), s, n, b⟩, ?_, ?_, ?_, hst (rgC_iff.2 ⟨b1, b2, b3⟩)⟩
    · rw [List.take_length, z8]; rfl
    · have := hok (B ++ List.replicate 32 0) (by rw [hl]; omega) (by rw [hl]; omega)
      rw [hl] at this; exact this
    · rw [hmu, hkm]; show n.toNat - (B.length + 32) < _; omega
  · rw [Bool.eq_false_iff, Ne, rgC_iff]; exact fun h => b3 h.2.2
  · rw [Bool.eq_false_iff, Ne, rgC_iff]; exact fun h => b2 h.2.1
  · rw [Bool.eq_false_iff, Ne, rgC_iff]; intro h; rw [b1] at h; cases h.1
theorem rg1_at : SmAtT Pr Go.Proofs.Try.f70 1 rg1_s 0 := by
  refine whT_at (on := [0,2,6,7]) (off := []) (fuel := 100) (L := noLoopsT) OA1N_sound mixed rg_S (fun a => a.n.toNat - a.g.k) (by kernel_rfl) (by kernel_rfl) (by kernel_rfl) LoopsOk.noneT rg_rd ?_
  rintro ⟨g, s, n, b⟩ q hok hq
  obtain ⟨⟨h1, h2, h3, h4⟩, h5⟩ := rg1_ok_iff.1 hok
  cases g with
  | mov k B => exact h5.elim
  | nil =>
    simp only [rg1_E, Tr.is_br, Tr.is_leaf] at hq
    refine Tr.wp_prune (rg1_x s n b) ?_
    simp only [wp_chk_true, wp_br, wp_chk, wp_leaf, decide_eq_true_eq, decide_eq_false_iff_not, true_and, fits_lt]
    refine ⟨fun b1 => ⟨fun b2 => ⟨fun b3 => .inl ?_, fun b3 => .inr ⟨fun h => (by cases h), ?_⟩⟩, fun b2 => .inr ⟨fun h => (by cases h), ?_⟩⟩, fun b1 => .inr ⟨fun h => (by cases h), ?_⟩⟩
    · have hc : rgC 0 s n b = true := rgC_iff.2 ⟨b1, fits_lt.2 b2, b3⟩
      rw [hc, if_pos rfl] at hq
      refine ⟨⟨.one 32 (List.replicate 32 0), s, n, b⟩, ?_, rg1_ok_iff.2 ⟨⟨?_, ?_, h3, ?_⟩, trivial⟩, ?_, ?_⟩
      · rw [z8]; rfl
      · exact List.length_replicate.symm
      · show 32 % 32 = 0; rfl
      · show 32 < _; omega
      · show n.toNat - 32 < n.toNat - 0; omega
      · simp only [rg1_E, Tr.is_leaf]
        have := rgL_step (B := []) hc rfl
        rw [List.nil_append] at this
        rw [this]; exact hq
    · have hc : rgC 0 s n b = false := by rw [Bool.eq_false_iff, Ne, rgC_iff]; exact fun h => b3 h.2.2
      rw [hc] at hq; exact hq
    · have hc : rgC 0 s n b = false := by rw [Bool.eq_false_iff, Ne, rgC_iff]; exact fun h => b2 (fits_lt.1 h.2.1)
      rw [hc] at hq; exact hq
    · have hc : rgC 0 s n b = false := by rw [Bool.eq_false_iff, Ne, rgC_iff]; intro h; rw [b1] at h; cases h.1
      rw [hc] at hq; exact hq
  | one k B =>
    simp only [rg1_E, Tr.is_leaf] at hq
    simp only [GS.k, GS.B] at h1 h2 h4
    refine Tr.wp_prune (rg2_x s n b k B) (rg_round (E := rg1_E) (ok := rg1_ok) (mk := GS.one) (k := k) (B := B) (s := s) (n := n) (b := b) (h1 := [.vals [.sl 1 0 1 k none], .buf 5 B]) h1 h2 h3 h4 (fun _ _ => rfl) (fun B' q1 q2 => rg1_ok_iff.2 ⟨⟨rfl, q1, h3, q2⟩, trivial⟩) (fun hc => ?_) (fun hc => ?_) rfl rfl (fun _ _ => rfl))
    · subst h1
      simp only [rg1_E, Tr.is_leaf]
      rw [rgL_step hc h2]; exact hq
    · subst h1
      rw [rgL_same hc] at hq; exact hq
theorem rg2_at : SmAtT Pr Go.Proofs.Try.f70 2 rg2_s 0 := by
  refine whT_at (on := [0,2,6,7]) (off := []) (fuel := 100) (L := noLoopsT) OA1N_sound mixed rg_S (fun a => a.n.toNat - a.g.k) (by kernel_rfl) (by kernel_rfl) (by kernel_rfl) LoopsOk.noneT rg_rd ?_
  rintro ⟨g, s, n, b⟩ q hok hq
  obtain ⟨⟨h1, h2, h3, h4⟩, h5⟩ := rg2_ok_iff.1 hok
  cases g with
  | nil => exact h5.elim
  | one k B =>
    simp only [rg2_E, Tr.is_br, Tr.is_leaf] at hq
    simp only [GS.k, GS.B] at h1 h2 h4
    refine Tr.wp_prune (rg3_x s n b k B) (rg_round (E := rg2_E) (ok := rg2_ok) (mk := GS.mov) (k := k) (B := B) (s := s) (n := n) (b := b) (h1 := [.vals [.sl 1 0 1 k none], .buf 5 B]) h1 h2 h3 h4 (fun _ _ => rfl) (fun B' q1 q2 => rg2_ok_iff.2 ⟨⟨rfl, q1, h3, q2⟩, trivial⟩) (fun hc => ?_) (fun hc => ?_) rfl rfl (fun _ _ => rfl))
    · subst h1
      rw [hc, if_pos rfl] at hq
      simp only [rg2_E, Tr.is_leaf]
      rw [rgL_step hc h2]; exact hq
    · rw [hc] at hq; exact hq
  | mov k B =>
    simp only [rg2_E, Tr.is_leaf] at hq
    simp only [GS.k, GS.B] at h1 h2 h4
    refine Tr.wp_prune (rg4_x s n b k B) (rg_round (E := rg2_E) (ok := rg2_ok) (mk := GS.mov) (k := k) (B := B) (s := s) (n := n) (b := b) (h1 := [.vals [.sl 2 0 1 k none], .dead, .buf 5 B]) h1 h2 h3 h4 (fun _ _ => rfl) (fun B' q1 q2 => rg2_ok_iff.2 ⟨⟨rfl, q1, h3, q2⟩, trivial⟩) (fun hc => ?_) (fun hc => ?_) rfl rfl (fun _ _ => rfl))
    · subst h1
      simp only [rg2_E, Tr.is_leaf]
      rw [rgL_step hc h2]; exact hq
    · subst h1
      rw [rgL_same hc] at hq; exact hq
theorem rg1_Ls : LoopsOk Pr Go.Proofs.Try.f70 1 (smLT 1 [rg1_s]).o := LoopsOk.one (by kernel_rfl) rg1_at
theorem rg2_Ls : LoopsOk Pr Go.Proofs.Try.f70 2 (smLT 2 [rg2_s]).o := LoopsOk.one (by kernel_rfl) rg2_at
theorem rgrow0_x (a : BitVec 64) (s : BitVec 64) : Tr.prune (Tr.Sh.any.both Tr.Sh.any)
  (execBF Pr OA1 (smLT (1 : Nat) [rg1_s]) (100 : Nat) Go.Proofs.Try.f70 [V.ptr (0 : Nat) (0 : Nat), V.u64 a, V.u64 s]
  [Blk.vals [V.nilSl]]) =
  Tr.chk (rg1_ok (RGS.mk GS.nil s (bif fitB a s then a + s else BitVec.ofInt (64 : Nat) (0 : Int)) (fitB a s)))
  (Tr.br (rgC (0 : Nat) s (bif fitB a s then a + s else BitVec.ofInt (64 : Nat) (0 : Int)) (fitB a s))
    (Tr.chk true
      (Tr.leaf
        (Fin.ret (V.tup []),
          [Blk.vals
              [V.sl (1 : Nat) (0 : Nat) (1 : Nat)
                  (rgL [] s (bif fitB a s then a + s else BitVec.ofInt (64 : Nat) (0 : Int)) (fitB a s)).length none],
            Blk.buf (5 : Nat) (rgL [] s (bif fitB a s then a + s else BitVec.ofInt (64 : Nat) (0 : Int)) (fitB a s))])))
    (Tr.chk true (Tr.leaf (Fin.ret (V.tup []), [Blk.vals [V.nilSl]])))) := by kernel_rfl
theorem rgrow1_x (a : BitVec 64) (s : BitVec 64) (n : Nat) (B : List (BitVec 8)) : Tr.prune (Tr.Sh.any.both
  Tr.Sh.any)
  (execBF Pr OA1 (smLT (2 : Nat) [rg2_s]) (100 : Nat) Go.Proofs.Try.f70 [V.ptr (0 : Nat) (0 : Nat), V.u64 a, V.u64 s]
  [Blk.vals [V.sl (1 : Nat) (0 : Nat) (1 : Nat) n none], Blk.buf (5 : TypeId) B]) =
  Tr.chk (rg2_ok (RGS.mk (GS.one n B) s (bif fitB a s then a + s else BitVec.ofInt (64 : Nat) (0 : Int)) (fitB a s)))
  (Tr.br (rgC n s (bif fitB a s then a + s else BitVec.ofInt (64 : Nat) (0 : Int)) (fitB a s))
    (Tr.chk true
      (Tr.leaf
        (Fin.ret (V.tup []),
          [Blk.vals
              [V.sl (2 : Nat) (0 : Nat) (1 : Nat)
                  (rgL B s (bif fitB a s then a + s else BitVec.ofInt (64 : Nat) (0 : Int)) (fitB a s)).length none],
            Blk.dead,
            Blk.buf (5 : Nat) (rgL B s (bif fitB a s then a + s else BitVec.ofInt (64 : Nat) (0 : Int)) (fitB a s))])))
    (Tr.chk true
      (Tr.leaf
        (Fin.ret (V.tup []),
          [Blk.vals [V.sl (1 : Nat) (0 : Nat) (1 : Nat) n none], Blk.buf (5 : Nat) B])))) := by kernel_rfl
end
end Go.Proofs.Ytajbaocfdlopbaa.K
end
section
open Go Go.Lh
namespace Go.Proofs.Ytajbaocfdlopbaa.K
noncomputable section
set_option maxRecDepth 100000
def endN (a s : BitVec 64) : BitVec 64 := bif fitB a s then a + s else BitVec.ofInt 64 0
theorem endN_t {a s : BitVec 64} (h : fitB a s = true) : (endN a s).toNat = a.toNat + s.toNat := by
  rw [endN, h, cond_true, sum_nat (fitB_iff.1 h)]
theorem endN_le (a s : BitVec 64) : (endN a s).toNat ≤ 16777216 := by
  cases h : fitB a s with
  | true => rw [endN_t h]; exact fitB_iff.1 h
  | false => rw [endN, h, cond_false]; decide
theorem rgC_eq {L : Nat} (h32 : L % 32 = 0) (a s : BitVec 64) : rgC L s (endN a s) (fitB a s) = isGrow L a s := by
  cases h : fitB a s with
  | false => rw [isGrow_false1 h]; rfl
  | true =>
    rw [Bool.eq_iff_iff, rgC_iff, isGrow_iff, endN_t h]
    have hf := fitB_iff.1 h
    have h2 : BitVec.ofInt 64 0 < s ↔ 0 < s.toNat := fits_lt
    rw [h2]
    unfold upN
    constructor
    · rintro ⟨_, h3, h4⟩; omega
    · rintro h3; exact ⟨rfl, by omega, by omega⟩
theorem rgL_eq {B : List (BitVec 8)} (h32 : B.length % 32 = 0) (a s : BitVec 64) : rgL B s (endN a s) (fitB a s) = growL B a s := by
  unfold rgL growL
  rw [rgC_eq h32]
  split
  · rename_i h
    have hf := (isGrow_iff.1 h).1
    rw [endN_t (fitB_iff.2 hf)]
    rfl
  · rfl
/-- a memory has whole words -/
def m32 (n : Nat) : Bool := @decide (n % 32 = 0 ∧ n < 1099511627776) (Classical.propDecidable _)
theorem m32_iff {n : Nat} : m32 n = true ↔ (n % 32 = 0 ∧ n < 1099511627776) := by simp [m32]
theorem rgrow_nil (a s : BitVec 64) : ∀ q, (grow_f .nil a s).is q → LFn Pr 70 [.ptr 0 0, .u64 a, .u64 s] [.vals [.nilSl]] q.1 q.2 := by
  refine fnTT OA1_sound mixed (by kernel_rfl) rg1_Ls (rgrow0_x a s) ?_
  intro q hq
  simp only [grow_f, Tr.is_br, Tr.is_leaf] at hq
  have e1 := rgC_eq (L := 0) rfl a s
  have e2 := rgL_eq (B := []) rfl a s
  simp only [endN] at e1 e2
  rw [e1, e2]
  refine wp_chk.2 ⟨rg1_ok_iff.2 ⟨⟨rfl, rfl, endN_le a s, by show 0 < _; decide⟩, trivial⟩, wp_br.2 ⟨fun h => ?_, fun h => ?_⟩⟩
  · rw [h] at hq; exact ⟨rfl, hq⟩
  · rw [h] at hq; exact ⟨rfl, hq⟩
theorem rgrow_some (B : List (BitVec 8)) (h32 : B.length % 32 = 0) (hB : B.length < 1099511627776) (a s : BitVec 64) : ∀ q, (grow_f (.some B.length B) a s).is q → LFn Pr 70 [.ptr 0 0, .u64 a, .u64 s] [.vals [.sl 1 0 1 B.length none], .buf 5 B] q.1 q.2 := by
  refine fnTT OA1_sound mixed (by kernel_rfl) rg2_Ls (rgrow1_x a s B.length B) ?_
  intro q hq
  simp only [grow_f, Tr.is_chk, Tr.is_br, Tr.is_leaf] at hq
  obtain ⟨_, hq⟩ := hq
  have e1 := rgC_eq h32 a s
  have e2 := rgL_eq h32 a s
  simp only [endN] at e1 e2
  rw [e1, e2]
  refine wp_chk.2 ⟨rg2_ok_iff.2 ⟨⟨rfl, h32, endN_le a s, hB⟩, trivial⟩, wp_br.2 ⟨fun h => ?_, fun h => ?_⟩⟩
  · rw [h] at hq; exact ⟨rfl, hq⟩
  · rw [h] at hq; exact ⟨rfl, hq⟩
def growR (m : MS) (a s : BitVec 64) : Tr (Fin × Heap) := .chk (m32 m.n) (grow_f m a s)
theorem rgrow_ok : ∀ args h r, ((ctT readGr fun p => growR p.1 p.2.1 p.2.2) args h).is r → LFn Pr 70 args h r.1 r.2 := by
  refine ctT_ok (fun p => [.ptr 0 0, .u64 p.2.1, .u64 p.2.2]) (fun p => p.1.h) ?_ (fun p r h => ?_)
  · intro args h a e
    unfold readGr at e
    split at e <;> cases e
    rename_i hm
    exact ⟨rfl, readMS_h hm⟩
  · obtain ⟨m, a, s⟩ := p
    simp only [growR, Tr.is_chk] at h
    obtain ⟨h1, h2⟩ := h
    obtain ⟨h3, h4⟩ := m32_iff.1 h1
    cases m with
    | nil => exact rgrow_nil a s r h2
    | some n B =>
      have h' := h2
      simp only [grow_f, Tr.is_chk] at h'
      obtain ⟨rfl, hB⟩ := lenOk_iff.1 h'.1
      exact rgrow_some B h3 h4 a s r h2
def KR13 : KnownT := (70, ctT readGr fun p => growR p.1 p.2.1 p.2.2) :: (69, ctT readNd need_f) :: (109, ctT readS (fun s => .chk (is32 s) (.leaf (.ret (ofV s), [])))) :: (110, old (ctW fun x => .str x.bytes)) :: KA1
theorem KR13_ok : KOkT Pr KR13 := KOkT.cons (Enters.of (fn := Go.Proofs.Try.f70) (by kernel_rfl) (by kernel_rfl)) rgrow_ok (KOkT.cons (Enters.of (fn := Go.Proofs.Try.f69) (by kernel_rfl) (by kernel_rfl)) rneed_ok
  (KOkT.cons (Enters.of (fn := Go.Proofs.Try.f109) (by kernel_rfl) (by kernel_rfl)) rof_ok (KOkT.cons (Enters.of (fn := Go.Proofs.Try.f110) (by kernel_rfl) (by kernel_rfl)) (old_ok (ctW_ok rby_fn)) KA1_ok)))
def OR13 : OrcT := autoT Pr ext KR13 [75] 4
theorem OR13_sound : OrcSound Pr OR13.o := autoT_sound mixed ext_ok KR13_ok (by kernel_rfl) 4
theorem rw1_x (a : BitVec 64) (z : BitVec 64) (i : BitVec 64) (s : List (BitVec 8)) (k : Nat) (B : List (BitVec 8)) : Tr.prune ((Tr.Sh.any.both
      Tr.Sh.any).both
  Tr.Sh.any)
  (execBN Pr OR13 noLoopsT (100 : Nat) (1 : Nat) [(0 : Nat), (1 : Nat), (2 : Nat), (3 : Nat), (10 : Nat)] []
  (loopBody Go.Proofs.Try.f74 (0 : Nat))
  [((0 : Nat), V.ptr (0 : Nat) (0 : Nat)), ((1 : Nat), V.u64 a), ((2 : Nat), V.u64 z), ((3 : Nat), V.str s),
    ((10 : Nat), V.u64 i)]
  [Blk.vals [V.sl (1 : Nat) (0 : Nat) (1 : Nat) k none], Blk.buf (5 : TypeId) B]) =
  Tr.chk true
  (Tr.br (decide (i < z))
    (Tr.chk
      (decide ((↑(a + i).toNat : Int) < (↑k : Int)) &&
          decide ((0 : Nat) + (a + i).toNat * (1 : Nat) + (1 : Nat) ≤ B.length) &&
        true)
      (Tr.br (decide (i < BitVec.ofInt (64 : Nat) (↑s.length : Int)))
        (Tr.chk
          (decide ((↑i.toNat : Int) < (↑s.length : Int)) &&
              (decide ((↑(a + i).toNat : Int) < (↑k : Int)) &&
                decide
                  ((0 : Nat) + (a + i).toNat * (1 : Nat) + (1 : Nat) ≤
                    (B.set ((0 : Nat) + (a + i).toNat * (1 : Nat)) (BitVec.ofInt (8 : Nat) (0 : Int))).length)) &&
            true)
          (Tr.leaf
            (X.normal,
              [((0 : Nat), V.ptr (0 : Nat) (0 : Nat)), ((1 : Nat), V.u64 a), ((2 : Nat), V.u64 z), ((3 : Nat), V.str s),
                ((10 : Nat), V.u64 (i + BitVec.ofInt (64 : Nat) (1 : Int)))],
              [Blk.vals [V.sl (1 : Nat) (0 : Nat) (1 : Nat) k none],
                Blk.buf (5 : Nat)
                  ((B.set ((0 : Nat) + (a + i).toNat * (1 : Nat)) (BitVec.ofInt (8 : Nat) (0 : Int))).set
                    ((0 : Nat) + (a + i).toNat * (1 : Nat)) (s.getD i.toNat (OfNat.ofNat (0 : Nat))))])))
        (Tr.chk true
          (Tr.leaf
            (X.normal,
              [((0 : Nat), V.ptr (0 : Nat) (0 : Nat)), ((1 : Nat), V.u64 a), ((2 : Nat), V.u64 z), ((3 : Nat), V.str s),
                ((10 : Nat), V.u64 (i + BitVec.ofInt (64 : Nat) (1 : Int)))],
              [Blk.vals [V.sl (1 : Nat) (0 : Nat) (1 : Nat) k none],
                Blk.buf (5 : Nat)
                  (B.set ((0 : Nat) + (a + i).toNat * (1 : Nat)) (BitVec.ofInt (8 : Nat) (0 : Int)))])))))
    (Tr.leaf
      (X.exit (0 : Nat), [],
        [Blk.vals [V.sl (1 : Nat) (0 : Nat) (1 : Nat) k none], Blk.buf (5 : Nat) B]))) := by kernel_rfl
theorem rw2_x (a : BitVec 64) (z : BitVec 64) (i : BitVec 64) (s : List (BitVec 8)) (k : Nat) (B : List (BitVec 8)) : Tr.prune ((Tr.Sh.any.both
      Tr.Sh.any).both
  Tr.Sh.any)
  (execBN Pr OR13 noLoopsT (100 : Nat) (2 : Nat) [(0 : Nat), (1 : Nat), (2 : Nat), (3 : Nat), (10 : Nat)] []
  (loopBody Go.Proofs.Try.f74 (0 : Nat))
  [((0 : Nat), V.ptr (0 : Nat) (0 : Nat)), ((1 : Nat), V.u64 a), ((2 : Nat), V.u64 z), ((3 : Nat), V.str s),
    ((10 : Nat), V.u64 i)]
  [Blk.vals [V.sl (1 : Nat) (0 : Nat) (1 : Nat) k none], Blk.buf (5 : TypeId) B]) =
  Tr.chk true
  (Tr.br (decide (i < z))
    (Tr.chk
      (decide ((↑(a + i).toNat : Int) < (↑k : Int)) &&
          decide ((0 : Nat) + (a + i).toNat * (1 : Nat) + (1 : Nat) ≤ B.length) &&
        true)
      (Tr.br (decide (i < BitVec.ofInt (64 : Nat) (↑s.length : Int)))
        (Tr.chk
          (decide ((↑i.toNat : Int) < (↑s.length : Int)) &&
              (decide ((↑(a + i).toNat : Int) < (↑k : Int)) &&
                decide
                  ((0 : Nat) + (a + i).toNat * (1 : Nat) + (1 : Nat) ≤
                    (B.set ((0 : Nat) + (a + i).toNat * (1 : Nat)) (BitVec.ofInt (8 : Nat) (0 : Int))).length)) &&
            true)
          (Tr.leaf
            (X.normal,
              [((0 : Nat), V.ptr (0 : Nat) (0 : Nat)), ((1 : Nat), V.u64 a), ((2 : Nat), V.u64 z), ((3 : Nat), V.str s),
                ((10 : Nat), V.u64 (i + BitVec.ofInt (64 : Nat) (1 : Int)))],
              [Blk.vals [V.sl (1 : Nat) (0 : Nat) (1 : Nat) k none],
                Blk.buf (5 : Nat)
                  ((B.set ((0 : Nat) + (a + i).toNat * (1 : Nat)) (BitVec.ofInt (8 : Nat) (0 : Int))).set
                    ((0 : Nat) + (a + i).toNat * (1 : Nat)) (s.getD i.toNat (OfNat.ofNat (0 : Nat))))])))
        (Tr.chk true
          (Tr.leaf
            (X.normal,
              [((0 : Nat), V.ptr (0 : Nat) (0 : Nat)), ((1 : Nat), V.u64 a), ((2 : Nat), V.u64 z), ((3 : Nat), V.str s),
                ((10 : Nat), V.u64 (i + BitVec.ofInt (64 : Nat) (1 : Int)))],
              [Blk.vals [V.sl (1 : Nat) (0 : Nat) (1 : Nat) k none],
                Blk.buf (5 : Nat)
                  (B.set ((0 : Nat) + (a + i).toNat * (1 : Nat)) (BitVec.ofInt (8 : Nat) (0 : Int)))])))))
    (Tr.leaf
      (X.exit (0 : Nat), [],
        [Blk.vals [V.sl (1 : Nat) (0 : Nat) (1 : Nat) k none], Blk.buf (5 : Nat) B]))) := by kernel_rfl
theorem rw3_x (a : BitVec 64) (z : BitVec 64) (i : BitVec 64) (s : List (BitVec 8)) (k : Nat) (B : List (BitVec 8)) : Tr.prune ((Tr.Sh.any.both
      Tr.Sh.any).both
  Tr.Sh.any)
  (execBN Pr OR13 noLoopsT (100 : Nat) (2 : Nat) [(0 : Nat), (1 : Nat), (2 : Nat), (3 : Nat), (10 : Nat)] []
  (loopBody Go.Proofs.Try.f74 (0 : Nat))
  [((0 : Nat), V.ptr (0 : Nat) (0 : Nat)), ((1 : Nat), V.u64 a), ((2 : Nat), V.u64 z), ((3 : Nat), V.str s),
    ((10 : Nat), V.u64 i)]
  [Blk.vals [V.sl (2 : Nat) (0 : Nat) (1 : Nat) k none], Blk.dead, Blk.buf (5 : TypeId) B]) =
  Tr.chk true
  (Tr.br (decide (i < z))
    (Tr.chk
      (decide ((↑(a + i).toNat : Int) < (↑k : Int)) &&
          decide ((0 : Nat) + (a + i).toNat * (1 : Nat) + (1 : Nat) ≤ B.length) &&
        true)
      (Tr.br (decide (i < BitVec.ofInt (64 : Nat) (↑s.length : Int)))
        (Tr.chk
          (decide ((↑i.toNat : Int) < (↑s.length : Int)) &&
              (decide ((↑(a + i).toNat : Int) < (↑k : Int)) &&
                decide
                  ((0 : Nat) + (a + i).toNat * (1 : Nat) + (1 : Nat) ≤
                    (B.set ((0 : Nat) + (a + i).toNat * (1 : Nat)) (BitVec.ofInt (8 : Nat) (0 : Int))).length)) &&
            true)
          (Tr.leaf
            (X.normal,
              [((0 : Nat), V.ptr (0 : Nat) (0 : Nat)), ((1 : Nat), V.u64 a), ((2 : Nat), V.u64 z), ((3 : Nat), V.str s),
                ((10 : Nat), V.u64 (i + BitVec.ofInt (64 : Nat) (1 : Int)))],
              [Blk.vals [V.sl (2 : Nat) (0 : Nat) (1 : Nat) k none], Blk.dead,
                Blk.buf (5 : Nat)
                  ((B.set ((0 : Nat) + (a + i).toNat * (1 : Nat)) (BitVec.ofInt (8 : Nat) (0 : Int))).set
                    ((0 : Nat) + (a + i).toNat * (1 : Nat)) (s.getD i.toNat (OfNat.ofNat (0 : Nat))))])))
        (Tr.chk true
          (Tr.leaf
            (X.normal,
              [((0 : Nat), V.ptr (0 : Nat) (0 : Nat)), ((1 : Nat), V.u64 a), ((2 : Nat), V.u64 z), ((3 : Nat), V.str s),
                ((10 : Nat), V.u64 (i + BitVec.ofInt (64 : Nat) (1 : Int)))],
              [Blk.vals [V.sl (2 : Nat) (0 : Nat) (1 : Nat) k none], Blk.dead,
                Blk.buf (5 : Nat)
                  (B.set ((0 : Nat) + (a + i).toNat * (1 : Nat)) (BitVec.ofInt (8 : Nat) (0 : Int)))])))))
    (Tr.leaf
      (X.exit (0 : Nat), [],
        [Blk.vals [V.sl (2 : Nat) (0 : Nat) (1 : Nat) k none], Blk.dead, Blk.buf (5 : Nat) B]))) := by kernel_rfl
theorem rw4_x (a : BitVec 64) (z : BitVec 64) (i : BitVec 64) (s : List (BitVec 8)) : Tr.prune (Tr.Sh.any.both
  Tr.Sh.any)
  (execBN Pr OR13 noLoopsT (100 : Nat) (1 : Nat) [(0 : Nat), (1 : Nat), (2 : Nat), (3 : Nat), (10 : Nat)] []
  (loopBody Go.Proofs.Try.f74 (0 : Nat))
  [((0 : Nat), V.ptr (0 : Nat) (0 : Nat)), ((1 : Nat), V.u64 a), ((2 : Nat), V.u64 z), ((3 : Nat), V.str s),
    ((10 : Nat), V.u64 i)]
  [Blk.vals [V.nilSl]]) =
  Tr.chk true (Tr.br (decide (i < z)) Tr.no (Tr.leaf (X.exit (0 : Nat), [], [Blk.vals [V.nilSl]]))) := by kernel_rfl
end
end Go.Proofs.Ytajbaocfdlopbaa.K
end
section
open Go Go.Lh
namespace Go.Proofs.Ytajbaocfdlopbaa.K
noncomputable section
set_option maxRecDepth 100000
structure RWS where
  g : GS
  a : BitVec 64
  z : BitVec 64
  s : List (BitVec 8)
def GS.w (g : GS) (B : List (BitVec 8)) : GS := match g with
  | .nil => .nil
  | .one k _ => .one k B
  | .mov k _ => .mov k B
def rw_S (a : RWS) (i : Nat) : Fr × Heap := ([(0,.ptr 0 0),(1,.u64 a.a),(2,.u64 a.z),(3,.str a.s),(10,.u64 (BitVec.ofInt 64 (i : Nat)))], (a.g.w (wrN a.g.B a.a.toNat a.s i)).h)
def rw_read : Fr → Heap → Option RWS := fun f h => match f, readGS h with
  | [(0,.ptr 0 0),(1,.u64 a),(2,.u64 z),(3,.str s),(10,.u64 0#64)], some g => some ⟨g, a, z, s⟩
  | _, _ => none
theorem gs_w (g : GS) : g.w g.B = g := by cases g <;> rfl
theorem rw_rd : ∀ f h a, rw_read f h = some a → (f, h) = rw_S a 0 := by
  intro f h a e
  unfold rw_read at e
  split at e <;> cases e
  rename_i hg
  simp only [rw_S, wrN, gs_w]
  unfold readGS at hg
  split at hg <;> cases hg <;> rfl
def rw_P (a : RWS) : Prop := a.g.k = a.g.B.length ∧ a.a.toNat + a.z.toNat ≤ 16777216 ∧ (a.z.toNat = 0 ∨ a.a.toNat + a.z.toNat ≤ a.g.B.length) ∧ a.s.length < 9223372036854775808 ∧ (match a.g with | .nil => a.z.toNat = 0 | _ => True)
def rw1_P (a : RWS) : Prop := rw_P a ∧ (match a.g with | .mov _ _ => False | _ => True)
def rw2_P (a : RWS) : Prop := rw_P a ∧ (match a.g with | .nil => False | _ => True)
def rw1_ok (a : RWS) : Bool := @decide (rw1_P a) (Classical.propDecidable _)
theorem rw1_ok_iff {a : RWS} : rw1_ok a = true ↔ rw1_P a := by simp [rw1_ok]
def rw2_ok (a : RWS) : Bool := @decide (rw2_P a) (Classical.propDecidable _)
theorem rw2_ok_iff {a : RWS} : rw2_ok a = true ↔ rw2_P a := by simp [rw2_ok]
def rw_E (a : RWS) : Tr (X × Fr × Heap) := .leaf (.exit 0, [], (a.g.w (wrN a.g.B a.a.toNat a.s a.z.toNat)).h)
def rw1_s : SmT := whT 4 [0,1,2,3,10] rw_read rw1_ok rw_E
def rw2_s : SmT := whT 4 [0,1,2,3,10] rw_read rw2_ok rw_E
theorem set_or (B s : List (BitVec 8)) (o i : Nat) (c : Bool) (hc : c = decide (i < s.length)) : (if c then (B.set o (BitVec.ofInt 8 0)).set o (s.getD i 0) else B.set o (BitVec.ofInt 8 0)) = B.set o (s.getD i 0) := by
  subst hc
  split
  · rw [List.set_set]
  · rename_i h
    have h : ¬ i < s.length := by simpa using h
    rw [List.getD_eq_getElem?_getD, List.getElem?_eq_none_iff.2 (by omega)]; rfl
theorem rw_step {q : X × Fr × Heap} {mk : Nat → List (BitVec 8) → GS} {k : Nat} {B s : List (BitVec 8)} {a z : BitVec 64} {i : Nat} (hmk : ∀ k B C, (mk k B).w C = mk k C) (hB : ∀ k B, (mk k B).B = B) (hk : k = B.length) (h2 : a.toNat + z.toNat ≤ 16777216) (h3 : z.toNat = 0 ∨ a.toNat + z.toNat ≤ B.length) (h4 : s.length < 9223372036854775808)
    (hq : (rw_E ⟨mk k B, a, z, s⟩).is q) (hi : i ≤ z.toNat) {W : List (BitVec 8)} (hW : W = wrN B a.toNat s i) {t : Tr (X × Fr × Heap)}
    (ht : t = Tr.chk true (Tr.br (decide (BitVec.ofInt 64 (i : Nat) < z)) (Tr.chk (decide (((a + BitVec.ofInt 64 (i : Nat)).toNat : Int) < (k : Int)) && decide (0 + (a + BitVec.ofInt 64 (i : Nat)).toNat * 1 + 1 ≤ W.length) && true)
      (Tr.br (decide (BitVec.ofInt 64 (i : Nat) < BitVec.ofInt 64 (s.length : Int)))
        (Tr.chk (decide (((BitVec.ofInt 64 (i : Nat)).toNat : Int) < (s.length : Int)) && (decide (((a + BitVec.ofInt 64 (i : Nat)).toNat : Int) < (k : Int)) && decide (0 + (a + BitVec.ofInt 64 (i : Nat)).toNat * 1 + 1 ≤ (W.set (0 + (a + BitVec.ofInt 64 (i : Nat)).toNat * 1) (BitVec.ofInt 8 0)).length)) && true)
          (Tr.leaf (X.normal, [(0,.ptr 0 0),(1,.u64 a),(2,.u64 z),(3,.str s),(10,.u64 (BitVec.ofInt 64 (i : Nat) + BitVec.ofInt 64 1))], (mk k ((W.set (0 + (a + BitVec.ofInt 64 (i : Nat)).toNat * 1) (BitVec.ofInt 8 0)).set (0 + (a + BitVec.ofInt 64 (i : Nat)).toNat * 1) (s.getD (BitVec.ofInt 64 (i : Nat)).toNat 0))).h)))
        (Tr.chk true (Tr.leaf (X.normal, [(0,.ptr 0 0),(1,.u64 a),(2,.u64 z),(3,.str s),(10,.u64 (BitVec.ofInt 64 (i : Nat) + BitVec.ofInt 64 1))], (mk k (W.set (0 + (a + BitVec.ofInt 64 (i : Nat)).toNat * 1) (BitVec.ofInt 8 0))).h)))))
      (Tr.leaf (X.exit 0, [], (mk k W).h)))) :
    t.wp fun r => (r.1 = .normal ∧ i < z.toNat ∧ r.2 = rw_S ⟨mk k B, a, z, s⟩ (i + 1)) ∨ (r.1 ≠ .normal ∧ r = q) := by
  subst ht
  have hz := z.isLt
  have hi' : (BitVec.ofInt 64 (i : Nat)).toNat = i := toNat_ofInt_nat (by omega)
  have hlt : BitVec.ofInt 64 (i : Nat) < z ↔ i < z.toNat := by rw [BitVec.lt_def, hi']
  have hls : BitVec.ofInt 64 (i : Nat) < BitVec.ofInt 64 (s.length : Int) ↔ i < s.length := by rw [BitVec.lt_def, hi', toNat_ofInt_nat (by omega)]
  have hai : (a + BitVec.ofInt 64 (i : Nat)).toNat = a.toNat + i := by rw [BitVec.toNat_add, hi']; omega
  have hinc : BitVec.ofInt 64 (i : Nat) + BitVec.ofInt 64 1 = BitVec.ofInt 64 ((i + 1 : Nat) : Int) := by
    apply BitVec.eq_of_toNat_eq
    rw [toNat_ofInt_nat (by omega), BitVec.toNat_add, hi']
    show (i + 1) % _ = _
    omega
  rw [rw_E, Tr.is_leaf] at hq
  simp only [hmk, hB] at hq
  have hWl : W.length = B.length := by rw [hW, wrN_length]
  have hnext : (mk k (W.set (a.toNat + i) (s.getD i 0))).h = ((mk k B).w (wrN (mk k B).B a.toNat s (i + 1))).h := by
    rw [hmk, hB, hW]; rfl
  simp only [wp_chk, wp_leaf, wp_br, hlt, hls, hai, hi', hinc, decide_eq_true_eq, decide_eq_false_iff_not, true_and, Bool.and_true, Bool.and_eq_true, Nat.mul_one, Nat.zero_add, List.length_set, hWl]
  refine ⟨fun h => ⟨⟨by omega, by omega⟩, fun hs => ⟨⟨by omega, by omega, by omega⟩, .inl ⟨h, ?_⟩⟩, fun hs => .inl ⟨h, ?_⟩⟩, fun h => .inr ⟨fun e => (by cases e), ?_⟩⟩
  · have := set_or W s (a.toNat + i) i true (decide_eq_true hs).symm
    rw [if_pos rfl] at this
    rw [this, hnext]; rfl
  · have := set_or W s (a.toNat + i) i false (decide_eq_false hs).symm
    rw [if_neg (by decide)] at this
    rw [this, hnext]; rfl
  · have : i = z.toNat := by omega
    rw [← hq, hW, this]
theorem rw1_at : SmAtT Pr Go.Proofs.Try.f74 1 rw1_s 0 := by
  refine cntT_at (on := [0,1,2,3,10]) (off := []) (fuel := 100) (L := noLoopsT) OR13_sound mixed rw_S (fun a => a.z.toNat) (by kernel_rfl) (by kernel_rfl) (by kernel_rfl) LoopsOk.noneT rw_rd ?_
  rintro ⟨g, a, z, s⟩ q hok hq i hi
  obtain ⟨⟨h1, h2, h3, h4, h5⟩, h6⟩ := rw1_ok_iff.1 hok
  simp only at h1 h2 h3 h4 h5 hi
  cases g with
  | mov k B => exact h6.elim
  | nil =>
    have h5 : z.toNat = 0 := h5
    refine Tr.wp_prune (rw4_x a z (BitVec.ofInt 64 (i : Nat)) s) ?_
    have : i = 0 := by omega
    subst this
    rw [rw_E, Tr.is_leaf] at hq
    simp only [wp_chk, wp_leaf, wp_br, decide_eq_true_eq, decide_eq_false_iff_not, true_and]
    refine ⟨fun h => ?_, fun h => .inr ⟨fun e => (by cases e), ?_⟩⟩
    · rw [BitVec.lt_def] at h; omega
    · rw [← hq]; rfl
  | one k B => exact Tr.wp_prune (rw1_x a z (BitVec.ofInt 64 (i : Nat)) s k (wrN B a.toNat s i)) (rw_step (mk := GS.one) (fun _ _ _ => rfl) (fun _ _ => rfl) h1 h2 h3 h4 hq hi rfl rfl)
theorem rw2_at : SmAtT Pr Go.Proofs.Try.f74 2 rw2_s 0 := by
  refine cntT_at (on := [0,1,2,3,10]) (off := []) (fuel := 100) (L := noLoopsT) OR13_sound mixed rw_S (fun a => a.z.toNat) (by kernel_rfl) (by kernel_rfl) (by kernel_rfl) LoopsOk.noneT rw_rd ?_
  rintro ⟨g, a, z, s⟩ q hok hq i hi
  obtain ⟨⟨h1, h2, h3, h4, h5⟩, h6⟩ := rw2_ok_iff.1 hok
  simp only at h1 h2 h3 h4 h5 hi
  cases g with
  | nil => exact h6.elim
  | one k B => exact Tr.wp_prune (rw2_x a z (BitVec.ofInt 64 (i : Nat)) s k (wrN B a.toNat s i)) (rw_step (mk := GS.one) (fun _ _ _ => rfl) (fun _ _ => rfl) h1 h2 h3 h4 hq hi rfl rfl)
  | mov k B => exact Tr.wp_prune (rw3_x a z (BitVec.ofInt 64 (i : Nat)) s k (wrN B a.toNat s i)) (rw_step (mk := GS.mov) (fun _ _ _ => rfl) (fun _ _ => rfl) h1 h2 h3 h4 hq hi rfl rfl)
theorem rw1_Ls : LoopsOk Pr Go.Proofs.Try.f74 1 (smLT 1 [rw1_s]).o := LoopsOk.one (by kernel_rfl) rw1_at
theorem rw2_Ls : LoopsOk Pr Go.Proofs.Try.f74 2 (smLT 2 [rw2_s]).o := LoopsOk.one (by kernel_rfl) rw2_at
def OR13w : OrcT := autoT Pr ext KR13 [108] 4
theorem OR13w_sound : OrcSound Pr OR13w.o := autoT_sound mixed ext_ok KR13_ok (by kernel_rfl) 4
theorem rwrite0_x (a : BitVec 64) (z : BitVec 64) (s : List (BitVec 8)) : Tr.prune (Tr.Sh.any.l.l.both
  (Tr.Sh.any.both (Tr.Sh.any.both Tr.Sh.any)).r)
  (execBF Pr OR13w (smLT (1 : Nat) [rw1_s]) (100 : Nat) Go.Proofs.Try.f74
  [V.ptr (0 : Nat) (0 : Nat), V.u64 a, V.u64 z, V.str s] [Blk.vals [V.nilSl]]) =
  Tr.chk true
  (Tr.br (!fitB a z) (Tr.chk true (Tr.leaf (Fin.ret (V.tup []), [Blk.vals [V.nilSl]])))
    (Tr.chk true
      (Tr.br (decide (BitVec.ofInt (64 : Nat) (16777216 : Int) < z))
        (Tr.chk true (Tr.leaf (Fin.ret (V.tup []), [Blk.vals [V.nilSl]])))
        (Tr.chk (m32 MS.nil.n)
          (Tr.br (isGrow (0 : Nat) a z)
            (Tr.chk (rw1_ok (RWS.mk (GS.one (growL [] a z).length (growL [] a z)) a z s) && true)
              (Tr.leaf
                (Fin.ret (V.tup []),
                  [Blk.vals [V.sl (1 : Nat) (0 : Nat) (1 : Nat) (growL [] a z).length none],
                    Blk.buf (5 : Nat) (wrN (GS.one (growL [] a z).length (growL [] a z)).B a.toNat s z.toNat)])))
            (Tr.chk (rw1_ok (RWS.mk GS.nil a z s) && true)
              (Tr.leaf (Fin.ret (V.tup []), [Blk.vals [V.nilSl]])))))))) := by kernel_rfl
theorem rwrite1_x (a : BitVec 64) (z : BitVec 64) (s : List (BitVec 8)) (n : Nat) (B : List (BitVec 8)) : Tr.prune (Tr.Sh.any.l.l.both
  (Tr.Sh.any.both (Tr.Sh.any.both Tr.Sh.any)).r)
  (execBF Pr OR13w (smLT (2 : Nat) [rw2_s]) (100 : Nat) Go.Proofs.Try.f74
  [V.ptr (0 : Nat) (0 : Nat), V.u64 a, V.u64 z, V.str s]
  [Blk.vals [V.sl (1 : Nat) (0 : Nat) (1 : Nat) n none], Blk.buf (5 : TypeId) B]) =
  Tr.chk true
  (Tr.br (!fitB a z)
    (Tr.chk true
      (Tr.leaf (Fin.ret (V.tup []), [Blk.vals [V.sl (1 : Nat) (0 : Nat) (1 : Nat) n none], Blk.buf (5 : Nat) B])))
    (Tr.chk true
      (Tr.br (decide (BitVec.ofInt (64 : Nat) (16777216 : Int) < z))
        (Tr.chk true
          (Tr.leaf (Fin.ret (V.tup []), [Blk.vals [V.sl (1 : Nat) (0 : Nat) (1 : Nat) n none], Blk.buf (5 : Nat) B])))
        (Tr.chk (m32 (MS.some n B).n && lenOk n B)
          (Tr.br (isGrow n a z)
            (Tr.chk (rw2_ok (RWS.mk (GS.mov (growL B a z).length (growL B a z)) a z s) && true)
              (Tr.leaf
                (Fin.ret (V.tup []),
                  [Blk.vals [V.sl (2 : Nat) (0 : Nat) (1 : Nat) (growL B a z).length none], Blk.dead,
                    Blk.buf (5 : Nat) (wrN (GS.mov (growL B a z).length (growL B a z)).B a.toNat s z.toNat)])))
            (Tr.chk (rw2_ok (RWS.mk (GS.one n B) a z s) && true)
              (Tr.leaf
                (Fin.ret (V.tup []),
                  [Blk.vals [V.sl (1 : Nat) (0 : Nat) (1 : Nat) n none],
                    Blk.buf (5 : Nat) (wrN (GS.one n B).B a.toNat s z.toNat)])))))))) := by kernel_rfl
end
end Go.Proofs.Ytajbaocfdlopbaa.K
end
section
open Go Go.Lh
namespace Go.Proofs.Ytajbaocfdlopbaa.K
noncomputable section
set_option maxRecDepth 100000
theorem wrOk_z {a z : BitVec 64} (h : z.toNat = 0) : wrOk a z = false := by
  rw [Bool.eq_false_iff, Ne, wrOk_iff]; intro h2; omega
theorem grow_no {L : Nat} {a z : BitVec 64} (hf : a.toNat + z.toNat ≤ 16777216) (h : isGrow L a z = false) : z.toNat = 0 ∨ a.toNat + z.toNat ≤ L := by
  rw [Bool.eq_false_iff, Ne, isGrow_iff] at h
  have := upN_ge a.toNat z.toNat
  by_cases hz : z.toNat = 0
  · exact .inl hz
  · right
    have h3 : ¬ (L < upN a.toNat z.toNat) := fun h4 => h ⟨hf, by omega, h4⟩
    omega
theorem growL_no {B : List (BitVec 8)} {a z : BitVec 64} (h : isGrow B.length a z = false) : growL B a z = B := by unfold growL; rw [h]; rfl
theorem rwrite_nil (a z : BitVec 64) (s : List (BitVec 8)) (hs : s.length < 9223372036854775808) : ∀ q, (write_f .nil a z s).is q → LFn Pr 74 [.ptr 0 0, .u64 a, .u64 z, .str s] [.vals [.nilSl]] q.1 q.2 := by
  refine fnTT OR13w_sound mixed (by kernel_rfl) rw1_Ls (rwrite0_x a z s) ?_
  intro q hq
  simp only [write_f, Tr.is_br, Tr.is_leaf] at hq
  rw [wp_chk_true, wp_br, Bool.not_eq_true', Bool.not_eq_false']
  refine ⟨fun h1 => ?_, fun h1 => wp_chk_true.2 (wp_br.2 ⟨fun h2 => ?_, fun h2 => wp_chk.2 ⟨m32_iff.2 ⟨rfl, by show 0 < _; decide⟩, wp_br.2 ⟨fun h4 => ?_, fun h4 => ?_⟩⟩⟩)⟩
  · rw [wrOk_f1 h1] at hq; exact ⟨rfl, hq⟩
  · rw [wrOk_f2 (of_decide_eq_true h2)] at hq; exact ⟨rfl, hq⟩
  · have hf := fitB_iff.1 h1
    have hw : wrOk a z = true := wrOk_iff.2 ⟨hf, (isGrow_iff.1 h4).2.1⟩
    rw [hw, if_pos rfl, writeL_true hw] at hq
    have hg := growL_ge (B := []) hw
    refine wp_chk.2 ⟨?_, ?_⟩
    · rw [Bool.and_true]; exact rw1_ok_iff.2 ⟨⟨rfl, hf, .inr hg, hs, trivial⟩, trivial⟩
    · rw [← hq, newH, wrN_length]; exact (rfl : _ = _)
  · have hf := fitB_iff.1 h1
    have hz : z.toNat = 0 := by
      rcases grow_no hf h4 with h5 | h5
      · exact h5
      · omega
    rw [wrOk_z hz] at hq
    refine wp_chk.2 ⟨?_, ?_⟩
    · rw [Bool.and_true]; exact rw1_ok_iff.2 ⟨⟨rfl, hf, .inl hz, hs, hz⟩, trivial⟩
    · exact hq
theorem rwrite_some (B : List (BitVec 8)) (h32 : m32 B.length = true) (a z : BitVec 64) (s : List (BitVec 8)) (hs : s.length < 9223372036854775808) : ∀ q, (write_f (.some B.length B) a z s).is q → LFn Pr 74 [.ptr 0 0, .u64 a, .u64 z, .str s] [.vals [.sl 1 0 1 B.length none], .buf 5 B] q.1 q.2 := by
  refine fnTT OR13w_sound mixed (by kernel_rfl) rw2_Ls (rwrite1_x a z s B.length B) ?_
  intro q hq
  simp only [write_f, Tr.is_chk, Tr.is_br, Tr.is_leaf] at hq
  obtain ⟨hl, hq⟩ := hq
  rw [wp_chk_true, wp_br, Bool.not_eq_true', Bool.not_eq_false']
  refine ⟨fun h1 => ?_, fun h1 => wp_chk_true.2 (wp_br.2 ⟨fun h2 => ?_, fun h2 => wp_chk.2 ⟨by rw [Bool.and_eq_true]; exact ⟨h32, hl⟩, wp_br.2 ⟨fun h4 => ?_, fun h4 => ?_⟩⟩⟩)⟩
  · rw [wrOk_f1 h1] at hq; exact ⟨rfl, hq⟩
  · rw [wrOk_f2 (of_decide_eq_true h2)] at hq; exact ⟨rfl, hq⟩
  · have hf := fitB_iff.1 h1
    have hw : wrOk a z = true := wrOk_iff.2 ⟨hf, (isGrow_iff.1 h4).2.1⟩
    rw [hw, if_pos rfl, h4, if_pos rfl, writeL_true hw] at hq
    have hg := growL_ge (B := B) hw
    refine wp_chk.2 ⟨?_, ?_⟩
    · rw [Bool.and_true]; exact rw2_ok_iff.2 ⟨⟨rfl, hf, .inr hg, hs, trivial⟩, trivial⟩
    · rw [← hq, movH, wrN_length]; exact (rfl : _ = _)
  · have hf := fitB_iff.1 h1
    refine wp_chk.2 ⟨?_, ?_⟩
    · rw [Bool.and_true]; exact rw2_ok_iff.2 ⟨⟨rfl, hf, grow_no hf h4, hs, trivial⟩, trivial⟩
    · by_cases hz : z.toNat = 0
      · rw [wrOk_z hz] at hq
        rw [hz]; exact hq
      · have hw : wrOk a z = true := wrOk_iff.2 ⟨hf, by omega⟩
        rw [hw, if_pos rfl, h4, writeL_true hw, growL_no h4] at hq
        exact hq
def writeR (m : MS) (a z : BitVec 64) (s : List (BitVec 8)) : Tr (Fin × Heap) := .chk (m32 m.n && okN s.length) (write_f m a z s)
theorem rwrite_ok : ∀ args h r, ((ctT readWr fun p => writeR p.1 p.2.1 p.2.2.1 p.2.2.2) args h).is r → LFn Pr 74 args h r.1 r.2 := by
  refine ctT_ok (fun p => [.ptr 0 0, .u64 p.2.1, .u64 p.2.2.1, .str p.2.2.2]) (fun p => p.1.h) ?_ (fun p r h => ?_)
  · intro args h a e
    unfold readWr at e
    split at e <;> cases e
    rename_i hm
    exact ⟨rfl, readMS_h hm⟩
  · obtain ⟨m, a, z, s⟩ := p
    simp only [writeR, Tr.is_chk, Bool.and_eq_true] at h
    obtain ⟨⟨h1, h2⟩, h⟩ := h
    have h2 := okN_iff.1 h2
    cases m with
    | nil => exact rwrite_nil a z s h2 r h
    | some n B =>
      have h' := h
      simp only [write_f, Tr.is_chk] at h'
      obtain ⟨rfl, hB⟩ := lenOk_iff.1 h'.1
      exact rwrite_some B h1 a z s h2 r h
end
end Go.Proofs.Ytajbaocfdlopbaa.K
end
section
open Go Go.Lh
namespace Go.Proofs.Ytajbaocfdlopbaa.K
noncomputable section
set_option maxRecDepth 100000
theorem rpl_x (s : List (BitVec 8)) (out : List (BitVec 8)) (n : BitVec 64) (f : BitVec 64) (u : BitVec 64) (e : Bool) (k : Nat) (c : Nat) : Tr.prune ((((Tr.Sh.any.both
                                  Tr.Sh.any).l.l.l.l.l.l.both
                  Tr.Sh.any.r.r.r.r.r.r.r).l.l.l.l.both
      Tr.Sh.any.r.r.r.r.r.r.r.r.r.r.r.r).both
  Tr.Sh.any.r.r.r.r.r.r.r.r.r.r.r.r.r)
  (execBN Pr OA1 noLoopsT (100 : Nat) (0 : Nat) [(0 : Nat), (7 : Nat), (9 : Nat), (10 : Nat), (11 : Nat), (12 : Nat)]
  [(9 : Nat)] (loopBody Go.Proofs.Try.f23 (0 : Nat))
  [((0 : Nat), V.str s), ((7 : Nat), V.u64 n), ((9 : Nat), V.sl (0 : Nat) (0 : Nat) (1 : Nat) k (some c)),
    ((10 : Nat), V.u64 f), ((11 : Nat), V.bool e), ((12 : Nat), V.u64 u)]
  [Blk.b8 out]) =
  Tr.chk true
  (Tr.br (decide (u < n))
    (Tr.chk true
      (Tr.br e
        (Tr.chk true
          (Tr.br (decide (f < BitVec.ofInt (64 : Nat) (↑s.length : Int)))
            (Tr.chk true
              (Tr.br (decide (f + u < BitVec.ofInt (64 : Nat) (↑s.length : Int)))
                (Tr.chk
                  (decide ((↑(f + u).toNat : Int) < (↑s.length : Int)) &&
                      (decide ((↑u.toNat : Int) < (↑k : Int)) &&
                        decide ((0 : Nat) + u.toNat * (1 : Nat) + (1 : Nat) ≤ out.length)) &&
                    true)
                  (Tr.leaf
                    (X.normal,
                      [((0 : Nat), V.str s), ((7 : Nat), V.u64 n),
                        ((9 : Nat), V.sl (0 : Nat) (0 : Nat) (1 : Nat) k (some c)), ((10 : Nat), V.u64 f),
                        ((11 : Nat), V.bool e), ((12 : Nat), V.u64 (u + BitVec.ofInt (64 : Nat) (1 : Int)))],
                      [Blk.b8
                          (out.set ((0 : Nat) + u.toNat * (1 : Nat)) (s.getD (f + u).toNat (OfNat.ofNat (0 : Nat))))])))
                (Tr.leaf
                  (X.exit (0 : Nat), [((9 : Nat), V.sl (0 : Nat) (0 : Nat) (1 : Nat) k (some c))], [Blk.b8 out]))))
            (Tr.chk true
              (Tr.leaf
                (X.exit (0 : Nat), [((9 : Nat), V.sl (0 : Nat) (0 : Nat) (1 : Nat) k (some c))], [Blk.b8 out])))))
        (Tr.chk true
          (Tr.leaf (X.exit (0 : Nat), [((9 : Nat), V.sl (0 : Nat) (0 : Nat) (1 : Nat) k (some c))], [Blk.b8 out])))))
    (Tr.chk true
      (Tr.leaf
        (X.exit (0 : Nat), [((9 : Nat), V.sl (0 : Nat) (0 : Nat) (1 : Nat) k (some c))],
          [Blk.b8 out])))) := by kernel_rfl
theorem mpart_x (s : List (BitVec 8)) (a : W4) (z : W4) : Tr.prune (Tr.Sh.any.both (Tr.Sh.any.both Tr.Sh.any))
  (execBF Pr OA1 noLoopsT (100 : Nat) Go.Proofs.Try.f22 [V.str s, a.v, z.v] []) =
  Tr.chk true
  (Tr.br (!isSmall z) (Tr.chk true (Tr.leaf (Fin.ret (V.str (bytesOf (ByteArray.mk #[]))), [])))
    (Tr.chk true
      (Tr.br (!isSmall a)
        (Tr.chk (lenOk s.length s && true && true)
          (Tr.leaf (Fin.ret (V.str (partS s (BitVec.ofInt (64 : Nat) (↑s.length : Int)) z.d)), [])))
        (Tr.chk (lenOk s.length s && true && true)
          (Tr.leaf (Fin.ret (V.str (partS s a.d z.d)), [])))))) := by kernel_rfl
end
end Go.Proofs.Ytajbaocfdlopbaa.K
end
section
open Go Go.Lh
namespace Go.Proofs.Ytajbaocfdlopbaa.K
noncomputable section
set_option maxRecDepth 100000
structure RPS where
  s : List (BitVec 8)
  out : List (BitVec 8)
  n : BitVec 64
  f : BitVec 64
  u : BitVec 64
  e : Bool
  k : Nat
  c : Nat
def rp_u (a : RPS) (i : Nat) : BitVec 64 := if i = 0 then a.u else BitVec.ofInt 64 (i : Int)
def rp_S (a : RPS) (i : Nat) : Fr × Heap := ([(0,.str a.s),(7,.u64 a.n),(9,.sl 0 0 1 a.k (some a.c)),(10,.u64 a.f),(11,.bool a.e),(12,.u64 (rp_u a i))], [.b8 (wrN a.out 0 (a.s.drop a.f.toNat) i)])
def rp_read : Fr → Heap → Option RPS := fun f h => match f, h with
  | [(0,.str s),(7,.u64 n),(9,.sl 0 0 1 k (some c)),(10,.u64 f),(11,.bool e),(12,.u64 u)], [.b8 out] => some ⟨s, out, n, f, u, e, k, c⟩
  | _, _ => none
/-- how many rounds -/
def rp_m (a : RPS) : Nat := bif a.e then min a.n.toNat (a.s.length - a.f.toNat) else 0
def rp_P (a : RPS) : Prop := a.u = BitVec.ofInt 64 0 ∧ a.s.length < 9223372036854775808 ∧ a.k = a.n.toNat ∧ a.out.length = a.n.toNat ∧ a.n.toNat ≤ 16777216
def rp_ok (a : RPS) : Bool := @decide (rp_P a) (Classical.propDecidable _)
theorem rp_ok_iff {a : RPS} : rp_ok a = true ↔ rp_P a := by simp [rp_ok]
def rp_E (a : RPS) : Tr (X × Fr × Heap) := .leaf (.exit 0, [(9,.sl 0 0 1 a.k (some a.c))], [.b8 (wrN a.out 0 (a.s.drop a.f.toNat) (rp_m a))])
def rp_s : SmT := whT 7 [0,7,9,10,11,12] rp_read rp_ok rp_E
theorem rp_at : SmAtT Pr Go.Proofs.Try.f23 0 rp_s 0 := by
  refine cntT_at (on := [0,7,9,10,11,12]) (off := [9]) (fuel := 100) (L := noLoopsT) OA1_sound mixed rp_S rp_m (by kernel_rfl) (by kernel_rfl) (by kernel_rfl) LoopsOk.noneT ?_ ?_
  · intro f g a h
    unfold rp_read at h
    split at h <;> cases h
    rfl
  · rintro ⟨s, out, n, f, u, e, k, c⟩ q hok hq i hi
    obtain ⟨h1, h2, h3, h4, h5⟩ := rp_ok_iff.1 hok
    simp only at h1 h2 h3 h4 h5
    subst h1 h3
    have hu : ∀ j, rp_u ⟨s, out, n, f, BitVec.ofInt 64 0, e, n.toNat, c⟩ j = BitVec.ofInt 64 (j : Int) := by
      intro j; unfold rp_u; split
      · rename_i h; subst h; rfl
      · rfl
    rw [rp_E, Tr.is_leaf] at hq
    simp only [rp_m] at hi hq ⊢
    have eS : ∀ j, rp_S ⟨s, out, n, f, BitVec.ofInt 64 0, e, n.toNat, c⟩ j = ([(0,.str s),(7,.u64 n),(9,.sl 0 0 1 n.toNat (some c)),(10,.u64 f),(11,.bool e),(12,.u64 (BitVec.ofInt 64 (j : Int)))], [.b8 (wrN out 0 (s.drop f.toNat) j)]) := fun j => by rw [rp_S, hu]
    rw [eS i, eS (i + 1)]
    have hin : i ≤ n.toNat := by cases e <;> simp at hi <;> omega
    have ei : (BitVec.ofInt 64 (i : Int)).toNat = i := toNat_ofInt_nat (by omega)
    have el : (BitVec.ofInt 64 (s.length : Int)).toNat = s.length := toNat_ofInt_nat (by omega)
    have hf := f.isLt
    dsimp only
    refine Tr.wp_prune (rpl_x s (wrN out 0 (s.drop f.toNat) i) n f (BitVec.ofInt 64 (i : Int)) e n.toNat c) ?_
    simp only [wrN_length, wp_chk_true, wp_chk, wp_leaf, wp_br, decide_eq_true_eq, decide_eq_false_iff_not, Bool.and_true, Bool.and_eq_true, BitVec.lt_def, ei, el, Nat.mul_one, Nat.zero_add, true_and]
    refine ⟨fun a1 => ⟨fun a2 => ⟨fun a3 => ?_, fun a3 => .inr ⟨fun h => (by cases h), ?_⟩⟩, fun a2 => .inr ⟨fun h => (by cases h), ?_⟩⟩, fun a1 => .inr ⟨fun h => (by cases h), ?_⟩⟩
    · have es : (f + BitVec.ofInt 64 (i : Int)).toNat = f.toNat + i := by rw [BitVec.toNat_add, ei]; omega
      rw [es]
      subst a2
      simp only [cond_true] at hi hq ⊢
      refine ⟨fun a4 => ⟨⟨by omega, by omega, by omega⟩, .inl ⟨by first | trivial | omega, ?_⟩⟩, fun a4 => .inr ⟨fun h => (by cases h), ?_⟩⟩
      · rw [wrN, Nat.zero_add]
        have e1 : BitVec.ofInt 64 (i : Int) + BitVec.ofInt 64 1 = BitVec.ofInt 64 ((i + 1 : Nat) : Int) := by
          rw [← BitVec.ofInt_add]; rfl
        have e2 : (List.drop f.toNat s).getD i 0 = s.getD (f.toNat + i) 0 := by
          rw [List.getD_eq_getElem?_getD, List.getElem?_drop, List.getD_eq_getElem?_getD]
        rw [e1, e2]
      · rw [← hq]
        have : i = min n.toNat (s.length - f.toNat) := by omega
        rw [← this]
    · subst a2
      simp only [cond_true] at hi hq
      rw [← hq]
      have : i = min n.toNat (s.length - f.toNat) := by omega
      rw [← this]
    · subst a2
      simp only [cond_false] at hi hq
      rw [← hq]
      have : i = 0 := by omega
      rw [this]
    · rw [← hq]
      cases e with
      | true =>
        simp only [cond_true] at hi ⊢
        have : i = min n.toNat (s.length - f.toNat) := by omega
        rw [← this]
      | false =>
        simp only [cond_false] at hi ⊢
        have : i = 0 := by omega
        rw [this]
theorem rp_Ls : LoopsOk Pr Go.Proofs.Try.f23 0 (smLT 0 [rp_s]).o := LoopsOk.one (by kernel_rfl) rp_at
theorem rpart_x (s : List (BitVec 8)) (a : W4) (z : W4) : Tr.prune (Tr.Sh.any.l.l.both
  (Tr.Sh.any.both Tr.Sh.any).r)
  (execBF Pr OA1 (smLT (0 : Nat) [rp_s]) (100 : Nat) Go.Proofs.Try.f23 [V.str s, a.v, z.v] []) =
  Tr.chk true
  (Tr.br (!isSmall z) (Tr.chk true (Tr.leaf (Fin.ret (V.str (bytesOf (ByteArray.mk #[]))), [])))
    (Tr.chk true
      (Tr.br (decide (BitVec.ofInt (64 : Nat) (16777216 : Int) < z.d))
        (Tr.chk true (Tr.leaf (Fin.ret (V.str (bytesOf (ByteArray.mk #[]))), [])))
        (Tr.chk
          (decide ((↑z.d.toNat : Int) ≤ (↑z.d.toNat : Int)) && decide ((↑z.d.toNat : Int) ≤ (281474976710656 : Int)) &&
                    decide (z.d.toNat * (1 : Nat) ≤ (281474976710656 : Nat)) &&
                  decide
                    ((List.replicate z.d.toNat (BitVec.ofInt (8 : Nat) (0 : Int))).length = z.d.toNat * (1 : Nat)) &&
                true &&
              (rp_ok
                  (RPS.mk s (List.replicate z.d.toNat (BitVec.ofInt (8 : Nat) (0 : Int))) z.d a.d
                    (BitVec.ofInt (64 : Nat) (0 : Int)) (isSmall a) z.d.toNat z.d.toNat) &&
                (decide
                    ((0 : Nat) + z.d.toNat ≤
                      (wrN (List.replicate z.d.toNat (BitVec.ofInt (8 : Nat) (0 : Int))) (0 : Nat)
                          (List.drop a.d.toNat s)
                          (rp_m
                            (RPS.mk s (List.replicate z.d.toNat (BitVec.ofInt (8 : Nat) (0 : Int))) z.d a.d
                              (BitVec.ofInt (64 : Nat) (0 : Int)) (isSmall a) z.d.toNat z.d.toNat))).length) &&
                  true)) &&
            true)
          (Tr.leaf
            (Fin.ret
                (V.str
                  (List.take z.d.toNat
                    (wrN (List.replicate z.d.toNat (BitVec.ofInt (8 : Nat) (0 : Int))) (0 : Nat) (List.drop a.d.toNat s)
                      (rp_m
                        (RPS.mk s (List.replicate z.d.toNat (BitVec.ofInt (8 : Nat) (0 : Int))) z.d a.d
                          (BitVec.ofInt (64 : Nat) (0 : Int)) (isSmall a) z.d.toNat z.d.toNat))))),
              [])))))) := by kernel_rfl
def partV (s : List (BitVec 8)) (a z : W4) : List (BitVec 8) := bif isSmall z then (bif isSmall a then partS s a.d z.d else partS s (BitVec.ofInt 64 (s.length : Int)) z.d) else []
theorem mpart_fn (s : List (BitVec 8)) (hs : s.length < 9223372036854775808) (a z : W4) : LFn Pr 22 [.str s, a.v, z.v] [] (.ret (.str (partV s a z))) [] := by
  refine fnT OA1_sound mixed (by kernel_rfl) LoopsOk.noneT (mpart_x s a z) ?_
  have hl : lenOk s.length s = true := lenOk_iff.2 ⟨rfl, hs⟩
  unfold partV
  rw [hl]
  cases isSmall z <;> cases isSmall a <;> simp [wp_chk, wp_br, wp_leaf] <;> rfl
end
end Go.Proofs.Ytajbaocfdlopbaa.K
end
section
open Go Go.Lh
namespace Go.Proofs.Ytajbaocfdlopbaa.K
noncomputable section
set_option maxRecDepth 100000
theorem rp_out {s : List (BitVec 8)} {f n m : Nat} (hm : m = min n (s.length - f)) : wrN (List.replicate n 0) 0 (s.drop f) m = padN s f n := by
  apply List.ext_getElem?
  intro i
  have hl : (wrN (List.replicate n (0 : BitVec 8)) 0 (s.drop f) m).length = n := by rw [wrN_length, List.length_replicate]
  rw [padN_get]
  by_cases hi : i < n
  · have h1 : (wrN (List.replicate n (0 : BitVec 8)) 0 (s.drop f) m)[i]? = some ((wrN (List.replicate n (0 : BitVec 8)) 0 (s.drop f) m).getD i 0) := by
      rw [List.getD_eq_getElem?_getD, List.getElem?_eq_getElem (by omega)]; rfl
    rw [h1, if_pos hi, wrN_getD (by rw [List.length_replicate]; omega)]
    congr 1
    by_cases h2 : i < m
    · rw [if_pos (by omega), List.getD_eq_getElem?_getD, List.getElem?_drop, Nat.sub_zero, List.getD_eq_getElem?_getD]
    · rw [if_neg (by omega), List.getD_eq_getElem?_getD, List.getElem?_replicate, if_pos hi, List.getD_eq_getElem?_getD, List.getElem?_eq_none_iff.2 (by omega)]; rfl
  · rw [if_neg hi, List.getElem?_eq_none_iff.2 (by omega)]
theorem rpart_fn (s : List (BitVec 8)) (hs : s.length < 9223372036854775808) (a z : W4) : LFn Pr 23 [.str s, a.v, z.v] [] (.ret (.str (partV s a z))) [] := by
  refine fnT OA1_sound mixed (by kernel_rfl) rp_Ls (rpart_x s a z) ?_
  unfold partV
  rw [wp_chk_true, wp_br, Bool.not_eq_true', Bool.not_eq_false']
  refine ⟨fun h => ?_, fun h => ?_⟩
  · rw [h]; exact tr1 rfl rfl
  · rw [h, wp_chk_true, wp_br, cond_true]
    refine ⟨fun h2 => ?_, fun h2 => ?_⟩
    · have h2 := of_decide_eq_true h2
      rw [BitVec.lt_def, c24] at h2
      rw [partS_far h2, partS_far h2]
      cases isSmall a <;> exact tr1 rfl rfl
    · have h2 := of_decide_eq_false h2
      rw [BitVec.lt_def, c24] at h2
      have hok : rp_ok ⟨s, List.replicate z.d.toNat (BitVec.ofInt 8 0), z.d, a.d, BitVec.ofInt 64 0, isSmall a, z.d.toNat, z.d.toNat⟩ = true := rp_ok_iff.2 ⟨rfl, hs, rfl, List.length_replicate, by show z.d.toNat ≤ _; omega⟩
      rw [hok]
      refine wp_chk.2 ⟨?_, ?_⟩
      · simp only [wrN_length, List.length_replicate, Bool.and_true, Bool.true_and, Bool.and_eq_true, decide_eq_true_eq, Nat.mul_one, Nat.zero_add]
        (repeat' apply And.intro) <;> first | omega | exact True.intro
      · rw [wp_leaf]
        refine congrArg (fun l => (Fin.ret (V.str l), ([] : Heap))) ?_
        rw [List.take_of_length_le (by rw [wrN_length, List.length_replicate]; exact Nat.le_refl _), partS_near h2, partS_near h2]
        show wrN (List.replicate z.d.toNat 0) 0 _ _ = _
        simp only [rp_m]
        cases isSmall a with
        | true => exact rp_out rfl
        | false =>
          simp only [cond_false, wrN]
          rw [padN_out (by rw [toNat_ofInt_nat (by omega)]; exact Nat.le_refl _)]
def readPV : List V → Heap → Option (List (BitVec 8) × W4 × W4) := fun args h => match args, h with
  | [.str s, .agg [.u64 a, .u64 b, .u64 c, .u64 d], .agg [.u64 e, .u64 f, .u64 g, .u64 k]], [] => some (s, ⟨a, b, c, d⟩, ⟨e, f, g, k⟩)
  | _, _ => none
def pv_f (p : List (BitVec 8) × W4 × W4) : Tr (Fin × Heap) := .chk (okN p.1.length) (.leaf (.ret (.str (partV p.1 p.2.1 p.2.2)), []))
theorem pv_okG {i : FuncId} (hf : ∀ s : List (BitVec 8), s.length < 9223372036854775808 → ∀ a z : W4, LFn Pr i [.str s, a.v, z.v] [] (.ret (.str (partV s a z))) []) : ∀ args h r, (ctT readPV pv_f args h).is r → LFn Pr i args h r.1 r.2 := by
  refine ctT_ok (fun p => [.str p.1, p.2.1.v, p.2.2.v]) (fun _ => []) ?_ (fun p r h => ?_)
  · intro args h a e
    unfold readPV at e
    split at e <;> cases e
    exact ⟨rfl, rfl⟩
  · obtain ⟨s, a, z⟩ := p
    simp only [pv_f, Tr.is_chk, Tr.is_leaf] at h
    obtain ⟨hn, rfl⟩ := h
    exact hf s (okN_iff.1 hn) a z
def KPt : KnownT := (19, mmex_g) :: (22, ctT readPV pv_f) :: (23, ctT readPV pv_f) :: KA1
theorem KPt_ok : KOkT Pr KPt := KOkT.cons mmex_en mmex_ok (KOkT.cons (Enters.of (fn := Go.Proofs.Try.f22) (by kernel_rfl) (by kernel_rfl)) (pv_okG mpart_fn) (KOkT.cons (Enters.of (fn := Go.Proofs.Try.f23) (by kernel_rfl) (by kernel_rfl)) (pv_okG rpart_fn) KA1_ok))
def OPt : OrcT := autoT Pr ext KPt [] 3
theorem OPt_sound : OrcSound Pr OPt.o := autoT_sound mixed ext_ok KPt_ok (by kernel_rfl) 3
theorem pt1_x (n : BitVec 64) (s : List (BitVec 8)) (a : W4) (z : W4) (b : Bool) : Tr.prune ((Tr.Sh.any.both
    Tr.Sh.any).r)
  (execBN Pr OPt noLoopsT (100 : Nat) (0 : Nat) [(0 : Nat), (1 : Nat), (7 : Nat), (8 : Nat), (11 : Nat)] []
  (takeSeq (3 : Nat) (bodyOf Go.Proofs.Try.f3)) (argsFr (0 : Nat) [V.u64 n, V.str s, a.v, z.v, V.bool b]) []) =
  Tr.chk true
  (Tr.br b
    (Tr.chk true
      (Tr.leaf
        (X.normal,
          [((0 : Nat), V.u64 n), ((1 : Nat), V.str s), ((7 : Nat), V.ptr (0 : Nat) (0 : Nat)),
            ((8 : Nat), V.ptr (1 : Nat) (0 : Nat)), ((11 : Nat), V.bool true)],
          [Blk.b64
              [BitVec.ofInt (64 : Nat) (0 : Int), BitVec.ofInt (64 : Nat) (0 : Int), BitVec.ofInt (64 : Nat) (0 : Int),
                a.d % BitVec.ofInt (64 : Nat) (65536 : Int)],
            Blk.b64
              [BitVec.ofInt (64 : Nat) (0 : Int), BitVec.ofInt (64 : Nat) (0 : Int), BitVec.ofInt (64 : Nat) (0 : Int),
                z.d % BitVec.ofInt (64 : Nat) (65536 : Int)]])))
    (Tr.leaf
      (X.normal,
        [((0 : Nat), V.u64 n), ((1 : Nat), V.str s), ((7 : Nat), V.ptr (0 : Nat) (0 : Nat)),
          ((8 : Nat), V.ptr (1 : Nat) (0 : Nat)), ((11 : Nat), V.bool true)],
        [Blk.b64 [a.a, a.b, a.c, a.d], Blk.b64 [z.a, z.b, z.c, z.d]]))) := by kernel_rfl
theorem pt2_x (n : BitVec 64) (s : List (BitVec 8)) (a : W4) (z : W4) : Tr.prune ((((Tr.Sh.any.both
                          Tr.Sh.any).l.l.both
                  Tr.Sh.any.r.r.r).l.l.both
          Tr.Sh.any.r.r.r.r.r.r).l.l.both
  Tr.Sh.any.r.r.r.r.r.r.r.r.r)
  (execBN Pr OPt noLoopsT (100 : Nat) (0 : Nat) [(0 : Nat), (1 : Nat), (7 : Nat), (8 : Nat), (11 : Nat)] []
  (takeSeq (0 : Nat) (dropSeq (3 : Nat) (bodyOf Go.Proofs.Try.f3)))
  [((0 : Nat), V.u64 n), ((1 : Nat), V.str s), ((7 : Nat), V.ptr (0 : Nat) (0 : Nat)),
    ((8 : Nat), V.ptr (1 : Nat) (0 : Nat)), ((11 : Nat), V.bool true)]
  [Blk.b64 [a.a, a.b, a.c, a.d], Blk.b64 [z.a, z.b, z.c, z.d]]) =
  Tr.chk true
  (Tr.br (z.a == BitVec.ofInt (64 : Nat) (0 : Int))
    (Tr.chk true
      (Tr.br (z.b == BitVec.ofInt (64 : Nat) (0 : Int))
        (Tr.chk true
          (Tr.br (z.c == BitVec.ofInt (64 : Nat) (0 : Int))
            (Tr.chk true
              (Tr.br (decide (z.d ≤ BitVec.ofInt (64 : Nat) (16777216 : Int)))
                (Tr.chk true
                  (Tr.leaf
                    (X.normal,
                      [((0 : Nat), V.u64 n), ((1 : Nat), V.str s), ((7 : Nat), V.ptr (0 : Nat) (0 : Nat)),
                        ((8 : Nat), V.ptr (1 : Nat) (0 : Nat)), ((11 : Nat), V.bool true)],
                      [Blk.b64 [a.a, a.b, a.c, a.d],
                        Blk.b64 [z.a, z.b, z.c, z.d % BitVec.ofInt (64 : Nat) (65536 : Int)]])))
                (Tr.leaf
                  (X.normal,
                    [((0 : Nat), V.u64 n), ((1 : Nat), V.str s), ((7 : Nat), V.ptr (0 : Nat) (0 : Nat)),
                      ((8 : Nat), V.ptr (1 : Nat) (0 : Nat)), ((11 : Nat), V.bool true)],
                    [Blk.b64 [a.a, a.b, a.c, a.d], Blk.b64 [z.a, z.b, z.c, z.d]]))))
            (Tr.chk true
              (Tr.leaf
                (X.normal,
                  [((0 : Nat), V.u64 n), ((1 : Nat), V.str s), ((7 : Nat), V.ptr (0 : Nat) (0 : Nat)),
                    ((8 : Nat), V.ptr (1 : Nat) (0 : Nat)), ((11 : Nat), V.bool true)],
                  [Blk.b64 [a.a, a.b, a.c, a.d], Blk.b64 [z.a, z.b, z.c, z.d]])))))
        (Tr.chk true
          (Tr.leaf
            (X.normal,
              [((0 : Nat), V.u64 n), ((1 : Nat), V.str s), ((7 : Nat), V.ptr (0 : Nat) (0 : Nat)),
                ((8 : Nat), V.ptr (1 : Nat) (0 : Nat)), ((11 : Nat), V.bool true)],
              [Blk.b64 [a.a, a.b, a.c, a.d], Blk.b64 [z.a, z.b, z.c, z.d]])))))
    (Tr.chk true
      (Tr.leaf
        (X.normal,
          [((0 : Nat), V.u64 n), ((1 : Nat), V.str s), ((7 : Nat), V.ptr (0 : Nat) (0 : Nat)),
            ((8 : Nat), V.ptr (1 : Nat) (0 : Nat)), ((11 : Nat), V.bool true)],
          [Blk.b64 [a.a, a.b, a.c, a.d], Blk.b64 [z.a, z.b, z.c, z.d]])))) := by kernel_rfl
theorem pt3_x (n : BitVec 64) (s : List (BitVec 8)) (a : W4) (z : W4) : Tr.prune ((Tr.Sh.any.l.l.l.l.l.l.l.l.both
            Tr.Sh.any.r.r.r.r.r.r.r.r).l.l.l.l.l)
  (execBR Pr OPt noLoopsT (100 : Nat) Go.Proofs.Try.f3 (0 : Nat)
  (dropSeq (0 : Nat) (dropSeq (3 : Nat) (bodyOf Go.Proofs.Try.f3)))
  [((0 : Nat), V.u64 n), ((1 : Nat), V.str s), ((7 : Nat), V.ptr (0 : Nat) (0 : Nat)),
    ((8 : Nat), V.ptr (1 : Nat) (0 : Nat)), ((11 : Nat), V.bool true)]
  [Blk.b64 [a.a, a.b, a.c, a.d], Blk.b64 [z.a, z.b, z.c, z.d]]) =
  Tr.chk true
  (Tr.br (costV n == costV n)
    (Tr.chk (okN s.length && (okN s.length && true)) (Tr.leaf (Fin.ret (V.bool (partV s a z == partV s a z)), [])))
    (Tr.chk true (Tr.leaf (Fin.ret (V.bool false), [])))) := by kernel_rfl
end
end Go.Proofs.Ytajbaocfdlopbaa.K
end
section
open Go Go.Lh
namespace Go.Proofs.Ytajbaocfdlopbaa.K
noncomputable section
set_option maxRecDepth 100000
def KD : KnownT := (25, ctT readNd need_f) :: (26, ctT readGr fun p => grow_f p.1 p.2.1 p.2.2) :: (34, ctT readWr fun p => write_f p.1 p.2.1 p.2.2.1 p.2.2.2) ::
  (74, ctT readWr fun p => writeR p.1 p.2.1 p.2.2.1 p.2.2.2) :: (23, ctT readPV pv_f) :: KR13
theorem KD_ok : KOkT Pr KD := KOkT.cons need_en need_ok (KOkT.cons grow_en grow_ok (KOkT.cons write_en write_ok
  (KOkT.cons (Enters.of (fn := Go.Proofs.Try.f74) (by kernel_rfl) (by kernel_rfl)) rwrite_ok (KOkT.cons (Enters.of (fn := Go.Proofs.Try.f23) (by kernel_rfl) (by kernel_rfl)) (pv_okG rpart_fn) KR13_ok))))
def OD : OrcT := autoT Pr ext KD [32, 31, 33, 29, 72, 73, 71, 30, 75] 6
theorem OD_sound : OrcSound Pr OD.o := autoT_sound mixed ext_ok KD_ok (by kernel_rfl) 6
theorem do1_x (k : BitVec 8) (a : BitVec 64) (z : BitVec 64) (b : Bool) (w : W4) (s : List (BitVec 8)) : Tr.prune (Tr.Sh.any.both
  Tr.Sh.any)
  (execBN Pr OD noLoopsT (100 : Nat) (2 : Nat)
  [(0 : Nat), (1 : Nat), (5 : Nat), (6 : Nat), (7 : Nat), (8 : Nat), (9 : Nat)] []
  (takeSeq (4 : Nat) (bodyOf Go.Proofs.Try.f28))
  (argsFr (0 : Nat)
    [V.ptr (0 : Nat) (0 : Nat), V.ptr (1 : Nat) (0 : Nat),
      V.agg [V.u8 k, V.u64 a, V.u64 z, V.bool b, V.u64 w.a, V.u64 w.b, V.u64 w.c, V.u64 w.d, V.str s]])
  [Blk.vals [V.nilSl], Blk.vals [V.nilSl]]) =
  Tr.chk true
  (Tr.br b
    (Tr.chk true
      (Tr.leaf
        (X.normal,
          [((0 : Nat), V.ptr (0 : Nat) (0 : Nat)), ((1 : Nat), V.ptr (1 : Nat) (0 : Nat)),
            ((5 : Nat), V.ptr (2 : Nat) (0 : Nat)), ((6 : Nat), V.bool false),
            ((7 : Nat), V.u64 (a % BitVec.ofInt (64 : Nat) (5000 : Int))),
            ((8 : Nat), V.u64 (z % BitVec.ofInt (64 : Nat) (300 : Int))), ((9 : Nat), V.u64 a)],
          [Blk.vals [V.nilSl], Blk.vals [V.nilSl],
            Blk.vals [V.u8 k, V.u64 a, V.u64 z, V.bool b, V.u64 w.a, V.u64 w.b, V.u64 w.c, V.u64 w.d, V.str s]])))
    (Tr.leaf
      (X.normal,
        [((0 : Nat), V.ptr (0 : Nat) (0 : Nat)), ((1 : Nat), V.ptr (1 : Nat) (0 : Nat)),
          ((5 : Nat), V.ptr (2 : Nat) (0 : Nat)), ((6 : Nat), V.bool false),
          ((7 : Nat), V.u64 (a % BitVec.ofInt (64 : Nat) (5000 : Int))),
          ((8 : Nat), V.u64 (z % BitVec.ofInt (64 : Nat) (300 : Int))),
          ((9 : Nat), V.u64 (a % BitVec.ofInt (64 : Nat) (5000 : Int)))],
        [Blk.vals [V.nilSl], Blk.vals [V.nilSl],
          Blk.vals
            [V.u8 k, V.u64 a, V.u64 z, V.bool b, V.u64 w.a, V.u64 w.b, V.u64 w.c, V.u64 w.d,
              V.str s]]))) := by kernel_rfl
theorem do2_x (k : BitVec 8) (a : BitVec 64) (z : BitVec 64) (f : BitVec 64) (a0 : BitVec 64) (z0 : BitVec 64) (b : Bool) (w : W4) (s : List (BitVec 8)) : Tr.prune (((Tr.Sh.any.l.l.both
          Tr.Sh.any.r.r).both
      (Tr.Sh.any.l.l.both Tr.Sh.any.r.r)).both
  (((Tr.Sh.any.both Tr.Sh.any).both (Tr.Sh.any.both Tr.Sh.any)).both
    (Tr.Sh.any.both
      (((Tr.Sh.any.both Tr.Sh.any).both (Tr.Sh.any.both Tr.Sh.any)).both
        (((Tr.Sh.any.both Tr.Sh.any).both (Tr.Sh.any.both Tr.Sh.any)).both
          (Tr.Sh.any.both ((Tr.Sh.any.both Tr.Sh.any).both (Tr.Sh.any.both Tr.Sh.any))))))))
  (execBR Pr OD noLoopsT (200 : Nat) Go.Proofs.Try.f28 (2 : Nat) (dropSeq (4 : Nat) (bodyOf Go.Proofs.Try.f28))
  [((0 : Nat), V.ptr (0 : Nat) (0 : Nat)), ((1 : Nat), V.ptr (1 : Nat) (0 : Nat)),
    ((5 : Nat), V.ptr (2 : Nat) (0 : Nat)), ((6 : Nat), V.bool false), ((7 : Nat), V.u64 a), ((8 : Nat), V.u64 z),
    ((9 : Nat), V.u64 f)]
  [Blk.vals [V.nilSl], Blk.vals [V.nilSl],
    Blk.vals [V.u8 k, V.u64 a0, V.u64 z0, V.bool b, V.u64 w.a, V.u64 w.b, V.u64 w.c, V.u64 w.d, V.str s]]) =
  Tr.chk true
  (Tr.br (k % BitVec.ofInt (8 : Nat) (7 : Int) == BitVec.ofInt (8 : Nat) (0 : Int))
    (Tr.chk true
      (Tr.br (!b)
        (Tr.chk (okN MS.nil.n && true && (okN MS.nil.n && true && true))
          (Tr.br
            (needC MS.nil.n
                (W4.mk (BitVec.ofInt (64 : Nat) (0 : Int)) (BitVec.ofInt (64 : Nat) (0 : Int))
                  (BitVec.ofInt (64 : Nat) (0 : Int)) f)
                (W4.mk (BitVec.ofInt (64 : Nat) (0 : Int)) (BitVec.ofInt (64 : Nat) (0 : Int))
                  (BitVec.ofInt (64 : Nat) (0 : Int)) z) ==
              needC MS.nil.n
                (W4.mk (BitVec.ofInt (64 : Nat) (0 : Int)) (BitVec.ofInt (64 : Nat) (0 : Int))
                  (BitVec.ofInt (64 : Nat) (0 : Int)) f)
                (W4.mk (BitVec.ofInt (64 : Nat) (0 : Int)) (BitVec.ofInt (64 : Nat) (0 : Int))
                  (BitVec.ofInt (64 : Nat) (0 : Int)) z))
            (Tr.chk true
              (Tr.leaf
                (Fin.ret
                    (V.bool
                      (needB
                          (W4.mk (BitVec.ofInt (64 : Nat) (0 : Int)) (BitVec.ofInt (64 : Nat) (0 : Int))
                            (BitVec.ofInt (64 : Nat) (0 : Int)) f)
                          (W4.mk (BitVec.ofInt (64 : Nat) (0 : Int)) (BitVec.ofInt (64 : Nat) (0 : Int))
                            (BitVec.ofInt (64 : Nat) (0 : Int)) z) ==
                        needB
                          (W4.mk (BitVec.ofInt (64 : Nat) (0 : Int)) (BitVec.ofInt (64 : Nat) (0 : Int))
                            (BitVec.ofInt (64 : Nat) (0 : Int)) f)
                          (W4.mk (BitVec.ofInt (64 : Nat) (0 : Int)) (BitVec.ofInt (64 : Nat) (0 : Int))
                            (BitVec.ofInt (64 : Nat) (0 : Int)) z))),
                  [Blk.vals [V.nilSl], Blk.vals [V.nilSl]])))
            (Tr.chk true (Tr.leaf (Fin.ret (V.bool false), [Blk.vals [V.nilSl], Blk.vals [V.nilSl]])))))
        (Tr.chk (okN MS.nil.n && true && (okN MS.nil.n && true && true))
          (Tr.br
            (needC MS.nil.n
                (W4.mk (BitVec.ofInt (64 : Nat) (0 : Int)) (BitVec.ofInt (64 : Nat) (0 : Int))
                  (BitVec.ofInt (64 : Nat) (0 : Int)) f)
                w ==
              needC MS.nil.n
                (W4.mk (BitVec.ofInt (64 : Nat) (0 : Int)) (BitVec.ofInt (64 : Nat) (0 : Int))
                  (BitVec.ofInt (64 : Nat) (0 : Int)) f)
                w)
            (Tr.chk true
              (Tr.leaf
                (Fin.ret
                    (V.bool
                      (needB
                          (W4.mk (BitVec.ofInt (64 : Nat) (0 : Int)) (BitVec.ofInt (64 : Nat) (0 : Int))
                            (BitVec.ofInt (64 : Nat) (0 : Int)) f)
                          w ==
                        needB
                          (W4.mk (BitVec.ofInt (64 : Nat) (0 : Int)) (BitVec.ofInt (64 : Nat) (0 : Int))
                            (BitVec.ofInt (64 : Nat) (0 : Int)) f)
                          w)),
                  [Blk.vals [V.nilSl], Blk.vals [V.nilSl]])))
            (Tr.chk true (Tr.leaf (Fin.ret (V.bool false), [Blk.vals [V.nilSl], Blk.vals [V.nilSl]])))))))
    (Tr.chk true
      (Tr.br (k % BitVec.ofInt (8 : Nat) (7 : Int) == BitVec.ofInt (8 : Nat) (1 : Int))
        (Tr.chk true
          (Tr.br (isGrow (0 : Nat) a z)
            (Tr.chk (m32 MS.nil.n)
              (Tr.br (isGrow (0 : Nat) a z)
                (Tr.chk true
                  (Tr.leaf
                    (Fin.ret (V.bool true),
                      [Blk.vals [V.sl (2 : Nat) (0 : Nat) (1 : Nat) (growL [] a z).length none],
                        Blk.vals [V.sl (3 : Nat) (0 : Nat) (1 : Nat) (growL [] a z).length none],
                        Blk.buf (5 : Nat) (growL [] a z), Blk.buf (5 : Nat) (growL [] a z)])))
                (Tr.chk true
                  (Tr.leaf
                    (Fin.ret (V.bool true),
                      [Blk.vals [V.sl (2 : Nat) (0 : Nat) (1 : Nat) (growL [] a z).length none], Blk.vals [V.nilSl],
                        Blk.buf (5 : Nat) (growL [] a z)])))))
            (Tr.chk (m32 MS.nil.n)
              (Tr.br (isGrow (0 : Nat) a z)
                (Tr.chk true
                  (Tr.leaf
                    (Fin.ret (V.bool true),
                      [Blk.vals [V.nilSl], Blk.vals [V.sl (2 : Nat) (0 : Nat) (1 : Nat) (growL [] a z).length none],
                        Blk.buf (5 : Nat) (growL [] a z)])))
                (Tr.chk true (Tr.leaf (Fin.ret (V.bool true), [Blk.vals [V.nilSl], Blk.vals [V.nilSl]])))))))
        (Tr.chk true
          (Tr.br (k % BitVec.ofInt (8 : Nat) (7 : Int) == BitVec.ofInt (8 : Nat) (2 : Int))
            (Tr.chk
              (okN (0 : Nat) && true && true &&
                        (is32
                            (partV []
                              (W4.mk (BitVec.ofInt (64 : Nat) (0 : Int)) (BitVec.ofInt (64 : Nat) (0 : Int))
                                (BitVec.ofInt (64 : Nat) (0 : Int)) f)
                              (W4.mk (BitVec.ofInt (64 : Nat) (0 : Int)) (BitVec.ofInt (64 : Nat) (0 : Int))
                                (BitVec.ofInt (64 : Nat) (0 : Int)) (BitVec.ofInt (64 : Nat) (32 : Int)))) &&
                          true) &&
                      true &&
                    true &&
                  true &&
                true)
              (Tr.leaf (Fin.ret (V.bool true), [Blk.vals [V.nilSl], Blk.vals [V.nilSl]])))
            (Tr.chk true
              (Tr.br (k % BitVec.ofInt (8 : Nat) (7 : Int) == BitVec.ofInt (8 : Nat) (3 : Int))
                (Tr.chk true
                  (Tr.br (wrOk a (BitVec.ofInt (64 : Nat) (32 : Int)))
                    (Tr.chk (m32 MS.nil.n && okN (32 : Nat))
                      (Tr.br (wrOk a (BitVec.ofInt (64 : Nat) (32 : Int)))
                        (Tr.chk true
                          (Tr.leaf
                            (Fin.ret (V.bool true),
                              [Blk.vals
                                  [V.sl (2 : Nat) (0 : Nat) (1 : Nat)
                                      (writeL [] a (BitVec.ofInt (64 : Nat) (32 : Int)) w.bytes).length none],
                                Blk.vals
                                  [V.sl (3 : Nat) (0 : Nat) (1 : Nat)
                                      (writeL [] a (BitVec.ofInt (64 : Nat) (32 : Int)) w.bytes).length none],
                                Blk.buf (5 : Nat) (writeL [] a (BitVec.ofInt (64 : Nat) (32 : Int)) w.bytes),
                                Blk.buf (5 : Nat) (writeL [] a (BitVec.ofInt (64 : Nat) (32 : Int)) w.bytes)])))
                        (Tr.chk true
                          (Tr.leaf
                            (Fin.ret (V.bool true),
                              [Blk.vals
                                  [V.sl (2 : Nat) (0 : Nat) (1 : Nat)
                                      (writeL [] a (BitVec.ofInt (64 : Nat) (32 : Int)) w.bytes).length none],
                                Blk.vals [V.nilSl],
                                Blk.buf (5 : Nat) (writeL [] a (BitVec.ofInt (64 : Nat) (32 : Int)) w.bytes)])))))
                    (Tr.chk (m32 MS.nil.n && okN (32 : Nat))
                      (Tr.br (wrOk a (BitVec.ofInt (64 : Nat) (32 : Int)))
                        (Tr.chk true
                          (Tr.leaf
                            (Fin.ret (V.bool true),
                              [Blk.vals [V.nilSl],
                                Blk.vals
                                  [V.sl (2 : Nat) (0 : Nat) (1 : Nat)
                                      (writeL [] a (BitVec.ofInt (64 : Nat) (32 : Int)) w.bytes).length none],
                                Blk.buf (5 : Nat) (writeL [] a (BitVec.ofInt (64 : Nat) (32 : Int)) w.bytes)])))
                        (Tr.chk true (Tr.leaf (Fin.ret (V.bool true), [Blk.vals [V.nilSl], Blk.vals [V.nilSl]])))))))
                (Tr.chk true
                  (Tr.br (k % BitVec.ofInt (8 : Nat) (7 : Int) == BitVec.ofInt (8 : Nat) (4 : Int))
                    (Tr.chk true
                      (Tr.br (wrOk a (BitVec.ofInt (64 : Nat) (1 : Int)))
                        (Tr.chk (m32 MS.nil.n && okN (1 : Nat))
                          (Tr.br (wrOk a (BitVec.ofInt (64 : Nat) (1 : Int)))
                            (Tr.chk true
                              (Tr.leaf
                                (Fin.ret (V.bool true),
                                  [Blk.vals
                                      [V.sl (2 : Nat) (0 : Nat) (1 : Nat)
                                          (writeL [] a (BitVec.ofInt (64 : Nat) (1 : Int))
                                              [BitVec.setWidth (8 : Nat) w.d]).length
                                          none],
                                    Blk.vals
                                      [V.sl (3 : Nat) (0 : Nat) (1 : Nat)
                                          (writeL [] a (BitVec.ofInt (64 : Nat) (1 : Int))
                                              [BitVec.setWidth (8 : Nat) w.d]).length
                                          none],
                                    Blk.buf (5 : Nat)
                                      (writeL [] a (BitVec.ofInt (64 : Nat) (1 : Int)) [BitVec.setWidth (8 : Nat) w.d]),
                                    Blk.buf (5 : Nat)
                                      (writeL [] a (BitVec.ofInt (64 : Nat) (1 : Int))
                                        [BitVec.setWidth (8 : Nat) w.d])])))
                            (Tr.chk true
                              (Tr.leaf
                                (Fin.ret (V.bool true),
                                  [Blk.vals
                                      [V.sl (2 : Nat) (0 : Nat) (1 : Nat)
                                          (writeL [] a (BitVec.ofInt (64 : Nat) (1 : Int))
                                              [BitVec.setWidth (8 : Nat) w.d]).length
                                          none],
                                    Blk.vals [V.nilSl],
                                    Blk.buf (5 : Nat)
                                      (writeL [] a (BitVec.ofInt (64 : Nat) (1 : Int))
                                        [BitVec.setWidth (8 : Nat) w.d])])))))
                        (Tr.chk (m32 MS.nil.n && okN (1 : Nat))
                          (Tr.br (wrOk a (BitVec.ofInt (64 : Nat) (1 : Int)))
                            (Tr.chk true
                              (Tr.leaf
                                (Fin.ret (V.bool true),
                                  [Blk.vals [V.nilSl],
                                    Blk.vals
                                      [V.sl (2 : Nat) (0 : Nat) (1 : Nat)
                                          (writeL [] a (BitVec.ofInt (64 : Nat) (1 : Int))
                                              [BitVec.setWidth (8 : Nat) w.d]).length
                                          none],
                                    Blk.buf (5 : Nat)
                                      (writeL [] a (BitVec.ofInt (64 : Nat) (1 : Int))
                                        [BitVec.setWidth (8 : Nat) w.d])])))
                            (Tr.chk true
                              (Tr.leaf (Fin.ret (V.bool true), [Blk.vals [V.nilSl], Blk.vals [V.nilSl]])))))))
                    (Tr.chk true
                      (Tr.br (k % BitVec.ofInt (8 : Nat) (7 : Int) == BitVec.ofInt (8 : Nat) (5 : Int))
                        (Tr.chk (okN (0 : Nat) && true && true && true && true)
                          (Tr.leaf
                            (Fin.ret
                                (V.bool
                                  (partS [] f z ==
                                    partV []
                                      (W4.mk (BitVec.ofInt (64 : Nat) (0 : Int)) (BitVec.ofInt (64 : Nat) (0 : Int))
                                        (BitVec.ofInt (64 : Nat) (0 : Int)) f)
                                      (W4.mk (BitVec.ofInt (64 : Nat) (0 : Int)) (BitVec.ofInt (64 : Nat) (0 : Int))
                                        (BitVec.ofInt (64 : Nat) (0 : Int)) z))),
                              [Blk.vals [V.nilSl], Blk.vals [V.nilSl]])))
                        (Tr.chk true
                          (Tr.br (wrOk a z)
                            (Tr.chk (m32 MS.nil.n && okN s.length)
                              (Tr.br (wrOk a z)
                                (Tr.chk true
                                  (Tr.leaf
                                    (Fin.ret (V.bool true),
                                      [Blk.vals [V.sl (2 : Nat) (0 : Nat) (1 : Nat) (writeL [] a z s).length none],
                                        Blk.vals [V.sl (3 : Nat) (0 : Nat) (1 : Nat) (writeL [] a z s).length none],
                                        Blk.buf (5 : Nat) (writeL [] a z s), Blk.buf (5 : Nat) (writeL [] a z s)])))
                                (Tr.chk true
                                  (Tr.leaf
                                    (Fin.ret (V.bool true),
                                      [Blk.vals [V.sl (2 : Nat) (0 : Nat) (1 : Nat) (writeL [] a z s).length none],
                                        Blk.vals [V.nilSl], Blk.buf (5 : Nat) (writeL [] a z s)])))))
                            (Tr.chk (m32 MS.nil.n && okN s.length)
                              (Tr.br (wrOk a z)
                                (Tr.chk true
                                  (Tr.leaf
                                    (Fin.ret (V.bool true),
                                      [Blk.vals [V.nilSl],
                                        Blk.vals [V.sl (2 : Nat) (0 : Nat) (1 : Nat) (writeL [] a z s).length none],
                                        Blk.buf (5 : Nat) (writeL [] a z s)])))
                                (Tr.chk true
                                  (Tr.leaf
                                    (Fin.ret (V.bool true),
                                      [Blk.vals [V.nilSl], Blk.vals [V.nilSl]])))))))))))))))))) := by kernel_rfl
theorem do3_x (k : BitVec 8) (a : BitVec 64) (z : BitVec 64) (b : Bool) (w : W4) (s : List (BitVec 8)) (n : Nat) (B : List (BitVec 8)) : Tr.prune (Tr.Sh.any.both
  Tr.Sh.any)
  (execBN Pr OD noLoopsT (100 : Nat) (4 : Nat)
  [(0 : Nat), (1 : Nat), (5 : Nat), (6 : Nat), (7 : Nat), (8 : Nat), (9 : Nat)] []
  (takeSeq (4 : Nat) (bodyOf Go.Proofs.Try.f28))
  (argsFr (0 : Nat)
    [V.ptr (0 : Nat) (0 : Nat), V.ptr (2 : Nat) (0 : Nat),
      V.agg [V.u8 k, V.u64 a, V.u64 z, V.bool b, V.u64 w.a, V.u64 w.b, V.u64 w.c, V.u64 w.d, V.str s]])
  [Blk.vals [V.sl (1 : Nat) (0 : Nat) (1 : Nat) n none], Blk.buf (5 : TypeId) B,
    Blk.vals [V.sl (3 : Nat) (0 : Nat) (1 : Nat) n none], Blk.buf (5 : TypeId) B]) =
  Tr.chk true
  (Tr.br b
    (Tr.chk true
      (Tr.leaf
        (X.normal,
          [((0 : Nat), V.ptr (0 : Nat) (0 : Nat)), ((1 : Nat), V.ptr (2 : Nat) (0 : Nat)),
            ((5 : Nat), V.ptr (4 : Nat) (0 : Nat)), ((6 : Nat), V.bool false),
            ((7 : Nat), V.u64 (a % BitVec.ofInt (64 : Nat) (5000 : Int))),
            ((8 : Nat), V.u64 (z % BitVec.ofInt (64 : Nat) (300 : Int))), ((9 : Nat), V.u64 a)],
          [Blk.vals [V.sl (1 : Nat) (0 : Nat) (1 : Nat) n none], Blk.buf (5 : Nat) B,
            Blk.vals [V.sl (3 : Nat) (0 : Nat) (1 : Nat) n none], Blk.buf (5 : Nat) B,
            Blk.vals [V.u8 k, V.u64 a, V.u64 z, V.bool b, V.u64 w.a, V.u64 w.b, V.u64 w.c, V.u64 w.d, V.str s]])))
    (Tr.leaf
      (X.normal,
        [((0 : Nat), V.ptr (0 : Nat) (0 : Nat)), ((1 : Nat), V.ptr (2 : Nat) (0 : Nat)),
          ((5 : Nat), V.ptr (4 : Nat) (0 : Nat)), ((6 : Nat), V.bool false),
          ((7 : Nat), V.u64 (a % BitVec.ofInt (64 : Nat) (5000 : Int))),
          ((8 : Nat), V.u64 (z % BitVec.ofInt (64 : Nat) (300 : Int))),
          ((9 : Nat), V.u64 (a % BitVec.ofInt (64 : Nat) (5000 : Int)))],
        [Blk.vals [V.sl (1 : Nat) (0 : Nat) (1 : Nat) n none], Blk.buf (5 : Nat) B,
          Blk.vals [V.sl (3 : Nat) (0 : Nat) (1 : Nat) n none], Blk.buf (5 : Nat) B,
          Blk.vals
            [V.u8 k, V.u64 a, V.u64 z, V.bool b, V.u64 w.a, V.u64 w.b, V.u64 w.c, V.u64 w.d,
              V.str s]]))) := by kernel_rfl
theorem do4_x (k : BitVec 8) (a : BitVec 64) (z : BitVec 64) (f : BitVec 64) (a0 : BitVec 64) (z0 : BitVec 64) (b : Bool) (w : W4) (s : List (BitVec 8)) (n : Nat) (B : List (BitVec 8)) : Tr.prune (((Tr.Sh.any.l.l.both
          Tr.Sh.any.r.r).both
      (Tr.Sh.any.l.l.both Tr.Sh.any.r.r)).both
  (((Tr.Sh.any.both Tr.Sh.any).both (Tr.Sh.any.both Tr.Sh.any)).both
    (Tr.Sh.any.both
      (((((Tr.Sh.any.both Tr.Sh.any).both Tr.Sh.any).both ((Tr.Sh.any.both Tr.Sh.any).both Tr.Sh.any)).both
            ((Tr.Sh.any.both Tr.Sh.any).both Tr.Sh.any)).both
        (((((Tr.Sh.any.both Tr.Sh.any).both Tr.Sh.any).both ((Tr.Sh.any.both Tr.Sh.any).both Tr.Sh.any)).both
              ((Tr.Sh.any.both Tr.Sh.any).both Tr.Sh.any)).both
          (Tr.Sh.any.both
            ((((Tr.Sh.any.both Tr.Sh.any).both Tr.Sh.any).both ((Tr.Sh.any.both Tr.Sh.any).both Tr.Sh.any)).both
              ((Tr.Sh.any.both Tr.Sh.any).both Tr.Sh.any))))))))
  (execBR Pr OD noLoopsT (200 : Nat) Go.Proofs.Try.f28 (4 : Nat) (dropSeq (4 : Nat) (bodyOf Go.Proofs.Try.f28))
  [((0 : Nat), V.ptr (0 : Nat) (0 : Nat)), ((1 : Nat), V.ptr (2 : Nat) (0 : Nat)),
    ((5 : Nat), V.ptr (4 : Nat) (0 : Nat)), ((6 : Nat), V.bool false), ((7 : Nat), V.u64 a), ((8 : Nat), V.u64 z),
    ((9 : Nat), V.u64 f)]
  [Blk.vals [V.sl (1 : Nat) (0 : Nat) (1 : Nat) n none], Blk.buf (5 : TypeId) B,
    Blk.vals [V.sl (3 : Nat) (0 : Nat) (1 : Nat) n none], Blk.buf (5 : TypeId) B,
    Blk.vals [V.u8 k, V.u64 a0, V.u64 z0, V.bool b, V.u64 w.a, V.u64 w.b, V.u64 w.c, V.u64 w.d, V.str s]]) =
  Tr.chk true
  (Tr.br (k % BitVec.ofInt (8 : Nat) (7 : Int) == BitVec.ofInt (8 : Nat) (0 : Int))
    (Tr.chk true
      (Tr.br (!b)
        (Tr.chk (okN (MS.some n B).n && true && (okN (MS.some n B).n && true && true))
          (Tr.br
            (needC (MS.some n B).n
                (W4.mk (BitVec.ofInt (64 : Nat) (0 : Int)) (BitVec.ofInt (64 : Nat) (0 : Int))
                  (BitVec.ofInt (64 : Nat) (0 : Int)) f)
                (W4.mk (BitVec.ofInt (64 : Nat) (0 : Int)) (BitVec.ofInt (64 : Nat) (0 : Int))
                  (BitVec.ofInt (64 : Nat) (0 : Int)) z) ==
              needC (MS.some n B).n
                (W4.mk (BitVec.ofInt (64 : Nat) (0 : Int)) (BitVec.ofInt (64 : Nat) (0 : Int))
                  (BitVec.ofInt (64 : Nat) (0 : Int)) f)
                (W4.mk (BitVec.ofInt (64 : Nat) (0 : Int)) (BitVec.ofInt (64 : Nat) (0 : Int))
                  (BitVec.ofInt (64 : Nat) (0 : Int)) z))
            (Tr.chk true
              (Tr.leaf
                (Fin.ret
                    (V.bool
                      (needB
                          (W4.mk (BitVec.ofInt (64 : Nat) (0 : Int)) (BitVec.ofInt (64 : Nat) (0 : Int))
                            (BitVec.ofInt (64 : Nat) (0 : Int)) f)
                          (W4.mk (BitVec.ofInt (64 : Nat) (0 : Int)) (BitVec.ofInt (64 : Nat) (0 : Int))
                            (BitVec.ofInt (64 : Nat) (0 : Int)) z) ==
                        needB
                          (W4.mk (BitVec.ofInt (64 : Nat) (0 : Int)) (BitVec.ofInt (64 : Nat) (0 : Int))
                            (BitVec.ofInt (64 : Nat) (0 : Int)) f)
                          (W4.mk (BitVec.ofInt (64 : Nat) (0 : Int)) (BitVec.ofInt (64 : Nat) (0 : Int))
                            (BitVec.ofInt (64 : Nat) (0 : Int)) z))),
                  [Blk.vals [V.sl (1 : Nat) (0 : Nat) (1 : Nat) n none], Blk.buf (5 : Nat) B,
                    Blk.vals [V.sl (3 : Nat) (0 : Nat) (1 : Nat) n none], Blk.buf (5 : Nat) B])))
            (Tr.chk true
              (Tr.leaf
                (Fin.ret (V.bool false),
                  [Blk.vals [V.sl (1 : Nat) (0 : Nat) (1 : Nat) n none], Blk.buf (5 : Nat) B,
                    Blk.vals [V.sl (3 : Nat) (0 : Nat) (1 : Nat) n none], Blk.buf (5 : Nat) B])))))
        (Tr.chk (okN (MS.some n B).n && true && (okN (MS.some n B).n && true && true))
          (Tr.br
            (needC (MS.some n B).n
                (W4.mk (BitVec.ofInt (64 : Nat) (0 : Int)) (BitVec.ofInt (64 : Nat) (0 : Int))
                  (BitVec.ofInt (64 : Nat) (0 : Int)) f)
                w ==
              needC (MS.some n B).n
                (W4.mk (BitVec.ofInt (64 : Nat) (0 : Int)) (BitVec.ofInt (64 : Nat) (0 : Int))
                  (BitVec.ofInt (64 : Nat) (0 : Int)) f)
                w)
            (Tr.chk true
              (Tr.leaf
                (Fin.ret
                    (V.bool
                      (needB
                          (W4.mk (BitVec.ofInt (64 : Nat) (0 : Int)) (BitVec.ofInt (64 : Nat) (0 : Int))
                            (BitVec.ofInt (64 : Nat) (0 : Int)) f)
                          w ==
                        needB
                          (W4.mk (BitVec.ofInt (64 : Nat) (0 : Int)) (BitVec.ofInt (64 : Nat) (0 : Int))
                            (BitVec.ofInt (64 : Nat) (0 : Int)) f)
                          w)),
                  [Blk.vals [V.sl (1 : Nat) (0 : Nat) (1 : Nat) n none], Blk.buf (5 : Nat) B,
                    Blk.vals [V.sl (3 : Nat) (0 : Nat) (1 : Nat) n none], Blk.buf (5 : Nat) B])))
            (Tr.chk true
              (Tr.leaf
                (Fin.ret (V.bool false),
                  [Blk.vals [V.sl (1 : Nat) (0 : Nat) (1 : Nat) n none], Blk.buf (5 : Nat) B,
                    Blk.vals [V.sl (3 : Nat) (0 : Nat) (1 : Nat) n none], Blk.buf (5 : Nat) B])))))))
    (Tr.chk true
      (Tr.br (k % BitVec.ofInt (8 : Nat) (7 : Int) == BitVec.ofInt (8 : Nat) (1 : Int))
        (Tr.chk (lenOk n B)
          (Tr.br (isGrow n a z)
            (Tr.chk (m32 (MS.some n B).n && lenOk n B)
              (Tr.br (isGrow n a z)
                (Tr.chk true
                  (Tr.leaf
                    (Fin.ret (V.bool true),
                      [Blk.vals [V.sl (4 : Nat) (0 : Nat) (1 : Nat) (growL B a z).length none], Blk.dead,
                        Blk.vals [V.sl (5 : Nat) (0 : Nat) (1 : Nat) (growL B a z).length none], Blk.dead,
                        Blk.buf (5 : Nat) (growL B a z), Blk.buf (5 : Nat) (growL B a z)])))
                (Tr.chk true
                  (Tr.leaf
                    (Fin.ret (V.bool true),
                      [Blk.vals [V.sl (4 : Nat) (0 : Nat) (1 : Nat) (growL B a z).length none], Blk.dead,
                        Blk.vals [V.sl (3 : Nat) (0 : Nat) (1 : Nat) n none], Blk.buf (5 : Nat) B,
                        Blk.buf (5 : Nat) (growL B a z)])))))
            (Tr.chk (m32 (MS.some n B).n && lenOk n B)
              (Tr.br (isGrow n a z)
                (Tr.chk true
                  (Tr.leaf
                    (Fin.ret (V.bool true),
                      [Blk.vals [V.sl (1 : Nat) (0 : Nat) (1 : Nat) n none], Blk.buf (5 : Nat) B,
                        Blk.vals [V.sl (4 : Nat) (0 : Nat) (1 : Nat) (growL B a z).length none], Blk.dead,
                        Blk.buf (5 : Nat) (growL B a z)])))
                (Tr.chk true
                  (Tr.leaf
                    (Fin.ret (V.bool true),
                      [Blk.vals [V.sl (1 : Nat) (0 : Nat) (1 : Nat) n none], Blk.buf (5 : Nat) B,
                        Blk.vals [V.sl (3 : Nat) (0 : Nat) (1 : Nat) n none], Blk.buf (5 : Nat) B])))))))
        (Tr.chk true
          (Tr.br (k % BitVec.ofInt (8 : Nat) (7 : Int) == BitVec.ofInt (8 : Nat) (2 : Int))
            (Tr.chk
              (lenOk n B && true && true && true && true && true &&
                  (decide ((0 : Nat) + n ≤ B.length) && (okN (List.take n B).length && true) && true &&
                          (is32
                              (partV (List.take n B)
                                (W4.mk (BitVec.ofInt (64 : Nat) (0 : Int)) (BitVec.ofInt (64 : Nat) (0 : Int))
                                  (BitVec.ofInt (64 : Nat) (0 : Int)) f)
                                (W4.mk (BitVec.ofInt (64 : Nat) (0 : Int)) (BitVec.ofInt (64 : Nat) (0 : Int))
                                  (BitVec.ofInt (64 : Nat) (0 : Int)) (BitVec.ofInt (64 : Nat) (32 : Int)))) &&
                            true) &&
                        true &&
                      true &&
                    true) &&
                true)
              (Tr.leaf
                (Fin.ret
                    (V.bool
                      ((W4.ofBytes (partS B f (BitVec.ofInt (64 : Nat) (32 : Int)))).a ==
                          (W4.ofBytes
                              (partV (List.take n B)
                                (W4.mk (BitVec.ofInt (64 : Nat) (0 : Int)) (BitVec.ofInt (64 : Nat) (0 : Int))
                                  (BitVec.ofInt (64 : Nat) (0 : Int)) f)
                                (W4.mk (BitVec.ofInt (64 : Nat) (0 : Int)) (BitVec.ofInt (64 : Nat) (0 : Int))
                                  (BitVec.ofInt (64 : Nat) (0 : Int)) (BitVec.ofInt (64 : Nat) (32 : Int))))).a &&
                        ((W4.ofBytes (partS B f (BitVec.ofInt (64 : Nat) (32 : Int)))).b ==
                            (W4.ofBytes
                                (partV (List.take n B)
                                  (W4.mk (BitVec.ofInt (64 : Nat) (0 : Int)) (BitVec.ofInt (64 : Nat) (0 : Int))
                                    (BitVec.ofInt (64 : Nat) (0 : Int)) f)
                                  (W4.mk (BitVec.ofInt (64 : Nat) (0 : Int)) (BitVec.ofInt (64 : Nat) (0 : Int))
                                    (BitVec.ofInt (64 : Nat) (0 : Int)) (BitVec.ofInt (64 : Nat) (32 : Int))))).b &&
                          ((W4.ofBytes (partS B f (BitVec.ofInt (64 : Nat) (32 : Int)))).c ==
                              (W4.ofBytes
                                  (partV (List.take n B)
                                    (W4.mk (BitVec.ofInt (64 : Nat) (0 : Int)) (BitVec.ofInt (64 : Nat) (0 : Int))
                                      (BitVec.ofInt (64 : Nat) (0 : Int)) f)
                                    (W4.mk (BitVec.ofInt (64 : Nat) (0 : Int)) (BitVec.ofInt (64 : Nat) (0 : Int))
                                      (BitVec.ofInt (64 : Nat) (0 : Int)) (BitVec.ofInt (64 : Nat) (32 : Int))))).c &&
                            ((W4.ofBytes (partS B f (BitVec.ofInt (64 : Nat) (32 : Int)))).d ==
                                (W4.ofBytes
                                    (partV (List.take n B)
                                      (W4.mk (BitVec.ofInt (64 : Nat) (0 : Int)) (BitVec.ofInt (64 : Nat) (0 : Int))
                                        (BitVec.ofInt (64 : Nat) (0 : Int)) f)
                                      (W4.mk (BitVec.ofInt (64 : Nat) (0 : Int)) (BitVec.ofInt (64 : Nat) (0 : Int))
                                        (BitVec.ofInt (64 : Nat) (0 : Int)) (BitVec.ofInt (64 : Nat) (32 : Int))))).d &&
                              true))))),
                  [Blk.vals [V.sl (1 : Nat) (0 : Nat) (1 : Nat) n none], Blk.buf (5 : Nat) B,
                    Blk.vals [V.sl (3 : Nat) (0 : Nat) (1 : Nat) n none], Blk.buf (5 : Nat) B])))
            (Tr.chk true
              (Tr.br (k % BitVec.ofInt (8 : Nat) (7 : Int) == BitVec.ofInt (8 : Nat) (3 : Int))
                (Tr.chk (lenOk n B)
                  (Tr.br (wrOk a (BitVec.ofInt (64 : Nat) (32 : Int)))
                    (Tr.br (isGrow n a (BitVec.ofInt (64 : Nat) (32 : Int)))
                      (Tr.chk (m32 (MS.some n B).n && okN (32 : Nat) && lenOk n B)
                        (Tr.br (wrOk a (BitVec.ofInt (64 : Nat) (32 : Int)))
                          (Tr.br (isGrow n a (BitVec.ofInt (64 : Nat) (32 : Int)))
                            (Tr.chk true
                              (Tr.leaf
                                (Fin.ret (V.bool true),
                                  [Blk.vals
                                      [V.sl (4 : Nat) (0 : Nat) (1 : Nat)
                                          (writeL B a (BitVec.ofInt (64 : Nat) (32 : Int)) w.bytes).length none],
                                    Blk.dead,
                                    Blk.vals
                                      [V.sl (5 : Nat) (0 : Nat) (1 : Nat)
                                          (writeL B a (BitVec.ofInt (64 : Nat) (32 : Int)) w.bytes).length none],
                                    Blk.dead,
                                    Blk.buf (5 : Nat) (writeL B a (BitVec.ofInt (64 : Nat) (32 : Int)) w.bytes),
                                    Blk.buf (5 : Nat) (writeL B a (BitVec.ofInt (64 : Nat) (32 : Int)) w.bytes)])))
                            (Tr.chk true
                              (Tr.leaf
                                (Fin.ret (V.bool true),
                                  [Blk.vals
                                      [V.sl (4 : Nat) (0 : Nat) (1 : Nat)
                                          (writeL B a (BitVec.ofInt (64 : Nat) (32 : Int)) w.bytes).length none],
                                    Blk.dead, Blk.vals [V.sl (3 : Nat) (0 : Nat) (1 : Nat) n none],
                                    Blk.buf (5 : Nat) (writeL B a (BitVec.ofInt (64 : Nat) (32 : Int)) w.bytes),
                                    Blk.buf (5 : Nat) (writeL B a (BitVec.ofInt (64 : Nat) (32 : Int)) w.bytes)]))))
                          (Tr.chk true
                            (Tr.leaf
                              (Fin.ret (V.bool true),
                                [Blk.vals
                                    [V.sl (4 : Nat) (0 : Nat) (1 : Nat)
                                        (writeL B a (BitVec.ofInt (64 : Nat) (32 : Int)) w.bytes).length none],
                                  Blk.dead, Blk.vals [V.sl (3 : Nat) (0 : Nat) (1 : Nat) n none], Blk.buf (5 : Nat) B,
                                  Blk.buf (5 : Nat) (writeL B a (BitVec.ofInt (64 : Nat) (32 : Int)) w.bytes)])))))
                      (Tr.chk (m32 (MS.some n B).n && okN (32 : Nat) && lenOk n B)
                        (Tr.br (wrOk a (BitVec.ofInt (64 : Nat) (32 : Int)))
                          (Tr.br (isGrow n a (BitVec.ofInt (64 : Nat) (32 : Int)))
                            (Tr.chk true
                              (Tr.leaf
                                (Fin.ret (V.bool true),
                                  [Blk.vals [V.sl (1 : Nat) (0 : Nat) (1 : Nat) n none],
                                    Blk.buf (5 : Nat) (writeL B a (BitVec.ofInt (64 : Nat) (32 : Int)) w.bytes),
                                    Blk.vals
                                      [V.sl (4 : Nat) (0 : Nat) (1 : Nat)
                                          (writeL B a (BitVec.ofInt (64 : Nat) (32 : Int)) w.bytes).length none],
                                    Blk.dead,
                                    Blk.buf (5 : Nat) (writeL B a (BitVec.ofInt (64 : Nat) (32 : Int)) w.bytes)])))
                            (Tr.chk true
                              (Tr.leaf
                                (Fin.ret (V.bool true),
                                  [Blk.vals [V.sl (1 : Nat) (0 : Nat) (1 : Nat) n none],
                                    Blk.buf (5 : Nat) (writeL B a (BitVec.ofInt (64 : Nat) (32 : Int)) w.bytes),
                                    Blk.vals [V.sl (3 : Nat) (0 : Nat) (1 : Nat) n none],
                                    Blk.buf (5 : Nat) (writeL B a (BitVec.ofInt (64 : Nat) (32 : Int)) w.bytes)]))))
                          (Tr.chk true
                            (Tr.leaf
                              (Fin.ret (V.bool true),
                                [Blk.vals [V.sl (1 : Nat) (0 : Nat) (1 : Nat) n none],
                                  Blk.buf (5 : Nat) (writeL B a (BitVec.ofInt (64 : Nat) (32 : Int)) w.bytes),
                                  Blk.vals [V.sl (3 : Nat) (0 : Nat) (1 : Nat) n none], Blk.buf (5 : Nat) B]))))))
                    (Tr.chk (m32 (MS.some n B).n && okN (32 : Nat) && lenOk n B)
                      (Tr.br (wrOk a (BitVec.ofInt (64 : Nat) (32 : Int)))
                        (Tr.br (isGrow n a (BitVec.ofInt (64 : Nat) (32 : Int)))
                          (Tr.chk true
                            (Tr.leaf
                              (Fin.ret (V.bool true),
                                [Blk.vals [V.sl (1 : Nat) (0 : Nat) (1 : Nat) n none], Blk.buf (5 : Nat) B,
                                  Blk.vals
                                    [V.sl (4 : Nat) (0 : Nat) (1 : Nat)
                                        (writeL B a (BitVec.ofInt (64 : Nat) (32 : Int)) w.bytes).length none],
                                  Blk.dead,
                                  Blk.buf (5 : Nat) (writeL B a (BitVec.ofInt (64 : Nat) (32 : Int)) w.bytes)])))
                          (Tr.chk true
                            (Tr.leaf
                              (Fin.ret (V.bool true),
                                [Blk.vals [V.sl (1 : Nat) (0 : Nat) (1 : Nat) n none], Blk.buf (5 : Nat) B,
                                  Blk.vals [V.sl (3 : Nat) (0 : Nat) (1 : Nat) n none],
                                  Blk.buf (5 : Nat) (writeL B a (BitVec.ofInt (64 : Nat) (32 : Int)) w.bytes)]))))
                        (Tr.chk true
                          (Tr.leaf
                            (Fin.ret (V.bool true),
                              [Blk.vals [V.sl (1 : Nat) (0 : Nat) (1 : Nat) n none], Blk.buf (5 : Nat) B,
                                Blk.vals [V.sl (3 : Nat) (0 : Nat) (1 : Nat) n none], Blk.buf (5 : Nat) B])))))))
                (Tr.chk true
                  (Tr.br (k % BitVec.ofInt (8 : Nat) (7 : Int) == BitVec.ofInt (8 : Nat) (4 : Int))
                    (Tr.chk (lenOk n B)
                      (Tr.br (wrOk a (BitVec.ofInt (64 : Nat) (1 : Int)))
                        (Tr.br (isGrow n a (BitVec.ofInt (64 : Nat) (1 : Int)))
                          (Tr.chk (m32 (MS.some n B).n && okN (1 : Nat) && lenOk n B)
                            (Tr.br (wrOk a (BitVec.ofInt (64 : Nat) (1 : Int)))
                              (Tr.br (isGrow n a (BitVec.ofInt (64 : Nat) (1 : Int)))
                                (Tr.chk true
                                  (Tr.leaf
                                    (Fin.ret (V.bool true),
                                      [Blk.vals
                                          [V.sl (4 : Nat) (0 : Nat) (1 : Nat)
                                              (writeL B a (BitVec.ofInt (64 : Nat) (1 : Int))
                                                  [BitVec.setWidth (8 : Nat) w.d]).length
                                              none],
                                        Blk.dead,
                                        Blk.vals
                                          [V.sl (5 : Nat) (0 : Nat) (1 : Nat)
                                              (writeL B a (BitVec.ofInt (64 : Nat) (1 : Int))
                                                  [BitVec.setWidth (8 : Nat) w.d]).length
                                              none],
                                        Blk.dead,
                                        Blk.buf (5 : Nat)
                                          (writeL B a (BitVec.ofInt (64 : Nat) (1 : Int))
                                            [BitVec.setWidth (8 : Nat) w.d]),
                                        Blk.buf (5 : Nat)
                                          (writeL B a (BitVec.ofInt (64 : Nat) (1 : Int))
                                            [BitVec.setWidth (8 : Nat) w.d])])))
                                (Tr.chk true
                                  (Tr.leaf
                                    (Fin.ret (V.bool true),
                                      [Blk.vals
                                          [V.sl (4 : Nat) (0 : Nat) (1 : Nat)
                                              (writeL B a (BitVec.ofInt (64 : Nat) (1 : Int))
                                                  [BitVec.setWidth (8 : Nat) w.d]).length
                                              none],
                                        Blk.dead, Blk.vals [V.sl (3 : Nat) (0 : Nat) (1 : Nat) n none],
                                        Blk.buf (5 : Nat)
                                          (writeL B a (BitVec.ofInt (64 : Nat) (1 : Int))
                                            [BitVec.setWidth (8 : Nat) w.d]),
                                        Blk.buf (5 : Nat)
                                          (writeL B a (BitVec.ofInt (64 : Nat) (1 : Int))
                                            [BitVec.setWidth (8 : Nat) w.d])]))))
                              (Tr.chk true
                                (Tr.leaf
                                  (Fin.ret (V.bool true),
                                    [Blk.vals
                                        [V.sl (4 : Nat) (0 : Nat) (1 : Nat)
                                            (writeL B a (BitVec.ofInt (64 : Nat) (1 : Int))
                                                [BitVec.setWidth (8 : Nat) w.d]).length
                                            none],
                                      Blk.dead, Blk.vals [V.sl (3 : Nat) (0 : Nat) (1 : Nat) n none],
                                      Blk.buf (5 : Nat) B,
                                      Blk.buf (5 : Nat)
                                        (writeL B a (BitVec.ofInt (64 : Nat) (1 : Int))
                                          [BitVec.setWidth (8 : Nat) w.d])])))))
                          (Tr.chk (m32 (MS.some n B).n && okN (1 : Nat) && lenOk n B)
                            (Tr.br (wrOk a (BitVec.ofInt (64 : Nat) (1 : Int)))
                              (Tr.br (isGrow n a (BitVec.ofInt (64 : Nat) (1 : Int)))
                                (Tr.chk true
                                  (Tr.leaf
                                    (Fin.ret (V.bool true),
                                      [Blk.vals [V.sl (1 : Nat) (0 : Nat) (1 : Nat) n none],
                                        Blk.buf (5 : Nat)
                                          (writeL B a (BitVec.ofInt (64 : Nat) (1 : Int))
                                            [BitVec.setWidth (8 : Nat) w.d]),
                                        Blk.vals
                                          [V.sl (4 : Nat) (0 : Nat) (1 : Nat)
                                              (writeL B a (BitVec.ofInt (64 : Nat) (1 : Int))
                                                  [BitVec.setWidth (8 : Nat) w.d]).length
                                              none],
                                        Blk.dead,
                                        Blk.buf (5 : Nat)
                                          (writeL B a (BitVec.ofInt (64 : Nat) (1 : Int))
                                            [BitVec.setWidth (8 : Nat) w.d])])))
                                (Tr.chk true
                                  (Tr.leaf
                                    (Fin.ret (V.bool true),
                                      [Blk.vals [V.sl (1 : Nat) (0 : Nat) (1 : Nat) n none],
                                        Blk.buf (5 : Nat)
                                          (writeL B a (BitVec.ofInt (64 : Nat) (1 : Int))
                                            [BitVec.setWidth (8 : Nat) w.d]),
                                        Blk.vals [V.sl (3 : Nat) (0 : Nat) (1 : Nat) n none],
                                        Blk.buf (5 : Nat)
                                          (writeL B a (BitVec.ofInt (64 : Nat) (1 : Int))
                                            [BitVec.setWidth (8 : Nat) w.d])]))))
                              (Tr.chk true
                                (Tr.leaf
                                  (Fin.ret (V.bool true),
                                    [Blk.vals [V.sl (1 : Nat) (0 : Nat) (1 : Nat) n none],
                                      Blk.buf (5 : Nat)
                                        (writeL B a (BitVec.ofInt (64 : Nat) (1 : Int))
                                          [BitVec.setWidth (8 : Nat) w.d]),
                                      Blk.vals [V.sl (3 : Nat) (0 : Nat) (1 : Nat) n none], Blk.buf (5 : Nat) B]))))))
                        (Tr.chk (m32 (MS.some n B).n && okN (1 : Nat) && lenOk n B)
                          (Tr.br (wrOk a (BitVec.ofInt (64 : Nat) (1 : Int)))
                            (Tr.br (isGrow n a (BitVec.ofInt (64 : Nat) (1 : Int)))
                              (Tr.chk true
                                (Tr.leaf
                                  (Fin.ret (V.bool true),
                                    [Blk.vals [V.sl (1 : Nat) (0 : Nat) (1 : Nat) n none], Blk.buf (5 : Nat) B,
                                      Blk.vals
                                        [V.sl (4 : Nat) (0 : Nat) (1 : Nat)
                                            (writeL B a (BitVec.ofInt (64 : Nat) (1 : Int))
                                                [BitVec.setWidth (8 : Nat) w.d]).length
                                            none],
                                      Blk.dead,
                                      Blk.buf (5 : Nat)
                                        (writeL B a (BitVec.ofInt (64 : Nat) (1 : Int))
                                          [BitVec.setWidth (8 : Nat) w.d])])))
                              (Tr.chk true
                                (Tr.leaf
                                  (Fin.ret (V.bool true),
                                    [Blk.vals [V.sl (1 : Nat) (0 : Nat) (1 : Nat) n none], Blk.buf (5 : Nat) B,
                                      Blk.vals [V.sl (3 : Nat) (0 : Nat) (1 : Nat) n none],
                                      Blk.buf (5 : Nat)
                                        (writeL B a (BitVec.ofInt (64 : Nat) (1 : Int))
                                          [BitVec.setWidth (8 : Nat) w.d])]))))
                            (Tr.chk true
                              (Tr.leaf
                                (Fin.ret (V.bool true),
                                  [Blk.vals [V.sl (1 : Nat) (0 : Nat) (1 : Nat) n none], Blk.buf (5 : Nat) B,
                                    Blk.vals [V.sl (3 : Nat) (0 : Nat) (1 : Nat) n none], Blk.buf (5 : Nat) B])))))))
                    (Tr.chk true
                      (Tr.br (k % BitVec.ofInt (8 : Nat) (7 : Int) == BitVec.ofInt (8 : Nat) (5 : Int))
                        (Tr.chk
                          (lenOk n B && true && true &&
                              (decide ((0 : Nat) + n ≤ B.length) && (okN (List.take n B).length && true) && true &&
                                true) &&
                            true)
                          (Tr.leaf
                            (Fin.ret
                                (V.bool
                                  (partS B f z ==
                                    partV (List.take n B)
                                      (W4.mk (BitVec.ofInt (64 : Nat) (0 : Int)) (BitVec.ofInt (64 : Nat) (0 : Int))
                                        (BitVec.ofInt (64 : Nat) (0 : Int)) f)
                                      (W4.mk (BitVec.ofInt (64 : Nat) (0 : Int)) (BitVec.ofInt (64 : Nat) (0 : Int))
                                        (BitVec.ofInt (64 : Nat) (0 : Int)) z))),
                              [Blk.vals [V.sl (1 : Nat) (0 : Nat) (1 : Nat) n none], Blk.buf (5 : Nat) B,
                                Blk.vals [V.sl (3 : Nat) (0 : Nat) (1 : Nat) n none], Blk.buf (5 : Nat) B])))
                        (Tr.chk (lenOk n B)
                          (Tr.br (wrOk a z)
                            (Tr.br (isGrow n a z)
                              (Tr.chk (m32 (MS.some n B).n && okN s.length && lenOk n B)
                                (Tr.br (wrOk a z)
                                  (Tr.br (isGrow n a z)
                                    (Tr.chk true
                                      (Tr.leaf
                                        (Fin.ret (V.bool true),
                                          [Blk.vals [V.sl (4 : Nat) (0 : Nat) (1 : Nat) (writeL B a z s).length none],
                                            Blk.dead,
                                            Blk.vals [V.sl (5 : Nat) (0 : Nat) (1 : Nat) (writeL B a z s).length none],
                                            Blk.dead, Blk.buf (5 : Nat) (writeL B a z s),
                                            Blk.buf (5 : Nat) (writeL B a z s)])))
                                    (Tr.chk true
                                      (Tr.leaf
                                        (Fin.ret (V.bool true),
                                          [Blk.vals [V.sl (4 : Nat) (0 : Nat) (1 : Nat) (writeL B a z s).length none],
                                            Blk.dead, Blk.vals [V.sl (3 : Nat) (0 : Nat) (1 : Nat) n none],
                                            Blk.buf (5 : Nat) (writeL B a z s), Blk.buf (5 : Nat) (writeL B a z s)]))))
                                  (Tr.chk true
                                    (Tr.leaf
                                      (Fin.ret (V.bool true),
                                        [Blk.vals [V.sl (4 : Nat) (0 : Nat) (1 : Nat) (writeL B a z s).length none],
                                          Blk.dead, Blk.vals [V.sl (3 : Nat) (0 : Nat) (1 : Nat) n none],
                                          Blk.buf (5 : Nat) B, Blk.buf (5 : Nat) (writeL B a z s)])))))
                              (Tr.chk (m32 (MS.some n B).n && okN s.length && lenOk n B)
                                (Tr.br (wrOk a z)
                                  (Tr.br (isGrow n a z)
                                    (Tr.chk true
                                      (Tr.leaf
                                        (Fin.ret (V.bool true),
                                          [Blk.vals [V.sl (1 : Nat) (0 : Nat) (1 : Nat) n none],
                                            Blk.buf (5 : Nat) (writeL B a z s),
                                            Blk.vals [V.sl (4 : Nat) (0 : Nat) (1 : Nat) (writeL B a z s).length none],
                                            Blk.dead, Blk.buf (5 : Nat) (writeL B a z s)])))
                                    (Tr.chk true
                                      (Tr.leaf
                                        (Fin.ret (V.bool true),
                                          [Blk.vals [V.sl (1 : Nat) (0 : Nat) (1 : Nat) n none],
                                            Blk.buf (5 : Nat) (writeL B a z s),
                                            Blk.vals [V.sl (3 : Nat) (0 : Nat) (1 : Nat) n none],
                                            Blk.buf (5 : Nat) (writeL B a z s)]))))
                                  (Tr.chk true
                                    (Tr.leaf
                                      (Fin.ret (V.bool true),
                                        [Blk.vals [V.sl (1 : Nat) (0 : Nat) (1 : Nat) n none],
                                          Blk.buf (5 : Nat) (writeL B a z s),
                                          Blk.vals [V.sl (3 : Nat) (0 : Nat) (1 : Nat) n none],
                                          Blk.buf (5 : Nat) B]))))))
                            (Tr.chk (m32 (MS.some n B).n && okN s.length && lenOk n B)
                              (Tr.br (wrOk a z)
                                (Tr.br (isGrow n a z)
                                  (Tr.chk true
                                    (Tr.leaf
                                      (Fin.ret (V.bool true),
                                        [Blk.vals [V.sl (1 : Nat) (0 : Nat) (1 : Nat) n none], Blk.buf (5 : Nat) B,
                                          Blk.vals [V.sl (4 : Nat) (0 : Nat) (1 : Nat) (writeL B a z s).length none],
                                          Blk.dead, Blk.buf (5 : Nat) (writeL B a z s)])))
                                  (Tr.chk true
                                    (Tr.leaf
                                      (Fin.ret (V.bool true),
                                        [Blk.vals [V.sl (1 : Nat) (0 : Nat) (1 : Nat) n none], Blk.buf (5 : Nat) B,
                                          Blk.vals [V.sl (3 : Nat) (0 : Nat) (1 : Nat) n none],
                                          Blk.buf (5 : Nat) (writeL B a z s)]))))
                                (Tr.chk true
                                  (Tr.leaf
                                    (Fin.ret (V.bool true),
                                      [Blk.vals [V.sl (1 : Nat) (0 : Nat) (1 : Nat) n none], Blk.buf (5 : Nat) B,
                                        Blk.vals [V.sl (3 : Nat) (0 : Nat) (1 : Nat) n none],
                                        Blk.buf (5 : Nat) B])))))))))))))))))) := by kernel_rfl
end
end Go.Proofs.Ytajbaocfdlopbaa.K
end
section
open Go Go.Lh
namespace Go.Proofs.Ytajbaocfdlopbaa.K
noncomputable section
set_option maxRecDepth 100000
theorem wp_twice {c f : Bool} {x y u v q : Fin × Heap} (hf : f = true) (hq : (Tr.br c (.leaf x) (.leaf y)).is q) :
    (Tr.br c (Tr.chk f (Tr.br c (Tr.chk true (.leaf x)) (Tr.chk true (.leaf u)))) (Tr.chk f (Tr.br c (Tr.chk true (.leaf v)) (Tr.chk true (.leaf y))))).wp fun r => r = q := by
  subst hf
  cases c <;> simpa [wp_chk_true, wp_br, wp_leaf, Tr.is_br, Tr.is_leaf] using hq
theorem wp_thrice {l c g f : Bool} {x y z u1 u2 u3 u4 u5 u6 q : Fin × Heap} (hl : l = true) (hf : f = true) (hq : (Tr.br c (Tr.br g (.leaf x) (.leaf y)) (.leaf z)).is q) :
    (Tr.chk l (Tr.br c (Tr.br g (Tr.chk f (Tr.br c (Tr.br g (Tr.chk true (.leaf x)) (Tr.chk true (.leaf u1))) (Tr.chk true (.leaf u2)))) (Tr.chk f (Tr.br c (Tr.br g (Tr.chk true (.leaf u3)) (Tr.chk true (.leaf y))) (Tr.chk true (.leaf u4)))))
      (Tr.chk f (Tr.br c (Tr.br g (Tr.chk true (.leaf u5)) (Tr.chk true (.leaf u6))) (Tr.chk true (.leaf z)))))).wp fun r => r = q := by
  subst hf; subst hl
  cases c <;> cases g <;> simpa [wp_chk_true, wp_br, wp_leaf, Tr.is_br, Tr.is_leaf] using hq
theorem wrOk_grow0 (a z : BitVec 64) : wrOk a z = isGrow 0 a z := by
  rw [Bool.eq_iff_iff, wrOk_iff, isGrow_iff]
  have := upN_ge a.toNat z.toNat
  omega
theorem grow_wr {L : Nat} {a z : BitVec 64} (h : wrOk a z = false) : isGrow L a z = false := by
  rw [Bool.eq_false_iff, Ne, wrOk_iff] at h
  rw [Bool.eq_false_iff, Ne, isGrow_iff]
  exact fun h2 => h ⟨h2.1, h2.2.1⟩
def w64 (x : BitVec 64) : W4 := ⟨BitVec.ofInt 64 0, BitVec.ofInt 64 0, BitVec.ofInt 64 0, x⟩
theorem isSmall_w64 (x : BitVec 64) : isSmall (w64 x) = true := by rw [isSmall_eq]; rfl
theorem partV_w64 (s : List (BitVec 8)) (f z : BitVec 64) : partV s (w64 f) (w64 z) = partS s f z := by
  unfold partV; rw [isSmall_w64, isSmall_w64]; rfl
theorem is32_part (s : List (BitVec 8)) (f : BitVec 64) : is32 (partS s f (BitVec.ofInt 64 32)) = true := by
  rw [is32_iff, partS_near (by decide), padN_length]; rfl
/-- does the memory grow? -/
def dG (L : Nat) (k : BitVec 8) (a z : BitVec 64) : Bool :=
  bif k % BitVec.ofInt 8 7 == BitVec.ofInt 8 0 then false else bif k % BitVec.ofInt 8 7 == BitVec.ofInt 8 1 then isGrow L a z else bif k % BitVec.ofInt 8 7 == BitVec.ofInt 8 2 then false else
  bif k % BitVec.ofInt 8 7 == BitVec.ofInt 8 3 then isGrow L a (BitVec.ofInt 64 32) else bif k % BitVec.ofInt 8 7 == BitVec.ofInt 8 4 then isGrow L a (BitVec.ofInt 64 1) else bif k % BitVec.ofInt 8 7 == BitVec.ofInt 8 5 then false else isGrow L a z
/-- the bytes after -/
def dL (B : List (BitVec 8)) (k : BitVec 8) (a z : BitVec 64) (w : W4) (s : List (BitVec 8)) : List (BitVec 8) :=
  bif k % BitVec.ofInt 8 7 == BitVec.ofInt 8 0 then B else bif k % BitVec.ofInt 8 7 == BitVec.ofInt 8 1 then growL B a z else bif k % BitVec.ofInt 8 7 == BitVec.ofInt 8 2 then B else
  bif k % BitVec.ofInt 8 7 == BitVec.ofInt 8 3 then writeL B a (BitVec.ofInt 64 32) w.bytes else bif k % BitVec.ofInt 8 7 == BitVec.ofInt 8 4 then writeL B a (BitVec.ofInt 64 1) [BitVec.setWidth 8 w.d] else bif k % BitVec.ofInt 8 7 == BitVec.ofInt 8 5 then B else writeL B a z s
def nil2 : Heap := [.vals [.nilSl], .vals [.nilSl]]
def new2 (B : List (BitVec 8)) : Heap := [.vals [.sl 2 0 1 B.length none], .vals [.sl 3 0 1 B.length none], .buf 5 B, .buf 5 B]
def one2 (n : Nat) (B : List (BitVec 8)) : Heap := [.vals [.sl 1 0 1 n none], .buf 5 B, .vals [.sl 3 0 1 n none], .buf 5 B]
def mov2 (B : List (BitVec 8)) : Heap := [.vals [.sl 4 0 1 B.length none], .dead, .vals [.sl 5 0 1 B.length none], .dead, .buf 5 B, .buf 5 B]
theorem do2_end (k : BitVec 8) (a z f a0 z0 : BitVec 64) (b : Bool) (w : W4) (s : List (BitVec 8)) (hs : okN s.length = true) (q : Fin × Heap)
    (hq : (Tr.br (dG 0 k a z) (.leaf (.ret (.bool true), new2 (dL [] k a z w s))) (.leaf (.ret (.bool true), nil2))).is q) :
    EndsIn Pr Go.Proofs.Try.f28 2 (dropSeq 4 (bodyOf Go.Proofs.Try.f28)) [(0,.ptr 0 0),(1,.ptr 1 0),(5,.ptr 2 0),(6,.bool false),(7,.u64 a),(8,.u64 z),(9,.u64 f)] [.vals [.nilSl], .vals [.nilSl], .vals [.u8 k, .u64 a0, .u64 z0, .bool b, .u64 w.a, .u64 w.b, .u64 w.c, .u64 w.d, .str s]] q.1 q.2 := by
  have m0 : m32 MS.nil.n = true := m32_iff.2 ⟨rfl, by show 0 < _; decide⟩
  have o0 : okN MS.nil.n = true := okN_iff.2 (by show 0 < _; decide)
  have o0' : okN 0 = true := okN_iff.2 (by decide)
  have o32 : okN 32 = true := okN_iff.2 (by decide)
  have o1 : okN 1 = true := okN_iff.2 (by decide)
  refine EndsIn.last OD_sound mixed noLoops_all (by kernel_rfl) (do2_x k a z f a0 z0 b w s) ?_
  unfold dG dL at hq
  refine wp_chk_true.2 (wp_br.2 ⟨fun c0 => ?_, fun c0 => wp_chk_true.2 (wp_br.2 ⟨fun c1 => ?_, fun c1 => wp_chk_true.2 (wp_br.2 ⟨fun c2 => ?_, fun c2 => wp_chk_true.2 (wp_br.2 ⟨fun c3 => ?_, fun c3 => wp_chk_true.2 (wp_br.2 ⟨fun c4 => ?_, fun c4 => wp_chk_true.2 (wp_br.2 ⟨fun c5 => ?_, fun c5 => ?_⟩)⟩)⟩)⟩)⟩)⟩)
  · simp only [c0, cond_true, Tr.is_br, Tr.is_leaf, Bool.false_eq_true, if_false] at hq
    simp only [o0, wp_chk_true, wp_br, wp_leaf, beq_self_eq_true, Bool.and_true, true_implies, Bool.true_eq_false, false_implies, and_true]
    exact ⟨fun _ => hq, fun _ => hq⟩
  · simp only [c0, c1, cond_true, cond_false] at hq
    exact wp_chk_true.2 (wp_twice m0 hq)
  · simp only [c0, c1, c2, cond_true, cond_false, Tr.is_br, Tr.is_leaf, Bool.false_eq_true, if_false] at hq
    have := is32_part [] f
    rw [← partV_w64] at this
    unfold w64 at this
    rw [o0', this]
    exact ⟨rfl, hq⟩
  · simp only [c0, c1, c2, c3, cond_true, cond_false, ← wrOk_grow0] at hq
    exact wp_chk_true.2 (wp_twice (by rw [m0, o32]; rfl) hq)
  · simp only [c0, c1, c2, c3, c4, cond_true, cond_false, ← wrOk_grow0] at hq
    exact wp_chk_true.2 (wp_twice (by rw [m0, o1]; rfl) hq)
  · simp only [c0, c1, c2, c3, c4, c5, cond_true, cond_false, Tr.is_br, Tr.is_leaf, Bool.false_eq_true, if_false] at hq
    have := partV_w64 [] f z
    unfold w64 at this
    rw [this, o0', beq_self_eq_true]
    exact ⟨rfl, hq⟩
  · simp only [c0, c1, c2, c3, c4, c5, cond_false, ← wrOk_grow0] at hq
    exact wp_chk_true.2 (wp_twice (by rw [m0, hs]; rfl) hq)
theorem do4_end (k : BitVec 8) (a z f a0 z0 : BitVec 64) (b : Bool) (w : W4) (s : List (BitVec 8)) (B : List (BitVec 8)) (hl : lenOk B.length B = true) (hm : m32 B.length = true) (hs : okN s.length = true) (q : Fin × Heap)
    (hq : (Tr.br (dG B.length k a z) (.leaf (.ret (.bool true), mov2 (dL B k a z w s))) (.leaf (.ret (.bool true), one2 B.length (dL B k a z w s)))).is q) :
    EndsIn Pr Go.Proofs.Try.f28 4 (dropSeq 4 (bodyOf Go.Proofs.Try.f28)) [(0,.ptr 0 0),(1,.ptr 2 0),(5,.ptr 4 0),(6,.bool false),(7,.u64 a),(8,.u64 z),(9,.u64 f)] [.vals [.sl 1 0 1 B.length none], .buf 5 B, .vals [.sl 3 0 1 B.length none], .buf 5 B, .vals [.u8 k, .u64 a0, .u64 z0, .bool b, .u64 w.a, .u64 w.b, .u64 w.c, .u64 w.d, .str s]] q.1 q.2 := by
  have hB := (lenOk_iff.1 hl).2
  have m0 : m32 (MS.some B.length B).n = true := hm
  have o0 : okN (MS.some B.length B).n = true := okN_iff.2 hB
  have o0' : okN B.length = true := okN_iff.2 hB
  have o32 : okN 32 = true := okN_iff.2 (by decide)
  have o1 : okN 1 = true := okN_iff.2 (by decide)
  have wr : ∀ (z : BitVec 64) (s : List (BitVec 8)), (Tr.br (isGrow B.length a z) (.leaf (Fin.ret (.bool true), mov2 (writeL B a z s))) (.leaf (Fin.ret (.bool true), one2 B.length (writeL B a z s)))).is q →
      (Tr.br (wrOk a z) (Tr.br (isGrow B.length a z) (.leaf (Fin.ret (.bool true), mov2 (writeL B a z s))) (.leaf (Fin.ret (.bool true), one2 B.length (writeL B a z s)))) (.leaf (Fin.ret (.bool true), one2 B.length B))).is q := by
    intro z s h
    rw [Tr.is_br]
    split
    · exact h
    · rename_i hw
      have hw : wrOk a z = false := by simpa using hw
      rw [Tr.is_br, grow_wr hw] at h
      have : writeL B a z s = B := by unfold writeL; rw [hw]; rfl
      rw [this] at h
      exact h
  refine EndsIn.last OD_sound mixed noLoops_all (by kernel_rfl) (do4_x k a z f a0 z0 b w s B.length B) ?_
  unfold dG dL at hq
  refine wp_chk_true.2 (wp_br.2 ⟨fun c0 => ?_, fun c0 => wp_chk_true.2 (wp_br.2 ⟨fun c1 => ?_, fun c1 => wp_chk_true.2 (wp_br.2 ⟨fun c2 => ?_, fun c2 => wp_chk_true.2 (wp_br.2 ⟨fun c3 => ?_, fun c3 => wp_chk_true.2 (wp_br.2 ⟨fun c4 => ?_, fun c4 => wp_chk_true.2 (wp_br.2 ⟨fun c5 => ?_, fun c5 => ?_⟩)⟩)⟩)⟩)⟩)⟩)
  · simp only [c0, cond_true, Tr.is_br, Tr.is_leaf, Bool.false_eq_true, if_false] at hq
    simp only [o0, wp_chk_true, wp_br, wp_leaf, beq_self_eq_true, Bool.and_true, true_implies, Bool.true_eq_false, false_implies, and_true]
    exact ⟨fun _ => hq, fun _ => hq⟩
  · simp only [c0, c1, cond_true, cond_false] at hq
    refine wp_chk.2 ⟨hl, wp_twice (by rw [m0, hl]; rfl) ?_⟩
    rw [Tr.is_br] at hq ⊢
    split
    · rename_i hg
      rw [if_pos hg] at hq; exact hq
    · rename_i hg
      rw [if_neg hg] at hq
      rw [growL_no (by simpa using hg)] at hq
      exact hq
  · simp only [c0, c1, c2, cond_true, cond_false, Tr.is_br, Tr.is_leaf, Bool.false_eq_true, if_false] at hq
    have := partV_w64 B f (BitVec.ofInt 64 32)
    unfold w64 at this
    rw [List.take_length, this, o0', hl, is32_part]
    simp only [wp_chk, wp_leaf, beq_self_eq_true, Bool.and_true, decide_eq_true_eq]
    exact ⟨by simp, hq⟩
  · simp only [c0, c1, c2, c3, cond_true, cond_false] at hq
    exact wp_thrice hl (by rw [m0, o32, hl]; rfl) (wr _ _ hq)
  · simp only [c0, c1, c2, c3, c4, cond_true, cond_false] at hq
    exact wp_thrice hl (by rw [m0, o1, hl]; rfl) (wr _ _ hq)
  · simp only [c0, c1, c2, c3, c4, c5, cond_true, cond_false, Tr.is_br, Tr.is_leaf, Bool.false_eq_true, if_false] at hq
    have := partV_w64 B f z
    unfold w64 at this
    rw [List.take_length, this, o0', hl]
    simp only [wp_chk, wp_leaf, beq_self_eq_true, Bool.and_true, decide_eq_true_eq]
    exact ⟨by simp, hq⟩
  · simp only [c0, c1, c2, c3, c4, c5, cond_false] at hq
    exact wp_thrice hl (by rw [m0, hs, hl]; rfl) (wr _ _ hq)
end
end Go.Proofs.Ytajbaocfdlopbaa.K
end
section
open Go Go.Lh
namespace Go.Proofs.Ytajbaocfdlopbaa.K
noncomputable section
set_option maxRecDepth 100000
structure Dd where
  k : BitVec 8
  a : BitVec 64
  z : BitVec 64
  b : Bool
  w : W4
  s : List (BitVec 8)
def Dd.v (d : Dd) : V := .agg [.u8 d.k, .u64 d.a, .u64 d.z, .bool d.b, .u64 d.w.a, .u64 d.w.b, .u64 d.w.c, .u64 d.w.d, .str d.s]
def Dd.at (d : Dd) : BitVec 64 := d.a % BitVec.ofInt 64 5000
def Dd.sz (d : Dd) : BitVec 64 := d.z % BitVec.ofInt 64 300
def Dd.G (d : Dd) (L : Nat) : Bool := dG L d.k d.at d.sz
def Dd.L (d : Dd) (B : List (BitVec 8)) : List (BitVec 8) := dL B d.k d.at d.sz d.w d.s
inductive DoS where
  | nil (d : Dd)
  | some (n : Nat) (B : List (BitVec 8)) (n' : Nat) (B' : List (BitVec 8)) (d : Dd)
def readDo : List V → Heap → Option DoS := fun args h => match args, h with
  | [.ptr 0 0, .ptr 1 0, .agg [.u8 k, .u64 a, .u64 z, .bool b, .u64 wa, .u64 wb, .u64 wc, .u64 wd, .str s]], [.vals [.nilSl], .vals [.nilSl]] => some (.nil ⟨k, a, z, b, ⟨wa, wb, wc, wd⟩, s⟩)
  | [.ptr 0 0, .ptr 2 0, .agg [.u8 k, .u64 a, .u64 z, .bool b, .u64 wa, .u64 wb, .u64 wc, .u64 wd, .str s]], [.vals [.sl 1 0 1 n none], .buf 5 B, .vals [.sl 3 0 1 n' none], .buf 5 B'] => some (.some n B n' B' ⟨k, a, z, b, ⟨wa, wb, wc, wd⟩, s⟩)
  | _, _ => none
def DoS.args : DoS → List V
  | .nil d => [.ptr 0 0, .ptr 1 0, d.v]
  | .some _ _ _ _ d => [.ptr 0 0, .ptr 2 0, d.v]
def DoS.h : DoS → Heap
  | .nil _ => nil2
  | .some n B n' B' _ => [.vals [.sl 1 0 1 n none], .buf 5 B, .vals [.sl 3 0 1 n' none], .buf 5 B']
def sameNB (n : Nat) (B : List (BitVec 8)) (n' : Nat) (B' : List (BitVec 8)) : Bool := @decide (n = B.length ∧ n' = n ∧ B' = B) (Classical.propDecidable _)
theorem sameNB_iff {n : Nat} {B : List (BitVec 8)} {n' : Nat} {B' : List (BitVec 8)} : sameNB n B n' B' = true ↔ (n = B.length ∧ n' = n ∧ B' = B) := by simp [sameNB]
def do_f : DoS → Tr (Fin × Heap)
  | .nil d => .chk (okN d.s.length) (.br (d.G 0) (.leaf (.ret (.bool true), new2 (d.L []))) (.leaf (.ret (.bool true), nil2)))
  | .some n B n' B' d => .chk (sameNB n B n' B' && m32 n && okN d.s.length) (.br (d.G n) (.leaf (.ret (.bool true), mov2 (d.L B))) (.leaf (.ret (.bool true), one2 n (d.L B))))
def do_S (d : Dd) (f : BitVec 64) : Fr × Heap := ([(0,.ptr 0 0),(1,.ptr 1 0),(5,.ptr 2 0),(6,.bool false),(7,.u64 d.at),(8,.u64 d.sz),(9,.u64 f)], [.vals [.nilSl], .vals [.nilSl], .vals [.u8 d.k, .u64 d.a, .u64 d.z, .bool d.b, .u64 d.w.a, .u64 d.w.b, .u64 d.w.c, .u64 d.w.d, .str d.s]])
theorem do_nil (d : Dd) : ∀ q, (do_f (.nil d)).is q → LFn Pr 28 (DoS.nil d).args (DoS.nil d).h q.1 q.2 := by
  intro q hq
  simp only [do_f, Tr.is_chk] at hq
  obtain ⟨hs, hq⟩ := hq
  refine EndsIn.done (fn := Go.Proofs.Try.f28) (by kernel_rfl) (by kernel_rfl) (by kernel_rfl) ?_
  refine EndsIn.cut 4 (do_S d) (fun _ => True) OD_sound mixed (by kernel_rfl) noLoops_all (by kernel_rfl) (do1_x d.k d.a d.z d.b d.w d.s) ?_ ?_
  · rw [wp_chk_true, wp_br]
    exact ⟨fun _ => wp_chk_true.2 ⟨_, trivial, rfl⟩, fun _ => ⟨_, trivial, rfl⟩⟩
  intro f _
  exact do2_end d.k d.at d.sz f d.a d.z d.b d.w d.s hs q hq
def do_T (d : Dd) (B : List (BitVec 8)) (f : BitVec 64) : Fr × Heap := ([(0,.ptr 0 0),(1,.ptr 2 0),(5,.ptr 4 0),(6,.bool false),(7,.u64 d.at),(8,.u64 d.sz),(9,.u64 f)], [.vals [.sl 1 0 1 B.length none], .buf 5 B, .vals [.sl 3 0 1 B.length none], .buf 5 B, .vals [.u8 d.k, .u64 d.a, .u64 d.z, .bool d.b, .u64 d.w.a, .u64 d.w.b, .u64 d.w.c, .u64 d.w.d, .str d.s]])
theorem do_some (n : Nat) (B : List (BitVec 8)) (n' : Nat) (B' : List (BitVec 8)) (d : Dd) : ∀ q, (do_f (.some n B n' B' d)).is q → LFn Pr 28 (DoS.some n B n' B' d).args (DoS.some n B n' B' d).h q.1 q.2 := by
  intro q hq
  simp only [do_f, Tr.is_chk, Bool.and_eq_true] at hq
  obtain ⟨⟨⟨h1, h2⟩, hs⟩, hq⟩ := hq
  obtain ⟨rfl, rfl, rfl⟩ := sameNB_iff.1 h1
  refine EndsIn.done (fn := Go.Proofs.Try.f28) (by kernel_rfl) (by kernel_rfl) (by kernel_rfl) ?_
  refine EndsIn.cut 4 (do_T d B') (fun _ => True) OD_sound mixed (by kernel_rfl) noLoops_all (by kernel_rfl) (do3_x d.k d.a d.z d.b d.w d.s B'.length B') ?_ ?_
  · rw [wp_chk_true, wp_br]
    exact ⟨fun _ => wp_chk_true.2 ⟨_, trivial, rfl⟩, fun _ => ⟨_, trivial, rfl⟩⟩
  intro f _
  exact do4_end d.k d.at d.sz f d.a d.z d.b d.w d.s B' (lenOk_iff.2 ⟨rfl, by have := (m32_iff.1 h2).2; omega⟩) h2 hs q hq
theorem do_ok : ∀ args h r, (ctT readDo do_f args h).is r → LFn Pr 28 args h r.1 r.2 := by
  refine ctT_ok DoS.args DoS.h ?_ (fun p r h => ?_)
  · intro args h a e
    unfold readDo at e
    split at e <;> cases e <;> exact ⟨rfl, rfl⟩
  · cases p with
    | nil d => exact do_nil d r h
    | some n B n' B' d => exact do_some n B n' B' d r h
def ddF (D : Nat → Dd) : Nat → Nat → V := fun i j => match j with
  | 0 => .u8 (D i).k
  | 1 => .u64 (D i).a
  | 2 => .u64 (D i).z
  | 3 => .bool (D i).b
  | 4 => .u64 (D i).w.a
  | 5 => .u64 (D i).w.b
  | 6 => .u64 (D i).w.c
  | 7 => .u64 (D i).w.d
  | 8 => .str (D i).s
  | _ + 9 => .any
def KM : KnownT := (19, mmex_g) :: (28, ctT readDo do_f) :: (23, ctT readPV pv_f) :: KA1
theorem KM_ok : KOkT Pr KM := KOkT.cons mmex_en mmex_ok (KOkT.cons (Enters.of (fn := Go.Proofs.Try.f28) (by kernel_rfl) (by kernel_rfl)) do_ok (KOkT.cons (Enters.of (fn := Go.Proofs.Try.f23) (by kernel_rfl) (by kernel_rfl)) (pv_okG rpart_fn) KA1_ok))
def OM : OrcT := autoT Pr ext KM [24, 27, 29, 30, 75] 5
theorem OM_sound : OrcSound Pr OM.o := autoT_sound mixed ext_ok KM_ok (by kernel_rfl) 5
theorem ml1_x (D : Nat → Dd) (len : Nat) (i : Nat) : Tr.prune ((((Tr.Sh.any.both Tr.Sh.any).r.r.r.r.r.r.r.r.both
            Tr.Sh.any.r.r.r.r.r.r.r.r.r).both
        Tr.Sh.any).l.both
  Tr.Sh.any.r.r)
  (execBN Pr OM noLoopsT (200 : Nat) (0 : Nat) [(0 : Nat), (3 : Nat), (4 : Nat), (5 : Nat), (6 : Nat)]
  [(3 : Nat), (4 : Nat), (5 : Nat)] (loopBody Go.Proofs.Try.f5 (0 : Nat))
  [((0 : Nat), V.isl (9 : Nat) len (ddF D)), ((3 : Nat), V.bool true), ((4 : Nat), V.ptr (0 : Nat) (0 : Nat)),
    ((5 : Nat), V.ptr (1 : Nat) (0 : Nat)), ((6 : Nat), V.int IntKind.i64 (↑i : Int))]
  nil2) =
  Tr.chk true
  (Tr.br (decide ((↑i : Int) < (↑len : Int)))
    (Tr.chk true
      (Tr.br (decide ((↑i : Int) < (40 : Int)))
        (Tr.chk (decide ((↑i : Int) < (↑len : Int)) && (decide (i < len) && true && okN (D i).s.length))
          (Tr.br ((D i).G (0 : Nat))
            (Tr.chk true
              (Tr.br ((↑((D i).L []).length : Int) != (↑((D i).L []).length : Int))
                (Tr.chk true
                  (Tr.leaf
                    (X.ret,
                      [((3 : Nat), V.bool true), ((4 : Nat), V.ptr (0 : Nat) (0 : Nat)),
                        ((5 : Nat), V.ptr (2 : Nat) (0 : Nat))],
                      [Blk.vals [V.sl (1 : Nat) (0 : Nat) (1 : Nat) ((D i).L []).length none],
                        Blk.buf (5 : Nat) ((D i).L []),
                        Blk.vals [V.sl (3 : Nat) (0 : Nat) (1 : Nat) ((D i).L []).length none],
                        Blk.buf (5 : Nat) ((D i).L [])])))
                (Tr.chk true
                  (Tr.leaf
                    (X.normal,
                      [((0 : Nat), V.isl (9 : Nat) len (ddF D)), ((3 : Nat), V.bool true),
                        ((4 : Nat), V.ptr (0 : Nat) (0 : Nat)), ((5 : Nat), V.ptr (2 : Nat) (0 : Nat)),
                        ((6 : Nat), V.int IntKind.i64 (wrapI IntKind.i64 ((↑i : Int) + (1 : Int))))],
                      [Blk.vals [V.sl (1 : Nat) (0 : Nat) (1 : Nat) ((D i).L []).length none],
                        Blk.buf (5 : Nat) ((D i).L []),
                        Blk.vals [V.sl (3 : Nat) (0 : Nat) (1 : Nat) ((D i).L []).length none],
                        Blk.buf (5 : Nat) ((D i).L [])])))))
            (Tr.chk true
              (Tr.leaf
                (X.normal,
                  [((0 : Nat), V.isl (9 : Nat) len (ddF D)), ((3 : Nat), V.bool true),
                    ((4 : Nat), V.ptr (0 : Nat) (0 : Nat)), ((5 : Nat), V.ptr (1 : Nat) (0 : Nat)),
                    ((6 : Nat), V.int IntKind.i64 (wrapI IntKind.i64 ((↑i : Int) + (1 : Int))))],
                  [Blk.vals [V.nilSl], Blk.vals [V.nilSl]])))))
        (Tr.leaf
          (X.exit (0 : Nat),
            [((3 : Nat), V.bool true), ((4 : Nat), V.ptr (0 : Nat) (0 : Nat)), ((5 : Nat), V.ptr (1 : Nat) (0 : Nat))],
            [Blk.vals [V.nilSl], Blk.vals [V.nilSl]]))))
    (Tr.chk true
      (Tr.leaf
        (X.exit (0 : Nat),
          [((3 : Nat), V.bool true), ((4 : Nat), V.ptr (0 : Nat) (0 : Nat)), ((5 : Nat), V.ptr (1 : Nat) (0 : Nat))],
          [Blk.vals [V.nilSl], Blk.vals [V.nilSl]])))) := by kernel_rfl
theorem ml2_x (D : Nat → Dd) (len : Nat) (i : Nat) (n : Nat) (B : List (BitVec 8)) : Tr.prune ((((Tr.Sh.any.both
                                Tr.Sh.any).r.r.r.r.r.r.r.r.both
            (Tr.Sh.any.both Tr.Sh.any).r.r.r.r.r.r.r.r).both
        Tr.Sh.any).l.both
  Tr.Sh.any.r.r)
  (execBN Pr OM noLoopsT (200 : Nat) (0 : Nat) [(0 : Nat), (3 : Nat), (4 : Nat), (5 : Nat), (6 : Nat)]
  [(3 : Nat), (4 : Nat), (5 : Nat)] (loopBody Go.Proofs.Try.f5 (0 : Nat))
  [((0 : Nat), V.isl (9 : Nat) len (ddF D)), ((3 : Nat), V.bool true), ((4 : Nat), V.ptr (0 : Nat) (0 : Nat)),
    ((5 : Nat), V.ptr (2 : Nat) (0 : Nat)), ((6 : Nat), V.int IntKind.i64 (↑i : Int))]
  (one2 n B)) =
  Tr.chk true
  (Tr.br (decide ((↑i : Int) < (↑len : Int)))
    (Tr.chk true
      (Tr.br (decide ((↑i : Int) < (40 : Int)))
        (Tr.chk
          (decide ((↑i : Int) < (↑len : Int)) &&
            (decide (i < len) && true && (sameNB n B n B && m32 n && okN (D i).s.length)))
          (Tr.br ((D i).G n)
            (Tr.chk true
              (Tr.br ((↑((D i).L B).length : Int) != (↑((D i).L B).length : Int))
                (Tr.chk true
                  (Tr.leaf
                    (X.ret,
                      [((3 : Nat), V.bool true), ((4 : Nat), V.ptr (0 : Nat) (0 : Nat)),
                        ((5 : Nat), V.ptr (2 : Nat) (0 : Nat))],
                      [Blk.vals [V.sl (1 : Nat) (0 : Nat) (1 : Nat) ((D i).L B).length none],
                        Blk.buf (5 : Nat) ((D i).L B),
                        Blk.vals [V.sl (3 : Nat) (0 : Nat) (1 : Nat) ((D i).L B).length none],
                        Blk.buf (5 : Nat) ((D i).L B)])))
                (Tr.chk true
                  (Tr.leaf
                    (X.normal,
                      [((0 : Nat), V.isl (9 : Nat) len (ddF D)), ((3 : Nat), V.bool true),
                        ((4 : Nat), V.ptr (0 : Nat) (0 : Nat)), ((5 : Nat), V.ptr (2 : Nat) (0 : Nat)),
                        ((6 : Nat), V.int IntKind.i64 (wrapI IntKind.i64 ((↑i : Int) + (1 : Int))))],
                      [Blk.vals [V.sl (1 : Nat) (0 : Nat) (1 : Nat) ((D i).L B).length none],
                        Blk.buf (5 : Nat) ((D i).L B),
                        Blk.vals [V.sl (3 : Nat) (0 : Nat) (1 : Nat) ((D i).L B).length none],
                        Blk.buf (5 : Nat) ((D i).L B)])))))
            (Tr.chk true
              (Tr.br ((↑n : Int) != (↑n : Int))
                (Tr.chk true
                  (Tr.leaf
                    (X.ret,
                      [((3 : Nat), V.bool true), ((4 : Nat), V.ptr (0 : Nat) (0 : Nat)),
                        ((5 : Nat), V.ptr (2 : Nat) (0 : Nat))],
                      [Blk.vals [V.sl (1 : Nat) (0 : Nat) (1 : Nat) n none], Blk.buf (5 : Nat) ((D i).L B),
                        Blk.vals [V.sl (3 : Nat) (0 : Nat) (1 : Nat) n none], Blk.buf (5 : Nat) ((D i).L B)])))
                (Tr.chk true
                  (Tr.leaf
                    (X.normal,
                      [((0 : Nat), V.isl (9 : Nat) len (ddF D)), ((3 : Nat), V.bool true),
                        ((4 : Nat), V.ptr (0 : Nat) (0 : Nat)), ((5 : Nat), V.ptr (2 : Nat) (0 : Nat)),
                        ((6 : Nat), V.int IntKind.i64 (wrapI IntKind.i64 ((↑i : Int) + (1 : Int))))],
                      [Blk.vals [V.sl (1 : Nat) (0 : Nat) (1 : Nat) n none], Blk.buf (5 : Nat) ((D i).L B),
                        Blk.vals [V.sl (3 : Nat) (0 : Nat) (1 : Nat) n none], Blk.buf (5 : Nat) ((D i).L B)])))))))
        (Tr.leaf
          (X.exit (0 : Nat),
            [((3 : Nat), V.bool true), ((4 : Nat), V.ptr (0 : Nat) (0 : Nat)), ((5 : Nat), V.ptr (2 : Nat) (0 : Nat))],
            [Blk.vals [V.sl (1 : Nat) (0 : Nat) (1 : Nat) n none], Blk.buf (5 : Nat) B,
              Blk.vals [V.sl (3 : Nat) (0 : Nat) (1 : Nat) n none], Blk.buf (5 : Nat) B]))))
    (Tr.chk true
      (Tr.leaf
        (X.exit (0 : Nat),
          [((3 : Nat), V.bool true), ((4 : Nat), V.ptr (0 : Nat) (0 : Nat)), ((5 : Nat), V.ptr (2 : Nat) (0 : Nat))],
          [Blk.vals [V.sl (1 : Nat) (0 : Nat) (1 : Nat) n none], Blk.buf (5 : Nat) B,
            Blk.vals [V.sl (3 : Nat) (0 : Nat) (1 : Nat) n none], Blk.buf (5 : Nat) B])))) := by kernel_rfl
end
end Go.Proofs.Ytajbaocfdlopbaa.K
end
section
open Go Go.Lh
namespace Go.Proofs.Ytajbaocfdlopbaa.K
noncomputable section
set_option maxRecDepth 100000
def gP (L n : Nat) : Prop := L < n ∧ n % 32 = 0 ∧ n ≤ 16777216
theorem grow_or {B X : List (BitVec 8)} {a z : BitVec 64} (hX : X.length = if isGrow B.length a z = true then upN a.toNat z.toNat else B.length) : (isGrow B.length a z = false ∧ X.length = B.length) ∨ (isGrow B.length a z = true ∧ gP B.length X.length) := by
  cases h : isGrow B.length a z with
  | false => rw [h] at hX; exact .inl ⟨rfl, hX⟩
  | true =>
    rw [h, if_pos rfl] at hX
    have := isGrow_iff.1 h
    right
    refine ⟨rfl, by rw [hX]; exact this.2.2, ?_, ?_⟩ <;> rw [hX] <;> unfold upN <;> omega
theorem grow_orW {B : List (BitVec 8)} {a z : BitVec 64} {s : List (BitVec 8)} : (isGrow B.length a z = false ∧ (writeL B a z s).length = B.length) ∨ (isGrow B.length a z = true ∧ gP B.length (writeL B a z s).length) := by
  refine grow_or ?_
  rw [writeL_length, growL_length]
  cases hw : wrOk a z with
  | true => rfl
  | false => rw [grow_wr hw]; rfl
theorem dGL {B : List (BitVec 8)} {k : BitVec 8} {a z : BitVec 64} {w : W4} {s : List (BitVec 8)} : (dG B.length k a z = false ∧ (dL B k a z w s).length = B.length) ∨ (dG B.length k a z = true ∧ gP B.length (dL B k a z w s).length) := by
  unfold dG dL
  cases k % BitVec.ofInt 8 7 == BitVec.ofInt 8 0 with
  | true => exact .inl ⟨rfl, rfl⟩
  | false =>
  cases k % BitVec.ofInt 8 7 == BitVec.ofInt 8 1 with
  | true => exact grow_or growL_length
  | false =>
  cases k % BitVec.ofInt 8 7 == BitVec.ofInt 8 2 with
  | true => exact .inl ⟨rfl, rfl⟩
  | false =>
  cases k % BitVec.ofInt 8 7 == BitVec.ofInt 8 3 with
  | true => exact grow_orW
  | false =>
  cases k % BitVec.ofInt 8 7 == BitVec.ofInt 8 4 with
  | true => exact grow_orW
  | false =>
  cases k % BitVec.ofInt 8 7 == BitVec.ofInt 8 5 with
  | true => exact .inl ⟨rfl, rfl⟩
  | false => exact grow_orW
theorem Dd.GL (d : Dd) (B : List (BitVec 8)) : (d.G B.length = false ∧ (d.L B).length = B.length) ∨ (d.G B.length = true ∧ gP B.length (d.L B).length) := dGL
def mB (D : Nat → Dd) : Nat → List (BitVec 8)
  | 0 => []
  | i + 1 => (D i).L (mB D i)
theorem mB_ok (D : Nat → Dd) : ∀ i, (mB D i).length % 32 = 0 ∧ (mB D i).length ≤ 16777216
  | 0 => ⟨rfl, by show 0 ≤ _; decide⟩
  | i + 1 => by
    have h := mB_ok D i
    rw [mB]
    rcases (D i).GL (mB D i) with ⟨_, h2⟩ | ⟨_, h2⟩
    · rw [h2]; exact h
    · exact h2.2
theorem mB_m32 (D : Nat → Dd) (i : Nat) : m32 (mB D i).length = true := by
  have := mB_ok D i
  exact m32_iff.2 ⟨this.1, by omega⟩
def xp : List (BitVec 8) → Nat
  | [] => 1
  | _ :: _ => 2
def mh : List (BitVec 8) → Heap
  | [] => nil2
  | b :: t => one2 (b :: t).length (b :: t)
theorem mh_pos {B : List (BitVec 8)} (h : 0 < B.length) : xp B = 2 ∧ mh B = one2 B.length B := by
  cases B with
  | nil => exact absurd h (by decide)
  | cons b t => exact ⟨rfl, rfl⟩
theorem mh_nil {B : List (BitVec 8)} (h : B.length = 0) : xp B = 1 ∧ mh B = nil2 := by
  cases B with
  | nil => exact ⟨rfl, rfl⟩
  | cons b t => cases h
structure MLS where
  len : Nat
  f : Nat → Nat → V
def ml_S (D : Nat → Dd) (a : MLS) (i : Nat) : Fr × Heap := ([(0,.isl 9 a.len a.f),(3,.bool true),(4,.ptr 0 0),(5,.ptr (xp (mB D i)) 0),(6,.int .i64 (i : Nat))], mh (mB D i))
def ml_read : Fr → Heap → Option MLS := fun f h => match f, h with
  | [(0,.isl 9 len f),(3,.bool true),(4,.ptr 0 0),(5,.ptr 1 0),(6,.int .i64 0)], [.vals [.nilSl], .vals [.nilSl]] => some ⟨len, f⟩
  | _, _ => none
theorem ml_rd (D : Nat → Dd) : ∀ f h a, ml_read f h = some a → (f, h) = ml_S D a 0 := by
  intro f h a e
  unfold ml_read at e
  split at e <;> cases e <;> rfl
def ml_P (D : Nat → Dd) (a : MLS) : Prop := a.f = ddF D ∧ ∀ i, i < a.len → (D i).s.length < 9223372036854775808
def ml_ok (D : Nat → Dd) (a : MLS) : Bool := @decide (ml_P D a) (Classical.propDecidable _)
theorem ml_ok_iff {D : Nat → Dd} {a : MLS} : ml_ok D a = true ↔ ml_P D a := by simp [ml_ok]
def nilB (B : List (BitVec 8)) : Bool := B.isEmpty
def mE (D : Nat → Dd) (n : Nat) : List (BitVec 8) := mB D (min n 40)
def ml_E (D : Nat → Dd) (a : MLS) : Tr (X × Fr × Heap) := .br (nilB (mE D a.len)) (.leaf (.exit 0, [(3,.bool true),(4,.ptr 0 0),(5,.ptr 1 0)], nil2)) (.leaf (.exit 0, [(3,.bool true),(4,.ptr 0 0),(5,.ptr 2 0)], one2 (mE D a.len).length (mE D a.len)))
theorem ml_E_is {D : Nat → Dd} {a : MLS} {q : X × Fr × Heap} (h : (ml_E D a).is q) : (X.exit 0, [(3,.bool true),(4,.ptr 0 0),(5,.ptr (xp (mE D a.len)) 0)], mh (mE D a.len)) = q := by
  rw [ml_E, Tr.is_br] at h
  cases hm : mE D a.len with
  | nil => rw [hm, if_pos (show nilB [] = true from rfl), Tr.is_leaf] at h; exact h
  | cons b t => rw [hm, if_neg (show ¬ nilB (b :: t) = true from fun e => by cases e), Tr.is_leaf] at h; exact h
def ml_s (D : Nat → Dd) : SmT := whT 9 [0,3,4,5,6] ml_read (ml_ok D) (ml_E D)
theorem ml_at (D : Nat → Dd) : SmAtT Pr Go.Proofs.Try.f5 0 (ml_s D) 0 := by
  refine cntT_at (on := [0,3,4,5,6]) (off := [3,4,5]) (fuel := 200) (L := noLoopsT) OM_sound mixed (ml_S D) (fun a => min a.len 40) (by kernel_rfl) (by kernel_rfl) (by kernel_rfl) LoopsOk.noneT (ml_rd D) ?_
  rintro ⟨len, f⟩ q hok hq i hi
  obtain ⟨h1, h2⟩ := ml_ok_iff.1 hok
  simp only at h1 h2 hi
  subst h1
  have hq := ml_E_is hq
  simp only at hq
  have hmB := mB_m32 D i
  have hGL := (D i).GL (mB D i)
  have hw : (wrapI .i64 ((i : Int) + 1)) = ((i + 1 : Nat) : Int) := by
    rw [show ((i : Int) + 1) = ((i + 1 : Nat) : Int) by omega, wrapI_nat (by omega)]
  have hend : ∀ B, mB D i = B → i = min len 40 → (X.exit 0, [(3,V.bool true),(4,V.ptr 0 0),(5,V.ptr (xp B) 0)], mh B) = q := by
    intro B hB hm
    rw [← hq, mE, ← hm, hB]
  have hnext : mB D (i + 1) = (D i).L (mB D i) := rfl
  unfold ml_S
  simp only [hnext]
  cases hB : mB D i with
  | nil =>
    rw [hB] at hGL
    refine Tr.wp_prune (ml1_x D len i) ?_
    simp only [wp_chk_true, wp_br, wp_chk, wp_leaf, decide_eq_true_eq, decide_eq_false_iff_not, true_and, Bool.and_true, Bool.and_eq_true, bne_self_eq_false, Bool.false_eq_true, false_implies, true_implies, hw]
    refine ⟨fun b1 => ⟨fun b2 => ⟨⟨b1, by omega, okN_iff.2 (h2 i (by omega))⟩, fun g => ?_, fun g => ?_⟩, fun b2 => .inr ⟨fun h => (by cases h), hend [] hB (by omega)⟩⟩, fun b1 => .inr ⟨fun h => (by cases h), hend [] hB (by omega)⟩⟩
    · rcases hGL with ⟨h3, _⟩ | ⟨_, h3⟩
      · exact absurd g (by rw [show (D i).G 0 = false from h3]; decide)
      · obtain ⟨e1, e2⟩ := mh_pos (B := (D i).L []) (by have := h3.1; exact Nat.lt_of_le_of_lt (Nat.zero_le _) this)
        refine .inl ⟨by omega, ?_⟩
        rw [e1, e2]; rfl
    · rcases hGL with ⟨_, h3⟩ | ⟨h3, _⟩
      · obtain ⟨e1, e2⟩ := mh_nil (B := (D i).L []) h3
        refine .inl ⟨by omega, ?_⟩
        rw [e1, e2]; rfl
      · exact absurd g (by rw [show (D i).G 0 = true from h3]; decide)
  | cons b t =>
    rw [hB] at hGL hmB
    refine Tr.wp_prune (ml2_x D len i (b :: t).length (b :: t)) ?_
    have hs : sameNB (b :: t).length (b :: t) (b :: t).length (b :: t) = true := sameNB_iff.2 ⟨rfl, rfl, rfl⟩
    simp only [wp_chk_true, wp_br, wp_chk, wp_leaf, decide_eq_true_eq, decide_eq_false_iff_not, true_and, Bool.and_true, Bool.and_eq_true, bne_self_eq_false, Bool.false_eq_true, false_implies, true_implies, hw, hs, hmB]
    refine ⟨fun b1 => ⟨fun b2 => ⟨⟨b1, by omega, okN_iff.2 (h2 i (by omega))⟩, fun g => ?_, fun g => ?_⟩, fun b2 => .inr ⟨fun h => (by cases h), hend _ hB (by omega)⟩⟩, fun b1 => .inr ⟨fun h => (by cases h), hend _ hB (by omega)⟩⟩
    · rcases hGL with ⟨h3, _⟩ | ⟨_, h3⟩
      · rw [h3] at g; cases g
      · obtain ⟨e1, e2⟩ := mh_pos (B := (D i).L (b :: t)) (by have := h3.1; exact Nat.lt_of_le_of_lt (Nat.zero_le _) this)
        refine .inl ⟨by omega, ?_⟩
        rw [e1, e2]; rfl
    · rcases hGL with ⟨_, h3⟩ | ⟨h3, _⟩
      · obtain ⟨e1, e2⟩ := mh_pos (B := (D i).L (b :: t)) (by rw [h3]; exact Nat.succ_pos _)
        refine .inl ⟨by omega, ?_⟩
        rw [e1, e2, h3]; rfl
      · rw [h3] at g; cases g
theorem ml_Ls (D : Nat → Dd) : LoopsOk Pr Go.Proofs.Try.f5 0 (smLT 0 [ml_s D]).o := LoopsOk.one (by kernel_rfl) (ml_at D)
end
end Go.Proofs.Ytajbaocfdlopbaa.K
end
section
open Go Go.Lh
namespace Go.Proofs.Ytajbaocfdlopbaa.K
noncomputable section
set_option maxRecDepth 100000
theorem rfrom_x (x : BitVec 64) : Tr.prune (Tr.Sh.any)
  (execBF Pr OA1 noLoopsT (100 : Nat) Go.Proofs.Try.f75 [V.u64 x] []) =
  Tr.chk true
  (Tr.leaf
    (Fin.ret
        (V.agg
          [V.u64 (BitVec.ofInt (64 : Nat) (0 : Int)), V.u64 (BitVec.ofInt (64 : Nat) (0 : Int)),
            V.u64 (BitVec.ofInt (64 : Nat) (0 : Int)), V.u64 x]),
      [])) := by kernel_rfl
theorem rfrom_fn (x : BitVec 64) : LFn Pr 75 [.u64 x] [] (.ret (w64 x).v) [] := fnT OA1_sound mixed (by kernel_rfl) LoopsOk.noneT (rfrom_x x) (tr1 rfl rfl)
def KMf : KnownT := (75, old (ctU fun x => (w64 x).v)) :: KM
theorem KMf_ok : KOkT Pr KMf := KOkT.cons (Enters.of (fn := Go.Proofs.Try.f75) (by kernel_rfl) (by kernel_rfl)) (old_ok (ctU_ok rfrom_fn)) KM_ok
def OMf : OrcT := autoT Pr ext KMf [24, 27, 29, 30] 5
theorem OMf_sound : OrcSound Pr OMf.o := autoT_sound mixed ext_ok KMf_ok (by kernel_rfl) 5
theorem mp_x (D : Nat → Dd) (len : Nat) : Tr.prune ((Tr.Sh.any.l.l.l.l.l.both Tr.Sh.any.l.l.l.l.l).r.r)
  (execBF Pr OMf (smLT 0 [ml_s D]) 200 Go.Proofs.Try.f5 [.isl 9 len (ddF D)] []) =
  Tr.chk (ml_ok D (MLS.mk len (ddF D)))
  (Tr.br (nilB (mE D len))
    (Tr.chk (Bool.rec (motive := fun _ => Bool) false true (okN 0 && true) && true) (Tr.leaf (Fin.ret (V.bool true), [])))
    (Tr.chk
      (lenOk (mE D len).length (mE D len) && true && true &&
        (decide ((0 : Nat) + (mE D len).length ≤ (mE D len).length) &&
              (okN (List.take (mE D len).length (mE D len)).length && true) &&
            true &&
          true))
      (Tr.leaf
        (Fin.ret
            (V.bool
              (partS (mE D len) (BitVec.ofInt (64 : Nat) (0 : Int)) (BitVec.ofInt (64 : Nat) (5400 : Int)) ==
                partV (List.take (mE D len).length (mE D len)) (w64 (BitVec.ofInt (64 : Nat) (0 : Int)))
                  (w64 (BitVec.ofInt (64 : Nat) (5400 : Int))))),
          [])))) := by kernel_rfl
theorem memPlays_fn (D : Nat → Dd) (len : Nat) (hs : ∀ i, i < len → (D i).s.length < 9223372036854775808) : LFn Pr 5 [.isl 9 len (ddF D)] [] (.ret (.bool true)) [] := by
  have h := mB_ok D (min len 40)
  have hl : (mE D len).length < 9223372036854775808 := by unfold mE; omega
  refine fnT OMf_sound mixed (by kernel_rfl) (ml_Ls D) (mp_x D len) ?_
  have o0 : okN 0 = true := okN_iff.2 (by decide)
  have hp := partV_w64 (mE D len) (BitVec.ofInt 64 0) (BitVec.ofInt 64 5400)
  rw [List.take_length, hp, okN_iff.2 hl, lenOk_iff.2 ⟨rfl, hl⟩, o0, ml_ok_iff.2 ⟨rfl, hs⟩]
  simp only [wp_chk_true, wp_br, wp_chk, wp_leaf, beq_self_eq_true, Bool.and_true, Bool.true_and, decide_eq_true_eq, Nat.zero_add, Nat.le_refl, and_true, implies_true, decide_true, ret_bool]
end
end Go.Proofs.Ytajbaocfdlopbaa.K
end
section
open Go Go.Lh
namespace Go.Proofs.Ytajbaocfdlopbaa.K
noncomputable section
set_option maxRecDepth 100000
section
variable {H : Type} {enc : TypeId × Value → H} {w : World}
theorem wordM_TR : ∀ {H : Type} {enc : TypeId × Value → H} {w : World},
  TR enc Pr w 0 (fun (x : Nat) => true) true 24
    (fun (p : BitVec 64 × BitVec 64 × BitVec 64 × BitVec 64 × Unit) =>
      [V.u64 p.fst] ++ ([V.u64 p.snd.fst] ++ ([V.u64 p.snd.snd.fst] ++ ([V.u64 p.snd.snd.snd.fst] ++ []))))
    fun (p : BitVec 64 × BitVec 64 × BitVec 64 × BitVec 64 × Unit) => True ∧ True ∧ True ∧ True ∧ True := by
  intro H enc w
  have h := TR.struct (enc := enc) (P := Pr) (w := w) (base := 0) (spare := fun _ => true) (held := true) (T := 4) Go.Proofs.Try.underlying24 (l := [_, _, _, _]) rfl (by kernel_rfl) (TRF.cons' 22 1 (by rfl) (by rfl) (by kernel_rfl) (TR.u64 (by kernel_rfl)) (TRF.cons' 22 1 (by rfl) (by rfl) (by kernel_rfl) (TR.u64 (by kernel_rfl)) (TRF.cons' 22 1 (by rfl) (by rfl) (by kernel_rfl) (TR.u64 (by kernel_rfl)) (TRF.cons' 22 1 (by rfl) (by rfl) (by kernel_rfl) (TR.u64 (by kernel_rfl)) (TRF.nil 4)))))
  exact h
theorem deed_TR : ∀ {H : Type} {enc : TypeId × Value → H} {w : World},
  TR enc Pr w 0 (fun (x : Nat) => true) true 44
    (fun
        (p :
          BitVec 8 ×
            BitVec 64 ×
              BitVec 64 × Bool × (BitVec 64 × BitVec 64 × BitVec 64 × BitVec 64 × Unit) × List (BitVec 8) × Unit) =>
      [V.u8 p.fst] ++
        ([V.u64 p.snd.fst] ++
          ([V.u64 p.snd.snd.fst] ++
            ([V.bool p.snd.snd.snd.fst] ++
              ([V.u64 p.snd.snd.snd.snd.fst.fst] ++
                  ([V.u64 p.snd.snd.snd.snd.fst.snd.fst] ++
                    ([V.u64 p.snd.snd.snd.snd.fst.snd.snd.fst] ++
                      ([V.u64 p.snd.snd.snd.snd.fst.snd.snd.snd.fst] ++ []))) ++
                ([V.str p.snd.snd.snd.snd.snd.fst] ++ []))))))
    fun
      (p :
        BitVec 8 ×
          BitVec 64 ×
            BitVec 64 × Bool × (BitVec 64 × BitVec 64 × BitVec 64 × BitVec 64 × Unit) × List (BitVec 8) × Unit) =>
    True ∧
      True ∧
        True ∧ True ∧ (True ∧ True ∧ True ∧ True ∧ True) ∧ p.snd.snd.snd.snd.snd.fst.length < 9223372036854775808 ∧ True := by
  intro H enc w
  have h := TR.struct (enc := enc) (P := Pr) (w := w) (base := 0) (spare := fun _ => true) (held := true) (T := 9) Go.Proofs.Try.underlying44 (l := [_, _, _, _, _, _]) rfl (by kernel_rfl) (TRF.cons' 5 1 (by rfl) (by rfl) (by kernel_rfl) (TR.u8 (by kernel_rfl)) (TRF.cons' 22 1 (by rfl) (by rfl) (by kernel_rfl) (TR.u64 (by kernel_rfl)) (TRF.cons' 22 1 (by rfl) (by rfl) (by kernel_rfl) (TR.u64 (by kernel_rfl)) (TRF.cons' 4 1 (by rfl) (by rfl) (by kernel_rfl) (TR.bool (by kernel_rfl)) (TRF.cons' 24 4 (by rfl) (by rfl) (by kernel_rfl) (wordM_TR) (TRF.cons' 9 1 (by rfl) (by rfl) (by kernel_rfl) (TR.str (by kernel_rfl)) (TRF.nil 9)))))))
  exact h
def toDd (p : BitVec 8 × BitVec 64 × BitVec 64 × Bool × (BitVec 64 × BitVec 64 × BitVec 64 × BitVec 64 × Unit) × List (BitVec 8) × Unit) : Dd := ⟨p.1, p.2.1, p.2.2.1, p.2.2.2.1, ⟨p.2.2.2.2.1.1, p.2.2.2.2.1.2.1, p.2.2.2.2.1.2.2.1, p.2.2.2.2.1.2.2.2.1⟩, p.2.2.2.2.2.1⟩
theorem deeds_arg {r : Reach} {b0 : Nat} {v : Value} {d : DataW H} {p : List MemPlace} (hok : Value.okWide Pr w r b0 37 v) (hr : DataW.Trod enc Pr w 0 (fun _ => true) true 37 v d p) :
    ∃ (len : Nat) (D : Nat → Dd), (∀ ρ, VRel (Old w) w ρ (.isl 9 len (ddF D)) v) ∧ ∀ i, i < len → (D i).s.length < 9223372036854775808 := by
  have h := TR.sliceAs (enc := enc) (P := Pr) (w := w) (base := 0) (spare := fun _ => true) (held := true) (t := 37) (e := 44) 9 (fun A => fun i => toDd (A i)) ddF (fun A i j hj => by match j, hj with | 0, _ => rfl | 1, _ => rfl | 2, _ => rfl | 3, _ => rfl | 4, _ => rfl | 5, _ => rfl | 6, _ => rfl | 7, _ => rfl | 8, _ => rfl) (by kernel_rfl) (by kernel_rfl) (by decide) deed_TR
  obtain ⟨a, ha, _, A, hA, hQ⟩ := TR.arg_slice Go.Proofs.Try.underlying37 h hok hr
  refine ⟨a.1, a.2, ha, fun i hi => ?_⟩
  rw [← hA]
  exact (hQ i hi).2.2.2.2.2.1
end
end
end Go.Proofs.Ytajbaocfdlopbaa.K
end
