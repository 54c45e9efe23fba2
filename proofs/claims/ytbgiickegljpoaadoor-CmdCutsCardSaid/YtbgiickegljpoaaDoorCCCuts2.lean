/- The functions that this law reaches: what each comes to. -/
import Derived.Test.YtbgiickegljpoaaDoorCCCuts1
set_option linter.unusedSimpArgs false
set_option linter.unusedVariables false
section
open Go Go.Lh
namespace Go.Proofs.YtbgiickegljpoaaDoor.K
noncomputable section
set_option maxRecDepth 100000
def emp (s : List B) : Bool := s == bytesOf (ByteArray.mk #[])
def zn (n : BitVec 64) : Bool := n == BitVec.ofInt 64 0
def zw (w : W4) : Bool := w.a == BitVec.ofInt 64 0 && (w.b == BitVec.ofInt 64 0 && (w.c == BitVec.ofInt 64 0 && (w.d == BitVec.ofInt 64 0 && true)))
def noneB (c : CM) : Bool := (c.tk == (0 : Int)) && (emp (c.tf ++ c.tt ++ c.td) && (zn c.tn && (zn c.tg && (zw c.tp && (zw c.ti && zw c.tv)))))
def bareB (f : List B) (c : CM) : Bool := (hasB f 97#8 || emp c.ad) && ((hasB f 110#8 || zn c.n) && ((hasB f 107#8 || zw c.k) && ((hasB f 118#8 || zw c.v) && ((hasB f 115#8 || emp c.s) && (hasB f 116#8 || noneB c)))))
def okC (c : CM) : Prop := c.tf.length + c.tt.length + c.td.length ≤ 9223372036854775807
def retB (c : CM) (b : Bool) : Fin × Heap := (.ret (.bool b), [.vals (c.cs .nilSl)])
theorem bare_of (f : List B) (c : CM) (hc : okC c) (r : Fin) (H : EndsIn Pr Go.Proofs.Tryd.f12 1 (dropSeq 0 baC) [(0,.ptr 0 0),(5,.fn 20 [] [.ptr 1 0]),(7,.bool (noneB c))] [.vals (c.cs .nilSl), .vals [.str f]] r [.vals (c.cs .nilSl)]) :
    LFn Pr 12 [.ptr 0 0, .str f] [.vals (c.cs .nilSl)] r [.vals (c.cs .nilSl)] := by
  refine EndsIn.done (fn := Go.Proofs.Tryd.f12) (by kernel_rfl) (by kernel_rfl) (by kernel_rfl) ?_
  refine EndsIn.cutY (L := noLoopsT) 2 O0_sound mixed (by kernel_rfl) noLoops_all (by kernel_rfl) (ba1_x c f) ?_
  refine wp_chk_true.2 (wp_leaf.2 ⟨clo_nil, .inl ⟨_, _, rfl, ?_⟩⟩)
  refine EndsIn.cutY (L := noLoopsT) 0 O0_sound mixed (by kernel_rfl) noLoops_all (by kernel_rfl) (ba2_x c f) ?_
  have fl : ∀ {b : Bool}, b = noneB c → (fun q : (Fin × Heap) ⊕ (X × Fr × Heap) => CloW ⟨[0,5,7],[0,1],[]⟩ ⟨[],[],[]⟩ q ∧ ((∃ f g, q = .inr (.normal, f, g) ∧ EndsIn Pr Go.Proofs.Tryd.f12 1 (dropSeq 0 baC) f g r [.vals (c.cs .nilSl)]) ∨ ∃ g, q = .inl (r, g) ∧ DeadOf g [.vals (c.cs .nilSl)]))
      (.inr (.normal, [(0,.ptr 0 0),(5,.fn 20 [] [.ptr 1 0]),(7,.bool b)], [.vals (c.cs .nilSl), .vals [.str f]])) := by
    intro b hb
    subst hb
    exact ⟨clo_nil, .inl ⟨_, _, rfl, H⟩⟩
  have hl : c.tf.length + c.tt.length + c.td.length ≤ 9223372036854775807 := hc
  refine wp_chk_true.2 (wp_br.2 ⟨fun e1 => wp_chk.2 ⟨?_, wp_br.2 ⟨fun e2 => wp_chk_true.2 (wp_br.2 ⟨fun e3 => wp_chk_true.2 (wp_br.2 ⟨fun e4 => wp_chk_true.2 (wp_br.2 ⟨fun e5 => wp_chk_true.2 (wp_br.2 ⟨fun e6 => wp_chk_true.2 (wp_br.2 ⟨fun e7 => wp_chk_true.2 (wp_leaf.2 (fl ?_)), fun e7 => wp_chk_true.2 (wp_leaf.2 (fl ?_))⟩), fun e6 => wp_chk_true.2 (wp_leaf.2 (fl ?_))⟩), fun e5 => wp_chk_true.2 (wp_leaf.2 (fl ?_))⟩), fun e4 => wp_chk_true.2 (wp_leaf.2 (fl ?_))⟩), fun e3 => wp_chk_true.2 (wp_leaf.2 (fl ?_))⟩), fun e2 => wp_chk_true.2 (wp_leaf.2 (fl ?_))⟩⟩, fun e1 => wp_chk_true.2 (wp_leaf.2 (fl ?_))⟩)
  · simp only [Bool.and_eq_true, Bool.and_true, decide_eq_true_eq, List.length_append]; omega
  all_goals unfold noneB
  · rw [e1, show emp (c.tf ++ c.tt ++ c.td) = true from e2, show zn c.tn = true from e3, show zn c.tg = true from e4, show zw c.tp = true from e5, show zw c.ti = true from e6, show zw c.tv = true from e7]; rfl
  · rw [e1, show emp (c.tf ++ c.tt ++ c.td) = true from e2, show zn c.tn = true from e3, show zn c.tg = true from e4, show zw c.tp = true from e5, show zw c.ti = true from e6, show zw c.tv = false from e7]; rfl
  · rw [e1, show emp (c.tf ++ c.tt ++ c.td) = true from e2, show zn c.tn = true from e3, show zn c.tg = true from e4, show zw c.tp = true from e5, show zw c.ti = false from e6]; rfl
  · rw [e1, show emp (c.tf ++ c.tt ++ c.td) = true from e2, show zn c.tn = true from e3, show zn c.tg = true from e4, show zw c.tp = false from e5]; rfl
  · rw [e1, show emp (c.tf ++ c.tt ++ c.td) = true from e2, show zn c.tn = true from e3, show zn c.tg = false from e4]; rfl
  · rw [e1, show emp (c.tf ++ c.tt ++ c.td) = true from e2, show zn c.tn = false from e3]; rfl
  · rw [e1, show emp (c.tf ++ c.tt ++ c.td) = false from e2]; rfl
  · rw [e1]; rfl
theorem and_f {a b : Bool} (h : a = false) : (a && b) = false := by rw [h]; rfl
theorem and_t {a b : Bool} (h : a = true) : (a && b) = b := by rw [h]; rfl
theorem bareB_t (c : CM) : bareB f_t c = ((emp c.ad) && ((zn c.n) && ((zw c.k) && ((zw c.v) && ((emp c.s) && true))))) := by kernel_rfl
theorem bare_t (c : CM) (hc : okC c) : LFn Pr 12 [.ptr 0 0, .str f_t] [.vals (c.cs .nilSl)] (.ret (.bool (bareB f_t c))) [.vals (c.cs .nilSl)] := by
  refine bare_of f_t c hc _ ?_
  refine EndsIn.last (L := noLoopsT) OH_sound mixed noLoops_all (by kernel_rfl) (ba_t_x c (noneB c)) ?_
  have fin : ∀ {b : Bool}, b = bareB f_t c → (fun r : Fin × Heap => r = (.ret (.bool (bareB f_t c)), [.vals (c.cs .nilSl)])) (.ret (.bool b), [.vals (c.cs .nilSl)]) := by intro b hb; subst hb; rfl
  refine wp_chk_true.2 (wp_br.2 ⟨fun e0 => wp_chk_true.2 (wp_br.2 ⟨fun e1 => wp_chk_true.2 (wp_br.2 ⟨fun e2 => wp_chk_true.2 (wp_br.2 ⟨fun e3 => wp_chk_true.2 (wp_br.2 ⟨fun e4 => wp_chk_true.2 (wp_leaf.2 (fin ?_)), fun e4 => wp_chk_true.2 (wp_leaf.2 (fin ?_))⟩), fun e3 => wp_chk_true.2 (wp_leaf.2 (fin ?_))⟩), fun e2 => wp_chk_true.2 (wp_leaf.2 (fin ?_))⟩), fun e1 => wp_chk_true.2 (wp_leaf.2 (fin ?_))⟩), fun e0 => wp_chk_true.2 (wp_leaf.2 (fin ?_))⟩)
  all_goals rw [bareB_t]
  · rw [show (emp c.ad) = true from e0, show (zn c.n) = true from e1, show (zw c.k) = true from e2, show (zw c.v) = true from e3, show (emp c.s) = true from e4]; rfl
  · rw [show (emp c.ad) = true from e0, show (zn c.n) = true from e1, show (zw c.k) = true from e2, show (zw c.v) = true from e3, show (emp c.s) = false from e4]; rfl
  · rw [show (emp c.ad) = true from e0, show (zn c.n) = true from e1, show (zw c.k) = true from e2, show (zw c.v) = false from e3]; rfl
  · rw [show (emp c.ad) = true from e0, show (zn c.n) = true from e1, show (zw c.k) = false from e2]; rfl
  · rw [show (emp c.ad) = true from e0, show (zn c.n) = false from e1]; rfl
  · rw [show (emp c.ad) = false from e0]; rfl
theorem bareB_n (c : CM) : bareB f_n c = ((emp c.ad) && ((zw c.k) && ((zw c.v) && ((emp c.s) && (noneB c))))) := by kernel_rfl
theorem bare_n (c : CM) (hc : okC c) : LFn Pr 12 [.ptr 0 0, .str f_n] [.vals (c.cs .nilSl)] (.ret (.bool (bareB f_n c))) [.vals (c.cs .nilSl)] := by
  refine bare_of f_n c hc _ ?_
  refine EndsIn.last (L := noLoopsT) OH_sound mixed noLoops_all (by kernel_rfl) (ba_n_x c (noneB c)) ?_
  have fin : ∀ {b : Bool}, b = bareB f_n c → (fun r : Fin × Heap => r = (.ret (.bool (bareB f_n c)), [.vals (c.cs .nilSl)])) (.ret (.bool b), [.vals (c.cs .nilSl)]) := by intro b hb; subst hb; rfl
  refine wp_chk_true.2 (wp_br.2 ⟨fun e0 => wp_chk_true.2 (wp_br.2 ⟨fun e1 => wp_chk_true.2 (wp_br.2 ⟨fun e2 => wp_chk_true.2 (wp_br.2 ⟨fun e3 => wp_chk_true.2 (wp_leaf.2 (fin ?_)), fun e3 => wp_chk_true.2 (wp_leaf.2 (fin ?_))⟩), fun e2 => wp_chk_true.2 (wp_leaf.2 (fin ?_))⟩), fun e1 => wp_chk_true.2 (wp_leaf.2 (fin ?_))⟩), fun e0 => wp_chk_true.2 (wp_leaf.2 (fin ?_))⟩)
  all_goals rw [bareB_n]
  · rw [show (emp c.ad) = true from e0, show (zw c.k) = true from e1, show (zw c.v) = true from e2, show (emp c.s) = true from e3]; rfl
  · rw [show (emp c.ad) = true from e0, show (zw c.k) = true from e1, show (zw c.v) = true from e2, show (emp c.s) = false from e3]; rfl
  · rw [show (emp c.ad) = true from e0, show (zw c.k) = true from e1, show (zw c.v) = false from e2]; rfl
  · rw [show (emp c.ad) = true from e0, show (zw c.k) = false from e1]; rfl
  · rw [show (emp c.ad) = false from e0]; rfl
theorem bareB_a (c : CM) : bareB f_a c = ((zn c.n) && ((zw c.k) && ((zw c.v) && ((emp c.s) && (noneB c))))) := by kernel_rfl
theorem bare_a (c : CM) (hc : okC c) : LFn Pr 12 [.ptr 0 0, .str f_a] [.vals (c.cs .nilSl)] (.ret (.bool (bareB f_a c))) [.vals (c.cs .nilSl)] := by
  refine bare_of f_a c hc _ ?_
  refine EndsIn.last (L := noLoopsT) OH_sound mixed noLoops_all (by kernel_rfl) (ba_a_x c (noneB c)) ?_
  have fin : ∀ {b : Bool}, b = bareB f_a c → (fun r : Fin × Heap => r = (.ret (.bool (bareB f_a c)), [.vals (c.cs .nilSl)])) (.ret (.bool b), [.vals (c.cs .nilSl)]) := by intro b hb; subst hb; rfl
  refine wp_chk_true.2 (wp_br.2 ⟨fun e0 => wp_chk_true.2 (wp_br.2 ⟨fun e1 => wp_chk_true.2 (wp_br.2 ⟨fun e2 => wp_chk_true.2 (wp_br.2 ⟨fun e3 => wp_chk_true.2 (wp_leaf.2 (fin ?_)), fun e3 => wp_chk_true.2 (wp_leaf.2 (fin ?_))⟩), fun e2 => wp_chk_true.2 (wp_leaf.2 (fin ?_))⟩), fun e1 => wp_chk_true.2 (wp_leaf.2 (fin ?_))⟩), fun e0 => wp_chk_true.2 (wp_leaf.2 (fin ?_))⟩)
  all_goals rw [bareB_a]
  · rw [show (zn c.n) = true from e0, show (zw c.k) = true from e1, show (zw c.v) = true from e2, show (emp c.s) = true from e3]; rfl
  · rw [show (zn c.n) = true from e0, show (zw c.k) = true from e1, show (zw c.v) = true from e2, show (emp c.s) = false from e3]; rfl
  · rw [show (zn c.n) = true from e0, show (zw c.k) = true from e1, show (zw c.v) = false from e2]; rfl
  · rw [show (zn c.n) = true from e0, show (zw c.k) = false from e1]; rfl
  · rw [show (zn c.n) = false from e0]; rfl
theorem bareB_ak (c : CM) : bareB f_ak c = ((zn c.n) && ((zw c.v) && ((emp c.s) && (noneB c)))) := by kernel_rfl
theorem bare_ak (c : CM) (hc : okC c) : LFn Pr 12 [.ptr 0 0, .str f_ak] [.vals (c.cs .nilSl)] (.ret (.bool (bareB f_ak c))) [.vals (c.cs .nilSl)] := by
  refine bare_of f_ak c hc _ ?_
  refine EndsIn.last (L := noLoopsT) OH_sound mixed noLoops_all (by kernel_rfl) (ba_ak_x c (noneB c)) ?_
  have fin : ∀ {b : Bool}, b = bareB f_ak c → (fun r : Fin × Heap => r = (.ret (.bool (bareB f_ak c)), [.vals (c.cs .nilSl)])) (.ret (.bool b), [.vals (c.cs .nilSl)]) := by intro b hb; subst hb; rfl
  refine wp_chk_true.2 (wp_br.2 ⟨fun e0 => wp_chk_true.2 (wp_br.2 ⟨fun e1 => wp_chk_true.2 (wp_br.2 ⟨fun e2 => wp_chk_true.2 (wp_leaf.2 (fin ?_)), fun e2 => wp_chk_true.2 (wp_leaf.2 (fin ?_))⟩), fun e1 => wp_chk_true.2 (wp_leaf.2 (fin ?_))⟩), fun e0 => wp_chk_true.2 (wp_leaf.2 (fin ?_))⟩)
  all_goals rw [bareB_ak]
  · rw [show (zn c.n) = true from e0, show (zw c.v) = true from e1, show (emp c.s) = true from e2]; rfl
  · rw [show (zn c.n) = true from e0, show (zw c.v) = true from e1, show (emp c.s) = false from e2]; rfl
  · rw [show (zn c.n) = true from e0, show (zw c.v) = false from e1]; rfl
  · rw [show (zn c.n) = false from e0]; rfl
theorem bareB_av (c : CM) : bareB f_av c = ((zn c.n) && ((zw c.k) && ((emp c.s) && (noneB c)))) := by kernel_rfl
theorem bare_av (c : CM) (hc : okC c) : LFn Pr 12 [.ptr 0 0, .str f_av] [.vals (c.cs .nilSl)] (.ret (.bool (bareB f_av c))) [.vals (c.cs .nilSl)] := by
  refine bare_of f_av c hc _ ?_
  refine EndsIn.last (L := noLoopsT) OH_sound mixed noLoops_all (by kernel_rfl) (ba_av_x c (noneB c)) ?_
  have fin : ∀ {b : Bool}, b = bareB f_av c → (fun r : Fin × Heap => r = (.ret (.bool (bareB f_av c)), [.vals (c.cs .nilSl)])) (.ret (.bool b), [.vals (c.cs .nilSl)]) := by intro b hb; subst hb; rfl
  refine wp_chk_true.2 (wp_br.2 ⟨fun e0 => wp_chk_true.2 (wp_br.2 ⟨fun e1 => wp_chk_true.2 (wp_br.2 ⟨fun e2 => wp_chk_true.2 (wp_leaf.2 (fin ?_)), fun e2 => wp_chk_true.2 (wp_leaf.2 (fin ?_))⟩), fun e1 => wp_chk_true.2 (wp_leaf.2 (fin ?_))⟩), fun e0 => wp_chk_true.2 (wp_leaf.2 (fin ?_))⟩)
  all_goals rw [bareB_av]
  · rw [show (zn c.n) = true from e0, show (zw c.k) = true from e1, show (emp c.s) = true from e2]; rfl
  · rw [show (zn c.n) = true from e0, show (zw c.k) = true from e1, show (emp c.s) = false from e2]; rfl
  · rw [show (zn c.n) = true from e0, show (zw c.k) = false from e1]; rfl
  · rw [show (zn c.n) = false from e0]; rfl
theorem bareB_an (c : CM) : bareB f_an c = ((zw c.k) && ((zw c.v) && ((emp c.s) && (noneB c)))) := by kernel_rfl
theorem bare_an (c : CM) (hc : okC c) : LFn Pr 12 [.ptr 0 0, .str f_an] [.vals (c.cs .nilSl)] (.ret (.bool (bareB f_an c))) [.vals (c.cs .nilSl)] := by
  refine bare_of f_an c hc _ ?_
  refine EndsIn.last (L := noLoopsT) OH_sound mixed noLoops_all (by kernel_rfl) (ba_an_x c (noneB c)) ?_
  have fin : ∀ {b : Bool}, b = bareB f_an c → (fun r : Fin × Heap => r = (.ret (.bool (bareB f_an c)), [.vals (c.cs .nilSl)])) (.ret (.bool b), [.vals (c.cs .nilSl)]) := by intro b hb; subst hb; rfl
  refine wp_chk_true.2 (wp_br.2 ⟨fun e0 => wp_chk_true.2 (wp_br.2 ⟨fun e1 => wp_chk_true.2 (wp_br.2 ⟨fun e2 => wp_chk_true.2 (wp_leaf.2 (fin ?_)), fun e2 => wp_chk_true.2 (wp_leaf.2 (fin ?_))⟩), fun e1 => wp_chk_true.2 (wp_leaf.2 (fin ?_))⟩), fun e0 => wp_chk_true.2 (wp_leaf.2 (fin ?_))⟩)
  all_goals rw [bareB_an]
  · rw [show (zw c.k) = true from e0, show (zw c.v) = true from e1, show (emp c.s) = true from e2]; rfl
  · rw [show (zw c.k) = true from e0, show (zw c.v) = true from e1, show (emp c.s) = false from e2]; rfl
  · rw [show (zw c.k) = true from e0, show (zw c.v) = false from e1]; rfl
  · rw [show (zw c.k) = false from e0]; rfl
theorem bareB_as (c : CM) : bareB f_as c = ((zn c.n) && ((zw c.k) && ((zw c.v) && (noneB c)))) := by kernel_rfl
theorem bare_as (c : CM) (hc : okC c) : LFn Pr 12 [.ptr 0 0, .str f_as] [.vals (c.cs .nilSl)] (.ret (.bool (bareB f_as c))) [.vals (c.cs .nilSl)] := by
  refine bare_of f_as c hc _ ?_
  refine EndsIn.last (L := noLoopsT) OH_sound mixed noLoops_all (by kernel_rfl) (ba_as_x c (noneB c)) ?_
  have fin : ∀ {b : Bool}, b = bareB f_as c → (fun r : Fin × Heap => r = (.ret (.bool (bareB f_as c)), [.vals (c.cs .nilSl)])) (.ret (.bool b), [.vals (c.cs .nilSl)]) := by intro b hb; subst hb; rfl
  refine wp_chk_true.2 (wp_br.2 ⟨fun e0 => wp_chk_true.2 (wp_br.2 ⟨fun e1 => wp_chk_true.2 (wp_br.2 ⟨fun e2 => wp_chk_true.2 (wp_leaf.2 (fin ?_)), fun e2 => wp_chk_true.2 (wp_leaf.2 (fin ?_))⟩), fun e1 => wp_chk_true.2 (wp_leaf.2 (fin ?_))⟩), fun e0 => wp_chk_true.2 (wp_leaf.2 (fin ?_))⟩)
  all_goals rw [bareB_as]
  · rw [show (zn c.n) = true from e0, show (zw c.k) = true from e1, show (zw c.v) = true from e2]; rfl
  · rw [show (zn c.n) = true from e0, show (zw c.k) = true from e1, show (zw c.v) = false from e2]; rfl
  · rw [show (zn c.n) = true from e0, show (zw c.k) = false from e1]; rfl
  · rw [show (zn c.n) = false from e0]; rfl
theorem bareB_akv (c : CM) : bareB f_akv c = ((zn c.n) && ((emp c.s) && (noneB c))) := by kernel_rfl
theorem bare_akv (c : CM) (hc : okC c) : LFn Pr 12 [.ptr 0 0, .str f_akv] [.vals (c.cs .nilSl)] (.ret (.bool (bareB f_akv c))) [.vals (c.cs .nilSl)] := by
  refine bare_of f_akv c hc _ ?_
  refine EndsIn.last (L := noLoopsT) OH_sound mixed noLoops_all (by kernel_rfl) (ba_akv_x c (noneB c)) ?_
  have fin : ∀ {b : Bool}, b = bareB f_akv c → (fun r : Fin × Heap => r = (.ret (.bool (bareB f_akv c)), [.vals (c.cs .nilSl)])) (.ret (.bool b), [.vals (c.cs .nilSl)]) := by intro b hb; subst hb; rfl
  refine wp_chk_true.2 (wp_br.2 ⟨fun e0 => wp_chk_true.2 (wp_br.2 ⟨fun e1 => wp_chk_true.2 (wp_leaf.2 (fin ?_)), fun e1 => wp_chk_true.2 (wp_leaf.2 (fin ?_))⟩), fun e0 => wp_chk_true.2 (wp_leaf.2 (fin ?_))⟩)
  all_goals rw [bareB_akv]
  · rw [show (zn c.n) = true from e0, show (emp c.s) = true from e1]; rfl
  · rw [show (zn c.n) = true from e0, show (emp c.s) = false from e1]; rfl
  · rw [show (zn c.n) = false from e0]; rfl
theorem bareB_e (c : CM) : bareB f_e c = ((emp c.ad) && ((zn c.n) && ((zw c.k) && ((zw c.v) && ((emp c.s) && (noneB c)))))) := by kernel_rfl
theorem bare_e (c : CM) (hc : okC c) : LFn Pr 12 [.ptr 0 0, .str f_e] [.vals (c.cs .nilSl)] (.ret (.bool (bareB f_e c))) [.vals (c.cs .nilSl)] := by
  refine bare_of f_e c hc _ ?_
  refine EndsIn.last (L := noLoopsT) OH_sound mixed noLoops_all (by kernel_rfl) (ba_e_x c (noneB c)) ?_
  have fin : ∀ {b : Bool}, b = bareB f_e c → (fun r : Fin × Heap => r = (.ret (.bool (bareB f_e c)), [.vals (c.cs .nilSl)])) (.ret (.bool b), [.vals (c.cs .nilSl)]) := by intro b hb; subst hb; rfl
  refine wp_chk_true.2 (wp_br.2 ⟨fun e0 => wp_chk_true.2 (wp_br.2 ⟨fun e1 => wp_chk_true.2 (wp_br.2 ⟨fun e2 => wp_chk_true.2 (wp_br.2 ⟨fun e3 => wp_chk_true.2 (wp_br.2 ⟨fun e4 => wp_chk_true.2 (wp_leaf.2 (fin ?_)), fun e4 => wp_chk_true.2 (wp_leaf.2 (fin ?_))⟩), fun e3 => wp_chk_true.2 (wp_leaf.2 (fin ?_))⟩), fun e2 => wp_chk_true.2 (wp_leaf.2 (fin ?_))⟩), fun e1 => wp_chk_true.2 (wp_leaf.2 (fin ?_))⟩), fun e0 => wp_chk_true.2 (wp_leaf.2 (fin ?_))⟩)
  all_goals rw [bareB_e]
  · rw [show (emp c.ad) = true from e0, show (zn c.n) = true from e1, show (zw c.k) = true from e2, show (zw c.v) = true from e3, show (emp c.s) = true from e4]; rfl
  · rw [show (emp c.ad) = true from e0, show (zn c.n) = true from e1, show (zw c.k) = true from e2, show (zw c.v) = true from e3, show (emp c.s) = false from e4]; rfl
  · rw [show (emp c.ad) = true from e0, show (zn c.n) = true from e1, show (zw c.k) = true from e2, show (zw c.v) = false from e3]; rfl
  · rw [show (emp c.ad) = true from e0, show (zn c.n) = true from e1, show (zw c.k) = false from e2]; rfl
  · rw [show (emp c.ad) = true from e0, show (zn c.n) = false from e1]; rfl
  · rw [show (emp c.ad) = false from e0]; rfl
theorem bareB_s (c : CM) : bareB f_s c = ((emp c.ad) && ((zn c.n) && ((zw c.k) && ((zw c.v) && (noneB c))))) := by kernel_rfl
theorem bare_s (c : CM) (hc : okC c) : LFn Pr 12 [.ptr 0 0, .str f_s] [.vals (c.cs .nilSl)] (.ret (.bool (bareB f_s c))) [.vals (c.cs .nilSl)] := by
  refine bare_of f_s c hc _ ?_
  refine EndsIn.last (L := noLoopsT) OH_sound mixed noLoops_all (by kernel_rfl) (ba_s_x c (noneB c)) ?_
  have fin : ∀ {b : Bool}, b = bareB f_s c → (fun r : Fin × Heap => r = (.ret (.bool (bareB f_s c)), [.vals (c.cs .nilSl)])) (.ret (.bool b), [.vals (c.cs .nilSl)]) := by intro b hb; subst hb; rfl
  refine wp_chk_true.2 (wp_br.2 ⟨fun e0 => wp_chk_true.2 (wp_br.2 ⟨fun e1 => wp_chk_true.2 (wp_br.2 ⟨fun e2 => wp_chk_true.2 (wp_br.2 ⟨fun e3 => wp_chk_true.2 (wp_leaf.2 (fin ?_)), fun e3 => wp_chk_true.2 (wp_leaf.2 (fin ?_))⟩), fun e2 => wp_chk_true.2 (wp_leaf.2 (fin ?_))⟩), fun e1 => wp_chk_true.2 (wp_leaf.2 (fin ?_))⟩), fun e0 => wp_chk_true.2 (wp_leaf.2 (fin ?_))⟩)
  all_goals rw [bareB_s]
  · rw [show (emp c.ad) = true from e0, show (zn c.n) = true from e1, show (zw c.k) = true from e2, show (zw c.v) = true from e3]; rfl
  · rw [show (emp c.ad) = true from e0, show (zn c.n) = true from e1, show (zw c.k) = true from e2, show (zw c.v) = false from e3]; rfl
  · rw [show (emp c.ad) = true from e0, show (zn c.n) = true from e1, show (zw c.k) = false from e2]; rfl
  · rw [show (emp c.ad) = true from e0, show (zn c.n) = false from e1]; rfl
  · rw [show (emp c.ad) = false from e0]; rfl
end
end Go.Proofs.YtbgiickegljpoaaDoor.K
end
section
open Go Go.Lh
namespace Go.Proofs.YtbgiickegljpoaaDoor.K
noncomputable section
set_option maxRecDepth 100000
def OTB : OrcT := autoT Pr ext [] [55, 63] 4
theorem OTB_sound : OrcSound Pr OTB.o := autoT_sound mixed ext_ok KOkT.nil (by kernel_rfl) 4
theorem bytes_x (x : W4) : Tr.prune (Tr.Sh.any.r.l.l.l.l.l.l.l.l.l.l.l.l.l.l.l.l.l.l.l.l.l.l.l.l.l.l.l.l.l.l.l.l)
  (execBF Pr OTB noLoopsT (100 : Nat) Go.Proofs.Tryd.f42 [x.v] []) =
  Tr.chk true
  (Tr.leaf
    (Fin.ret
        (V.str
          [BitVec.setWidth (8 : Nat) (x.a >>> (56 : Nat)), BitVec.setWidth (8 : Nat) (x.a >>> (48 : Nat)),
            BitVec.setWidth (8 : Nat) (x.a >>> (40 : Nat)), BitVec.setWidth (8 : Nat) (x.a >>> (32 : Nat)),
            BitVec.setWidth (8 : Nat) (x.a >>> (24 : Nat)), BitVec.setWidth (8 : Nat) (x.a >>> (16 : Nat)),
            BitVec.setWidth (8 : Nat) (x.a >>> (8 : Nat)), BitVec.setWidth (8 : Nat) (x.a >>> (0 : Nat)),
            BitVec.setWidth (8 : Nat) (x.b >>> (56 : Nat)), BitVec.setWidth (8 : Nat) (x.b >>> (48 : Nat)),
            BitVec.setWidth (8 : Nat) (x.b >>> (40 : Nat)), BitVec.setWidth (8 : Nat) (x.b >>> (32 : Nat)),
            BitVec.setWidth (8 : Nat) (x.b >>> (24 : Nat)), BitVec.setWidth (8 : Nat) (x.b >>> (16 : Nat)),
            BitVec.setWidth (8 : Nat) (x.b >>> (8 : Nat)), BitVec.setWidth (8 : Nat) (x.b >>> (0 : Nat)),
            BitVec.setWidth (8 : Nat) (x.c >>> (56 : Nat)), BitVec.setWidth (8 : Nat) (x.c >>> (48 : Nat)),
            BitVec.setWidth (8 : Nat) (x.c >>> (40 : Nat)), BitVec.setWidth (8 : Nat) (x.c >>> (32 : Nat)),
            BitVec.setWidth (8 : Nat) (x.c >>> (24 : Nat)), BitVec.setWidth (8 : Nat) (x.c >>> (16 : Nat)),
            BitVec.setWidth (8 : Nat) (x.c >>> (8 : Nat)), BitVec.setWidth (8 : Nat) (x.c >>> (0 : Nat)),
            BitVec.setWidth (8 : Nat) (x.d >>> (56 : Nat)), BitVec.setWidth (8 : Nat) (x.d >>> (48 : Nat)),
            BitVec.setWidth (8 : Nat) (x.d >>> (40 : Nat)), BitVec.setWidth (8 : Nat) (x.d >>> (32 : Nat)),
            BitVec.setWidth (8 : Nat) (x.d >>> (24 : Nat)), BitVec.setWidth (8 : Nat) (x.d >>> (16 : Nat)),
            BitVec.setWidth (8 : Nat) (x.d >>> (8 : Nat)), BitVec.setWidth (8 : Nat) (x.d >>> (0 : Nat))]),
      [])) := by kernel_rfl
theorem bytes_fn (x : W4) : LFn Pr 42 [x.v] [] (.ret (.str x.bytes)) [] :=
  fnT OTB_sound mixed (by kernel_rfl) LoopsOk.noneT (bytes_x x) (tr1 rfl (by kernel_rfl))
def bytes_g := ctW (fun x => .str x.bytes)
theorem bytes_en : Enters Pr 42 := Enters.of (fn := Go.Proofs.Tryd.f42) (by kernel_rfl) (by kernel_rfl)
structure OfS where
  s : List (BitVec 8)
  w : List (BitVec 64)
  ls : List (BitVec 64)
  m : Int
theorem ofl_x (s : List (BitVec 8)) (w : List (BitVec 64)) (ls : List (BitVec 64)) (m : Int) (i : Nat) : Tr.prune (Tr.Sh.any.both
  Tr.Sh.any)
  (execBN Pr OTB noLoopsT (100 : Nat) (0 : Nat) [(0 : Nat), (2 : Nat), (4 : Nat), (11 : Nat), (12 : Nat)]
  [(2 : Nat), (4 : Nat)] (loopBody Go.Proofs.Tryd.f51 (0 : Nat))
  [((0 : Nat), V.str s), ((2 : Nat), V.ptr (0 : Nat) (0 : Nat)), ((4 : Nat), V.ptr (1 : Nat) (0 : Nat)),
    ((11 : Nat), V.int IntKind.i64 m), ((12 : Nat), V.int IntKind.i64 (↑i : Int))]
  [Blk.b64 w, Blk.b64 ls]) =
  Tr.chk true
  (Tr.br (decide ((↑i : Int) < m))
    (Tr.chk
      (decide ((0 : Int) ≤ wrapI IntKind.i64 ((↑i : Int).tdiv (8 : Int))) &&
            decide (wrapI IntKind.i64 ((↑i : Int).tdiv (8 : Int)) < (4 : Int)) &&
          (decide ((0 : Nat) + (wrapI IntKind.i64 ((↑i : Int).tdiv (8 : Int))).toNat * (1 : Nat) < ls.length) &&
            (decide ((0 : Int) ≤ wrapI IntKind.i64 (wrapI IntKind.i64 ((↑s.length : Int) - (1 : Int)) - (↑i : Int))) &&
                decide
                  (wrapI IntKind.i64 (wrapI IntKind.i64 ((↑s.length : Int) - (1 : Int)) - (↑i : Int)) <
                    (↑s.length : Int)) &&
              (decide ((0 : Int) ≤ wrapI IntKind.i64 ((↑i : Int).tmod (8 : Int) * (8 : Int))) &&
                (decide ((0 : Int) ≤ wrapI IntKind.i64 ((↑i : Int).tdiv (8 : Int))) &&
                    decide (wrapI IntKind.i64 ((↑i : Int).tdiv (8 : Int)) < (4 : Int)) &&
                  decide
                    ((0 : Nat) + (wrapI IntKind.i64 ((↑i : Int).tdiv (8 : Int))).toNat * (1 : Nat) + (1 : Nat) ≤
                      ls.length))))) &&
        true)
      (Tr.leaf
        (X.normal,
          [((0 : Nat), V.str s), ((2 : Nat), V.ptr (0 : Nat) (0 : Nat)), ((4 : Nat), V.ptr (1 : Nat) (0 : Nat)),
            ((11 : Nat), V.int IntKind.i64 m),
            ((12 : Nat), V.int IntKind.i64 (wrapI IntKind.i64 ((↑i : Int) + (1 : Int))))],
          [Blk.b64 w,
            Blk.b64
              (ls.set ((0 : Nat) + (wrapI IntKind.i64 ((↑i : Int).tdiv (8 : Int))).toNat * (1 : Nat))
                (ls.getD ((0 : Nat) + (wrapI IntKind.i64 ((↑i : Int).tdiv (8 : Int))).toNat * (1 : Nat))
                    (OfNat.ofNat (0 : Nat)) |||
                  BitVec.setWidth (64 : Nat)
                      (s.getD (wrapI IntKind.i64 (wrapI IntKind.i64 ((↑s.length : Int) - (1 : Int)) - (↑i : Int))).toNat
                        (OfNat.ofNat (0 : Nat))) <<<
                    (wrapI IntKind.i64 ((↑i : Int).tmod (8 : Int) * (8 : Int))).toNat))])))
    (Tr.leaf
      (X.exit (0 : Nat), [((2 : Nat), V.ptr (0 : Nat) (0 : Nat)), ((4 : Nat), V.ptr (1 : Nat) (0 : Nat))],
        [Blk.b64 w, Blk.b64 ls]))) := by kernel_rfl
def of_L (a : OfS) (i : Nat) : List (BitVec 64) := if i = 0 then a.ls else W4.ofL a.s i
def of_S (a : OfS) (i : Nat) : Fr × Heap := ([(0,.str a.s),(2,.ptr 0 0),(4,.ptr 1 0),(11,.int .i64 a.m),(12,.int .i64 (i : Nat))], [.b64 a.w, .b64 (of_L a i)])
def of_read : Fr → Heap → Option OfS := fun f h => match f, h with
  | [(0,.str s),(2,.ptr 0 0),(4,.ptr 1 0),(11,.int .i64 m),(12,.int .i64 0)], [.b64 w, .b64 ls] => some ⟨s, w, ls, m⟩
  | _, _ => none
def of_ok (a : OfS) : Bool := decide (a.s.length ≤ 32) && decide (a.m = (a.s.length : Nat)) && decide (a.ls = [0,0,0,0])
def of_E (a : OfS) : Tr (X × Fr × Heap) := .leaf (.exit 0, [(2,.ptr 0 0),(4,.ptr 1 0)], [.b64 a.w, .b64 (W4.ofL a.s a.s.length)])
def of_s : SmT := whT 5 [0,2,4,11,12] of_read of_ok of_E
theorem of_at : SmAtT Pr Go.Proofs.Tryd.f51 0 of_s 0 := by
  refine cntT_x OTB_sound mixed of_S (fun a => a.s.length) (fun a i => ofl_x a.s a.w (of_L a i) a.m i) (by kernel_rfl) (by kernel_rfl) (by kernel_rfl) LoopsOk.noneT ?_ ?_
  · intro f g a h
    unfold of_read at h
    split at h <;> cases h
    rfl
  · rintro ⟨s, w, ls, m⟩ q hok hq i hi
    simp only [of_ok, Bool.and_eq_true, decide_eq_true_eq] at hok
    obtain ⟨⟨h1, rfl⟩, rfl⟩ := hok
    simp only at hi
    rw [of_E, Tr.is_leaf] at hq
    have hL : ∀ j, of_L ⟨s, w, [0,0,0,0], (s.length : Nat)⟩ j = W4.ofL s j := by
      intro j; unfold of_L; split
      · rename_i h; subst h; rfl
      · rfl
    have hl := W4.ofL_length s i
    simp only [wp_chk, wp_leaf, wp_br, hL, decide_eq_true_eq, decide_eq_false_iff_not, true_and]
    refine ⟨fun hlt => ⟨?_, ?_⟩, fun hge => ?_⟩
    · simp (disch := omega) only [tmod_lit, tdiv_lit, mul_lit, add_lit, lit_mul, lit_add, add_nat, mul_nat, sub_lit, lit_sub, sub_nat, wrapI_nat, wrapI_in, Int.toNat_natCast, Nat.mul_one, Nat.zero_add, toNat_lit]
      simp only [Bool.and_eq_true, decide_eq_true_eq]
      (repeat' apply And.intro) <;> first | omega | trivial
    · refine .inl ⟨by omega, ?_⟩
      rw [of_S]
      simp (disch := omega) only [tmod_lit, tdiv_lit, mul_lit, add_lit, lit_mul, lit_add, add_nat, mul_nat, sub_lit, lit_sub, sub_nat, wrapI_nat, wrapI_in, Int.toNat_natCast, Nat.mul_one, Nat.zero_add, toNat_lit, hL, W4.ofL]
    · refine .inr ⟨fun h => (by cases h), ?_⟩
      rw [← hq]
      have : i = s.length := by omega
      rw [this]
theorem of_Ls : LoopsOk Pr Go.Proofs.Tryd.f51 0 (smLT 0 [of_s]).o := LoopsOk.one (by kernel_rfl) of_at
theorem of_x (s : List (BitVec 8)) : Tr.prune (Tr.Sh.any.both Tr.Sh.any)
  (execBF Pr OTB (smLT (0 : Nat) [of_s]) (100 : Nat) Go.Proofs.Tryd.f51 [V.str s] []) =
  Tr.chk true
  (Tr.br (decide ((↑s.length : Int) > (32 : Int)))
    (Tr.chk true
      (Tr.leaf
        (Fin.ret
            (V.tup
              [V.agg
                  [V.u64 (BitVec.ofInt (64 : Nat) (0 : Int)), V.u64 (BitVec.ofInt (64 : Nat) (0 : Int)),
                    V.u64 (BitVec.ofInt (64 : Nat) (0 : Int)), V.u64 (BitVec.ofInt (64 : Nat) (0 : Int))],
                V.bool false]),
          [])))
    (Tr.chk
      (of_ok
            (OfS.mk s
              [BitVec.ofInt (64 : Nat) (0 : Int), BitVec.ofInt (64 : Nat) (0 : Int), BitVec.ofInt (64 : Nat) (0 : Int),
                BitVec.ofInt (64 : Nat) (0 : Int)]
              [BitVec.ofInt (64 : Nat) (0 : Int), BitVec.ofInt (64 : Nat) (0 : Int), BitVec.ofInt (64 : Nat) (0 : Int),
                BitVec.ofInt (64 : Nat) (0 : Int)]
              (↑s.length : Int)) &&
          (decide ((4 : Nat) ≤ (W4.ofL s s.length).length) && true) &&
        true)
      (Tr.leaf
        (Fin.ret
            (V.tup
              [V.agg
                  [V.u64 ((W4.ofL s s.length).getD (3 : Nat) (OfNat.ofNat (0 : Nat))),
                    V.u64 ((W4.ofL s s.length).getD (2 : Nat) (OfNat.ofNat (0 : Nat))),
                    V.u64 ((W4.ofL s s.length).getD (1 : Nat) (OfNat.ofNat (0 : Nat))),
                    V.u64 ((W4.ofL s s.length).getD (0 : Nat) (OfNat.ofNat (0 : Nat)))],
                V.bool true]),
          [])))) := by kernel_rfl
/-- the number of bytes, if there are not too many -/
def ofV (s : List (BitVec 8)) : V := .tup [(if s.length ≤ 32 then W4.ofBytes s else W4.zero).v, .bool (decide (s.length ≤ 32))]
theorem of_fn (s : List (BitVec 8)) : LFn Pr 51 [.str s] [] (.ret (ofV s)) [] := by
  refine fnT OTB_sound mixed (by kernel_rfl) of_Ls (of_x s) ?_
  rw [wp_chk_true, wp_br, ofV]
  refine ⟨fun h => ?_, fun h => ?_⟩
  · have h : ¬ s.length ≤ 32 := by have := of_decide_eq_true h; omega
    rw [if_neg h, decide_eq_false h]
    exact tr1 rfl rfl
  · have h : s.length ≤ 32 := by have := of_decide_eq_false h; omega
    rw [if_pos h, decide_eq_true h]
    refine tr1 ?_ rfl
    simp only [of_ok, W4.ofL_length, Bool.and_true, Bool.and_eq_true, decide_eq_true_eq]
    refine ⟨⟨⟨h, ?_⟩, ?_⟩, ?_⟩ <;> first | trivial | rfl | omega
theorem of_en : Enters Pr 51 := Enters.of (fn := Go.Proofs.Tryd.f51) (by kernel_rfl) (by kernel_rfl)
def readS : List V → Heap → Option (List (BitVec 8)) := fun args h => match args, h with
  | [.str s], [] => some s
  | _, _ => none
def ctS (f : List (BitVec 8) → V) : List V → Heap → Tr (Fin × Heap) := ctT readS (fun s => .leaf (.ret (f s), []))
theorem ctS_ok {i : FuncId} {f : List (BitVec 8) → V} (hf : ∀ s, LFn Pr i [.str s] [] (.ret (f s)) []) : ∀ args h r, (ctS f args h).is r → LFn Pr i args h r.1 r.2 := by
  refine ctT_ok (fun s => [.str s]) (fun _ => []) ?_ (fun a r h => ?_)
  · intro args h a e
    unfold readS at e
    split at e <;> cases e
    exact ⟨rfl, rfl⟩
  · rw [Tr.is_leaf] at h; subst h; exact hf a
structure LT where
  xs : List (List B)
  cap : Option Nat
def cellT : List (List B) → List V
  | [] => []
  | x :: r => .bool false :: .str x :: .nilSl :: cellT r
def rowT (xs : List (List B)) : RW := ⟨fun _ => false, fun i => xs.getD i [], fun _ => 0, fun _ _ _ => .any⟩
theorem lt1_x (a : List B) : Tr.prune (Tr.Sh.any)
  (execBF Pr OA noLoopsT (100 : Nat) Go.Proofs.Tryd.f16 [V.sl (0 : Nat) (0 : Nat) (3 : Nat) (1 : Nat) none]
  [Blk.vals [V.bool false, V.str a, V.nilSl]]) =
  Tr.chk true
  (Tr.leaf
    (Fin.ret
        (V.agg [V.bool true, V.str (bytesOf (ByteArray.mk #[])), V.sl (1 : Nat) (0 : Nat) (3 : Nat) (1 : Nat) none]),
      [Blk.vals [V.bool false, V.str a, V.nilSl], Blk.vals [V.bool false, V.str a, V.nilSl]])) := by kernel_rfl
theorem lt1_fn (a : List B) : LFn Pr 16 [.sl 0 0 3 1 none] [.vals (cellT [a])] (.ret (lsV 1 (rowT [a]))) [.vals (cellT [a])] := by
  have h := fnT (f := 16) (fin := .ret (V.agg [V.bool true, V.str [], V.sl 1 0 3 1 none])) (h' := [Blk.vals [V.bool false, V.str a, V.nilSl], Blk.vals [V.bool false, V.str a, V.nilSl]]) OA_sound mixed (by kernel_rfl) LoopsOk.noneT (lt1_x a) (tr1 rfl rfl)
  have h2 := h.frz (i := 1) (r := (.ret (.agg [.bool true, .str [], .isl 3 1 (frzC [V.bool false, V.str a, V.nilSl] 0 3)]), [.vals [V.bool false, V.str a, V.nilSl]])) rfl (by intro v hv; simp at hv; rcases hv with rfl | rfl | rfl <;> rfl) (by kernel_rfl)
  refine LFn.wkRet h2 (wk_ls fun i hi => ?_)
  have : i = 0 := by omega
  rcases this with rfl
  · exact ⟨.refl _, .refl _, .nil _ _⟩
theorem lt2_x (a : List B) (b : List B) : Tr.prune (Tr.Sh.any)
  (execBF Pr OA noLoopsT (100 : Nat) Go.Proofs.Tryd.f16 [V.sl (0 : Nat) (0 : Nat) (3 : Nat) (2 : Nat) none]
  [Blk.vals [V.bool false, V.str a, V.nilSl, V.bool false, V.str b, V.nilSl]]) =
  Tr.chk true
  (Tr.leaf
    (Fin.ret
        (V.agg [V.bool true, V.str (bytesOf (ByteArray.mk #[])), V.sl (1 : Nat) (0 : Nat) (3 : Nat) (2 : Nat) none]),
      [Blk.vals [V.bool false, V.str a, V.nilSl, V.bool false, V.str b, V.nilSl],
        Blk.vals [V.bool false, V.str a, V.nilSl, V.bool false, V.str b, V.nilSl]])) := by kernel_rfl
theorem lt2_fn (a b : List B) : LFn Pr 16 [.sl 0 0 3 2 none] [.vals (cellT [a, b])] (.ret (lsV 2 (rowT [a, b]))) [.vals (cellT [a, b])] := by
  have h := fnT (f := 16) (fin := .ret (V.agg [V.bool true, V.str [], V.sl 1 0 3 2 none])) (h' := [Blk.vals [V.bool false, V.str a, V.nilSl, V.bool false, V.str b, V.nilSl], Blk.vals [V.bool false, V.str a, V.nilSl, V.bool false, V.str b, V.nilSl]]) OA_sound mixed (by kernel_rfl) LoopsOk.noneT (lt2_x a b) (tr1 rfl rfl)
  have h2 := h.frz (i := 1) (r := (.ret (.agg [.bool true, .str [], .isl 3 2 (frzC [V.bool false, V.str a, V.nilSl, V.bool false, V.str b, V.nilSl] 0 3)]), [.vals [V.bool false, V.str a, V.nilSl, V.bool false, V.str b, V.nilSl]])) rfl (by intro v hv; simp at hv; rcases hv with rfl | rfl | rfl | rfl | rfl | rfl <;> rfl) (by kernel_rfl)
  refine LFn.wkRet h2 (wk_ls fun i hi => ?_)
  have : i = 0 ∨ i = 1 := by omega
  rcases this with rfl | rfl
  · exact ⟨.refl _, .refl _, .nil _ _⟩
  · exact ⟨.refl _, .refl _, .nil _ _⟩
theorem lt3_x (a : List B) (b : List B) (c : List B) : Tr.prune (Tr.Sh.any)
  (execBF Pr OA noLoopsT (100 : Nat) Go.Proofs.Tryd.f16 [V.sl (0 : Nat) (0 : Nat) (3 : Nat) (3 : Nat) none]
  [Blk.vals [V.bool false, V.str a, V.nilSl, V.bool false, V.str b, V.nilSl, V.bool false, V.str c, V.nilSl]]) =
  Tr.chk true
  (Tr.leaf
    (Fin.ret
        (V.agg [V.bool true, V.str (bytesOf (ByteArray.mk #[])), V.sl (1 : Nat) (0 : Nat) (3 : Nat) (3 : Nat) none]),
      [Blk.vals [V.bool false, V.str a, V.nilSl, V.bool false, V.str b, V.nilSl, V.bool false, V.str c, V.nilSl],
        Blk.vals
          [V.bool false, V.str a, V.nilSl, V.bool false, V.str b, V.nilSl, V.bool false, V.str c,
            V.nilSl]])) := by kernel_rfl
theorem lt3_fn (a b c : List B) : LFn Pr 16 [.sl 0 0 3 3 none] [.vals (cellT [a, b, c])] (.ret (lsV 3 (rowT [a, b, c]))) [.vals (cellT [a, b, c])] := by
  have h := fnT (f := 16) (fin := .ret (V.agg [V.bool true, V.str [], V.sl 1 0 3 3 none])) (h' := [Blk.vals [V.bool false, V.str a, V.nilSl, V.bool false, V.str b, V.nilSl, V.bool false, V.str c, V.nilSl], Blk.vals [V.bool false, V.str a, V.nilSl, V.bool false, V.str b, V.nilSl, V.bool false, V.str c, V.nilSl]]) OA_sound mixed (by kernel_rfl) LoopsOk.noneT (lt3_x a b c) (tr1 rfl rfl)
  have h2 := h.frz (i := 1) (r := (.ret (.agg [.bool true, .str [], .isl 3 3 (frzC [V.bool false, V.str a, V.nilSl, V.bool false, V.str b, V.nilSl, V.bool false, V.str c, V.nilSl] 0 3)]), [.vals [V.bool false, V.str a, V.nilSl, V.bool false, V.str b, V.nilSl, V.bool false, V.str c, V.nilSl]])) rfl (by intro v hv; simp at hv; rcases hv with rfl | rfl | rfl | rfl | rfl | rfl | rfl | rfl | rfl <;> rfl) (by kernel_rfl)
  refine LFn.wkRet h2 (wk_ls fun i hi => ?_)
  have : i = 0 ∨ i = 1 ∨ i = 2 := by omega
  rcases this with rfl | rfl | rfl
  · exact ⟨.refl _, .refl _, .nil _ _⟩
  · exact ⟨.refl _, .refl _, .nil _ _⟩
  · exact ⟨.refl _, .refl _, .nil _ _⟩
theorem lt4_x (a : List B) (b : List B) (c : List B) (d : List B) : Tr.prune (Tr.Sh.any)
  (execBF Pr OA noLoopsT (100 : Nat) Go.Proofs.Tryd.f16 [V.sl (0 : Nat) (0 : Nat) (3 : Nat) (4 : Nat) none]
  [Blk.vals
      [V.bool false, V.str a, V.nilSl, V.bool false, V.str b, V.nilSl, V.bool false, V.str c, V.nilSl, V.bool false,
        V.str d, V.nilSl]]) =
  Tr.chk true
  (Tr.leaf
    (Fin.ret
        (V.agg [V.bool true, V.str (bytesOf (ByteArray.mk #[])), V.sl (1 : Nat) (0 : Nat) (3 : Nat) (4 : Nat) none]),
      [Blk.vals
          [V.bool false, V.str a, V.nilSl, V.bool false, V.str b, V.nilSl, V.bool false, V.str c, V.nilSl, V.bool false,
            V.str d, V.nilSl],
        Blk.vals
          [V.bool false, V.str a, V.nilSl, V.bool false, V.str b, V.nilSl, V.bool false, V.str c, V.nilSl, V.bool false,
            V.str d, V.nilSl]])) := by kernel_rfl
theorem lt4_fn (a b c d : List B) : LFn Pr 16 [.sl 0 0 3 4 none] [.vals (cellT [a, b, c, d])] (.ret (lsV 4 (rowT [a, b, c, d]))) [.vals (cellT [a, b, c, d])] := by
  have h := fnT (f := 16) (fin := .ret (V.agg [V.bool true, V.str [], V.sl 1 0 3 4 none])) (h' := [Blk.vals [V.bool false, V.str a, V.nilSl, V.bool false, V.str b, V.nilSl, V.bool false, V.str c, V.nilSl, V.bool false, V.str d, V.nilSl], Blk.vals [V.bool false, V.str a, V.nilSl, V.bool false, V.str b, V.nilSl, V.bool false, V.str c, V.nilSl, V.bool false, V.str d, V.nilSl]]) OA_sound mixed (by kernel_rfl) LoopsOk.noneT (lt4_x a b c d) (tr1 rfl rfl)
  have h2 := h.frz (i := 1) (r := (.ret (.agg [.bool true, .str [], .isl 3 4 (frzC [V.bool false, V.str a, V.nilSl, V.bool false, V.str b, V.nilSl, V.bool false, V.str c, V.nilSl, V.bool false, V.str d, V.nilSl] 0 3)]), [.vals [V.bool false, V.str a, V.nilSl, V.bool false, V.str b, V.nilSl, V.bool false, V.str c, V.nilSl, V.bool false, V.str d, V.nilSl]])) rfl (by intro v hv; simp at hv; rcases hv with rfl | rfl | rfl | rfl | rfl | rfl | rfl | rfl | rfl | rfl | rfl | rfl <;> rfl) (by kernel_rfl)
  refine LFn.wkRet h2 (wk_ls fun i hi => ?_)
  have : i = 0 ∨ i = 1 ∨ i = 2 ∨ i = 3 := by omega
  rcases this with rfl | rfl | rfl | rfl
  · exact ⟨.refl _, .refl _, .nil _ _⟩
  · exact ⟨.refl _, .refl _, .nil _ _⟩
  · exact ⟨.refl _, .refl _, .nil _ _⟩
  · exact ⟨.refl _, .refl _, .nil _ _⟩
def lt_read : List V → Heap → Option LT := fun a h => match a, h with
  | [.sl 0 0 3 1 cap], [.vals [.bool false, .str a, .nilSl]] => some ⟨[a], cap⟩
  | [.sl 0 0 3 2 cap], [.vals [.bool false, .str a, .nilSl, .bool false, .str b, .nilSl]] => some ⟨[a, b], cap⟩
  | [.sl 0 0 3 3 cap], [.vals [.bool false, .str a, .nilSl, .bool false, .str b, .nilSl, .bool false, .str c, .nilSl]] => some ⟨[a, b, c], cap⟩
  | [.sl 0 0 3 4 cap], [.vals [.bool false, .str a, .nilSl, .bool false, .str b, .nilSl, .bool false, .str c, .nilSl, .bool false, .str d, .nilSl]] => some ⟨[a, b, c, d], cap⟩
  | _, _ => none
def lt_f (a : LT) : Tr (Fin × Heap) := .leaf (.ret (lsV a.xs.length (rowT a.xs)), [.vals (cellT a.xs)])
theorem sl_none {I : Nat → Prop} {w : World} {ρ : Ren} {i o s n : Nat} {c : Option Nat} {us : List Value} (h : VsRel I w ρ [.sl i o s n c] us) : VsRel I w ρ [.sl i o s n none] us := by
  cases h with
  | cons _ _ u _ r h1 h =>
    refine .cons _ _ _ _ _ ?_ h
    cases h1 with
    | sl _ _ _ _ _ _ c2 l hh h1 h2 h3 => exact .sl _ _ _ _ _ _ c2 l hh h1 h2 (fun n e => by cases e)
    | slz _ _ _ _ _ y l hh h3 => exact .slz _ _ _ _ _ y l hh (fun n e => by cases e)
theorem lt_ok : ∀ args h r, ((ctT lt_read lt_f) args h).is r → LFn Pr 16 args h r.1 r.2 := by
  intro args h r hr
  unfold ctT at hr
  split at hr
  · rename_i a e
    rw [lt_f, Tr.is_leaf] at hr
    subst hr
    unfold lt_read at e
    split at e <;> cases e
    · exact LFn.wkArgs (lt1_fn _) (fun I w ρ us h => sl_none h)
    · exact LFn.wkArgs (lt2_fn _ _) (fun I w ρ us h => sl_none h)
    · exact LFn.wkArgs (lt3_fn _ _ _) (fun I w ρ us h => sl_none h)
    · exact LFn.wkArgs (lt4_fn _ _ _ _) (fun I w ρ us h => sl_none h)
  · exact (Tr.is_no.1 hr).elim
end
end Go.Proofs.YtbgiickegljpoaaDoor.K
end
section
open Go Go.Lh
namespace Go.Proofs.YtbgiickegljpoaaDoor.K
noncomputable section
set_option maxRecDepth 100000
structure BA where
  f : List B
  c : CM
def ba_read : List V → Heap → Option BA := fun a h => match a, h with
  | [.ptr 0 0, .str f], [.vals [.str nm, .str ad, .u64 n, .u64 ka, .u64 kb, .u64 kc, .u64 kd, .u64 va, .u64 vb, .u64 vc, .u64 vd, .str s, .int .i64 tk, .str tf, .str tt, .u64 tn, .u64 tg, .u64 pa, .u64 pb, .u64 pc, .u64 pd, .u64 ia, .u64 ib, .u64 ic, .u64 id, .u64 wa, .u64 wb, .u64 wc, .u64 wd, .str td, .nilSl]] =>
    some ⟨f, ⟨nm, ad, n, ⟨ka, kb, kc, kd⟩, ⟨va, vb, vc, vd⟩, s, tk, tf, tt, tn, tg, ⟨pa, pb, pc, pd⟩, ⟨ia, ib, ic, id⟩, ⟨wa, wb, wc, wd⟩, td⟩⟩
  | _, _ => none
def okBa (a : BA) : Prop := (a.f = f_t ∨ a.f = f_n ∨ a.f = f_a ∨ a.f = f_ak ∨ a.f = f_av ∨ a.f = f_an ∨ a.f = f_as ∨ a.f = f_akv ∨ a.f = f_e ∨ a.f = f_s) ∧ okC a.c
def okBaB (a : BA) : Bool := @decide (okBa a) (Classical.propDecidable _)
def ba_f (a : BA) : Tr (Fin × Heap) := .chk (okBaB a) (.leaf (.ret (.bool (bareB a.f a.c)), [.vals (a.c.cs .nilSl)]))
theorem ba_ok : ∀ args h r, ((ctT ba_read ba_f) args h).is r → LFn Pr 12 args h r.1 r.2 := by
  refine ctT_ok (fun a => [.ptr 0 0, .str a.f]) (fun a => [.vals (a.c.cs .nilSl)]) ?_ (fun a r h => ?_)
  · intro args h a e
    unfold ba_read at e
    split at e <;> cases e <;> exact ⟨rfl, rfl⟩
  · rw [ba_f, Tr.is_chk, Tr.is_leaf] at h
    obtain ⟨h1, rfl⟩ := h
    obtain ⟨h2, h3⟩ : okBa a := @of_decide_eq_true _ (Classical.propDecidable _) h1
    obtain ⟨f, c⟩ := a
    simp only at h2 h3
    rcases h2 with rfl | rfl | rfl | rfl | rfl | rfl | rfl | rfl | rfl | rfl
    · exact bare_t c h3
    · exact bare_n c h3
    · exact bare_a c h3
    · exact bare_ak c h3
    · exact bare_av c h3
    · exact bare_an c h3
    · exact bare_as c h3
    · exact bare_akv c h3
    · exact bare_e c h3
    · exact bare_s c h3
def fkP (f s : List B) : Prop := lookS fieldsL s = f ∧ hasS fieldsL s = true
def fkB (f s : List B) : Bool := @decide (fkP f s) (Classical.propDecidable _)
def fk_f (f : List B) (s : List B) : Tr (Fin × Heap) := .chk (fkB f s) (.leaf (.ret (.tup [.str f, .bool true]), []))
theorem fk_ok (f : List B) : ∀ args h r, ((ctT readS (fk_f f)) args h).is r → LFn Pr 10 args h r.1 r.2 := by
  refine ctT_ok (fun s => [.str s]) (fun _ => []) ?_ (fun a r h => ?_)
  · intro args h a e
    unfold readS at e
    split at e <;> cases e
    exact ⟨rfl, rfl⟩
  · rw [fk_f, Tr.is_chk, Tr.is_leaf] at h
    obtain ⟨h1, rfl⟩ := h
    obtain ⟨h2, h3⟩ : fkP f a := @of_decide_eq_true _ (Classical.propDecidable _) h1
    have := fields_fn a
    rw [h2, h3] at this
    exact this
def KEn (f : List B) : KnownT := (10, ctT readS (fk_f f)) :: (12, ctT ba_read ba_f) :: (13, pu_g) :: (42, old bytes_g) :: (16, ctT lt_read lt_f) :: (15, ctT en_read en_f) :: KR5
theorem KEn_ok (f : List B) : KOkT Pr (KEn f) := KOkT.cons (Enters.of (fn := Go.Proofs.Tryd.f10) (by kernel_rfl) (by kernel_rfl)) (fk_ok f) (KOkT.cons (Enters.of (fn := Go.Proofs.Tryd.f12) (by kernel_rfl) (by kernel_rfl)) ba_ok (KOkT.cons (Enters.of (fn := Go.Proofs.Tryd.f13) (by kernel_rfl) (by kernel_rfl)) pu_ok (KOkT.cons bytes_en (old_ok (ctW_ok bytes_fn)) (KOkT.cons (Enters.of (fn := Go.Proofs.Tryd.f16) (by kernel_rfl) (by kernel_rfl)) lt_ok (KOkT.cons (Enters.of (fn := Go.Proofs.Tryd.f15) (by kernel_rfl) (by kernel_rfl)) en_ok KR5_ok)))))
def OEn (f : List B) : OrcT := autoT Pr ext (KEn f) [14,41,22,23,24,25,26] 3
theorem OEn_sound (f : List B) : OrcSound Pr (OEn f).o := autoT_sound mixed ext_ok (KEn_ok f) (by kernel_rfl) 3
theorem en_n_x (c : CM) : Tr.prune ((Tr.Sh.any.both Tr.Sh.any.r.r.l).r.r.r)
  (execBF Pr (OEn f_n) noLoopsT (100 : Nat) Go.Proofs.Tryd.f8 [V.agg (c.cs V.nilSl)] []) =
  Tr.chk (fkB f_n c.nm && true && true && (okBaB (BA.mk f_n c) && true))
  (Tr.br (!bareB f_n c) (Tr.chk true (Tr.leaf (Fin.ret (V.tup [V.str (bytesOf (ByteArray.mk #[])), V.bool false]), [])))
    (Tr.chk
      (okVB (V.agg [V.bool true, V.str [], V.isl (3 : Nat) (2 : Nat) (rwF (rowT [c.nm, numB c.n]))]) && true && true)
      (Tr.leaf
        (Fin.ret
            (V.tup
              [V.str (encV (V.agg [V.bool true, V.str [], V.isl (3 : Nat) (2 : Nat) (rwF (rowT [c.nm, numB c.n]))])),
                V.bool true]),
          [])))) := by kernel_rfl
theorem en_a_x (c : CM) : Tr.prune ((Tr.Sh.any.both (Tr.Sh.any.both Tr.Sh.any.r).l).r.r.r)
  (execBF Pr (OEn f_a) noLoopsT (100 : Nat) Go.Proofs.Tryd.f8 [V.agg (c.cs V.nilSl)] []) =
  Tr.chk (fkB f_a c.nm && true && true && (okBaB (BA.mk f_a c) && true))
  (Tr.br (!bareB f_a c) (Tr.chk true (Tr.leaf (Fin.ret (V.tup [V.str (bytesOf (ByteArray.mk #[])), V.bool false]), [])))
    (Tr.chk true
      (Tr.br (!(↑c.ad.length : Int) == (20 : Int))
        (Tr.chk true (Tr.leaf (Fin.ret (V.tup [V.str (bytesOf (ByteArray.mk #[])), V.bool false]), [])))
        (Tr.chk
          (okVB (V.agg [V.bool true, V.str [], V.isl (3 : Nat) (2 : Nat) (rwF (rowT [c.nm, c.ad]))]) && true && true)
          (Tr.leaf
            (Fin.ret
                (V.tup
                  [V.str (encV (V.agg [V.bool true, V.str [], V.isl (3 : Nat) (2 : Nat) (rwF (rowT [c.nm, c.ad]))])),
                    V.bool true]),
              [])))))) := by kernel_rfl
theorem en_ak_x (c : CM) : Tr.prune ((Tr.Sh.any.both (Tr.Sh.any.both Tr.Sh.any.r.r.l).l).r.r.r)
  (execBF Pr (OEn f_ak) noLoopsT (100 : Nat) Go.Proofs.Tryd.f8 [V.agg (c.cs V.nilSl)] []) =
  Tr.chk (fkB f_ak c.nm && true && true && (okBaB (BA.mk f_ak c) && true))
  (Tr.br (!bareB f_ak c)
    (Tr.chk true (Tr.leaf (Fin.ret (V.tup [V.str (bytesOf (ByteArray.mk #[])), V.bool false]), [])))
    (Tr.chk true
      (Tr.br (!(↑c.ad.length : Int) == (20 : Int))
        (Tr.chk true (Tr.leaf (Fin.ret (V.tup [V.str (bytesOf (ByteArray.mk #[])), V.bool false]), [])))
        (Tr.chk
          ((List.take (3 : Nat)
                        (setCells
                          (List.replicate (1 : Nat) [V.bool false, V.str (bytesOf (ByteArray.mk #[])), V.nilSl]).flatten
                          (0 : Nat) [V.bool false, V.str c.k.bytes, V.nilSl])).all
                    V.one &&
                  true &&
                true &&
              true &&
            (okVB (V.agg [V.bool true, V.str [], V.isl (3 : Nat) (3 : Nat) (rwF (rowT [c.nm, c.ad, c.k.bytes]))]) &&
                true &&
              true))
          (Tr.leaf
            (Fin.ret
                (V.tup
                  [V.str
                      (encV
                        (V.agg
                          [V.bool true, V.str [], V.isl (3 : Nat) (3 : Nat) (rwF (rowT [c.nm, c.ad, c.k.bytes]))])),
                    V.bool true]),
              [])))))) := by kernel_rfl
theorem en_av_x (c : CM) : Tr.prune ((Tr.Sh.any.both (Tr.Sh.any.both Tr.Sh.any.r.r.l).l).r.r.r)
  (execBF Pr (OEn f_av) noLoopsT (100 : Nat) Go.Proofs.Tryd.f8 [V.agg (c.cs V.nilSl)] []) =
  Tr.chk (fkB f_av c.nm && true && true && (okBaB (BA.mk f_av c) && true))
  (Tr.br (!bareB f_av c)
    (Tr.chk true (Tr.leaf (Fin.ret (V.tup [V.str (bytesOf (ByteArray.mk #[])), V.bool false]), [])))
    (Tr.chk true
      (Tr.br (!(↑c.ad.length : Int) == (20 : Int))
        (Tr.chk true (Tr.leaf (Fin.ret (V.tup [V.str (bytesOf (ByteArray.mk #[])), V.bool false]), [])))
        (Tr.chk
          ((List.take (3 : Nat)
                        (setCells
                          (List.replicate (1 : Nat) [V.bool false, V.str (bytesOf (ByteArray.mk #[])), V.nilSl]).flatten
                          (0 : Nat) [V.bool false, V.str c.v.bytes, V.nilSl])).all
                    V.one &&
                  true &&
                true &&
              true &&
            (okVB (V.agg [V.bool true, V.str [], V.isl (3 : Nat) (3 : Nat) (rwF (rowT [c.nm, c.ad, c.v.bytes]))]) &&
                true &&
              true))
          (Tr.leaf
            (Fin.ret
                (V.tup
                  [V.str
                      (encV
                        (V.agg
                          [V.bool true, V.str [], V.isl (3 : Nat) (3 : Nat) (rwF (rowT [c.nm, c.ad, c.v.bytes]))])),
                    V.bool true]),
              [])))))) := by kernel_rfl
theorem en_an_x (c : CM) : Tr.prune ((Tr.Sh.any.both (Tr.Sh.any.both Tr.Sh.any.r.r.l).l).r.r.r)
  (execBF Pr (OEn f_an) noLoopsT (100 : Nat) Go.Proofs.Tryd.f8 [V.agg (c.cs V.nilSl)] []) =
  Tr.chk (fkB f_an c.nm && true && true && (okBaB (BA.mk f_an c) && true))
  (Tr.br (!bareB f_an c)
    (Tr.chk true (Tr.leaf (Fin.ret (V.tup [V.str (bytesOf (ByteArray.mk #[])), V.bool false]), [])))
    (Tr.chk true
      (Tr.br (!(↑c.ad.length : Int) == (20 : Int))
        (Tr.chk true (Tr.leaf (Fin.ret (V.tup [V.str (bytesOf (ByteArray.mk #[])), V.bool false]), [])))
        (Tr.chk
          ((List.take (3 : Nat)
                        (setCells
                          (List.replicate (1 : Nat) [V.bool false, V.str (bytesOf (ByteArray.mk #[])), V.nilSl]).flatten
                          (0 : Nat) [V.bool false, V.str (numB c.n), V.nilSl])).all
                    V.one &&
                  true &&
                true &&
              true &&
            (okVB (V.agg [V.bool true, V.str [], V.isl (3 : Nat) (3 : Nat) (rwF (rowT [c.nm, c.ad, numB c.n]))]) &&
                true &&
              true))
          (Tr.leaf
            (Fin.ret
                (V.tup
                  [V.str
                      (encV
                        (V.agg [V.bool true, V.str [], V.isl (3 : Nat) (3 : Nat) (rwF (rowT [c.nm, c.ad, numB c.n]))])),
                    V.bool true]),
              [])))))) := by kernel_rfl
theorem en_as_x (c : CM) : Tr.prune ((Tr.Sh.any.both (Tr.Sh.any.both (Tr.Sh.any.both Tr.Sh.any.r).l).l).r.r.r)
  (execBF Pr (OEn f_as) noLoopsT (100 : Nat) Go.Proofs.Tryd.f8 [V.agg (c.cs V.nilSl)] []) =
  Tr.chk (fkB f_as c.nm && true && true && (okBaB (BA.mk f_as c) && true))
  (Tr.br (!bareB f_as c)
    (Tr.chk true (Tr.leaf (Fin.ret (V.tup [V.str (bytesOf (ByteArray.mk #[])), V.bool false]), [])))
    (Tr.chk true
      (Tr.br (!(↑c.ad.length : Int) == (20 : Int))
        (Tr.chk true (Tr.leaf (Fin.ret (V.tup [V.str (bytesOf (ByteArray.mk #[])), V.bool false]), [])))
        (Tr.chk true
          (Tr.br (!decide ((↑c.s.length : Int) ≤ (32768 : Int)))
            (Tr.chk true (Tr.leaf (Fin.ret (V.tup [V.str (bytesOf (ByteArray.mk #[])), V.bool false]), [])))
            (Tr.chk
              ((List.take (3 : Nat)
                            (setCells
                              (List.replicate (1 : Nat)
                                  [V.bool false, V.str (bytesOf (ByteArray.mk #[])), V.nilSl]).flatten
                              (0 : Nat) [V.bool false, V.str c.s, V.nilSl])).all
                        V.one &&
                      true &&
                    true &&
                  true &&
                (okVB (V.agg [V.bool true, V.str [], V.isl (3 : Nat) (3 : Nat) (rwF (rowT [c.nm, c.ad, c.s]))]) &&
                    true &&
                  true))
              (Tr.leaf
                (Fin.ret
                    (V.tup
                      [V.str
                          (encV
                            (V.agg [V.bool true, V.str [], V.isl (3 : Nat) (3 : Nat) (rwF (rowT [c.nm, c.ad, c.s]))])),
                        V.bool true]),
                  [])))))))) := by kernel_rfl
theorem en_akv_x (c : CM) : Tr.prune ((Tr.Sh.any.both (Tr.Sh.any.both Tr.Sh.any.r.r.l.r.l).l).r.r.r)
  (execBF Pr (OEn f_akv) noLoopsT (100 : Nat) Go.Proofs.Tryd.f8 [V.agg (c.cs V.nilSl)] []) =
  Tr.chk (fkB f_akv c.nm && true && true && (okBaB (BA.mk f_akv c) && true))
  (Tr.br (!bareB f_akv c)
    (Tr.chk true (Tr.leaf (Fin.ret (V.tup [V.str (bytesOf (ByteArray.mk #[])), V.bool false]), [])))
    (Tr.chk true
      (Tr.br (!(↑c.ad.length : Int) == (20 : Int))
        (Tr.chk true (Tr.leaf (Fin.ret (V.tup [V.str (bytesOf (ByteArray.mk #[])), V.bool false]), [])))
        (Tr.chk
          ((List.take (3 : Nat)
                        (setCells
                          (List.replicate (1 : Nat) [V.bool false, V.str (bytesOf (ByteArray.mk #[])), V.nilSl]).flatten
                          (0 : Nat) [V.bool false, V.str c.k.bytes, V.nilSl])).all
                    V.one &&
                  true &&
                true &&
              true &&
            ((List.take (3 : Nat)
                          (setCells
                            (List.replicate (1 : Nat)
                                [V.bool false, V.str (bytesOf (ByteArray.mk #[])), V.nilSl]).flatten
                            (0 : Nat) [V.bool false, V.str c.v.bytes, V.nilSl])).all
                      V.one &&
                    true &&
                  true &&
                true &&
              (okVB
                    (V.agg
                      [V.bool true, V.str [],
                        V.isl (3 : Nat) (4 : Nat) (rwF (rowT [c.nm, c.ad, c.k.bytes, c.v.bytes]))]) &&
                  true &&
                true)))
          (Tr.leaf
            (Fin.ret
                (V.tup
                  [V.str
                      (encV
                        (V.agg
                          [V.bool true, V.str [],
                            V.isl (3 : Nat) (4 : Nat) (rwF (rowT [c.nm, c.ad, c.k.bytes, c.v.bytes]))])),
                    V.bool true]),
              [])))))) := by kernel_rfl
theorem en_e_x (c : CM) : Tr.prune ((Tr.Sh.any.both Tr.Sh.any.r).r.r.r)
  (execBF Pr (OEn f_e) noLoopsT (100 : Nat) Go.Proofs.Tryd.f8 [V.agg (c.cs V.nilSl)] []) =
  Tr.chk (fkB f_e c.nm && true && true && (okBaB (BA.mk f_e c) && true))
  (Tr.br (!bareB f_e c) (Tr.chk true (Tr.leaf (Fin.ret (V.tup [V.str (bytesOf (ByteArray.mk #[])), V.bool false]), [])))
    (Tr.chk (okVB (V.agg [V.bool true, V.str [], V.isl (3 : Nat) (1 : Nat) (rwF (rowT [c.nm]))]) && true && true)
      (Tr.leaf
        (Fin.ret
            (V.tup
              [V.str (encV (V.agg [V.bool true, V.str [], V.isl (3 : Nat) (1 : Nat) (rwF (rowT [c.nm]))])),
                V.bool true]),
          [])))) := by kernel_rfl
theorem en_s_x (c : CM) : Tr.prune ((Tr.Sh.any.both (Tr.Sh.any.both Tr.Sh.any.r).l).r.r.r)
  (execBF Pr (OEn f_s) noLoopsT (100 : Nat) Go.Proofs.Tryd.f8 [V.agg (c.cs V.nilSl)] []) =
  Tr.chk (fkB f_s c.nm && true && true && (okBaB (BA.mk f_s c) && true))
  (Tr.br (!bareB f_s c) (Tr.chk true (Tr.leaf (Fin.ret (V.tup [V.str (bytesOf (ByteArray.mk #[])), V.bool false]), [])))
    (Tr.chk true
      (Tr.br (!decide ((↑c.s.length : Int) ≤ (32768 : Int)))
        (Tr.chk true (Tr.leaf (Fin.ret (V.tup [V.str (bytesOf (ByteArray.mk #[])), V.bool false]), [])))
        (Tr.chk
          (okVB (V.agg [V.bool true, V.str [], V.isl (3 : Nat) (2 : Nat) (rwF (rowT [c.nm, c.s]))]) && true && true)
          (Tr.leaf
            (Fin.ret
                (V.tup
                  [V.str (encV (V.agg [V.bool true, V.str [], V.isl (3 : Nat) (2 : Nat) (rwF (rowT [c.nm, c.s]))])),
                    V.bool true]),
              [])))))) := by kernel_rfl
end
end Go.Proofs.YtbgiickegljpoaaDoor.K
end
section
open Go Go.Lh
namespace Go.Proofs.YtbgiickegljpoaaDoor.K
noncomputable section
set_option maxRecDepth 100000
theorem foldB_toNat : ∀ (s : List B) (n : BitVec 64) (k : Nat), n.toNat < 256 ^ k → k + s.length ≤ 8 → (foldB n s).toNat = n.toNat * 256 ^ s.length + beN s
  | [], n, k, _, _ => by simp [foldB, beN]
  | b :: r, n, k, hn, hk => by
    have h8 : 256 ^ (k + 1) ≤ 256 ^ 8 := Nat.pow_le_pow_right (by decide) (by simp only [List.length_cons] at hk; omega)
    have h64 : (256 : Nat) ^ 8 = 2 ^ 64 := by decide
    have hb := b.isLt
    have hs : n.toNat * 256 + b.toNat < 256 ^ (k + 1) := by rw [Nat.pow_succ]; omega
    have e : (n <<< 8 ||| b.setWidth 64).toNat = n.toNat * 256 + b.toNat := by
      rw [byte_step, BitVec.toNat_add, BitVec.toNat_mul, BitVec.toNat_setWidth, c256]
      have : b.toNat % 2 ^ 64 = b.toNat := Nat.mod_eq_of_lt (by omega)
      rw [this, Nat.mod_eq_of_lt (a := n.toNat * 256) (by omega), Nat.mod_eq_of_lt (by omega)]
    have ih := foldB_toNat r (n <<< 8 ||| b.setWidth 64) (k + 1) (by rw [e]; exact hs) (by simp only [List.length_cons] at hk; omega)
    have e2 : foldB n (b :: r) = foldB (n <<< 8 ||| b.setWidth 64) r := rfl
    rw [e2, ih, e, beN, List.length_cons, Nat.pow_succ, Nat.add_mul, Nat.mul_assoc, Nat.mul_comm 256, Nat.add_assoc]
theorem valB_toNat {s : List B} (h : s.length ≤ 8) : (valB s).toNat = beN s := by
  rw [valB_eq, foldB_toNat s 0 0 (by decide) (by omega)]
  simp
theorem beN_trL : ∀ s : List B, beN (trL 0 s) = beN s
  | [] => rfl
  | x :: r => by
    rw [trL]
    split
    · rename_i h
      rw [beN_trL r, beN, h]; simp
    · rfl
theorem trL_head : ∀ s : List B, ((trL 0 s).take 1 == [0#8]) = false
  | [] => rfl
  | x :: r => by
    rw [trL]
    split
    · exact trL_head r
    · rename_i h
      show ([x] == [0#8]) = false
      simpa using h
theorem trL_self {s : List B} (h : (s.take 1 == [0#8]) = false) : trL 0 s = s := by
  cases s with
  | nil => rfl
  | cons x r =>
    rw [trL, if_neg]
    rintro rfl
    cases h
theorem noLead_inj {s t : List B} (hs : (s.take 1 == [0#8]) = false) (ht : (t.take 1 == [0#8]) = false) (h : beN s = beN t) : s = t := by
  refine beN_inj ?_ h
  have e : ∀ k, s.length ≤ k ↔ t.length ≤ k := by
    intro k
    have a := trL_le s k
    have b := trL_le t k
    rw [trL_self hs] at a
    rw [trL_self ht] at b
    rw [a, b, h]
  have h1 := (e t.length).2 (Nat.le_refl _)
  have h2 := (e s.length).1 (Nat.le_refl _)
  omega
theorem beN_numB (n : BitVec 64) : beN (numB n) = n.toNat := by
  rw [numB_eq]
  have h := beN_trL (be8 n)
  rw [show (0#8 : B) = 0 from rfl, h, ← beK_8]
  have : (256 : Nat) ^ 8 = 2 ^ 64 := by decide
  exact beN_beK 8 n (by rw [this]; exact n.isLt)
theorem numB_small (n : BitVec 64) : smallB false (numB n) = true := by
  have h := numB_len n
  have h2 : ((numB n).take 1 == [0#8]) = false := by rw [numB_eq]; exact trL_head _
  unfold smallB
  rw [decide_eq_true h, h2]; rfl
theorem smallB_iff {s : List B} (h : smallB false s = true) : s.length ≤ 8 ∧ (s.take 1 == [0#8]) = false := by
  unfold smallB at h
  simp only [Bool.and_eq_true, Bool.not_eq_true', decide_eq_true_eq] at h
  exact ⟨h.1.2, h.2⟩
theorem smallN_val {s : List B} (h : smallB false s = true) : (smallN false s).toNat = beN s := by
  unfold smallN
  rw [if_pos h, valB_toNat (smallB_iff h).1]
theorem smallN_numB (n : BitVec 64) : smallN false (numB n) = n := by
  apply BitVec.eq_of_toNat_eq
  rw [smallN_val (numB_small n), beN_numB]
/-- the bytes of a small text's number are the text -/
theorem numB_smallN {s : List B} (h : smallB false s = true) : numB (smallN false s) = s := by
  refine noLead_inj (smallB_iff (numB_small _)).2 (smallB_iff h).2 ?_
  rw [beN_numB, smallN_val h]
theorem numB_inj {a b : BitVec 64} (h : numB a = numB b) : a = b := by rw [← smallN_numB a, h, smallN_numB]
theorem brT2 {α : Type} {t u : Tr α} {Q : α → Prop} (h : t.wp Q) : (Tr.chk true (Tr.br true t u)).wp Q := wp_chk_true.2 (brT h)
end
end Go.Proofs.YtbgiickegljpoaaDoor.K
end
section
open Go Go.Lh
namespace Go.Proofs.YtbgiickegljpoaaDoor.K
noncomputable section
set_option maxRecDepth 100000
theorem numB_le (n : BitVec 64) (k : Nat) : (numB n).length ≤ k ↔ n.toNat < 256 ^ k := by
  rw [numB_eq]
  have h := trL_le (be8 n) k
  have : (256 : Nat) ^ 8 = 2 ^ 64 := by decide
  rw [← beK_8, beN_beK 8 n (by rw [this]; exact n.isLt), beK_8] at h
  exact h
theorem enc_lst (l : List It) : enc (.lst l) = headO 192#8 (encs l).length ++ encs l := by rw [enc]
theorem enc_txt_eq (s : List B) : enc (.txt s) = if s.length = 1 ∧ s.getD 0 0 < 128#8 then s else headO 128#8 s.length ++ s := by rw [enc]
theorem encs_cons (x : It) (r : List It) : encs (x :: r) = enc x ++ encs r := by rw [encs]
theorem encs_nil : encs [] = [] := by rw [encs]
theorem mnF_len {k : Nat} {s : List B} {p : Nat × List B} (h : mnF k s = some p) : p.2.length ≤ s.length := by
  unfold mnF at h
  split at h
  · cases h; exact Nat.le_refl _
  · split at h
    · cases h; simp only [List.length_drop]; omega
    · cases h
theorem byte_add {b base : B} {k : Nat} (hk : base.toNat + k < 256) (hb : b.toNat = base.toNat + k) : base + BitVec.ofNat 8 k = b := by
  apply BitVec.eq_of_toNat_eq
  rw [BitVec.toNat_add, BitVec.toNat_ofNat, hb]
  omega
/-- what was read as how many stands as it is written -/
theorem mnF_back {b base : B} {k n : Nat} {s r : List B} (hb : b.toNat = base.toNat + k) (h : mnF k s = some (n, r)) : headO base n ++ r = b :: s := by
  have hlt := b.isLt
  unfold mnF at h
  rw [headO_eq]
  unfold headB
  split at h
  · rename_i hk
    cases h
    rw [if_pos hk, byte_add (by omega) hb]; rfl
  · rename_i hk
    split at h
    · rename_i hc
      obtain ⟨c1, c2, c3, c4⟩ := hc
      cases h
      rw [if_neg (by omega), BitVec.ofNat_toNat, BitVec.setWidth_eq, numB_smallN c2, List.length_take, Nat.min_eq_left c1, BitVec.add_assoc]
      have e : (55#8 + BitVec.ofNat 8 (k - 55)) = BitVec.ofNat 8 k := by
        apply BitVec.eq_of_toNat_eq
        rw [BitVec.toNat_add, BitVec.toNat_ofNat, BitVec.toNat_ofNat, BitVec.toNat_ofNat]
        omega
      rw [e, byte_add (by omega) hb, List.cons_append, List.take_append_drop]
    · cases h
theorem tkF_back {k : Nat} {s : List B} {q : List B × List B} (h : tkF k s = some q) : q.1 ++ q.2 = s ∧ q.1.length = k := by
  unfold tkF at h
  split at h
  · rename_i hk
    cases h
    exact ⟨List.take_append_drop k s, by rw [List.length_take]; omega⟩
  · cases h
theorem manyD_back {dec : List B → Option (It × List B)} (hd : ∀ s x r, dec s = some (x, r) → enc x ++ r = s) : ∀ (n : Nat) (t : List B) (l : List It), manyD dec n t = some l → encs l = t
  | n, [], l, h => by
    rw [manyD.eq_def] at h
    cases h; exact encs_nil
  | 0, b :: t, l, h => by rw [manyD] at h; cases h
  | n + 1, b :: t, l, h => by
    rw [manyD] at h
    cases hx : dec (b :: t) with
    | none => rw [hx] at h; cases h
    | some p =>
      obtain ⟨x, q⟩ := p
      rw [hx] at h
      simp only at h
      rw [Option.map_eq_some_iff] at h
      obtain ⟨l', hl, rfl⟩ := h
      rw [encs_cons, manyD_back hd n q l' hl, hd _ _ _ hx]
/-- what was read stands as it is written -/
theorem itF_back : ∀ (f : Nat) (s : List B) (x : It) (r : List B), itF f s = some (x, r) → enc x ++ r = s
  | 0, s, x, r, h => by cases s <;> cases h
  | f + 1, [], x, r, h => by cases h
  | f + 1, b :: s, x, r, h => by
    have hb := b.isLt
    rw [itF] at h
    split at h
    · rename_i hlt
      cases h
      rw [enc_txt_eq, if_pos ⟨rfl, hlt⟩]; rfl
    · rename_i hlt
      rw [BitVec.lt_def, c128] at hlt
      split at h
      · rename_i hlt2
        rw [BitVec.lt_def, c192] at hlt2
        rw [Option.bind_eq_some_iff] at h
        obtain ⟨⟨n, r1⟩, hp, h⟩ := h
        rw [Option.bind_eq_some_iff] at h
        obtain ⟨⟨t, r2⟩, hq, h⟩ := h
        obtain ⟨q1, q2⟩ := tkF_back hq
        simp only at q1 q2
        split at h
        · rename_i hc
          cases h
          have hm := mnF_back (b := b) (base := 128#8) (by rw [c128]; omega) hp
          have hne : ¬ (t.length = 1 ∧ t.getD 0 0 < 128#8) := by
            rintro ⟨a1, a2⟩
            rw [BitVec.lt_def, c128] at a2
            rcases hc with hc | hc | hc
            · exact hc a1
            · have hc : 128#8 ≤ t.getD 0 0 := hc
              rw [BitVec.le_def, c128] at hc; omega
            · rw [← q2, a1] at hm
              rw [headO_eq] at hm
              unfold headB at hm
              rw [if_pos (by decide)] at hm
              have hm' : (128#8 + BitVec.ofNat 8 1) :: ([] ++ r1) = b :: s := hm
              have := List.head_eq_of_cons_eq hm'
              exact hc (by rw [← this]; decide)
          rw [enc_txt_eq, if_neg hne, q2, List.append_assoc, q1, hm]
        · cases h
      · rename_i hlt2
        rw [BitVec.lt_def, c192] at hlt2
        rw [Option.bind_eq_some_iff] at h
        obtain ⟨⟨n, r1⟩, hp, h⟩ := h
        rw [Option.bind_eq_some_iff] at h
        obtain ⟨⟨t, r2⟩, hq, h⟩ := h
        obtain ⟨q1, q2⟩ := tkF_back hq
        simp only at q1 q2 h
        rw [Option.map_eq_some_iff] at h
        obtain ⟨l, hl, h⟩ := h
        cases h
        have hm := mnF_back (b := b) (base := 192#8) (by rw [c192]; omega) hp
        rw [enc_lst, manyD_back (itF_back f) _ _ _ hl, q2, List.append_assoc, q1, hm]
/-! ### what was written is read -/
theorem head_fwd (base : B) (n : Nat) (hn : n ≤ 65536) (hbase : base.toNat ≤ 192) : ∃ b h k, headO base n = b :: h ∧ b.toNat = base.toNat + k ∧ k < 64 ∧ ∀ r, mnF k (h ++ r) = some (n, r) := by
  rw [headO_eq]
  unfold headB
  by_cases h1 : n ≤ 55
  · rw [if_pos h1]
    refine ⟨_, [], n, rfl, ?_, by omega, fun r => ?_⟩
    · rw [BitVec.toNat_add, BitVec.toNat_ofNat]; omega
    · unfold mnF; rw [if_pos h1]; rfl
  · rw [if_neg h1]
    have hv : (BitVec.ofNat 64 n).toNat = n := by rw [BitVec.toNat_ofNat]; exact Nat.mod_eq_of_lt (by omega)
    have hl := numB_len (BitVec.ofNat 64 n)
    have a0 := numB_le (BitVec.ofNat 64 n) 0
    rw [hv, show (256 : Nat) ^ 0 = 1 from rfl] at a0
    refine ⟨_, numB (BitVec.ofNat 64 n), 55 + (numB (BitVec.ofNat 64 n)).length, rfl, ?_, by omega, fun r => ?_⟩
    · rw [BitVec.toNat_add, BitVec.toNat_add, BitVec.toNat_ofNat, BitVec.toNat_ofNat]; omega
    · unfold mnF
      rw [if_neg (by omega), Nat.add_sub_cancel_left, List.take_left, List.drop_left, smallN_numB, hv, if_pos ⟨by simp, numB_small _, by omega, hn⟩]
theorem tkF_fwd (t r : List B) : tkF t.length (t ++ r) = some (t, r) := by
  unfold tkF
  rw [if_pos (by simp), List.take_left, List.drop_left]
theorem itF_head {f n : Nat} {r : List B} (b : B) (h : List B) (k : Nat) (hb : b.toNat = 192 + k) (hm : ∀ r, mnF k (h ++ r) = some (n, r)) (t : List B) (hn : n = t.length) :
    itF (f + 1) (b :: (h ++ (t ++ r))) = (manyD (itF f) t.length t).map fun l => (.lst l, r) := by
  have hlt := b.isLt
  rw [itF, if_neg (by rw [BitVec.lt_def, c128]; omega), if_neg (by rw [BitVec.lt_def, c192]; omega), hb, Nat.add_sub_cancel_left, hm, Option.bind_some, hn]
  simp only
  rw [tkF_fwd, Option.bind_some]
mutual
theorem itF_fwd : ∀ (x : It) (f : Nat) (r : List B), x.dep + 1 ≤ f → (enc x).length ≤ 65536 → itF f (enc x ++ r) = some (x, r)
  | .txt s, f + 1, r, _, hl => by
    rw [enc_txt_eq] at hl ⊢
    by_cases hc : s.length = 1 ∧ s.getD 0 0 < 128#8
    · rw [if_pos hc]
      obtain ⟨h1, h2⟩ := hc
      match s, h1, h2 with
      | [b], _, h2 =>
        have h2 : b < 128#8 := h2
        rw [List.cons_append, List.nil_append, itF, if_pos h2]
    · rw [if_neg hc] at hl ⊢
      rw [List.length_append] at hl
      obtain ⟨b, h, k, e, hb, hk, hm⟩ := head_fwd 128#8 s.length (by omega) (by decide)
      rw [c128] at hb
      rw [e, List.append_assoc, List.cons_append, itF, if_neg (by rw [BitVec.lt_def, c128]; omega), if_pos (by rw [BitVec.lt_def, c192]; omega), hb, Nat.add_sub_cancel_left, hm, Option.bind_some]
      simp only
      rw [tkF_fwd, Option.bind_some]
      simp only
      rw [if_pos]
      by_cases h1 : s.length = 1
      · right; left
        have : ¬ s.getD 0 0 < 128#8 := fun h => hc ⟨h1, h⟩
        rw [BitVec.lt_def] at this
        show 128#8 ≤ s.getD 0 0
        rw [BitVec.le_def]; omega
      · exact .inl h1
  | .lst l, f + 1, r, hd, hl => by
    rw [enc_lst] at hl ⊢
    rw [List.length_append] at hl
    rw [It.dep] at hd
    obtain ⟨b, h, k, e, hb, hk, hm⟩ := head_fwd 192#8 (encs l).length (by omega) (by decide)
    rw [c192] at hb
    rw [e, List.append_assoc, List.cons_append, itF_head b h k hb hm (encs l) rfl, itsF_fwd l f (by omega) (by omega), Option.map_some]
theorem itsF_fwd : ∀ (l : List It) (f : Nat), It.deps l + 1 ≤ f → (encs l).length ≤ 65536 → manyD (itF f) (encs l).length (encs l) = some l
  | [], f, _, _ => by rw [encs_nil]; rw [manyD.eq_def]
  | x :: l, f, hd, hl => by
    rw [It.deps] at hd
    rw [encs_cons] at hl ⊢
    rw [List.length_append] at hl
    have h1 : x.dep + 1 ≤ f := by have := Nat.le_max_left x.dep (It.deps l); omega
    have h2 : It.deps l + 1 ≤ f := by have := Nat.le_max_right x.dep (It.deps l); omega
    have hx := itF_fwd x f (encs l) h1 (by omega)
    have hr := itsF_fwd l f h2 (by omega)
    have hp := enc_pos x
    cases he : enc x with
    | nil => rw [he] at hp; simp at hp
    | cons b t =>
      rw [he] at hx hl
      rw [List.cons_append, List.length_cons, manyD, ← List.cons_append, hx]
      simp only
      rw [manyD_fuel (itF_len f) _ (encs l).length (encs l) (by rw [List.length_append]; omega) (Nat.le_refl _), hr]; rfl
end
/-! ### more behind changes nothing -/
theorem mnF_more {k n : Nat} {s r : List B} (t : List B) (h : mnF k s = some (n, r)) : mnF k (s ++ t) = some (n, r ++ t) := by
  unfold mnF at h ⊢
  split at h
  · rename_i hk
    cases h
    rw [if_pos hk]
  · rename_i hk
    rw [if_neg hk]
    split at h
    · rename_i hc
      cases h
      rw [List.take_append_of_le_length hc.1, List.drop_append_of_le_length hc.1, if_pos ⟨by rw [List.length_append]; omega, hc.2⟩]
    · cases h
theorem tkF_more {k : Nat} {s : List B} {q : List B × List B} (t : List B) (h : tkF k s = some q) : tkF k (s ++ t) = some (q.1, q.2 ++ t) := by
  unfold tkF at h ⊢
  split at h
  · rename_i hk
    cases h
    rw [if_pos (by rw [List.length_append]; omega), List.take_append_of_le_length hk, List.drop_append_of_le_length hk]
  · cases h
theorem itF_more : ∀ (f : Nat) (s t : List B) (x : It) (r : List B), itF f s = some (x, r) → itF f (s ++ t) = some (x, r ++ t)
  | 0, s, t, x, r, h => by cases s <;> cases h
  | f + 1, [], t, x, r, h => by cases h
  | f + 1, b :: s, t, x, r, h => by
    rw [List.cons_append]
    rw [itF] at h ⊢
    split at h
    · rename_i hlt
      cases h
      rw [if_pos hlt]
    · rename_i hlt
      rw [if_neg hlt]
      split at h
      · rename_i hlt2
        rw [if_pos hlt2]
        rw [Option.bind_eq_some_iff] at h
        obtain ⟨⟨n, r1⟩, hp, h⟩ := h
        rw [Option.bind_eq_some_iff] at h
        obtain ⟨q, hq, h⟩ := h
        rw [mnF_more t hp, Option.bind_some]
        simp only
        rw [tkF_more t hq, Option.bind_some]
        split at h
        · rename_i hc
          cases h
          simp only
          rw [if_pos hc]
        · cases h
      · rename_i hlt2
        rw [if_neg hlt2]
        rw [Option.bind_eq_some_iff] at h
        obtain ⟨⟨n, r1⟩, hp, h⟩ := h
        rw [Option.bind_eq_some_iff] at h
        obtain ⟨q, hq, h⟩ := h
        rw [mnF_more t hp, Option.bind_some]
        simp only
        rw [tkF_more t hq, Option.bind_some]
        simp only
        rw [Option.map_eq_some_iff] at h
        obtain ⟨l, hl, h⟩ := h
        cases h
        rw [hl]; rfl
/-! ### Decode -/
theorem decF_back {s : List B} {x : It} (h : decF s = some x) : enc x = s ∧ s.length ≤ 65536 := by
  unfold decF at h
  split at h
  · rename_i hs
    rw [Option.bind_eq_some_iff] at h
    obtain ⟨⟨y, r⟩, hp, h⟩ := h
    split at h
    · rename_i hr
      cases h
      simp only at hr
      subst hr
      have := itF_back 65 s _ [] hp
      rw [List.append_nil] at this
      exact ⟨this, hs⟩
    · cases h
  · cases h
theorem decF_fwd (x : It) (hd : x.dep ≤ 64) (hl : (enc x).length ≤ 65536) : decF (enc x) = some x := by
  have := itF_fwd x 65 [] (by omega) hl
  rw [List.append_nil] at this
  unfold decF
  rw [if_pos hl, this, Option.bind_some, if_pos rfl]
theorem decF_behind (x : It) (hd : x.dep ≤ 64) (hl : (enc x).length ≤ 65536) (b : B) (r : List B) : decF (enc x ++ b :: r) = none := by
  have := itF_fwd x 65 (b :: r) (by omega) hl
  unfold decF
  split
  · rw [this, Option.bind_some, if_neg (by simp)]
  · rfl
theorem decF_cut (x : It) (hd : x.dep ≤ 64) (hl : (enc x).length ≤ 65536) (m : Nat) (hm : m < (enc x).length) : decF ((enc x).take m) = none := by
  cases h : decF ((enc x).take m) with
  | none => rfl
  | some y =>
    exfalso
    unfold decF at h
    split at h
    · rw [Option.bind_eq_some_iff] at h
      obtain ⟨⟨z, r⟩, hp, h⟩ := h
      split at h
      · rename_i hr
        simp only at hr
        subst hr
        have h1 := itF_more 65 _ ((enc x).drop m) z [] hp
        have h2 := itF_fwd x 65 [] (by omega) hl
        rw [List.take_append_drop] at h1
        rw [List.append_nil] at h2
        rw [h1] at h2
        injection h2 with h2
        injection h2 with _ h2
        rw [List.nil_append] at h2
        have := congrArg List.length h2
        rw [List.length_drop, List.length_nil] at this
        omega
      · cases h
    · cases h
end
end Go.Proofs.YtbgiickegljpoaaDoor.K
end
section
open Go Go.Lh
namespace Go.Proofs.YtbgiickegljpoaaDoor.K
noncomputable section
set_option maxRecDepth 100000
def okP (c : CM) (x : B) : Bool := bif Nat.beq x.toNat 97 then (c.ad.length : Int) == (20 : Int) else bif Nat.beq x.toNat 115 then decide ((c.s.length : Int) ≤ (32768 : Int)) else true
def txP (c : CM) (x : B) : List B := bif Nat.beq x.toNat 97 then c.ad else bif Nat.beq x.toNat 110 then numB c.n else bif Nat.beq x.toNat 107 then c.k.bytes else bif Nat.beq x.toNat 118 then c.v.bytes else c.s
def eok (f : List B) (c : CM) : Bool := bareB f c && f.all (okP c)
def eTs (f : List B) (c : CM) : List (List B) := c.nm :: f.map (txP c)
def eIt (f : List B) (c : CM) : It := .lst ((eTs f c).map .txt)
def eS (f : List B) (c : CM) : List B := @ite _ True (Classical.propDecidable True) (enc (eIt f c)) []
theorem eS_eq (f : List B) (c : CM) : eS f c = enc (eIt f c) := if_pos trivial
def eV (f : List B) (c : CM) : Fin := if eok f c = true then .ret (.tup [.str (eS f c), .bool true]) else .ret (.tup [.str [], .bool false])
theorem is_ls (xs : List (List B)) : isIt (nrm (lsV xs.length (rowT xs))) (.lst (xs.map .txt)) := by
  have h : isIt (.agg [.bool true, .str [], .isl 3 (xs.map It.txt).length (rwF (rowT xs))]) (.lst (xs.map .txt)) := by
    refine .lst (rowT xs) (xs.map .txt) fun i hi => ?_
    have hi' : i < xs.length := by simpa using hi
    have e : (rowT xs).at i = .agg [.bool false, .str xs[i], .isl 3 0 (fun _ _ => .any)] := by
      show V.agg [.bool false, .str (xs.getD i []), .isl 3 0 (fun _ _ => .any)] = _
      rw [List.getD_eq_getElem?_getD, List.getElem?_eq_getElem hi']; rfl
    rw [e, List.getElem_map]
    exact .txt _ _
  rw [List.length_map] at h
  exact h
theorem txts_len : ∀ (xs : List (List B)), (encs (xs.map .txt)).length ≤ (xs.map fun x => x.length + 9).sum
  | [] => by rw [List.map_nil, encs_nil]; exact Nat.zero_le _
  | x :: r => by
    rw [List.map_cons, encs_cons, List.length_append, List.map_cons, List.sum_cons]
    have h1 := txts_len r
    have h2 : (enc (.txt x)).length ≤ x.length + 9 := by
      rw [enc_txt_eq]
      split
      · omega
      · rw [List.length_append]; have := headO_len 128#8 x.length; omega
    omega
theorem lst_len (xs : List (List B)) : (enc (.lst (xs.map .txt))).length ≤ (xs.map fun x => x.length + 9).sum + 9 := by
  rw [enc_lst, List.length_append]
  have := txts_len xs
  have := headO_len 192#8 (encs (xs.map .txt)).length
  omega
theorem ok_ls {xs : List (List B)} (h : (xs.map fun x => x.length + 9).sum ≤ 1000000) : okVB (lsV xs.length (rowT xs)) = true := by
  refine @decide_eq_true _ (Classical.propDecidable _) ⟨⟨_, is_ls xs⟩, ?_⟩
  rw [encV_eq (is_ls xs)]
  have := lst_len xs
  have : most40 = 1099511627776 := rfl
  omega
theorem hasS_mem : ∀ {es : List (List B × List B)} {s : List B}, hasS es s = true → ∃ p, p ∈ es ∧ p.1 = s ∧ lookS es s = p.2
  | [], s, h => by cases h
  | (k, v) :: r, s, h => by
    unfold hasS at h
    unfold lookS
    cases he : eqB k s with
    | true => exact ⟨(k, v), by simp, eqB_iff.1 he, rfl⟩
    | false =>
      rw [he] at h
      obtain ⟨p, h1, h2, h3⟩ := hasS_mem (es := r) h
      exact ⟨p, by simp [h1], h2, h3⟩
theorem names_len : ∀ p ∈ fieldsL, p.1.length ≤ 11 := by decide
theorem fk_len {f s : List B} (h : fkP f s) : s.length ≤ 11 := by
  obtain ⟨p, h1, h2, _⟩ := hasS_mem h.2
  rw [← h2]; exact names_len p h1
theorem fkB_t {f s : List B} (h : fkP f s) : fkB f s = true := @decide_eq_true _ (Classical.propDecidable _) h
theorem okBa_t {a : BA} (h : okBa a) : okBaB a = true := @decide_eq_true _ (Classical.propDecidable _) h
theorem numB_len8 (n : BitVec 64) : (numB n).length ≤ 8 := by rw [numB_eq]; exact trL_length _ _
theorem eok_n (c : CM) : eok f_n c = (bareB f_n c && true) := by kernel_rfl
theorem eTs_n (c : CM) : eTs f_n c = [c.nm, (numB c.n)] := by kernel_rfl
theorem enc_n (c : CM) (hn : fkP f_n c.nm) (hc : okC c) : LFn Pr 8 [.agg (c.cs .nilSl)] [] (eV f_n c) [] := by
  have hnl := fk_len hn
  have hb : okBaB (BA.mk f_n c) = true := okBa_t ⟨.inr (.inl rfl), hc⟩
  have no : eok f_n c = false → (fun r : Fin × Heap => r = (eV f_n c, [])) (.ret (.tup [.str (bytesOf (ByteArray.mk #[])), .bool false]), []) := by
    intro e
    unfold eV
    rw [if_neg (by rw [e]; decide)]; rfl
  have yes : eok f_n c = true → (fun r : Fin × Heap => r = (eV f_n c, [])) (.ret (.tup [.str (encV (lsV 2 (rowT [c.nm, (numB c.n)]))), .bool true]), []) := by
    intro e
    have e2 : encV (lsV 2 (rowT [c.nm, (numB c.n)])) = eS f_n c := by
      rw [eS_eq, eIt, eTs_n]; exact encV_eq (is_ls [c.nm, (numB c.n)])
    unfold eV
    rw [if_pos e, e2]
  rw [eok_n] at no yes
  refine fnT (OEn_sound f_n) mixed (by kernel_rfl) LoopsOk.noneT (en_n_x c) ?_
  refine wp_chk.2 ⟨by rw [fkB_t hn, hb]; rfl, wp_br.2 ⟨fun e0 => wp_chk_true.2 (wp_leaf.2 (no ?_)), fun e0 => wp_chk.2 ⟨?_, wp_leaf.2 (yes ?_)⟩⟩⟩
  · have h0 : bareB f_n c = false := by simpa using e0
    rw [h0]; rfl
  · have h0 : bareB f_n c = true := by simpa using e0
    have a0 := numB_len8 c.n
    have a1 := W4.bytes_length c.k
    have a2 := W4.bytes_length c.v
    have hq : okVB (lsV 2 (rowT [c.nm, (numB c.n)])) = true := ok_ls (xs := [c.nm, (numB c.n)]) (by simp only [List.map_cons, List.map_nil, List.sum_cons, List.sum_nil]; omega)
    have hq' : okVB (V.agg [V.bool true, V.str [], V.isl (3 : Nat) (2 : Nat) (rwF (rowT [c.nm, (numB c.n)]))]) = true := hq
    rw [hq']; rfl
  · have h0 : bareB f_n c = true := by simpa using e0
    rw [h0]; rfl
theorem eok_a (c : CM) : eok f_a c = (bareB f_a c && (((c.ad.length : Int) == (20 : Int)) && true)) := by kernel_rfl
theorem eTs_a (c : CM) : eTs f_a c = [c.nm, c.ad] := by kernel_rfl
theorem enc_a (c : CM) (hn : fkP f_a c.nm) (hc : okC c) : LFn Pr 8 [.agg (c.cs .nilSl)] [] (eV f_a c) [] := by
  have hnl := fk_len hn
  have hb : okBaB (BA.mk f_a c) = true := okBa_t ⟨.inr (.inr (.inl rfl)), hc⟩
  have no : eok f_a c = false → (fun r : Fin × Heap => r = (eV f_a c, [])) (.ret (.tup [.str (bytesOf (ByteArray.mk #[])), .bool false]), []) := by
    intro e
    unfold eV
    rw [if_neg (by rw [e]; decide)]; rfl
  have yes : eok f_a c = true → (fun r : Fin × Heap => r = (eV f_a c, [])) (.ret (.tup [.str (encV (lsV 2 (rowT [c.nm, c.ad]))), .bool true]), []) := by
    intro e
    have e2 : encV (lsV 2 (rowT [c.nm, c.ad])) = eS f_a c := by
      rw [eS_eq, eIt, eTs_a]; exact encV_eq (is_ls [c.nm, c.ad])
    unfold eV
    rw [if_pos e, e2]
  rw [eok_a] at no yes
  refine fnT (OEn_sound f_a) mixed (by kernel_rfl) LoopsOk.noneT (en_a_x c) ?_
  refine wp_chk.2 ⟨by rw [fkB_t hn, hb]; rfl, wp_br.2 ⟨fun e0 => wp_chk_true.2 (wp_leaf.2 (no ?_)), fun e0 => wp_chk_true.2 (wp_br.2 ⟨fun e1 => wp_chk_true.2 (wp_leaf.2 (no ?_)), fun e1 => wp_chk.2 ⟨?_, wp_leaf.2 (yes ?_)⟩⟩)⟩⟩
  · have h0 : bareB f_a c = false := by simpa using e0
    rw [h0]; rfl
  · have h0 : bareB f_a c = true := by simpa using e0
    have h1 : ((c.ad.length : Int) == (20 : Int)) = false := by simpa using e1
    rw [h0, h1]; rfl
  · have h0 : bareB f_a c = true := by simpa using e0
    have h1 : ((c.ad.length : Int) == (20 : Int)) = true := by simpa using e1
    have a0 := numB_len8 c.n
    have a1 := W4.bytes_length c.k
    have a2 := W4.bytes_length c.v
    have b0 : c.ad.length = 20 := by have := beq_iff_eq.1 h1; omega
    have hq : okVB (lsV 2 (rowT [c.nm, c.ad])) = true := ok_ls (xs := [c.nm, c.ad]) (by simp only [List.map_cons, List.map_nil, List.sum_cons, List.sum_nil]; omega)
    have hq' : okVB (V.agg [V.bool true, V.str [], V.isl (3 : Nat) (2 : Nat) (rwF (rowT [c.nm, c.ad]))]) = true := hq
    rw [hq']; rfl
  · have h0 : bareB f_a c = true := by simpa using e0
    have h1 : ((c.ad.length : Int) == (20 : Int)) = true := by simpa using e1
    rw [h0, h1]; rfl
theorem eok_ak (c : CM) : eok f_ak c = (bareB f_ak c && (((c.ad.length : Int) == (20 : Int)) && true)) := by kernel_rfl
theorem eTs_ak (c : CM) : eTs f_ak c = [c.nm, c.ad, c.k.bytes] := by kernel_rfl
theorem enc_ak (c : CM) (hn : fkP f_ak c.nm) (hc : okC c) : LFn Pr 8 [.agg (c.cs .nilSl)] [] (eV f_ak c) [] := by
  have hnl := fk_len hn
  have hb : okBaB (BA.mk f_ak c) = true := okBa_t ⟨.inr (.inr (.inr (.inl rfl))), hc⟩
  have no : eok f_ak c = false → (fun r : Fin × Heap => r = (eV f_ak c, [])) (.ret (.tup [.str (bytesOf (ByteArray.mk #[])), .bool false]), []) := by
    intro e
    unfold eV
    rw [if_neg (by rw [e]; decide)]; rfl
  have yes : eok f_ak c = true → (fun r : Fin × Heap => r = (eV f_ak c, [])) (.ret (.tup [.str (encV (lsV 3 (rowT [c.nm, c.ad, c.k.bytes]))), .bool true]), []) := by
    intro e
    have e2 : encV (lsV 3 (rowT [c.nm, c.ad, c.k.bytes])) = eS f_ak c := by
      rw [eS_eq, eIt, eTs_ak]; exact encV_eq (is_ls [c.nm, c.ad, c.k.bytes])
    unfold eV
    rw [if_pos e, e2]
  rw [eok_ak] at no yes
  refine fnT (OEn_sound f_ak) mixed (by kernel_rfl) LoopsOk.noneT (en_ak_x c) ?_
  refine wp_chk.2 ⟨by rw [fkB_t hn, hb]; rfl, wp_br.2 ⟨fun e0 => wp_chk_true.2 (wp_leaf.2 (no ?_)), fun e0 => wp_chk_true.2 (wp_br.2 ⟨fun e1 => wp_chk_true.2 (wp_leaf.2 (no ?_)), fun e1 => wp_chk.2 ⟨?_, wp_leaf.2 (yes ?_)⟩⟩)⟩⟩
  · have h0 : bareB f_ak c = false := by simpa using e0
    rw [h0]; rfl
  · have h0 : bareB f_ak c = true := by simpa using e0
    have h1 : ((c.ad.length : Int) == (20 : Int)) = false := by simpa using e1
    rw [h0, h1]; rfl
  · have h0 : bareB f_ak c = true := by simpa using e0
    have h1 : ((c.ad.length : Int) == (20 : Int)) = true := by simpa using e1
    have a0 := numB_len8 c.n
    have a1 := W4.bytes_length c.k
    have a2 := W4.bytes_length c.v
    have b0 : c.ad.length = 20 := by have := beq_iff_eq.1 h1; omega
    have hq : okVB (lsV 3 (rowT [c.nm, c.ad, c.k.bytes])) = true := ok_ls (xs := [c.nm, c.ad, c.k.bytes]) (by simp only [List.map_cons, List.map_nil, List.sum_cons, List.sum_nil]; omega)
    have hq' : okVB (V.agg [V.bool true, V.str [], V.isl (3 : Nat) (3 : Nat) (rwF (rowT [c.nm, c.ad, c.k.bytes]))]) = true := hq
    rw [hq']; rfl
  · have h0 : bareB f_ak c = true := by simpa using e0
    have h1 : ((c.ad.length : Int) == (20 : Int)) = true := by simpa using e1
    rw [h0, h1]; rfl
theorem eok_av (c : CM) : eok f_av c = (bareB f_av c && (((c.ad.length : Int) == (20 : Int)) && true)) := by kernel_rfl
theorem eTs_av (c : CM) : eTs f_av c = [c.nm, c.ad, c.v.bytes] := by kernel_rfl
theorem enc_av (c : CM) (hn : fkP f_av c.nm) (hc : okC c) : LFn Pr 8 [.agg (c.cs .nilSl)] [] (eV f_av c) [] := by
  have hnl := fk_len hn
  have hb : okBaB (BA.mk f_av c) = true := okBa_t ⟨.inr (.inr (.inr (.inr (.inl rfl)))), hc⟩
  have no : eok f_av c = false → (fun r : Fin × Heap => r = (eV f_av c, [])) (.ret (.tup [.str (bytesOf (ByteArray.mk #[])), .bool false]), []) := by
    intro e
    unfold eV
    rw [if_neg (by rw [e]; decide)]; rfl
  have yes : eok f_av c = true → (fun r : Fin × Heap => r = (eV f_av c, [])) (.ret (.tup [.str (encV (lsV 3 (rowT [c.nm, c.ad, c.v.bytes]))), .bool true]), []) := by
    intro e
    have e2 : encV (lsV 3 (rowT [c.nm, c.ad, c.v.bytes])) = eS f_av c := by
      rw [eS_eq, eIt, eTs_av]; exact encV_eq (is_ls [c.nm, c.ad, c.v.bytes])
    unfold eV
    rw [if_pos e, e2]
  rw [eok_av] at no yes
  refine fnT (OEn_sound f_av) mixed (by kernel_rfl) LoopsOk.noneT (en_av_x c) ?_
  refine wp_chk.2 ⟨by rw [fkB_t hn, hb]; rfl, wp_br.2 ⟨fun e0 => wp_chk_true.2 (wp_leaf.2 (no ?_)), fun e0 => wp_chk_true.2 (wp_br.2 ⟨fun e1 => wp_chk_true.2 (wp_leaf.2 (no ?_)), fun e1 => wp_chk.2 ⟨?_, wp_leaf.2 (yes ?_)⟩⟩)⟩⟩
  · have h0 : bareB f_av c = false := by simpa using e0
    rw [h0]; rfl
  · have h0 : bareB f_av c = true := by simpa using e0
    have h1 : ((c.ad.length : Int) == (20 : Int)) = false := by simpa using e1
    rw [h0, h1]; rfl
  · have h0 : bareB f_av c = true := by simpa using e0
    have h1 : ((c.ad.length : Int) == (20 : Int)) = true := by simpa using e1
    have a0 := numB_len8 c.n
    have a1 := W4.bytes_length c.k
    have a2 := W4.bytes_length c.v
    have b0 : c.ad.length = 20 := by have := beq_iff_eq.1 h1; omega
    have hq : okVB (lsV 3 (rowT [c.nm, c.ad, c.v.bytes])) = true := ok_ls (xs := [c.nm, c.ad, c.v.bytes]) (by simp only [List.map_cons, List.map_nil, List.sum_cons, List.sum_nil]; omega)
    have hq' : okVB (V.agg [V.bool true, V.str [], V.isl (3 : Nat) (3 : Nat) (rwF (rowT [c.nm, c.ad, c.v.bytes]))]) = true := hq
    rw [hq']; rfl
  · have h0 : bareB f_av c = true := by simpa using e0
    have h1 : ((c.ad.length : Int) == (20 : Int)) = true := by simpa using e1
    rw [h0, h1]; rfl
theorem eok_an (c : CM) : eok f_an c = (bareB f_an c && (((c.ad.length : Int) == (20 : Int)) && true)) := by kernel_rfl
theorem eTs_an (c : CM) : eTs f_an c = [c.nm, c.ad, (numB c.n)] := by kernel_rfl
theorem enc_an (c : CM) (hn : fkP f_an c.nm) (hc : okC c) : LFn Pr 8 [.agg (c.cs .nilSl)] [] (eV f_an c) [] := by
  have hnl := fk_len hn
  have hb : okBaB (BA.mk f_an c) = true := okBa_t ⟨.inr (.inr (.inr (.inr (.inr (.inl rfl))))), hc⟩
  have no : eok f_an c = false → (fun r : Fin × Heap => r = (eV f_an c, [])) (.ret (.tup [.str (bytesOf (ByteArray.mk #[])), .bool false]), []) := by
    intro e
    unfold eV
    rw [if_neg (by rw [e]; decide)]; rfl
  have yes : eok f_an c = true → (fun r : Fin × Heap => r = (eV f_an c, [])) (.ret (.tup [.str (encV (lsV 3 (rowT [c.nm, c.ad, (numB c.n)]))), .bool true]), []) := by
    intro e
    have e2 : encV (lsV 3 (rowT [c.nm, c.ad, (numB c.n)])) = eS f_an c := by
      rw [eS_eq, eIt, eTs_an]; exact encV_eq (is_ls [c.nm, c.ad, (numB c.n)])
    unfold eV
    rw [if_pos e, e2]
  rw [eok_an] at no yes
  refine fnT (OEn_sound f_an) mixed (by kernel_rfl) LoopsOk.noneT (en_an_x c) ?_
  refine wp_chk.2 ⟨by rw [fkB_t hn, hb]; rfl, wp_br.2 ⟨fun e0 => wp_chk_true.2 (wp_leaf.2 (no ?_)), fun e0 => wp_chk_true.2 (wp_br.2 ⟨fun e1 => wp_chk_true.2 (wp_leaf.2 (no ?_)), fun e1 => wp_chk.2 ⟨?_, wp_leaf.2 (yes ?_)⟩⟩)⟩⟩
  · have h0 : bareB f_an c = false := by simpa using e0
    rw [h0]; rfl
  · have h0 : bareB f_an c = true := by simpa using e0
    have h1 : ((c.ad.length : Int) == (20 : Int)) = false := by simpa using e1
    rw [h0, h1]; rfl
  · have h0 : bareB f_an c = true := by simpa using e0
    have h1 : ((c.ad.length : Int) == (20 : Int)) = true := by simpa using e1
    have a0 := numB_len8 c.n
    have a1 := W4.bytes_length c.k
    have a2 := W4.bytes_length c.v
    have b0 : c.ad.length = 20 := by have := beq_iff_eq.1 h1; omega
    have hq : okVB (lsV 3 (rowT [c.nm, c.ad, (numB c.n)])) = true := ok_ls (xs := [c.nm, c.ad, (numB c.n)]) (by simp only [List.map_cons, List.map_nil, List.sum_cons, List.sum_nil]; omega)
    have hq' : okVB (V.agg [V.bool true, V.str [], V.isl (3 : Nat) (3 : Nat) (rwF (rowT [c.nm, c.ad, (numB c.n)]))]) = true := hq
    rw [hq']; rfl
  · have h0 : bareB f_an c = true := by simpa using e0
    have h1 : ((c.ad.length : Int) == (20 : Int)) = true := by simpa using e1
    rw [h0, h1]; rfl
theorem eok_as (c : CM) : eok f_as c = (bareB f_as c && (((c.ad.length : Int) == (20 : Int)) && ((decide ((c.s.length : Int) ≤ (32768 : Int))) && true))) := by kernel_rfl
theorem eTs_as (c : CM) : eTs f_as c = [c.nm, c.ad, c.s] := by kernel_rfl
theorem enc_as (c : CM) (hn : fkP f_as c.nm) (hc : okC c) : LFn Pr 8 [.agg (c.cs .nilSl)] [] (eV f_as c) [] := by
  have hnl := fk_len hn
  have hb : okBaB (BA.mk f_as c) = true := okBa_t ⟨.inr (.inr (.inr (.inr (.inr (.inr (.inl rfl)))))), hc⟩
  have no : eok f_as c = false → (fun r : Fin × Heap => r = (eV f_as c, [])) (.ret (.tup [.str (bytesOf (ByteArray.mk #[])), .bool false]), []) := by
    intro e
    unfold eV
    rw [if_neg (by rw [e]; decide)]; rfl
  have yes : eok f_as c = true → (fun r : Fin × Heap => r = (eV f_as c, [])) (.ret (.tup [.str (encV (lsV 3 (rowT [c.nm, c.ad, c.s]))), .bool true]), []) := by
    intro e
    have e2 : encV (lsV 3 (rowT [c.nm, c.ad, c.s])) = eS f_as c := by
      rw [eS_eq, eIt, eTs_as]; exact encV_eq (is_ls [c.nm, c.ad, c.s])
    unfold eV
    rw [if_pos e, e2]
  rw [eok_as] at no yes
  refine fnT (OEn_sound f_as) mixed (by kernel_rfl) LoopsOk.noneT (en_as_x c) ?_
  refine wp_chk.2 ⟨by rw [fkB_t hn, hb]; rfl, wp_br.2 ⟨fun e0 => wp_chk_true.2 (wp_leaf.2 (no ?_)), fun e0 => wp_chk_true.2 (wp_br.2 ⟨fun e1 => wp_chk_true.2 (wp_leaf.2 (no ?_)), fun e1 => wp_chk_true.2 (wp_br.2 ⟨fun e2 => wp_chk_true.2 (wp_leaf.2 (no ?_)), fun e2 => wp_chk.2 ⟨?_, wp_leaf.2 (yes ?_)⟩⟩)⟩)⟩⟩
  · have h0 : bareB f_as c = false := by simpa using e0
    rw [h0]; rfl
  · have h0 : bareB f_as c = true := by simpa using e0
    have h1 : ((c.ad.length : Int) == (20 : Int)) = false := by simpa using e1
    rw [h0, h1]; rfl
  · have h0 : bareB f_as c = true := by simpa using e0
    have h1 : ((c.ad.length : Int) == (20 : Int)) = true := by simpa using e1
    have h2 : (decide ((c.s.length : Int) ≤ (32768 : Int))) = false := by simpa using e2
    rw [h0, h1, h2]; rfl
  · have h0 : bareB f_as c = true := by simpa using e0
    have h1 : ((c.ad.length : Int) == (20 : Int)) = true := by simpa using e1
    have h2 : (decide ((c.s.length : Int) ≤ (32768 : Int))) = true := by simpa using e2
    have a0 := numB_len8 c.n
    have a1 := W4.bytes_length c.k
    have a2 := W4.bytes_length c.v
    have b0 : c.ad.length = 20 := by have := beq_iff_eq.1 h1; omega
    have b1 : c.s.length ≤ 32768 := by have := of_decide_eq_true h2; omega
    have hq : okVB (lsV 3 (rowT [c.nm, c.ad, c.s])) = true := ok_ls (xs := [c.nm, c.ad, c.s]) (by simp only [List.map_cons, List.map_nil, List.sum_cons, List.sum_nil]; omega)
    have hq' : okVB (V.agg [V.bool true, V.str [], V.isl (3 : Nat) (3 : Nat) (rwF (rowT [c.nm, c.ad, c.s]))]) = true := hq
    rw [hq']; rfl
  · have h0 : bareB f_as c = true := by simpa using e0
    have h1 : ((c.ad.length : Int) == (20 : Int)) = true := by simpa using e1
    have h2 : (decide ((c.s.length : Int) ≤ (32768 : Int))) = true := by simpa using e2
    rw [h0, h1, h2]; rfl
theorem eok_akv (c : CM) : eok f_akv c = (bareB f_akv c && (((c.ad.length : Int) == (20 : Int)) && true)) := by kernel_rfl
theorem eTs_akv (c : CM) : eTs f_akv c = [c.nm, c.ad, c.k.bytes, c.v.bytes] := by kernel_rfl
theorem enc_akv (c : CM) (hn : fkP f_akv c.nm) (hc : okC c) : LFn Pr 8 [.agg (c.cs .nilSl)] [] (eV f_akv c) [] := by
  have hnl := fk_len hn
  have hb : okBaB (BA.mk f_akv c) = true := okBa_t ⟨.inr (.inr (.inr (.inr (.inr (.inr (.inr (.inl rfl))))))), hc⟩
  have no : eok f_akv c = false → (fun r : Fin × Heap => r = (eV f_akv c, [])) (.ret (.tup [.str (bytesOf (ByteArray.mk #[])), .bool false]), []) := by
    intro e
    unfold eV
    rw [if_neg (by rw [e]; decide)]; rfl
  have yes : eok f_akv c = true → (fun r : Fin × Heap => r = (eV f_akv c, [])) (.ret (.tup [.str (encV (lsV 4 (rowT [c.nm, c.ad, c.k.bytes, c.v.bytes]))), .bool true]), []) := by
    intro e
    have e2 : encV (lsV 4 (rowT [c.nm, c.ad, c.k.bytes, c.v.bytes])) = eS f_akv c := by
      rw [eS_eq, eIt, eTs_akv]; exact encV_eq (is_ls [c.nm, c.ad, c.k.bytes, c.v.bytes])
    unfold eV
    rw [if_pos e, e2]
  rw [eok_akv] at no yes
  refine fnT (OEn_sound f_akv) mixed (by kernel_rfl) LoopsOk.noneT (en_akv_x c) ?_
  refine wp_chk.2 ⟨by rw [fkB_t hn, hb]; rfl, wp_br.2 ⟨fun e0 => wp_chk_true.2 (wp_leaf.2 (no ?_)), fun e0 => wp_chk_true.2 (wp_br.2 ⟨fun e1 => wp_chk_true.2 (wp_leaf.2 (no ?_)), fun e1 => wp_chk.2 ⟨?_, wp_leaf.2 (yes ?_)⟩⟩)⟩⟩
  · have h0 : bareB f_akv c = false := by simpa using e0
    rw [h0]; rfl
  · have h0 : bareB f_akv c = true := by simpa using e0
    have h1 : ((c.ad.length : Int) == (20 : Int)) = false := by simpa using e1
    rw [h0, h1]; rfl
  · have h0 : bareB f_akv c = true := by simpa using e0
    have h1 : ((c.ad.length : Int) == (20 : Int)) = true := by simpa using e1
    have a0 := numB_len8 c.n
    have a1 := W4.bytes_length c.k
    have a2 := W4.bytes_length c.v
    have b0 : c.ad.length = 20 := by have := beq_iff_eq.1 h1; omega
    have hq : okVB (lsV 4 (rowT [c.nm, c.ad, c.k.bytes, c.v.bytes])) = true := ok_ls (xs := [c.nm, c.ad, c.k.bytes, c.v.bytes]) (by simp only [List.map_cons, List.map_nil, List.sum_cons, List.sum_nil]; omega)
    have hq' : okVB (V.agg [V.bool true, V.str [], V.isl (3 : Nat) (4 : Nat) (rwF (rowT [c.nm, c.ad, c.k.bytes, c.v.bytes]))]) = true := hq
    rw [hq']; rfl
  · have h0 : bareB f_akv c = true := by simpa using e0
    have h1 : ((c.ad.length : Int) == (20 : Int)) = true := by simpa using e1
    rw [h0, h1]; rfl
theorem eok_e (c : CM) : eok f_e c = (bareB f_e c && true) := by kernel_rfl
theorem eTs_e (c : CM) : eTs f_e c = [c.nm] := by kernel_rfl
theorem enc_e (c : CM) (hn : fkP f_e c.nm) (hc : okC c) : LFn Pr 8 [.agg (c.cs .nilSl)] [] (eV f_e c) [] := by
  have hnl := fk_len hn
  have hb : okBaB (BA.mk f_e c) = true := okBa_t ⟨.inr (.inr (.inr (.inr (.inr (.inr (.inr (.inr (.inl rfl)))))))), hc⟩
  have no : eok f_e c = false → (fun r : Fin × Heap => r = (eV f_e c, [])) (.ret (.tup [.str (bytesOf (ByteArray.mk #[])), .bool false]), []) := by
    intro e
    unfold eV
    rw [if_neg (by rw [e]; decide)]; rfl
  have yes : eok f_e c = true → (fun r : Fin × Heap => r = (eV f_e c, [])) (.ret (.tup [.str (encV (lsV 1 (rowT [c.nm]))), .bool true]), []) := by
    intro e
    have e2 : encV (lsV 1 (rowT [c.nm])) = eS f_e c := by
      rw [eS_eq, eIt, eTs_e]; exact encV_eq (is_ls [c.nm])
    unfold eV
    rw [if_pos e, e2]
  rw [eok_e] at no yes
  refine fnT (OEn_sound f_e) mixed (by kernel_rfl) LoopsOk.noneT (en_e_x c) ?_
  refine wp_chk.2 ⟨by rw [fkB_t hn, hb]; rfl, wp_br.2 ⟨fun e0 => wp_chk_true.2 (wp_leaf.2 (no ?_)), fun e0 => wp_chk.2 ⟨?_, wp_leaf.2 (yes ?_)⟩⟩⟩
  · have h0 : bareB f_e c = false := by simpa using e0
    rw [h0]; rfl
  · have h0 : bareB f_e c = true := by simpa using e0
    have a0 := numB_len8 c.n
    have a1 := W4.bytes_length c.k
    have a2 := W4.bytes_length c.v
    have hq : okVB (lsV 1 (rowT [c.nm])) = true := ok_ls (xs := [c.nm]) (by simp only [List.map_cons, List.map_nil, List.sum_cons, List.sum_nil]; omega)
    have hq' : okVB (V.agg [V.bool true, V.str [], V.isl (3 : Nat) (1 : Nat) (rwF (rowT [c.nm]))]) = true := hq
    rw [hq']; rfl
  · have h0 : bareB f_e c = true := by simpa using e0
    rw [h0]; rfl
theorem eok_s (c : CM) : eok f_s c = (bareB f_s c && ((decide ((c.s.length : Int) ≤ (32768 : Int))) && true)) := by kernel_rfl
theorem eTs_s (c : CM) : eTs f_s c = [c.nm, c.s] := by kernel_rfl
theorem enc_s (c : CM) (hn : fkP f_s c.nm) (hc : okC c) : LFn Pr 8 [.agg (c.cs .nilSl)] [] (eV f_s c) [] := by
  have hnl := fk_len hn
  have hb : okBaB (BA.mk f_s c) = true := okBa_t ⟨.inr (.inr (.inr (.inr (.inr (.inr (.inr (.inr (.inr (rfl))))))))), hc⟩
  have no : eok f_s c = false → (fun r : Fin × Heap => r = (eV f_s c, [])) (.ret (.tup [.str (bytesOf (ByteArray.mk #[])), .bool false]), []) := by
    intro e
    unfold eV
    rw [if_neg (by rw [e]; decide)]; rfl
  have yes : eok f_s c = true → (fun r : Fin × Heap => r = (eV f_s c, [])) (.ret (.tup [.str (encV (lsV 2 (rowT [c.nm, c.s]))), .bool true]), []) := by
    intro e
    have e2 : encV (lsV 2 (rowT [c.nm, c.s])) = eS f_s c := by
      rw [eS_eq, eIt, eTs_s]; exact encV_eq (is_ls [c.nm, c.s])
    unfold eV
    rw [if_pos e, e2]
  rw [eok_s] at no yes
  refine fnT (OEn_sound f_s) mixed (by kernel_rfl) LoopsOk.noneT (en_s_x c) ?_
  refine wp_chk.2 ⟨by rw [fkB_t hn, hb]; rfl, wp_br.2 ⟨fun e0 => wp_chk_true.2 (wp_leaf.2 (no ?_)), fun e0 => wp_chk_true.2 (wp_br.2 ⟨fun e1 => wp_chk_true.2 (wp_leaf.2 (no ?_)), fun e1 => wp_chk.2 ⟨?_, wp_leaf.2 (yes ?_)⟩⟩)⟩⟩
  · have h0 : bareB f_s c = false := by simpa using e0
    rw [h0]; rfl
  · have h0 : bareB f_s c = true := by simpa using e0
    have h1 : (decide ((c.s.length : Int) ≤ (32768 : Int))) = false := by simpa using e1
    rw [h0, h1]; rfl
  · have h0 : bareB f_s c = true := by simpa using e0
    have h1 : (decide ((c.s.length : Int) ≤ (32768 : Int))) = true := by simpa using e1
    have a0 := numB_len8 c.n
    have a1 := W4.bytes_length c.k
    have a2 := W4.bytes_length c.v
    have b0 : c.s.length ≤ 32768 := by have := of_decide_eq_true h1; omega
    have hq : okVB (lsV 2 (rowT [c.nm, c.s])) = true := ok_ls (xs := [c.nm, c.s]) (by simp only [List.map_cons, List.map_nil, List.sum_cons, List.sum_nil]; omega)
    have hq' : okVB (V.agg [V.bool true, V.str [], V.isl (3 : Nat) (2 : Nat) (rwF (rowT [c.nm, c.s]))]) = true := hq
    rw [hq']; rfl
  · have h0 : bareB f_s c = true := by simpa using e0
    have h1 : (decide ((c.s.length : Int) ≤ (32768 : Int))) = true := by simpa using e1
    rw [h0, h1]; rfl
end
end Go.Proofs.YtbgiickegljpoaaDoor.K
end
section
open Go Go.Lh
namespace Go.Proofs.YtbgiickegljpoaaDoor.K
noncomputable section
set_option maxRecDepth 100000
def ca_read : List V → Heap → Option CM := fun a h => match a, h with
  | [.agg [.str nm, .str ad, .u64 n, .u64 ka, .u64 kb, .u64 kc, .u64 kd, .u64 va, .u64 vb, .u64 vc, .u64 vd, .str s, .int .i64 tk, .str tf, .str tt, .u64 tn, .u64 tg, .u64 pa, .u64 pb, .u64 pc, .u64 pd, .u64 ia, .u64 ib, .u64 ic, .u64 id, .u64 wa, .u64 wb, .u64 wc, .u64 wd, .str td, .nilSl]], [] =>
    some ⟨nm, ad, n, ⟨ka, kb, kc, kd⟩, ⟨va, vb, vc, vd⟩, s, tk, tf, tt, tn, tg, ⟨pa, pb, pc, pd⟩, ⟨ia, ib, ic, id⟩, ⟨wa, wb, wc, wd⟩, td⟩
  | _, _ => none
def eokO (f : List B) (c : CM) : Bool := @decide (eok f c = true) (Classical.propDecidable _)
theorem eokO_eq (f : List B) (c : CM) : eokO f c = eok f c := by
  unfold eokO
  cases h : eok f c with
  | true => exact @decide_eq_true _ (Classical.propDecidable _) rfl
  | false => exact @decide_eq_false _ (Classical.propDecidable _) (by decide)
def isF (f : List B) : Prop := f = f_n ∨ f = f_a ∨ f = f_ak ∨ f = f_av ∨ f = f_an ∨ f = f_as ∨ f = f_akv ∨ f = f_e ∨ f = f_s
theorem enc_all {f : List B} (hf : isF f) (c : CM) (hn : fkP f c.nm) (hc : okC c) : LFn Pr 8 [.agg (c.cs .nilSl)] [] (eV f c) [] := by
  rcases hf with rfl | rfl | rfl | rfl | rfl | rfl | rfl | rfl | rfl
  · exact enc_n c hn hc
  · exact enc_a c hn hc
  · exact enc_ak c hn hc
  · exact enc_av c hn hc
  · exact enc_an c hn hc
  · exact enc_as c hn hc
  · exact enc_akv c hn hc
  · exact enc_e c hn hc
  · exact enc_s c hn hc
def ecP (f : List B) (c : CM) : Prop := isF f ∧ fkP f c.nm ∧ okC c
def ecB (f : List B) (c : CM) : Bool := @decide (ecP f c) (Classical.propDecidable _)
def ecm_f (f : List B) (c : CM) : Tr (Fin × Heap) := .chk (ecB f c) (.br (eokO f c) (.leaf (.ret (.tup [.str (eS f c), .bool true]), [])) (.leaf (.ret (.tup [.str [], .bool false]), [])))
theorem ecm_ok (f : List B) : ∀ args h r, ((ctT ca_read (ecm_f f)) args h).is r → LFn Pr 8 args h r.1 r.2 := by
  refine ctT_ok (fun c => [.agg (c.cs .nilSl)]) (fun _ => []) ?_ (fun c r h => ?_)
  · intro args h a e
    unfold ca_read at e
    split at e <;> cases e <;> exact ⟨rfl, rfl⟩
  · rw [ecm_f, Tr.is_chk, Tr.is_br] at h
    obtain ⟨h1, h⟩ := h
    obtain ⟨h2, h3, h4⟩ : ecP f c := @of_decide_eq_true _ (Classical.propDecidable _) h1
    have H := enc_all h2 c h3 h4
    unfold eV at H
    rw [eokO_eq] at h
    split at h
    · rename_i hh
      rw [Tr.is_leaf] at h; subst h
      rw [if_pos hh] at H; exact H
    · rename_i hh
      rw [Tr.is_leaf] at h; subst h
      rw [if_neg hh] at H; exact H
/-- the item that is read -/
def dqP (n : Nat) (q : RW) (s : List B) : Prop := ∃ l : List It, decF s = some (.lst l) ∧ l.length = n ∧ It.rI l = q
def dqB (n : Nat) (q : RW) (s : List B) : Bool := @decide (dqP n q s) (Classical.propDecidable _)
def dq_f (n : Nat) (q : RW) (s : List B) : Tr (Fin × Heap) := .chk (dqB n q s) (.leaf (.ret (.tup [.agg [.bool true, .str [], .isl 3 n (rwF q)], .int .i64 0]), []))
theorem dcO_t {s : List B} {x : It} (h : decF s = some x) : dcO s = true := @decide_eq_true _ (Classical.propDecidable _) ⟨_, h⟩
theorem dcO_n {s : List B} (h : decF s = none) : dcO s = false := @decide_eq_false _ (Classical.propDecidable _) (by rw [h]; rintro ⟨x, hx⟩; cases hx)
theorem dq_ok (n : Nat) (q : RW) : ∀ args h r, ((ctT dc_read (dq_f n q)) args h).is r → LFn Pr 17 args h r.1 r.2 := by
  intro args h r hr
  refine dc_ok args h r ?_
  unfold ctT at hr ⊢
  split at hr
  · rename_i s hs
    rw [dq_f, Tr.is_chk] at hr
    obtain ⟨h1, hr⟩ := hr
    obtain ⟨l, h2, rfl, rfl⟩ : dqP n q s := @of_decide_eq_true _ (Classical.propDecidable _) h1
    rw [dc_f, Tr.is_br, if_pos (dcO_t h2), dcI_eq h2, itV_lst]
    exact hr
  · exact hr
def KD2 (f : List B) (n : Nat) (q : RW) : KnownT := (17, ctT dc_read (dq_f n q)) :: (10, ctT readS (fk_f f)) :: (8, ctT ca_read (ecm_f f)) :: (18, ta_g) :: (51, ctS ofV) :: KR5
theorem KD2_ok (f : List B) (n : Nat) (q : RW) : KOkT Pr (KD2 f n q) := KOkT.cons (Enters.of (fn := Go.Proofs.Tryd.f17) (by kernel_rfl) (by kernel_rfl)) (dq_ok n q) (KOkT.cons (Enters.of (fn := Go.Proofs.Tryd.f10) (by kernel_rfl) (by kernel_rfl)) (fk_ok f) (KOkT.cons (Enters.of (fn := Go.Proofs.Tryd.f8) (by kernel_rfl) (by kernel_rfl)) (ecm_ok f) (KOkT.cons (Enters.of (fn := Go.Proofs.Tryd.f18) (by kernel_rfl) (by kernel_rfl)) ta_ok (KOkT.cons of_en (ctS_ok of_fn) KR5_ok))))
def OD2 (f : List B) (n : Nat) (q : RW) : OrcT := autoT Pr ext (KD2 f n q) [33,34,35,36,37] 3
theorem OD2_sound (f : List B) (n : Nat) (q : RW) : OrcSound Pr (OD2 f n q).o := autoT_sound mixed ext_ok (KD2_ok f n q) (by kernel_rfl) 3
theorem dc_n_x (s : List B) (q : RW) : Tr.prune ((Tr.Sh.any.both
                              ((Tr.Sh.any.both Tr.Sh.any).r.r.r.both Tr.Sh.any.l.l.l.l).r).l.r.r.r.r.r.r.r.r.r.r.r.r.r)
  (execBF Pr (OD2 f_n (2 : Nat) q) noLoopsT (100 : Nat) Go.Proofs.Tryd.f9 [V.str s] []) =
  Tr.chk (dqB (2 : Nat) q s && true && true && (fkB f_n (q.s (0 : Nat)) && true && true && true))
  (Tr.br (!smallO (q.b (1 : Nat)) (q.s (1 : Nat)))
    (Tr.chk true
      (Tr.leaf
        (Fin.ret
            (V.tup
              [V.agg
                  [V.str (bytesOf (ByteArray.mk #[])), V.str (bytesOf (ByteArray.mk #[])),
                    V.u64 (BitVec.ofInt (64 : Nat) (0 : Int)), V.u64 (BitVec.ofInt (64 : Nat) (0 : Int)),
                    V.u64 (BitVec.ofInt (64 : Nat) (0 : Int)), V.u64 (BitVec.ofInt (64 : Nat) (0 : Int)),
                    V.u64 (BitVec.ofInt (64 : Nat) (0 : Int)), V.u64 (BitVec.ofInt (64 : Nat) (0 : Int)),
                    V.u64 (BitVec.ofInt (64 : Nat) (0 : Int)), V.u64 (BitVec.ofInt (64 : Nat) (0 : Int)),
                    V.u64 (BitVec.ofInt (64 : Nat) (0 : Int)), V.str (bytesOf (ByteArray.mk #[])),
                    V.int IntKind.i64 (0 : Int), V.str (bytesOf (ByteArray.mk #[])), V.str (bytesOf (ByteArray.mk #[])),
                    V.u64 (BitVec.ofInt (64 : Nat) (0 : Int)), V.u64 (BitVec.ofInt (64 : Nat) (0 : Int)),
                    V.u64 (BitVec.ofInt (64 : Nat) (0 : Int)), V.u64 (BitVec.ofInt (64 : Nat) (0 : Int)),
                    V.u64 (BitVec.ofInt (64 : Nat) (0 : Int)), V.u64 (BitVec.ofInt (64 : Nat) (0 : Int)),
                    V.u64 (BitVec.ofInt (64 : Nat) (0 : Int)), V.u64 (BitVec.ofInt (64 : Nat) (0 : Int)),
                    V.u64 (BitVec.ofInt (64 : Nat) (0 : Int)), V.u64 (BitVec.ofInt (64 : Nat) (0 : Int)),
                    V.u64 (BitVec.ofInt (64 : Nat) (0 : Int)), V.u64 (BitVec.ofInt (64 : Nat) (0 : Int)),
                    V.u64 (BitVec.ofInt (64 : Nat) (0 : Int)), V.u64 (BitVec.ofInt (64 : Nat) (0 : Int)),
                    V.str (bytesOf (ByteArray.mk #[])), V.nilSl],
                V.bool false]),
          [])))
    (Tr.chk
      (ecB f_n
        (CM.mk (q.s (0 : Nat)) (bytesOf (ByteArray.mk #[])) (smallN (q.b (1 : Nat)) (q.s (1 : Nat)))
          (W4.mk (BitVec.ofInt (64 : Nat) (0 : Int)) (BitVec.ofInt (64 : Nat) (0 : Int))
            (BitVec.ofInt (64 : Nat) (0 : Int)) (BitVec.ofInt (64 : Nat) (0 : Int)))
          (W4.mk (BitVec.ofInt (64 : Nat) (0 : Int)) (BitVec.ofInt (64 : Nat) (0 : Int))
            (BitVec.ofInt (64 : Nat) (0 : Int)) (BitVec.ofInt (64 : Nat) (0 : Int)))
          (bytesOf (ByteArray.mk #[])) (0 : Int) (bytesOf (ByteArray.mk #[])) (bytesOf (ByteArray.mk #[]))
          (BitVec.ofInt (64 : Nat) (0 : Int)) (BitVec.ofInt (64 : Nat) (0 : Int))
          (W4.mk (BitVec.ofInt (64 : Nat) (0 : Int)) (BitVec.ofInt (64 : Nat) (0 : Int))
            (BitVec.ofInt (64 : Nat) (0 : Int)) (BitVec.ofInt (64 : Nat) (0 : Int)))
          (W4.mk (BitVec.ofInt (64 : Nat) (0 : Int)) (BitVec.ofInt (64 : Nat) (0 : Int))
            (BitVec.ofInt (64 : Nat) (0 : Int)) (BitVec.ofInt (64 : Nat) (0 : Int)))
          (W4.mk (BitVec.ofInt (64 : Nat) (0 : Int)) (BitVec.ofInt (64 : Nat) (0 : Int))
            (BitVec.ofInt (64 : Nat) (0 : Int)) (BitVec.ofInt (64 : Nat) (0 : Int)))
          (bytesOf (ByteArray.mk #[]))))
      (Tr.br
        (eokO f_n
          (CM.mk (q.s (0 : Nat)) (bytesOf (ByteArray.mk #[])) (smallN (q.b (1 : Nat)) (q.s (1 : Nat)))
            (W4.mk (BitVec.ofInt (64 : Nat) (0 : Int)) (BitVec.ofInt (64 : Nat) (0 : Int))
              (BitVec.ofInt (64 : Nat) (0 : Int)) (BitVec.ofInt (64 : Nat) (0 : Int)))
            (W4.mk (BitVec.ofInt (64 : Nat) (0 : Int)) (BitVec.ofInt (64 : Nat) (0 : Int))
              (BitVec.ofInt (64 : Nat) (0 : Int)) (BitVec.ofInt (64 : Nat) (0 : Int)))
            (bytesOf (ByteArray.mk #[])) (0 : Int) (bytesOf (ByteArray.mk #[])) (bytesOf (ByteArray.mk #[]))
            (BitVec.ofInt (64 : Nat) (0 : Int)) (BitVec.ofInt (64 : Nat) (0 : Int))
            (W4.mk (BitVec.ofInt (64 : Nat) (0 : Int)) (BitVec.ofInt (64 : Nat) (0 : Int))
              (BitVec.ofInt (64 : Nat) (0 : Int)) (BitVec.ofInt (64 : Nat) (0 : Int)))
            (W4.mk (BitVec.ofInt (64 : Nat) (0 : Int)) (BitVec.ofInt (64 : Nat) (0 : Int))
              (BitVec.ofInt (64 : Nat) (0 : Int)) (BitVec.ofInt (64 : Nat) (0 : Int)))
            (W4.mk (BitVec.ofInt (64 : Nat) (0 : Int)) (BitVec.ofInt (64 : Nat) (0 : Int))
              (BitVec.ofInt (64 : Nat) (0 : Int)) (BitVec.ofInt (64 : Nat) (0 : Int)))
            (bytesOf (ByteArray.mk #[]))))
        (Tr.chk true
          (Tr.br
            (!eS f_n
                  (CM.mk (q.s (0 : Nat)) (bytesOf (ByteArray.mk #[])) (smallN (q.b (1 : Nat)) (q.s (1 : Nat)))
                    (W4.mk (BitVec.ofInt (64 : Nat) (0 : Int)) (BitVec.ofInt (64 : Nat) (0 : Int))
                      (BitVec.ofInt (64 : Nat) (0 : Int)) (BitVec.ofInt (64 : Nat) (0 : Int)))
                    (W4.mk (BitVec.ofInt (64 : Nat) (0 : Int)) (BitVec.ofInt (64 : Nat) (0 : Int))
                      (BitVec.ofInt (64 : Nat) (0 : Int)) (BitVec.ofInt (64 : Nat) (0 : Int)))
                    (bytesOf (ByteArray.mk #[])) (0 : Int) (bytesOf (ByteArray.mk #[])) (bytesOf (ByteArray.mk #[]))
                    (BitVec.ofInt (64 : Nat) (0 : Int)) (BitVec.ofInt (64 : Nat) (0 : Int))
                    (W4.mk (BitVec.ofInt (64 : Nat) (0 : Int)) (BitVec.ofInt (64 : Nat) (0 : Int))
                      (BitVec.ofInt (64 : Nat) (0 : Int)) (BitVec.ofInt (64 : Nat) (0 : Int)))
                    (W4.mk (BitVec.ofInt (64 : Nat) (0 : Int)) (BitVec.ofInt (64 : Nat) (0 : Int))
                      (BitVec.ofInt (64 : Nat) (0 : Int)) (BitVec.ofInt (64 : Nat) (0 : Int)))
                    (W4.mk (BitVec.ofInt (64 : Nat) (0 : Int)) (BitVec.ofInt (64 : Nat) (0 : Int))
                      (BitVec.ofInt (64 : Nat) (0 : Int)) (BitVec.ofInt (64 : Nat) (0 : Int)))
                    (bytesOf (ByteArray.mk #[]))) ==
                s)
            (Tr.chk true
              (Tr.leaf
                (Fin.ret
                    (V.tup
                      [V.agg
                          [V.str (bytesOf (ByteArray.mk #[])), V.str (bytesOf (ByteArray.mk #[])),
                            V.u64 (BitVec.ofInt (64 : Nat) (0 : Int)), V.u64 (BitVec.ofInt (64 : Nat) (0 : Int)),
                            V.u64 (BitVec.ofInt (64 : Nat) (0 : Int)), V.u64 (BitVec.ofInt (64 : Nat) (0 : Int)),
                            V.u64 (BitVec.ofInt (64 : Nat) (0 : Int)), V.u64 (BitVec.ofInt (64 : Nat) (0 : Int)),
                            V.u64 (BitVec.ofInt (64 : Nat) (0 : Int)), V.u64 (BitVec.ofInt (64 : Nat) (0 : Int)),
                            V.u64 (BitVec.ofInt (64 : Nat) (0 : Int)), V.str (bytesOf (ByteArray.mk #[])),
                            V.int IntKind.i64 (0 : Int), V.str (bytesOf (ByteArray.mk #[])),
                            V.str (bytesOf (ByteArray.mk #[])), V.u64 (BitVec.ofInt (64 : Nat) (0 : Int)),
                            V.u64 (BitVec.ofInt (64 : Nat) (0 : Int)), V.u64 (BitVec.ofInt (64 : Nat) (0 : Int)),
                            V.u64 (BitVec.ofInt (64 : Nat) (0 : Int)), V.u64 (BitVec.ofInt (64 : Nat) (0 : Int)),
                            V.u64 (BitVec.ofInt (64 : Nat) (0 : Int)), V.u64 (BitVec.ofInt (64 : Nat) (0 : Int)),
                            V.u64 (BitVec.ofInt (64 : Nat) (0 : Int)), V.u64 (BitVec.ofInt (64 : Nat) (0 : Int)),
                            V.u64 (BitVec.ofInt (64 : Nat) (0 : Int)), V.u64 (BitVec.ofInt (64 : Nat) (0 : Int)),
                            V.u64 (BitVec.ofInt (64 : Nat) (0 : Int)), V.u64 (BitVec.ofInt (64 : Nat) (0 : Int)),
                            V.u64 (BitVec.ofInt (64 : Nat) (0 : Int)), V.str (bytesOf (ByteArray.mk #[])), V.nilSl],
                        V.bool false]),
                  [])))
            (Tr.chk true
              (Tr.leaf
                (Fin.ret
                    (V.tup
                      [V.agg
                          [V.str (q.s (0 : Nat)), V.str (bytesOf (ByteArray.mk #[])),
                            V.u64 (smallN (q.b (1 : Nat)) (q.s (1 : Nat))), V.u64 (BitVec.ofInt (64 : Nat) (0 : Int)),
                            V.u64 (BitVec.ofInt (64 : Nat) (0 : Int)), V.u64 (BitVec.ofInt (64 : Nat) (0 : Int)),
                            V.u64 (BitVec.ofInt (64 : Nat) (0 : Int)), V.u64 (BitVec.ofInt (64 : Nat) (0 : Int)),
                            V.u64 (BitVec.ofInt (64 : Nat) (0 : Int)), V.u64 (BitVec.ofInt (64 : Nat) (0 : Int)),
                            V.u64 (BitVec.ofInt (64 : Nat) (0 : Int)), V.str (bytesOf (ByteArray.mk #[])),
                            V.int IntKind.i64 (0 : Int), V.str (bytesOf (ByteArray.mk #[])),
                            V.str (bytesOf (ByteArray.mk #[])), V.u64 (BitVec.ofInt (64 : Nat) (0 : Int)),
                            V.u64 (BitVec.ofInt (64 : Nat) (0 : Int)), V.u64 (BitVec.ofInt (64 : Nat) (0 : Int)),
                            V.u64 (BitVec.ofInt (64 : Nat) (0 : Int)), V.u64 (BitVec.ofInt (64 : Nat) (0 : Int)),
                            V.u64 (BitVec.ofInt (64 : Nat) (0 : Int)), V.u64 (BitVec.ofInt (64 : Nat) (0 : Int)),
                            V.u64 (BitVec.ofInt (64 : Nat) (0 : Int)), V.u64 (BitVec.ofInt (64 : Nat) (0 : Int)),
                            V.u64 (BitVec.ofInt (64 : Nat) (0 : Int)), V.u64 (BitVec.ofInt (64 : Nat) (0 : Int)),
                            V.u64 (BitVec.ofInt (64 : Nat) (0 : Int)), V.u64 (BitVec.ofInt (64 : Nat) (0 : Int)),
                            V.u64 (BitVec.ofInt (64 : Nat) (0 : Int)), V.str (bytesOf (ByteArray.mk #[])), V.nilSl],
                        V.bool true]),
                  [])))))
        (Tr.chk true
          (Tr.leaf
            (Fin.ret
                (V.tup
                  [V.agg
                      [V.str (bytesOf (ByteArray.mk #[])), V.str (bytesOf (ByteArray.mk #[])),
                        V.u64 (BitVec.ofInt (64 : Nat) (0 : Int)), V.u64 (BitVec.ofInt (64 : Nat) (0 : Int)),
                        V.u64 (BitVec.ofInt (64 : Nat) (0 : Int)), V.u64 (BitVec.ofInt (64 : Nat) (0 : Int)),
                        V.u64 (BitVec.ofInt (64 : Nat) (0 : Int)), V.u64 (BitVec.ofInt (64 : Nat) (0 : Int)),
                        V.u64 (BitVec.ofInt (64 : Nat) (0 : Int)), V.u64 (BitVec.ofInt (64 : Nat) (0 : Int)),
                        V.u64 (BitVec.ofInt (64 : Nat) (0 : Int)), V.str (bytesOf (ByteArray.mk #[])),
                        V.int IntKind.i64 (0 : Int), V.str (bytesOf (ByteArray.mk #[])),
                        V.str (bytesOf (ByteArray.mk #[])), V.u64 (BitVec.ofInt (64 : Nat) (0 : Int)),
                        V.u64 (BitVec.ofInt (64 : Nat) (0 : Int)), V.u64 (BitVec.ofInt (64 : Nat) (0 : Int)),
                        V.u64 (BitVec.ofInt (64 : Nat) (0 : Int)), V.u64 (BitVec.ofInt (64 : Nat) (0 : Int)),
                        V.u64 (BitVec.ofInt (64 : Nat) (0 : Int)), V.u64 (BitVec.ofInt (64 : Nat) (0 : Int)),
                        V.u64 (BitVec.ofInt (64 : Nat) (0 : Int)), V.u64 (BitVec.ofInt (64 : Nat) (0 : Int)),
                        V.u64 (BitVec.ofInt (64 : Nat) (0 : Int)), V.u64 (BitVec.ofInt (64 : Nat) (0 : Int)),
                        V.u64 (BitVec.ofInt (64 : Nat) (0 : Int)), V.u64 (BitVec.ofInt (64 : Nat) (0 : Int)),
                        V.u64 (BitVec.ofInt (64 : Nat) (0 : Int)), V.str (bytesOf (ByteArray.mk #[])), V.nilSl],
                    V.bool false]),
              [])))))) := by kernel_rfl
theorem dc_a_x (s : List B) (q : RW) : Tr.prune (((Tr.Sh.any.both Tr.Sh.any).r.r.r.both
                                  Tr.Sh.any.l.l.l.l).r.r.l.r.r.r.r.r.r.r.r.r.r.r.r.r)
  (execBF Pr (OD2 f_a (2 : Nat) q) noLoopsT (100 : Nat) Go.Proofs.Tryd.f9 [V.str s] []) =
  Tr.chk
  (dqB (2 : Nat) q s && true && true &&
    (fkB f_a (q.s (0 : Nat)) && true && true &&
      ecB f_a
        (CM.mk (q.s (0 : Nat)) (q.s (1 : Nat)) (BitVec.ofInt (64 : Nat) (0 : Int))
          (W4.mk (BitVec.ofInt (64 : Nat) (0 : Int)) (BitVec.ofInt (64 : Nat) (0 : Int))
            (BitVec.ofInt (64 : Nat) (0 : Int)) (BitVec.ofInt (64 : Nat) (0 : Int)))
          (W4.mk (BitVec.ofInt (64 : Nat) (0 : Int)) (BitVec.ofInt (64 : Nat) (0 : Int))
            (BitVec.ofInt (64 : Nat) (0 : Int)) (BitVec.ofInt (64 : Nat) (0 : Int)))
          (bytesOf (ByteArray.mk #[])) (0 : Int) (bytesOf (ByteArray.mk #[])) (bytesOf (ByteArray.mk #[]))
          (BitVec.ofInt (64 : Nat) (0 : Int)) (BitVec.ofInt (64 : Nat) (0 : Int))
          (W4.mk (BitVec.ofInt (64 : Nat) (0 : Int)) (BitVec.ofInt (64 : Nat) (0 : Int))
            (BitVec.ofInt (64 : Nat) (0 : Int)) (BitVec.ofInt (64 : Nat) (0 : Int)))
          (W4.mk (BitVec.ofInt (64 : Nat) (0 : Int)) (BitVec.ofInt (64 : Nat) (0 : Int))
            (BitVec.ofInt (64 : Nat) (0 : Int)) (BitVec.ofInt (64 : Nat) (0 : Int)))
          (W4.mk (BitVec.ofInt (64 : Nat) (0 : Int)) (BitVec.ofInt (64 : Nat) (0 : Int))
            (BitVec.ofInt (64 : Nat) (0 : Int)) (BitVec.ofInt (64 : Nat) (0 : Int)))
          (bytesOf (ByteArray.mk #[])))))
  (Tr.br
    (eokO f_a
      (CM.mk (q.s (0 : Nat)) (q.s (1 : Nat)) (BitVec.ofInt (64 : Nat) (0 : Int))
        (W4.mk (BitVec.ofInt (64 : Nat) (0 : Int)) (BitVec.ofInt (64 : Nat) (0 : Int))
          (BitVec.ofInt (64 : Nat) (0 : Int)) (BitVec.ofInt (64 : Nat) (0 : Int)))
        (W4.mk (BitVec.ofInt (64 : Nat) (0 : Int)) (BitVec.ofInt (64 : Nat) (0 : Int))
          (BitVec.ofInt (64 : Nat) (0 : Int)) (BitVec.ofInt (64 : Nat) (0 : Int)))
        (bytesOf (ByteArray.mk #[])) (0 : Int) (bytesOf (ByteArray.mk #[])) (bytesOf (ByteArray.mk #[]))
        (BitVec.ofInt (64 : Nat) (0 : Int)) (BitVec.ofInt (64 : Nat) (0 : Int))
        (W4.mk (BitVec.ofInt (64 : Nat) (0 : Int)) (BitVec.ofInt (64 : Nat) (0 : Int))
          (BitVec.ofInt (64 : Nat) (0 : Int)) (BitVec.ofInt (64 : Nat) (0 : Int)))
        (W4.mk (BitVec.ofInt (64 : Nat) (0 : Int)) (BitVec.ofInt (64 : Nat) (0 : Int))
          (BitVec.ofInt (64 : Nat) (0 : Int)) (BitVec.ofInt (64 : Nat) (0 : Int)))
        (W4.mk (BitVec.ofInt (64 : Nat) (0 : Int)) (BitVec.ofInt (64 : Nat) (0 : Int))
          (BitVec.ofInt (64 : Nat) (0 : Int)) (BitVec.ofInt (64 : Nat) (0 : Int)))
        (bytesOf (ByteArray.mk #[]))))
    (Tr.chk true
      (Tr.br
        (!eS f_a
              (CM.mk (q.s (0 : Nat)) (q.s (1 : Nat)) (BitVec.ofInt (64 : Nat) (0 : Int))
                (W4.mk (BitVec.ofInt (64 : Nat) (0 : Int)) (BitVec.ofInt (64 : Nat) (0 : Int))
                  (BitVec.ofInt (64 : Nat) (0 : Int)) (BitVec.ofInt (64 : Nat) (0 : Int)))
                (W4.mk (BitVec.ofInt (64 : Nat) (0 : Int)) (BitVec.ofInt (64 : Nat) (0 : Int))
                  (BitVec.ofInt (64 : Nat) (0 : Int)) (BitVec.ofInt (64 : Nat) (0 : Int)))
                (bytesOf (ByteArray.mk #[])) (0 : Int) (bytesOf (ByteArray.mk #[])) (bytesOf (ByteArray.mk #[]))
                (BitVec.ofInt (64 : Nat) (0 : Int)) (BitVec.ofInt (64 : Nat) (0 : Int))
                (W4.mk (BitVec.ofInt (64 : Nat) (0 : Int)) (BitVec.ofInt (64 : Nat) (0 : Int))
                  (BitVec.ofInt (64 : Nat) (0 : Int)) (BitVec.ofInt (64 : Nat) (0 : Int)))
                (W4.mk (BitVec.ofInt (64 : Nat) (0 : Int)) (BitVec.ofInt (64 : Nat) (0 : Int))
                  (BitVec.ofInt (64 : Nat) (0 : Int)) (BitVec.ofInt (64 : Nat) (0 : Int)))
                (W4.mk (BitVec.ofInt (64 : Nat) (0 : Int)) (BitVec.ofInt (64 : Nat) (0 : Int))
                  (BitVec.ofInt (64 : Nat) (0 : Int)) (BitVec.ofInt (64 : Nat) (0 : Int)))
                (bytesOf (ByteArray.mk #[]))) ==
            s)
        (Tr.chk true
          (Tr.leaf
            (Fin.ret
                (V.tup
                  [V.agg
                      [V.str (bytesOf (ByteArray.mk #[])), V.str (bytesOf (ByteArray.mk #[])),
                        V.u64 (BitVec.ofInt (64 : Nat) (0 : Int)), V.u64 (BitVec.ofInt (64 : Nat) (0 : Int)),
                        V.u64 (BitVec.ofInt (64 : Nat) (0 : Int)), V.u64 (BitVec.ofInt (64 : Nat) (0 : Int)),
                        V.u64 (BitVec.ofInt (64 : Nat) (0 : Int)), V.u64 (BitVec.ofInt (64 : Nat) (0 : Int)),
                        V.u64 (BitVec.ofInt (64 : Nat) (0 : Int)), V.u64 (BitVec.ofInt (64 : Nat) (0 : Int)),
                        V.u64 (BitVec.ofInt (64 : Nat) (0 : Int)), V.str (bytesOf (ByteArray.mk #[])),
                        V.int IntKind.i64 (0 : Int), V.str (bytesOf (ByteArray.mk #[])),
                        V.str (bytesOf (ByteArray.mk #[])), V.u64 (BitVec.ofInt (64 : Nat) (0 : Int)),
                        V.u64 (BitVec.ofInt (64 : Nat) (0 : Int)), V.u64 (BitVec.ofInt (64 : Nat) (0 : Int)),
                        V.u64 (BitVec.ofInt (64 : Nat) (0 : Int)), V.u64 (BitVec.ofInt (64 : Nat) (0 : Int)),
                        V.u64 (BitVec.ofInt (64 : Nat) (0 : Int)), V.u64 (BitVec.ofInt (64 : Nat) (0 : Int)),
                        V.u64 (BitVec.ofInt (64 : Nat) (0 : Int)), V.u64 (BitVec.ofInt (64 : Nat) (0 : Int)),
                        V.u64 (BitVec.ofInt (64 : Nat) (0 : Int)), V.u64 (BitVec.ofInt (64 : Nat) (0 : Int)),
                        V.u64 (BitVec.ofInt (64 : Nat) (0 : Int)), V.u64 (BitVec.ofInt (64 : Nat) (0 : Int)),
                        V.u64 (BitVec.ofInt (64 : Nat) (0 : Int)), V.str (bytesOf (ByteArray.mk #[])), V.nilSl],
                    V.bool false]),
              [])))
        (Tr.chk true
          (Tr.leaf
            (Fin.ret
                (V.tup
                  [V.agg
                      [V.str (q.s (0 : Nat)), V.str (q.s (1 : Nat)), V.u64 (BitVec.ofInt (64 : Nat) (0 : Int)),
                        V.u64 (BitVec.ofInt (64 : Nat) (0 : Int)), V.u64 (BitVec.ofInt (64 : Nat) (0 : Int)),
                        V.u64 (BitVec.ofInt (64 : Nat) (0 : Int)), V.u64 (BitVec.ofInt (64 : Nat) (0 : Int)),
                        V.u64 (BitVec.ofInt (64 : Nat) (0 : Int)), V.u64 (BitVec.ofInt (64 : Nat) (0 : Int)),
                        V.u64 (BitVec.ofInt (64 : Nat) (0 : Int)), V.u64 (BitVec.ofInt (64 : Nat) (0 : Int)),
                        V.str (bytesOf (ByteArray.mk #[])), V.int IntKind.i64 (0 : Int),
                        V.str (bytesOf (ByteArray.mk #[])), V.str (bytesOf (ByteArray.mk #[])),
                        V.u64 (BitVec.ofInt (64 : Nat) (0 : Int)), V.u64 (BitVec.ofInt (64 : Nat) (0 : Int)),
                        V.u64 (BitVec.ofInt (64 : Nat) (0 : Int)), V.u64 (BitVec.ofInt (64 : Nat) (0 : Int)),
                        V.u64 (BitVec.ofInt (64 : Nat) (0 : Int)), V.u64 (BitVec.ofInt (64 : Nat) (0 : Int)),
                        V.u64 (BitVec.ofInt (64 : Nat) (0 : Int)), V.u64 (BitVec.ofInt (64 : Nat) (0 : Int)),
                        V.u64 (BitVec.ofInt (64 : Nat) (0 : Int)), V.u64 (BitVec.ofInt (64 : Nat) (0 : Int)),
                        V.u64 (BitVec.ofInt (64 : Nat) (0 : Int)), V.u64 (BitVec.ofInt (64 : Nat) (0 : Int)),
                        V.u64 (BitVec.ofInt (64 : Nat) (0 : Int)), V.u64 (BitVec.ofInt (64 : Nat) (0 : Int)),
                        V.str (bytesOf (ByteArray.mk #[])), V.nilSl],
                    V.bool true]),
              [])))))
    (Tr.chk true
      (Tr.leaf
        (Fin.ret
            (V.tup
              [V.agg
                  [V.str (bytesOf (ByteArray.mk #[])), V.str (bytesOf (ByteArray.mk #[])),
                    V.u64 (BitVec.ofInt (64 : Nat) (0 : Int)), V.u64 (BitVec.ofInt (64 : Nat) (0 : Int)),
                    V.u64 (BitVec.ofInt (64 : Nat) (0 : Int)), V.u64 (BitVec.ofInt (64 : Nat) (0 : Int)),
                    V.u64 (BitVec.ofInt (64 : Nat) (0 : Int)), V.u64 (BitVec.ofInt (64 : Nat) (0 : Int)),
                    V.u64 (BitVec.ofInt (64 : Nat) (0 : Int)), V.u64 (BitVec.ofInt (64 : Nat) (0 : Int)),
                    V.u64 (BitVec.ofInt (64 : Nat) (0 : Int)), V.str (bytesOf (ByteArray.mk #[])),
                    V.int IntKind.i64 (0 : Int), V.str (bytesOf (ByteArray.mk #[])), V.str (bytesOf (ByteArray.mk #[])),
                    V.u64 (BitVec.ofInt (64 : Nat) (0 : Int)), V.u64 (BitVec.ofInt (64 : Nat) (0 : Int)),
                    V.u64 (BitVec.ofInt (64 : Nat) (0 : Int)), V.u64 (BitVec.ofInt (64 : Nat) (0 : Int)),
                    V.u64 (BitVec.ofInt (64 : Nat) (0 : Int)), V.u64 (BitVec.ofInt (64 : Nat) (0 : Int)),
                    V.u64 (BitVec.ofInt (64 : Nat) (0 : Int)), V.u64 (BitVec.ofInt (64 : Nat) (0 : Int)),
                    V.u64 (BitVec.ofInt (64 : Nat) (0 : Int)), V.u64 (BitVec.ofInt (64 : Nat) (0 : Int)),
                    V.u64 (BitVec.ofInt (64 : Nat) (0 : Int)), V.u64 (BitVec.ofInt (64 : Nat) (0 : Int)),
                    V.u64 (BitVec.ofInt (64 : Nat) (0 : Int)), V.u64 (BitVec.ofInt (64 : Nat) (0 : Int)),
                    V.str (bytesOf (ByteArray.mk #[])), V.nilSl],
                V.bool false]),
          [])))) := by kernel_rfl
theorem dc_ak_x (s : List B) (q : RW) : Tr.prune ((Tr.Sh.any.both
                                  ((Tr.Sh.any.both Tr.Sh.any).r.r.r.both
                                      Tr.Sh.any.l.l.l.l).r).l.r.l.r.r.r.r.r.r.r.r.r.r.r.r.r)
  (execBF Pr (OD2 f_ak (3 : Nat) q) noLoopsT (100 : Nat) Go.Proofs.Tryd.f9 [V.str s] []) =
  Tr.chk (dqB (3 : Nat) q s && true && true && (fkB f_ak (q.s (0 : Nat)) && true && true && true))
  (Tr.br (!decide ((q.s (2 : Nat)).length ≤ (32 : Nat)))
    (Tr.chk true
      (Tr.leaf
        (Fin.ret
            (V.tup
              [V.agg
                  [V.str (bytesOf (ByteArray.mk #[])), V.str (bytesOf (ByteArray.mk #[])),
                    V.u64 (BitVec.ofInt (64 : Nat) (0 : Int)), V.u64 (BitVec.ofInt (64 : Nat) (0 : Int)),
                    V.u64 (BitVec.ofInt (64 : Nat) (0 : Int)), V.u64 (BitVec.ofInt (64 : Nat) (0 : Int)),
                    V.u64 (BitVec.ofInt (64 : Nat) (0 : Int)), V.u64 (BitVec.ofInt (64 : Nat) (0 : Int)),
                    V.u64 (BitVec.ofInt (64 : Nat) (0 : Int)), V.u64 (BitVec.ofInt (64 : Nat) (0 : Int)),
                    V.u64 (BitVec.ofInt (64 : Nat) (0 : Int)), V.str (bytesOf (ByteArray.mk #[])),
                    V.int IntKind.i64 (0 : Int), V.str (bytesOf (ByteArray.mk #[])), V.str (bytesOf (ByteArray.mk #[])),
                    V.u64 (BitVec.ofInt (64 : Nat) (0 : Int)), V.u64 (BitVec.ofInt (64 : Nat) (0 : Int)),
                    V.u64 (BitVec.ofInt (64 : Nat) (0 : Int)), V.u64 (BitVec.ofInt (64 : Nat) (0 : Int)),
                    V.u64 (BitVec.ofInt (64 : Nat) (0 : Int)), V.u64 (BitVec.ofInt (64 : Nat) (0 : Int)),
                    V.u64 (BitVec.ofInt (64 : Nat) (0 : Int)), V.u64 (BitVec.ofInt (64 : Nat) (0 : Int)),
                    V.u64 (BitVec.ofInt (64 : Nat) (0 : Int)), V.u64 (BitVec.ofInt (64 : Nat) (0 : Int)),
                    V.u64 (BitVec.ofInt (64 : Nat) (0 : Int)), V.u64 (BitVec.ofInt (64 : Nat) (0 : Int)),
                    V.u64 (BitVec.ofInt (64 : Nat) (0 : Int)), V.u64 (BitVec.ofInt (64 : Nat) (0 : Int)),
                    V.str (bytesOf (ByteArray.mk #[])), V.nilSl],
                V.bool false]),
          [])))
    (Tr.chk
      (ecB f_ak
        (CM.mk (q.s (0 : Nat)) (q.s (1 : Nat)) (BitVec.ofInt (64 : Nat) (0 : Int))
          (if (q.s (2 : Nat)).length ≤ (32 : Nat) then W4.ofBytes (q.s (2 : Nat)) else W4.zero)
          (W4.mk (BitVec.ofInt (64 : Nat) (0 : Int)) (BitVec.ofInt (64 : Nat) (0 : Int))
            (BitVec.ofInt (64 : Nat) (0 : Int)) (BitVec.ofInt (64 : Nat) (0 : Int)))
          (bytesOf (ByteArray.mk #[])) (0 : Int) (bytesOf (ByteArray.mk #[])) (bytesOf (ByteArray.mk #[]))
          (BitVec.ofInt (64 : Nat) (0 : Int)) (BitVec.ofInt (64 : Nat) (0 : Int))
          (W4.mk (BitVec.ofInt (64 : Nat) (0 : Int)) (BitVec.ofInt (64 : Nat) (0 : Int))
            (BitVec.ofInt (64 : Nat) (0 : Int)) (BitVec.ofInt (64 : Nat) (0 : Int)))
          (W4.mk (BitVec.ofInt (64 : Nat) (0 : Int)) (BitVec.ofInt (64 : Nat) (0 : Int))
            (BitVec.ofInt (64 : Nat) (0 : Int)) (BitVec.ofInt (64 : Nat) (0 : Int)))
          (W4.mk (BitVec.ofInt (64 : Nat) (0 : Int)) (BitVec.ofInt (64 : Nat) (0 : Int))
            (BitVec.ofInt (64 : Nat) (0 : Int)) (BitVec.ofInt (64 : Nat) (0 : Int)))
          (bytesOf (ByteArray.mk #[]))))
      (Tr.br
        (eokO f_ak
          (CM.mk (q.s (0 : Nat)) (q.s (1 : Nat)) (BitVec.ofInt (64 : Nat) (0 : Int))
            (if (q.s (2 : Nat)).length ≤ (32 : Nat) then W4.ofBytes (q.s (2 : Nat)) else W4.zero)
            (W4.mk (BitVec.ofInt (64 : Nat) (0 : Int)) (BitVec.ofInt (64 : Nat) (0 : Int))
              (BitVec.ofInt (64 : Nat) (0 : Int)) (BitVec.ofInt (64 : Nat) (0 : Int)))
            (bytesOf (ByteArray.mk #[])) (0 : Int) (bytesOf (ByteArray.mk #[])) (bytesOf (ByteArray.mk #[]))
            (BitVec.ofInt (64 : Nat) (0 : Int)) (BitVec.ofInt (64 : Nat) (0 : Int))
            (W4.mk (BitVec.ofInt (64 : Nat) (0 : Int)) (BitVec.ofInt (64 : Nat) (0 : Int))
              (BitVec.ofInt (64 : Nat) (0 : Int)) (BitVec.ofInt (64 : Nat) (0 : Int)))
            (W4.mk (BitVec.ofInt (64 : Nat) (0 : Int)) (BitVec.ofInt (64 : Nat) (0 : Int))
              (BitVec.ofInt (64 : Nat) (0 : Int)) (BitVec.ofInt (64 : Nat) (0 : Int)))
            (W4.mk (BitVec.ofInt (64 : Nat) (0 : Int)) (BitVec.ofInt (64 : Nat) (0 : Int))
              (BitVec.ofInt (64 : Nat) (0 : Int)) (BitVec.ofInt (64 : Nat) (0 : Int)))
            (bytesOf (ByteArray.mk #[]))))
        (Tr.chk true
          (Tr.br
            (!eS f_ak
                  (CM.mk (q.s (0 : Nat)) (q.s (1 : Nat)) (BitVec.ofInt (64 : Nat) (0 : Int))
                    (if (q.s (2 : Nat)).length ≤ (32 : Nat) then W4.ofBytes (q.s (2 : Nat)) else W4.zero)
                    (W4.mk (BitVec.ofInt (64 : Nat) (0 : Int)) (BitVec.ofInt (64 : Nat) (0 : Int))
                      (BitVec.ofInt (64 : Nat) (0 : Int)) (BitVec.ofInt (64 : Nat) (0 : Int)))
                    (bytesOf (ByteArray.mk #[])) (0 : Int) (bytesOf (ByteArray.mk #[])) (bytesOf (ByteArray.mk #[]))
                    (BitVec.ofInt (64 : Nat) (0 : Int)) (BitVec.ofInt (64 : Nat) (0 : Int))
                    (W4.mk (BitVec.ofInt (64 : Nat) (0 : Int)) (BitVec.ofInt (64 : Nat) (0 : Int))
                      (BitVec.ofInt (64 : Nat) (0 : Int)) (BitVec.ofInt (64 : Nat) (0 : Int)))
                    (W4.mk (BitVec.ofInt (64 : Nat) (0 : Int)) (BitVec.ofInt (64 : Nat) (0 : Int))
                      (BitVec.ofInt (64 : Nat) (0 : Int)) (BitVec.ofInt (64 : Nat) (0 : Int)))
                    (W4.mk (BitVec.ofInt (64 : Nat) (0 : Int)) (BitVec.ofInt (64 : Nat) (0 : Int))
                      (BitVec.ofInt (64 : Nat) (0 : Int)) (BitVec.ofInt (64 : Nat) (0 : Int)))
                    (bytesOf (ByteArray.mk #[]))) ==
                s)
            (Tr.chk true
              (Tr.leaf
                (Fin.ret
                    (V.tup
                      [V.agg
                          [V.str (bytesOf (ByteArray.mk #[])), V.str (bytesOf (ByteArray.mk #[])),
                            V.u64 (BitVec.ofInt (64 : Nat) (0 : Int)), V.u64 (BitVec.ofInt (64 : Nat) (0 : Int)),
                            V.u64 (BitVec.ofInt (64 : Nat) (0 : Int)), V.u64 (BitVec.ofInt (64 : Nat) (0 : Int)),
                            V.u64 (BitVec.ofInt (64 : Nat) (0 : Int)), V.u64 (BitVec.ofInt (64 : Nat) (0 : Int)),
                            V.u64 (BitVec.ofInt (64 : Nat) (0 : Int)), V.u64 (BitVec.ofInt (64 : Nat) (0 : Int)),
                            V.u64 (BitVec.ofInt (64 : Nat) (0 : Int)), V.str (bytesOf (ByteArray.mk #[])),
                            V.int IntKind.i64 (0 : Int), V.str (bytesOf (ByteArray.mk #[])),
                            V.str (bytesOf (ByteArray.mk #[])), V.u64 (BitVec.ofInt (64 : Nat) (0 : Int)),
                            V.u64 (BitVec.ofInt (64 : Nat) (0 : Int)), V.u64 (BitVec.ofInt (64 : Nat) (0 : Int)),
                            V.u64 (BitVec.ofInt (64 : Nat) (0 : Int)), V.u64 (BitVec.ofInt (64 : Nat) (0 : Int)),
                            V.u64 (BitVec.ofInt (64 : Nat) (0 : Int)), V.u64 (BitVec.ofInt (64 : Nat) (0 : Int)),
                            V.u64 (BitVec.ofInt (64 : Nat) (0 : Int)), V.u64 (BitVec.ofInt (64 : Nat) (0 : Int)),
                            V.u64 (BitVec.ofInt (64 : Nat) (0 : Int)), V.u64 (BitVec.ofInt (64 : Nat) (0 : Int)),
                            V.u64 (BitVec.ofInt (64 : Nat) (0 : Int)), V.u64 (BitVec.ofInt (64 : Nat) (0 : Int)),
                            V.u64 (BitVec.ofInt (64 : Nat) (0 : Int)), V.str (bytesOf (ByteArray.mk #[])), V.nilSl],
                        V.bool false]),
                  [])))
            (Tr.chk true
              (Tr.leaf
                (Fin.ret
                    (V.tup
                      [V.agg
                          [V.str (q.s (0 : Nat)), V.str (q.s (1 : Nat)), V.u64 (BitVec.ofInt (64 : Nat) (0 : Int)),
                            V.u64
                              (if (q.s (2 : Nat)).length ≤ (32 : Nat) then W4.ofBytes (q.s (2 : Nat)) else W4.zero).a,
                            V.u64
                              (if (q.s (2 : Nat)).length ≤ (32 : Nat) then W4.ofBytes (q.s (2 : Nat)) else W4.zero).b,
                            V.u64
                              (if (q.s (2 : Nat)).length ≤ (32 : Nat) then W4.ofBytes (q.s (2 : Nat)) else W4.zero).c,
                            V.u64
                              (if (q.s (2 : Nat)).length ≤ (32 : Nat) then W4.ofBytes (q.s (2 : Nat)) else W4.zero).d,
                            V.u64 (BitVec.ofInt (64 : Nat) (0 : Int)), V.u64 (BitVec.ofInt (64 : Nat) (0 : Int)),
                            V.u64 (BitVec.ofInt (64 : Nat) (0 : Int)), V.u64 (BitVec.ofInt (64 : Nat) (0 : Int)),
                            V.str (bytesOf (ByteArray.mk #[])), V.int IntKind.i64 (0 : Int),
                            V.str (bytesOf (ByteArray.mk #[])), V.str (bytesOf (ByteArray.mk #[])),
                            V.u64 (BitVec.ofInt (64 : Nat) (0 : Int)), V.u64 (BitVec.ofInt (64 : Nat) (0 : Int)),
                            V.u64 (BitVec.ofInt (64 : Nat) (0 : Int)), V.u64 (BitVec.ofInt (64 : Nat) (0 : Int)),
                            V.u64 (BitVec.ofInt (64 : Nat) (0 : Int)), V.u64 (BitVec.ofInt (64 : Nat) (0 : Int)),
                            V.u64 (BitVec.ofInt (64 : Nat) (0 : Int)), V.u64 (BitVec.ofInt (64 : Nat) (0 : Int)),
                            V.u64 (BitVec.ofInt (64 : Nat) (0 : Int)), V.u64 (BitVec.ofInt (64 : Nat) (0 : Int)),
                            V.u64 (BitVec.ofInt (64 : Nat) (0 : Int)), V.u64 (BitVec.ofInt (64 : Nat) (0 : Int)),
                            V.u64 (BitVec.ofInt (64 : Nat) (0 : Int)), V.u64 (BitVec.ofInt (64 : Nat) (0 : Int)),
                            V.str (bytesOf (ByteArray.mk #[])), V.nilSl],
                        V.bool true]),
                  [])))))
        (Tr.chk true
          (Tr.leaf
            (Fin.ret
                (V.tup
                  [V.agg
                      [V.str (bytesOf (ByteArray.mk #[])), V.str (bytesOf (ByteArray.mk #[])),
                        V.u64 (BitVec.ofInt (64 : Nat) (0 : Int)), V.u64 (BitVec.ofInt (64 : Nat) (0 : Int)),
                        V.u64 (BitVec.ofInt (64 : Nat) (0 : Int)), V.u64 (BitVec.ofInt (64 : Nat) (0 : Int)),
                        V.u64 (BitVec.ofInt (64 : Nat) (0 : Int)), V.u64 (BitVec.ofInt (64 : Nat) (0 : Int)),
                        V.u64 (BitVec.ofInt (64 : Nat) (0 : Int)), V.u64 (BitVec.ofInt (64 : Nat) (0 : Int)),
                        V.u64 (BitVec.ofInt (64 : Nat) (0 : Int)), V.str (bytesOf (ByteArray.mk #[])),
                        V.int IntKind.i64 (0 : Int), V.str (bytesOf (ByteArray.mk #[])),
                        V.str (bytesOf (ByteArray.mk #[])), V.u64 (BitVec.ofInt (64 : Nat) (0 : Int)),
                        V.u64 (BitVec.ofInt (64 : Nat) (0 : Int)), V.u64 (BitVec.ofInt (64 : Nat) (0 : Int)),
                        V.u64 (BitVec.ofInt (64 : Nat) (0 : Int)), V.u64 (BitVec.ofInt (64 : Nat) (0 : Int)),
                        V.u64 (BitVec.ofInt (64 : Nat) (0 : Int)), V.u64 (BitVec.ofInt (64 : Nat) (0 : Int)),
                        V.u64 (BitVec.ofInt (64 : Nat) (0 : Int)), V.u64 (BitVec.ofInt (64 : Nat) (0 : Int)),
                        V.u64 (BitVec.ofInt (64 : Nat) (0 : Int)), V.u64 (BitVec.ofInt (64 : Nat) (0 : Int)),
                        V.u64 (BitVec.ofInt (64 : Nat) (0 : Int)), V.u64 (BitVec.ofInt (64 : Nat) (0 : Int)),
                        V.u64 (BitVec.ofInt (64 : Nat) (0 : Int)), V.str (bytesOf (ByteArray.mk #[])), V.nilSl],
                    V.bool false]),
              [])))))) := by kernel_rfl
theorem dc_av_x (s : List B) (q : RW) : Tr.prune ((Tr.Sh.any.both
                                  ((Tr.Sh.any.both Tr.Sh.any).r.r.r.both
                                      Tr.Sh.any.l.l.l.l).r).l.r.l.r.r.r.r.r.r.r.r.r.r.r.r.r)
  (execBF Pr (OD2 f_av (3 : Nat) q) noLoopsT (100 : Nat) Go.Proofs.Tryd.f9 [V.str s] []) =
  Tr.chk (dqB (3 : Nat) q s && true && true && (fkB f_av (q.s (0 : Nat)) && true && true && true))
  (Tr.br (!decide ((q.s (2 : Nat)).length ≤ (32 : Nat)))
    (Tr.chk true
      (Tr.leaf
        (Fin.ret
            (V.tup
              [V.agg
                  [V.str (bytesOf (ByteArray.mk #[])), V.str (bytesOf (ByteArray.mk #[])),
                    V.u64 (BitVec.ofInt (64 : Nat) (0 : Int)), V.u64 (BitVec.ofInt (64 : Nat) (0 : Int)),
                    V.u64 (BitVec.ofInt (64 : Nat) (0 : Int)), V.u64 (BitVec.ofInt (64 : Nat) (0 : Int)),
                    V.u64 (BitVec.ofInt (64 : Nat) (0 : Int)), V.u64 (BitVec.ofInt (64 : Nat) (0 : Int)),
                    V.u64 (BitVec.ofInt (64 : Nat) (0 : Int)), V.u64 (BitVec.ofInt (64 : Nat) (0 : Int)),
                    V.u64 (BitVec.ofInt (64 : Nat) (0 : Int)), V.str (bytesOf (ByteArray.mk #[])),
                    V.int IntKind.i64 (0 : Int), V.str (bytesOf (ByteArray.mk #[])), V.str (bytesOf (ByteArray.mk #[])),
                    V.u64 (BitVec.ofInt (64 : Nat) (0 : Int)), V.u64 (BitVec.ofInt (64 : Nat) (0 : Int)),
                    V.u64 (BitVec.ofInt (64 : Nat) (0 : Int)), V.u64 (BitVec.ofInt (64 : Nat) (0 : Int)),
                    V.u64 (BitVec.ofInt (64 : Nat) (0 : Int)), V.u64 (BitVec.ofInt (64 : Nat) (0 : Int)),
                    V.u64 (BitVec.ofInt (64 : Nat) (0 : Int)), V.u64 (BitVec.ofInt (64 : Nat) (0 : Int)),
                    V.u64 (BitVec.ofInt (64 : Nat) (0 : Int)), V.u64 (BitVec.ofInt (64 : Nat) (0 : Int)),
                    V.u64 (BitVec.ofInt (64 : Nat) (0 : Int)), V.u64 (BitVec.ofInt (64 : Nat) (0 : Int)),
                    V.u64 (BitVec.ofInt (64 : Nat) (0 : Int)), V.u64 (BitVec.ofInt (64 : Nat) (0 : Int)),
                    V.str (bytesOf (ByteArray.mk #[])), V.nilSl],
                V.bool false]),
          [])))
    (Tr.chk
      (ecB f_av
        (CM.mk (q.s (0 : Nat)) (q.s (1 : Nat)) (BitVec.ofInt (64 : Nat) (0 : Int))
          (W4.mk (BitVec.ofInt (64 : Nat) (0 : Int)) (BitVec.ofInt (64 : Nat) (0 : Int))
            (BitVec.ofInt (64 : Nat) (0 : Int)) (BitVec.ofInt (64 : Nat) (0 : Int)))
          (if (q.s (2 : Nat)).length ≤ (32 : Nat) then W4.ofBytes (q.s (2 : Nat)) else W4.zero)
          (bytesOf (ByteArray.mk #[])) (0 : Int) (bytesOf (ByteArray.mk #[])) (bytesOf (ByteArray.mk #[]))
          (BitVec.ofInt (64 : Nat) (0 : Int)) (BitVec.ofInt (64 : Nat) (0 : Int))
          (W4.mk (BitVec.ofInt (64 : Nat) (0 : Int)) (BitVec.ofInt (64 : Nat) (0 : Int))
            (BitVec.ofInt (64 : Nat) (0 : Int)) (BitVec.ofInt (64 : Nat) (0 : Int)))
          (W4.mk (BitVec.ofInt (64 : Nat) (0 : Int)) (BitVec.ofInt (64 : Nat) (0 : Int))
            (BitVec.ofInt (64 : Nat) (0 : Int)) (BitVec.ofInt (64 : Nat) (0 : Int)))
          (W4.mk (BitVec.ofInt (64 : Nat) (0 : Int)) (BitVec.ofInt (64 : Nat) (0 : Int))
            (BitVec.ofInt (64 : Nat) (0 : Int)) (BitVec.ofInt (64 : Nat) (0 : Int)))
          (bytesOf (ByteArray.mk #[]))))
      (Tr.br
        (eokO f_av
          (CM.mk (q.s (0 : Nat)) (q.s (1 : Nat)) (BitVec.ofInt (64 : Nat) (0 : Int))
            (W4.mk (BitVec.ofInt (64 : Nat) (0 : Int)) (BitVec.ofInt (64 : Nat) (0 : Int))
              (BitVec.ofInt (64 : Nat) (0 : Int)) (BitVec.ofInt (64 : Nat) (0 : Int)))
            (if (q.s (2 : Nat)).length ≤ (32 : Nat) then W4.ofBytes (q.s (2 : Nat)) else W4.zero)
            (bytesOf (ByteArray.mk #[])) (0 : Int) (bytesOf (ByteArray.mk #[])) (bytesOf (ByteArray.mk #[]))
            (BitVec.ofInt (64 : Nat) (0 : Int)) (BitVec.ofInt (64 : Nat) (0 : Int))
            (W4.mk (BitVec.ofInt (64 : Nat) (0 : Int)) (BitVec.ofInt (64 : Nat) (0 : Int))
              (BitVec.ofInt (64 : Nat) (0 : Int)) (BitVec.ofInt (64 : Nat) (0 : Int)))
            (W4.mk (BitVec.ofInt (64 : Nat) (0 : Int)) (BitVec.ofInt (64 : Nat) (0 : Int))
              (BitVec.ofInt (64 : Nat) (0 : Int)) (BitVec.ofInt (64 : Nat) (0 : Int)))
            (W4.mk (BitVec.ofInt (64 : Nat) (0 : Int)) (BitVec.ofInt (64 : Nat) (0 : Int))
              (BitVec.ofInt (64 : Nat) (0 : Int)) (BitVec.ofInt (64 : Nat) (0 : Int)))
            (bytesOf (ByteArray.mk #[]))))
        (Tr.chk true
          (Tr.br
            (!eS f_av
                  (CM.mk (q.s (0 : Nat)) (q.s (1 : Nat)) (BitVec.ofInt (64 : Nat) (0 : Int))
                    (W4.mk (BitVec.ofInt (64 : Nat) (0 : Int)) (BitVec.ofInt (64 : Nat) (0 : Int))
                      (BitVec.ofInt (64 : Nat) (0 : Int)) (BitVec.ofInt (64 : Nat) (0 : Int)))
                    (if (q.s (2 : Nat)).length ≤ (32 : Nat) then W4.ofBytes (q.s (2 : Nat)) else W4.zero)
                    (bytesOf (ByteArray.mk #[])) (0 : Int) (bytesOf (ByteArray.mk #[])) (bytesOf (ByteArray.mk #[]))
                    (BitVec.ofInt (64 : Nat) (0 : Int)) (BitVec.ofInt (64 : Nat) (0 : Int))
                    (W4.mk (BitVec.ofInt (64 : Nat) (0 : Int)) (BitVec.ofInt (64 : Nat) (0 : Int))
                      (BitVec.ofInt (64 : Nat) (0 : Int)) (BitVec.ofInt (64 : Nat) (0 : Int)))
                    (W4.mk (BitVec.ofInt (64 : Nat) (0 : Int)) (BitVec.ofInt (64 : Nat) (0 : Int))
                      (BitVec.ofInt (64 : Nat) (0 : Int)) (BitVec.ofInt (64 : Nat) (0 : Int)))
                    (W4.mk (BitVec.ofInt (64 : Nat) (0 : Int)) (BitVec.ofInt (64 : Nat) (0 : Int))
                      (BitVec.ofInt (64 : Nat) (0 : Int)) (BitVec.ofInt (64 : Nat) (0 : Int)))
                    (bytesOf (ByteArray.mk #[]))) ==
                s)
            (Tr.chk true
              (Tr.leaf
                (Fin.ret
                    (V.tup
                      [V.agg
                          [V.str (bytesOf (ByteArray.mk #[])), V.str (bytesOf (ByteArray.mk #[])),
                            V.u64 (BitVec.ofInt (64 : Nat) (0 : Int)), V.u64 (BitVec.ofInt (64 : Nat) (0 : Int)),
                            V.u64 (BitVec.ofInt (64 : Nat) (0 : Int)), V.u64 (BitVec.ofInt (64 : Nat) (0 : Int)),
                            V.u64 (BitVec.ofInt (64 : Nat) (0 : Int)), V.u64 (BitVec.ofInt (64 : Nat) (0 : Int)),
                            V.u64 (BitVec.ofInt (64 : Nat) (0 : Int)), V.u64 (BitVec.ofInt (64 : Nat) (0 : Int)),
                            V.u64 (BitVec.ofInt (64 : Nat) (0 : Int)), V.str (bytesOf (ByteArray.mk #[])),
                            V.int IntKind.i64 (0 : Int), V.str (bytesOf (ByteArray.mk #[])),
                            V.str (bytesOf (ByteArray.mk #[])), V.u64 (BitVec.ofInt (64 : Nat) (0 : Int)),
                            V.u64 (BitVec.ofInt (64 : Nat) (0 : Int)), V.u64 (BitVec.ofInt (64 : Nat) (0 : Int)),
                            V.u64 (BitVec.ofInt (64 : Nat) (0 : Int)), V.u64 (BitVec.ofInt (64 : Nat) (0 : Int)),
                            V.u64 (BitVec.ofInt (64 : Nat) (0 : Int)), V.u64 (BitVec.ofInt (64 : Nat) (0 : Int)),
                            V.u64 (BitVec.ofInt (64 : Nat) (0 : Int)), V.u64 (BitVec.ofInt (64 : Nat) (0 : Int)),
                            V.u64 (BitVec.ofInt (64 : Nat) (0 : Int)), V.u64 (BitVec.ofInt (64 : Nat) (0 : Int)),
                            V.u64 (BitVec.ofInt (64 : Nat) (0 : Int)), V.u64 (BitVec.ofInt (64 : Nat) (0 : Int)),
                            V.u64 (BitVec.ofInt (64 : Nat) (0 : Int)), V.str (bytesOf (ByteArray.mk #[])), V.nilSl],
                        V.bool false]),
                  [])))
            (Tr.chk true
              (Tr.leaf
                (Fin.ret
                    (V.tup
                      [V.agg
                          [V.str (q.s (0 : Nat)), V.str (q.s (1 : Nat)), V.u64 (BitVec.ofInt (64 : Nat) (0 : Int)),
                            V.u64 (BitVec.ofInt (64 : Nat) (0 : Int)), V.u64 (BitVec.ofInt (64 : Nat) (0 : Int)),
                            V.u64 (BitVec.ofInt (64 : Nat) (0 : Int)), V.u64 (BitVec.ofInt (64 : Nat) (0 : Int)),
                            V.u64
                              (if (q.s (2 : Nat)).length ≤ (32 : Nat) then W4.ofBytes (q.s (2 : Nat)) else W4.zero).a,
                            V.u64
                              (if (q.s (2 : Nat)).length ≤ (32 : Nat) then W4.ofBytes (q.s (2 : Nat)) else W4.zero).b,
                            V.u64
                              (if (q.s (2 : Nat)).length ≤ (32 : Nat) then W4.ofBytes (q.s (2 : Nat)) else W4.zero).c,
                            V.u64
                              (if (q.s (2 : Nat)).length ≤ (32 : Nat) then W4.ofBytes (q.s (2 : Nat)) else W4.zero).d,
                            V.str (bytesOf (ByteArray.mk #[])), V.int IntKind.i64 (0 : Int),
                            V.str (bytesOf (ByteArray.mk #[])), V.str (bytesOf (ByteArray.mk #[])),
                            V.u64 (BitVec.ofInt (64 : Nat) (0 : Int)), V.u64 (BitVec.ofInt (64 : Nat) (0 : Int)),
                            V.u64 (BitVec.ofInt (64 : Nat) (0 : Int)), V.u64 (BitVec.ofInt (64 : Nat) (0 : Int)),
                            V.u64 (BitVec.ofInt (64 : Nat) (0 : Int)), V.u64 (BitVec.ofInt (64 : Nat) (0 : Int)),
                            V.u64 (BitVec.ofInt (64 : Nat) (0 : Int)), V.u64 (BitVec.ofInt (64 : Nat) (0 : Int)),
                            V.u64 (BitVec.ofInt (64 : Nat) (0 : Int)), V.u64 (BitVec.ofInt (64 : Nat) (0 : Int)),
                            V.u64 (BitVec.ofInt (64 : Nat) (0 : Int)), V.u64 (BitVec.ofInt (64 : Nat) (0 : Int)),
                            V.u64 (BitVec.ofInt (64 : Nat) (0 : Int)), V.u64 (BitVec.ofInt (64 : Nat) (0 : Int)),
                            V.str (bytesOf (ByteArray.mk #[])), V.nilSl],
                        V.bool true]),
                  [])))))
        (Tr.chk true
          (Tr.leaf
            (Fin.ret
                (V.tup
                  [V.agg
                      [V.str (bytesOf (ByteArray.mk #[])), V.str (bytesOf (ByteArray.mk #[])),
                        V.u64 (BitVec.ofInt (64 : Nat) (0 : Int)), V.u64 (BitVec.ofInt (64 : Nat) (0 : Int)),
                        V.u64 (BitVec.ofInt (64 : Nat) (0 : Int)), V.u64 (BitVec.ofInt (64 : Nat) (0 : Int)),
                        V.u64 (BitVec.ofInt (64 : Nat) (0 : Int)), V.u64 (BitVec.ofInt (64 : Nat) (0 : Int)),
                        V.u64 (BitVec.ofInt (64 : Nat) (0 : Int)), V.u64 (BitVec.ofInt (64 : Nat) (0 : Int)),
                        V.u64 (BitVec.ofInt (64 : Nat) (0 : Int)), V.str (bytesOf (ByteArray.mk #[])),
                        V.int IntKind.i64 (0 : Int), V.str (bytesOf (ByteArray.mk #[])),
                        V.str (bytesOf (ByteArray.mk #[])), V.u64 (BitVec.ofInt (64 : Nat) (0 : Int)),
                        V.u64 (BitVec.ofInt (64 : Nat) (0 : Int)), V.u64 (BitVec.ofInt (64 : Nat) (0 : Int)),
                        V.u64 (BitVec.ofInt (64 : Nat) (0 : Int)), V.u64 (BitVec.ofInt (64 : Nat) (0 : Int)),
                        V.u64 (BitVec.ofInt (64 : Nat) (0 : Int)), V.u64 (BitVec.ofInt (64 : Nat) (0 : Int)),
                        V.u64 (BitVec.ofInt (64 : Nat) (0 : Int)), V.u64 (BitVec.ofInt (64 : Nat) (0 : Int)),
                        V.u64 (BitVec.ofInt (64 : Nat) (0 : Int)), V.u64 (BitVec.ofInt (64 : Nat) (0 : Int)),
                        V.u64 (BitVec.ofInt (64 : Nat) (0 : Int)), V.u64 (BitVec.ofInt (64 : Nat) (0 : Int)),
                        V.u64 (BitVec.ofInt (64 : Nat) (0 : Int)), V.str (bytesOf (ByteArray.mk #[])), V.nilSl],
                    V.bool false]),
              [])))))) := by kernel_rfl
theorem dc_an_x (s : List B) (q : RW) : Tr.prune ((Tr.Sh.any.both
                                  ((Tr.Sh.any.both Tr.Sh.any).r.r.r.both
                                      Tr.Sh.any.l.l.l.l).r).l.r.l.r.r.r.r.r.r.r.r.r.r.r.r.r)
  (execBF Pr (OD2 f_an (3 : Nat) q) noLoopsT (100 : Nat) Go.Proofs.Tryd.f9 [V.str s] []) =
  Tr.chk (dqB (3 : Nat) q s && true && true && (fkB f_an (q.s (0 : Nat)) && true && true && true))
  (Tr.br (!smallO (q.b (2 : Nat)) (q.s (2 : Nat)))
    (Tr.chk true
      (Tr.leaf
        (Fin.ret
            (V.tup
              [V.agg
                  [V.str (bytesOf (ByteArray.mk #[])), V.str (bytesOf (ByteArray.mk #[])),
                    V.u64 (BitVec.ofInt (64 : Nat) (0 : Int)), V.u64 (BitVec.ofInt (64 : Nat) (0 : Int)),
                    V.u64 (BitVec.ofInt (64 : Nat) (0 : Int)), V.u64 (BitVec.ofInt (64 : Nat) (0 : Int)),
                    V.u64 (BitVec.ofInt (64 : Nat) (0 : Int)), V.u64 (BitVec.ofInt (64 : Nat) (0 : Int)),
                    V.u64 (BitVec.ofInt (64 : Nat) (0 : Int)), V.u64 (BitVec.ofInt (64 : Nat) (0 : Int)),
                    V.u64 (BitVec.ofInt (64 : Nat) (0 : Int)), V.str (bytesOf (ByteArray.mk #[])),
                    V.int IntKind.i64 (0 : Int), V.str (bytesOf (ByteArray.mk #[])), V.str (bytesOf (ByteArray.mk #[])),
                    V.u64 (BitVec.ofInt (64 : Nat) (0 : Int)), V.u64 (BitVec.ofInt (64 : Nat) (0 : Int)),
                    V.u64 (BitVec.ofInt (64 : Nat) (0 : Int)), V.u64 (BitVec.ofInt (64 : Nat) (0 : Int)),
                    V.u64 (BitVec.ofInt (64 : Nat) (0 : Int)), V.u64 (BitVec.ofInt (64 : Nat) (0 : Int)),
                    V.u64 (BitVec.ofInt (64 : Nat) (0 : Int)), V.u64 (BitVec.ofInt (64 : Nat) (0 : Int)),
                    V.u64 (BitVec.ofInt (64 : Nat) (0 : Int)), V.u64 (BitVec.ofInt (64 : Nat) (0 : Int)),
                    V.u64 (BitVec.ofInt (64 : Nat) (0 : Int)), V.u64 (BitVec.ofInt (64 : Nat) (0 : Int)),
                    V.u64 (BitVec.ofInt (64 : Nat) (0 : Int)), V.u64 (BitVec.ofInt (64 : Nat) (0 : Int)),
                    V.str (bytesOf (ByteArray.mk #[])), V.nilSl],
                V.bool false]),
          [])))
    (Tr.chk
      (ecB f_an
        (CM.mk (q.s (0 : Nat)) (q.s (1 : Nat)) (smallN (q.b (2 : Nat)) (q.s (2 : Nat)))
          (W4.mk (BitVec.ofInt (64 : Nat) (0 : Int)) (BitVec.ofInt (64 : Nat) (0 : Int))
            (BitVec.ofInt (64 : Nat) (0 : Int)) (BitVec.ofInt (64 : Nat) (0 : Int)))
          (W4.mk (BitVec.ofInt (64 : Nat) (0 : Int)) (BitVec.ofInt (64 : Nat) (0 : Int))
            (BitVec.ofInt (64 : Nat) (0 : Int)) (BitVec.ofInt (64 : Nat) (0 : Int)))
          (bytesOf (ByteArray.mk #[])) (0 : Int) (bytesOf (ByteArray.mk #[])) (bytesOf (ByteArray.mk #[]))
          (BitVec.ofInt (64 : Nat) (0 : Int)) (BitVec.ofInt (64 : Nat) (0 : Int))
          (W4.mk (BitVec.ofInt (64 : Nat) (0 : Int)) (BitVec.ofInt (64 : Nat) (0 : Int))
            (BitVec.ofInt (64 : Nat) (0 : Int)) (BitVec.ofInt (64 : Nat) (0 : Int)))
          (W4.mk (BitVec.ofInt (64 : Nat) (0 : Int)) (BitVec.ofInt (64 : Nat) (0 : Int))
            (BitVec.ofInt (64 : Nat) (0 : Int)) (BitVec.ofInt (64 : Nat) (0 : Int)))
          (W4.mk (BitVec.ofInt (64 : Nat) (0 : Int)) (BitVec.ofInt (64 : Nat) (0 : Int))
            (BitVec.ofInt (64 : Nat) (0 : Int)) (BitVec.ofInt (64 : Nat) (0 : Int)))
          (bytesOf (ByteArray.mk #[]))))
      (Tr.br
        (eokO f_an
          (CM.mk (q.s (0 : Nat)) (q.s (1 : Nat)) (smallN (q.b (2 : Nat)) (q.s (2 : Nat)))
            (W4.mk (BitVec.ofInt (64 : Nat) (0 : Int)) (BitVec.ofInt (64 : Nat) (0 : Int))
              (BitVec.ofInt (64 : Nat) (0 : Int)) (BitVec.ofInt (64 : Nat) (0 : Int)))
            (W4.mk (BitVec.ofInt (64 : Nat) (0 : Int)) (BitVec.ofInt (64 : Nat) (0 : Int))
              (BitVec.ofInt (64 : Nat) (0 : Int)) (BitVec.ofInt (64 : Nat) (0 : Int)))
            (bytesOf (ByteArray.mk #[])) (0 : Int) (bytesOf (ByteArray.mk #[])) (bytesOf (ByteArray.mk #[]))
            (BitVec.ofInt (64 : Nat) (0 : Int)) (BitVec.ofInt (64 : Nat) (0 : Int))
            (W4.mk (BitVec.ofInt (64 : Nat) (0 : Int)) (BitVec.ofInt (64 : Nat) (0 : Int))
              (BitVec.ofInt (64 : Nat) (0 : Int)) (BitVec.ofInt (64 : Nat) (0 : Int)))
            (W4.mk (BitVec.ofInt (64 : Nat) (0 : Int)) (BitVec.ofInt (64 : Nat) (0 : Int))
              (BitVec.ofInt (64 : Nat) (0 : Int)) (BitVec.ofInt (64 : Nat) (0 : Int)))
            (W4.mk (BitVec.ofInt (64 : Nat) (0 : Int)) (BitVec.ofInt (64 : Nat) (0 : Int))
              (BitVec.ofInt (64 : Nat) (0 : Int)) (BitVec.ofInt (64 : Nat) (0 : Int)))
            (bytesOf (ByteArray.mk #[]))))
        (Tr.chk true
          (Tr.br
            (!eS f_an
                  (CM.mk (q.s (0 : Nat)) (q.s (1 : Nat)) (smallN (q.b (2 : Nat)) (q.s (2 : Nat)))
                    (W4.mk (BitVec.ofInt (64 : Nat) (0 : Int)) (BitVec.ofInt (64 : Nat) (0 : Int))
                      (BitVec.ofInt (64 : Nat) (0 : Int)) (BitVec.ofInt (64 : Nat) (0 : Int)))
                    (W4.mk (BitVec.ofInt (64 : Nat) (0 : Int)) (BitVec.ofInt (64 : Nat) (0 : Int))
                      (BitVec.ofInt (64 : Nat) (0 : Int)) (BitVec.ofInt (64 : Nat) (0 : Int)))
                    (bytesOf (ByteArray.mk #[])) (0 : Int) (bytesOf (ByteArray.mk #[])) (bytesOf (ByteArray.mk #[]))
                    (BitVec.ofInt (64 : Nat) (0 : Int)) (BitVec.ofInt (64 : Nat) (0 : Int))
                    (W4.mk (BitVec.ofInt (64 : Nat) (0 : Int)) (BitVec.ofInt (64 : Nat) (0 : Int))
                      (BitVec.ofInt (64 : Nat) (0 : Int)) (BitVec.ofInt (64 : Nat) (0 : Int)))
                    (W4.mk (BitVec.ofInt (64 : Nat) (0 : Int)) (BitVec.ofInt (64 : Nat) (0 : Int))
                      (BitVec.ofInt (64 : Nat) (0 : Int)) (BitVec.ofInt (64 : Nat) (0 : Int)))
                    (W4.mk (BitVec.ofInt (64 : Nat) (0 : Int)) (BitVec.ofInt (64 : Nat) (0 : Int))
                      (BitVec.ofInt (64 : Nat) (0 : Int)) (BitVec.ofInt (64 : Nat) (0 : Int)))
                    (bytesOf (ByteArray.mk #[]))) ==
                s)
            (Tr.chk true
              (Tr.leaf
                (Fin.ret
                    (V.tup
                      [V.agg
                          [V.str (bytesOf (ByteArray.mk #[])), V.str (bytesOf (ByteArray.mk #[])),
                            V.u64 (BitVec.ofInt (64 : Nat) (0 : Int)), V.u64 (BitVec.ofInt (64 : Nat) (0 : Int)),
                            V.u64 (BitVec.ofInt (64 : Nat) (0 : Int)), V.u64 (BitVec.ofInt (64 : Nat) (0 : Int)),
                            V.u64 (BitVec.ofInt (64 : Nat) (0 : Int)), V.u64 (BitVec.ofInt (64 : Nat) (0 : Int)),
                            V.u64 (BitVec.ofInt (64 : Nat) (0 : Int)), V.u64 (BitVec.ofInt (64 : Nat) (0 : Int)),
                            V.u64 (BitVec.ofInt (64 : Nat) (0 : Int)), V.str (bytesOf (ByteArray.mk #[])),
                            V.int IntKind.i64 (0 : Int), V.str (bytesOf (ByteArray.mk #[])),
                            V.str (bytesOf (ByteArray.mk #[])), V.u64 (BitVec.ofInt (64 : Nat) (0 : Int)),
                            V.u64 (BitVec.ofInt (64 : Nat) (0 : Int)), V.u64 (BitVec.ofInt (64 : Nat) (0 : Int)),
                            V.u64 (BitVec.ofInt (64 : Nat) (0 : Int)), V.u64 (BitVec.ofInt (64 : Nat) (0 : Int)),
                            V.u64 (BitVec.ofInt (64 : Nat) (0 : Int)), V.u64 (BitVec.ofInt (64 : Nat) (0 : Int)),
                            V.u64 (BitVec.ofInt (64 : Nat) (0 : Int)), V.u64 (BitVec.ofInt (64 : Nat) (0 : Int)),
                            V.u64 (BitVec.ofInt (64 : Nat) (0 : Int)), V.u64 (BitVec.ofInt (64 : Nat) (0 : Int)),
                            V.u64 (BitVec.ofInt (64 : Nat) (0 : Int)), V.u64 (BitVec.ofInt (64 : Nat) (0 : Int)),
                            V.u64 (BitVec.ofInt (64 : Nat) (0 : Int)), V.str (bytesOf (ByteArray.mk #[])), V.nilSl],
                        V.bool false]),
                  [])))
            (Tr.chk true
              (Tr.leaf
                (Fin.ret
                    (V.tup
                      [V.agg
                          [V.str (q.s (0 : Nat)), V.str (q.s (1 : Nat)), V.u64 (smallN (q.b (2 : Nat)) (q.s (2 : Nat))),
                            V.u64 (BitVec.ofInt (64 : Nat) (0 : Int)), V.u64 (BitVec.ofInt (64 : Nat) (0 : Int)),
                            V.u64 (BitVec.ofInt (64 : Nat) (0 : Int)), V.u64 (BitVec.ofInt (64 : Nat) (0 : Int)),
                            V.u64 (BitVec.ofInt (64 : Nat) (0 : Int)), V.u64 (BitVec.ofInt (64 : Nat) (0 : Int)),
                            V.u64 (BitVec.ofInt (64 : Nat) (0 : Int)), V.u64 (BitVec.ofInt (64 : Nat) (0 : Int)),
                            V.str (bytesOf (ByteArray.mk #[])), V.int IntKind.i64 (0 : Int),
                            V.str (bytesOf (ByteArray.mk #[])), V.str (bytesOf (ByteArray.mk #[])),
                            V.u64 (BitVec.ofInt (64 : Nat) (0 : Int)), V.u64 (BitVec.ofInt (64 : Nat) (0 : Int)),
                            V.u64 (BitVec.ofInt (64 : Nat) (0 : Int)), V.u64 (BitVec.ofInt (64 : Nat) (0 : Int)),
                            V.u64 (BitVec.ofInt (64 : Nat) (0 : Int)), V.u64 (BitVec.ofInt (64 : Nat) (0 : Int)),
                            V.u64 (BitVec.ofInt (64 : Nat) (0 : Int)), V.u64 (BitVec.ofInt (64 : Nat) (0 : Int)),
                            V.u64 (BitVec.ofInt (64 : Nat) (0 : Int)), V.u64 (BitVec.ofInt (64 : Nat) (0 : Int)),
                            V.u64 (BitVec.ofInt (64 : Nat) (0 : Int)), V.u64 (BitVec.ofInt (64 : Nat) (0 : Int)),
                            V.u64 (BitVec.ofInt (64 : Nat) (0 : Int)), V.u64 (BitVec.ofInt (64 : Nat) (0 : Int)),
                            V.str (bytesOf (ByteArray.mk #[])), V.nilSl],
                        V.bool true]),
                  [])))))
        (Tr.chk true
          (Tr.leaf
            (Fin.ret
                (V.tup
                  [V.agg
                      [V.str (bytesOf (ByteArray.mk #[])), V.str (bytesOf (ByteArray.mk #[])),
                        V.u64 (BitVec.ofInt (64 : Nat) (0 : Int)), V.u64 (BitVec.ofInt (64 : Nat) (0 : Int)),
                        V.u64 (BitVec.ofInt (64 : Nat) (0 : Int)), V.u64 (BitVec.ofInt (64 : Nat) (0 : Int)),
                        V.u64 (BitVec.ofInt (64 : Nat) (0 : Int)), V.u64 (BitVec.ofInt (64 : Nat) (0 : Int)),
                        V.u64 (BitVec.ofInt (64 : Nat) (0 : Int)), V.u64 (BitVec.ofInt (64 : Nat) (0 : Int)),
                        V.u64 (BitVec.ofInt (64 : Nat) (0 : Int)), V.str (bytesOf (ByteArray.mk #[])),
                        V.int IntKind.i64 (0 : Int), V.str (bytesOf (ByteArray.mk #[])),
                        V.str (bytesOf (ByteArray.mk #[])), V.u64 (BitVec.ofInt (64 : Nat) (0 : Int)),
                        V.u64 (BitVec.ofInt (64 : Nat) (0 : Int)), V.u64 (BitVec.ofInt (64 : Nat) (0 : Int)),
                        V.u64 (BitVec.ofInt (64 : Nat) (0 : Int)), V.u64 (BitVec.ofInt (64 : Nat) (0 : Int)),
                        V.u64 (BitVec.ofInt (64 : Nat) (0 : Int)), V.u64 (BitVec.ofInt (64 : Nat) (0 : Int)),
                        V.u64 (BitVec.ofInt (64 : Nat) (0 : Int)), V.u64 (BitVec.ofInt (64 : Nat) (0 : Int)),
                        V.u64 (BitVec.ofInt (64 : Nat) (0 : Int)), V.u64 (BitVec.ofInt (64 : Nat) (0 : Int)),
                        V.u64 (BitVec.ofInt (64 : Nat) (0 : Int)), V.u64 (BitVec.ofInt (64 : Nat) (0 : Int)),
                        V.u64 (BitVec.ofInt (64 : Nat) (0 : Int)), V.str (bytesOf (ByteArray.mk #[])), V.nilSl],
                    V.bool false]),
              [])))))) := by kernel_rfl
theorem dc_as_x (s : List B) (q : RW) : Tr.prune (((Tr.Sh.any.both Tr.Sh.any).r.r.r.both
                                      Tr.Sh.any.l.l.l.l).r.r.l.r.l.r.r.r.r.r.r.r.r.r.r.r.r.r)
  (execBF Pr (OD2 f_as (3 : Nat) q) noLoopsT (100 : Nat) Go.Proofs.Tryd.f9 [V.str s] []) =
  Tr.chk
  (dqB (3 : Nat) q s && true && true &&
    (fkB f_as (q.s (0 : Nat)) && true && true &&
      ecB f_as
        (CM.mk (q.s (0 : Nat)) (q.s (1 : Nat)) (BitVec.ofInt (64 : Nat) (0 : Int))
          (W4.mk (BitVec.ofInt (64 : Nat) (0 : Int)) (BitVec.ofInt (64 : Nat) (0 : Int))
            (BitVec.ofInt (64 : Nat) (0 : Int)) (BitVec.ofInt (64 : Nat) (0 : Int)))
          (W4.mk (BitVec.ofInt (64 : Nat) (0 : Int)) (BitVec.ofInt (64 : Nat) (0 : Int))
            (BitVec.ofInt (64 : Nat) (0 : Int)) (BitVec.ofInt (64 : Nat) (0 : Int)))
          (q.s (2 : Nat)) (0 : Int) (bytesOf (ByteArray.mk #[])) (bytesOf (ByteArray.mk #[]))
          (BitVec.ofInt (64 : Nat) (0 : Int)) (BitVec.ofInt (64 : Nat) (0 : Int))
          (W4.mk (BitVec.ofInt (64 : Nat) (0 : Int)) (BitVec.ofInt (64 : Nat) (0 : Int))
            (BitVec.ofInt (64 : Nat) (0 : Int)) (BitVec.ofInt (64 : Nat) (0 : Int)))
          (W4.mk (BitVec.ofInt (64 : Nat) (0 : Int)) (BitVec.ofInt (64 : Nat) (0 : Int))
            (BitVec.ofInt (64 : Nat) (0 : Int)) (BitVec.ofInt (64 : Nat) (0 : Int)))
          (W4.mk (BitVec.ofInt (64 : Nat) (0 : Int)) (BitVec.ofInt (64 : Nat) (0 : Int))
            (BitVec.ofInt (64 : Nat) (0 : Int)) (BitVec.ofInt (64 : Nat) (0 : Int)))
          (bytesOf (ByteArray.mk #[])))))
  (Tr.br
    (eokO f_as
      (CM.mk (q.s (0 : Nat)) (q.s (1 : Nat)) (BitVec.ofInt (64 : Nat) (0 : Int))
        (W4.mk (BitVec.ofInt (64 : Nat) (0 : Int)) (BitVec.ofInt (64 : Nat) (0 : Int))
          (BitVec.ofInt (64 : Nat) (0 : Int)) (BitVec.ofInt (64 : Nat) (0 : Int)))
        (W4.mk (BitVec.ofInt (64 : Nat) (0 : Int)) (BitVec.ofInt (64 : Nat) (0 : Int))
          (BitVec.ofInt (64 : Nat) (0 : Int)) (BitVec.ofInt (64 : Nat) (0 : Int)))
        (q.s (2 : Nat)) (0 : Int) (bytesOf (ByteArray.mk #[])) (bytesOf (ByteArray.mk #[]))
        (BitVec.ofInt (64 : Nat) (0 : Int)) (BitVec.ofInt (64 : Nat) (0 : Int))
        (W4.mk (BitVec.ofInt (64 : Nat) (0 : Int)) (BitVec.ofInt (64 : Nat) (0 : Int))
          (BitVec.ofInt (64 : Nat) (0 : Int)) (BitVec.ofInt (64 : Nat) (0 : Int)))
        (W4.mk (BitVec.ofInt (64 : Nat) (0 : Int)) (BitVec.ofInt (64 : Nat) (0 : Int))
          (BitVec.ofInt (64 : Nat) (0 : Int)) (BitVec.ofInt (64 : Nat) (0 : Int)))
        (W4.mk (BitVec.ofInt (64 : Nat) (0 : Int)) (BitVec.ofInt (64 : Nat) (0 : Int))
          (BitVec.ofInt (64 : Nat) (0 : Int)) (BitVec.ofInt (64 : Nat) (0 : Int)))
        (bytesOf (ByteArray.mk #[]))))
    (Tr.chk true
      (Tr.br
        (!eS f_as
              (CM.mk (q.s (0 : Nat)) (q.s (1 : Nat)) (BitVec.ofInt (64 : Nat) (0 : Int))
                (W4.mk (BitVec.ofInt (64 : Nat) (0 : Int)) (BitVec.ofInt (64 : Nat) (0 : Int))
                  (BitVec.ofInt (64 : Nat) (0 : Int)) (BitVec.ofInt (64 : Nat) (0 : Int)))
                (W4.mk (BitVec.ofInt (64 : Nat) (0 : Int)) (BitVec.ofInt (64 : Nat) (0 : Int))
                  (BitVec.ofInt (64 : Nat) (0 : Int)) (BitVec.ofInt (64 : Nat) (0 : Int)))
                (q.s (2 : Nat)) (0 : Int) (bytesOf (ByteArray.mk #[])) (bytesOf (ByteArray.mk #[]))
                (BitVec.ofInt (64 : Nat) (0 : Int)) (BitVec.ofInt (64 : Nat) (0 : Int))
                (W4.mk (BitVec.ofInt (64 : Nat) (0 : Int)) (BitVec.ofInt (64 : Nat) (0 : Int))
                  (BitVec.ofInt (64 : Nat) (0 : Int)) (BitVec.ofInt (64 : Nat) (0 : Int)))
                (W4.mk (BitVec.ofInt (64 : Nat) (0 : Int)) (BitVec.ofInt (64 : Nat) (0 : Int))
                  (BitVec.ofInt (64 : Nat) (0 : Int)) (BitVec.ofInt (64 : Nat) (0 : Int)))
                (W4.mk (BitVec.ofInt (64 : Nat) (0 : Int)) (BitVec.ofInt (64 : Nat) (0 : Int))
                  (BitVec.ofInt (64 : Nat) (0 : Int)) (BitVec.ofInt (64 : Nat) (0 : Int)))
                (bytesOf (ByteArray.mk #[]))) ==
            s)
        (Tr.chk true
          (Tr.leaf
            (Fin.ret
                (V.tup
                  [V.agg
                      [V.str (bytesOf (ByteArray.mk #[])), V.str (bytesOf (ByteArray.mk #[])),
                        V.u64 (BitVec.ofInt (64 : Nat) (0 : Int)), V.u64 (BitVec.ofInt (64 : Nat) (0 : Int)),
                        V.u64 (BitVec.ofInt (64 : Nat) (0 : Int)), V.u64 (BitVec.ofInt (64 : Nat) (0 : Int)),
                        V.u64 (BitVec.ofInt (64 : Nat) (0 : Int)), V.u64 (BitVec.ofInt (64 : Nat) (0 : Int)),
                        V.u64 (BitVec.ofInt (64 : Nat) (0 : Int)), V.u64 (BitVec.ofInt (64 : Nat) (0 : Int)),
                        V.u64 (BitVec.ofInt (64 : Nat) (0 : Int)), V.str (bytesOf (ByteArray.mk #[])),
                        V.int IntKind.i64 (0 : Int), V.str (bytesOf (ByteArray.mk #[])),
                        V.str (bytesOf (ByteArray.mk #[])), V.u64 (BitVec.ofInt (64 : Nat) (0 : Int)),
                        V.u64 (BitVec.ofInt (64 : Nat) (0 : Int)), V.u64 (BitVec.ofInt (64 : Nat) (0 : Int)),
                        V.u64 (BitVec.ofInt (64 : Nat) (0 : Int)), V.u64 (BitVec.ofInt (64 : Nat) (0 : Int)),
                        V.u64 (BitVec.ofInt (64 : Nat) (0 : Int)), V.u64 (BitVec.ofInt (64 : Nat) (0 : Int)),
                        V.u64 (BitVec.ofInt (64 : Nat) (0 : Int)), V.u64 (BitVec.ofInt (64 : Nat) (0 : Int)),
                        V.u64 (BitVec.ofInt (64 : Nat) (0 : Int)), V.u64 (BitVec.ofInt (64 : Nat) (0 : Int)),
                        V.u64 (BitVec.ofInt (64 : Nat) (0 : Int)), V.u64 (BitVec.ofInt (64 : Nat) (0 : Int)),
                        V.u64 (BitVec.ofInt (64 : Nat) (0 : Int)), V.str (bytesOf (ByteArray.mk #[])), V.nilSl],
                    V.bool false]),
              [])))
        (Tr.chk true
          (Tr.leaf
            (Fin.ret
                (V.tup
                  [V.agg
                      [V.str (q.s (0 : Nat)), V.str (q.s (1 : Nat)), V.u64 (BitVec.ofInt (64 : Nat) (0 : Int)),
                        V.u64 (BitVec.ofInt (64 : Nat) (0 : Int)), V.u64 (BitVec.ofInt (64 : Nat) (0 : Int)),
                        V.u64 (BitVec.ofInt (64 : Nat) (0 : Int)), V.u64 (BitVec.ofInt (64 : Nat) (0 : Int)),
                        V.u64 (BitVec.ofInt (64 : Nat) (0 : Int)), V.u64 (BitVec.ofInt (64 : Nat) (0 : Int)),
                        V.u64 (BitVec.ofInt (64 : Nat) (0 : Int)), V.u64 (BitVec.ofInt (64 : Nat) (0 : Int)),
                        V.str (q.s (2 : Nat)), V.int IntKind.i64 (0 : Int), V.str (bytesOf (ByteArray.mk #[])),
                        V.str (bytesOf (ByteArray.mk #[])), V.u64 (BitVec.ofInt (64 : Nat) (0 : Int)),
                        V.u64 (BitVec.ofInt (64 : Nat) (0 : Int)), V.u64 (BitVec.ofInt (64 : Nat) (0 : Int)),
                        V.u64 (BitVec.ofInt (64 : Nat) (0 : Int)), V.u64 (BitVec.ofInt (64 : Nat) (0 : Int)),
                        V.u64 (BitVec.ofInt (64 : Nat) (0 : Int)), V.u64 (BitVec.ofInt (64 : Nat) (0 : Int)),
                        V.u64 (BitVec.ofInt (64 : Nat) (0 : Int)), V.u64 (BitVec.ofInt (64 : Nat) (0 : Int)),
                        V.u64 (BitVec.ofInt (64 : Nat) (0 : Int)), V.u64 (BitVec.ofInt (64 : Nat) (0 : Int)),
                        V.u64 (BitVec.ofInt (64 : Nat) (0 : Int)), V.u64 (BitVec.ofInt (64 : Nat) (0 : Int)),
                        V.u64 (BitVec.ofInt (64 : Nat) (0 : Int)), V.str (bytesOf (ByteArray.mk #[])), V.nilSl],
                    V.bool true]),
              [])))))
    (Tr.chk true
      (Tr.leaf
        (Fin.ret
            (V.tup
              [V.agg
                  [V.str (bytesOf (ByteArray.mk #[])), V.str (bytesOf (ByteArray.mk #[])),
                    V.u64 (BitVec.ofInt (64 : Nat) (0 : Int)), V.u64 (BitVec.ofInt (64 : Nat) (0 : Int)),
                    V.u64 (BitVec.ofInt (64 : Nat) (0 : Int)), V.u64 (BitVec.ofInt (64 : Nat) (0 : Int)),
                    V.u64 (BitVec.ofInt (64 : Nat) (0 : Int)), V.u64 (BitVec.ofInt (64 : Nat) (0 : Int)),
                    V.u64 (BitVec.ofInt (64 : Nat) (0 : Int)), V.u64 (BitVec.ofInt (64 : Nat) (0 : Int)),
                    V.u64 (BitVec.ofInt (64 : Nat) (0 : Int)), V.str (bytesOf (ByteArray.mk #[])),
                    V.int IntKind.i64 (0 : Int), V.str (bytesOf (ByteArray.mk #[])), V.str (bytesOf (ByteArray.mk #[])),
                    V.u64 (BitVec.ofInt (64 : Nat) (0 : Int)), V.u64 (BitVec.ofInt (64 : Nat) (0 : Int)),
                    V.u64 (BitVec.ofInt (64 : Nat) (0 : Int)), V.u64 (BitVec.ofInt (64 : Nat) (0 : Int)),
                    V.u64 (BitVec.ofInt (64 : Nat) (0 : Int)), V.u64 (BitVec.ofInt (64 : Nat) (0 : Int)),
                    V.u64 (BitVec.ofInt (64 : Nat) (0 : Int)), V.u64 (BitVec.ofInt (64 : Nat) (0 : Int)),
                    V.u64 (BitVec.ofInt (64 : Nat) (0 : Int)), V.u64 (BitVec.ofInt (64 : Nat) (0 : Int)),
                    V.u64 (BitVec.ofInt (64 : Nat) (0 : Int)), V.u64 (BitVec.ofInt (64 : Nat) (0 : Int)),
                    V.u64 (BitVec.ofInt (64 : Nat) (0 : Int)), V.u64 (BitVec.ofInt (64 : Nat) (0 : Int)),
                    V.str (bytesOf (ByteArray.mk #[])), V.nilSl],
                V.bool false]),
          [])))) := by kernel_rfl
theorem dc_akv_x (s : List B) (q : RW) : Tr.prune ((Tr.Sh.any.both
                                  (Tr.Sh.any.both
                                      ((Tr.Sh.any.both Tr.Sh.any).r.r.r.both
                                          Tr.Sh.any.l.l.l.l).r).l).l.r.l.r.r.r.r.r.r.r.r.r.r.r.r.r)
  (execBF Pr (OD2 f_akv (4 : Nat) q) noLoopsT (100 : Nat) Go.Proofs.Tryd.f9 [V.str s] []) =
  Tr.chk (dqB (4 : Nat) q s && true && true && (fkB f_akv (q.s (0 : Nat)) && true && true && true))
  (Tr.br (!decide ((q.s (2 : Nat)).length ≤ (32 : Nat)))
    (Tr.chk true
      (Tr.leaf
        (Fin.ret
            (V.tup
              [V.agg
                  [V.str (bytesOf (ByteArray.mk #[])), V.str (bytesOf (ByteArray.mk #[])),
                    V.u64 (BitVec.ofInt (64 : Nat) (0 : Int)), V.u64 (BitVec.ofInt (64 : Nat) (0 : Int)),
                    V.u64 (BitVec.ofInt (64 : Nat) (0 : Int)), V.u64 (BitVec.ofInt (64 : Nat) (0 : Int)),
                    V.u64 (BitVec.ofInt (64 : Nat) (0 : Int)), V.u64 (BitVec.ofInt (64 : Nat) (0 : Int)),
                    V.u64 (BitVec.ofInt (64 : Nat) (0 : Int)), V.u64 (BitVec.ofInt (64 : Nat) (0 : Int)),
                    V.u64 (BitVec.ofInt (64 : Nat) (0 : Int)), V.str (bytesOf (ByteArray.mk #[])),
                    V.int IntKind.i64 (0 : Int), V.str (bytesOf (ByteArray.mk #[])), V.str (bytesOf (ByteArray.mk #[])),
                    V.u64 (BitVec.ofInt (64 : Nat) (0 : Int)), V.u64 (BitVec.ofInt (64 : Nat) (0 : Int)),
                    V.u64 (BitVec.ofInt (64 : Nat) (0 : Int)), V.u64 (BitVec.ofInt (64 : Nat) (0 : Int)),
                    V.u64 (BitVec.ofInt (64 : Nat) (0 : Int)), V.u64 (BitVec.ofInt (64 : Nat) (0 : Int)),
                    V.u64 (BitVec.ofInt (64 : Nat) (0 : Int)), V.u64 (BitVec.ofInt (64 : Nat) (0 : Int)),
                    V.u64 (BitVec.ofInt (64 : Nat) (0 : Int)), V.u64 (BitVec.ofInt (64 : Nat) (0 : Int)),
                    V.u64 (BitVec.ofInt (64 : Nat) (0 : Int)), V.u64 (BitVec.ofInt (64 : Nat) (0 : Int)),
                    V.u64 (BitVec.ofInt (64 : Nat) (0 : Int)), V.u64 (BitVec.ofInt (64 : Nat) (0 : Int)),
                    V.str (bytesOf (ByteArray.mk #[])), V.nilSl],
                V.bool false]),
          [])))
    (Tr.chk true
      (Tr.br (!decide ((q.s (3 : Nat)).length ≤ (32 : Nat)))
        (Tr.chk true
          (Tr.leaf
            (Fin.ret
                (V.tup
                  [V.agg
                      [V.str (bytesOf (ByteArray.mk #[])), V.str (bytesOf (ByteArray.mk #[])),
                        V.u64 (BitVec.ofInt (64 : Nat) (0 : Int)), V.u64 (BitVec.ofInt (64 : Nat) (0 : Int)),
                        V.u64 (BitVec.ofInt (64 : Nat) (0 : Int)), V.u64 (BitVec.ofInt (64 : Nat) (0 : Int)),
                        V.u64 (BitVec.ofInt (64 : Nat) (0 : Int)), V.u64 (BitVec.ofInt (64 : Nat) (0 : Int)),
                        V.u64 (BitVec.ofInt (64 : Nat) (0 : Int)), V.u64 (BitVec.ofInt (64 : Nat) (0 : Int)),
                        V.u64 (BitVec.ofInt (64 : Nat) (0 : Int)), V.str (bytesOf (ByteArray.mk #[])),
                        V.int IntKind.i64 (0 : Int), V.str (bytesOf (ByteArray.mk #[])),
                        V.str (bytesOf (ByteArray.mk #[])), V.u64 (BitVec.ofInt (64 : Nat) (0 : Int)),
                        V.u64 (BitVec.ofInt (64 : Nat) (0 : Int)), V.u64 (BitVec.ofInt (64 : Nat) (0 : Int)),
                        V.u64 (BitVec.ofInt (64 : Nat) (0 : Int)), V.u64 (BitVec.ofInt (64 : Nat) (0 : Int)),
                        V.u64 (BitVec.ofInt (64 : Nat) (0 : Int)), V.u64 (BitVec.ofInt (64 : Nat) (0 : Int)),
                        V.u64 (BitVec.ofInt (64 : Nat) (0 : Int)), V.u64 (BitVec.ofInt (64 : Nat) (0 : Int)),
                        V.u64 (BitVec.ofInt (64 : Nat) (0 : Int)), V.u64 (BitVec.ofInt (64 : Nat) (0 : Int)),
                        V.u64 (BitVec.ofInt (64 : Nat) (0 : Int)), V.u64 (BitVec.ofInt (64 : Nat) (0 : Int)),
                        V.u64 (BitVec.ofInt (64 : Nat) (0 : Int)), V.str (bytesOf (ByteArray.mk #[])), V.nilSl],
                    V.bool false]),
              [])))
        (Tr.chk
          (ecB f_akv
            (CM.mk (q.s (0 : Nat)) (q.s (1 : Nat)) (BitVec.ofInt (64 : Nat) (0 : Int))
              (if (q.s (2 : Nat)).length ≤ (32 : Nat) then W4.ofBytes (q.s (2 : Nat)) else W4.zero)
              (if (q.s (3 : Nat)).length ≤ (32 : Nat) then W4.ofBytes (q.s (3 : Nat)) else W4.zero)
              (bytesOf (ByteArray.mk #[])) (0 : Int) (bytesOf (ByteArray.mk #[])) (bytesOf (ByteArray.mk #[]))
              (BitVec.ofInt (64 : Nat) (0 : Int)) (BitVec.ofInt (64 : Nat) (0 : Int))
              (W4.mk (BitVec.ofInt (64 : Nat) (0 : Int)) (BitVec.ofInt (64 : Nat) (0 : Int))
                (BitVec.ofInt (64 : Nat) (0 : Int)) (BitVec.ofInt (64 : Nat) (0 : Int)))
              (W4.mk (BitVec.ofInt (64 : Nat) (0 : Int)) (BitVec.ofInt (64 : Nat) (0 : Int))
                (BitVec.ofInt (64 : Nat) (0 : Int)) (BitVec.ofInt (64 : Nat) (0 : Int)))
              (W4.mk (BitVec.ofInt (64 : Nat) (0 : Int)) (BitVec.ofInt (64 : Nat) (0 : Int))
                (BitVec.ofInt (64 : Nat) (0 : Int)) (BitVec.ofInt (64 : Nat) (0 : Int)))
              (bytesOf (ByteArray.mk #[]))))
          (Tr.br
            (eokO f_akv
              (CM.mk (q.s (0 : Nat)) (q.s (1 : Nat)) (BitVec.ofInt (64 : Nat) (0 : Int))
                (if (q.s (2 : Nat)).length ≤ (32 : Nat) then W4.ofBytes (q.s (2 : Nat)) else W4.zero)
                (if (q.s (3 : Nat)).length ≤ (32 : Nat) then W4.ofBytes (q.s (3 : Nat)) else W4.zero)
                (bytesOf (ByteArray.mk #[])) (0 : Int) (bytesOf (ByteArray.mk #[])) (bytesOf (ByteArray.mk #[]))
                (BitVec.ofInt (64 : Nat) (0 : Int)) (BitVec.ofInt (64 : Nat) (0 : Int))
                (W4.mk (BitVec.ofInt (64 : Nat) (0 : Int)) (BitVec.ofInt (64 : Nat) (0 : Int))
                  (BitVec.ofInt (64 : Nat) (0 : Int)) (BitVec.ofInt (64 : Nat) (0 : Int)))
                (W4.mk (BitVec.ofInt (64 : Nat) (0 : Int)) (BitVec.ofInt (64 : Nat) (0 : Int))
                  (BitVec.ofInt (64 : Nat) (0 : Int)) (BitVec.ofInt (64 : Nat) (0 : Int)))
                (W4.mk (BitVec.ofInt (64 : Nat) (0 : Int)) (BitVec.ofInt (64 : Nat) (0 : Int))
                  (BitVec.ofInt (64 : Nat) (0 : Int)) (BitVec.ofInt (64 : Nat) (0 : Int)))
                (bytesOf (ByteArray.mk #[]))))
            (Tr.chk true
              (Tr.br
                (!eS f_akv
                      (CM.mk (q.s (0 : Nat)) (q.s (1 : Nat)) (BitVec.ofInt (64 : Nat) (0 : Int))
                        (if (q.s (2 : Nat)).length ≤ (32 : Nat) then W4.ofBytes (q.s (2 : Nat)) else W4.zero)
                        (if (q.s (3 : Nat)).length ≤ (32 : Nat) then W4.ofBytes (q.s (3 : Nat)) else W4.zero)
                        (bytesOf (ByteArray.mk #[])) (0 : Int) (bytesOf (ByteArray.mk #[])) (bytesOf (ByteArray.mk #[]))
                        (BitVec.ofInt (64 : Nat) (0 : Int)) (BitVec.ofInt (64 : Nat) (0 : Int))
                        (W4.mk (BitVec.ofInt (64 : Nat) (0 : Int)) (BitVec.ofInt (64 : Nat) (0 : Int))
                          (BitVec.ofInt (64 : Nat) (0 : Int)) (BitVec.ofInt (64 : Nat) (0 : Int)))
                        (W4.mk (BitVec.ofInt (64 : Nat) (0 : Int)) (BitVec.ofInt (64 : Nat) (0 : Int))
                          (BitVec.ofInt (64 : Nat) (0 : Int)) (BitVec.ofInt (64 : Nat) (0 : Int)))
                        (W4.mk (BitVec.ofInt (64 : Nat) (0 : Int)) (BitVec.ofInt (64 : Nat) (0 : Int))
                          (BitVec.ofInt (64 : Nat) (0 : Int)) (BitVec.ofInt (64 : Nat) (0 : Int)))
                        (bytesOf (ByteArray.mk #[]))) ==
                    s)
                (Tr.chk true
                  (Tr.leaf
                    (Fin.ret
                        (V.tup
                          [V.agg
                              [V.str (bytesOf (ByteArray.mk #[])), V.str (bytesOf (ByteArray.mk #[])),
                                V.u64 (BitVec.ofInt (64 : Nat) (0 : Int)), V.u64 (BitVec.ofInt (64 : Nat) (0 : Int)),
                                V.u64 (BitVec.ofInt (64 : Nat) (0 : Int)), V.u64 (BitVec.ofInt (64 : Nat) (0 : Int)),
                                V.u64 (BitVec.ofInt (64 : Nat) (0 : Int)), V.u64 (BitVec.ofInt (64 : Nat) (0 : Int)),
                                V.u64 (BitVec.ofInt (64 : Nat) (0 : Int)), V.u64 (BitVec.ofInt (64 : Nat) (0 : Int)),
                                V.u64 (BitVec.ofInt (64 : Nat) (0 : Int)), V.str (bytesOf (ByteArray.mk #[])),
                                V.int IntKind.i64 (0 : Int), V.str (bytesOf (ByteArray.mk #[])),
                                V.str (bytesOf (ByteArray.mk #[])), V.u64 (BitVec.ofInt (64 : Nat) (0 : Int)),
                                V.u64 (BitVec.ofInt (64 : Nat) (0 : Int)), V.u64 (BitVec.ofInt (64 : Nat) (0 : Int)),
                                V.u64 (BitVec.ofInt (64 : Nat) (0 : Int)), V.u64 (BitVec.ofInt (64 : Nat) (0 : Int)),
                                V.u64 (BitVec.ofInt (64 : Nat) (0 : Int)), V.u64 (BitVec.ofInt (64 : Nat) (0 : Int)),
                                V.u64 (BitVec.ofInt (64 : Nat) (0 : Int)), V.u64 (BitVec.ofInt (64 : Nat) (0 : Int)),
                                V.u64 (BitVec.ofInt (64 : Nat) (0 : Int)), V.u64 (BitVec.ofInt (64 : Nat) (0 : Int)),
                                V.u64 (BitVec.ofInt (64 : Nat) (0 : Int)), V.u64 (BitVec.ofInt (64 : Nat) (0 : Int)),
                                V.u64 (BitVec.ofInt (64 : Nat) (0 : Int)), V.str (bytesOf (ByteArray.mk #[])), V.nilSl],
                            V.bool false]),
                      [])))
                (Tr.chk true
                  (Tr.leaf
                    (Fin.ret
                        (V.tup
                          [V.agg
                              [V.str (q.s (0 : Nat)), V.str (q.s (1 : Nat)), V.u64 (BitVec.ofInt (64 : Nat) (0 : Int)),
                                V.u64
                                  (if (q.s (2 : Nat)).length ≤ (32 : Nat) then W4.ofBytes (q.s (2 : Nat))
                                    else W4.zero).a,
                                V.u64
                                  (if (q.s (2 : Nat)).length ≤ (32 : Nat) then W4.ofBytes (q.s (2 : Nat))
                                    else W4.zero).b,
                                V.u64
                                  (if (q.s (2 : Nat)).length ≤ (32 : Nat) then W4.ofBytes (q.s (2 : Nat))
                                    else W4.zero).c,
                                V.u64
                                  (if (q.s (2 : Nat)).length ≤ (32 : Nat) then W4.ofBytes (q.s (2 : Nat))
                                    else W4.zero).d,
                                V.u64
                                  (if (q.s (3 : Nat)).length ≤ (32 : Nat) then W4.ofBytes (q.s (3 : Nat))
                                    else W4.zero).a,
                                V.u64
                                  (if (q.s (3 : Nat)).length ≤ (32 : Nat) then W4.ofBytes (q.s (3 : Nat))
                                    else W4.zero).b,
                                V.u64
                                  (if (q.s (3 : Nat)).length ≤ (32 : Nat) then W4.ofBytes (q.s (3 : Nat))
                                    else W4.zero).c,
                                V.u64
                                  (if (q.s (3 : Nat)).length ≤ (32 : Nat) then W4.ofBytes (q.s (3 : Nat))
                                    else W4.zero).d,
                                V.str (bytesOf (ByteArray.mk #[])), V.int IntKind.i64 (0 : Int),
                                V.str (bytesOf (ByteArray.mk #[])), V.str (bytesOf (ByteArray.mk #[])),
                                V.u64 (BitVec.ofInt (64 : Nat) (0 : Int)), V.u64 (BitVec.ofInt (64 : Nat) (0 : Int)),
                                V.u64 (BitVec.ofInt (64 : Nat) (0 : Int)), V.u64 (BitVec.ofInt (64 : Nat) (0 : Int)),
                                V.u64 (BitVec.ofInt (64 : Nat) (0 : Int)), V.u64 (BitVec.ofInt (64 : Nat) (0 : Int)),
                                V.u64 (BitVec.ofInt (64 : Nat) (0 : Int)), V.u64 (BitVec.ofInt (64 : Nat) (0 : Int)),
                                V.u64 (BitVec.ofInt (64 : Nat) (0 : Int)), V.u64 (BitVec.ofInt (64 : Nat) (0 : Int)),
                                V.u64 (BitVec.ofInt (64 : Nat) (0 : Int)), V.u64 (BitVec.ofInt (64 : Nat) (0 : Int)),
                                V.u64 (BitVec.ofInt (64 : Nat) (0 : Int)), V.u64 (BitVec.ofInt (64 : Nat) (0 : Int)),
                                V.str (bytesOf (ByteArray.mk #[])), V.nilSl],
                            V.bool true]),
                      [])))))
            (Tr.chk true
              (Tr.leaf
                (Fin.ret
                    (V.tup
                      [V.agg
                          [V.str (bytesOf (ByteArray.mk #[])), V.str (bytesOf (ByteArray.mk #[])),
                            V.u64 (BitVec.ofInt (64 : Nat) (0 : Int)), V.u64 (BitVec.ofInt (64 : Nat) (0 : Int)),
                            V.u64 (BitVec.ofInt (64 : Nat) (0 : Int)), V.u64 (BitVec.ofInt (64 : Nat) (0 : Int)),
                            V.u64 (BitVec.ofInt (64 : Nat) (0 : Int)), V.u64 (BitVec.ofInt (64 : Nat) (0 : Int)),
                            V.u64 (BitVec.ofInt (64 : Nat) (0 : Int)), V.u64 (BitVec.ofInt (64 : Nat) (0 : Int)),
                            V.u64 (BitVec.ofInt (64 : Nat) (0 : Int)), V.str (bytesOf (ByteArray.mk #[])),
                            V.int IntKind.i64 (0 : Int), V.str (bytesOf (ByteArray.mk #[])),
                            V.str (bytesOf (ByteArray.mk #[])), V.u64 (BitVec.ofInt (64 : Nat) (0 : Int)),
                            V.u64 (BitVec.ofInt (64 : Nat) (0 : Int)), V.u64 (BitVec.ofInt (64 : Nat) (0 : Int)),
                            V.u64 (BitVec.ofInt (64 : Nat) (0 : Int)), V.u64 (BitVec.ofInt (64 : Nat) (0 : Int)),
                            V.u64 (BitVec.ofInt (64 : Nat) (0 : Int)), V.u64 (BitVec.ofInt (64 : Nat) (0 : Int)),
                            V.u64 (BitVec.ofInt (64 : Nat) (0 : Int)), V.u64 (BitVec.ofInt (64 : Nat) (0 : Int)),
                            V.u64 (BitVec.ofInt (64 : Nat) (0 : Int)), V.u64 (BitVec.ofInt (64 : Nat) (0 : Int)),
                            V.u64 (BitVec.ofInt (64 : Nat) (0 : Int)), V.u64 (BitVec.ofInt (64 : Nat) (0 : Int)),
                            V.u64 (BitVec.ofInt (64 : Nat) (0 : Int)), V.str (bytesOf (ByteArray.mk #[])), V.nilSl],
                        V.bool false]),
                  [])))))))) := by kernel_rfl
theorem dc_e_x (s : List B) (q : RW) : Tr.prune (((Tr.Sh.any.both Tr.Sh.any).r.r.r.both
                              Tr.Sh.any.l.l.l.l).r.r.r.r.r.r.r.r.r.r.r.r.r.r)
  (execBF Pr (OD2 f_e (1 : Nat) q) noLoopsT (100 : Nat) Go.Proofs.Tryd.f9 [V.str s] []) =
  Tr.chk
  (dqB (1 : Nat) q s && true && true &&
    (fkB f_e (q.s (0 : Nat)) && true && true &&
      ecB f_e
        (CM.mk (q.s (0 : Nat)) (bytesOf (ByteArray.mk #[])) (BitVec.ofInt (64 : Nat) (0 : Int))
          (W4.mk (BitVec.ofInt (64 : Nat) (0 : Int)) (BitVec.ofInt (64 : Nat) (0 : Int))
            (BitVec.ofInt (64 : Nat) (0 : Int)) (BitVec.ofInt (64 : Nat) (0 : Int)))
          (W4.mk (BitVec.ofInt (64 : Nat) (0 : Int)) (BitVec.ofInt (64 : Nat) (0 : Int))
            (BitVec.ofInt (64 : Nat) (0 : Int)) (BitVec.ofInt (64 : Nat) (0 : Int)))
          (bytesOf (ByteArray.mk #[])) (0 : Int) (bytesOf (ByteArray.mk #[])) (bytesOf (ByteArray.mk #[]))
          (BitVec.ofInt (64 : Nat) (0 : Int)) (BitVec.ofInt (64 : Nat) (0 : Int))
          (W4.mk (BitVec.ofInt (64 : Nat) (0 : Int)) (BitVec.ofInt (64 : Nat) (0 : Int))
            (BitVec.ofInt (64 : Nat) (0 : Int)) (BitVec.ofInt (64 : Nat) (0 : Int)))
          (W4.mk (BitVec.ofInt (64 : Nat) (0 : Int)) (BitVec.ofInt (64 : Nat) (0 : Int))
            (BitVec.ofInt (64 : Nat) (0 : Int)) (BitVec.ofInt (64 : Nat) (0 : Int)))
          (W4.mk (BitVec.ofInt (64 : Nat) (0 : Int)) (BitVec.ofInt (64 : Nat) (0 : Int))
            (BitVec.ofInt (64 : Nat) (0 : Int)) (BitVec.ofInt (64 : Nat) (0 : Int)))
          (bytesOf (ByteArray.mk #[])))))
  (Tr.br
    (eokO f_e
      (CM.mk (q.s (0 : Nat)) (bytesOf (ByteArray.mk #[])) (BitVec.ofInt (64 : Nat) (0 : Int))
        (W4.mk (BitVec.ofInt (64 : Nat) (0 : Int)) (BitVec.ofInt (64 : Nat) (0 : Int))
          (BitVec.ofInt (64 : Nat) (0 : Int)) (BitVec.ofInt (64 : Nat) (0 : Int)))
        (W4.mk (BitVec.ofInt (64 : Nat) (0 : Int)) (BitVec.ofInt (64 : Nat) (0 : Int))
          (BitVec.ofInt (64 : Nat) (0 : Int)) (BitVec.ofInt (64 : Nat) (0 : Int)))
        (bytesOf (ByteArray.mk #[])) (0 : Int) (bytesOf (ByteArray.mk #[])) (bytesOf (ByteArray.mk #[]))
        (BitVec.ofInt (64 : Nat) (0 : Int)) (BitVec.ofInt (64 : Nat) (0 : Int))
        (W4.mk (BitVec.ofInt (64 : Nat) (0 : Int)) (BitVec.ofInt (64 : Nat) (0 : Int))
          (BitVec.ofInt (64 : Nat) (0 : Int)) (BitVec.ofInt (64 : Nat) (0 : Int)))
        (W4.mk (BitVec.ofInt (64 : Nat) (0 : Int)) (BitVec.ofInt (64 : Nat) (0 : Int))
          (BitVec.ofInt (64 : Nat) (0 : Int)) (BitVec.ofInt (64 : Nat) (0 : Int)))
        (W4.mk (BitVec.ofInt (64 : Nat) (0 : Int)) (BitVec.ofInt (64 : Nat) (0 : Int))
          (BitVec.ofInt (64 : Nat) (0 : Int)) (BitVec.ofInt (64 : Nat) (0 : Int)))
        (bytesOf (ByteArray.mk #[]))))
    (Tr.chk true
      (Tr.br
        (!eS f_e
              (CM.mk (q.s (0 : Nat)) (bytesOf (ByteArray.mk #[])) (BitVec.ofInt (64 : Nat) (0 : Int))
                (W4.mk (BitVec.ofInt (64 : Nat) (0 : Int)) (BitVec.ofInt (64 : Nat) (0 : Int))
                  (BitVec.ofInt (64 : Nat) (0 : Int)) (BitVec.ofInt (64 : Nat) (0 : Int)))
                (W4.mk (BitVec.ofInt (64 : Nat) (0 : Int)) (BitVec.ofInt (64 : Nat) (0 : Int))
                  (BitVec.ofInt (64 : Nat) (0 : Int)) (BitVec.ofInt (64 : Nat) (0 : Int)))
                (bytesOf (ByteArray.mk #[])) (0 : Int) (bytesOf (ByteArray.mk #[])) (bytesOf (ByteArray.mk #[]))
                (BitVec.ofInt (64 : Nat) (0 : Int)) (BitVec.ofInt (64 : Nat) (0 : Int))
                (W4.mk (BitVec.ofInt (64 : Nat) (0 : Int)) (BitVec.ofInt (64 : Nat) (0 : Int))
                  (BitVec.ofInt (64 : Nat) (0 : Int)) (BitVec.ofInt (64 : Nat) (0 : Int)))
                (W4.mk (BitVec.ofInt (64 : Nat) (0 : Int)) (BitVec.ofInt (64 : Nat) (0 : Int))
                  (BitVec.ofInt (64 : Nat) (0 : Int)) (BitVec.ofInt (64 : Nat) (0 : Int)))
                (W4.mk (BitVec.ofInt (64 : Nat) (0 : Int)) (BitVec.ofInt (64 : Nat) (0 : Int))
                  (BitVec.ofInt (64 : Nat) (0 : Int)) (BitVec.ofInt (64 : Nat) (0 : Int)))
                (bytesOf (ByteArray.mk #[]))) ==
            s)
        (Tr.chk true
          (Tr.leaf
            (Fin.ret
                (V.tup
                  [V.agg
                      [V.str (bytesOf (ByteArray.mk #[])), V.str (bytesOf (ByteArray.mk #[])),
                        V.u64 (BitVec.ofInt (64 : Nat) (0 : Int)), V.u64 (BitVec.ofInt (64 : Nat) (0 : Int)),
                        V.u64 (BitVec.ofInt (64 : Nat) (0 : Int)), V.u64 (BitVec.ofInt (64 : Nat) (0 : Int)),
                        V.u64 (BitVec.ofInt (64 : Nat) (0 : Int)), V.u64 (BitVec.ofInt (64 : Nat) (0 : Int)),
                        V.u64 (BitVec.ofInt (64 : Nat) (0 : Int)), V.u64 (BitVec.ofInt (64 : Nat) (0 : Int)),
                        V.u64 (BitVec.ofInt (64 : Nat) (0 : Int)), V.str (bytesOf (ByteArray.mk #[])),
                        V.int IntKind.i64 (0 : Int), V.str (bytesOf (ByteArray.mk #[])),
                        V.str (bytesOf (ByteArray.mk #[])), V.u64 (BitVec.ofInt (64 : Nat) (0 : Int)),
                        V.u64 (BitVec.ofInt (64 : Nat) (0 : Int)), V.u64 (BitVec.ofInt (64 : Nat) (0 : Int)),
                        V.u64 (BitVec.ofInt (64 : Nat) (0 : Int)), V.u64 (BitVec.ofInt (64 : Nat) (0 : Int)),
                        V.u64 (BitVec.ofInt (64 : Nat) (0 : Int)), V.u64 (BitVec.ofInt (64 : Nat) (0 : Int)),
                        V.u64 (BitVec.ofInt (64 : Nat) (0 : Int)), V.u64 (BitVec.ofInt (64 : Nat) (0 : Int)),
                        V.u64 (BitVec.ofInt (64 : Nat) (0 : Int)), V.u64 (BitVec.ofInt (64 : Nat) (0 : Int)),
                        V.u64 (BitVec.ofInt (64 : Nat) (0 : Int)), V.u64 (BitVec.ofInt (64 : Nat) (0 : Int)),
                        V.u64 (BitVec.ofInt (64 : Nat) (0 : Int)), V.str (bytesOf (ByteArray.mk #[])), V.nilSl],
                    V.bool false]),
              [])))
        (Tr.chk true
          (Tr.leaf
            (Fin.ret
                (V.tup
                  [V.agg
                      [V.str (q.s (0 : Nat)), V.str (bytesOf (ByteArray.mk #[])),
                        V.u64 (BitVec.ofInt (64 : Nat) (0 : Int)), V.u64 (BitVec.ofInt (64 : Nat) (0 : Int)),
                        V.u64 (BitVec.ofInt (64 : Nat) (0 : Int)), V.u64 (BitVec.ofInt (64 : Nat) (0 : Int)),
                        V.u64 (BitVec.ofInt (64 : Nat) (0 : Int)), V.u64 (BitVec.ofInt (64 : Nat) (0 : Int)),
                        V.u64 (BitVec.ofInt (64 : Nat) (0 : Int)), V.u64 (BitVec.ofInt (64 : Nat) (0 : Int)),
                        V.u64 (BitVec.ofInt (64 : Nat) (0 : Int)), V.str (bytesOf (ByteArray.mk #[])),
                        V.int IntKind.i64 (0 : Int), V.str (bytesOf (ByteArray.mk #[])),
                        V.str (bytesOf (ByteArray.mk #[])), V.u64 (BitVec.ofInt (64 : Nat) (0 : Int)),
                        V.u64 (BitVec.ofInt (64 : Nat) (0 : Int)), V.u64 (BitVec.ofInt (64 : Nat) (0 : Int)),
                        V.u64 (BitVec.ofInt (64 : Nat) (0 : Int)), V.u64 (BitVec.ofInt (64 : Nat) (0 : Int)),
                        V.u64 (BitVec.ofInt (64 : Nat) (0 : Int)), V.u64 (BitVec.ofInt (64 : Nat) (0 : Int)),
                        V.u64 (BitVec.ofInt (64 : Nat) (0 : Int)), V.u64 (BitVec.ofInt (64 : Nat) (0 : Int)),
                        V.u64 (BitVec.ofInt (64 : Nat) (0 : Int)), V.u64 (BitVec.ofInt (64 : Nat) (0 : Int)),
                        V.u64 (BitVec.ofInt (64 : Nat) (0 : Int)), V.u64 (BitVec.ofInt (64 : Nat) (0 : Int)),
                        V.u64 (BitVec.ofInt (64 : Nat) (0 : Int)), V.str (bytesOf (ByteArray.mk #[])), V.nilSl],
                    V.bool true]),
              [])))))
    (Tr.chk true
      (Tr.leaf
        (Fin.ret
            (V.tup
              [V.agg
                  [V.str (bytesOf (ByteArray.mk #[])), V.str (bytesOf (ByteArray.mk #[])),
                    V.u64 (BitVec.ofInt (64 : Nat) (0 : Int)), V.u64 (BitVec.ofInt (64 : Nat) (0 : Int)),
                    V.u64 (BitVec.ofInt (64 : Nat) (0 : Int)), V.u64 (BitVec.ofInt (64 : Nat) (0 : Int)),
                    V.u64 (BitVec.ofInt (64 : Nat) (0 : Int)), V.u64 (BitVec.ofInt (64 : Nat) (0 : Int)),
                    V.u64 (BitVec.ofInt (64 : Nat) (0 : Int)), V.u64 (BitVec.ofInt (64 : Nat) (0 : Int)),
                    V.u64 (BitVec.ofInt (64 : Nat) (0 : Int)), V.str (bytesOf (ByteArray.mk #[])),
                    V.int IntKind.i64 (0 : Int), V.str (bytesOf (ByteArray.mk #[])), V.str (bytesOf (ByteArray.mk #[])),
                    V.u64 (BitVec.ofInt (64 : Nat) (0 : Int)), V.u64 (BitVec.ofInt (64 : Nat) (0 : Int)),
                    V.u64 (BitVec.ofInt (64 : Nat) (0 : Int)), V.u64 (BitVec.ofInt (64 : Nat) (0 : Int)),
                    V.u64 (BitVec.ofInt (64 : Nat) (0 : Int)), V.u64 (BitVec.ofInt (64 : Nat) (0 : Int)),
                    V.u64 (BitVec.ofInt (64 : Nat) (0 : Int)), V.u64 (BitVec.ofInt (64 : Nat) (0 : Int)),
                    V.u64 (BitVec.ofInt (64 : Nat) (0 : Int)), V.u64 (BitVec.ofInt (64 : Nat) (0 : Int)),
                    V.u64 (BitVec.ofInt (64 : Nat) (0 : Int)), V.u64 (BitVec.ofInt (64 : Nat) (0 : Int)),
                    V.u64 (BitVec.ofInt (64 : Nat) (0 : Int)), V.u64 (BitVec.ofInt (64 : Nat) (0 : Int)),
                    V.str (bytesOf (ByteArray.mk #[])), V.nilSl],
                V.bool false]),
          [])))) := by kernel_rfl
theorem dc_s_x (s : List B) (q : RW) : Tr.prune (((Tr.Sh.any.both Tr.Sh.any).r.r.r.both
                                  Tr.Sh.any.l.l.l.l).r.r.l.r.r.r.r.r.r.r.r.r.r.r.r.r)
  (execBF Pr (OD2 f_s (2 : Nat) q) noLoopsT (100 : Nat) Go.Proofs.Tryd.f9 [V.str s] []) =
  Tr.chk
  (dqB (2 : Nat) q s && true && true &&
    (fkB f_s (q.s (0 : Nat)) && true && true &&
      ecB f_s
        (CM.mk (q.s (0 : Nat)) (bytesOf (ByteArray.mk #[])) (BitVec.ofInt (64 : Nat) (0 : Int))
          (W4.mk (BitVec.ofInt (64 : Nat) (0 : Int)) (BitVec.ofInt (64 : Nat) (0 : Int))
            (BitVec.ofInt (64 : Nat) (0 : Int)) (BitVec.ofInt (64 : Nat) (0 : Int)))
          (W4.mk (BitVec.ofInt (64 : Nat) (0 : Int)) (BitVec.ofInt (64 : Nat) (0 : Int))
            (BitVec.ofInt (64 : Nat) (0 : Int)) (BitVec.ofInt (64 : Nat) (0 : Int)))
          (q.s (1 : Nat)) (0 : Int) (bytesOf (ByteArray.mk #[])) (bytesOf (ByteArray.mk #[]))
          (BitVec.ofInt (64 : Nat) (0 : Int)) (BitVec.ofInt (64 : Nat) (0 : Int))
          (W4.mk (BitVec.ofInt (64 : Nat) (0 : Int)) (BitVec.ofInt (64 : Nat) (0 : Int))
            (BitVec.ofInt (64 : Nat) (0 : Int)) (BitVec.ofInt (64 : Nat) (0 : Int)))
          (W4.mk (BitVec.ofInt (64 : Nat) (0 : Int)) (BitVec.ofInt (64 : Nat) (0 : Int))
            (BitVec.ofInt (64 : Nat) (0 : Int)) (BitVec.ofInt (64 : Nat) (0 : Int)))
          (W4.mk (BitVec.ofInt (64 : Nat) (0 : Int)) (BitVec.ofInt (64 : Nat) (0 : Int))
            (BitVec.ofInt (64 : Nat) (0 : Int)) (BitVec.ofInt (64 : Nat) (0 : Int)))
          (bytesOf (ByteArray.mk #[])))))
  (Tr.br
    (eokO f_s
      (CM.mk (q.s (0 : Nat)) (bytesOf (ByteArray.mk #[])) (BitVec.ofInt (64 : Nat) (0 : Int))
        (W4.mk (BitVec.ofInt (64 : Nat) (0 : Int)) (BitVec.ofInt (64 : Nat) (0 : Int))
          (BitVec.ofInt (64 : Nat) (0 : Int)) (BitVec.ofInt (64 : Nat) (0 : Int)))
        (W4.mk (BitVec.ofInt (64 : Nat) (0 : Int)) (BitVec.ofInt (64 : Nat) (0 : Int))
          (BitVec.ofInt (64 : Nat) (0 : Int)) (BitVec.ofInt (64 : Nat) (0 : Int)))
        (q.s (1 : Nat)) (0 : Int) (bytesOf (ByteArray.mk #[])) (bytesOf (ByteArray.mk #[]))
        (BitVec.ofInt (64 : Nat) (0 : Int)) (BitVec.ofInt (64 : Nat) (0 : Int))
        (W4.mk (BitVec.ofInt (64 : Nat) (0 : Int)) (BitVec.ofInt (64 : Nat) (0 : Int))
          (BitVec.ofInt (64 : Nat) (0 : Int)) (BitVec.ofInt (64 : Nat) (0 : Int)))
        (W4.mk (BitVec.ofInt (64 : Nat) (0 : Int)) (BitVec.ofInt (64 : Nat) (0 : Int))
          (BitVec.ofInt (64 : Nat) (0 : Int)) (BitVec.ofInt (64 : Nat) (0 : Int)))
        (W4.mk (BitVec.ofInt (64 : Nat) (0 : Int)) (BitVec.ofInt (64 : Nat) (0 : Int))
          (BitVec.ofInt (64 : Nat) (0 : Int)) (BitVec.ofInt (64 : Nat) (0 : Int)))
        (bytesOf (ByteArray.mk #[]))))
    (Tr.chk true
      (Tr.br
        (!eS f_s
              (CM.mk (q.s (0 : Nat)) (bytesOf (ByteArray.mk #[])) (BitVec.ofInt (64 : Nat) (0 : Int))
                (W4.mk (BitVec.ofInt (64 : Nat) (0 : Int)) (BitVec.ofInt (64 : Nat) (0 : Int))
                  (BitVec.ofInt (64 : Nat) (0 : Int)) (BitVec.ofInt (64 : Nat) (0 : Int)))
                (W4.mk (BitVec.ofInt (64 : Nat) (0 : Int)) (BitVec.ofInt (64 : Nat) (0 : Int))
                  (BitVec.ofInt (64 : Nat) (0 : Int)) (BitVec.ofInt (64 : Nat) (0 : Int)))
                (q.s (1 : Nat)) (0 : Int) (bytesOf (ByteArray.mk #[])) (bytesOf (ByteArray.mk #[]))
                (BitVec.ofInt (64 : Nat) (0 : Int)) (BitVec.ofInt (64 : Nat) (0 : Int))
                (W4.mk (BitVec.ofInt (64 : Nat) (0 : Int)) (BitVec.ofInt (64 : Nat) (0 : Int))
                  (BitVec.ofInt (64 : Nat) (0 : Int)) (BitVec.ofInt (64 : Nat) (0 : Int)))
                (W4.mk (BitVec.ofInt (64 : Nat) (0 : Int)) (BitVec.ofInt (64 : Nat) (0 : Int))
                  (BitVec.ofInt (64 : Nat) (0 : Int)) (BitVec.ofInt (64 : Nat) (0 : Int)))
                (W4.mk (BitVec.ofInt (64 : Nat) (0 : Int)) (BitVec.ofInt (64 : Nat) (0 : Int))
                  (BitVec.ofInt (64 : Nat) (0 : Int)) (BitVec.ofInt (64 : Nat) (0 : Int)))
                (bytesOf (ByteArray.mk #[]))) ==
            s)
        (Tr.chk true
          (Tr.leaf
            (Fin.ret
                (V.tup
                  [V.agg
                      [V.str (bytesOf (ByteArray.mk #[])), V.str (bytesOf (ByteArray.mk #[])),
                        V.u64 (BitVec.ofInt (64 : Nat) (0 : Int)), V.u64 (BitVec.ofInt (64 : Nat) (0 : Int)),
                        V.u64 (BitVec.ofInt (64 : Nat) (0 : Int)), V.u64 (BitVec.ofInt (64 : Nat) (0 : Int)),
                        V.u64 (BitVec.ofInt (64 : Nat) (0 : Int)), V.u64 (BitVec.ofInt (64 : Nat) (0 : Int)),
                        V.u64 (BitVec.ofInt (64 : Nat) (0 : Int)), V.u64 (BitVec.ofInt (64 : Nat) (0 : Int)),
                        V.u64 (BitVec.ofInt (64 : Nat) (0 : Int)), V.str (bytesOf (ByteArray.mk #[])),
                        V.int IntKind.i64 (0 : Int), V.str (bytesOf (ByteArray.mk #[])),
                        V.str (bytesOf (ByteArray.mk #[])), V.u64 (BitVec.ofInt (64 : Nat) (0 : Int)),
                        V.u64 (BitVec.ofInt (64 : Nat) (0 : Int)), V.u64 (BitVec.ofInt (64 : Nat) (0 : Int)),
                        V.u64 (BitVec.ofInt (64 : Nat) (0 : Int)), V.u64 (BitVec.ofInt (64 : Nat) (0 : Int)),
                        V.u64 (BitVec.ofInt (64 : Nat) (0 : Int)), V.u64 (BitVec.ofInt (64 : Nat) (0 : Int)),
                        V.u64 (BitVec.ofInt (64 : Nat) (0 : Int)), V.u64 (BitVec.ofInt (64 : Nat) (0 : Int)),
                        V.u64 (BitVec.ofInt (64 : Nat) (0 : Int)), V.u64 (BitVec.ofInt (64 : Nat) (0 : Int)),
                        V.u64 (BitVec.ofInt (64 : Nat) (0 : Int)), V.u64 (BitVec.ofInt (64 : Nat) (0 : Int)),
                        V.u64 (BitVec.ofInt (64 : Nat) (0 : Int)), V.str (bytesOf (ByteArray.mk #[])), V.nilSl],
                    V.bool false]),
              [])))
        (Tr.chk true
          (Tr.leaf
            (Fin.ret
                (V.tup
                  [V.agg
                      [V.str (q.s (0 : Nat)), V.str (bytesOf (ByteArray.mk #[])),
                        V.u64 (BitVec.ofInt (64 : Nat) (0 : Int)), V.u64 (BitVec.ofInt (64 : Nat) (0 : Int)),
                        V.u64 (BitVec.ofInt (64 : Nat) (0 : Int)), V.u64 (BitVec.ofInt (64 : Nat) (0 : Int)),
                        V.u64 (BitVec.ofInt (64 : Nat) (0 : Int)), V.u64 (BitVec.ofInt (64 : Nat) (0 : Int)),
                        V.u64 (BitVec.ofInt (64 : Nat) (0 : Int)), V.u64 (BitVec.ofInt (64 : Nat) (0 : Int)),
                        V.u64 (BitVec.ofInt (64 : Nat) (0 : Int)), V.str (q.s (1 : Nat)), V.int IntKind.i64 (0 : Int),
                        V.str (bytesOf (ByteArray.mk #[])), V.str (bytesOf (ByteArray.mk #[])),
                        V.u64 (BitVec.ofInt (64 : Nat) (0 : Int)), V.u64 (BitVec.ofInt (64 : Nat) (0 : Int)),
                        V.u64 (BitVec.ofInt (64 : Nat) (0 : Int)), V.u64 (BitVec.ofInt (64 : Nat) (0 : Int)),
                        V.u64 (BitVec.ofInt (64 : Nat) (0 : Int)), V.u64 (BitVec.ofInt (64 : Nat) (0 : Int)),
                        V.u64 (BitVec.ofInt (64 : Nat) (0 : Int)), V.u64 (BitVec.ofInt (64 : Nat) (0 : Int)),
                        V.u64 (BitVec.ofInt (64 : Nat) (0 : Int)), V.u64 (BitVec.ofInt (64 : Nat) (0 : Int)),
                        V.u64 (BitVec.ofInt (64 : Nat) (0 : Int)), V.u64 (BitVec.ofInt (64 : Nat) (0 : Int)),
                        V.u64 (BitVec.ofInt (64 : Nat) (0 : Int)), V.u64 (BitVec.ofInt (64 : Nat) (0 : Int)),
                        V.str (bytesOf (ByteArray.mk #[])), V.nilSl],
                    V.bool true]),
              [])))))
    (Tr.chk true
      (Tr.leaf
        (Fin.ret
            (V.tup
              [V.agg
                  [V.str (bytesOf (ByteArray.mk #[])), V.str (bytesOf (ByteArray.mk #[])),
                    V.u64 (BitVec.ofInt (64 : Nat) (0 : Int)), V.u64 (BitVec.ofInt (64 : Nat) (0 : Int)),
                    V.u64 (BitVec.ofInt (64 : Nat) (0 : Int)), V.u64 (BitVec.ofInt (64 : Nat) (0 : Int)),
                    V.u64 (BitVec.ofInt (64 : Nat) (0 : Int)), V.u64 (BitVec.ofInt (64 : Nat) (0 : Int)),
                    V.u64 (BitVec.ofInt (64 : Nat) (0 : Int)), V.u64 (BitVec.ofInt (64 : Nat) (0 : Int)),
                    V.u64 (BitVec.ofInt (64 : Nat) (0 : Int)), V.str (bytesOf (ByteArray.mk #[])),
                    V.int IntKind.i64 (0 : Int), V.str (bytesOf (ByteArray.mk #[])), V.str (bytesOf (ByteArray.mk #[])),
                    V.u64 (BitVec.ofInt (64 : Nat) (0 : Int)), V.u64 (BitVec.ofInt (64 : Nat) (0 : Int)),
                    V.u64 (BitVec.ofInt (64 : Nat) (0 : Int)), V.u64 (BitVec.ofInt (64 : Nat) (0 : Int)),
                    V.u64 (BitVec.ofInt (64 : Nat) (0 : Int)), V.u64 (BitVec.ofInt (64 : Nat) (0 : Int)),
                    V.u64 (BitVec.ofInt (64 : Nat) (0 : Int)), V.u64 (BitVec.ofInt (64 : Nat) (0 : Int)),
                    V.u64 (BitVec.ofInt (64 : Nat) (0 : Int)), V.u64 (BitVec.ofInt (64 : Nat) (0 : Int)),
                    V.u64 (BitVec.ofInt (64 : Nat) (0 : Int)), V.u64 (BitVec.ofInt (64 : Nat) (0 : Int)),
                    V.u64 (BitVec.ofInt (64 : Nat) (0 : Int)), V.u64 (BitVec.ofInt (64 : Nat) (0 : Int)),
                    V.str (bytesOf (ByteArray.mk #[])), V.nilSl],
                V.bool false]),
          [])))) := by kernel_rfl
end
end Go.Proofs.YtbgiickegljpoaaDoor.K
end
section
open Go Go.Lh
namespace Go.Proofs.YtbgiickegljpoaaDoor.K
noncomputable section
set_option maxRecDepth 100000
def z4 : W4 := W4.mk (BitVec.ofInt 64 0) (BitVec.ofInt 64 0) (BitVec.ofInt 64 0) (BitVec.ofInt 64 0)
def noT : List B := bytesOf (ByteArray.mk #[])
def CM0 (nm : List B) : CM := ⟨nm, noT, BitVec.ofInt 64 0, z4, z4, noT, 0, noT, noT, BitVec.ofInt 64 0, BitVec.ofInt 64 0, z4, z4, z4, noT⟩
def ofW (s : List B) : W4 := if s.length ≤ 32 then W4.ofBytes s else W4.zero
def fillC : List B → Nat → RW → CM → CM
  | [], _, _, c => c
  | x :: r, i, q, c => fillC r (i + 1) q (bif Nat.beq x.toNat 97 then { c with ad := q.s i } else bif Nat.beq x.toNat 110 then { c with n := smallN (q.b i) (q.s i) } else bif Nat.beq x.toNat 107 then { c with k := ofW (q.s i) } else bif Nat.beq x.toNat 118 then { c with v := ofW (q.s i) } else { c with s := q.s i })
def fillO : List B → Nat → RW → Bool
  | [], _, _ => true
  | x :: r, i, q => bif Nat.beq x.toNat 110 then smallO (q.b i) (q.s i) && fillO r (i + 1) q else bif Nat.beq x.toNat 107 then decide ((q.s i).length ≤ 32) && fillO r (i + 1) q else bif Nat.beq x.toNat 118 then decide ((q.s i).length ≤ 32) && fillO r (i + 1) q else fillO r (i + 1) q
def cmF (f : List B) (q : RW) : CM := fillC f 1 q (CM0 (q.s 0))
def okD (f : List B) (q : RW) (s : List B) : Bool := fillO f 1 q && (eok f (cmF f q) && (eS f (cmF f q) == s))
def dcV : Option CM → Fin
  | some c => .ret (.tup [.agg (c.cs .nilSl), .bool true])
  | none => .ret (.tup [.agg ((CM0 noT).cs .nilSl), .bool false])
def dV (f : List B) (q : RW) (s : List B) : Fin := dcV (if okD f q s = true then some (cmF f q) else none)
theorem bn_t {b : Bool} (h : (!b) = true) : b = false := by cases b <;> simp_all
theorem bn_f {b : Bool} (h : (!b) = false) : b = true := by cases b <;> simp_all
theorem dqB_t {n : Nat} {q : RW} {s : List B} (h : dqP n q s) : dqB n q s = true := @decide_eq_true _ (Classical.propDecidable _) h
theorem ecB_t {f : List B} {c : CM} (h : ecP f c) : ecB f c = true := @decide_eq_true _ (Classical.propDecidable _) h
theorem fillO_n (q : RW) : fillO f_n 1 q = (smallO (q.b 1) (q.s 1) && true) := by kernel_rfl
theorem dec_n (s : List B) (q : RW) (hq : dqP 2 q s) (hn : fkP f_n (q.s 0)) : LFn Pr 9 [.str s] [] (dV f_n q s) [] := by
  have hec : ecB f_n (cmF f_n q) = true := ecB_t ⟨.inl rfl, hn, by show (0 : Nat) + 0 + 0 ≤ 9223372036854775807; decide⟩
  have no : okD f_n q s = false → (fun r : Fin × Heap => r = (dV f_n q s, [])) (.ret (.tup [.agg ((CM0 noT).cs .nilSl), .bool false]), []) := by
    intro e
    unfold dV
    rw [if_neg (by rw [e]; decide)]; rfl
  have yes : okD f_n q s = true → (fun r : Fin × Heap => r = (dV f_n q s, [])) (.ret (.tup [.agg ((cmF f_n q).cs .nilSl), .bool true]), []) := by
    intro e
    unfold dV
    rw [if_pos e]; rfl
  unfold okD at no yes
  rw [fillO_n] at no yes
  refine fnT (OD2_sound f_n 2 q) mixed (by kernel_rfl) LoopsOk.noneT (dc_n_x s q) ?_
  refine wp_chk.2 ⟨by rw [dqB_t hq, fkB_t hn]; rfl, wp_br.2 ⟨fun e0 => wp_chk_true.2 (wp_leaf.2 (no ?_)), fun e0 => wp_chk.2 ⟨?_, wp_br.2 ⟨fun ea => wp_chk_true.2 (wp_br.2 ⟨fun eb => wp_chk_true.2 (wp_leaf.2 (no ?_)), fun eb => wp_chk_true.2 (wp_leaf.2 (yes ?_))⟩), fun ea => wp_chk_true.2 (wp_leaf.2 (no ?_))⟩⟩⟩⟩
  · have h0 : (smallO (q.b 1) (q.s 1)) = false := bn_t e0
    rw [h0]; rfl
  · exact hec
  · have h0 : (smallO (q.b 1) (q.s 1)) = true := bn_f e0
    have ha : eok f_n (cmF f_n q) = true := by rw [← eokO_eq]; exact ea
    have hb : (eS f_n (cmF f_n q) == s) = false := bn_t eb
    rw [h0, ha, hb]; rfl
  · have h0 : (smallO (q.b 1) (q.s 1)) = true := bn_f e0
    have ha : eok f_n (cmF f_n q) = true := by rw [← eokO_eq]; exact ea
    have hb : (eS f_n (cmF f_n q) == s) = true := bn_f eb
    rw [h0, ha, hb]; rfl
  · have h0 : (smallO (q.b 1) (q.s 1)) = true := bn_f e0
    have ha : eok f_n (cmF f_n q) = false := by rw [← eokO_eq]; exact ea
    rw [h0, ha]; rfl
theorem fillO_a (q : RW) : fillO f_a 1 q = true := by kernel_rfl
theorem dec_a (s : List B) (q : RW) (hq : dqP 2 q s) (hn : fkP f_a (q.s 0)) : LFn Pr 9 [.str s] [] (dV f_a q s) [] := by
  have hec : ecB f_a (cmF f_a q) = true := ecB_t ⟨.inr (.inl rfl), hn, by show (0 : Nat) + 0 + 0 ≤ 9223372036854775807; decide⟩
  have no : okD f_a q s = false → (fun r : Fin × Heap => r = (dV f_a q s, [])) (.ret (.tup [.agg ((CM0 noT).cs .nilSl), .bool false]), []) := by
    intro e
    unfold dV
    rw [if_neg (by rw [e]; decide)]; rfl
  have yes : okD f_a q s = true → (fun r : Fin × Heap => r = (dV f_a q s, [])) (.ret (.tup [.agg ((cmF f_a q).cs .nilSl), .bool true]), []) := by
    intro e
    unfold dV
    rw [if_pos e]; rfl
  unfold okD at no yes
  rw [fillO_a] at no yes
  refine fnT (OD2_sound f_a 2 q) mixed (by kernel_rfl) LoopsOk.noneT (dc_a_x s q) ?_
  refine wp_chk.2 ⟨?_, wp_br.2 ⟨fun ea => wp_chk_true.2 (wp_br.2 ⟨fun eb => wp_chk_true.2 (wp_leaf.2 (no ?_)), fun eb => wp_chk_true.2 (wp_leaf.2 (yes ?_))⟩), fun ea => wp_chk_true.2 (wp_leaf.2 (no ?_))⟩⟩
  · have h2 : (dqB 2 q s && true && true && (fkB f_a (q.s 0) && true && true && ecB f_a (cmF f_a q))) = true := by rw [dqB_t hq, fkB_t hn, hec]; rfl
    exact h2
  · have ha : eok f_a (cmF f_a q) = true := by rw [← eokO_eq]; exact ea
    have hb : (eS f_a (cmF f_a q) == s) = false := bn_t eb
    rw [ha, hb]; rfl
  · have ha : eok f_a (cmF f_a q) = true := by rw [← eokO_eq]; exact ea
    have hb : (eS f_a (cmF f_a q) == s) = true := bn_f eb
    rw [ha, hb]; rfl
  · have ha : eok f_a (cmF f_a q) = false := by rw [← eokO_eq]; exact ea
    rw [ha]; rfl
theorem fillO_ak (q : RW) : fillO f_ak 1 q = (decide ((q.s 2).length ≤ 32) && true) := by kernel_rfl
theorem dec_ak (s : List B) (q : RW) (hq : dqP 3 q s) (hn : fkP f_ak (q.s 0)) : LFn Pr 9 [.str s] [] (dV f_ak q s) [] := by
  have hec : ecB f_ak (cmF f_ak q) = true := ecB_t ⟨.inr (.inr (.inl rfl)), hn, by show (0 : Nat) + 0 + 0 ≤ 9223372036854775807; decide⟩
  have no : okD f_ak q s = false → (fun r : Fin × Heap => r = (dV f_ak q s, [])) (.ret (.tup [.agg ((CM0 noT).cs .nilSl), .bool false]), []) := by
    intro e
    unfold dV
    rw [if_neg (by rw [e]; decide)]; rfl
  have yes : okD f_ak q s = true → (fun r : Fin × Heap => r = (dV f_ak q s, [])) (.ret (.tup [.agg ((cmF f_ak q).cs .nilSl), .bool true]), []) := by
    intro e
    unfold dV
    rw [if_pos e]; rfl
  unfold okD at no yes
  rw [fillO_ak] at no yes
  refine fnT (OD2_sound f_ak 3 q) mixed (by kernel_rfl) LoopsOk.noneT (dc_ak_x s q) ?_
  refine wp_chk.2 ⟨by rw [dqB_t hq, fkB_t hn]; rfl, wp_br.2 ⟨fun e0 => wp_chk_true.2 (wp_leaf.2 (no ?_)), fun e0 => wp_chk.2 ⟨?_, wp_br.2 ⟨fun ea => wp_chk_true.2 (wp_br.2 ⟨fun eb => wp_chk_true.2 (wp_leaf.2 (no ?_)), fun eb => wp_chk_true.2 (wp_leaf.2 (yes ?_))⟩), fun ea => wp_chk_true.2 (wp_leaf.2 (no ?_))⟩⟩⟩⟩
  · have h0 : (decide ((q.s 2).length ≤ 32)) = false := bn_t e0
    rw [h0]; rfl
  · exact hec
  · have h0 : (decide ((q.s 2).length ≤ 32)) = true := bn_f e0
    have ha : eok f_ak (cmF f_ak q) = true := by rw [← eokO_eq]; exact ea
    have hb : (eS f_ak (cmF f_ak q) == s) = false := bn_t eb
    rw [h0, ha, hb]; rfl
  · have h0 : (decide ((q.s 2).length ≤ 32)) = true := bn_f e0
    have ha : eok f_ak (cmF f_ak q) = true := by rw [← eokO_eq]; exact ea
    have hb : (eS f_ak (cmF f_ak q) == s) = true := bn_f eb
    rw [h0, ha, hb]; rfl
  · have h0 : (decide ((q.s 2).length ≤ 32)) = true := bn_f e0
    have ha : eok f_ak (cmF f_ak q) = false := by rw [← eokO_eq]; exact ea
    rw [h0, ha]; rfl
theorem fillO_av (q : RW) : fillO f_av 1 q = (decide ((q.s 2).length ≤ 32) && true) := by kernel_rfl
theorem dec_av (s : List B) (q : RW) (hq : dqP 3 q s) (hn : fkP f_av (q.s 0)) : LFn Pr 9 [.str s] [] (dV f_av q s) [] := by
  have hec : ecB f_av (cmF f_av q) = true := ecB_t ⟨.inr (.inr (.inr (.inl rfl))), hn, by show (0 : Nat) + 0 + 0 ≤ 9223372036854775807; decide⟩
  have no : okD f_av q s = false → (fun r : Fin × Heap => r = (dV f_av q s, [])) (.ret (.tup [.agg ((CM0 noT).cs .nilSl), .bool false]), []) := by
    intro e
    unfold dV
    rw [if_neg (by rw [e]; decide)]; rfl
  have yes : okD f_av q s = true → (fun r : Fin × Heap => r = (dV f_av q s, [])) (.ret (.tup [.agg ((cmF f_av q).cs .nilSl), .bool true]), []) := by
    intro e
    unfold dV
    rw [if_pos e]; rfl
  unfold okD at no yes
  rw [fillO_av] at no yes
  refine fnT (OD2_sound f_av 3 q) mixed (by kernel_rfl) LoopsOk.noneT (dc_av_x s q) ?_
  refine wp_chk.2 ⟨by rw [dqB_t hq, fkB_t hn]; rfl, wp_br.2 ⟨fun e0 => wp_chk_true.2 (wp_leaf.2 (no ?_)), fun e0 => wp_chk.2 ⟨?_, wp_br.2 ⟨fun ea => wp_chk_true.2 (wp_br.2 ⟨fun eb => wp_chk_true.2 (wp_leaf.2 (no ?_)), fun eb => wp_chk_true.2 (wp_leaf.2 (yes ?_))⟩), fun ea => wp_chk_true.2 (wp_leaf.2 (no ?_))⟩⟩⟩⟩
  · have h0 : (decide ((q.s 2).length ≤ 32)) = false := bn_t e0
    rw [h0]; rfl
  · exact hec
  · have h0 : (decide ((q.s 2).length ≤ 32)) = true := bn_f e0
    have ha : eok f_av (cmF f_av q) = true := by rw [← eokO_eq]; exact ea
    have hb : (eS f_av (cmF f_av q) == s) = false := bn_t eb
    rw [h0, ha, hb]; rfl
  · have h0 : (decide ((q.s 2).length ≤ 32)) = true := bn_f e0
    have ha : eok f_av (cmF f_av q) = true := by rw [← eokO_eq]; exact ea
    have hb : (eS f_av (cmF f_av q) == s) = true := bn_f eb
    rw [h0, ha, hb]; rfl
  · have h0 : (decide ((q.s 2).length ≤ 32)) = true := bn_f e0
    have ha : eok f_av (cmF f_av q) = false := by rw [← eokO_eq]; exact ea
    rw [h0, ha]; rfl
theorem fillO_an (q : RW) : fillO f_an 1 q = (smallO (q.b 2) (q.s 2) && true) := by kernel_rfl
theorem dec_an (s : List B) (q : RW) (hq : dqP 3 q s) (hn : fkP f_an (q.s 0)) : LFn Pr 9 [.str s] [] (dV f_an q s) [] := by
  have hec : ecB f_an (cmF f_an q) = true := ecB_t ⟨.inr (.inr (.inr (.inr (.inl rfl)))), hn, by show (0 : Nat) + 0 + 0 ≤ 9223372036854775807; decide⟩
  have no : okD f_an q s = false → (fun r : Fin × Heap => r = (dV f_an q s, [])) (.ret (.tup [.agg ((CM0 noT).cs .nilSl), .bool false]), []) := by
    intro e
    unfold dV
    rw [if_neg (by rw [e]; decide)]; rfl
  have yes : okD f_an q s = true → (fun r : Fin × Heap => r = (dV f_an q s, [])) (.ret (.tup [.agg ((cmF f_an q).cs .nilSl), .bool true]), []) := by
    intro e
    unfold dV
    rw [if_pos e]; rfl
  unfold okD at no yes
  rw [fillO_an] at no yes
  refine fnT (OD2_sound f_an 3 q) mixed (by kernel_rfl) LoopsOk.noneT (dc_an_x s q) ?_
  refine wp_chk.2 ⟨by rw [dqB_t hq, fkB_t hn]; rfl, wp_br.2 ⟨fun e0 => wp_chk_true.2 (wp_leaf.2 (no ?_)), fun e0 => wp_chk.2 ⟨?_, wp_br.2 ⟨fun ea => wp_chk_true.2 (wp_br.2 ⟨fun eb => wp_chk_true.2 (wp_leaf.2 (no ?_)), fun eb => wp_chk_true.2 (wp_leaf.2 (yes ?_))⟩), fun ea => wp_chk_true.2 (wp_leaf.2 (no ?_))⟩⟩⟩⟩
  · have h0 : (smallO (q.b 2) (q.s 2)) = false := bn_t e0
    rw [h0]; rfl
  · exact hec
  · have h0 : (smallO (q.b 2) (q.s 2)) = true := bn_f e0
    have ha : eok f_an (cmF f_an q) = true := by rw [← eokO_eq]; exact ea
    have hb : (eS f_an (cmF f_an q) == s) = false := bn_t eb
    rw [h0, ha, hb]; rfl
  · have h0 : (smallO (q.b 2) (q.s 2)) = true := bn_f e0
    have ha : eok f_an (cmF f_an q) = true := by rw [← eokO_eq]; exact ea
    have hb : (eS f_an (cmF f_an q) == s) = true := bn_f eb
    rw [h0, ha, hb]; rfl
  · have h0 : (smallO (q.b 2) (q.s 2)) = true := bn_f e0
    have ha : eok f_an (cmF f_an q) = false := by rw [← eokO_eq]; exact ea
    rw [h0, ha]; rfl
theorem fillO_as (q : RW) : fillO f_as 1 q = true := by kernel_rfl
theorem dec_as (s : List B) (q : RW) (hq : dqP 3 q s) (hn : fkP f_as (q.s 0)) : LFn Pr 9 [.str s] [] (dV f_as q s) [] := by
  have hec : ecB f_as (cmF f_as q) = true := ecB_t ⟨.inr (.inr (.inr (.inr (.inr (.inl rfl))))), hn, by show (0 : Nat) + 0 + 0 ≤ 9223372036854775807; decide⟩
  have no : okD f_as q s = false → (fun r : Fin × Heap => r = (dV f_as q s, [])) (.ret (.tup [.agg ((CM0 noT).cs .nilSl), .bool false]), []) := by
    intro e
    unfold dV
    rw [if_neg (by rw [e]; decide)]; rfl
  have yes : okD f_as q s = true → (fun r : Fin × Heap => r = (dV f_as q s, [])) (.ret (.tup [.agg ((cmF f_as q).cs .nilSl), .bool true]), []) := by
    intro e
    unfold dV
    rw [if_pos e]; rfl
  unfold okD at no yes
  rw [fillO_as] at no yes
  refine fnT (OD2_sound f_as 3 q) mixed (by kernel_rfl) LoopsOk.noneT (dc_as_x s q) ?_
  refine wp_chk.2 ⟨?_, wp_br.2 ⟨fun ea => wp_chk_true.2 (wp_br.2 ⟨fun eb => wp_chk_true.2 (wp_leaf.2 (no ?_)), fun eb => wp_chk_true.2 (wp_leaf.2 (yes ?_))⟩), fun ea => wp_chk_true.2 (wp_leaf.2 (no ?_))⟩⟩
  · have h2 : (dqB 3 q s && true && true && (fkB f_as (q.s 0) && true && true && ecB f_as (cmF f_as q))) = true := by rw [dqB_t hq, fkB_t hn, hec]; rfl
    exact h2
  · have ha : eok f_as (cmF f_as q) = true := by rw [← eokO_eq]; exact ea
    have hb : (eS f_as (cmF f_as q) == s) = false := bn_t eb
    rw [ha, hb]; rfl
  · have ha : eok f_as (cmF f_as q) = true := by rw [← eokO_eq]; exact ea
    have hb : (eS f_as (cmF f_as q) == s) = true := bn_f eb
    rw [ha, hb]; rfl
  · have ha : eok f_as (cmF f_as q) = false := by rw [← eokO_eq]; exact ea
    rw [ha]; rfl
theorem fillO_akv (q : RW) : fillO f_akv 1 q = (decide ((q.s 2).length ≤ 32) && (decide ((q.s 3).length ≤ 32) && true)) := by kernel_rfl
theorem dec_akv (s : List B) (q : RW) (hq : dqP 4 q s) (hn : fkP f_akv (q.s 0)) : LFn Pr 9 [.str s] [] (dV f_akv q s) [] := by
  have hec : ecB f_akv (cmF f_akv q) = true := ecB_t ⟨.inr (.inr (.inr (.inr (.inr (.inr (.inl rfl)))))), hn, by show (0 : Nat) + 0 + 0 ≤ 9223372036854775807; decide⟩
  have no : okD f_akv q s = false → (fun r : Fin × Heap => r = (dV f_akv q s, [])) (.ret (.tup [.agg ((CM0 noT).cs .nilSl), .bool false]), []) := by
    intro e
    unfold dV
    rw [if_neg (by rw [e]; decide)]; rfl
  have yes : okD f_akv q s = true → (fun r : Fin × Heap => r = (dV f_akv q s, [])) (.ret (.tup [.agg ((cmF f_akv q).cs .nilSl), .bool true]), []) := by
    intro e
    unfold dV
    rw [if_pos e]; rfl
  unfold okD at no yes
  rw [fillO_akv] at no yes
  refine fnT (OD2_sound f_akv 4 q) mixed (by kernel_rfl) LoopsOk.noneT (dc_akv_x s q) ?_
  refine wp_chk.2 ⟨by rw [dqB_t hq, fkB_t hn]; rfl, wp_br.2 ⟨fun e0 => wp_chk_true.2 (wp_leaf.2 (no ?_)), fun e0 => wp_chk_true.2 (wp_br.2 ⟨fun e1 => wp_chk_true.2 (wp_leaf.2 (no ?_)), fun e1 => wp_chk.2 ⟨?_, wp_br.2 ⟨fun ea => wp_chk_true.2 (wp_br.2 ⟨fun eb => wp_chk_true.2 (wp_leaf.2 (no ?_)), fun eb => wp_chk_true.2 (wp_leaf.2 (yes ?_))⟩), fun ea => wp_chk_true.2 (wp_leaf.2 (no ?_))⟩⟩⟩)⟩⟩
  · have h0 : (decide ((q.s 2).length ≤ 32)) = false := bn_t e0
    rw [h0]; rfl
  · have h0 : (decide ((q.s 2).length ≤ 32)) = true := bn_f e0
    have h1 : (decide ((q.s 3).length ≤ 32)) = false := bn_t e1
    rw [h0, h1]; rfl
  · exact hec
  · have h0 : (decide ((q.s 2).length ≤ 32)) = true := bn_f e0
    have h1 : (decide ((q.s 3).length ≤ 32)) = true := bn_f e1
    have ha : eok f_akv (cmF f_akv q) = true := by rw [← eokO_eq]; exact ea
    have hb : (eS f_akv (cmF f_akv q) == s) = false := bn_t eb
    rw [h0, h1, ha, hb]; rfl
  · have h0 : (decide ((q.s 2).length ≤ 32)) = true := bn_f e0
    have h1 : (decide ((q.s 3).length ≤ 32)) = true := bn_f e1
    have ha : eok f_akv (cmF f_akv q) = true := by rw [← eokO_eq]; exact ea
    have hb : (eS f_akv (cmF f_akv q) == s) = true := bn_f eb
    rw [h0, h1, ha, hb]; rfl
  · have h0 : (decide ((q.s 2).length ≤ 32)) = true := bn_f e0
    have h1 : (decide ((q.s 3).length ≤ 32)) = true := bn_f e1
    have ha : eok f_akv (cmF f_akv q) = false := by rw [← eokO_eq]; exact ea
    rw [h0, h1, ha]; rfl
theorem fillO_e (q : RW) : fillO f_e 1 q = true := by kernel_rfl
theorem dec_e (s : List B) (q : RW) (hq : dqP 1 q s) (hn : fkP f_e (q.s 0)) : LFn Pr 9 [.str s] [] (dV f_e q s) [] := by
  have hec : ecB f_e (cmF f_e q) = true := ecB_t ⟨.inr (.inr (.inr (.inr (.inr (.inr (.inr (.inl rfl))))))), hn, by show (0 : Nat) + 0 + 0 ≤ 9223372036854775807; decide⟩
  have no : okD f_e q s = false → (fun r : Fin × Heap => r = (dV f_e q s, [])) (.ret (.tup [.agg ((CM0 noT).cs .nilSl), .bool false]), []) := by
    intro e
    unfold dV
    rw [if_neg (by rw [e]; decide)]; rfl
  have yes : okD f_e q s = true → (fun r : Fin × Heap => r = (dV f_e q s, [])) (.ret (.tup [.agg ((cmF f_e q).cs .nilSl), .bool true]), []) := by
    intro e
    unfold dV
    rw [if_pos e]; rfl
  unfold okD at no yes
  rw [fillO_e] at no yes
  refine fnT (OD2_sound f_e 1 q) mixed (by kernel_rfl) LoopsOk.noneT (dc_e_x s q) ?_
  refine wp_chk.2 ⟨?_, wp_br.2 ⟨fun ea => wp_chk_true.2 (wp_br.2 ⟨fun eb => wp_chk_true.2 (wp_leaf.2 (no ?_)), fun eb => wp_chk_true.2 (wp_leaf.2 (yes ?_))⟩), fun ea => wp_chk_true.2 (wp_leaf.2 (no ?_))⟩⟩
  · have h2 : (dqB 1 q s && true && true && (fkB f_e (q.s 0) && true && true && ecB f_e (cmF f_e q))) = true := by rw [dqB_t hq, fkB_t hn, hec]; rfl
    exact h2
  · have ha : eok f_e (cmF f_e q) = true := by rw [← eokO_eq]; exact ea
    have hb : (eS f_e (cmF f_e q) == s) = false := bn_t eb
    rw [ha, hb]; rfl
  · have ha : eok f_e (cmF f_e q) = true := by rw [← eokO_eq]; exact ea
    have hb : (eS f_e (cmF f_e q) == s) = true := bn_f eb
    rw [ha, hb]; rfl
  · have ha : eok f_e (cmF f_e q) = false := by rw [← eokO_eq]; exact ea
    rw [ha]; rfl
theorem fillO_s (q : RW) : fillO f_s 1 q = true := by kernel_rfl
theorem dec_s (s : List B) (q : RW) (hq : dqP 2 q s) (hn : fkP f_s (q.s 0)) : LFn Pr 9 [.str s] [] (dV f_s q s) [] := by
  have hec : ecB f_s (cmF f_s q) = true := ecB_t ⟨.inr (.inr (.inr (.inr (.inr (.inr (.inr (.inr (rfl)))))))), hn, by show (0 : Nat) + 0 + 0 ≤ 9223372036854775807; decide⟩
  have no : okD f_s q s = false → (fun r : Fin × Heap => r = (dV f_s q s, [])) (.ret (.tup [.agg ((CM0 noT).cs .nilSl), .bool false]), []) := by
    intro e
    unfold dV
    rw [if_neg (by rw [e]; decide)]; rfl
  have yes : okD f_s q s = true → (fun r : Fin × Heap => r = (dV f_s q s, [])) (.ret (.tup [.agg ((cmF f_s q).cs .nilSl), .bool true]), []) := by
    intro e
    unfold dV
    rw [if_pos e]; rfl
  unfold okD at no yes
  rw [fillO_s] at no yes
  refine fnT (OD2_sound f_s 2 q) mixed (by kernel_rfl) LoopsOk.noneT (dc_s_x s q) ?_
  refine wp_chk.2 ⟨?_, wp_br.2 ⟨fun ea => wp_chk_true.2 (wp_br.2 ⟨fun eb => wp_chk_true.2 (wp_leaf.2 (no ?_)), fun eb => wp_chk_true.2 (wp_leaf.2 (yes ?_))⟩), fun ea => wp_chk_true.2 (wp_leaf.2 (no ?_))⟩⟩
  · have h2 : (dqB 2 q s && true && true && (fkB f_s (q.s 0) && true && true && ecB f_s (cmF f_s q))) = true := by rw [dqB_t hq, fkB_t hn, hec]; rfl
    exact h2
  · have ha : eok f_s (cmF f_s q) = true := by rw [← eokO_eq]; exact ea
    have hb : (eS f_s (cmF f_s q) == s) = false := bn_t eb
    rw [ha, hb]; rfl
  · have ha : eok f_s (cmF f_s q) = true := by rw [← eokO_eq]; exact ea
    have hb : (eS f_s (cmF f_s q) == s) = true := bn_f eb
    rw [ha, hb]; rfl
  · have ha : eok f_s (cmF f_s q) = false := by rw [← eokO_eq]; exact ea
    rw [ha]; rfl
end
end Go.Proofs.YtbgiickegljpoaaDoor.K
end
section
open Go Go.Lh
namespace Go.Proofs.YtbgiickegljpoaaDoor.K
noncomputable section
set_option maxRecDepth 100000
def dnB (s : List B) : Bool := @decide (decF s = none) (Classical.propDecidable _)
def dn_f (s : List B) : Tr (Fin × Heap) := .chk (dnB s) (.leaf (.ret (.tup [.agg [.bool false, .str [], .nilSl], .int .i64 (dcE s)]), []))
theorem dn_ok : ∀ args h r, ((ctT dc_read dn_f) args h).is r → LFn Pr 17 args h r.1 r.2 := by
  intro args h r hr
  refine dc_ok args h r ?_
  unfold ctT at hr ⊢
  split at hr
  · rename_i s hs
    rw [dn_f, Tr.is_chk] at hr
    obtain ⟨h1, hr⟩ := hr
    have h2 : decF s = none := @of_decide_eq_true _ (Classical.propDecidable _) h1
    rw [dc_f, Tr.is_br, if_neg (by rw [dcO_n h2]; decide)]
    exact hr
  · exact hr
def dtB (t s : List B) : Bool := @decide (decF s = some (.txt t)) (Classical.propDecidable _)
def dt_f (t s : List B) : Tr (Fin × Heap) := .chk (dtB t s) (.leaf (.ret (.tup [.agg [.bool false, .str t, .isl 3 0 (fun _ _ => .any)], .int .i64 0]), []))
theorem dt_ok (t : List B) : ∀ args h r, ((ctT dc_read (dt_f t)) args h).is r → LFn Pr 17 args h r.1 r.2 := by
  intro args h r hr
  refine dc_ok args h r ?_
  unfold ctT at hr ⊢
  split at hr
  · rename_i s hs
    rw [dt_f, Tr.is_chk] at hr
    obtain ⟨h1, hr⟩ := hr
    have h2 : decF s = some (.txt t) := @of_decide_eq_true _ (Classical.propDecidable _) h1
    rw [dc_f, Tr.is_br, if_pos (dcO_t h2), dcI_eq h2, itV_txt]
    exact hr
  · exact hr
theorem lookS_no : ∀ {es : List (List B × List B)} {s : List B}, hasS es s = false → lookS es s = []
  | [], s, h => rfl
  | (k, v) :: r, s, h => by
    unfold hasS at h
    unfold lookS
    cases he : eqB k s with
    | true => rw [he] at h; cases h
    | false => rw [he] at h; exact lookS_no (es := r) h
def fuB (s : List B) : Bool := @decide (hasS fieldsL s = false) (Classical.propDecidable _)
def fu_f (s : List B) : Tr (Fin × Heap) := .chk (fuB s) (.leaf (.ret (.tup [.str [], .bool false]), []))
theorem fu_ok : ∀ args h r, ((ctT readS fu_f) args h).is r → LFn Pr 10 args h r.1 r.2 := by
  refine ctT_ok (fun s => [.str s]) (fun _ => []) ?_ (fun a r h => ?_)
  · intro args h a e
    unfold readS at e
    split at e <;> cases e
    exact ⟨rfl, rfl⟩
  · rw [fu_f, Tr.is_chk, Tr.is_leaf] at h
    obtain ⟨h1, rfl⟩ := h
    have h2 : hasS fieldsL a = false := @of_decide_eq_true _ (Classical.propDecidable _) h1
    have := fields_fn a
    rw [h2, lookS_no h2] at this
    exact this
def OnA : OrcT := autoT Pr ext [(17, ctT dc_read dn_f)] [] 3
theorem OnA_sound : OrcSound Pr OnA.o := autoT_sound mixed ext_ok (KOkT.cons (Enters.of (fn := Go.Proofs.Tryd.f17) (by kernel_rfl) (by kernel_rfl)) dn_ok KOkT.nil) (by kernel_rfl) 3
def OnB (t : List B) : OrcT := autoT Pr ext [(17, ctT dc_read (dt_f t))] [] 3
theorem OnB_sound (t : List B) : OrcSound Pr (OnB t).o := autoT_sound mixed ext_ok (KOkT.cons (Enters.of (fn := Go.Proofs.Tryd.f17) (by kernel_rfl) (by kernel_rfl)) (dt_ok t) KOkT.nil) (by kernel_rfl) 3
def OnD (n : Nat) (q : RW) : OrcT := autoT Pr ext [(17, ctT dc_read (dq_f n q)), (10, ctT readS fu_f)] [] 3
theorem OnD_sound (n : Nat) (q : RW) : OrcSound Pr (OnD n q).o := autoT_sound mixed ext_ok (KOkT.cons (Enters.of (fn := Go.Proofs.Tryd.f17) (by kernel_rfl) (by kernel_rfl)) (dq_ok n q) (KOkT.cons (Enters.of (fn := Go.Proofs.Tryd.f10) (by kernel_rfl) (by kernel_rfl)) fu_ok KOkT.nil)) (by kernel_rfl) 3
def OnE (f : List B) (n : Nat) (q : RW) : OrcT := autoT Pr ext [(17, ctT dc_read (dq_f n q)), (10, ctT readS (fk_f f))] [] 3
theorem OnE_sound (f : List B) (n : Nat) (q : RW) : OrcSound Pr (OnE f n q).o := autoT_sound mixed ext_ok (KOkT.cons (Enters.of (fn := Go.Proofs.Tryd.f17) (by kernel_rfl) (by kernel_rfl)) (dq_ok n q) (KOkT.cons (Enters.of (fn := Go.Proofs.Tryd.f10) (by kernel_rfl) (by kernel_rfl)) (fk_ok f) KOkT.nil)) (by kernel_rfl) 3
theorem dA_x (s : List B) : Tr.prune (Tr.Sh.any.l.l.l.l.both Tr.Sh.any.l.r.r.r)
  (execBF Pr OnA noLoopsT (100 : Nat) Go.Proofs.Tryd.f9 [V.str s] []) =
  Tr.chk (dnB s && true && true)
  (Tr.br (dcE s != (0 : Int))
    (Tr.chk true
      (Tr.leaf
        (Fin.ret
            (V.tup
              [V.agg
                  [V.str (bytesOf (ByteArray.mk #[])), V.str (bytesOf (ByteArray.mk #[])),
                    V.u64 (BitVec.ofInt (64 : Nat) (0 : Int)), V.u64 (BitVec.ofInt (64 : Nat) (0 : Int)),
                    V.u64 (BitVec.ofInt (64 : Nat) (0 : Int)), V.u64 (BitVec.ofInt (64 : Nat) (0 : Int)),
                    V.u64 (BitVec.ofInt (64 : Nat) (0 : Int)), V.u64 (BitVec.ofInt (64 : Nat) (0 : Int)),
                    V.u64 (BitVec.ofInt (64 : Nat) (0 : Int)), V.u64 (BitVec.ofInt (64 : Nat) (0 : Int)),
                    V.u64 (BitVec.ofInt (64 : Nat) (0 : Int)), V.str (bytesOf (ByteArray.mk #[])),
                    V.int IntKind.i64 (0 : Int), V.str (bytesOf (ByteArray.mk #[])), V.str (bytesOf (ByteArray.mk #[])),
                    V.u64 (BitVec.ofInt (64 : Nat) (0 : Int)), V.u64 (BitVec.ofInt (64 : Nat) (0 : Int)),
                    V.u64 (BitVec.ofInt (64 : Nat) (0 : Int)), V.u64 (BitVec.ofInt (64 : Nat) (0 : Int)),
                    V.u64 (BitVec.ofInt (64 : Nat) (0 : Int)), V.u64 (BitVec.ofInt (64 : Nat) (0 : Int)),
                    V.u64 (BitVec.ofInt (64 : Nat) (0 : Int)), V.u64 (BitVec.ofInt (64 : Nat) (0 : Int)),
                    V.u64 (BitVec.ofInt (64 : Nat) (0 : Int)), V.u64 (BitVec.ofInt (64 : Nat) (0 : Int)),
                    V.u64 (BitVec.ofInt (64 : Nat) (0 : Int)), V.u64 (BitVec.ofInt (64 : Nat) (0 : Int)),
                    V.u64 (BitVec.ofInt (64 : Nat) (0 : Int)), V.u64 (BitVec.ofInt (64 : Nat) (0 : Int)),
                    V.str (bytesOf (ByteArray.mk #[])), V.nilSl],
                V.bool false]),
          [])))
    (Tr.chk true
      (Tr.leaf
        (Fin.ret
            (V.tup
              [V.agg
                  [V.str (bytesOf (ByteArray.mk #[])), V.str (bytesOf (ByteArray.mk #[])),
                    V.u64 (BitVec.ofInt (64 : Nat) (0 : Int)), V.u64 (BitVec.ofInt (64 : Nat) (0 : Int)),
                    V.u64 (BitVec.ofInt (64 : Nat) (0 : Int)), V.u64 (BitVec.ofInt (64 : Nat) (0 : Int)),
                    V.u64 (BitVec.ofInt (64 : Nat) (0 : Int)), V.u64 (BitVec.ofInt (64 : Nat) (0 : Int)),
                    V.u64 (BitVec.ofInt (64 : Nat) (0 : Int)), V.u64 (BitVec.ofInt (64 : Nat) (0 : Int)),
                    V.u64 (BitVec.ofInt (64 : Nat) (0 : Int)), V.str (bytesOf (ByteArray.mk #[])),
                    V.int IntKind.i64 (0 : Int), V.str (bytesOf (ByteArray.mk #[])), V.str (bytesOf (ByteArray.mk #[])),
                    V.u64 (BitVec.ofInt (64 : Nat) (0 : Int)), V.u64 (BitVec.ofInt (64 : Nat) (0 : Int)),
                    V.u64 (BitVec.ofInt (64 : Nat) (0 : Int)), V.u64 (BitVec.ofInt (64 : Nat) (0 : Int)),
                    V.u64 (BitVec.ofInt (64 : Nat) (0 : Int)), V.u64 (BitVec.ofInt (64 : Nat) (0 : Int)),
                    V.u64 (BitVec.ofInt (64 : Nat) (0 : Int)), V.u64 (BitVec.ofInt (64 : Nat) (0 : Int)),
                    V.u64 (BitVec.ofInt (64 : Nat) (0 : Int)), V.u64 (BitVec.ofInt (64 : Nat) (0 : Int)),
                    V.u64 (BitVec.ofInt (64 : Nat) (0 : Int)), V.u64 (BitVec.ofInt (64 : Nat) (0 : Int)),
                    V.u64 (BitVec.ofInt (64 : Nat) (0 : Int)), V.u64 (BitVec.ofInt (64 : Nat) (0 : Int)),
                    V.str (bytesOf (ByteArray.mk #[])), V.nilSl],
                V.bool false]),
          [])))) := by kernel_rfl
theorem dB_x (t : List B) (s : List B) : Tr.prune (Tr.Sh.any.l.r.r.r.r)
  (execBF Pr (OnB t) noLoopsT (100 : Nat) Go.Proofs.Tryd.f9 [V.str s] []) =
  Tr.chk (dtB t s && true && true && true)
  (Tr.leaf
    (Fin.ret
        (V.tup
          [V.agg
              [V.str (bytesOf (ByteArray.mk #[])), V.str (bytesOf (ByteArray.mk #[])),
                V.u64 (BitVec.ofInt (64 : Nat) (0 : Int)), V.u64 (BitVec.ofInt (64 : Nat) (0 : Int)),
                V.u64 (BitVec.ofInt (64 : Nat) (0 : Int)), V.u64 (BitVec.ofInt (64 : Nat) (0 : Int)),
                V.u64 (BitVec.ofInt (64 : Nat) (0 : Int)), V.u64 (BitVec.ofInt (64 : Nat) (0 : Int)),
                V.u64 (BitVec.ofInt (64 : Nat) (0 : Int)), V.u64 (BitVec.ofInt (64 : Nat) (0 : Int)),
                V.u64 (BitVec.ofInt (64 : Nat) (0 : Int)), V.str (bytesOf (ByteArray.mk #[])),
                V.int IntKind.i64 (0 : Int), V.str (bytesOf (ByteArray.mk #[])), V.str (bytesOf (ByteArray.mk #[])),
                V.u64 (BitVec.ofInt (64 : Nat) (0 : Int)), V.u64 (BitVec.ofInt (64 : Nat) (0 : Int)),
                V.u64 (BitVec.ofInt (64 : Nat) (0 : Int)), V.u64 (BitVec.ofInt (64 : Nat) (0 : Int)),
                V.u64 (BitVec.ofInt (64 : Nat) (0 : Int)), V.u64 (BitVec.ofInt (64 : Nat) (0 : Int)),
                V.u64 (BitVec.ofInt (64 : Nat) (0 : Int)), V.u64 (BitVec.ofInt (64 : Nat) (0 : Int)),
                V.u64 (BitVec.ofInt (64 : Nat) (0 : Int)), V.u64 (BitVec.ofInt (64 : Nat) (0 : Int)),
                V.u64 (BitVec.ofInt (64 : Nat) (0 : Int)), V.u64 (BitVec.ofInt (64 : Nat) (0 : Int)),
                V.u64 (BitVec.ofInt (64 : Nat) (0 : Int)), V.u64 (BitVec.ofInt (64 : Nat) (0 : Int)),
                V.str (bytesOf (ByteArray.mk #[])), V.nilSl],
            V.bool false]),
      [])) := by kernel_rfl
theorem dC_x (q : RW) (s : List B) : Tr.prune (Tr.Sh.any.l.r.r.r.r)
  (execBF Pr (OnD (0 : Nat) q) noLoopsT (100 : Nat) Go.Proofs.Tryd.f9 [V.str s] []) =
  Tr.chk (dqB (0 : Nat) q s && true && true && true)
  (Tr.leaf
    (Fin.ret
        (V.tup
          [V.agg
              [V.str (bytesOf (ByteArray.mk #[])), V.str (bytesOf (ByteArray.mk #[])),
                V.u64 (BitVec.ofInt (64 : Nat) (0 : Int)), V.u64 (BitVec.ofInt (64 : Nat) (0 : Int)),
                V.u64 (BitVec.ofInt (64 : Nat) (0 : Int)), V.u64 (BitVec.ofInt (64 : Nat) (0 : Int)),
                V.u64 (BitVec.ofInt (64 : Nat) (0 : Int)), V.u64 (BitVec.ofInt (64 : Nat) (0 : Int)),
                V.u64 (BitVec.ofInt (64 : Nat) (0 : Int)), V.u64 (BitVec.ofInt (64 : Nat) (0 : Int)),
                V.u64 (BitVec.ofInt (64 : Nat) (0 : Int)), V.str (bytesOf (ByteArray.mk #[])),
                V.int IntKind.i64 (0 : Int), V.str (bytesOf (ByteArray.mk #[])), V.str (bytesOf (ByteArray.mk #[])),
                V.u64 (BitVec.ofInt (64 : Nat) (0 : Int)), V.u64 (BitVec.ofInt (64 : Nat) (0 : Int)),
                V.u64 (BitVec.ofInt (64 : Nat) (0 : Int)), V.u64 (BitVec.ofInt (64 : Nat) (0 : Int)),
                V.u64 (BitVec.ofInt (64 : Nat) (0 : Int)), V.u64 (BitVec.ofInt (64 : Nat) (0 : Int)),
                V.u64 (BitVec.ofInt (64 : Nat) (0 : Int)), V.u64 (BitVec.ofInt (64 : Nat) (0 : Int)),
                V.u64 (BitVec.ofInt (64 : Nat) (0 : Int)), V.u64 (BitVec.ofInt (64 : Nat) (0 : Int)),
                V.u64 (BitVec.ofInt (64 : Nat) (0 : Int)), V.u64 (BitVec.ofInt (64 : Nat) (0 : Int)),
                V.u64 (BitVec.ofInt (64 : Nat) (0 : Int)), V.u64 (BitVec.ofInt (64 : Nat) (0 : Int)),
                V.str (bytesOf (ByteArray.mk #[])), V.nilSl],
            V.bool false]),
      [])) := by kernel_rfl
theorem dD_x (n : Nat) (q : RW) (s : List B) : Tr.prune ((Tr.Sh.any.both Tr.Sh.any.l.l.l.l.l.l.l.l).r.r.r.r)
  (execBF Pr (OnD n q) noLoopsT (100 : Nat) Go.Proofs.Tryd.f9 [V.str s] []) =
  Tr.chk (dqB n q s && true && true && true)
  (Tr.br ((↑n : Int) == (0 : Int))
    (Tr.chk true
      (Tr.leaf
        (Fin.ret
            (V.tup
              [V.agg
                  [V.str (bytesOf (ByteArray.mk #[])), V.str (bytesOf (ByteArray.mk #[])),
                    V.u64 (BitVec.ofInt (64 : Nat) (0 : Int)), V.u64 (BitVec.ofInt (64 : Nat) (0 : Int)),
                    V.u64 (BitVec.ofInt (64 : Nat) (0 : Int)), V.u64 (BitVec.ofInt (64 : Nat) (0 : Int)),
                    V.u64 (BitVec.ofInt (64 : Nat) (0 : Int)), V.u64 (BitVec.ofInt (64 : Nat) (0 : Int)),
                    V.u64 (BitVec.ofInt (64 : Nat) (0 : Int)), V.u64 (BitVec.ofInt (64 : Nat) (0 : Int)),
                    V.u64 (BitVec.ofInt (64 : Nat) (0 : Int)), V.str (bytesOf (ByteArray.mk #[])),
                    V.int IntKind.i64 (0 : Int), V.str (bytesOf (ByteArray.mk #[])), V.str (bytesOf (ByteArray.mk #[])),
                    V.u64 (BitVec.ofInt (64 : Nat) (0 : Int)), V.u64 (BitVec.ofInt (64 : Nat) (0 : Int)),
                    V.u64 (BitVec.ofInt (64 : Nat) (0 : Int)), V.u64 (BitVec.ofInt (64 : Nat) (0 : Int)),
                    V.u64 (BitVec.ofInt (64 : Nat) (0 : Int)), V.u64 (BitVec.ofInt (64 : Nat) (0 : Int)),
                    V.u64 (BitVec.ofInt (64 : Nat) (0 : Int)), V.u64 (BitVec.ofInt (64 : Nat) (0 : Int)),
                    V.u64 (BitVec.ofInt (64 : Nat) (0 : Int)), V.u64 (BitVec.ofInt (64 : Nat) (0 : Int)),
                    V.u64 (BitVec.ofInt (64 : Nat) (0 : Int)), V.u64 (BitVec.ofInt (64 : Nat) (0 : Int)),
                    V.u64 (BitVec.ofInt (64 : Nat) (0 : Int)), V.u64 (BitVec.ofInt (64 : Nat) (0 : Int)),
                    V.str (bytesOf (ByteArray.mk #[])), V.nilSl],
                V.bool false]),
          [])))
    (Tr.chk
      (decide ((0 : Int) < (↑n : Int)) && (decide ((0 : Nat) < n) && true && true) &&
          (fuB (q.s (0 : Nat)) && true && true) &&
        true)
      (Tr.leaf
        (Fin.ret
            (V.tup
              [V.agg
                  [V.str (bytesOf (ByteArray.mk #[])), V.str (bytesOf (ByteArray.mk #[])),
                    V.u64 (BitVec.ofInt (64 : Nat) (0 : Int)), V.u64 (BitVec.ofInt (64 : Nat) (0 : Int)),
                    V.u64 (BitVec.ofInt (64 : Nat) (0 : Int)), V.u64 (BitVec.ofInt (64 : Nat) (0 : Int)),
                    V.u64 (BitVec.ofInt (64 : Nat) (0 : Int)), V.u64 (BitVec.ofInt (64 : Nat) (0 : Int)),
                    V.u64 (BitVec.ofInt (64 : Nat) (0 : Int)), V.u64 (BitVec.ofInt (64 : Nat) (0 : Int)),
                    V.u64 (BitVec.ofInt (64 : Nat) (0 : Int)), V.str (bytesOf (ByteArray.mk #[])),
                    V.int IntKind.i64 (0 : Int), V.str (bytesOf (ByteArray.mk #[])), V.str (bytesOf (ByteArray.mk #[])),
                    V.u64 (BitVec.ofInt (64 : Nat) (0 : Int)), V.u64 (BitVec.ofInt (64 : Nat) (0 : Int)),
                    V.u64 (BitVec.ofInt (64 : Nat) (0 : Int)), V.u64 (BitVec.ofInt (64 : Nat) (0 : Int)),
                    V.u64 (BitVec.ofInt (64 : Nat) (0 : Int)), V.u64 (BitVec.ofInt (64 : Nat) (0 : Int)),
                    V.u64 (BitVec.ofInt (64 : Nat) (0 : Int)), V.u64 (BitVec.ofInt (64 : Nat) (0 : Int)),
                    V.u64 (BitVec.ofInt (64 : Nat) (0 : Int)), V.u64 (BitVec.ofInt (64 : Nat) (0 : Int)),
                    V.u64 (BitVec.ofInt (64 : Nat) (0 : Int)), V.u64 (BitVec.ofInt (64 : Nat) (0 : Int)),
                    V.u64 (BitVec.ofInt (64 : Nat) (0 : Int)), V.u64 (BitVec.ofInt (64 : Nat) (0 : Int)),
                    V.str (bytesOf (ByteArray.mk #[])), V.nilSl],
                V.bool false]),
          [])))) := by kernel_rfl
theorem dE_x (f : List B) (n : Nat) (q : RW) (s : List B) : Tr.prune ((Tr.Sh.any.both
          (Tr.Sh.any.both Tr.Sh.any).r.r.r.r.r.r.r).r.r.r.r)
  (execBYE Pr (OnE f n q) noLoopsT (100 : Nat) Go.Proofs.Tryd.f9 (0 : Nat) (Tell.mk [] [] []) (Tell.mk [] [] [])
  (takeSeq (5 : Nat) (bodyOf Go.Proofs.Tryd.f9)) [((0 : Nat), V.str s)] []) =
  Tr.chk (dqB n q s && true && true && true)
  (Tr.br ((↑n : Int) == (0 : Int))
    (Tr.chk true
      (Tr.leaf
        (Sum.inl
          (Fin.ret
              (V.tup
                [V.agg
                    [V.str (bytesOf (ByteArray.mk #[])), V.str (bytesOf (ByteArray.mk #[])),
                      V.u64 (BitVec.ofInt (64 : Nat) (0 : Int)), V.u64 (BitVec.ofInt (64 : Nat) (0 : Int)),
                      V.u64 (BitVec.ofInt (64 : Nat) (0 : Int)), V.u64 (BitVec.ofInt (64 : Nat) (0 : Int)),
                      V.u64 (BitVec.ofInt (64 : Nat) (0 : Int)), V.u64 (BitVec.ofInt (64 : Nat) (0 : Int)),
                      V.u64 (BitVec.ofInt (64 : Nat) (0 : Int)), V.u64 (BitVec.ofInt (64 : Nat) (0 : Int)),
                      V.u64 (BitVec.ofInt (64 : Nat) (0 : Int)), V.str (bytesOf (ByteArray.mk #[])),
                      V.int IntKind.i64 (0 : Int), V.str (bytesOf (ByteArray.mk #[])),
                      V.str (bytesOf (ByteArray.mk #[])), V.u64 (BitVec.ofInt (64 : Nat) (0 : Int)),
                      V.u64 (BitVec.ofInt (64 : Nat) (0 : Int)), V.u64 (BitVec.ofInt (64 : Nat) (0 : Int)),
                      V.u64 (BitVec.ofInt (64 : Nat) (0 : Int)), V.u64 (BitVec.ofInt (64 : Nat) (0 : Int)),
                      V.u64 (BitVec.ofInt (64 : Nat) (0 : Int)), V.u64 (BitVec.ofInt (64 : Nat) (0 : Int)),
                      V.u64 (BitVec.ofInt (64 : Nat) (0 : Int)), V.u64 (BitVec.ofInt (64 : Nat) (0 : Int)),
                      V.u64 (BitVec.ofInt (64 : Nat) (0 : Int)), V.u64 (BitVec.ofInt (64 : Nat) (0 : Int)),
                      V.u64 (BitVec.ofInt (64 : Nat) (0 : Int)), V.u64 (BitVec.ofInt (64 : Nat) (0 : Int)),
                      V.u64 (BitVec.ofInt (64 : Nat) (0 : Int)), V.str (bytesOf (ByteArray.mk #[])), V.nilSl],
                  V.bool false]),
            []))))
    (Tr.chk
      (decide ((0 : Int) < (↑n : Int)) && (decide ((0 : Nat) < n) && true && true) &&
          (fkB f (q.s (0 : Nat)) && true && true) &&
        true)
      (Tr.br ((↑n : Int) != wrapI IntKind.i64 ((1 : Int) + (↑f.length : Int)))
        (Tr.chk true
          (Tr.leaf
            (Sum.inl
              (Fin.ret
                  (V.tup
                    [V.agg
                        [V.str (bytesOf (ByteArray.mk #[])), V.str (bytesOf (ByteArray.mk #[])),
                          V.u64 (BitVec.ofInt (64 : Nat) (0 : Int)), V.u64 (BitVec.ofInt (64 : Nat) (0 : Int)),
                          V.u64 (BitVec.ofInt (64 : Nat) (0 : Int)), V.u64 (BitVec.ofInt (64 : Nat) (0 : Int)),
                          V.u64 (BitVec.ofInt (64 : Nat) (0 : Int)), V.u64 (BitVec.ofInt (64 : Nat) (0 : Int)),
                          V.u64 (BitVec.ofInt (64 : Nat) (0 : Int)), V.u64 (BitVec.ofInt (64 : Nat) (0 : Int)),
                          V.u64 (BitVec.ofInt (64 : Nat) (0 : Int)), V.str (bytesOf (ByteArray.mk #[])),
                          V.int IntKind.i64 (0 : Int), V.str (bytesOf (ByteArray.mk #[])),
                          V.str (bytesOf (ByteArray.mk #[])), V.u64 (BitVec.ofInt (64 : Nat) (0 : Int)),
                          V.u64 (BitVec.ofInt (64 : Nat) (0 : Int)), V.u64 (BitVec.ofInt (64 : Nat) (0 : Int)),
                          V.u64 (BitVec.ofInt (64 : Nat) (0 : Int)), V.u64 (BitVec.ofInt (64 : Nat) (0 : Int)),
                          V.u64 (BitVec.ofInt (64 : Nat) (0 : Int)), V.u64 (BitVec.ofInt (64 : Nat) (0 : Int)),
                          V.u64 (BitVec.ofInt (64 : Nat) (0 : Int)), V.u64 (BitVec.ofInt (64 : Nat) (0 : Int)),
                          V.u64 (BitVec.ofInt (64 : Nat) (0 : Int)), V.u64 (BitVec.ofInt (64 : Nat) (0 : Int)),
                          V.u64 (BitVec.ofInt (64 : Nat) (0 : Int)), V.u64 (BitVec.ofInt (64 : Nat) (0 : Int)),
                          V.u64 (BitVec.ofInt (64 : Nat) (0 : Int)), V.str (bytesOf (ByteArray.mk #[])), V.nilSl],
                      V.bool false]),
                []))))
        (Tr.leaf (Sum.inr (X.normal, [], [])))))) := by kernel_rfl
end
end Go.Proofs.YtbgiickegljpoaaDoor.K
end
