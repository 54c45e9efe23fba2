import Derived.Test.YtggblpmijekemaaK4
set_option linter.unusedSimpArgs false
set_option linter.unusedVariables false
open Go Go.Lh
namespace Go.Proofs.Ytggblpmijekemaa.K
noncomputable section
set_option maxRecDepth 100000
def exG (args : List V) (h : Heap) : Option (Bool × Fin × Heap) :=
  match args, h with
  | [.str []], [] => some (true, .ret (.str e_out), [])
  | [.str [a, b, c]], [] => some (decide (a = 97#8) && decide (b = 98#8) && decide (c = 99#8), .ret (.str a_out), [])
  | _, _ => none
theorem sum_fn (s : List (BitVec 8)) (h : s.length ≤ 1000000000000) : LFn Pr 9 [.str s] [] (.ret (.str (sumO s))) [] :=
  sumG_sound _ _ _ _ (by simp [sumG, h])
theorem exG_sound : ∀ args h fin h', exG args h = some (true, fin, h') → LFn Pr 9 args h fin h' := by
  intro args h fin h' hg
  unfold exG at hg
  split at hg <;> simp only [Option.some.injEq, Prod.mk.injEq, Bool.and_eq_true, decide_eq_true_eq, true_and, reduceCtorEq] at hg
  · obtain ⟨rfl, rfl⟩ := hg
    have := sum_fn e_in (by simp [e_in])
    rw [e_sum] at this
    exact this
  · obtain ⟨⟨⟨rfl, rfl⟩, rfl⟩, rfl, rfl⟩ := hg
    have := sum_fn a_in (by simp [a_in])
    rw [a_sum] at this
    exact this
def OX : Orc := know noOrc 9 exG
theorem OX_sound : OrcSound Pr OX := know_sound (noOrc_sound _) (enters_of f9_at (by kernel_rfl) (by kernel_rfl)) exG_sound
theorem f8_at : Pr.funcs[8]? = some Go.Proofs.Try.f8 := by kernel_rfl
theorem ex_exec : execF Pr OX noLoops 100 Go.Proofs.Try.f8 [] [] = some (true, .ret (.bool true), []) := by kernel_rfl
theorem ex_fn : LFn Pr 8 [] [] (.ret (.bool true)) [] := execF_sound OX_sound mixed f8_at (fun _ _ _ _ => LoopOk.none) ex_exec
def ex0G (args : List V) (h : Heap) : Option (Bool × Fin × Heap) :=
  match args, h with
  | [], [] => some (true, .ret (.bool true), [])
  | _, _ => none
theorem ex0G_sound : ∀ args h fin h', ex0G args h = some (true, fin, h') → LFn Pr 8 args h fin h' := by
  intro args h fin h' hg
  unfold ex0G at hg
  split at hg <;> simp only [Option.some.injEq, Prod.mk.injEq, true_and, reduceCtorEq] at hg
  obtain ⟨rfl, rfl⟩ := hg
  exact ex_fn
/-- all that is known of keccak's functions -/
def OE : Orc := know OK 8 ex0G
theorem OE_sound : OrcSound Pr OE := know_sound OK_sound (enters_of f8_at (by kernel_rfl) (by kernel_rfl)) ex0G_sound
end
end Go.Proofs.Ytggblpmijekemaa.K
