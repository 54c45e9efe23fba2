/- Functions that the model itself answers: sums with a carry, counting bytes. -/
import Derived.Test.YtajbaocfdlopbaaLhAF
import Derived.Test.YtajbaocfdlopbaaWA
import Derived.Lib.Bytealg
set_option linter.unusedSimpArgs false
set_option linter.unusedVariables false
namespace Go.Lh
section
variable {P : Program}
theorem callFunc_extern {f : FuncId} {fn : Func} {e : Array Value → Sem Value} (hf : P.funcs[f]? = some fn) (hname : (fn.name == "runtime.NumGoroutine") = false) (hb : fn.body.isNone = true) (hn : Extern.findNext fn = none) (he : Extern.find fn = some e)
    {args : Array Value} {w w' : World} {v : Value} (hr : (e args).run P w = .ok v w') : (callFunc f args).run P w = .ok (.value v) w' := by
  simp only [callFunc, Sem.run_bind, run_program, Result.andThen_ok, hf, hname, Bool.false_eq_true, if_false, hb, if_true, run_mark, hn, he, hr, Sem.run_pure]

/-- one entry of an oracle for such functions -/
structure ExtAt (P : Program) (f : FuncId) (g : List V → Option (Bool × V)) : Prop where
  ok : ∀ args v, g args = some (true, v) → ∀ (I : Nat → Prop) (w : World) (ρ : Ren) (args' : List Value), VsRel I w ρ args args' → ∃ v', (callFunc f ⟨args'⟩).run P w = .ok (.value v') w ∧ VRel I w ρ v v'

def extL : List (FuncId × (List V → Option (Bool × V))) → FuncId → List V → Option (Bool × V)
  | [], _, _ => none
  | (i, g) :: r, f, args => if Nat.beq i f then g args else extL r f args
theorem extL_nil : ExtOk P (extL []) := fun f args v h => by simp [extL] at h
theorem extL_cons {i : FuncId} {g : List V → Option (Bool × V)} {r : List (FuncId × (List V → Option (Bool × V)))} (h : ExtAt P i g) (hr : ExtOk P (extL r)) : ExtOk P (extL ((i, g) :: r)) := by
  intro f args v hx
  simp only [extL] at hx
  split at hx
  · rename_i e
    have := Nat.eq_of_beq_eq_true e
    subst this
    exact h.ok args v hx
  · exact hr f args v hx

def addX : List V → Option (Bool × V)
  | [.u64 x, .u64 y, .u64 c] => some (decide (c.toNat ≤ 1), .tup [.u64 (sumC x y c), .u64 (outC x y c)])
  | _ => none
def subX : List V → Option (Bool × V)
  | [.u64 x, .u64 y, .u64 c] => some (decide (c.toNat ≤ 1), .tup [.u64 (difB x y c), .u64 (outB x y c)])
  | _ => none
def cntX : List V → Option (Bool × V)
  | [.str s, .u8 c] => some (true, .int .i64 (s.count c : Nat))
  | _ => none

theorem three_u64 {args' : List Value} {I : Nat → Prop} {w : World} {ρ : Ren} {x y c : BitVec 64} (h : VsRel I w ρ [.u64 x, .u64 y, .u64 c] args') : args' = [.int .u64 x.toNat, .int .u64 y.toNat, .int .u64 c.toNat] := by
  cases h with
  | cons _ _ _ _ _ h1 r =>
    cases h1
    cases r with
    | cons _ _ _ _ _ h2 r =>
      cases h2
      cases r with
      | cons _ _ _ _ _ h3 r => cases h3; cases r; rfl

theorem run_three {w : World} (nm : String) (x y c : Nat) (hc : c ≤ 1) : (Extern.MathBitsCarry.three nm ⟨[.int .u64 x, .int .u64 y, .int .u64 c]⟩).run P w = .ok (x, y, c) w := by
  have h1 : ¬ 1 < c := by omega
  change Sem.run P (do
    let c := (← asInt (.int .u64 c)).toNat
    if c > 1 then unsupported (.noEntry ("extern/math/bits." ++ nm ++ ": a carry that is neither 0 nor 1"))
    pure ((← asInt (.int .u64 x)).toNat, (← asInt (.int .u64 y)).toNat, c)) w = _
  simp [asInt, asIntOf]
  omega
theorem addX_at {f : FuncId} {fn : Func} (hf : P.funcs[f]? = some fn) (hname : (fn.name == "runtime.NumGoroutine") = false) (hb : fn.body.isNone = true) (hn : Extern.findNext fn = none)
    (he : Extern.find fn = some (fun args => do let (x, y, c) ← Extern.MathBitsCarry.three "Add64" args; pure (Extern.MathBitsCarry.pair ((x + y + c) % Extern.MathBitsCarry.m64) ((x + y + c) / Extern.MathBitsCarry.m64)))) : ExtAt P f addX := by
  refine ⟨fun args v hx I w ρ args' ha => ?_⟩
  unfold addX at hx
  split at hx <;> simp only [Option.some.injEq, Prod.mk.injEq, decide_eq_true_eq, reduceCtorEq] at hx
  rename_i x y c
  obtain ⟨hc, rfl⟩ := hx
  rw [three_u64 ha]
  refine ⟨.tuple #[.int .u64 (sumC x y c).toNat, .int .u64 (outC x y c).toNat], callFunc_extern hf hname hb hn he ?_, ?_⟩
  · rw [Sem.run_bind, run_three _ _ _ _ hc]
    simp [Extern.MathBitsCarry.pair, Extern.MathBitsCarry.m64, sumC_toNat, outC_toNat x y c hc]
  · exact .tup _ _ _ (.cons _ _ _ _ _ (.u64 _ _) (.cons _ _ _ _ _ (.u64 _ _) (.nil _)))
theorem subX_at {f : FuncId} {fn : Func} (hf : P.funcs[f]? = some fn) (hname : (fn.name == "runtime.NumGoroutine") = false) (hb : fn.body.isNone = true) (hn : Extern.findNext fn = none)
    (he : Extern.find fn = some (fun args => do let (x, y, b) ← Extern.MathBitsCarry.three "Sub64" args; pure (Extern.MathBitsCarry.pair ((x + Extern.MathBitsCarry.m64 - y - b) % Extern.MathBitsCarry.m64) (if x < y + b then 1 else 0)))) : ExtAt P f subX := by
  refine ⟨fun args v hx I w ρ args' ha => ?_⟩
  unfold subX at hx
  split at hx <;> simp only [Option.some.injEq, Prod.mk.injEq, decide_eq_true_eq, reduceCtorEq] at hx
  rename_i x y c
  obtain ⟨hc, rfl⟩ := hx
  rw [three_u64 ha]
  refine ⟨.tuple #[.int .u64 (difB x y c).toNat, .int .u64 (outB x y c).toNat], callFunc_extern hf hname hb hn he ?_, ?_⟩
  · have e : (x.toNat + 2 ^ 65 - y.toNat - c.toNat) % 2 ^ 64 = (x.toNat + 2 ^ 64 - y.toNat - c.toNat) % 2 ^ 64 := by have := x.isLt; have := y.isLt; omega
    rw [Sem.run_bind, run_three _ _ _ _ hc]
    simp only [Result.andThen_ok, Sem.run_pure, Extern.MathBitsCarry.pair, Extern.MathBitsCarry.m64, difB_toNat x y c hc, outB_toNat x y c hc, e]
    split <;> rfl
  · exact .tup _ _ _ (.cons _ _ _ _ _ (.u64 _ _) (.cons _ _ _ _ _ (.u64 _ _) (.nil _)))
theorem count_bytes (s : ByteArray) (c : BitVec 8) : (bytesOf s).count c = Lib.countByte s.data.toList (((c.toNat : Int).toNat).toUInt8) := by
  unfold bytesOf Lib.countByte
  rw [Int.toNat_natCast]
  have hc : c.toNat.toUInt8.toBitVec = c := by
    apply BitVec.eq_of_toNat_eq
    simp
  induction s.data.toList with
  | nil => rfl
  | cons b l ih =>
    rw [List.map_cons, List.count_cons, List.count_cons, ih]
    have : (b.toBitVec == c) = (b == c.toNat.toUInt8) := by
      rw [Bool.eq_iff_iff, beq_iff_eq, beq_iff_eq]
      constructor
      · intro h; apply UInt8.toBitVec_inj.1; rw [hc]; exact h
      · intro h; rw [h]; exact hc
    rw [this]
theorem cntX_at {f : FuncId} {fn : Func} (hf : P.funcs[f]? = some fn) (hname : (fn.name == "runtime.NumGoroutine") = false) (hb : fn.body.isNone = true) (hn : Extern.findNext fn = none)
    (he : Extern.find fn = some Extern.BytealgCount.count) : ExtAt P f cntX := by
  refine ⟨fun args v hx I w ρ args' ha => ?_⟩
  unfold cntX at hx
  split at hx <;> simp only [Option.some.injEq, Prod.mk.injEq, true_and, reduceCtorEq] at hx
  rename_i s c
  subst hx
  cases ha with
  | cons _ _ _ _ _ h1 r =>
    cases h1 with
    | str _ s =>
      cases r with
      | cons _ _ _ _ _ h2 r =>
        cases h2
        cases r
        refine ⟨_, callFunc_extern hf hname hb hn he (Lib.run_countString s _ w), ?_⟩
        rw [count_bytes]
        exact .int _ _ _ rfl
end
end Go.Lh
