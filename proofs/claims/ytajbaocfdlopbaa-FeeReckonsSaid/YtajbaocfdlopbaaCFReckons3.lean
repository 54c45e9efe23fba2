/- The functions that this law reaches: what each comes to. -/
import Derived.Test.YtajbaocfdlopbaaCFReckons2
set_option linter.unusedSimpArgs false
set_option linter.unusedVariables false
section
open Go Go.Lh
namespace Go.Proofs.Ytajbaocfdlopbaa.K
noncomputable section
set_option maxRecDepth 100000
theorem dig_hi {y i : Nat} (hy : y < 256 ^ 32) (hi : 32 ≤ i) : W4.dig y i = 0 := by
  have : y / 256 ^ i = 0 := Nat.div_eq_of_lt (Nat.lt_of_lt_of_le hy (Nat.pow_le_pow_right (by decide) hi))
  rw [W4.dig, this]; rfl
theorem noY {c X : Nat} (hc : c ≤ 1) : wrapI .i64 (wrapI .i64 ((c : Int) + ((X % 256 : Nat) : Int)) + 0) = wrapI .i64 ((c : Int) + ((X % 256 : Nat) : Int)) := by
  rw [Int.add_zero, wrapI_in (x := (c : Int) + _) (by omega) (by omega), wrapI_in (by omega) (by omega)]
theorem sumC2_eq {x y : Nat} (hy : y < 256 ^ 32) : ∀ i, sumC2 (W4.dig x) (W4.dig y) i = W4.sumC (W4.dig x) (W4.dig y) i
  | 0 => rfl
  | i + 1 => by
    rw [sumC2, W4.sumC, sumC2_eq hy i]
    cases h : Nat.blt i 32 with
    | true => rfl
    | false =>
      have hi : 32 ≤ i := by
        rcases Nat.lt_or_ge i 32 with h0 | h0
        · rw [← Nat.blt_eq] at h0; rw [h0] at h; cases h
        · exact h0
      obtain ⟨c, h1, h2, _⟩ := W4.sumC_dig x y i
      rw [cond_false, dig_hi hy hi, h2, W4.dig, noY h1]
theorem sumO2_eq {x y : Nat} (hy : y < 256 ^ 32) (i : Nat) : sumO2 (W4.dig x) (W4.dig y) i = W4.sumO (W4.dig x) (W4.dig y) i := by
  rw [sumO2, W4.sumO, sumC2_eq hy i]
  cases h : Nat.blt i 32 with
  | true => rfl
  | false =>
    have hi : 32 ≤ i := by
      rcases Nat.lt_or_ge i 32 with h0 | h0
      · rw [← Nat.blt_eq] at h0; rw [h0] at h; cases h
      · exact h0
    obtain ⟨c, h1, h2, _⟩ := W4.sumC_dig x y i
    rw [cond_false, dig_hi hy hi, h2, W4.dig, noY h1]
theorem sum2_fn (x y : Nat) (hy : y < 256 ^ 32) : LFn Pr 99 [.sl 0 0 1 64 (some 64), .sl 1 0 1 32 none] [.ints (W4.dg 64 x), .ints (W4.dg 32 y)] (.ret (.sl 2 0 1 64 none)) [.ints (W4.dg 64 x), .ints (W4.dg 32 y), .ints (W4.dg 64 (x + y))] := by
  have h := sumf2_fn (W4.dig x) (W4.dig y)
  have e : (List.range 64).map (sumO2 (W4.dig x) (W4.dig y)) = W4.dg 64 (x + y) := by
    rw [← W4.sumO_dg]
    exact List.map_congr_left (fun i _ => sumO2_eq hy i)
  rw [e] at h
  exact h
def readD64 : List V → Heap → Option (List Int × List Int) := fun args h => match args, h with
  | [.sl 0 0 1 64 (some 64), .sl 1 0 1 32 none], [.ints xs, .ints ys] => some (xs, ys)
  | _, _ => none
def sum2_g : List V → Heap → Tr (Fin × Heap) := ctT readD64 (fun a => .chk (W4.isD 64 a.1 && W4.isD 32 a.2) (.leaf (.ret (.sl 2 0 1 64 none), [.ints a.1, .ints a.2, .ints (W4.dg 64 (W4.valI a.1 + W4.valI a.2))])))
theorem sum2_ok : ∀ args h r, (sum2_g args h).is r → LFn Pr 99 args h r.1 r.2 := by
  refine ctT_ok (fun _ => [.sl 0 0 1 64 (some 64), .sl 1 0 1 32 none]) (fun a => [.ints a.1, .ints a.2]) ?_ (fun a r h => ?_)
  · intro args h a e
    unfold readD64 at e
    split at e <;> cases e
    exact ⟨rfl, rfl⟩
  · obtain ⟨xs, ys⟩ := a
    rw [Tr.is_chk, Tr.is_leaf] at h
    obtain ⟨h, rfl⟩ := h
    simp only [Bool.and_eq_true, W4.isD_iff] at h
    have h2 : W4.valI ys < 256 ^ 32 := by rw [h.2, W4.valI_dg]; exact Nat.mod_lt _ (by decide)
    have := sum2_fn (W4.valI xs) (W4.valI ys) h2
    rw [← h.1, ← h.2] at this
    exact this
def KR9 : KnownT := (99, sum2_g) :: KR8
theorem KR9_ok : KOkT Pr KR9 := KOkT.cons sum_en sum2_ok KR8_ok
def OR9 : OrcT := autoT Pr ext KR9 [75] 4
theorem OR9_sound : OrcSound Pr OR9.o := autoT_sound mixed ext_ok KR9_ok (by kernel_rfl) 4
theorem rmost_x (x : E.TX) : Tr.prune ((Tr.Sh.any.both
    (Tr.Sh.any.both
        (Tr.Sh.any.both
            (Tr.Sh.any.both
                (Tr.Sh.any.both
                    (Tr.Sh.any.both
                        (Tr.Sh.any.both
                            (Tr.Sh.any.both
                                (Tr.Sh.any.both
                                    (Tr.Sh.any.both
                                        (Tr.Sh.any.both
                                            (Tr.Sh.any.both
                                                (Tr.Sh.any.both
                                                    (Tr.Sh.any.both
                                                        (Tr.Sh.any.both
                                                            (Tr.Sh.any.both
                                                                (Tr.Sh.any.both
                                                                    (Tr.Sh.any.both
                                                                        (Tr.Sh.any.both
                                                                            (Tr.Sh.any.both
                                                                                (Tr.Sh.any.both
                                                                                    (Tr.Sh.any.both
                                                                                        (Tr.Sh.any.both
                                                                                            (Tr.Sh.any.both
                                                                                                (Tr.Sh.any.both
                                                                                                    (Tr.Sh.any.both
                                                                                                        (Tr.Sh.any.both
                                                                                                            (Tr.Sh.any.both
                                                                                                                (Tr.Sh.any.both
                                                                                                                    (Tr.Sh.any.both
                                                                                                                        (Tr.Sh.any.both
                                                                                                                            (Tr.Sh.any.both
                                                                                                                                Tr.Sh.any.r).l).l).l).l).l).l).l).l).l).l).l).l).l).l).l).l).l).l).l).l).l).l).l).l).l).l).l).l).l).l).l).l)
  (execBF Pr OR9 noLoopsT (100 : Nat) Go.Proofs.Try.f54 [x.val] []) =
  Tr.chk
  (W4.isD (32 : Nat) (W4.dg (32 : Nat) x.p.n) &&
          W4.isD (32 : Nat)
            (W4.dg (32 : Nat)
              (W4.mk (BitVec.ofInt (64 : Nat) (0 : Int)) (BitVec.ofInt (64 : Nat) (0 : Int))
                  (BitVec.ofInt (64 : Nat) (0 : Int)) x.g).n) &&
        true &&
      (W4.isD (64 : Nat)
              (W4.dg (64 : Nat)
                (W4.valI (W4.dg (32 : Nat) x.p.n) *
                  W4.valI
                    (W4.dg (32 : Nat)
                      (W4.mk (BitVec.ofInt (64 : Nat) (0 : Int)) (BitVec.ofInt (64 : Nat) (0 : Int))
                          (BitVec.ofInt (64 : Nat) (0 : Int)) x.g).n))) &&
            W4.isD (32 : Nat) (W4.dg (32 : Nat) x.v.n) &&
          true &&
        true) &&
    true)
  (Tr.br
    ((↑((W4.valI
                  (W4.dg (64 : Nat)
                    (W4.valI (W4.dg (32 : Nat) x.p.n) *
                      W4.valI
                        (W4.dg (32 : Nat)
                          (W4.mk (BitVec.ofInt (64 : Nat) (0 : Int)) (BitVec.ofInt (64 : Nat) (0 : Int))
                              (BitVec.ofInt (64 : Nat) (0 : Int)) x.g).n))) +
                W4.valI (W4.dg (32 : Nat) x.v.n)) /
              (115792089237316195423570985008687907853269984665640564039457584007913129639936 : Nat) %
            (256 : Nat)) :
        Int) !=
      (0 : Int))
    (Tr.chk true
      (Tr.leaf
        (Fin.ret
            (V.tup
              [V.agg
                  [V.u64 (BitVec.ofInt (64 : Nat) (0 : Int)), V.u64 (BitVec.ofInt (64 : Nat) (0 : Int)),
                    V.u64 (BitVec.ofInt (64 : Nat) (0 : Int)), V.u64 (BitVec.ofInt (64 : Nat) (0 : Int))],
                V.bool false]),
          [])))
    (Tr.chk true
      (Tr.br
        ((↑((W4.valI
                      (W4.dg (64 : Nat)
                        (W4.valI (W4.dg (32 : Nat) x.p.n) *
                          W4.valI
                            (W4.dg (32 : Nat)
                              (W4.mk (BitVec.ofInt (64 : Nat) (0 : Int)) (BitVec.ofInt (64 : Nat) (0 : Int))
                                  (BitVec.ofInt (64 : Nat) (0 : Int)) x.g).n))) +
                    W4.valI (W4.dg (32 : Nat) x.v.n)) /
                  (29642774844752946028434172162224104410437116074403984394101141506025761187823616 : Nat) %
                (256 : Nat)) :
            Int) !=
          (0 : Int))
        (Tr.chk true
          (Tr.leaf
            (Fin.ret
                (V.tup
                  [V.agg
                      [V.u64 (BitVec.ofInt (64 : Nat) (0 : Int)), V.u64 (BitVec.ofInt (64 : Nat) (0 : Int)),
                        V.u64 (BitVec.ofInt (64 : Nat) (0 : Int)), V.u64 (BitVec.ofInt (64 : Nat) (0 : Int))],
                    V.bool false]),
              [])))
        (Tr.chk true
          (Tr.br
            ((↑((W4.valI
                          (W4.dg (64 : Nat)
                            (W4.valI (W4.dg (32 : Nat) x.p.n) *
                              W4.valI
                                (W4.dg (32 : Nat)
                                  (W4.mk (BitVec.ofInt (64 : Nat) (0 : Int)) (BitVec.ofInt (64 : Nat) (0 : Int))
                                      (BitVec.ofInt (64 : Nat) (0 : Int)) x.g).n))) +
                        W4.valI (W4.dg (32 : Nat) x.v.n)) /
                      (7588550360256754183279148073529370729071901715047420004889892225542594864082845696 : Nat) %
                    (256 : Nat)) :
                Int) !=
              (0 : Int))
            (Tr.chk true
              (Tr.leaf
                (Fin.ret
                    (V.tup
                      [V.agg
                          [V.u64 (BitVec.ofInt (64 : Nat) (0 : Int)), V.u64 (BitVec.ofInt (64 : Nat) (0 : Int)),
                            V.u64 (BitVec.ofInt (64 : Nat) (0 : Int)), V.u64 (BitVec.ofInt (64 : Nat) (0 : Int))],
                        V.bool false]),
                  [])))
            (Tr.chk true
              (Tr.br
                ((↑((W4.valI
                              (W4.dg (64 : Nat)
                                (W4.valI (W4.dg (32 : Nat) x.p.n) *
                                  W4.valI
                                    (W4.dg (32 : Nat)
                                      (W4.mk (BitVec.ofInt (64 : Nat) (0 : Int)) (BitVec.ofInt (64 : Nat) (0 : Int))
                                          (BitVec.ofInt (64 : Nat) (0 : Int)) x.g).n))) +
                            W4.valI (W4.dg (32 : Nat) x.v.n)) /
                          (1942668892225729070919461906823518906642406839052139521251812409738904285205208498176 :
                            Nat) %
                        (256 : Nat)) :
                    Int) !=
                  (0 : Int))
                (Tr.chk true
                  (Tr.leaf
                    (Fin.ret
                        (V.tup
                          [V.agg
                              [V.u64 (BitVec.ofInt (64 : Nat) (0 : Int)), V.u64 (BitVec.ofInt (64 : Nat) (0 : Int)),
                                V.u64 (BitVec.ofInt (64 : Nat) (0 : Int)), V.u64 (BitVec.ofInt (64 : Nat) (0 : Int))],
                            V.bool false]),
                      [])))
                (Tr.chk true
                  (Tr.br
                    ((↑((W4.valI
                                  (W4.dg (64 : Nat)
                                    (W4.valI (W4.dg (32 : Nat) x.p.n) *
                                      W4.valI
                                        (W4.dg (32 : Nat)
                                          (W4.mk (BitVec.ofInt (64 : Nat) (0 : Int)) (BitVec.ofInt (64 : Nat) (0 : Int))
                                              (BitVec.ofInt (64 : Nat) (0 : Int)) x.g).n))) +
                                W4.valI (W4.dg (32 : Nat) x.v.n)) /
                              (497323236409786642155382248146820840100456150797347717440463976893159497012533375533056 :
                                Nat) %
                            (256 : Nat)) :
                        Int) !=
                      (0 : Int))
                    (Tr.chk true
                      (Tr.leaf
                        (Fin.ret
                            (V.tup
                              [V.agg
                                  [V.u64 (BitVec.ofInt (64 : Nat) (0 : Int)), V.u64 (BitVec.ofInt (64 : Nat) (0 : Int)),
                                    V.u64 (BitVec.ofInt (64 : Nat) (0 : Int)),
                                    V.u64 (BitVec.ofInt (64 : Nat) (0 : Int))],
                                V.bool false]),
                          [])))
                    (Tr.chk true
                      (Tr.br
                        ((↑((W4.valI
                                      (W4.dg (64 : Nat)
                                        (W4.valI (W4.dg (32 : Nat) x.p.n) *
                                          W4.valI
                                            (W4.dg (32 : Nat)
                                              (W4.mk (BitVec.ofInt (64 : Nat) (0 : Int))
                                                  (BitVec.ofInt (64 : Nat) (0 : Int))
                                                  (BitVec.ofInt (64 : Nat) (0 : Int)) x.g).n))) +
                                    W4.valI (W4.dg (32 : Nat) x.v.n)) /
                                  (127314748520905380391777855525586135065716774604121015664758778084648831235208544136462336 :
                                    Nat) %
                                (256 : Nat)) :
                            Int) !=
                          (0 : Int))
                        (Tr.chk true
                          (Tr.leaf
                            (Fin.ret
                                (V.tup
                                  [V.agg
                                      [V.u64 (BitVec.ofInt (64 : Nat) (0 : Int)),
                                        V.u64 (BitVec.ofInt (64 : Nat) (0 : Int)),
                                        V.u64 (BitVec.ofInt (64 : Nat) (0 : Int)),
                                        V.u64 (BitVec.ofInt (64 : Nat) (0 : Int))],
                                    V.bool false]),
                              [])))
                        (Tr.chk true
                          (Tr.br
                            ((↑((W4.valI
                                          (W4.dg (64 : Nat)
                                            (W4.valI (W4.dg (32 : Nat) x.p.n) *
                                              W4.valI
                                                (W4.dg (32 : Nat)
                                                  (W4.mk (BitVec.ofInt (64 : Nat) (0 : Int))
                                                      (BitVec.ofInt (64 : Nat) (0 : Int))
                                                      (BitVec.ofInt (64 : Nat) (0 : Int)) x.g).n))) +
                                        W4.valI (W4.dg (32 : Nat) x.v.n)) /
                                      (32592575621351777380295131014550050576823494298654980010178247189670100796213387298934358016 :
                                        Nat) %
                                    (256 : Nat)) :
                                Int) !=
                              (0 : Int))
                            (Tr.chk true
                              (Tr.leaf
                                (Fin.ret
                                    (V.tup
                                      [V.agg
                                          [V.u64 (BitVec.ofInt (64 : Nat) (0 : Int)),
                                            V.u64 (BitVec.ofInt (64 : Nat) (0 : Int)),
                                            V.u64 (BitVec.ofInt (64 : Nat) (0 : Int)),
                                            V.u64 (BitVec.ofInt (64 : Nat) (0 : Int))],
                                        V.bool false]),
                                  [])))
                            (Tr.chk true
                              (Tr.br
                                ((↑((W4.valI
                                              (W4.dg (64 : Nat)
                                                (W4.valI (W4.dg (32 : Nat) x.p.n) *
                                                  W4.valI
                                                    (W4.dg (32 : Nat)
                                                      (W4.mk (BitVec.ofInt (64 : Nat) (0 : Int))
                                                          (BitVec.ofInt (64 : Nat) (0 : Int))
                                                          (BitVec.ofInt (64 : Nat) (0 : Int)) x.g).n))) +
                                            W4.valI (W4.dg (32 : Nat) x.v.n)) /
                                          (8343699359066055009355553539724812947666814540455674882605631280555545803830627148527195652096 :
                                            Nat) %
                                        (256 : Nat)) :
                                    Int) !=
                                  (0 : Int))
                                (Tr.chk true
                                  (Tr.leaf
                                    (Fin.ret
                                        (V.tup
                                          [V.agg
                                              [V.u64 (BitVec.ofInt (64 : Nat) (0 : Int)),
                                                V.u64 (BitVec.ofInt (64 : Nat) (0 : Int)),
                                                V.u64 (BitVec.ofInt (64 : Nat) (0 : Int)),
                                                V.u64 (BitVec.ofInt (64 : Nat) (0 : Int))],
                                            V.bool false]),
                                      [])))
                                (Tr.chk true
                                  (Tr.br
                                    ((↑((W4.valI
                                                  (W4.dg (64 : Nat)
                                                    (W4.valI (W4.dg (32 : Nat) x.p.n) *
                                                      W4.valI
                                                        (W4.dg (32 : Nat)
                                                          (W4.mk (BitVec.ofInt (64 : Nat) (0 : Int))
                                                              (BitVec.ofInt (64 : Nat) (0 : Int))
                                                              (BitVec.ofInt (64 : Nat) (0 : Int)) x.g).n))) +
                                                W4.valI (W4.dg (32 : Nat) x.v.n)) /
                                              (2135987035920910082395021706169552114602704522356652769947041607822219725780640550022962086936576 :
                                                Nat) %
                                            (256 : Nat)) :
                                        Int) !=
                                      (0 : Int))
                                    (Tr.chk true
                                      (Tr.leaf
                                        (Fin.ret
                                            (V.tup
                                              [V.agg
                                                  [V.u64 (BitVec.ofInt (64 : Nat) (0 : Int)),
                                                    V.u64 (BitVec.ofInt (64 : Nat) (0 : Int)),
                                                    V.u64 (BitVec.ofInt (64 : Nat) (0 : Int)),
                                                    V.u64 (BitVec.ofInt (64 : Nat) (0 : Int))],
                                                V.bool false]),
                                          [])))
                                    (Tr.chk true
                                      (Tr.br
                                        ((↑((W4.valI
                                                      (W4.dg (64 : Nat)
                                                        (W4.valI (W4.dg (32 : Nat) x.p.n) *
                                                          W4.valI
                                                            (W4.dg (32 : Nat)
                                                              (W4.mk (BitVec.ofInt (64 : Nat) (0 : Int))
                                                                  (BitVec.ofInt (64 : Nat) (0 : Int))
                                                                  (BitVec.ofInt (64 : Nat) (0 : Int)) x.g).n))) +
                                                    W4.valI (W4.dg (32 : Nat) x.v.n)) /
                                                  (546812681195752981093125556779405341338292357723303109106442651602488249799843980805878294255763456 :
                                                    Nat) %
                                                (256 : Nat)) :
                                            Int) !=
                                          (0 : Int))
                                        (Tr.chk true
                                          (Tr.leaf
                                            (Fin.ret
                                                (V.tup
                                                  [V.agg
                                                      [V.u64 (BitVec.ofInt (64 : Nat) (0 : Int)),
                                                        V.u64 (BitVec.ofInt (64 : Nat) (0 : Int)),
                                                        V.u64 (BitVec.ofInt (64 : Nat) (0 : Int)),
                                                        V.u64 (BitVec.ofInt (64 : Nat) (0 : Int))],
                                                    V.bool false]),
                                              [])))
                                        (Tr.chk true
                                          (Tr.br
                                            ((↑((W4.valI
                                                          (W4.dg (64 : Nat)
                                                            (W4.valI (W4.dg (32 : Nat) x.p.n) *
                                                              W4.valI
                                                                (W4.dg (32 : Nat)
                                                                  (W4.mk (BitVec.ofInt (64 : Nat) (0 : Int))
                                                                      (BitVec.ofInt (64 : Nat) (0 : Int))
                                                                      (BitVec.ofInt (64 : Nat) (0 : Int)) x.g).n))) +
                                                        W4.valI (W4.dg (32 : Nat) x.v.n)) /
                                                      (139984046386112763159840142535527767382602843577165595931249318810236991948760059086304843329475444736 :
                                                        Nat) %
                                                    (256 : Nat)) :
                                                Int) !=
                                              (0 : Int))
                                            (Tr.chk true
                                              (Tr.leaf
                                                (Fin.ret
                                                    (V.tup
                                                      [V.agg
                                                          [V.u64 (BitVec.ofInt (64 : Nat) (0 : Int)),
                                                            V.u64 (BitVec.ofInt (64 : Nat) (0 : Int)),
                                                            V.u64 (BitVec.ofInt (64 : Nat) (0 : Int)),
                                                            V.u64 (BitVec.ofInt (64 : Nat) (0 : Int))],
                                                        V.bool false]),
                                                  [])))
                                            (Tr.chk true
                                              (Tr.br
                                                ((↑((W4.valI
                                                              (W4.dg (64 : Nat)
                                                                (W4.valI (W4.dg (32 : Nat) x.p.n) *
                                                                  W4.valI
                                                                    (W4.dg (32 : Nat)
                                                                      (W4.mk (BitVec.ofInt (64 : Nat) (0 : Int))
                                                                          (BitVec.ofInt (64 : Nat) (0 : Int))
                                                                          (BitVec.ofInt (64 : Nat) (0 : Int))
                                                                          x.g).n))) +
                                                            W4.valI (W4.dg (32 : Nat) x.v.n)) /
                                                          (35835915874844867368919076489095108449946327955754392558399825615420669938882575126094039892345713852416 :
                                                            Nat) %
                                                        (256 : Nat)) :
                                                    Int) !=
                                                  (0 : Int))
                                                (Tr.chk true
                                                  (Tr.leaf
                                                    (Fin.ret
                                                        (V.tup
                                                          [V.agg
                                                              [V.u64 (BitVec.ofInt (64 : Nat) (0 : Int)),
                                                                V.u64 (BitVec.ofInt (64 : Nat) (0 : Int)),
                                                                V.u64 (BitVec.ofInt (64 : Nat) (0 : Int)),
                                                                V.u64 (BitVec.ofInt (64 : Nat) (0 : Int))],
                                                            V.bool false]),
                                                      [])))
                                                (Tr.chk true
                                                  (Tr.br
                                                    ((↑((W4.valI
                                                                  (W4.dg (64 : Nat)
                                                                    (W4.valI (W4.dg (32 : Nat) x.p.n) *
                                                                      W4.valI
                                                                        (W4.dg (32 : Nat)
                                                                          (W4.mk (BitVec.ofInt (64 : Nat) (0 : Int))
                                                                              (BitVec.ofInt (64 : Nat) (0 : Int))
                                                                              (BitVec.ofInt (64 : Nat) (0 : Int))
                                                                              x.g).n))) +
                                                                W4.valI (W4.dg (32 : Nat) x.v.n)) /
                                                              (9173994463960286046443283581208347763186259956673124494950355357547691504353939232280074212440502746218496 :
                                                                Nat) %
                                                            (256 : Nat)) :
                                                        Int) !=
                                                      (0 : Int))
                                                    (Tr.chk true
                                                      (Tr.leaf
                                                        (Fin.ret
                                                            (V.tup
                                                              [V.agg
                                                                  [V.u64 (BitVec.ofInt (64 : Nat) (0 : Int)),
                                                                    V.u64 (BitVec.ofInt (64 : Nat) (0 : Int)),
                                                                    V.u64 (BitVec.ofInt (64 : Nat) (0 : Int)),
                                                                    V.u64 (BitVec.ofInt (64 : Nat) (0 : Int))],
                                                                V.bool false]),
                                                          [])))
                                                    (Tr.chk true
                                                      (Tr.br
                                                        ((↑((W4.valI
                                                                      (W4.dg (64 : Nat)
                                                                        (W4.valI (W4.dg (32 : Nat) x.p.n) *
                                                                          W4.valI
                                                                            (W4.dg (32 : Nat)
                                                                              (W4.mk (BitVec.ofInt (64 : Nat) (0 : Int))
                                                                                  (BitVec.ofInt (64 : Nat) (0 : Int))
                                                                                  (BitVec.ofInt (64 : Nat) (0 : Int))
                                                                                  x.g).n))) +
                                                                    W4.valI (W4.dg (32 : Nat) x.v.n)) /
                                                                  (2348542582773833227889480596789337027375682548908319870707290971532209025114608443463698998384768703031934976 :
                                                                    Nat) %
                                                                (256 : Nat)) :
                                                            Int) !=
                                                          (0 : Int))
                                                        (Tr.chk true
                                                          (Tr.leaf
                                                            (Fin.ret
                                                                (V.tup
                                                                  [V.agg
                                                                      [V.u64 (BitVec.ofInt (64 : Nat) (0 : Int)),
                                                                        V.u64 (BitVec.ofInt (64 : Nat) (0 : Int)),
                                                                        V.u64 (BitVec.ofInt (64 : Nat) (0 : Int)),
                                                                        V.u64 (BitVec.ofInt (64 : Nat) (0 : Int))],
                                                                    V.bool false]),
                                                              [])))
                                                        (Tr.chk true
                                                          (Tr.br
                                                            ((↑((W4.valI
                                                                          (W4.dg (64 : Nat)
                                                                            (W4.valI (W4.dg (32 : Nat) x.p.n) *
                                                                              W4.valI
                                                                                (W4.dg (32 : Nat)
                                                                                  (W4.mk
                                                                                      (BitVec.ofInt (64 : Nat)
                                                                                        (0 : Int))
                                                                                      (BitVec.ofInt (64 : Nat)
                                                                                        (0 : Int))
                                                                                      (BitVec.ofInt (64 : Nat)
                                                                                        (0 : Int))
                                                                                      x.g).n))) +
                                                                        W4.valI (W4.dg (32 : Nat) x.v.n)) /
                                                                      (601226901190101306339707032778070279008174732520529886901066488712245510429339761526706943586500787976175353856 :
                                                                        Nat) %
                                                                    (256 : Nat)) :
                                                                Int) !=
                                                              (0 : Int))
                                                            (Tr.chk true
                                                              (Tr.leaf
                                                                (Fin.ret
                                                                    (V.tup
                                                                      [V.agg
                                                                          [V.u64 (BitVec.ofInt (64 : Nat) (0 : Int)),
                                                                            V.u64 (BitVec.ofInt (64 : Nat) (0 : Int)),
                                                                            V.u64 (BitVec.ofInt (64 : Nat) (0 : Int)),
                                                                            V.u64 (BitVec.ofInt (64 : Nat) (0 : Int))],
                                                                        V.bool false]),
                                                                  [])))
                                                            (Tr.chk true
                                                              (Tr.br
                                                                ((↑((W4.valI
                                                                              (W4.dg (64 : Nat)
                                                                                (W4.valI (W4.dg (32 : Nat) x.p.n) *
                                                                                  W4.valI
                                                                                    (W4.dg (32 : Nat)
                                                                                      (W4.mk
                                                                                          (BitVec.ofInt (64 : Nat)
                                                                                            (0 : Int))
                                                                                          (BitVec.ofInt (64 : Nat)
                                                                                            (0 : Int))
                                                                                          (BitVec.ofInt (64 : Nat)
                                                                                            (0 : Int))
                                                                                          x.g).n))) +
                                                                            W4.valI (W4.dg (32 : Nat) x.v.n)) /
                                                                          (153914086704665934422965000391185991426092731525255651046673021110334850669910978950836977558144201721900890587136 :
                                                                            Nat) %
                                                                        (256 : Nat)) :
                                                                    Int) !=
                                                                  (0 : Int))
                                                                (Tr.chk true
                                                                  (Tr.leaf
                                                                    (Fin.ret
                                                                        (V.tup
                                                                          [V.agg
                                                                              [V.u64
                                                                                  (BitVec.ofInt (64 : Nat) (0 : Int)),
                                                                                V.u64
                                                                                  (BitVec.ofInt (64 : Nat) (0 : Int)),
                                                                                V.u64
                                                                                  (BitVec.ofInt (64 : Nat) (0 : Int)),
                                                                                V.u64
                                                                                  (BitVec.ofInt (64 : Nat) (0 : Int))],
                                                                            V.bool false]),
                                                                      [])))
                                                                (Tr.chk true
                                                                  (Tr.br
                                                                    ((↑((W4.valI
                                                                                  (W4.dg (64 : Nat)
                                                                                    (W4.valI (W4.dg (32 : Nat) x.p.n) *
                                                                                      W4.valI
                                                                                        (W4.dg (32 : Nat)
                                                                                          (W4.mk
                                                                                              (BitVec.ofInt (64 : Nat)
                                                                                                (0 : Int))
                                                                                              (BitVec.ofInt (64 : Nat)
                                                                                                (0 : Int))
                                                                                              (BitVec.ofInt (64 : Nat)
                                                                                                (0 : Int))
                                                                                              x.g).n))) +
                                                                                W4.valI (W4.dg (32 : Nat) x.v.n)) /
                                                                              (39402006196394479212279040100143613805079739270465446667948293404245721771497210611414266254884915640806627990306816 :
                                                                                Nat) %
                                                                            (256 : Nat)) :
                                                                        Int) !=
                                                                      (0 : Int))
                                                                    (Tr.chk true
                                                                      (Tr.leaf
                                                                        (Fin.ret
                                                                            (V.tup
                                                                              [V.agg
                                                                                  [V.u64
                                                                                      (BitVec.ofInt (64 : Nat)
                                                                                        (0 : Int)),
                                                                                    V.u64
                                                                                      (BitVec.ofInt (64 : Nat)
                                                                                        (0 : Int)),
                                                                                    V.u64
                                                                                      (BitVec.ofInt (64 : Nat)
                                                                                        (0 : Int)),
                                                                                    V.u64
                                                                                      (BitVec.ofInt (64 : Nat)
                                                                                        (0 : Int))],
                                                                                V.bool false]),
                                                                          [])))
                                                                    (Tr.chk true
                                                                      (Tr.br
                                                                        ((↑((W4.valI
                                                                                      (W4.dg (64 : Nat)
                                                                                        (W4.valI
                                                                                            (W4.dg (32 : Nat) x.p.n) *
                                                                                          W4.valI
                                                                                            (W4.dg (32 : Nat)
                                                                                              (W4.mk
                                                                                                  (BitVec.ofInt
                                                                                                    (64 : Nat)
                                                                                                    (0 : Int))
                                                                                                  (BitVec.ofInt
                                                                                                    (64 : Nat)
                                                                                                    (0 : Int))
                                                                                                  (BitVec.ofInt
                                                                                                    (64 : Nat)
                                                                                                    (0 : Int))
                                                                                                  x.g).n))) +
                                                                                    W4.valI (W4.dg (32 : Nat) x.v.n)) /
                                                                                  (10086913586276986678343434265636765134100413253239154346994763111486904773503285916522052161250538404046496765518544896 :
                                                                                    Nat) %
                                                                                (256 : Nat)) :
                                                                            Int) !=
                                                                          (0 : Int))
                                                                        (Tr.chk true
                                                                          (Tr.leaf
                                                                            (Fin.ret
                                                                                (V.tup
                                                                                  [V.agg
                                                                                      [V.u64
                                                                                          (BitVec.ofInt (64 : Nat)
                                                                                            (0 : Int)),
                                                                                        V.u64
                                                                                          (BitVec.ofInt (64 : Nat)
                                                                                            (0 : Int)),
                                                                                        V.u64
                                                                                          (BitVec.ofInt (64 : Nat)
                                                                                            (0 : Int)),
                                                                                        V.u64
                                                                                          (BitVec.ofInt (64 : Nat)
                                                                                            (0 : Int))],
                                                                                    V.bool false]),
                                                                              [])))
                                                                        (Tr.chk true
                                                                          (Tr.br
                                                                            ((↑((W4.valI
                                                                                          (W4.dg (64 : Nat)
                                                                                            (W4.valI
                                                                                                (W4.dg (32 : Nat)
                                                                                                  x.p.n) *
                                                                                              W4.valI
                                                                                                (W4.dg (32 : Nat)
                                                                                                  (W4.mk
                                                                                                      (BitVec.ofInt
                                                                                                        (64 : Nat)
                                                                                                        (0 : Int))
                                                                                                      (BitVec.ofInt
                                                                                                        (64 : Nat)
                                                                                                        (0 : Int))
                                                                                                      (BitVec.ofInt
                                                                                                        (64 : Nat)
                                                                                                        (0 : Int))
                                                                                                      x.g).n))) +
                                                                                        W4.valI
                                                                                          (W4.dg (32 : Nat) x.v.n)) /
                                                                                      (2582249878086908589655919172003011874329705792829223512830659356540647622016841194629645353280137831435903171972747493376 :
                                                                                        Nat) %
                                                                                    (256 : Nat)) :
                                                                                Int) !=
                                                                              (0 : Int))
                                                                            (Tr.chk true
                                                                              (Tr.leaf
                                                                                (Fin.ret
                                                                                    (V.tup
                                                                                      [V.agg
                                                                                          [V.u64
                                                                                              (BitVec.ofInt (64 : Nat)
                                                                                                (0 : Int)),
                                                                                            V.u64
                                                                                              (BitVec.ofInt (64 : Nat)
                                                                                                (0 : Int)),
                                                                                            V.u64
                                                                                              (BitVec.ofInt (64 : Nat)
                                                                                                (0 : Int)),
                                                                                            V.u64
                                                                                              (BitVec.ofInt (64 : Nat)
                                                                                                (0 : Int))],
                                                                                        V.bool false]),
                                                                                  [])))
                                                                            (Tr.chk true
                                                                              (Tr.br
                                                                                ((↑((W4.valI
                                                                                              (W4.dg (64 : Nat)
                                                                                                (W4.valI
                                                                                                    (W4.dg (32 : Nat)
                                                                                                      x.p.n) *
                                                                                                  W4.valI
                                                                                                    (W4.dg (32 : Nat)
                                                                                                      (W4.mk
                                                                                                          (BitVec.ofInt
                                                                                                            (64 : Nat)
                                                                                                            (0 : Int))
                                                                                                          (BitVec.ofInt
                                                                                                            (64 : Nat)
                                                                                                            (0 : Int))
                                                                                                          (BitVec.ofInt
                                                                                                            (64 : Nat)
                                                                                                            (0 : Int))
                                                                                                          x.g).n))) +
                                                                                            W4.valI
                                                                                              (W4.dg (32 : Nat)
                                                                                                x.v.n)) /
                                                                                          (661055968790248598951915308032771039828404682964281219284648795274405791236311345825189210439715284847591212025023358304256 :
                                                                                            Nat) %
                                                                                        (256 : Nat)) :
                                                                                    Int) !=
                                                                                  (0 : Int))
                                                                                (Tr.chk true
                                                                                  (Tr.leaf
                                                                                    (Fin.ret
                                                                                        (V.tup
                                                                                          [V.agg
                                                                                              [V.u64
                                                                                                  (BitVec.ofInt
                                                                                                    (64 : Nat)
                                                                                                    (0 : Int)),
                                                                                                V.u64
                                                                                                  (BitVec.ofInt
                                                                                                    (64 : Nat)
                                                                                                    (0 : Int)),
                                                                                                V.u64
                                                                                                  (BitVec.ofInt
                                                                                                    (64 : Nat)
                                                                                                    (0 : Int)),
                                                                                                V.u64
                                                                                                  (BitVec.ofInt
                                                                                                    (64 : Nat)
                                                                                                    (0 : Int))],
                                                                                            V.bool false]),
                                                                                      [])))
                                                                                (Tr.chk true
                                                                                  (Tr.br
                                                                                    ((↑((W4.valI
                                                                                                  (W4.dg (64 : Nat)
                                                                                                    (W4.valI
                                                                                                        (W4.dg
                                                                                                          (32 : Nat)
                                                                                                          x.p.n) *
                                                                                                      W4.valI
                                                                                                        (W4.dg
                                                                                                          (32 : Nat)
                                                                                                          (W4.mk
                                                                                                              (BitVec.ofInt
                                                                                                                (64 :
                                                                                                                  Nat)
                                                                                                                (0 :
                                                                                                                  Int))
                                                                                                              (BitVec.ofInt
                                                                                                                (64 :
                                                                                                                  Nat)
                                                                                                                (0 :
                                                                                                                  Int))
                                                                                                              (BitVec.ofInt
                                                                                                                (64 :
                                                                                                                  Nat)
                                                                                                                (0 :
                                                                                                                  Int))
                                                                                                              x.g).n))) +
                                                                                                W4.valI
                                                                                                  (W4.dg (32 : Nat)
                                                                                                    x.v.n)) /
                                                                                              (169230328010303641331690318856389386196071598838855992136870091590247882556495704531248437872567112920983350278405979725889536 :
                                                                                                Nat) %
                                                                                            (256 : Nat)) :
                                                                                        Int) !=
                                                                                      (0 : Int))
                                                                                    (Tr.chk true
                                                                                      (Tr.leaf
                                                                                        (Fin.ret
                                                                                            (V.tup
                                                                                              [V.agg
                                                                                                  [V.u64
                                                                                                      (BitVec.ofInt
                                                                                                        (64 : Nat)
                                                                                                        (0 : Int)),
                                                                                                    V.u64
                                                                                                      (BitVec.ofInt
                                                                                                        (64 : Nat)
                                                                                                        (0 : Int)),
                                                                                                    V.u64
                                                                                                      (BitVec.ofInt
                                                                                                        (64 : Nat)
                                                                                                        (0 : Int)),
                                                                                                    V.u64
                                                                                                      (BitVec.ofInt
                                                                                                        (64 : Nat)
                                                                                                        (0 : Int))],
                                                                                                V.bool false]),
                                                                                          [])))
                                                                                    (Tr.chk true
                                                                                      (Tr.br
                                                                                        ((↑((W4.valI
                                                                                                      (W4.dg (64 : Nat)
                                                                                                        (W4.valI
                                                                                                            (W4.dg
                                                                                                              (32 : Nat)
                                                                                                              x.p.n) *
                                                                                                          W4.valI
                                                                                                            (W4.dg
                                                                                                              (32 : Nat)
                                                                                                              (W4.mk
                                                                                                                  (BitVec.ofInt
                                                                                                                    (64 :
                                                                                                                      Nat)
                                                                                                                    (0 :
                                                                                                                      Int))
                                                                                                                  (BitVec.ofInt
                                                                                                                    (64 :
                                                                                                                      Nat)
                                                                                                                    (0 :
                                                                                                                      Int))
                                                                                                                  (BitVec.ofInt
                                                                                                                    (64 :
                                                                                                                      Nat)
                                                                                                                    (0 :
                                                                                                                      Int))
                                                                                                                  x.g).n))) +
                                                                                                    W4.valI
                                                                                                      (W4.dg (32 : Nat)
                                                                                                        x.v.n)) /
                                                                                                  (43322963970637732180912721627235682866194329302747133987038743447103457934462900359999600095377180907771737671271930809827721216 :
                                                                                                    Nat) %
                                                                                                (256 : Nat)) :
                                                                                            Int) !=
                                                                                          (0 : Int))
                                                                                        (Tr.chk true
                                                                                          (Tr.leaf
                                                                                            (Fin.ret
                                                                                                (V.tup
                                                                                                  [V.agg
                                                                                                      [V.u64
                                                                                                          (BitVec.ofInt
                                                                                                            (64 : Nat)
                                                                                                            (0 : Int)),
                                                                                                        V.u64
                                                                                                          (BitVec.ofInt
                                                                                                            (64 : Nat)
                                                                                                            (0 : Int)),
                                                                                                        V.u64
                                                                                                          (BitVec.ofInt
                                                                                                            (64 : Nat)
                                                                                                            (0 : Int)),
                                                                                                        V.u64
                                                                                                          (BitVec.ofInt
                                                                                                            (64 : Nat)
                                                                                                            (0 : Int))],
                                                                                                    V.bool false]),
                                                                                              [])))
                                                                                        (Tr.chk true
                                                                                          (Tr.br
                                                                                            ((↑((W4.valI
                                                                                                          (W4.dg
                                                                                                            (64 : Nat)
                                                                                                            (W4.valI
                                                                                                                (W4.dg
                                                                                                                  (32 :
                                                                                                                    Nat)
                                                                                                                  x.p.n) *
                                                                                                              W4.valI
                                                                                                                (W4.dg
                                                                                                                  (32 :
                                                                                                                    Nat)
                                                                                                                  (W4.mk
                                                                                                                      (BitVec.ofInt
                                                                                                                        (64 :
                                                                                                                          Nat)
                                                                                                                        (0 :
                                                                                                                          Int))
                                                                                                                      (BitVec.ofInt
                                                                                                                        (64 :
                                                                                                                          Nat)
                                                                                                                        (0 :
                                                                                                                          Int))
                                                                                                                      (BitVec.ofInt
                                                                                                                        (64 :
                                                                                                                          Nat)
                                                                                                                        (0 :
                                                                                                                          Int))
                                                                                                                      x.g).n))) +
                                                                                                        W4.valI
                                                                                                          (W4.dg
                                                                                                            (32 : Nat)
                                                                                                            x.v.n)) /
                                                                                                      (11090678776483259438313656736572334813745748301503266300681918322458485231222502492159897624416558312389564843845614287315896631296 :
                                                                                                        Nat) %
                                                                                                    (256 : Nat)) :
                                                                                                Int) !=
                                                                                              (0 : Int))
                                                                                            (Tr.chk true
                                                                                              (Tr.leaf
                                                                                                (Fin.ret
                                                                                                    (V.tup
                                                                                                      [V.agg
                                                                                                          [V.u64
                                                                                                              (BitVec.ofInt
                                                                                                                (64 :
                                                                                                                  Nat)
                                                                                                                (0 :
                                                                                                                  Int)),
                                                                                                            V.u64
                                                                                                              (BitVec.ofInt
                                                                                                                (64 :
                                                                                                                  Nat)
                                                                                                                (0 :
                                                                                                                  Int)),
                                                                                                            V.u64
                                                                                                              (BitVec.ofInt
                                                                                                                (64 :
                                                                                                                  Nat)
                                                                                                                (0 :
                                                                                                                  Int)),
                                                                                                            V.u64
                                                                                                              (BitVec.ofInt
                                                                                                                (64 :
                                                                                                                  Nat)
                                                                                                                (0 :
                                                                                                                  Int))],
                                                                                                        V.bool false]),
                                                                                                  [])))
                                                                                            (Tr.chk true
                                                                                              (Tr.br
                                                                                                ((↑((W4.valI
                                                                                                              (W4.dg
                                                                                                                (64 :
                                                                                                                  Nat)
                                                                                                                (W4.valI
                                                                                                                    (W4.dg
                                                                                                                      (32 :
                                                                                                                        Nat)
                                                                                                                      x.p.n) *
                                                                                                                  W4.valI
                                                                                                                    (W4.dg
                                                                                                                      (32 :
                                                                                                                        Nat)
                                                                                                                      (W4.mk
                                                                                                                          (BitVec.ofInt
                                                                                                                            (64 :
                                                                                                                              Nat)
                                                                                                                            (0 :
                                                                                                                              Int))
                                                                                                                          (BitVec.ofInt
                                                                                                                            (64 :
                                                                                                                              Nat)
                                                                                                                            (0 :
                                                                                                                              Int))
                                                                                                                          (BitVec.ofInt
                                                                                                                            (64 :
                                                                                                                              Nat)
                                                                                                                            (0 :
                                                                                                                              Int))
                                                                                                                          x.g).n))) +
                                                                                                            W4.valI
                                                                                                              (W4.dg
                                                                                                                (32 :
                                                                                                                  Nat)
                                                                                                                x.v.n)) /
                                                                                                          (2839213766779714416208296124562517712318911565184836172974571090549372219192960637992933791850638927971728600024477257552869537611776 :
                                                                                                            Nat) %
                                                                                                        (256 : Nat)) :
                                                                                                    Int) !=
                                                                                                  (0 : Int))
                                                                                                (Tr.chk true
                                                                                                  (Tr.leaf
                                                                                                    (Fin.ret
                                                                                                        (V.tup
                                                                                                          [V.agg
                                                                                                              [V.u64
                                                                                                                  (BitVec.ofInt
                                                                                                                    (64 :
                                                                                                                      Nat)
                                                                                                                    (0 :
                                                                                                                      Int)),
                                                                                                                V.u64
                                                                                                                  (BitVec.ofInt
                                                                                                                    (64 :
                                                                                                                      Nat)
                                                                                                                    (0 :
                                                                                                                      Int)),
                                                                                                                V.u64
                                                                                                                  (BitVec.ofInt
                                                                                                                    (64 :
                                                                                                                      Nat)
                                                                                                                    (0 :
                                                                                                                      Int)),
                                                                                                                V.u64
                                                                                                                  (BitVec.ofInt
                                                                                                                    (64 :
                                                                                                                      Nat)
                                                                                                                    (0 :
                                                                                                                      Int))],
                                                                                                            V.bool
                                                                                                              false]),
                                                                                                      [])))
                                                                                                (Tr.chk true
                                                                                                  (Tr.br
                                                                                                    ((↑((W4.valI
                                                                                                                  (W4.dg
                                                                                                                    (64 :
                                                                                                                      Nat)
                                                                                                                    (W4.valI
                                                                                                                        (W4.dg
                                                                                                                          (32 :
                                                                                                                            Nat)
                                                                                                                          x.p.n) *
                                                                                                                      W4.valI
                                                                                                                        (W4.dg
                                                                                                                          (32 :
                                                                                                                            Nat)
                                                                                                                          (W4.mk
                                                                                                                              (BitVec.ofInt
                                                                                                                                (64 :
                                                                                                                                  Nat)
                                                                                                                                (0 :
                                                                                                                                  Int))
                                                                                                                              (BitVec.ofInt
                                                                                                                                (64 :
                                                                                                                                  Nat)
                                                                                                                                (0 :
                                                                                                                                  Int))
                                                                                                                              (BitVec.ofInt
                                                                                                                                (64 :
                                                                                                                                  Nat)
                                                                                                                                (0 :
                                                                                                                                  Int))
                                                                                                                              x.g).n))) +
                                                                                                                W4.valI
                                                                                                                  (W4.dg
                                                                                                                    (32 :
                                                                                                                      Nat)
                                                                                                                    x.v.n)) /
                                                                                                              (726838724295606890549323807888004534353641360687318060281490199180639288113397923326191050713763565560762521606266177933534601628614656 :
                                                                                                                Nat) %
                                                                                                            (256 :
                                                                                                              Nat)) :
                                                                                                        Int) !=
                                                                                                      (0 : Int))
                                                                                                    (Tr.chk true
                                                                                                      (Tr.leaf
                                                                                                        (Fin.ret
                                                                                                            (V.tup
                                                                                                              [V.agg
                                                                                                                  [V.u64
                                                                                                                      (BitVec.ofInt
                                                                                                                        (64 :
                                                                                                                          Nat)
                                                                                                                        (0 :
                                                                                                                          Int)),
                                                                                                                    V.u64
                                                                                                                      (BitVec.ofInt
                                                                                                                        (64 :
                                                                                                                          Nat)
                                                                                                                        (0 :
                                                                                                                          Int)),
                                                                                                                    V.u64
                                                                                                                      (BitVec.ofInt
                                                                                                                        (64 :
                                                                                                                          Nat)
                                                                                                                        (0 :
                                                                                                                          Int)),
                                                                                                                    V.u64
                                                                                                                      (BitVec.ofInt
                                                                                                                        (64 :
                                                                                                                          Nat)
                                                                                                                        (0 :
                                                                                                                          Int))],
                                                                                                                V.bool
                                                                                                                  false]),
                                                                                                          [])))
                                                                                                    (Tr.chk true
                                                                                                      (Tr.br
                                                                                                        ((↑((W4.valI
                                                                                                                      (W4.dg
                                                                                                                        (64 :
                                                                                                                          Nat)
                                                                                                                        (W4.valI
                                                                                                                            (W4.dg
                                                                                                                              (32 :
                                                                                                                                Nat)
                                                                                                                              x.p.n) *
                                                                                                                          W4.valI
                                                                                                                            (W4.dg
                                                                                                                              (32 :
                                                                                                                                Nat)
                                                                                                                              (W4.mk
                                                                                                                                  (BitVec.ofInt
                                                                                                                                    (64 :
                                                                                                                                      Nat)
                                                                                                                                    (0 :
                                                                                                                                      Int))
                                                                                                                                  (BitVec.ofInt
                                                                                                                                    (64 :
                                                                                                                                      Nat)
                                                                                                                                    (0 :
                                                                                                                                      Int))
                                                                                                                                  (BitVec.ofInt
                                                                                                                                    (64 :
                                                                                                                                      Nat)
                                                                                                                                    (0 :
                                                                                                                                      Int))
                                                                                                                                  x.g).n))) +
                                                                                                                    W4.valI
                                                                                                                      (W4.dg
                                                                                                                        (32 :
                                                                                                                          Nat)
                                                                                                                        x.v.n)) /
                                                                                                                  (186070713419675363980626894819329160794532188335953423432061490990243657757029868371504908982723472783555205531204141550984858016925351936 :
                                                                                                                    Nat) %
                                                                                                                (256 :
                                                                                                                  Nat)) :
                                                                                                            Int) !=
                                                                                                          (0 : Int))
                                                                                                        (Tr.chk true
                                                                                                          (Tr.leaf
                                                                                                            (Fin.ret
                                                                                                                (V.tup
                                                                                                                  [V.agg
                                                                                                                      [V.u64
                                                                                                                          (BitVec.ofInt
                                                                                                                            (64 :
                                                                                                                              Nat)
                                                                                                                            (0 :
                                                                                                                              Int)),
                                                                                                                        V.u64
                                                                                                                          (BitVec.ofInt
                                                                                                                            (64 :
                                                                                                                              Nat)
                                                                                                                            (0 :
                                                                                                                              Int)),
                                                                                                                        V.u64
                                                                                                                          (BitVec.ofInt
                                                                                                                            (64 :
                                                                                                                              Nat)
                                                                                                                            (0 :
                                                                                                                              Int)),
                                                                                                                        V.u64
                                                                                                                          (BitVec.ofInt
                                                                                                                            (64 :
                                                                                                                              Nat)
                                                                                                                            (0 :
                                                                                                                              Int))],
                                                                                                                    V.bool
                                                                                                                      false]),
                                                                                                              [])))
                                                                                                        (Tr.chk true
                                                                                                          (Tr.br
                                                                                                            ((↑((W4.valI
                                                                                                                          (W4.dg
                                                                                                                            (64 :
                                                                                                                              Nat)
                                                                                                                            (W4.valI
                                                                                                                                (W4.dg
                                                                                                                                  (32 :
                                                                                                                                    Nat)
                                                                                                                                  x.p.n) *
                                                                                                                              W4.valI
                                                                                                                                (W4.dg
                                                                                                                                  (32 :
                                                                                                                                    Nat)
                                                                                                                                  (W4.mk
                                                                                                                                      (BitVec.ofInt
                                                                                                                                        (64 :
                                                                                                                                          Nat)
                                                                                                                                        (0 :
                                                                                                                                          Int))
                                                                                                                                      (BitVec.ofInt
                                                                                                                                        (64 :
                                                                                                                                          Nat)
                                                                                                                                        (0 :
                                                                                                                                          Int))
                                                                                                                                      (BitVec.ofInt
                                                                                                                                        (64 :
                                                                                                                                          Nat)
                                                                                                                                        (0 :
                                                                                                                                          Int))
                                                                                                                                      x.g).n))) +
                                                                                                                        W4.valI
                                                                                                                          (W4.dg
                                                                                                                            (32 :
                                                                                                                              Nat)
                                                                                                                            x.v.n)) /
                                                                                                                      (47634102635436893179040485073748265163400240214004076398607741693502376385799646303105256699577209032590132615988260237052123652332890095616 :
                                                                                                                        Nat) %
                                                                                                                    (256 :
                                                                                                                      Nat)) :
                                                                                                                Int) !=
                                                                                                              (0 : Int))
                                                                                                            (Tr.chk true
                                                                                                              (Tr.leaf
                                                                                                                (Fin.ret
                                                                                                                    (V.tup
                                                                                                                      [V.agg
                                                                                                                          [V.u64
                                                                                                                              (BitVec.ofInt
                                                                                                                                (64 :
                                                                                                                                  Nat)
                                                                                                                                (0 :
                                                                                                                                  Int)),
                                                                                                                            V.u64
                                                                                                                              (BitVec.ofInt
                                                                                                                                (64 :
                                                                                                                                  Nat)
                                                                                                                                (0 :
                                                                                                                                  Int)),
                                                                                                                            V.u64
                                                                                                                              (BitVec.ofInt
                                                                                                                                (64 :
                                                                                                                                  Nat)
                                                                                                                                (0 :
                                                                                                                                  Int)),
                                                                                                                            V.u64
                                                                                                                              (BitVec.ofInt
                                                                                                                                (64 :
                                                                                                                                  Nat)
                                                                                                                                (0 :
                                                                                                                                  Int))],
                                                                                                                        V.bool
                                                                                                                          false]),
                                                                                                                  [])))
                                                                                                            (Tr.chk true
                                                                                                              (Tr.br
                                                                                                                ((↑((W4.valI
                                                                                                                              (W4.dg
                                                                                                                                (64 :
                                                                                                                                  Nat)
                                                                                                                                (W4.valI
                                                                                                                                    (W4.dg
                                                                                                                                      (32 :
                                                                                                                                        Nat)
                                                                                                                                      x.p.n) *
                                                                                                                                  W4.valI
                                                                                                                                    (W4.dg
                                                                                                                                      (32 :
                                                                                                                                        Nat)
                                                                                                                                      (W4.mk
                                                                                                                                          (BitVec.ofInt
                                                                                                                                            (64 :
                                                                                                                                              Nat)
                                                                                                                                            (0 :
                                                                                                                                              Int))
                                                                                                                                          (BitVec.ofInt
                                                                                                                                            (64 :
                                                                                                                                              Nat)
                                                                                                                                            (0 :
                                                                                                                                              Int))
                                                                                                                                          (BitVec.ofInt
                                                                                                                                            (64 :
                                                                                                                                              Nat)
                                                                                                                                            (0 :
                                                                                                                                              Int))
                                                                                                                                          x.g).n))) +
                                                                                                                            W4.valI
                                                                                                                              (W4.dg
                                                                                                                                (32 :
                                                                                                                                  Nat)
                                                                                                                                x.v.n)) /
                                                                                                                          (12194330274671844653834364178879555881830461494785043558043581873536608354764709453594945715091765512343073949692994620685343654997219864477696 :
                                                                                                                            Nat) %
                                                                                                                        (256 :
                                                                                                                          Nat)) :
                                                                                                                    Int) !=
                                                                                                                  (0 :
                                                                                                                    Int))
                                                                                                                (Tr.chk
                                                                                                                  true
                                                                                                                  (Tr.leaf
                                                                                                                    (Fin.ret
                                                                                                                        (V.tup
                                                                                                                          [V.agg
                                                                                                                              [V.u64
                                                                                                                                  (BitVec.ofInt
                                                                                                                                    (64 :
                                                                                                                                      Nat)
                                                                                                                                    (0 :
                                                                                                                                      Int)),
                                                                                                                                V.u64
                                                                                                                                  (BitVec.ofInt
                                                                                                                                    (64 :
                                                                                                                                      Nat)
                                                                                                                                    (0 :
                                                                                                                                      Int)),
                                                                                                                                V.u64
                                                                                                                                  (BitVec.ofInt
                                                                                                                                    (64 :
                                                                                                                                      Nat)
                                                                                                                                    (0 :
                                                                                                                                      Int)),
                                                                                                                                V.u64
                                                                                                                                  (BitVec.ofInt
                                                                                                                                    (64 :
                                                                                                                                      Nat)
                                                                                                                                    (0 :
                                                                                                                                      Int))],
                                                                                                                            V.bool
                                                                                                                              false]),
                                                                                                                      [])))
                                                                                                                (Tr.chk
                                                                                                                  true
                                                                                                                  (Tr.br
                                                                                                                    ((↑((W4.valI
                                                                                                                                  (W4.dg
                                                                                                                                    (64 :
                                                                                                                                      Nat)
                                                                                                                                    (W4.valI
                                                                                                                                        (W4.dg
                                                                                                                                          (32 :
                                                                                                                                            Nat)
                                                                                                                                          x.p.n) *
                                                                                                                                      W4.valI
                                                                                                                                        (W4.dg
                                                                                                                                          (32 :
                                                                                                                                            Nat)
                                                                                                                                          (W4.mk
                                                                                                                                              (BitVec.ofInt
                                                                                                                                                (64 :
                                                                                                                                                  Nat)
                                                                                                                                                (0 :
                                                                                                                                                  Int))
                                                                                                                                              (BitVec.ofInt
                                                                                                                                                (64 :
                                                                                                                                                  Nat)
                                                                                                                                                (0 :
                                                                                                                                                  Int))
                                                                                                                                              (BitVec.ofInt
                                                                                                                                                (64 :
                                                                                                                                                  Nat)
                                                                                                                                                (0 :
                                                                                                                                                  Int))
                                                                                                                                              x.g).n))) +
                                                                                                                                W4.valI
                                                                                                                                  (W4.dg
                                                                                                                                    (32 :
                                                                                                                                      Nat)
                                                                                                                                    x.v.n)) /
                                                                                                                              (3121748550315992231381597229793166305748598142664971150859156959625371738819765620120306103063491971159826931121406622895447975679288285306290176 :
                                                                                                                                Nat) %
                                                                                                                            (256 :
                                                                                                                              Nat)) :
                                                                                                                        Int) !=
                                                                                                                      (0 :
                                                                                                                        Int))
                                                                                                                    (Tr.chk
                                                                                                                      true
                                                                                                                      (Tr.leaf
                                                                                                                        (Fin.ret
                                                                                                                            (V.tup
                                                                                                                              [V.agg
                                                                                                                                  [V.u64
                                                                                                                                      (BitVec.ofInt
                                                                                                                                        (64 :
                                                                                                                                          Nat)
                                                                                                                                        (0 :
                                                                                                                                          Int)),
                                                                                                                                    V.u64
                                                                                                                                      (BitVec.ofInt
                                                                                                                                        (64 :
                                                                                                                                          Nat)
                                                                                                                                        (0 :
                                                                                                                                          Int)),
                                                                                                                                    V.u64
                                                                                                                                      (BitVec.ofInt
                                                                                                                                        (64 :
                                                                                                                                          Nat)
                                                                                                                                        (0 :
                                                                                                                                          Int)),
                                                                                                                                    V.u64
                                                                                                                                      (BitVec.ofInt
                                                                                                                                        (64 :
                                                                                                                                          Nat)
                                                                                                                                        (0 :
                                                                                                                                          Int))],
                                                                                                                                V.bool
                                                                                                                                  false]),
                                                                                                                          [])))
                                                                                                                    (Tr.chk
                                                                                                                      true
                                                                                                                      (Tr.br
                                                                                                                        ((↑((W4.valI
                                                                                                                                      (W4.dg
                                                                                                                                        (64 :
                                                                                                                                          Nat)
                                                                                                                                        (W4.valI
                                                                                                                                            (W4.dg
                                                                                                                                              (32 :
                                                                                                                                                Nat)
                                                                                                                                              x.p.n) *
                                                                                                                                          W4.valI
                                                                                                                                            (W4.dg
                                                                                                                                              (32 :
                                                                                                                                                Nat)
                                                                                                                                              (W4.mk
                                                                                                                                                  (BitVec.ofInt
                                                                                                                                                    (64 :
                                                                                                                                                      Nat)
                                                                                                                                                    (0 :
                                                                                                                                                      Int))
                                                                                                                                                  (BitVec.ofInt
                                                                                                                                                    (64 :
                                                                                                                                                      Nat)
                                                                                                                                                    (0 :
                                                                                                                                                      Int))
                                                                                                                                                  (BitVec.ofInt
                                                                                                                                                    (64 :
                                                                                                                                                      Nat)
                                                                                                                                                    (0 :
                                                                                                                                                      Int))
                                                                                                                                                  x.g).n))) +
                                                                                                                                    W4.valI
                                                                                                                                      (W4.dg
                                                                                                                                        (32 :
                                                                                                                                          Nat)
                                                                                                                                        x.v.n)) /
                                                                                                                                  (799167628880894011233688890827050574271641124522232614619944181664095165137859998750798362384253944616915694367080095461234681773897801038410285056 :
                                                                                                                                    Nat) %
                                                                                                                                (256 :
                                                                                                                                  Nat)) :
                                                                                                                            Int) !=
                                                                                                                          (0 :
                                                                                                                            Int))
                                                                                                                        (Tr.chk
                                                                                                                          true
                                                                                                                          (Tr.leaf
                                                                                                                            (Fin.ret
                                                                                                                                (V.tup
                                                                                                                                  [V.agg
                                                                                                                                      [V.u64
                                                                                                                                          (BitVec.ofInt
                                                                                                                                            (64 :
                                                                                                                                              Nat)
                                                                                                                                            (0 :
                                                                                                                                              Int)),
                                                                                                                                        V.u64
                                                                                                                                          (BitVec.ofInt
                                                                                                                                            (64 :
                                                                                                                                              Nat)
                                                                                                                                            (0 :
                                                                                                                                              Int)),
                                                                                                                                        V.u64
                                                                                                                                          (BitVec.ofInt
                                                                                                                                            (64 :
                                                                                                                                              Nat)
                                                                                                                                            (0 :
                                                                                                                                              Int)),
                                                                                                                                        V.u64
                                                                                                                                          (BitVec.ofInt
                                                                                                                                            (64 :
                                                                                                                                              Nat)
                                                                                                                                            (0 :
                                                                                                                                              Int))],
                                                                                                                                    V.bool
                                                                                                                                      false]),
                                                                                                                              [])))
                                                                                                                        (Tr.chk
                                                                                                                          true
                                                                                                                          (Tr.br
                                                                                                                            ((↑((W4.valI
                                                                                                                                          (W4.dg
                                                                                                                                            (64 :
                                                                                                                                              Nat)
                                                                                                                                            (W4.valI
                                                                                                                                                (W4.dg
                                                                                                                                                  (32 :
                                                                                                                                                    Nat)
                                                                                                                                                  x.p.n) *
                                                                                                                                              W4.valI
                                                                                                                                                (W4.dg
                                                                                                                                                  (32 :
                                                                                                                                                    Nat)
                                                                                                                                                  (W4.mk
                                                                                                                                                      (BitVec.ofInt
                                                                                                                                                        (64 :
                                                                                                                                                          Nat)
                                                                                                                                                        (0 :
                                                                                                                                                          Int))
                                                                                                                                                      (BitVec.ofInt
                                                                                                                                                        (64 :
                                                                                                                                                          Nat)
                                                                                                                                                        (0 :
                                                                                                                                                          Int))
                                                                                                                                                      (BitVec.ofInt
                                                                                                                                                        (64 :
                                                                                                                                                          Nat)
                                                                                                                                                        (0 :
                                                                                                                                                          Int))
                                                                                                                                                      x.g).n))) +
                                                                                                                                        W4.valI
                                                                                                                                          (W4.dg
                                                                                                                                            (32 :
                                                                                                                                              Nat)
                                                                                                                                            x.v.n)) /
                                                                                                                                      (204586912993508866875824356051724947013540127877691549342705710506008362275292159680204380770369009821930417757972504438076078534117837065833032974336 :
                                                                                                                                        Nat) %
                                                                                                                                    (256 :
                                                                                                                                      Nat)) :
                                                                                                                                Int) !=
                                                                                                                              (0 :
                                                                                                                                Int))
                                                                                                                            (Tr.chk
                                                                                                                              true
                                                                                                                              (Tr.leaf
                                                                                                                                (Fin.ret
                                                                                                                                    (V.tup
                                                                                                                                      [V.agg
                                                                                                                                          [V.u64
                                                                                                                                              (BitVec.ofInt
                                                                                                                                                (64 :
                                                                                                                                                  Nat)
                                                                                                                                                (0 :
                                                                                                                                                  Int)),
                                                                                                                                            V.u64
                                                                                                                                              (BitVec.ofInt
                                                                                                                                                (64 :
                                                                                                                                                  Nat)
                                                                                                                                                (0 :
                                                                                                                                                  Int)),
                                                                                                                                            V.u64
                                                                                                                                              (BitVec.ofInt
                                                                                                                                                (64 :
                                                                                                                                                  Nat)
                                                                                                                                                (0 :
                                                                                                                                                  Int)),
                                                                                                                                            V.u64
                                                                                                                                              (BitVec.ofInt
                                                                                                                                                (64 :
                                                                                                                                                  Nat)
                                                                                                                                                (0 :
                                                                                                                                                  Int))],
                                                                                                                                        V.bool
                                                                                                                                          false]),
                                                                                                                                  [])))
                                                                                                                            (Tr.chk
                                                                                                                              true
                                                                                                                              (Tr.br
                                                                                                                                ((↑((W4.valI
                                                                                                                                              (W4.dg
                                                                                                                                                (64 :
                                                                                                                                                  Nat)
                                                                                                                                                (W4.valI
                                                                                                                                                    (W4.dg
                                                                                                                                                      (32 :
                                                                                                                                                        Nat)
                                                                                                                                                      x.p.n) *
                                                                                                                                                  W4.valI
                                                                                                                                                    (W4.dg
                                                                                                                                                      (32 :
                                                                                                                                                        Nat)
                                                                                                                                                      (W4.mk
                                                                                                                                                          (BitVec.ofInt
                                                                                                                                                            (64 :
                                                                                                                                                              Nat)
                                                                                                                                                            (0 :
                                                                                                                                                              Int))
                                                                                                                                                          (BitVec.ofInt
                                                                                                                                                            (64 :
                                                                                                                                                              Nat)
                                                                                                                                                            (0 :
                                                                                                                                                              Int))
                                                                                                                                                          (BitVec.ofInt
                                                                                                                                                            (64 :
                                                                                                                                                              Nat)
                                                                                                                                                            (0 :
                                                                                                                                                              Int))
                                                                                                                                                          x.g).n))) +
                                                                                                                                            W4.valI
                                                                                                                                              (W4.dg
                                                                                                                                                (32 :
                                                                                                                                                  Nat)
                                                                                                                                                x.v.n)) /
                                                                                                                                          (52374249726338269920211035149241586435466272736689036631732661889538140742474792878132321477214466514414186946040961136147476104734166288853256441430016 :
                                                                                                                                            Nat) %
                                                                                                                                        (256 :
                                                                                                                                          Nat)) :
                                                                                                                                    Int) !=
                                                                                                                                  (0 :
                                                                                                                                    Int))
                                                                                                                                (Tr.chk
                                                                                                                                  true
                                                                                                                                  (Tr.leaf
                                                                                                                                    (Fin.ret
                                                                                                                                        (V.tup
                                                                                                                                          [V.agg
                                                                                                                                              [V.u64
                                                                                                                                                  (BitVec.ofInt
                                                                                                                                                    (64 :
                                                                                                                                                      Nat)
                                                                                                                                                    (0 :
                                                                                                                                                      Int)),
                                                                                                                                                V.u64
                                                                                                                                                  (BitVec.ofInt
                                                                                                                                                    (64 :
                                                                                                                                                      Nat)
                                                                                                                                                    (0 :
                                                                                                                                                      Int)),
                                                                                                                                                V.u64
                                                                                                                                                  (BitVec.ofInt
                                                                                                                                                    (64 :
                                                                                                                                                      Nat)
                                                                                                                                                    (0 :
                                                                                                                                                      Int)),
                                                                                                                                                V.u64
                                                                                                                                                  (BitVec.ofInt
                                                                                                                                                    (64 :
                                                                                                                                                      Nat)
                                                                                                                                                    (0 :
                                                                                                                                                      Int))],
                                                                                                                                            V.bool
                                                                                                                                              false]),
                                                                                                                                      [])))
                                                                                                                                (Tr.chk
                                                                                                                                  ((false ||
                                                                                                                                          true) &&
                                                                                                                                        W4.isD
                                                                                                                                          (64 :
                                                                                                                                            Nat)
                                                                                                                                          (W4.dg
                                                                                                                                            (64 :
                                                                                                                                              Nat)
                                                                                                                                            (W4.valI
                                                                                                                                                (W4.dg
                                                                                                                                                  (64 :
                                                                                                                                                    Nat)
                                                                                                                                                  (W4.valI
                                                                                                                                                      (W4.dg
                                                                                                                                                        (32 :
                                                                                                                                                          Nat)
                                                                                                                                                        x.p.n) *
                                                                                                                                                    W4.valI
                                                                                                                                                      (W4.dg
                                                                                                                                                        (32 :
                                                                                                                                                          Nat)
                                                                                                                                                        (W4.mk
                                                                                                                                                            (BitVec.ofInt
                                                                                                                                                              (64 :
                                                                                                                                                                Nat)
                                                                                                                                                              (0 :
                                                                                                                                                                Int))
                                                                                                                                                            (BitVec.ofInt
                                                                                                                                                              (64 :
                                                                                                                                                                Nat)
                                                                                                                                                              (0 :
                                                                                                                                                                Int))
                                                                                                                                                            (BitVec.ofInt
                                                                                                                                                              (64 :
                                                                                                                                                                Nat)
                                                                                                                                                              (0 :
                                                                                                                                                                Int))
                                                                                                                                                            x.g).n))) +
                                                                                                                                              W4.valI
                                                                                                                                                (W4.dg
                                                                                                                                                  (32 :
                                                                                                                                                    Nat)
                                                                                                                                                  x.v.n))) &&
                                                                                                                                      true &&
                                                                                                                                    true)
                                                                                                                                  (Tr.leaf
                                                                                                                                    (Fin.ret
                                                                                                                                        (V.tup
                                                                                                                                          [V.agg
                                                                                                                                              [V.u64
                                                                                                                                                  (W4.ofN
                                                                                                                                                      (W4.valI
                                                                                                                                                        (W4.dg
                                                                                                                                                          (64 :
                                                                                                                                                            Nat)
                                                                                                                                                          (W4.valI
                                                                                                                                                              (W4.dg
                                                                                                                                                                (64 :
                                                                                                                                                                  Nat)
                                                                                                                                                                (W4.valI
                                                                                                                                                                    (W4.dg
                                                                                                                                                                      (32 :
                                                                                                                                                                        Nat)
                                                                                                                                                                      x.p.n) *
                                                                                                                                                                  W4.valI
                                                                                                                                                                    (W4.dg
                                                                                                                                                                      (32 :
                                                                                                                                                                        Nat)
                                                                                                                                                                      (W4.mk
                                                                                                                                                                          (BitVec.ofInt
                                                                                                                                                                            (64 :
                                                                                                                                                                              Nat)
                                                                                                                                                                            (0 :
                                                                                                                                                                              Int))
                                                                                                                                                                          (BitVec.ofInt
                                                                                                                                                                            (64 :
                                                                                                                                                                              Nat)
                                                                                                                                                                            (0 :
                                                                                                                                                                              Int))
                                                                                                                                                                          (BitVec.ofInt
                                                                                                                                                                            (64 :
                                                                                                                                                                              Nat)
                                                                                                                                                                            (0 :
                                                                                                                                                                              Int))
                                                                                                                                                                          x.g).n))) +
                                                                                                                                                            W4.valI
                                                                                                                                                              (W4.dg
                                                                                                                                                                (32 :
                                                                                                                                                                  Nat)
                                                                                                                                                                x.v.n))))).a,
                                                                                                                                                V.u64
                                                                                                                                                  (W4.ofN
                                                                                                                                                      (W4.valI
                                                                                                                                                        (W4.dg
                                                                                                                                                          (64 :
                                                                                                                                                            Nat)
                                                                                                                                                          (W4.valI
                                                                                                                                                              (W4.dg
                                                                                                                                                                (64 :
                                                                                                                                                                  Nat)
                                                                                                                                                                (W4.valI
                                                                                                                                                                    (W4.dg
                                                                                                                                                                      (32 :
                                                                                                                                                                        Nat)
                                                                                                                                                                      x.p.n) *
                                                                                                                                                                  W4.valI
                                                                                                                                                                    (W4.dg
                                                                                                                                                                      (32 :
                                                                                                                                                                        Nat)
                                                                                                                                                                      (W4.mk
                                                                                                                                                                          (BitVec.ofInt
                                                                                                                                                                            (64 :
                                                                                                                                                                              Nat)
                                                                                                                                                                            (0 :
                                                                                                                                                                              Int))
                                                                                                                                                                          (BitVec.ofInt
                                                                                                                                                                            (64 :
                                                                                                                                                                              Nat)
                                                                                                                                                                            (0 :
                                                                                                                                                                              Int))
                                                                                                                                                                          (BitVec.ofInt
                                                                                                                                                                            (64 :
                                                                                                                                                                              Nat)
                                                                                                                                                                            (0 :
                                                                                                                                                                              Int))
                                                                                                                                                                          x.g).n))) +
                                                                                                                                                            W4.valI
                                                                                                                                                              (W4.dg
                                                                                                                                                                (32 :
                                                                                                                                                                  Nat)
                                                                                                                                                                x.v.n))))).b,
                                                                                                                                                V.u64
                                                                                                                                                  (W4.ofN
                                                                                                                                                      (W4.valI
                                                                                                                                                        (W4.dg
                                                                                                                                                          (64 :
                                                                                                                                                            Nat)
                                                                                                                                                          (W4.valI
                                                                                                                                                              (W4.dg
                                                                                                                                                                (64 :
                                                                                                                                                                  Nat)
                                                                                                                                                                (W4.valI
                                                                                                                                                                    (W4.dg
                                                                                                                                                                      (32 :
                                                                                                                                                                        Nat)
                                                                                                                                                                      x.p.n) *
                                                                                                                                                                  W4.valI
                                                                                                                                                                    (W4.dg
                                                                                                                                                                      (32 :
                                                                                                                                                                        Nat)
                                                                                                                                                                      (W4.mk
                                                                                                                                                                          (BitVec.ofInt
                                                                                                                                                                            (64 :
                                                                                                                                                                              Nat)
                                                                                                                                                                            (0 :
                                                                                                                                                                              Int))
                                                                                                                                                                          (BitVec.ofInt
                                                                                                                                                                            (64 :
                                                                                                                                                                              Nat)
                                                                                                                                                                            (0 :
                                                                                                                                                                              Int))
                                                                                                                                                                          (BitVec.ofInt
                                                                                                                                                                            (64 :
                                                                                                                                                                              Nat)
                                                                                                                                                                            (0 :
                                                                                                                                                                              Int))
                                                                                                                                                                          x.g).n))) +
                                                                                                                                                            W4.valI
                                                                                                                                                              (W4.dg
                                                                                                                                                                (32 :
                                                                                                                                                                  Nat)
                                                                                                                                                                x.v.n))))).c,
                                                                                                                                                V.u64
                                                                                                                                                  (W4.ofN
                                                                                                                                                      (W4.valI
                                                                                                                                                        (W4.dg
                                                                                                                                                          (64 :
                                                                                                                                                            Nat)
                                                                                                                                                          (W4.valI
                                                                                                                                                              (W4.dg
                                                                                                                                                                (64 :
                                                                                                                                                                  Nat)
                                                                                                                                                                (W4.valI
                                                                                                                                                                    (W4.dg
                                                                                                                                                                      (32 :
                                                                                                                                                                        Nat)
                                                                                                                                                                      x.p.n) *
                                                                                                                                                                  W4.valI
                                                                                                                                                                    (W4.dg
                                                                                                                                                                      (32 :
                                                                                                                                                                        Nat)
                                                                                                                                                                      (W4.mk
                                                                                                                                                                          (BitVec.ofInt
                                                                                                                                                                            (64 :
                                                                                                                                                                              Nat)
                                                                                                                                                                            (0 :
                                                                                                                                                                              Int))
                                                                                                                                                                          (BitVec.ofInt
                                                                                                                                                                            (64 :
                                                                                                                                                                              Nat)
                                                                                                                                                                            (0 :
                                                                                                                                                                              Int))
                                                                                                                                                                          (BitVec.ofInt
                                                                                                                                                                            (64 :
                                                                                                                                                                              Nat)
                                                                                                                                                                            (0 :
                                                                                                                                                                              Int))
                                                                                                                                                                          x.g).n))) +
                                                                                                                                                            W4.valI
                                                                                                                                                              (W4.dg
                                                                                                                                                                (32 :
                                                                                                                                                                  Nat)
                                                                                                                                                                x.v.n))))).d],
                                                                                                                                            V.bool
                                                                                                                                              true]),
                                                                                                                                      [])))))))))))))))))))))))))))))))))))))))))))))))))))))))))))))))))) := by kernel_rfl
end
end Go.Proofs.Ytajbaocfdlopbaa.K
end
section
open Go Go.Lh
namespace Go.Proofs.Ytajbaocfdlopbaa.K
noncomputable section
set_option maxRecDepth 100000
def noFit : Fin × Heap := (.ret (.tup [W4.zero.v, .bool false]), [])
def hiT (S : Nat) (e : Tr (Fin × Heap)) : List Nat → Tr (Fin × Heap)
  | [] => e
  | [i] => .br (W4.dig S i != 0) (.chk true (.leaf noFit)) e
  | i :: j :: r => .br (W4.dig S i != 0) (.chk true (.leaf noFit)) (.chk true (hiT S e (j :: r)))
def hiSh : Nat → Tr.Sh
  | 0 => Tr.Sh.any.r
  | n + 1 => (Tr.Sh.any.both (hiSh n)).l
def gW (x : E.TX) : W4 := ⟨BitVec.ofInt 64 0, BitVec.ofInt 64 0, BitVec.ofInt 64 0, x.g⟩
def mostS (x : E.TX) : Nat := W4.valI (W4.dg 64 (W4.valI (W4.dg 32 x.p.n) * W4.valI (W4.dg 32 (gW x).n))) + W4.valI (W4.dg 32 x.v.n)
def hiL : List Nat := [32,33,34,35,36,37,38,39,40,41,42,43,44,45,46,47,48,49,50,51,52,53,54,55,56,57,58,59,60,61,62,63]
theorem rmost_y (x : E.TX) : Tr.prune (hiSh 32) (execBF Pr OR9 noLoopsT 100 Go.Proofs.Try.f54 [x.val] []) =
  Tr.chk (W4.isD 32 (W4.dg 32 x.p.n) && W4.isD 32 (W4.dg 32 (gW x).n) && true && (W4.isD 64 (W4.dg 64 (W4.valI (W4.dg 32 x.p.n) * W4.valI (W4.dg 32 (gW x).n))) && W4.isD 32 (W4.dg 32 x.v.n) && true && true) && true)
    (hiT (mostS x) (.chk ((false || true) && W4.isD 64 (W4.dg 64 (mostS x)) && true && true) (.leaf (.ret (.tup [(W4.ofN (W4.valI (W4.dg 64 (mostS x)))).v, .bool true]), []))) hiL) := by kernel_rfl
theorem hiT_yes {S : Nat} {e : Tr (Fin × Heap)} {Q : Fin × Heap → Prop} (he : e.wp Q) : ∀ l : List Nat, (∀ i ∈ l, W4.dig S i = 0) → (hiT S e l).wp Q
  | [], _ => he
  | [i], h => by
    rw [hiT, wp_br]
    refine ⟨fun h1 => ?_, fun _ => he⟩
    rw [h i (by simp)] at h1; cases h1
  | i :: j :: r, h => by
    rw [hiT, wp_br]
    refine ⟨fun h1 => ?_, fun _ => wp_chk_true.2 (hiT_yes he (j :: r) (fun k hk => h k (List.mem_cons_of_mem _ hk)))⟩
    rw [h i (by simp)] at h1; cases h1
theorem hiT_no {S : Nat} {e : Tr (Fin × Heap)} {Q : Fin × Heap → Prop} (he : Q noFit) : ∀ l : List Nat, (∃ i ∈ l, W4.dig S i ≠ 0) → (hiT S e l).wp Q
  | [], h => by obtain ⟨i, hi, _⟩ := h; cases hi
  | [i], h => by
    rw [hiT, wp_br]
    refine ⟨fun _ => wp_chk_true.2 he, fun h1 => ?_⟩
    obtain ⟨j, hj, hd⟩ := h
    rw [List.mem_singleton] at hj
    subst hj
    have : W4.dig S j = 0 := by simpa using h1
    exact (hd this).elim
  | i :: j :: r, h => by
    rw [hiT, wp_br]
    refine ⟨fun _ => wp_chk_true.2 he, fun h1 => wp_chk_true.2 (hiT_no he (j :: r) ?_)⟩
    obtain ⟨k, hk, hd⟩ := h
    rcases List.mem_cons.1 hk with rfl | hk
    · have : W4.dig S k = 0 := by simpa using h1
      exact (hd this).elim
    · exact ⟨k, hk, hd⟩
theorem hi_iff {S : Nat} (hS : S < 256 ^ 64) : (∀ i ∈ hiL, W4.dig S i = 0) ↔ S < 256 ^ 32 := by
  constructor
  · intro h
    have hd : ∀ j, j < 32 → W4.dig (S / 256 ^ 32) j = 0 := by
      intro j hj
      have := h (32 + j) (by unfold hiL; simp; omega)
      rw [W4.dig, Nat.div_div_eq_div_mul, ← Nat.pow_add]
      exact this
    have e : W4.dg 32 (S / 256 ^ 32) = W4.dg 32 0 := by
      rw [W4.dg_eq, W4.dg_eq]
      refine List.map_congr_left (fun j hj => ?_)
      rw [hd j (by simpa using hj), W4.dig]
      simp
    have e2 := congrArg W4.valI e
    rw [W4.valI_dg, W4.valI_dg, Nat.zero_mod] at e2
    have h1 : S / 256 ^ 32 < 256 ^ 32 := by
      rw [Nat.div_lt_iff_lt_mul (by decide), ← Nat.pow_add]; exact hS
    rw [Nat.mod_eq_of_lt h1] at e2
    exact (Nat.div_eq_zero_iff_lt (by decide)).1 e2
  · intro h i hi
    have : 32 ≤ i := by
      unfold hiL at hi
      simp only [List.mem_cons, List.not_mem_nil, or_false] at hi
      omega
    exact dig_hi h this
theorem plusOk_iff {x y : W4} : plusOk x y = true ↔ x.n + y.n < 2 ^ 256 := by
  unfold plusOk
  rw [Bool.not_eq_true', Bool.eq_false_iff, Ne, W4.lt_iff, W4.add_n]
  have h1 := x.n_lt
  have h2 := y.n_lt
  omega
theorem gW_n (x : E.TX) : (gW x).n = (W4.small x.g).n := rfl
theorem mostS_eq (x : E.TX) : mostS x = x.p.n * (W4.small x.g).n + x.v.n ∧ x.p.n * (W4.small x.g).n < 256 ^ 63 := by
  have h1 := x.p.n_lt
  have h2 := small_lt x.g
  have hb : x.p.n * (W4.small x.g).n < 256 ^ 63 := by
    calc x.p.n * (W4.small x.g).n ≤ 2 ^ 256 * 2 ^ 64 := Nat.mul_le_mul (Nat.le_of_lt h1) (Nat.le_of_lt h2)
      _ < 256 ^ 63 := by decide
  refine ⟨?_, hb⟩
  unfold mostS
  rw [gW_n, valI_dg32 x.p.n_lt, valI_dg32 (W4.small x.g).n_lt, valI_dg32 x.v.n_lt, W4.valI_dg, Nat.mod_eq_of_lt (Nat.lt_trans hb (by decide))]
def mostR (x : E.TX) : V := if mostOk x.g x.p x.v = true then .tup [(mostV x.g x.p x.v).v, .bool true] else .tup [W4.zero.v, .bool false]
theorem rmost_fn (x : E.TX) : LFn Pr 54 [x.val] [] (.ret (mostR x)) [] := by
  refine fnT OR9_sound mixed (by kernel_rfl) LoopsOk.noneT (rmost_y x) ?_
  obtain ⟨hS, hb⟩ := mostS_eq x
  have hv := x.v.n_lt
  have hS64 : mostS x < 256 ^ 64 := by
    have : (2 : Nat) ^ 256 + 256 ^ 63 ≤ 256 ^ 64 := by decide
    omega
  have hok : mostOk x.g x.p x.v = true ↔ mostS x < 256 ^ 32 := by
    unfold mostOk
    rw [Bool.and_eq_true, timesOk_iff, plusOk_iff, W4.mul_n, hS, show (256 : Nat) ^ 32 = 2 ^ 256 from rfl]
    constructor
    · rintro ⟨h1, h2⟩; rw [Nat.mod_eq_of_lt h1] at h2; exact h2
    · intro h
      have h1 : x.p.n * (W4.small x.g).n < 2 ^ 256 := by omega
      rw [Nat.mod_eq_of_lt h1]; exact ⟨h1, h⟩
  refine wp_chk.2 ⟨by rw [W4.isD_dg, W4.isD_dg, W4.isD_dg, W4.isD_dg]; rfl, ?_⟩
  unfold mostR
  by_cases h : mostS x < 256 ^ 32
  · rw [if_pos (hok.2 h)]
    refine hiT_yes ?_ hiL ((hi_iff hS64).2 h)
    refine wp_chk.2 ⟨by rw [W4.isD_dg]; rfl, ?_⟩
    have e : W4.ofN (W4.valI (W4.dg 64 (mostS x))) = mostV x.g x.p x.v := W4.ext_n (by
      have h1 : x.p.n * (W4.small x.g).n + x.v.n < 2 ^ 256 := by rw [← hS]; exact h
      rw [W4.valI_dg, W4.ofN_n, Nat.mod_eq_of_lt hS64, Nat.mod_eq_of_lt (show mostS x < 2 ^ 256 from h), hS]
      unfold mostV
      rw [W4.add_n, W4.mul_n, Nat.mod_eq_of_lt (show x.p.n * (W4.small x.g).n < 2 ^ 256 by omega), Nat.mod_eq_of_lt h1])
    rw [e]; exact (rfl : _ = _)
  · rw [if_neg (fun e => h (hok.1 e))]
    refine hiT_no (Q := fun r => r = (Fin.ret (.tup [W4.zero.v, .bool false]), ([] : Heap))) rfl hiL ?_
    apply Classical.byContradiction
    intro hne
    exact h ((hi_iff hS64).1 (fun i hi => Classical.byContradiction fun hd => hne ⟨i, hi, hd⟩))
end
end Go.Proofs.Ytajbaocfdlopbaa.K
end
section
open Go Go.Lh
namespace Go.Proofs.Ytajbaocfdlopbaa.K
noncomputable section
set_option maxRecDepth 100000
theorem fmost2_x (k : Int) (s1 : List (BitVec 8)) (s2 : List (BitVec 8)) (d : List (BitVec 8)) (n : BitVec 64) (g : BitVec 64) (p : W4) (t : W4) (v : W4) (ln : Nat) (f : Nat → Nat → V) : Tr.prune ((Tr.Sh.any.r.both
      Tr.Sh.any.l).both
  Tr.Sh.any.l)
  (execDF Pr OG1 noLoopsT (100 : Nat) Go.Proofs.Try.f53
  [V.agg
      [V.int IntKind.i64 k, V.str s1, V.str s2, V.u64 n, V.u64 g, V.u64 p.a, V.u64 p.b, V.u64 p.c, V.u64 p.d, V.u64 t.a,
        V.u64 t.b, V.u64 t.c, V.u64 t.d, V.u64 v.a, V.u64 v.b, V.u64 v.c, V.u64 v.d, V.str d, V.isl (2 : Nat) ln f]]
  []) =
  Tr.chk true
  (Tr.br (timesOk p (W4.small g))
    (Tr.chk true
      (Tr.br (plusOk (p.mul (W4.small g)) v)
        (Tr.chk true
          (Tr.leaf
            (Fin.ret
                (V.tup
                  [V.agg
                      [V.u64 ((p.mul (W4.small g)).add v).a, V.u64 ((p.mul (W4.small g)).add v).b,
                        V.u64 ((p.mul (W4.small g)).add v).c, V.u64 ((p.mul (W4.small g)).add v).d],
                    V.bool true]),
              [])))
        (Tr.chk true
          (Tr.leaf
            (Fin.ret
                (V.tup
                  [V.agg
                      [V.u64 (BitVec.ofInt (64 : Nat) (0 : Int)), V.u64 (BitVec.ofInt (64 : Nat) (0 : Int)),
                        V.u64 (BitVec.ofInt (64 : Nat) (0 : Int)), V.u64 (BitVec.ofInt (64 : Nat) (0 : Int))],
                    V.bool false]),
              [])))))
    (Tr.chk true
      (Tr.leaf
        (Fin.ret
            (V.tup
              [V.agg
                  [V.u64 (BitVec.ofInt (64 : Nat) (0 : Int)), V.u64 (BitVec.ofInt (64 : Nat) (0 : Int)),
                    V.u64 (BitVec.ofInt (64 : Nat) (0 : Int)), V.u64 (BitVec.ofInt (64 : Nat) (0 : Int))],
                V.bool false]),
          [])))) := by kernel_rfl
def readX (a : V) : Option E.TX := match a with
  | .agg [.int .i64 k, .str s1, .str s2, .u64 n, .u64 g, .u64 pa, .u64 pb, .u64 pc, .u64 pd, .u64 ta, .u64 tb, .u64 tc, .u64 td, .u64 va, .u64 vb, .u64 vc, .u64 vd, .str d, a] => some ⟨k, s1, s2, n, g, ⟨pa, pb, pc, pd⟩, ⟨ta, tb, tc, td⟩, ⟨va, vb, vc, vd⟩, d, a⟩
  | _ => none
theorem readX_val {a : V} {x : E.TX} (h : readX a = some x) : a = x.val := by
  unfold readX at h
  split at h <;> cases h
  rfl
def isIsl : V → Bool
  | .isl 2 _ _ => true
  | _ => false
theorem isIsl_iff {v : V} (h : isIsl v = true) : ∃ n f, v = .isl 2 n f := by
  unfold isIsl at h
  split at h
  · exact ⟨_, _, rfl⟩
  · cases h
def rdM : List V → Heap → Option E.TX := fun args h => match args, h with
  | [a], [] => readX a
  | _, _ => none
theorem rdM_ok : ∀ args h a, rdM args h = some a → args = [a.val] ∧ h = [] := by
  intro args h a e
  unfold rdM at e
  split at e
  · exact ⟨by rw [readX_val e], rfl⟩
  · cases e
def rdP : List V → Heap → Option (E.TX × W4) := fun args h => match args, h with
  | [a, .agg [.u64 b0, .u64 b1, .u64 b2, .u64 b3]], [] => (match readX a with | some x => some (x, ⟨b0, b1, b2, b3⟩) | none => none)
  | _, _ => none
theorem rdP_ok : ∀ args h a, rdP args h = some a → args = [a.1.val, a.2.v] ∧ h = [] := by
  intro args h a e
  unfold rdP at e
  split at e
  · split at e
    · rename_i x hx
      cases e
      exact ⟨by rw [readX_val hx]; rfl, rfl⟩
    · cases e
  · cases e
def nx_f (a : W4 × BitVec 64 × BitVec 64) : Tr (Fin × Heap) := .leaf (.ret (E.nextC a.1 a.2.1 a.2.2).v, [])
def prW (x : E.TX) (b : W4) : W4 := if E.badC x b = true then W4.zero else W4.add b (E.tipC x b)
def tpW (x : E.TX) (b : W4) : W4 := if E.badC x b = true then W4.zero else E.tipC x b
def erI (x : E.TX) (b : W4) : Int := if E.badC x b = true then 17 else 0
def mW (x : E.TX) : W4 := if mostOk x.g x.p x.v = true then mostV x.g x.p x.v else W4.zero
def mOk (x : E.TX) : Bool := mostOk x.g x.p x.v
def px_f (a : E.TX × W4) : Tr (Fin × Heap) := .leaf (.ret (.tup [(prW a.1 a.2).v, (tpW a.1 a.2).v, .int .i64 (erI a.1 a.2)]), [])
def mx_f (x : E.TX) : Tr (Fin × Heap) := .leaf (.ret (.tup [(mW x).v, .bool (mOk x)]), [])
def mi_f (x : E.TX) : Tr (Fin × Heap) := .chk (isIsl x.a) (mx_f x)
theorem nx_okG {i : FuncId} (hf : ∀ b u l, LFn Pr i [W4.v b, .u64 u, .u64 l] [] (.ret (E.nextC b u l).v) []) : ∀ args h r, (ctT E.readWUU nx_f args h).is r → LFn Pr i args h r.1 r.2 := by
  refine ctT_ok (fun a => [a.1.v, .u64 a.2.1, .u64 a.2.2]) (fun _ => []) ?_ (fun a r h => ?_)
  · intro args h a e
    unfold E.readWUU at e
    split at e <;> cases e
    exact ⟨rfl, rfl⟩
  · rw [nx_f, Tr.is_leaf] at h
    subst h; exact hf _ _ _
theorem px_okG {i : FuncId} (hf : ∀ x b, LFn Pr i [E.TX.val x, W4.v b] [] (.ret (E.priceV x b)) []) : ∀ args h r, (ctT rdP px_f args h).is r → LFn Pr i args h r.1 r.2 := by
  refine ctT_ok (fun a => [a.1.val, a.2.v]) (fun _ => []) rdP_ok (fun a r h => ?_)
  have := hf a.1 a.2
  unfold E.priceV at this
  rw [px_f, Tr.is_leaf] at h
  subst h
  unfold prW tpW erI
  by_cases hb : E.badC a.1 a.2 = true
  · rw [if_pos hb] at this
    rw [if_pos hb, if_pos hb, if_pos hb]; exact this
  · rw [if_neg hb] at this
    rw [if_neg hb, if_neg hb, if_neg hb]; exact this
theorem mx_okG {i : FuncId} (hf : ∀ x, LFn Pr i [E.TX.val x] [] (.ret (mostR x)) []) : ∀ args h r, (ctT rdM mx_f args h).is r → LFn Pr i args h r.1 r.2 := by
  refine ctT_ok (fun a => [a.val]) (fun _ => []) rdM_ok (fun a r h => ?_)
  have := hf a
  unfold mostR at this
  rw [mx_f, Tr.is_leaf] at h
  subst h
  unfold mW mOk
  by_cases hb : mostOk a.g a.p a.v = true
  · rw [if_pos hb] at this
    rw [if_pos hb, hb]; exact this
  · rw [if_neg hb] at this
    rw [if_neg hb, Bool.eq_false_iff.2 hb]; exact this
theorem mi_ok : ∀ args h r, (ctT rdM mi_f args h).is r → LFn Pr 53 args h r.1 r.2 := by
  refine ctT_ok (fun a => [a.val]) (fun _ => []) rdM_ok (fun a r h => ?_)
  rw [mi_f, Tr.is_chk] at h
  obtain ⟨hi, h⟩ := h
  obtain ⟨k, s1, s2, n, g, p, t, v, d, ac⟩ := a
  obtain ⟨ln, f, rfl⟩ := isIsl_iff hi
  refine fnDT OG1_sound mixed (by kernel_rfl) (fmost2_x k s1 s2 d n g p t v ln f) (E := mx_f ⟨k, s1, s2, n, g, p, t, v, d, .isl 2 ln f⟩) ?_ r h
  intro q h
  rw [mx_f, Tr.is_leaf] at h
  have hk : mOk (⟨k, s1, s2, n, g, p, t, v, d, .isl 2 ln f⟩ : E.TX) = (timesOk p (W4.small g) && plusOk (p.mul (W4.small g)) v) := rfl
  have yes : mOk (⟨k, s1, s2, n, g, p, t, v, d, .isl 2 ln f⟩ : E.TX) = true → mW (⟨k, s1, s2, n, g, p, t, v, d, .isl 2 ln f⟩ : E.TX) = mostV g p v := fun e => if_pos e
  have no : mOk (⟨k, s1, s2, n, g, p, t, v, d, .isl 2 ln f⟩ : E.TX) = false → mW (⟨k, s1, s2, n, g, p, t, v, d, .isl 2 ln f⟩ : E.TX) = W4.zero := fun e => if_neg (fun e2 => by rw [show mOk (⟨k, s1, s2, n, g, p, t, v, d, .isl 2 ln f⟩ : E.TX) = true from e2] at e; cases e)
  refine wp_chk_true.2 (wp_br.2 ⟨fun h1 => wp_chk_true.2 (wp_br.2 ⟨fun h2 => wp_chk_true.2 ?_, fun h2 => wp_chk_true.2 ?_⟩), fun h1 => wp_chk_true.2 ?_⟩)
  · rw [h1, h2] at hk
    rw [yes hk, hk] at h; exact h
  · rw [h1, h2] at hk
    rw [no hk, hk] at h; exact h
  · rw [h1, Bool.false_and] at hk
    rw [no hk, hk] at h; exact h
def KFr : KnownT := (35, feex_g) :: (37, ctT E.readWUU nx_f) :: (55, ctT E.readWUU nx_f) :: (41, ctT rdP px_f) :: (52, ctT rdP px_f) :: (53, ctT rdM mi_f) :: (54, ctT rdM mx_f) :: KW2
theorem KFr_ok : KOkT Pr KFr := KOkT.cons (Enters.of (fn := Go.Proofs.Try.f35) (by kernel_rfl) (by kernel_rfl)) feex_ok (KOkT.cons (Enters.of (fn := Go.Proofs.Try.f37) (by kernel_rfl) (by kernel_rfl)) (nx_okG E.next_fn) (KOkT.cons (Enters.of (fn := Go.Proofs.Try.f55) (by kernel_rfl) (by kernel_rfl)) (nx_okG rnext_fn)
  (KOkT.cons (Enters.of (fn := Go.Proofs.Try.f41) (by kernel_rfl) (by kernel_rfl)) (px_okG E.price_fn) (KOkT.cons (Enters.of (fn := Go.Proofs.Try.f52) (by kernel_rfl) (by kernel_rfl)) (px_okG rprice_fn) (KOkT.cons (Enters.of (fn := Go.Proofs.Try.f53) (by kernel_rfl) (by kernel_rfl)) mi_ok (KOkT.cons (Enters.of (fn := Go.Proofs.Try.f54) (by kernel_rfl) (by kernel_rfl)) (mx_okG rmost_fn) KW2_ok))))))
def OFr : OrcT := autoT Pr ext KFr [] 5
theorem OFr_sound : OrcSound Pr OFr.o := autoT_sound mixed ext_ok KFr_ok (by kernel_rfl) 5
theorem frl_x (b : W4) (u : BitVec 64) (l : BitVec 64) (k : Int) (s1 : List (BitVec 8)) (s2 : List (BitVec 8)) (d : List (BitVec 8)) (n : BitVec 64) (g : BitVec 64) (p : W4) (t : W4) (v : W4) (ln : Nat) (f : Nat → Nat → V) (sm : Bool) : Tr.prune (((((((Tr.Sh.any.l.l.both
                                                          Tr.Sh.any.r.r).l.l.both
                                                  Tr.Sh.any.r.r.r.r.r).l.l.both
                                          Tr.Sh.any.r.r.r.r.r.r.r.r).l.l.both
                                  Tr.Sh.any.r.r.r.r.r.r.r.r.r.r.r).l.l.both
                          Tr.Sh.any.r.r.r.r.r.r.r.r.r.r.r.r.r.r).l.l.l.l.l.l.l.l.l.both
    (((((Tr.Sh.any.l.l.both Tr.Sh.any.r.r).l.l.both Tr.Sh.any.r.r.r.r.r).l.l.both Tr.Sh.any.r.r.r.r.r.r.r.r).l.l.both
                                Tr.Sh.any.r.r.r.r.r.r.r.r.r.r.r).l.l.both
                        Tr.Sh.any.r.r.r.r.r.r.r.r.r.r.r.r.r.r).l.l.l.l.l.l.l.l.l).r)
  (execBF Pr OFr noLoopsT (200 : Nat) Go.Proofs.Try.f16
  [b.v, V.u64 u, V.u64 l,
    V.agg
      [V.int IntKind.i64 k, V.str s1, V.str s2, V.u64 n, V.u64 g, V.u64 p.a, V.u64 p.b, V.u64 p.c, V.u64 p.d, V.u64 t.a,
        V.u64 t.b, V.u64 t.c, V.u64 t.d, V.u64 v.a, V.u64 v.b, V.u64 v.c, V.u64 v.d, V.str d, V.isl (2 : Nat) ln f],
    V.bool sm]
  []) =
  Tr.chk true
  (Tr.br sm
    (Tr.chk (isIsl (V.isl (2 : Nat) ln f) && true && true && true)
      (Tr.br
        ((E.nextC (W4.small b.d) u l).a == (E.nextC (W4.small b.d) u l).a &&
          ((E.nextC (W4.small b.d) u l).b == (E.nextC (W4.small b.d) u l).b &&
            ((E.nextC (W4.small b.d) u l).c == (E.nextC (W4.small b.d) u l).c &&
              ((E.nextC (W4.small b.d) u l).d == (E.nextC (W4.small b.d) u l).d && true))))
        (Tr.chk true
          (Tr.br
            ((prW (E.TX.mk k s1 s2 n g (W4.small p.d) (W4.small t.d) v d (V.isl (2 : Nat) ln f)) (W4.small b.d)).a ==
                (prW (E.TX.mk k s1 s2 n g (W4.small p.d) (W4.small t.d) v d (V.isl (2 : Nat) ln f)) (W4.small b.d)).a &&
              ((prW (E.TX.mk k s1 s2 n g (W4.small p.d) (W4.small t.d) v d (V.isl (2 : Nat) ln f)) (W4.small b.d)).b ==
                  (prW (E.TX.mk k s1 s2 n g (W4.small p.d) (W4.small t.d) v d (V.isl (2 : Nat) ln f))
                      (W4.small b.d)).b &&
                ((prW (E.TX.mk k s1 s2 n g (W4.small p.d) (W4.small t.d) v d (V.isl (2 : Nat) ln f))
                        (W4.small b.d)).c ==
                    (prW (E.TX.mk k s1 s2 n g (W4.small p.d) (W4.small t.d) v d (V.isl (2 : Nat) ln f))
                        (W4.small b.d)).c &&
                  ((prW (E.TX.mk k s1 s2 n g (W4.small p.d) (W4.small t.d) v d (V.isl (2 : Nat) ln f))
                          (W4.small b.d)).d ==
                      (prW (E.TX.mk k s1 s2 n g (W4.small p.d) (W4.small t.d) v d (V.isl (2 : Nat) ln f))
                          (W4.small b.d)).d &&
                    true))))
            (Tr.chk true
              (Tr.br
                ((tpW (E.TX.mk k s1 s2 n g (W4.small p.d) (W4.small t.d) v d (V.isl (2 : Nat) ln f))
                        (W4.small b.d)).a ==
                    (tpW (E.TX.mk k s1 s2 n g (W4.small p.d) (W4.small t.d) v d (V.isl (2 : Nat) ln f))
                        (W4.small b.d)).a &&
                  ((tpW (E.TX.mk k s1 s2 n g (W4.small p.d) (W4.small t.d) v d (V.isl (2 : Nat) ln f))
                          (W4.small b.d)).b ==
                      (tpW (E.TX.mk k s1 s2 n g (W4.small p.d) (W4.small t.d) v d (V.isl (2 : Nat) ln f))
                          (W4.small b.d)).b &&
                    ((tpW (E.TX.mk k s1 s2 n g (W4.small p.d) (W4.small t.d) v d (V.isl (2 : Nat) ln f))
                            (W4.small b.d)).c ==
                        (tpW (E.TX.mk k s1 s2 n g (W4.small p.d) (W4.small t.d) v d (V.isl (2 : Nat) ln f))
                            (W4.small b.d)).c &&
                      ((tpW (E.TX.mk k s1 s2 n g (W4.small p.d) (W4.small t.d) v d (V.isl (2 : Nat) ln f))
                              (W4.small b.d)).d ==
                          (tpW (E.TX.mk k s1 s2 n g (W4.small p.d) (W4.small t.d) v d (V.isl (2 : Nat) ln f))
                              (W4.small b.d)).d &&
                        true))))
                (Tr.chk true
                  (Tr.br
                    (erI (E.TX.mk k s1 s2 n g (W4.small p.d) (W4.small t.d) v d (V.isl (2 : Nat) ln f))
                        (W4.small b.d) ==
                      erI (E.TX.mk k s1 s2 n g (W4.small p.d) (W4.small t.d) v d (V.isl (2 : Nat) ln f)) (W4.small b.d))
                    (Tr.chk true
                      (Tr.br
                        ((mW (E.TX.mk k s1 s2 n g (W4.small p.d) (W4.small t.d) v d (V.isl (2 : Nat) ln f))).a ==
                            (mW (E.TX.mk k s1 s2 n g (W4.small p.d) (W4.small t.d) v d (V.isl (2 : Nat) ln f))).a &&
                          ((mW (E.TX.mk k s1 s2 n g (W4.small p.d) (W4.small t.d) v d (V.isl (2 : Nat) ln f))).b ==
                              (mW (E.TX.mk k s1 s2 n g (W4.small p.d) (W4.small t.d) v d (V.isl (2 : Nat) ln f))).b &&
                            ((mW (E.TX.mk k s1 s2 n g (W4.small p.d) (W4.small t.d) v d (V.isl (2 : Nat) ln f))).c ==
                                (mW (E.TX.mk k s1 s2 n g (W4.small p.d) (W4.small t.d) v d (V.isl (2 : Nat) ln f))).c &&
                              ((mW (E.TX.mk k s1 s2 n g (W4.small p.d) (W4.small t.d) v d (V.isl (2 : Nat) ln f))).d ==
                                  (mW
                                      (E.TX.mk k s1 s2 n g (W4.small p.d) (W4.small t.d) v d
                                        (V.isl (2 : Nat) ln f))).d &&
                                true))))
                        (Tr.chk true
                          (Tr.leaf
                            (Fin.ret
                                (V.bool
                                  (mOk (E.TX.mk k s1 s2 n g (W4.small p.d) (W4.small t.d) v d (V.isl (2 : Nat) ln f)) ==
                                    mOk
                                      (E.TX.mk k s1 s2 n g (W4.small p.d) (W4.small t.d) v d (V.isl (2 : Nat) ln f)))),
                              [])))
                        (Tr.chk true (Tr.leaf (Fin.ret (V.bool false), [])))))
                    (Tr.chk true (Tr.leaf (Fin.ret (V.bool false), [])))))
                (Tr.chk true (Tr.leaf (Fin.ret (V.bool false), [])))))
            (Tr.chk true (Tr.leaf (Fin.ret (V.bool false), [])))))
        (Tr.chk true (Tr.leaf (Fin.ret (V.bool false), [])))))
    (Tr.chk (isIsl (V.isl (2 : Nat) ln f) && true && true && true)
      (Tr.br
        ((E.nextC b u l).a == (E.nextC b u l).a &&
          ((E.nextC b u l).b == (E.nextC b u l).b &&
            ((E.nextC b u l).c == (E.nextC b u l).c && ((E.nextC b u l).d == (E.nextC b u l).d && true))))
        (Tr.chk true
          (Tr.br
            ((prW (E.TX.mk k s1 s2 n g p t v d (V.isl (2 : Nat) ln f)) b).a ==
                (prW (E.TX.mk k s1 s2 n g p t v d (V.isl (2 : Nat) ln f)) b).a &&
              ((prW (E.TX.mk k s1 s2 n g p t v d (V.isl (2 : Nat) ln f)) b).b ==
                  (prW (E.TX.mk k s1 s2 n g p t v d (V.isl (2 : Nat) ln f)) b).b &&
                ((prW (E.TX.mk k s1 s2 n g p t v d (V.isl (2 : Nat) ln f)) b).c ==
                    (prW (E.TX.mk k s1 s2 n g p t v d (V.isl (2 : Nat) ln f)) b).c &&
                  ((prW (E.TX.mk k s1 s2 n g p t v d (V.isl (2 : Nat) ln f)) b).d ==
                      (prW (E.TX.mk k s1 s2 n g p t v d (V.isl (2 : Nat) ln f)) b).d &&
                    true))))
            (Tr.chk true
              (Tr.br
                ((tpW (E.TX.mk k s1 s2 n g p t v d (V.isl (2 : Nat) ln f)) b).a ==
                    (tpW (E.TX.mk k s1 s2 n g p t v d (V.isl (2 : Nat) ln f)) b).a &&
                  ((tpW (E.TX.mk k s1 s2 n g p t v d (V.isl (2 : Nat) ln f)) b).b ==
                      (tpW (E.TX.mk k s1 s2 n g p t v d (V.isl (2 : Nat) ln f)) b).b &&
                    ((tpW (E.TX.mk k s1 s2 n g p t v d (V.isl (2 : Nat) ln f)) b).c ==
                        (tpW (E.TX.mk k s1 s2 n g p t v d (V.isl (2 : Nat) ln f)) b).c &&
                      ((tpW (E.TX.mk k s1 s2 n g p t v d (V.isl (2 : Nat) ln f)) b).d ==
                          (tpW (E.TX.mk k s1 s2 n g p t v d (V.isl (2 : Nat) ln f)) b).d &&
                        true))))
                (Tr.chk true
                  (Tr.br
                    (erI (E.TX.mk k s1 s2 n g p t v d (V.isl (2 : Nat) ln f)) b ==
                      erI (E.TX.mk k s1 s2 n g p t v d (V.isl (2 : Nat) ln f)) b)
                    (Tr.chk true
                      (Tr.br
                        ((mW (E.TX.mk k s1 s2 n g p t v d (V.isl (2 : Nat) ln f))).a ==
                            (mW (E.TX.mk k s1 s2 n g p t v d (V.isl (2 : Nat) ln f))).a &&
                          ((mW (E.TX.mk k s1 s2 n g p t v d (V.isl (2 : Nat) ln f))).b ==
                              (mW (E.TX.mk k s1 s2 n g p t v d (V.isl (2 : Nat) ln f))).b &&
                            ((mW (E.TX.mk k s1 s2 n g p t v d (V.isl (2 : Nat) ln f))).c ==
                                (mW (E.TX.mk k s1 s2 n g p t v d (V.isl (2 : Nat) ln f))).c &&
                              ((mW (E.TX.mk k s1 s2 n g p t v d (V.isl (2 : Nat) ln f))).d ==
                                  (mW (E.TX.mk k s1 s2 n g p t v d (V.isl (2 : Nat) ln f))).d &&
                                true))))
                        (Tr.chk true
                          (Tr.leaf
                            (Fin.ret
                                (V.bool
                                  (mOk (E.TX.mk k s1 s2 n g p t v d (V.isl (2 : Nat) ln f)) ==
                                    mOk (E.TX.mk k s1 s2 n g p t v d (V.isl (2 : Nat) ln f)))),
                              [])))
                        (Tr.chk true (Tr.leaf (Fin.ret (V.bool false), [])))))
                    (Tr.chk true (Tr.leaf (Fin.ret (V.bool false), [])))))
                (Tr.chk true (Tr.leaf (Fin.ret (V.bool false), [])))))
            (Tr.chk true (Tr.leaf (Fin.ret (V.bool false), [])))))
        (Tr.chk true (Tr.leaf (Fin.ret (V.bool false), [])))))) := by kernel_rfl
end
end Go.Proofs.Ytajbaocfdlopbaa.K
end
section
open Go Go.Lh
namespace Go.Proofs.Ytajbaocfdlopbaa.K
noncomputable section
set_option maxRecDepth 100000
theorem feeReckons_fn (b : W4) (u l : BitVec 64) (k : Int) (s1 s2 d : List (BitVec 8)) (n g : BitVec 64) (p t v : W4) (ln : Nat) (f : Nat → Nat → V) (sm : Bool) : LFn Pr 16 [b.v, .u64 u, .u64 l, .agg [.int .i64 k, .str s1, .str s2, .u64 n, .u64 g, .u64 p.a, .u64 p.b, .u64 p.c, .u64 p.d, .u64 t.a, .u64 t.b, .u64 t.c, .u64 t.d, .u64 v.a, .u64 v.b, .u64 v.c, .u64 v.d, .str d, .isl 2 ln f], .bool sm] [] (.ret (.bool true)) [] := by
  refine fnT OFr_sound mixed (by kernel_rfl) LoopsOk.noneT (frl_x b u l k s1 s2 d n g p t v ln f sm) ?_
  simp only [isIsl, wp_chk_true, wp_chk, wp_leaf, wp_br, ret_bool, Bool.and_true, Bool.true_and, beq_self_eq_true, Bool.and_self, and_true, true_and, true_implies, Bool.true_eq_false, false_implies, implies_true]
end
end Go.Proofs.Ytajbaocfdlopbaa.K
end
