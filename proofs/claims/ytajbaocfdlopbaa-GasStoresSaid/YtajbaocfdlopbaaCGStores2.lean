/- The functions that this law reaches: what each comes to. -/
import Derived.Test.YtajbaocfdlopbaaCGStores1
set_option linter.unusedSimpArgs false
set_option linter.unusedVariables false
section
open Go Go.Lh
namespace Go.Proofs.Ytajbaocfdlopbaa.K
noncomputable section
set_option maxRecDepth 100000
/-- what a transaction asks for: how many slots of each address -/
structure AX where
  a : Nat → List (BitVec 8)
  m : Nat → Nat
def axF (x : AX) : Nat → Nat → V := fun i j => match j with
  | 0 => .str (x.a i)
  | _ + 1 => .isl 4 (x.m i) (fun _ _ => .any)
structure TX where
  k : Int
  s1 : List (BitVec 8)
  s2 : List (BitVec 8)
  n : BitVec 64
  g : BitVec 64
  p : W4
  t : W4
  v : W4
  d : List (BitVec 8)
  ln : Nat
  ax : AX
def TX.cs (x : TX) : List V := [.int .i64 x.k, .str x.s1, .str x.s2, .u64 x.n, .u64 x.g, .u64 x.p.a, .u64 x.p.b, .u64 x.p.c, .u64 x.p.d, .u64 x.t.a, .u64 x.t.b, .u64 x.t.c, .u64 x.t.d, .u64 x.v.a, .u64 x.v.b, .u64 x.v.c, .u64 x.v.d, .str x.d, .isl 2 x.ln (axF x.ax)]
def OX0 : OrcT := autoT Pr ext [] [] 3
theorem OX0_sound : OrcSound Pr OX0.o := autoT_sound mixed ext_ok KOkT.nil (by kernel_rfl) 3
theorem il_x (x : TX) (acc : BitVec 64) (i : Nat) : Tr.prune (Tr.Sh.any.both Tr.Sh.any)
  (execBN Pr OX0 noLoopsT (100 : Nat) (0 : Nat) [(1 : Nat), (3 : Nat), (11 : Nat), (12 : Nat), (13 : Nat)]
  [(1 : Nat), (3 : Nat)] (loopBody Go.Proofs.Try.f45 (0 : Nat))
  [((1 : Nat), V.ptr (0 : Nat) (0 : Nat)), ((3 : Nat), V.u64 acc), ((11 : Nat), V.isl (2 : Nat) x.ln (axF x.ax)),
    ((12 : Nat), V.int IntKind.i64 (↑x.ln : Int)), ((13 : Nat), V.int IntKind.i64 (↑i : Int))]
  [Blk.vals x.cs]) =
  Tr.chk true
  (Tr.br (decide ((↑i : Int) < (↑x.ln : Int)))
    (Tr.chk (decide ((↑i : Int) < (↑x.ln : Int)) && (decide (i < x.ln) && true && true) && true && true)
      (Tr.leaf
        (X.normal,
          [((1 : Nat), V.ptr (0 : Nat) (0 : Nat)),
            ((3 : Nat),
              V.u64
                (acc +
                  (BitVec.ofInt (64 : Nat) (2400 : Int) +
                    BitVec.ofInt (64 : Nat) (1900 : Int) * BitVec.ofInt (64 : Nat) (↑(x.ax.m i) : Int)))),
            ((11 : Nat), V.isl (2 : Nat) x.ln (axF x.ax)), ((12 : Nat), V.int IntKind.i64 (↑x.ln : Int)),
            ((13 : Nat), V.int IntKind.i64 (wrapI IntKind.i64 ((↑i : Int) + (1 : Int))))],
          [Blk.vals
              [V.int IntKind.i64 x.k, V.str x.s1, V.str x.s2, V.u64 x.n, V.u64 x.g, V.u64 x.p.a, V.u64 x.p.b,
                V.u64 x.p.c, V.u64 x.p.d, V.u64 x.t.a, V.u64 x.t.b, V.u64 x.t.c, V.u64 x.t.d, V.u64 x.v.a, V.u64 x.v.b,
                V.u64 x.v.c, V.u64 x.v.d, V.str x.d, V.isl (2 : Nat) x.ln (axF x.ax)]])))
    (Tr.leaf
      (X.exit (0 : Nat), [((1 : Nat), V.ptr (0 : Nat) (0 : Nat)), ((3 : Nat), V.u64 acc)],
        [Blk.vals
            [V.int IntKind.i64 x.k, V.str x.s1, V.str x.s2, V.u64 x.n, V.u64 x.g, V.u64 x.p.a, V.u64 x.p.b, V.u64 x.p.c,
              V.u64 x.p.d, V.u64 x.t.a, V.u64 x.t.b, V.u64 x.t.c, V.u64 x.t.d, V.u64 x.v.a, V.u64 x.v.b, V.u64 x.v.c,
              V.u64 x.v.d, V.str x.d, V.isl (2 : Nat) x.ln (axF x.ax)]]))) := by kernel_rfl
theorem ril_x (x : TX) (acc : BitVec 64) (i : Nat) : Tr.prune (Tr.Sh.any.both Tr.Sh.any)
  (execBN Pr OX0 noLoopsT (100 : Nat) (0 : Nat) [(1 : Nat), (3 : Nat), (4 : Nat)] [(1 : Nat), (3 : Nat)]
  (loopBody Go.Proofs.Try.f46 (0 : Nat))
  [((1 : Nat), V.ptr (0 : Nat) (0 : Nat)), ((3 : Nat), V.u64 acc), ((4 : Nat), V.int IntKind.i64 (↑i : Int))]
  [Blk.vals x.cs]) =
  Tr.chk true
  (Tr.br (decide ((↑i : Int) < (↑x.ln : Int)))
    (Tr.chk (decide ((↑i : Int) < (↑x.ln : Int)) && (decide (i < x.ln) && true && true) && true)
      (Tr.leaf
        (X.normal,
          [((1 : Nat), V.ptr (0 : Nat) (0 : Nat)),
            ((3 : Nat),
              V.u64
                (acc + BitVec.ofInt (64 : Nat) (2400 : Int) +
                  BitVec.ofInt (64 : Nat) (1900 : Int) * BitVec.ofInt (64 : Nat) (↑(x.ax.m i) : Int))),
            ((4 : Nat), V.int IntKind.i64 (wrapI IntKind.i64 ((↑i : Int) + (1 : Int))))],
          [Blk.vals
              [V.int IntKind.i64 x.k, V.str x.s1, V.str x.s2, V.u64 x.n, V.u64 x.g, V.u64 x.p.a, V.u64 x.p.b,
                V.u64 x.p.c, V.u64 x.p.d, V.u64 x.t.a, V.u64 x.t.b, V.u64 x.t.c, V.u64 x.t.d, V.u64 x.v.a, V.u64 x.v.b,
                V.u64 x.v.c, V.u64 x.v.d, V.str x.d, V.isl (2 : Nat) x.ln (axF x.ax)]])))
    (Tr.leaf
      (X.exit (0 : Nat), [((1 : Nat), V.ptr (0 : Nat) (0 : Nat)), ((3 : Nat), V.u64 acc)],
        [Blk.vals
            [V.int IntKind.i64 x.k, V.str x.s1, V.str x.s2, V.u64 x.n, V.u64 x.g, V.u64 x.p.a, V.u64 x.p.b, V.u64 x.p.c,
              V.u64 x.p.d, V.u64 x.t.a, V.u64 x.t.b, V.u64 x.t.c, V.u64 x.t.d, V.u64 x.v.a, V.u64 x.v.b, V.u64 x.v.c,
              V.u64 x.v.d, V.str x.d, V.isl (2 : Nat) x.ln (axF x.ax)]]))) := by kernel_rfl
theorem dl_x (s : List (BitVec 8)) (acc : BitVec 64) (i : Nat) : Tr.prune ((Tr.Sh.any.both Tr.Sh.any).both
  Tr.Sh.any)
  (execBN Pr OX0 noLoopsT (100 : Nat) (0 : Nat) [(0 : Nat), (3 : Nat), (4 : Nat)] [(3 : Nat)]
  (loopBody Go.Proofs.Try.f48 (0 : Nat))
  [((0 : Nat), V.str s), ((3 : Nat), V.u64 acc), ((4 : Nat), V.int IntKind.i64 (↑i : Int))] []) =
  Tr.chk true
  (Tr.br (decide ((↑i : Int) < (↑s.length : Int)))
    (Tr.chk (decide ((↑i : Int) < (↑s.length : Int)) && true)
      (Tr.br (s.getD i (OfNat.ofNat (0 : Nat)) == BitVec.ofInt (8 : Nat) (0 : Int))
        (Tr.chk true
          (Tr.leaf
            (X.normal,
              [((0 : Nat), V.str s),
                ((3 : Nat), V.u64 (acc + BitVec.ofInt (64 : Nat) (16 : Int) - BitVec.ofInt (64 : Nat) (12 : Int))),
                ((4 : Nat), V.int IntKind.i64 (wrapI IntKind.i64 ((↑i : Int) + (1 : Int))))],
              [])))
        (Tr.chk true
          (Tr.leaf
            (X.normal,
              [((0 : Nat), V.str s), ((3 : Nat), V.u64 (acc + BitVec.ofInt (64 : Nat) (16 : Int))),
                ((4 : Nat), V.int IntKind.i64 (wrapI IntKind.i64 ((↑i : Int) + (1 : Int))))],
              [])))))
    (Tr.leaf (X.exit (0 : Nat), [((3 : Nat), V.u64 acc)], []))) := by kernel_rfl
theorem rst_x (o : W4) (c : W4) (v : W4) (cold : Bool) : Tr.prune ((Tr.Sh.any.both
      ((Tr.Sh.any.both (Tr.Sh.any.both Tr.Sh.any)).both
        (((((((((Tr.Sh.any.both Tr.Sh.any).l.l.both Tr.Sh.any.r.r.r).both
                                                  ((Tr.Sh.any.both Tr.Sh.any).l.l.both Tr.Sh.any.r.r.r)).l.l.both
                                          ((Tr.Sh.any.both Tr.Sh.any).l.l.both Tr.Sh.any.r.r.r).r.r.r).both
                                      ((((Tr.Sh.any.both Tr.Sh.any).l.l.both Tr.Sh.any.r.r.r).both
                                                ((Tr.Sh.any.both Tr.Sh.any).l.l.both Tr.Sh.any.r.r.r)).l.l.both
                                        ((Tr.Sh.any.both Tr.Sh.any).l.l.both Tr.Sh.any.r.r.r).r.r.r)).l.l.both
                              ((((Tr.Sh.any.both Tr.Sh.any).l.l.both Tr.Sh.any.r.r.r).both
                                              ((Tr.Sh.any.both Tr.Sh.any).l.l.both Tr.Sh.any.r.r.r)).l.l.both
                                      ((Tr.Sh.any.both Tr.Sh.any).l.l.both Tr.Sh.any.r.r.r).r.r.r).r.r.r).l.l.both
                      ((((Tr.Sh.any.both Tr.Sh.any).l.l.both Tr.Sh.any.r.r.r).both
                                            ((Tr.Sh.any.both Tr.Sh.any).l.l.both Tr.Sh.any.r.r.r)).l.l.both
                                    ((Tr.Sh.any.both Tr.Sh.any).l.l.both Tr.Sh.any.r.r.r).r.r.r).r.r.r.r.r.r).both
                  (((((((Tr.Sh.any.both Tr.Sh.any).l.l.both Tr.Sh.any.r.r.r).both
                                                ((Tr.Sh.any.both Tr.Sh.any).l.l.both Tr.Sh.any.r.r.r)).l.l.both
                                        ((Tr.Sh.any.both Tr.Sh.any).l.l.both Tr.Sh.any.r.r.r).r.r.r).both
                                    ((((Tr.Sh.any.both Tr.Sh.any).l.l.both Tr.Sh.any.r.r.r).both
                                              ((Tr.Sh.any.both Tr.Sh.any).l.l.both Tr.Sh.any.r.r.r)).l.l.both
                                      ((Tr.Sh.any.both Tr.Sh.any).l.l.both Tr.Sh.any.r.r.r).r.r.r)).l.l.both
                            ((((Tr.Sh.any.both Tr.Sh.any).l.l.both Tr.Sh.any.r.r.r).both
                                            ((Tr.Sh.any.both Tr.Sh.any).l.l.both Tr.Sh.any.r.r.r)).l.l.both
                                    ((Tr.Sh.any.both Tr.Sh.any).l.l.both Tr.Sh.any.r.r.r).r.r.r).r.r.r).l.l.both
                    ((((Tr.Sh.any.both Tr.Sh.any).l.l.both Tr.Sh.any.r.r.r).both
                                          ((Tr.Sh.any.both Tr.Sh.any).l.l.both Tr.Sh.any.r.r.r)).l.l.both
                                  ((Tr.Sh.any.both Tr.Sh.any).l.l.both Tr.Sh.any.r.r.r).r.r.r).r.r.r.r.r.r)).l.l.both
          (((((((Tr.Sh.any.both Tr.Sh.any).l.l.both Tr.Sh.any.r.r.r).both
                                              ((Tr.Sh.any.both Tr.Sh.any).l.l.both Tr.Sh.any.r.r.r)).l.l.both
                                      ((Tr.Sh.any.both Tr.Sh.any).l.l.both Tr.Sh.any.r.r.r).r.r.r).both
                                  ((((Tr.Sh.any.both Tr.Sh.any).l.l.both Tr.Sh.any.r.r.r).both
                                            ((Tr.Sh.any.both Tr.Sh.any).l.l.both Tr.Sh.any.r.r.r)).l.l.both
                                    ((Tr.Sh.any.both Tr.Sh.any).l.l.both Tr.Sh.any.r.r.r).r.r.r)).l.l.both
                          ((((Tr.Sh.any.both Tr.Sh.any).l.l.both Tr.Sh.any.r.r.r).both
                                          ((Tr.Sh.any.both Tr.Sh.any).l.l.both Tr.Sh.any.r.r.r)).l.l.both
                                  ((Tr.Sh.any.both Tr.Sh.any).l.l.both Tr.Sh.any.r.r.r).r.r.r).r.r.r).l.l.both
                  ((((Tr.Sh.any.both Tr.Sh.any).l.l.both Tr.Sh.any.r.r.r).both
                                        ((Tr.Sh.any.both Tr.Sh.any).l.l.both Tr.Sh.any.r.r.r)).l.l.both
                                ((Tr.Sh.any.both Tr.Sh.any).l.l.both Tr.Sh.any.r.r.r).r.r.r).r.r.r.r.r.r).r.r.r))).both
  (Tr.Sh.any.both
    ((Tr.Sh.any.both (Tr.Sh.any.both Tr.Sh.any)).both
      (((((((((Tr.Sh.any.both Tr.Sh.any).l.l.both Tr.Sh.any.r.r.r).both
                                                ((Tr.Sh.any.both Tr.Sh.any).l.l.both Tr.Sh.any.r.r.r)).l.l.both
                                        ((Tr.Sh.any.both Tr.Sh.any).l.l.both Tr.Sh.any.r.r.r).r.r.r).both
                                    ((((Tr.Sh.any.both Tr.Sh.any).l.l.both Tr.Sh.any.r.r.r).both
                                              ((Tr.Sh.any.both Tr.Sh.any).l.l.both Tr.Sh.any.r.r.r)).l.l.both
                                      ((Tr.Sh.any.both Tr.Sh.any).l.l.both Tr.Sh.any.r.r.r).r.r.r)).l.l.both
                            ((((Tr.Sh.any.both Tr.Sh.any).l.l.both Tr.Sh.any.r.r.r).both
                                            ((Tr.Sh.any.both Tr.Sh.any).l.l.both Tr.Sh.any.r.r.r)).l.l.both
                                    ((Tr.Sh.any.both Tr.Sh.any).l.l.both Tr.Sh.any.r.r.r).r.r.r).r.r.r).l.l.both
                    ((((Tr.Sh.any.both Tr.Sh.any).l.l.both Tr.Sh.any.r.r.r).both
                                          ((Tr.Sh.any.both Tr.Sh.any).l.l.both Tr.Sh.any.r.r.r)).l.l.both
                                  ((Tr.Sh.any.both Tr.Sh.any).l.l.both Tr.Sh.any.r.r.r).r.r.r).r.r.r.r.r.r).both
                (((((((Tr.Sh.any.both Tr.Sh.any).l.l.both Tr.Sh.any.r.r.r).both
                                              ((Tr.Sh.any.both Tr.Sh.any).l.l.both Tr.Sh.any.r.r.r)).l.l.both
                                      ((Tr.Sh.any.both Tr.Sh.any).l.l.both Tr.Sh.any.r.r.r).r.r.r).both
                                  ((((Tr.Sh.any.both Tr.Sh.any).l.l.both Tr.Sh.any.r.r.r).both
                                            ((Tr.Sh.any.both Tr.Sh.any).l.l.both Tr.Sh.any.r.r.r)).l.l.both
                                    ((Tr.Sh.any.both Tr.Sh.any).l.l.both Tr.Sh.any.r.r.r).r.r.r)).l.l.both
                          ((((Tr.Sh.any.both Tr.Sh.any).l.l.both Tr.Sh.any.r.r.r).both
                                          ((Tr.Sh.any.both Tr.Sh.any).l.l.both Tr.Sh.any.r.r.r)).l.l.both
                                  ((Tr.Sh.any.both Tr.Sh.any).l.l.both Tr.Sh.any.r.r.r).r.r.r).r.r.r).l.l.both
                  ((((Tr.Sh.any.both Tr.Sh.any).l.l.both Tr.Sh.any.r.r.r).both
                                        ((Tr.Sh.any.both Tr.Sh.any).l.l.both Tr.Sh.any.r.r.r)).l.l.both
                                ((Tr.Sh.any.both Tr.Sh.any).l.l.both Tr.Sh.any.r.r.r).r.r.r).r.r.r.r.r.r)).l.l.both
        (((((((Tr.Sh.any.both Tr.Sh.any).l.l.both Tr.Sh.any.r.r.r).both
                                            ((Tr.Sh.any.both Tr.Sh.any).l.l.both Tr.Sh.any.r.r.r)).l.l.both
                                    ((Tr.Sh.any.both Tr.Sh.any).l.l.both Tr.Sh.any.r.r.r).r.r.r).both
                                ((((Tr.Sh.any.both Tr.Sh.any).l.l.both Tr.Sh.any.r.r.r).both
                                          ((Tr.Sh.any.both Tr.Sh.any).l.l.both Tr.Sh.any.r.r.r)).l.l.both
                                  ((Tr.Sh.any.both Tr.Sh.any).l.l.both Tr.Sh.any.r.r.r).r.r.r)).l.l.both
                        ((((Tr.Sh.any.both Tr.Sh.any).l.l.both Tr.Sh.any.r.r.r).both
                                        ((Tr.Sh.any.both Tr.Sh.any).l.l.both Tr.Sh.any.r.r.r)).l.l.both
                                ((Tr.Sh.any.both Tr.Sh.any).l.l.both Tr.Sh.any.r.r.r).r.r.r).r.r.r).l.l.both
                ((((Tr.Sh.any.both Tr.Sh.any).l.l.both Tr.Sh.any.r.r.r).both
                                      ((Tr.Sh.any.both Tr.Sh.any).l.l.both Tr.Sh.any.r.r.r)).l.l.both
                              ((Tr.Sh.any.both Tr.Sh.any).l.l.both Tr.Sh.any.r.r.r).r.r.r).r.r.r.r.r.r).r.r.r))))
  (execBF Pr OX0 noLoopsT (100 : Nat) Go.Proofs.Try.f44 [o.v, c.v, v.v, V.bool cold] []) =
  Tr.chk true
  (Tr.br cold
    (Tr.chk true
      (Tr.br (v.a == c.a && (v.b == c.b && (v.c == c.c && (v.d == c.d && true))))
        (Tr.chk true
          (Tr.leaf
            (Fin.ret
                (V.tup
                  [V.u64 (BitVec.ofInt (64 : Nat) (2100 : Int) + BitVec.ofInt (64 : Nat) (100 : Int)),
                    V.int IntKind.i64 (0 : Int)]),
              [])))
        (Tr.chk true
          (Tr.br (c.a == o.a && (c.b == o.b && (c.c == o.c && (c.d == o.d && true))))
            (Tr.chk true
              (Tr.br
                (o.a == BitVec.ofInt (64 : Nat) (0 : Int) &&
                  (o.b == BitVec.ofInt (64 : Nat) (0 : Int) &&
                    (o.c == BitVec.ofInt (64 : Nat) (0 : Int) && (o.d == BitVec.ofInt (64 : Nat) (0 : Int) && true))))
                (Tr.chk true
                  (Tr.leaf
                    (Fin.ret
                        (V.tup
                          [V.u64 (BitVec.ofInt (64 : Nat) (2100 : Int) + BitVec.ofInt (64 : Nat) (20000 : Int)),
                            V.int IntKind.i64 (0 : Int)]),
                      [])))
                (Tr.chk true
                  (Tr.br
                    (v.a == BitVec.ofInt (64 : Nat) (0 : Int) &&
                      (v.b == BitVec.ofInt (64 : Nat) (0 : Int) &&
                        (v.c == BitVec.ofInt (64 : Nat) (0 : Int) &&
                          (v.d == BitVec.ofInt (64 : Nat) (0 : Int) && true))))
                    (Tr.chk true
                      (Tr.leaf
                        (Fin.ret
                            (V.tup
                              [V.u64 (BitVec.ofInt (64 : Nat) (2100 : Int) + BitVec.ofInt (64 : Nat) (2900 : Int)),
                                V.int IntKind.i64 (4800 : Int)]),
                          [])))
                    (Tr.chk true
                      (Tr.leaf
                        (Fin.ret
                            (V.tup
                              [V.u64 (BitVec.ofInt (64 : Nat) (2100 : Int) + BitVec.ofInt (64 : Nat) (2900 : Int)),
                                V.int IntKind.i64 (0 : Int)]),
                          [])))))))
            (Tr.chk true
              (Tr.br
                (!(o.a == BitVec.ofInt (64 : Nat) (0 : Int) &&
                    (o.b == BitVec.ofInt (64 : Nat) (0 : Int) &&
                      (o.c == BitVec.ofInt (64 : Nat) (0 : Int) &&
                        (o.d == BitVec.ofInt (64 : Nat) (0 : Int) && true)))))
                (Tr.chk true
                  (Tr.br
                    (c.a == BitVec.ofInt (64 : Nat) (0 : Int) &&
                      (c.b == BitVec.ofInt (64 : Nat) (0 : Int) &&
                        (c.c == BitVec.ofInt (64 : Nat) (0 : Int) &&
                          (c.d == BitVec.ofInt (64 : Nat) (0 : Int) && true))))
                    (Tr.chk true
                      (Tr.br
                        (!(o.a == BitVec.ofInt (64 : Nat) (0 : Int) &&
                            (o.b == BitVec.ofInt (64 : Nat) (0 : Int) &&
                              (o.c == BitVec.ofInt (64 : Nat) (0 : Int) &&
                                (o.d == BitVec.ofInt (64 : Nat) (0 : Int) && true)))))
                        (Tr.chk true
                          (Tr.br
                            (!(c.a == BitVec.ofInt (64 : Nat) (0 : Int) &&
                                (c.b == BitVec.ofInt (64 : Nat) (0 : Int) &&
                                  (c.c == BitVec.ofInt (64 : Nat) (0 : Int) &&
                                    (c.d == BitVec.ofInt (64 : Nat) (0 : Int) && true)))))
                            (Tr.chk true
                              (Tr.br
                                (v.a == BitVec.ofInt (64 : Nat) (0 : Int) &&
                                  (v.b == BitVec.ofInt (64 : Nat) (0 : Int) &&
                                    (v.c == BitVec.ofInt (64 : Nat) (0 : Int) &&
                                      (v.d == BitVec.ofInt (64 : Nat) (0 : Int) && true))))
                                (Tr.chk true
                                  (Tr.br (v.a == o.a && (v.b == o.b && (v.c == o.c && (v.d == o.d && true))))
                                    (Tr.chk true
                                      (Tr.br
                                        (o.a == BitVec.ofInt (64 : Nat) (0 : Int) &&
                                          (o.b == BitVec.ofInt (64 : Nat) (0 : Int) &&
                                            (o.c == BitVec.ofInt (64 : Nat) (0 : Int) &&
                                              (o.d == BitVec.ofInt (64 : Nat) (0 : Int) && true))))
                                        (Tr.chk true
                                          (Tr.br (v.a == o.a && (v.b == o.b && (v.c == o.c && (v.d == o.d && true))))
                                            (Tr.chk true
                                              (Tr.br
                                                (!(o.a == BitVec.ofInt (64 : Nat) (0 : Int) &&
                                                    (o.b == BitVec.ofInt (64 : Nat) (0 : Int) &&
                                                      (o.c == BitVec.ofInt (64 : Nat) (0 : Int) &&
                                                        (o.d == BitVec.ofInt (64 : Nat) (0 : Int) && true)))))
                                                (Tr.chk true
                                                  (Tr.leaf
                                                    (Fin.ret
                                                        (V.tup
                                                          [V.u64
                                                              (BitVec.ofInt (64 : Nat) (2100 : Int) +
                                                                BitVec.ofInt (64 : Nat) (100 : Int)),
                                                            V.int IntKind.i64 (22700 : Int)]),
                                                      [])))
                                                (Tr.chk true
                                                  (Tr.leaf
                                                    (Fin.ret
                                                        (V.tup
                                                          [V.u64
                                                              (BitVec.ofInt (64 : Nat) (2100 : Int) +
                                                                BitVec.ofInt (64 : Nat) (100 : Int)),
                                                            V.int IntKind.i64 (19900 : Int)]),
                                                      [])))))
                                            (Tr.chk true
                                              (Tr.leaf
                                                (Fin.ret
                                                    (V.tup
                                                      [V.u64
                                                          (BitVec.ofInt (64 : Nat) (2100 : Int) +
                                                            BitVec.ofInt (64 : Nat) (100 : Int)),
                                                        V.int IntKind.i64 (19900 : Int)]),
                                                  [])))))
                                        (Tr.chk true
                                          (Tr.br (v.a == o.a && (v.b == o.b && (v.c == o.c && (v.d == o.d && true))))
                                            (Tr.chk true
                                              (Tr.br
                                                (!(o.a == BitVec.ofInt (64 : Nat) (0 : Int) &&
                                                    (o.b == BitVec.ofInt (64 : Nat) (0 : Int) &&
                                                      (o.c == BitVec.ofInt (64 : Nat) (0 : Int) &&
                                                        (o.d == BitVec.ofInt (64 : Nat) (0 : Int) && true)))))
                                                (Tr.chk true
                                                  (Tr.leaf
                                                    (Fin.ret
                                                        (V.tup
                                                          [V.u64
                                                              (BitVec.ofInt (64 : Nat) (2100 : Int) +
                                                                BitVec.ofInt (64 : Nat) (100 : Int)),
                                                            V.int IntKind.i64 (2800 : Int)]),
                                                      [])))
                                                (Tr.chk true
                                                  (Tr.leaf
                                                    (Fin.ret
                                                        (V.tup
                                                          [V.u64
                                                              (BitVec.ofInt (64 : Nat) (2100 : Int) +
                                                                BitVec.ofInt (64 : Nat) (100 : Int)),
                                                            V.int IntKind.i64 (0 : Int)]),
                                                      [])))))
                                            (Tr.chk true
                                              (Tr.leaf
                                                (Fin.ret
                                                    (V.tup
                                                      [V.u64
                                                          (BitVec.ofInt (64 : Nat) (2100 : Int) +
                                                            BitVec.ofInt (64 : Nat) (100 : Int)),
                                                        V.int IntKind.i64 (0 : Int)]),
                                                  [])))))))
                                    (Tr.chk true
                                      (Tr.br (v.a == o.a && (v.b == o.b && (v.c == o.c && (v.d == o.d && true))))
                                        (Tr.chk true
                                          (Tr.br
                                            (!(o.a == BitVec.ofInt (64 : Nat) (0 : Int) &&
                                                (o.b == BitVec.ofInt (64 : Nat) (0 : Int) &&
                                                  (o.c == BitVec.ofInt (64 : Nat) (0 : Int) &&
                                                    (o.d == BitVec.ofInt (64 : Nat) (0 : Int) && true)))))
                                            (Tr.chk true
                                              (Tr.leaf
                                                (Fin.ret
                                                    (V.tup
                                                      [V.u64
                                                          (BitVec.ofInt (64 : Nat) (2100 : Int) +
                                                            BitVec.ofInt (64 : Nat) (100 : Int)),
                                                        V.int IntKind.i64 (2800 : Int)]),
                                                  [])))
                                            (Tr.chk true
                                              (Tr.leaf
                                                (Fin.ret
                                                    (V.tup
                                                      [V.u64
                                                          (BitVec.ofInt (64 : Nat) (2100 : Int) +
                                                            BitVec.ofInt (64 : Nat) (100 : Int)),
                                                        V.int IntKind.i64 (0 : Int)]),
                                                  [])))))
                                        (Tr.chk true
                                          (Tr.leaf
                                            (Fin.ret
                                                (V.tup
                                                  [V.u64
                                                      (BitVec.ofInt (64 : Nat) (2100 : Int) +
                                                        BitVec.ofInt (64 : Nat) (100 : Int)),
                                                    V.int IntKind.i64 (0 : Int)]),
                                              [])))))))
                                (Tr.chk true
                                  (Tr.br (v.a == o.a && (v.b == o.b && (v.c == o.c && (v.d == o.d && true))))
                                    (Tr.chk true
                                      (Tr.br
                                        (o.a == BitVec.ofInt (64 : Nat) (0 : Int) &&
                                          (o.b == BitVec.ofInt (64 : Nat) (0 : Int) &&
                                            (o.c == BitVec.ofInt (64 : Nat) (0 : Int) &&
                                              (o.d == BitVec.ofInt (64 : Nat) (0 : Int) && true))))
                                        (Tr.chk true
                                          (Tr.br (v.a == o.a && (v.b == o.b && (v.c == o.c && (v.d == o.d && true))))
                                            (Tr.chk true
                                              (Tr.br
                                                (!(o.a == BitVec.ofInt (64 : Nat) (0 : Int) &&
                                                    (o.b == BitVec.ofInt (64 : Nat) (0 : Int) &&
                                                      (o.c == BitVec.ofInt (64 : Nat) (0 : Int) &&
                                                        (o.d == BitVec.ofInt (64 : Nat) (0 : Int) && true)))))
                                                (Tr.chk true
                                                  (Tr.leaf
                                                    (Fin.ret
                                                        (V.tup
                                                          [V.u64
                                                              (BitVec.ofInt (64 : Nat) (2100 : Int) +
                                                                BitVec.ofInt (64 : Nat) (100 : Int)),
                                                            V.int IntKind.i64 (17900 : Int)]),
                                                      [])))
                                                (Tr.chk true
                                                  (Tr.leaf
                                                    (Fin.ret
                                                        (V.tup
                                                          [V.u64
                                                              (BitVec.ofInt (64 : Nat) (2100 : Int) +
                                                                BitVec.ofInt (64 : Nat) (100 : Int)),
                                                            V.int IntKind.i64 (15100 : Int)]),
                                                      [])))))
                                            (Tr.chk true
                                              (Tr.leaf
                                                (Fin.ret
                                                    (V.tup
                                                      [V.u64
                                                          (BitVec.ofInt (64 : Nat) (2100 : Int) +
                                                            BitVec.ofInt (64 : Nat) (100 : Int)),
                                                        V.int IntKind.i64 (15100 : Int)]),
                                                  [])))))
                                        (Tr.chk true
                                          (Tr.br (v.a == o.a && (v.b == o.b && (v.c == o.c && (v.d == o.d && true))))
                                            (Tr.chk true
                                              (Tr.br
                                                (!(o.a == BitVec.ofInt (64 : Nat) (0 : Int) &&
                                                    (o.b == BitVec.ofInt (64 : Nat) (0 : Int) &&
                                                      (o.c == BitVec.ofInt (64 : Nat) (0 : Int) &&
                                                        (o.d == BitVec.ofInt (64 : Nat) (0 : Int) && true)))))
                                                (Tr.chk true
                                                  (Tr.leaf
                                                    (Fin.ret
                                                        (V.tup
                                                          [V.u64
                                                              (BitVec.ofInt (64 : Nat) (2100 : Int) +
                                                                BitVec.ofInt (64 : Nat) (100 : Int)),
                                                            V.int IntKind.i64 (-2000 : Int)]),
                                                      [])))
                                                (Tr.chk true
                                                  (Tr.leaf
                                                    (Fin.ret
                                                        (V.tup
                                                          [V.u64
                                                              (BitVec.ofInt (64 : Nat) (2100 : Int) +
                                                                BitVec.ofInt (64 : Nat) (100 : Int)),
                                                            V.int IntKind.i64 (-4800 : Int)]),
                                                      [])))))
                                            (Tr.chk true
                                              (Tr.leaf
                                                (Fin.ret
                                                    (V.tup
                                                      [V.u64
                                                          (BitVec.ofInt (64 : Nat) (2100 : Int) +
                                                            BitVec.ofInt (64 : Nat) (100 : Int)),
                                                        V.int IntKind.i64 (-4800 : Int)]),
                                                  [])))))))
                                    (Tr.chk true
                                      (Tr.br (v.a == o.a && (v.b == o.b && (v.c == o.c && (v.d == o.d && true))))
                                        (Tr.chk true
                                          (Tr.br
                                            (!(o.a == BitVec.ofInt (64 : Nat) (0 : Int) &&
                                                (o.b == BitVec.ofInt (64 : Nat) (0 : Int) &&
                                                  (o.c == BitVec.ofInt (64 : Nat) (0 : Int) &&
                                                    (o.d == BitVec.ofInt (64 : Nat) (0 : Int) && true)))))
                                            (Tr.chk true
                                              (Tr.leaf
                                                (Fin.ret
                                                    (V.tup
                                                      [V.u64
                                                          (BitVec.ofInt (64 : Nat) (2100 : Int) +
                                                            BitVec.ofInt (64 : Nat) (100 : Int)),
                                                        V.int IntKind.i64 (-2000 : Int)]),
                                                  [])))
                                            (Tr.chk true
                                              (Tr.leaf
                                                (Fin.ret
                                                    (V.tup
                                                      [V.u64
                                                          (BitVec.ofInt (64 : Nat) (2100 : Int) +
                                                            BitVec.ofInt (64 : Nat) (100 : Int)),
                                                        V.int IntKind.i64 (-4800 : Int)]),
                                                  [])))))
                                        (Tr.chk true
                                          (Tr.leaf
                                            (Fin.ret
                                                (V.tup
                                                  [V.u64
                                                      (BitVec.ofInt (64 : Nat) (2100 : Int) +
                                                        BitVec.ofInt (64 : Nat) (100 : Int)),
                                                    V.int IntKind.i64 (-4800 : Int)]),
                                              [])))))))))
                            (Tr.chk true
                              (Tr.br (v.a == o.a && (v.b == o.b && (v.c == o.c && (v.d == o.d && true))))
                                (Tr.chk true
                                  (Tr.br
                                    (o.a == BitVec.ofInt (64 : Nat) (0 : Int) &&
                                      (o.b == BitVec.ofInt (64 : Nat) (0 : Int) &&
                                        (o.c == BitVec.ofInt (64 : Nat) (0 : Int) &&
                                          (o.d == BitVec.ofInt (64 : Nat) (0 : Int) && true))))
                                    (Tr.chk true
                                      (Tr.br (v.a == o.a && (v.b == o.b && (v.c == o.c && (v.d == o.d && true))))
                                        (Tr.chk true
                                          (Tr.br
                                            (!(o.a == BitVec.ofInt (64 : Nat) (0 : Int) &&
                                                (o.b == BitVec.ofInt (64 : Nat) (0 : Int) &&
                                                  (o.c == BitVec.ofInt (64 : Nat) (0 : Int) &&
                                                    (o.d == BitVec.ofInt (64 : Nat) (0 : Int) && true)))))
                                            (Tr.chk true
                                              (Tr.leaf
                                                (Fin.ret
                                                    (V.tup
                                                      [V.u64
                                                          (BitVec.ofInt (64 : Nat) (2100 : Int) +
                                                            BitVec.ofInt (64 : Nat) (100 : Int)),
                                                        V.int IntKind.i64 (17900 : Int)]),
                                                  [])))
                                            (Tr.chk true
                                              (Tr.leaf
                                                (Fin.ret
                                                    (V.tup
                                                      [V.u64
                                                          (BitVec.ofInt (64 : Nat) (2100 : Int) +
                                                            BitVec.ofInt (64 : Nat) (100 : Int)),
                                                        V.int IntKind.i64 (15100 : Int)]),
                                                  [])))))
                                        (Tr.chk true
                                          (Tr.leaf
                                            (Fin.ret
                                                (V.tup
                                                  [V.u64
                                                      (BitVec.ofInt (64 : Nat) (2100 : Int) +
                                                        BitVec.ofInt (64 : Nat) (100 : Int)),
                                                    V.int IntKind.i64 (15100 : Int)]),
                                              [])))))
                                    (Tr.chk true
                                      (Tr.br (v.a == o.a && (v.b == o.b && (v.c == o.c && (v.d == o.d && true))))
                                        (Tr.chk true
                                          (Tr.br
                                            (!(o.a == BitVec.ofInt (64 : Nat) (0 : Int) &&
                                                (o.b == BitVec.ofInt (64 : Nat) (0 : Int) &&
                                                  (o.c == BitVec.ofInt (64 : Nat) (0 : Int) &&
                                                    (o.d == BitVec.ofInt (64 : Nat) (0 : Int) && true)))))
                                            (Tr.chk true
                                              (Tr.leaf
                                                (Fin.ret
                                                    (V.tup
                                                      [V.u64
                                                          (BitVec.ofInt (64 : Nat) (2100 : Int) +
                                                            BitVec.ofInt (64 : Nat) (100 : Int)),
                                                        V.int IntKind.i64 (-2000 : Int)]),
                                                  [])))
                                            (Tr.chk true
                                              (Tr.leaf
                                                (Fin.ret
                                                    (V.tup
                                                      [V.u64
                                                          (BitVec.ofInt (64 : Nat) (2100 : Int) +
                                                            BitVec.ofInt (64 : Nat) (100 : Int)),
                                                        V.int IntKind.i64 (-4800 : Int)]),
                                                  [])))))
                                        (Tr.chk true
                                          (Tr.leaf
                                            (Fin.ret
                                                (V.tup
                                                  [V.u64
                                                      (BitVec.ofInt (64 : Nat) (2100 : Int) +
                                                        BitVec.ofInt (64 : Nat) (100 : Int)),
                                                    V.int IntKind.i64 (-4800 : Int)]),
                                              [])))))))
                                (Tr.chk true
                                  (Tr.br (v.a == o.a && (v.b == o.b && (v.c == o.c && (v.d == o.d && true))))
                                    (Tr.chk true
                                      (Tr.br
                                        (!(o.a == BitVec.ofInt (64 : Nat) (0 : Int) &&
                                            (o.b == BitVec.ofInt (64 : Nat) (0 : Int) &&
                                              (o.c == BitVec.ofInt (64 : Nat) (0 : Int) &&
                                                (o.d == BitVec.ofInt (64 : Nat) (0 : Int) && true)))))
                                        (Tr.chk true
                                          (Tr.leaf
                                            (Fin.ret
                                                (V.tup
                                                  [V.u64
                                                      (BitVec.ofInt (64 : Nat) (2100 : Int) +
                                                        BitVec.ofInt (64 : Nat) (100 : Int)),
                                                    V.int IntKind.i64 (-2000 : Int)]),
                                              [])))
                                        (Tr.chk true
                                          (Tr.leaf
                                            (Fin.ret
                                                (V.tup
                                                  [V.u64
                                                      (BitVec.ofInt (64 : Nat) (2100 : Int) +
                                                        BitVec.ofInt (64 : Nat) (100 : Int)),
                                                    V.int IntKind.i64 (-4800 : Int)]),
                                              [])))))
                                    (Tr.chk true
                                      (Tr.leaf
                                        (Fin.ret
                                            (V.tup
                                              [V.u64
                                                  (BitVec.ofInt (64 : Nat) (2100 : Int) +
                                                    BitVec.ofInt (64 : Nat) (100 : Int)),
                                                V.int IntKind.i64 (-4800 : Int)]),
                                          [])))))))))
                        (Tr.chk true
                          (Tr.br (v.a == o.a && (v.b == o.b && (v.c == o.c && (v.d == o.d && true))))
                            (Tr.chk true
                              (Tr.br
                                (o.a == BitVec.ofInt (64 : Nat) (0 : Int) &&
                                  (o.b == BitVec.ofInt (64 : Nat) (0 : Int) &&
                                    (o.c == BitVec.ofInt (64 : Nat) (0 : Int) &&
                                      (o.d == BitVec.ofInt (64 : Nat) (0 : Int) && true))))
                                (Tr.chk true
                                  (Tr.br (v.a == o.a && (v.b == o.b && (v.c == o.c && (v.d == o.d && true))))
                                    (Tr.chk true
                                      (Tr.br
                                        (!(o.a == BitVec.ofInt (64 : Nat) (0 : Int) &&
                                            (o.b == BitVec.ofInt (64 : Nat) (0 : Int) &&
                                              (o.c == BitVec.ofInt (64 : Nat) (0 : Int) &&
                                                (o.d == BitVec.ofInt (64 : Nat) (0 : Int) && true)))))
                                        (Tr.chk true
                                          (Tr.leaf
                                            (Fin.ret
                                                (V.tup
                                                  [V.u64
                                                      (BitVec.ofInt (64 : Nat) (2100 : Int) +
                                                        BitVec.ofInt (64 : Nat) (100 : Int)),
                                                    V.int IntKind.i64 (17900 : Int)]),
                                              [])))
                                        (Tr.chk true
                                          (Tr.leaf
                                            (Fin.ret
                                                (V.tup
                                                  [V.u64
                                                      (BitVec.ofInt (64 : Nat) (2100 : Int) +
                                                        BitVec.ofInt (64 : Nat) (100 : Int)),
                                                    V.int IntKind.i64 (15100 : Int)]),
                                              [])))))
                                    (Tr.chk true
                                      (Tr.leaf
                                        (Fin.ret
                                            (V.tup
                                              [V.u64
                                                  (BitVec.ofInt (64 : Nat) (2100 : Int) +
                                                    BitVec.ofInt (64 : Nat) (100 : Int)),
                                                V.int IntKind.i64 (15100 : Int)]),
                                          [])))))
                                (Tr.chk true
                                  (Tr.br (v.a == o.a && (v.b == o.b && (v.c == o.c && (v.d == o.d && true))))
                                    (Tr.chk true
                                      (Tr.br
                                        (!(o.a == BitVec.ofInt (64 : Nat) (0 : Int) &&
                                            (o.b == BitVec.ofInt (64 : Nat) (0 : Int) &&
                                              (o.c == BitVec.ofInt (64 : Nat) (0 : Int) &&
                                                (o.d == BitVec.ofInt (64 : Nat) (0 : Int) && true)))))
                                        (Tr.chk true
                                          (Tr.leaf
                                            (Fin.ret
                                                (V.tup
                                                  [V.u64
                                                      (BitVec.ofInt (64 : Nat) (2100 : Int) +
                                                        BitVec.ofInt (64 : Nat) (100 : Int)),
                                                    V.int IntKind.i64 (-2000 : Int)]),
                                              [])))
                                        (Tr.chk true
                                          (Tr.leaf
                                            (Fin.ret
                                                (V.tup
                                                  [V.u64
                                                      (BitVec.ofInt (64 : Nat) (2100 : Int) +
                                                        BitVec.ofInt (64 : Nat) (100 : Int)),
                                                    V.int IntKind.i64 (-4800 : Int)]),
                                              [])))))
                                    (Tr.chk true
                                      (Tr.leaf
                                        (Fin.ret
                                            (V.tup
                                              [V.u64
                                                  (BitVec.ofInt (64 : Nat) (2100 : Int) +
                                                    BitVec.ofInt (64 : Nat) (100 : Int)),
                                                V.int IntKind.i64 (-4800 : Int)]),
                                          [])))))))
                            (Tr.chk true
                              (Tr.br (v.a == o.a && (v.b == o.b && (v.c == o.c && (v.d == o.d && true))))
                                (Tr.chk true
                                  (Tr.br
                                    (!(o.a == BitVec.ofInt (64 : Nat) (0 : Int) &&
                                        (o.b == BitVec.ofInt (64 : Nat) (0 : Int) &&
                                          (o.c == BitVec.ofInt (64 : Nat) (0 : Int) &&
                                            (o.d == BitVec.ofInt (64 : Nat) (0 : Int) && true)))))
                                    (Tr.chk true
                                      (Tr.leaf
                                        (Fin.ret
                                            (V.tup
                                              [V.u64
                                                  (BitVec.ofInt (64 : Nat) (2100 : Int) +
                                                    BitVec.ofInt (64 : Nat) (100 : Int)),
                                                V.int IntKind.i64 (-2000 : Int)]),
                                          [])))
                                    (Tr.chk true
                                      (Tr.leaf
                                        (Fin.ret
                                            (V.tup
                                              [V.u64
                                                  (BitVec.ofInt (64 : Nat) (2100 : Int) +
                                                    BitVec.ofInt (64 : Nat) (100 : Int)),
                                                V.int IntKind.i64 (-4800 : Int)]),
                                          [])))))
                                (Tr.chk true
                                  (Tr.leaf
                                    (Fin.ret
                                        (V.tup
                                          [V.u64
                                              (BitVec.ofInt (64 : Nat) (2100 : Int) +
                                                BitVec.ofInt (64 : Nat) (100 : Int)),
                                            V.int IntKind.i64 (-4800 : Int)]),
                                      [])))))))))
                    (Tr.chk true
                      (Tr.br
                        (!(o.a == BitVec.ofInt (64 : Nat) (0 : Int) &&
                            (o.b == BitVec.ofInt (64 : Nat) (0 : Int) &&
                              (o.c == BitVec.ofInt (64 : Nat) (0 : Int) &&
                                (o.d == BitVec.ofInt (64 : Nat) (0 : Int) && true)))))
                        (Tr.chk true
                          (Tr.br
                            (!(c.a == BitVec.ofInt (64 : Nat) (0 : Int) &&
                                (c.b == BitVec.ofInt (64 : Nat) (0 : Int) &&
                                  (c.c == BitVec.ofInt (64 : Nat) (0 : Int) &&
                                    (c.d == BitVec.ofInt (64 : Nat) (0 : Int) && true)))))
                            (Tr.chk true
                              (Tr.br
                                (v.a == BitVec.ofInt (64 : Nat) (0 : Int) &&
                                  (v.b == BitVec.ofInt (64 : Nat) (0 : Int) &&
                                    (v.c == BitVec.ofInt (64 : Nat) (0 : Int) &&
                                      (v.d == BitVec.ofInt (64 : Nat) (0 : Int) && true))))
                                (Tr.chk true
                                  (Tr.br (v.a == o.a && (v.b == o.b && (v.c == o.c && (v.d == o.d && true))))
                                    (Tr.chk true
                                      (Tr.br
                                        (o.a == BitVec.ofInt (64 : Nat) (0 : Int) &&
                                          (o.b == BitVec.ofInt (64 : Nat) (0 : Int) &&
                                            (o.c == BitVec.ofInt (64 : Nat) (0 : Int) &&
                                              (o.d == BitVec.ofInt (64 : Nat) (0 : Int) && true))))
                                        (Tr.chk true
                                          (Tr.br (v.a == o.a && (v.b == o.b && (v.c == o.c && (v.d == o.d && true))))
                                            (Tr.chk true
                                              (Tr.br
                                                (!(o.a == BitVec.ofInt (64 : Nat) (0 : Int) &&
                                                    (o.b == BitVec.ofInt (64 : Nat) (0 : Int) &&
                                                      (o.c == BitVec.ofInt (64 : Nat) (0 : Int) &&
                                                        (o.d == BitVec.ofInt (64 : Nat) (0 : Int) && true)))))
                                                (Tr.chk true
                                                  (Tr.leaf
                                                    (Fin.ret
                                                        (V.tup
                                                          [V.u64
                                                              (BitVec.ofInt (64 : Nat) (2100 : Int) +
                                                                BitVec.ofInt (64 : Nat) (100 : Int)),
                                                            V.int IntKind.i64 (27500 : Int)]),
                                                      [])))
                                                (Tr.chk true
                                                  (Tr.leaf
                                                    (Fin.ret
                                                        (V.tup
                                                          [V.u64
                                                              (BitVec.ofInt (64 : Nat) (2100 : Int) +
                                                                BitVec.ofInt (64 : Nat) (100 : Int)),
                                                            V.int IntKind.i64 (24700 : Int)]),
                                                      [])))))
                                            (Tr.chk true
                                              (Tr.leaf
                                                (Fin.ret
                                                    (V.tup
                                                      [V.u64
                                                          (BitVec.ofInt (64 : Nat) (2100 : Int) +
                                                            BitVec.ofInt (64 : Nat) (100 : Int)),
                                                        V.int IntKind.i64 (24700 : Int)]),
                                                  [])))))
                                        (Tr.chk true
                                          (Tr.br (v.a == o.a && (v.b == o.b && (v.c == o.c && (v.d == o.d && true))))
                                            (Tr.chk true
                                              (Tr.br
                                                (!(o.a == BitVec.ofInt (64 : Nat) (0 : Int) &&
                                                    (o.b == BitVec.ofInt (64 : Nat) (0 : Int) &&
                                                      (o.c == BitVec.ofInt (64 : Nat) (0 : Int) &&
                                                        (o.d == BitVec.ofInt (64 : Nat) (0 : Int) && true)))))
                                                (Tr.chk true
                                                  (Tr.leaf
                                                    (Fin.ret
                                                        (V.tup
                                                          [V.u64
                                                              (BitVec.ofInt (64 : Nat) (2100 : Int) +
                                                                BitVec.ofInt (64 : Nat) (100 : Int)),
                                                            V.int IntKind.i64 (7600 : Int)]),
                                                      [])))
                                                (Tr.chk true
                                                  (Tr.leaf
                                                    (Fin.ret
                                                        (V.tup
                                                          [V.u64
                                                              (BitVec.ofInt (64 : Nat) (2100 : Int) +
                                                                BitVec.ofInt (64 : Nat) (100 : Int)),
                                                            V.int IntKind.i64 (4800 : Int)]),
                                                      [])))))
                                            (Tr.chk true
                                              (Tr.leaf
                                                (Fin.ret
                                                    (V.tup
                                                      [V.u64
                                                          (BitVec.ofInt (64 : Nat) (2100 : Int) +
                                                            BitVec.ofInt (64 : Nat) (100 : Int)),
                                                        V.int IntKind.i64 (4800 : Int)]),
                                                  [])))))))
                                    (Tr.chk true
                                      (Tr.br (v.a == o.a && (v.b == o.b && (v.c == o.c && (v.d == o.d && true))))
                                        (Tr.chk true
                                          (Tr.br
                                            (!(o.a == BitVec.ofInt (64 : Nat) (0 : Int) &&
                                                (o.b == BitVec.ofInt (64 : Nat) (0 : Int) &&
                                                  (o.c == BitVec.ofInt (64 : Nat) (0 : Int) &&
                                                    (o.d == BitVec.ofInt (64 : Nat) (0 : Int) && true)))))
                                            (Tr.chk true
                                              (Tr.leaf
                                                (Fin.ret
                                                    (V.tup
                                                      [V.u64
                                                          (BitVec.ofInt (64 : Nat) (2100 : Int) +
                                                            BitVec.ofInt (64 : Nat) (100 : Int)),
                                                        V.int IntKind.i64 (7600 : Int)]),
                                                  [])))
                                            (Tr.chk true
                                              (Tr.leaf
                                                (Fin.ret
                                                    (V.tup
                                                      [V.u64
                                                          (BitVec.ofInt (64 : Nat) (2100 : Int) +
                                                            BitVec.ofInt (64 : Nat) (100 : Int)),
                                                        V.int IntKind.i64 (4800 : Int)]),
                                                  [])))))
                                        (Tr.chk true
                                          (Tr.leaf
                                            (Fin.ret
                                                (V.tup
                                                  [V.u64
                                                      (BitVec.ofInt (64 : Nat) (2100 : Int) +
                                                        BitVec.ofInt (64 : Nat) (100 : Int)),
                                                    V.int IntKind.i64 (4800 : Int)]),
                                              [])))))))
                                (Tr.chk true
                                  (Tr.br (v.a == o.a && (v.b == o.b && (v.c == o.c && (v.d == o.d && true))))
                                    (Tr.chk true
                                      (Tr.br
                                        (o.a == BitVec.ofInt (64 : Nat) (0 : Int) &&
                                          (o.b == BitVec.ofInt (64 : Nat) (0 : Int) &&
                                            (o.c == BitVec.ofInt (64 : Nat) (0 : Int) &&
                                              (o.d == BitVec.ofInt (64 : Nat) (0 : Int) && true))))
                                        (Tr.chk true
                                          (Tr.br (v.a == o.a && (v.b == o.b && (v.c == o.c && (v.d == o.d && true))))
                                            (Tr.chk true
                                              (Tr.br
                                                (!(o.a == BitVec.ofInt (64 : Nat) (0 : Int) &&
                                                    (o.b == BitVec.ofInt (64 : Nat) (0 : Int) &&
                                                      (o.c == BitVec.ofInt (64 : Nat) (0 : Int) &&
                                                        (o.d == BitVec.ofInt (64 : Nat) (0 : Int) && true)))))
                                                (Tr.chk true
                                                  (Tr.leaf
                                                    (Fin.ret
                                                        (V.tup
                                                          [V.u64
                                                              (BitVec.ofInt (64 : Nat) (2100 : Int) +
                                                                BitVec.ofInt (64 : Nat) (100 : Int)),
                                                            V.int IntKind.i64 (22700 : Int)]),
                                                      [])))
                                                (Tr.chk true
                                                  (Tr.leaf
                                                    (Fin.ret
                                                        (V.tup
                                                          [V.u64
                                                              (BitVec.ofInt (64 : Nat) (2100 : Int) +
                                                                BitVec.ofInt (64 : Nat) (100 : Int)),
                                                            V.int IntKind.i64 (19900 : Int)]),
                                                      [])))))
                                            (Tr.chk true
                                              (Tr.leaf
                                                (Fin.ret
                                                    (V.tup
                                                      [V.u64
                                                          (BitVec.ofInt (64 : Nat) (2100 : Int) +
                                                            BitVec.ofInt (64 : Nat) (100 : Int)),
                                                        V.int IntKind.i64 (19900 : Int)]),
                                                  [])))))
                                        (Tr.chk true
                                          (Tr.br (v.a == o.a && (v.b == o.b && (v.c == o.c && (v.d == o.d && true))))
                                            (Tr.chk true
                                              (Tr.br
                                                (!(o.a == BitVec.ofInt (64 : Nat) (0 : Int) &&
                                                    (o.b == BitVec.ofInt (64 : Nat) (0 : Int) &&
                                                      (o.c == BitVec.ofInt (64 : Nat) (0 : Int) &&
                                                        (o.d == BitVec.ofInt (64 : Nat) (0 : Int) && true)))))
                                                (Tr.chk true
                                                  (Tr.leaf
                                                    (Fin.ret
                                                        (V.tup
                                                          [V.u64
                                                              (BitVec.ofInt (64 : Nat) (2100 : Int) +
                                                                BitVec.ofInt (64 : Nat) (100 : Int)),
                                                            V.int IntKind.i64 (2800 : Int)]),
                                                      [])))
                                                (Tr.chk true
                                                  (Tr.leaf
                                                    (Fin.ret
                                                        (V.tup
                                                          [V.u64
                                                              (BitVec.ofInt (64 : Nat) (2100 : Int) +
                                                                BitVec.ofInt (64 : Nat) (100 : Int)),
                                                            V.int IntKind.i64 (0 : Int)]),
                                                      [])))))
                                            (Tr.chk true
                                              (Tr.leaf
                                                (Fin.ret
                                                    (V.tup
                                                      [V.u64
                                                          (BitVec.ofInt (64 : Nat) (2100 : Int) +
                                                            BitVec.ofInt (64 : Nat) (100 : Int)),
                                                        V.int IntKind.i64 (0 : Int)]),
                                                  [])))))))
                                    (Tr.chk true
                                      (Tr.br (v.a == o.a && (v.b == o.b && (v.c == o.c && (v.d == o.d && true))))
                                        (Tr.chk true
                                          (Tr.br
                                            (!(o.a == BitVec.ofInt (64 : Nat) (0 : Int) &&
                                                (o.b == BitVec.ofInt (64 : Nat) (0 : Int) &&
                                                  (o.c == BitVec.ofInt (64 : Nat) (0 : Int) &&
                                                    (o.d == BitVec.ofInt (64 : Nat) (0 : Int) && true)))))
                                            (Tr.chk true
                                              (Tr.leaf
                                                (Fin.ret
                                                    (V.tup
                                                      [V.u64
                                                          (BitVec.ofInt (64 : Nat) (2100 : Int) +
                                                            BitVec.ofInt (64 : Nat) (100 : Int)),
                                                        V.int IntKind.i64 (2800 : Int)]),
                                                  [])))
                                            (Tr.chk true
                                              (Tr.leaf
                                                (Fin.ret
                                                    (V.tup
                                                      [V.u64
                                                          (BitVec.ofInt (64 : Nat) (2100 : Int) +
                                                            BitVec.ofInt (64 : Nat) (100 : Int)),
                                                        V.int IntKind.i64 (0 : Int)]),
                                                  [])))))
                                        (Tr.chk true
                                          (Tr.leaf
                                            (Fin.ret
                                                (V.tup
                                                  [V.u64
                                                      (BitVec.ofInt (64 : Nat) (2100 : Int) +
                                                        BitVec.ofInt (64 : Nat) (100 : Int)),
                                                    V.int IntKind.i64 (0 : Int)]),
                                              [])))))))))
                            (Tr.chk true
                              (Tr.br (v.a == o.a && (v.b == o.b && (v.c == o.c && (v.d == o.d && true))))
                                (Tr.chk true
                                  (Tr.br
                                    (o.a == BitVec.ofInt (64 : Nat) (0 : Int) &&
                                      (o.b == BitVec.ofInt (64 : Nat) (0 : Int) &&
                                        (o.c == BitVec.ofInt (64 : Nat) (0 : Int) &&
                                          (o.d == BitVec.ofInt (64 : Nat) (0 : Int) && true))))
                                    (Tr.chk true
                                      (Tr.br (v.a == o.a && (v.b == o.b && (v.c == o.c && (v.d == o.d && true))))
                                        (Tr.chk true
                                          (Tr.br
                                            (!(o.a == BitVec.ofInt (64 : Nat) (0 : Int) &&
                                                (o.b == BitVec.ofInt (64 : Nat) (0 : Int) &&
                                                  (o.c == BitVec.ofInt (64 : Nat) (0 : Int) &&
                                                    (o.d == BitVec.ofInt (64 : Nat) (0 : Int) && true)))))
                                            (Tr.chk true
                                              (Tr.leaf
                                                (Fin.ret
                                                    (V.tup
                                                      [V.u64
                                                          (BitVec.ofInt (64 : Nat) (2100 : Int) +
                                                            BitVec.ofInt (64 : Nat) (100 : Int)),
                                                        V.int IntKind.i64 (22700 : Int)]),
                                                  [])))
                                            (Tr.chk true
                                              (Tr.leaf
                                                (Fin.ret
                                                    (V.tup
                                                      [V.u64
                                                          (BitVec.ofInt (64 : Nat) (2100 : Int) +
                                                            BitVec.ofInt (64 : Nat) (100 : Int)),
                                                        V.int IntKind.i64 (19900 : Int)]),
                                                  [])))))
                                        (Tr.chk true
                                          (Tr.leaf
                                            (Fin.ret
                                                (V.tup
                                                  [V.u64
                                                      (BitVec.ofInt (64 : Nat) (2100 : Int) +
                                                        BitVec.ofInt (64 : Nat) (100 : Int)),
                                                    V.int IntKind.i64 (19900 : Int)]),
                                              [])))))
                                    (Tr.chk true
                                      (Tr.br (v.a == o.a && (v.b == o.b && (v.c == o.c && (v.d == o.d && true))))
                                        (Tr.chk true
                                          (Tr.br
                                            (!(o.a == BitVec.ofInt (64 : Nat) (0 : Int) &&
                                                (o.b == BitVec.ofInt (64 : Nat) (0 : Int) &&
                                                  (o.c == BitVec.ofInt (64 : Nat) (0 : Int) &&
                                                    (o.d == BitVec.ofInt (64 : Nat) (0 : Int) && true)))))
                                            (Tr.chk true
                                              (Tr.leaf
                                                (Fin.ret
                                                    (V.tup
                                                      [V.u64
                                                          (BitVec.ofInt (64 : Nat) (2100 : Int) +
                                                            BitVec.ofInt (64 : Nat) (100 : Int)),
                                                        V.int IntKind.i64 (2800 : Int)]),
                                                  [])))
                                            (Tr.chk true
                                              (Tr.leaf
                                                (Fin.ret
                                                    (V.tup
                                                      [V.u64
                                                          (BitVec.ofInt (64 : Nat) (2100 : Int) +
                                                            BitVec.ofInt (64 : Nat) (100 : Int)),
                                                        V.int IntKind.i64 (0 : Int)]),
                                                  [])))))
                                        (Tr.chk true
                                          (Tr.leaf
                                            (Fin.ret
                                                (V.tup
                                                  [V.u64
                                                      (BitVec.ofInt (64 : Nat) (2100 : Int) +
                                                        BitVec.ofInt (64 : Nat) (100 : Int)),
                                                    V.int IntKind.i64 (0 : Int)]),
                                              [])))))))
                                (Tr.chk true
                                  (Tr.br (v.a == o.a && (v.b == o.b && (v.c == o.c && (v.d == o.d && true))))
                                    (Tr.chk true
                                      (Tr.br
                                        (!(o.a == BitVec.ofInt (64 : Nat) (0 : Int) &&
                                            (o.b == BitVec.ofInt (64 : Nat) (0 : Int) &&
                                              (o.c == BitVec.ofInt (64 : Nat) (0 : Int) &&
                                                (o.d == BitVec.ofInt (64 : Nat) (0 : Int) && true)))))
                                        (Tr.chk true
                                          (Tr.leaf
                                            (Fin.ret
                                                (V.tup
                                                  [V.u64
                                                      (BitVec.ofInt (64 : Nat) (2100 : Int) +
                                                        BitVec.ofInt (64 : Nat) (100 : Int)),
                                                    V.int IntKind.i64 (2800 : Int)]),
                                              [])))
                                        (Tr.chk true
                                          (Tr.leaf
                                            (Fin.ret
                                                (V.tup
                                                  [V.u64
                                                      (BitVec.ofInt (64 : Nat) (2100 : Int) +
                                                        BitVec.ofInt (64 : Nat) (100 : Int)),
                                                    V.int IntKind.i64 (0 : Int)]),
                                              [])))))
                                    (Tr.chk true
                                      (Tr.leaf
                                        (Fin.ret
                                            (V.tup
                                              [V.u64
                                                  (BitVec.ofInt (64 : Nat) (2100 : Int) +
                                                    BitVec.ofInt (64 : Nat) (100 : Int)),
                                                V.int IntKind.i64 (0 : Int)]),
                                          [])))))))))
                        (Tr.chk true
                          (Tr.br (v.a == o.a && (v.b == o.b && (v.c == o.c && (v.d == o.d && true))))
                            (Tr.chk true
                              (Tr.br
                                (o.a == BitVec.ofInt (64 : Nat) (0 : Int) &&
                                  (o.b == BitVec.ofInt (64 : Nat) (0 : Int) &&
                                    (o.c == BitVec.ofInt (64 : Nat) (0 : Int) &&
                                      (o.d == BitVec.ofInt (64 : Nat) (0 : Int) && true))))
                                (Tr.chk true
                                  (Tr.br (v.a == o.a && (v.b == o.b && (v.c == o.c && (v.d == o.d && true))))
                                    (Tr.chk true
                                      (Tr.br
                                        (!(o.a == BitVec.ofInt (64 : Nat) (0 : Int) &&
                                            (o.b == BitVec.ofInt (64 : Nat) (0 : Int) &&
                                              (o.c == BitVec.ofInt (64 : Nat) (0 : Int) &&
                                                (o.d == BitVec.ofInt (64 : Nat) (0 : Int) && true)))))
                                        (Tr.chk true
                                          (Tr.leaf
                                            (Fin.ret
                                                (V.tup
                                                  [V.u64
                                                      (BitVec.ofInt (64 : Nat) (2100 : Int) +
                                                        BitVec.ofInt (64 : Nat) (100 : Int)),
                                                    V.int IntKind.i64 (22700 : Int)]),
                                              [])))
                                        (Tr.chk true
                                          (Tr.leaf
                                            (Fin.ret
                                                (V.tup
                                                  [V.u64
                                                      (BitVec.ofInt (64 : Nat) (2100 : Int) +
                                                        BitVec.ofInt (64 : Nat) (100 : Int)),
                                                    V.int IntKind.i64 (19900 : Int)]),
                                              [])))))
                                    (Tr.chk true
                                      (Tr.leaf
                                        (Fin.ret
                                            (V.tup
                                              [V.u64
                                                  (BitVec.ofInt (64 : Nat) (2100 : Int) +
                                                    BitVec.ofInt (64 : Nat) (100 : Int)),
                                                V.int IntKind.i64 (19900 : Int)]),
                                          [])))))
                                (Tr.chk true
                                  (Tr.br (v.a == o.a && (v.b == o.b && (v.c == o.c && (v.d == o.d && true))))
                                    (Tr.chk true
                                      (Tr.br
                                        (!(o.a == BitVec.ofInt (64 : Nat) (0 : Int) &&
                                            (o.b == BitVec.ofInt (64 : Nat) (0 : Int) &&
                                              (o.c == BitVec.ofInt (64 : Nat) (0 : Int) &&
                                                (o.d == BitVec.ofInt (64 : Nat) (0 : Int) && true)))))
                                        (Tr.chk true
                                          (Tr.leaf
                                            (Fin.ret
                                                (V.tup
                                                  [V.u64
                                                      (BitVec.ofInt (64 : Nat) (2100 : Int) +
                                                        BitVec.ofInt (64 : Nat) (100 : Int)),
                                                    V.int IntKind.i64 (2800 : Int)]),
                                              [])))
                                        (Tr.chk true
                                          (Tr.leaf
                                            (Fin.ret
                                                (V.tup
                                                  [V.u64
                                                      (BitVec.ofInt (64 : Nat) (2100 : Int) +
                                                        BitVec.ofInt (64 : Nat) (100 : Int)),
                                                    V.int IntKind.i64 (0 : Int)]),
                                              [])))))
                                    (Tr.chk true
                                      (Tr.leaf
                                        (Fin.ret
                                            (V.tup
                                              [V.u64
                                                  (BitVec.ofInt (64 : Nat) (2100 : Int) +
                                                    BitVec.ofInt (64 : Nat) (100 : Int)),
                                                V.int IntKind.i64 (0 : Int)]),
                                          [])))))))
                            (Tr.chk true
                              (Tr.br (v.a == o.a && (v.b == o.b && (v.c == o.c && (v.d == o.d && true))))
                                (Tr.chk true
                                  (Tr.br
                                    (!(o.a == BitVec.ofInt (64 : Nat) (0 : Int) &&
                                        (o.b == BitVec.ofInt (64 : Nat) (0 : Int) &&
                                          (o.c == BitVec.ofInt (64 : Nat) (0 : Int) &&
                                            (o.d == BitVec.ofInt (64 : Nat) (0 : Int) && true)))))
                                    (Tr.chk true
                                      (Tr.leaf
                                        (Fin.ret
                                            (V.tup
                                              [V.u64
                                                  (BitVec.ofInt (64 : Nat) (2100 : Int) +
                                                    BitVec.ofInt (64 : Nat) (100 : Int)),
                                                V.int IntKind.i64 (2800 : Int)]),
                                          [])))
                                    (Tr.chk true
                                      (Tr.leaf
                                        (Fin.ret
                                            (V.tup
                                              [V.u64
                                                  (BitVec.ofInt (64 : Nat) (2100 : Int) +
                                                    BitVec.ofInt (64 : Nat) (100 : Int)),
                                                V.int IntKind.i64 (0 : Int)]),
                                          [])))))
                                (Tr.chk true
                                  (Tr.leaf
                                    (Fin.ret
                                        (V.tup
                                          [V.u64
                                              (BitVec.ofInt (64 : Nat) (2100 : Int) +
                                                BitVec.ofInt (64 : Nat) (100 : Int)),
                                            V.int IntKind.i64 (0 : Int)]),
                                      [])))))))))))
                (Tr.chk true
                  (Tr.br
                    (!(o.a == BitVec.ofInt (64 : Nat) (0 : Int) &&
                        (o.b == BitVec.ofInt (64 : Nat) (0 : Int) &&
                          (o.c == BitVec.ofInt (64 : Nat) (0 : Int) &&
                            (o.d == BitVec.ofInt (64 : Nat) (0 : Int) && true)))))
                    (Tr.chk true
                      (Tr.br
                        (!(c.a == BitVec.ofInt (64 : Nat) (0 : Int) &&
                            (c.b == BitVec.ofInt (64 : Nat) (0 : Int) &&
                              (c.c == BitVec.ofInt (64 : Nat) (0 : Int) &&
                                (c.d == BitVec.ofInt (64 : Nat) (0 : Int) && true)))))
                        (Tr.chk true
                          (Tr.br
                            (v.a == BitVec.ofInt (64 : Nat) (0 : Int) &&
                              (v.b == BitVec.ofInt (64 : Nat) (0 : Int) &&
                                (v.c == BitVec.ofInt (64 : Nat) (0 : Int) &&
                                  (v.d == BitVec.ofInt (64 : Nat) (0 : Int) && true))))
                            (Tr.chk true
                              (Tr.br (v.a == o.a && (v.b == o.b && (v.c == o.c && (v.d == o.d && true))))
                                (Tr.chk true
                                  (Tr.br
                                    (o.a == BitVec.ofInt (64 : Nat) (0 : Int) &&
                                      (o.b == BitVec.ofInt (64 : Nat) (0 : Int) &&
                                        (o.c == BitVec.ofInt (64 : Nat) (0 : Int) &&
                                          (o.d == BitVec.ofInt (64 : Nat) (0 : Int) && true))))
                                    (Tr.chk true
                                      (Tr.br (v.a == o.a && (v.b == o.b && (v.c == o.c && (v.d == o.d && true))))
                                        (Tr.chk true
                                          (Tr.br
                                            (!(o.a == BitVec.ofInt (64 : Nat) (0 : Int) &&
                                                (o.b == BitVec.ofInt (64 : Nat) (0 : Int) &&
                                                  (o.c == BitVec.ofInt (64 : Nat) (0 : Int) &&
                                                    (o.d == BitVec.ofInt (64 : Nat) (0 : Int) && true)))))
                                            (Tr.chk true
                                              (Tr.leaf
                                                (Fin.ret
                                                    (V.tup
                                                      [V.u64
                                                          (BitVec.ofInt (64 : Nat) (2100 : Int) +
                                                            BitVec.ofInt (64 : Nat) (100 : Int)),
                                                        V.int IntKind.i64 (27500 : Int)]),
                                                  [])))
                                            (Tr.chk true
                                              (Tr.leaf
                                                (Fin.ret
                                                    (V.tup
                                                      [V.u64
                                                          (BitVec.ofInt (64 : Nat) (2100 : Int) +
                                                            BitVec.ofInt (64 : Nat) (100 : Int)),
                                                        V.int IntKind.i64 (24700 : Int)]),
                                                  [])))))
                                        (Tr.chk true
                                          (Tr.leaf
                                            (Fin.ret
                                                (V.tup
                                                  [V.u64
                                                      (BitVec.ofInt (64 : Nat) (2100 : Int) +
                                                        BitVec.ofInt (64 : Nat) (100 : Int)),
                                                    V.int IntKind.i64 (24700 : Int)]),
                                              [])))))
                                    (Tr.chk true
                                      (Tr.br (v.a == o.a && (v.b == o.b && (v.c == o.c && (v.d == o.d && true))))
                                        (Tr.chk true
                                          (Tr.br
                                            (!(o.a == BitVec.ofInt (64 : Nat) (0 : Int) &&
                                                (o.b == BitVec.ofInt (64 : Nat) (0 : Int) &&
                                                  (o.c == BitVec.ofInt (64 : Nat) (0 : Int) &&
                                                    (o.d == BitVec.ofInt (64 : Nat) (0 : Int) && true)))))
                                            (Tr.chk true
                                              (Tr.leaf
                                                (Fin.ret
                                                    (V.tup
                                                      [V.u64
                                                          (BitVec.ofInt (64 : Nat) (2100 : Int) +
                                                            BitVec.ofInt (64 : Nat) (100 : Int)),
                                                        V.int IntKind.i64 (7600 : Int)]),
                                                  [])))
                                            (Tr.chk true
                                              (Tr.leaf
                                                (Fin.ret
                                                    (V.tup
                                                      [V.u64
                                                          (BitVec.ofInt (64 : Nat) (2100 : Int) +
                                                            BitVec.ofInt (64 : Nat) (100 : Int)),
                                                        V.int IntKind.i64 (4800 : Int)]),
                                                  [])))))
                                        (Tr.chk true
                                          (Tr.leaf
                                            (Fin.ret
                                                (V.tup
                                                  [V.u64
                                                      (BitVec.ofInt (64 : Nat) (2100 : Int) +
                                                        BitVec.ofInt (64 : Nat) (100 : Int)),
                                                    V.int IntKind.i64 (4800 : Int)]),
                                              [])))))))
                                (Tr.chk true
                                  (Tr.br (v.a == o.a && (v.b == o.b && (v.c == o.c && (v.d == o.d && true))))
                                    (Tr.chk true
                                      (Tr.br
                                        (!(o.a == BitVec.ofInt (64 : Nat) (0 : Int) &&
                                            (o.b == BitVec.ofInt (64 : Nat) (0 : Int) &&
                                              (o.c == BitVec.ofInt (64 : Nat) (0 : Int) &&
                                                (o.d == BitVec.ofInt (64 : Nat) (0 : Int) && true)))))
                                        (Tr.chk true
                                          (Tr.leaf
                                            (Fin.ret
                                                (V.tup
                                                  [V.u64
                                                      (BitVec.ofInt (64 : Nat) (2100 : Int) +
                                                        BitVec.ofInt (64 : Nat) (100 : Int)),
                                                    V.int IntKind.i64 (7600 : Int)]),
                                              [])))
                                        (Tr.chk true
                                          (Tr.leaf
                                            (Fin.ret
                                                (V.tup
                                                  [V.u64
                                                      (BitVec.ofInt (64 : Nat) (2100 : Int) +
                                                        BitVec.ofInt (64 : Nat) (100 : Int)),
                                                    V.int IntKind.i64 (4800 : Int)]),
                                              [])))))
                                    (Tr.chk true
                                      (Tr.leaf
                                        (Fin.ret
                                            (V.tup
                                              [V.u64
                                                  (BitVec.ofInt (64 : Nat) (2100 : Int) +
                                                    BitVec.ofInt (64 : Nat) (100 : Int)),
                                                V.int IntKind.i64 (4800 : Int)]),
                                          [])))))))
                            (Tr.chk true
                              (Tr.br (v.a == o.a && (v.b == o.b && (v.c == o.c && (v.d == o.d && true))))
                                (Tr.chk true
                                  (Tr.br
                                    (o.a == BitVec.ofInt (64 : Nat) (0 : Int) &&
                                      (o.b == BitVec.ofInt (64 : Nat) (0 : Int) &&
                                        (o.c == BitVec.ofInt (64 : Nat) (0 : Int) &&
                                          (o.d == BitVec.ofInt (64 : Nat) (0 : Int) && true))))
                                    (Tr.chk true
                                      (Tr.br (v.a == o.a && (v.b == o.b && (v.c == o.c && (v.d == o.d && true))))
                                        (Tr.chk true
                                          (Tr.br
                                            (!(o.a == BitVec.ofInt (64 : Nat) (0 : Int) &&
                                                (o.b == BitVec.ofInt (64 : Nat) (0 : Int) &&
                                                  (o.c == BitVec.ofInt (64 : Nat) (0 : Int) &&
                                                    (o.d == BitVec.ofInt (64 : Nat) (0 : Int) && true)))))
                                            (Tr.chk true
                                              (Tr.leaf
                                                (Fin.ret
                                                    (V.tup
                                                      [V.u64
                                                          (BitVec.ofInt (64 : Nat) (2100 : Int) +
                                                            BitVec.ofInt (64 : Nat) (100 : Int)),
                                                        V.int IntKind.i64 (22700 : Int)]),
                                                  [])))
                                            (Tr.chk true
                                              (Tr.leaf
                                                (Fin.ret
                                                    (V.tup
                                                      [V.u64
                                                          (BitVec.ofInt (64 : Nat) (2100 : Int) +
                                                            BitVec.ofInt (64 : Nat) (100 : Int)),
                                                        V.int IntKind.i64 (19900 : Int)]),
                                                  [])))))
                                        (Tr.chk true
                                          (Tr.leaf
                                            (Fin.ret
                                                (V.tup
                                                  [V.u64
                                                      (BitVec.ofInt (64 : Nat) (2100 : Int) +
                                                        BitVec.ofInt (64 : Nat) (100 : Int)),
                                                    V.int IntKind.i64 (19900 : Int)]),
                                              [])))))
                                    (Tr.chk true
                                      (Tr.br (v.a == o.a && (v.b == o.b && (v.c == o.c && (v.d == o.d && true))))
                                        (Tr.chk true
                                          (Tr.br
                                            (!(o.a == BitVec.ofInt (64 : Nat) (0 : Int) &&
                                                (o.b == BitVec.ofInt (64 : Nat) (0 : Int) &&
                                                  (o.c == BitVec.ofInt (64 : Nat) (0 : Int) &&
                                                    (o.d == BitVec.ofInt (64 : Nat) (0 : Int) && true)))))
                                            (Tr.chk true
                                              (Tr.leaf
                                                (Fin.ret
                                                    (V.tup
                                                      [V.u64
                                                          (BitVec.ofInt (64 : Nat) (2100 : Int) +
                                                            BitVec.ofInt (64 : Nat) (100 : Int)),
                                                        V.int IntKind.i64 (2800 : Int)]),
                                                  [])))
                                            (Tr.chk true
                                              (Tr.leaf
                                                (Fin.ret
                                                    (V.tup
                                                      [V.u64
                                                          (BitVec.ofInt (64 : Nat) (2100 : Int) +
                                                            BitVec.ofInt (64 : Nat) (100 : Int)),
                                                        V.int IntKind.i64 (0 : Int)]),
                                                  [])))))
                                        (Tr.chk true
                                          (Tr.leaf
                                            (Fin.ret
                                                (V.tup
                                                  [V.u64
                                                      (BitVec.ofInt (64 : Nat) (2100 : Int) +
                                                        BitVec.ofInt (64 : Nat) (100 : Int)),
                                                    V.int IntKind.i64 (0 : Int)]),
                                              [])))))))
                                (Tr.chk true
                                  (Tr.br (v.a == o.a && (v.b == o.b && (v.c == o.c && (v.d == o.d && true))))
                                    (Tr.chk true
                                      (Tr.br
                                        (!(o.a == BitVec.ofInt (64 : Nat) (0 : Int) &&
                                            (o.b == BitVec.ofInt (64 : Nat) (0 : Int) &&
                                              (o.c == BitVec.ofInt (64 : Nat) (0 : Int) &&
                                                (o.d == BitVec.ofInt (64 : Nat) (0 : Int) && true)))))
                                        (Tr.chk true
                                          (Tr.leaf
                                            (Fin.ret
                                                (V.tup
                                                  [V.u64
                                                      (BitVec.ofInt (64 : Nat) (2100 : Int) +
                                                        BitVec.ofInt (64 : Nat) (100 : Int)),
                                                    V.int IntKind.i64 (2800 : Int)]),
                                              [])))
                                        (Tr.chk true
                                          (Tr.leaf
                                            (Fin.ret
                                                (V.tup
                                                  [V.u64
                                                      (BitVec.ofInt (64 : Nat) (2100 : Int) +
                                                        BitVec.ofInt (64 : Nat) (100 : Int)),
                                                    V.int IntKind.i64 (0 : Int)]),
                                              [])))))
                                    (Tr.chk true
                                      (Tr.leaf
                                        (Fin.ret
                                            (V.tup
                                              [V.u64
                                                  (BitVec.ofInt (64 : Nat) (2100 : Int) +
                                                    BitVec.ofInt (64 : Nat) (100 : Int)),
                                                V.int IntKind.i64 (0 : Int)]),
                                          [])))))))))
                        (Tr.chk true
                          (Tr.br (v.a == o.a && (v.b == o.b && (v.c == o.c && (v.d == o.d && true))))
                            (Tr.chk true
                              (Tr.br
                                (o.a == BitVec.ofInt (64 : Nat) (0 : Int) &&
                                  (o.b == BitVec.ofInt (64 : Nat) (0 : Int) &&
                                    (o.c == BitVec.ofInt (64 : Nat) (0 : Int) &&
                                      (o.d == BitVec.ofInt (64 : Nat) (0 : Int) && true))))
                                (Tr.chk true
                                  (Tr.br (v.a == o.a && (v.b == o.b && (v.c == o.c && (v.d == o.d && true))))
                                    (Tr.chk true
                                      (Tr.br
                                        (!(o.a == BitVec.ofInt (64 : Nat) (0 : Int) &&
                                            (o.b == BitVec.ofInt (64 : Nat) (0 : Int) &&
                                              (o.c == BitVec.ofInt (64 : Nat) (0 : Int) &&
                                                (o.d == BitVec.ofInt (64 : Nat) (0 : Int) && true)))))
                                        (Tr.chk true
                                          (Tr.leaf
                                            (Fin.ret
                                                (V.tup
                                                  [V.u64
                                                      (BitVec.ofInt (64 : Nat) (2100 : Int) +
                                                        BitVec.ofInt (64 : Nat) (100 : Int)),
                                                    V.int IntKind.i64 (22700 : Int)]),
                                              [])))
                                        (Tr.chk true
                                          (Tr.leaf
                                            (Fin.ret
                                                (V.tup
                                                  [V.u64
                                                      (BitVec.ofInt (64 : Nat) (2100 : Int) +
                                                        BitVec.ofInt (64 : Nat) (100 : Int)),
                                                    V.int IntKind.i64 (19900 : Int)]),
                                              [])))))
                                    (Tr.chk true
                                      (Tr.leaf
                                        (Fin.ret
                                            (V.tup
                                              [V.u64
                                                  (BitVec.ofInt (64 : Nat) (2100 : Int) +
                                                    BitVec.ofInt (64 : Nat) (100 : Int)),
                                                V.int IntKind.i64 (19900 : Int)]),
                                          [])))))
                                (Tr.chk true
                                  (Tr.br (v.a == o.a && (v.b == o.b && (v.c == o.c && (v.d == o.d && true))))
                                    (Tr.chk true
                                      (Tr.br
                                        (!(o.a == BitVec.ofInt (64 : Nat) (0 : Int) &&
                                            (o.b == BitVec.ofInt (64 : Nat) (0 : Int) &&
                                              (o.c == BitVec.ofInt (64 : Nat) (0 : Int) &&
                                                (o.d == BitVec.ofInt (64 : Nat) (0 : Int) && true)))))
                                        (Tr.chk true
                                          (Tr.leaf
                                            (Fin.ret
                                                (V.tup
                                                  [V.u64
                                                      (BitVec.ofInt (64 : Nat) (2100 : Int) +
                                                        BitVec.ofInt (64 : Nat) (100 : Int)),
                                                    V.int IntKind.i64 (2800 : Int)]),
                                              [])))
                                        (Tr.chk true
                                          (Tr.leaf
                                            (Fin.ret
                                                (V.tup
                                                  [V.u64
                                                      (BitVec.ofInt (64 : Nat) (2100 : Int) +
                                                        BitVec.ofInt (64 : Nat) (100 : Int)),
                                                    V.int IntKind.i64 (0 : Int)]),
                                              [])))))
                                    (Tr.chk true
                                      (Tr.leaf
                                        (Fin.ret
                                            (V.tup
                                              [V.u64
                                                  (BitVec.ofInt (64 : Nat) (2100 : Int) +
                                                    BitVec.ofInt (64 : Nat) (100 : Int)),
                                                V.int IntKind.i64 (0 : Int)]),
                                          [])))))))
                            (Tr.chk true
                              (Tr.br (v.a == o.a && (v.b == o.b && (v.c == o.c && (v.d == o.d && true))))
                                (Tr.chk true
                                  (Tr.br
                                    (!(o.a == BitVec.ofInt (64 : Nat) (0 : Int) &&
                                        (o.b == BitVec.ofInt (64 : Nat) (0 : Int) &&
                                          (o.c == BitVec.ofInt (64 : Nat) (0 : Int) &&
                                            (o.d == BitVec.ofInt (64 : Nat) (0 : Int) && true)))))
                                    (Tr.chk true
                                      (Tr.leaf
                                        (Fin.ret
                                            (V.tup
                                              [V.u64
                                                  (BitVec.ofInt (64 : Nat) (2100 : Int) +
                                                    BitVec.ofInt (64 : Nat) (100 : Int)),
                                                V.int IntKind.i64 (2800 : Int)]),
                                          [])))
                                    (Tr.chk true
                                      (Tr.leaf
                                        (Fin.ret
                                            (V.tup
                                              [V.u64
                                                  (BitVec.ofInt (64 : Nat) (2100 : Int) +
                                                    BitVec.ofInt (64 : Nat) (100 : Int)),
                                                V.int IntKind.i64 (0 : Int)]),
                                          [])))))
                                (Tr.chk true
                                  (Tr.leaf
                                    (Fin.ret
                                        (V.tup
                                          [V.u64
                                              (BitVec.ofInt (64 : Nat) (2100 : Int) +
                                                BitVec.ofInt (64 : Nat) (100 : Int)),
                                            V.int IntKind.i64 (0 : Int)]),
                                      [])))))))))
                    (Tr.chk true
                      (Tr.br (v.a == o.a && (v.b == o.b && (v.c == o.c && (v.d == o.d && true))))
                        (Tr.chk true
                          (Tr.br
                            (o.a == BitVec.ofInt (64 : Nat) (0 : Int) &&
                              (o.b == BitVec.ofInt (64 : Nat) (0 : Int) &&
                                (o.c == BitVec.ofInt (64 : Nat) (0 : Int) &&
                                  (o.d == BitVec.ofInt (64 : Nat) (0 : Int) && true))))
                            (Tr.chk true
                              (Tr.br (v.a == o.a && (v.b == o.b && (v.c == o.c && (v.d == o.d && true))))
                                (Tr.chk true
                                  (Tr.br
                                    (!(o.a == BitVec.ofInt (64 : Nat) (0 : Int) &&
                                        (o.b == BitVec.ofInt (64 : Nat) (0 : Int) &&
                                          (o.c == BitVec.ofInt (64 : Nat) (0 : Int) &&
                                            (o.d == BitVec.ofInt (64 : Nat) (0 : Int) && true)))))
                                    (Tr.chk true
                                      (Tr.leaf
                                        (Fin.ret
                                            (V.tup
                                              [V.u64
                                                  (BitVec.ofInt (64 : Nat) (2100 : Int) +
                                                    BitVec.ofInt (64 : Nat) (100 : Int)),
                                                V.int IntKind.i64 (22700 : Int)]),
                                          [])))
                                    (Tr.chk true
                                      (Tr.leaf
                                        (Fin.ret
                                            (V.tup
                                              [V.u64
                                                  (BitVec.ofInt (64 : Nat) (2100 : Int) +
                                                    BitVec.ofInt (64 : Nat) (100 : Int)),
                                                V.int IntKind.i64 (19900 : Int)]),
                                          [])))))
                                (Tr.chk true
                                  (Tr.leaf
                                    (Fin.ret
                                        (V.tup
                                          [V.u64
                                              (BitVec.ofInt (64 : Nat) (2100 : Int) +
                                                BitVec.ofInt (64 : Nat) (100 : Int)),
                                            V.int IntKind.i64 (19900 : Int)]),
                                      [])))))
                            (Tr.chk true
                              (Tr.br (v.a == o.a && (v.b == o.b && (v.c == o.c && (v.d == o.d && true))))
                                (Tr.chk true
                                  (Tr.br
                                    (!(o.a == BitVec.ofInt (64 : Nat) (0 : Int) &&
                                        (o.b == BitVec.ofInt (64 : Nat) (0 : Int) &&
                                          (o.c == BitVec.ofInt (64 : Nat) (0 : Int) &&
                                            (o.d == BitVec.ofInt (64 : Nat) (0 : Int) && true)))))
                                    (Tr.chk true
                                      (Tr.leaf
                                        (Fin.ret
                                            (V.tup
                                              [V.u64
                                                  (BitVec.ofInt (64 : Nat) (2100 : Int) +
                                                    BitVec.ofInt (64 : Nat) (100 : Int)),
                                                V.int IntKind.i64 (2800 : Int)]),
                                          [])))
                                    (Tr.chk true
                                      (Tr.leaf
                                        (Fin.ret
                                            (V.tup
                                              [V.u64
                                                  (BitVec.ofInt (64 : Nat) (2100 : Int) +
                                                    BitVec.ofInt (64 : Nat) (100 : Int)),
                                                V.int IntKind.i64 (0 : Int)]),
                                          [])))))
                                (Tr.chk true
                                  (Tr.leaf
                                    (Fin.ret
                                        (V.tup
                                          [V.u64
                                              (BitVec.ofInt (64 : Nat) (2100 : Int) +
                                                BitVec.ofInt (64 : Nat) (100 : Int)),
                                            V.int IntKind.i64 (0 : Int)]),
                                      [])))))))
                        (Tr.chk true
                          (Tr.br (v.a == o.a && (v.b == o.b && (v.c == o.c && (v.d == o.d && true))))
                            (Tr.chk true
                              (Tr.br
                                (!(o.a == BitVec.ofInt (64 : Nat) (0 : Int) &&
                                    (o.b == BitVec.ofInt (64 : Nat) (0 : Int) &&
                                      (o.c == BitVec.ofInt (64 : Nat) (0 : Int) &&
                                        (o.d == BitVec.ofInt (64 : Nat) (0 : Int) && true)))))
                                (Tr.chk true
                                  (Tr.leaf
                                    (Fin.ret
                                        (V.tup
                                          [V.u64
                                              (BitVec.ofInt (64 : Nat) (2100 : Int) +
                                                BitVec.ofInt (64 : Nat) (100 : Int)),
                                            V.int IntKind.i64 (2800 : Int)]),
                                      [])))
                                (Tr.chk true
                                  (Tr.leaf
                                    (Fin.ret
                                        (V.tup
                                          [V.u64
                                              (BitVec.ofInt (64 : Nat) (2100 : Int) +
                                                BitVec.ofInt (64 : Nat) (100 : Int)),
                                            V.int IntKind.i64 (0 : Int)]),
                                      [])))))
                            (Tr.chk true
                              (Tr.leaf
                                (Fin.ret
                                    (V.tup
                                      [V.u64
                                          (BitVec.ofInt (64 : Nat) (2100 : Int) + BitVec.ofInt (64 : Nat) (100 : Int)),
                                        V.int IntKind.i64 (0 : Int)]),
                                  [])))))))))))))))
    (Tr.chk true
      (Tr.br (v.a == c.a && (v.b == c.b && (v.c == c.c && (v.d == c.d && true))))
        (Tr.chk true
          (Tr.leaf
            (Fin.ret
                (V.tup
                  [V.u64 (BitVec.ofInt (64 : Nat) (0 : Int) + BitVec.ofInt (64 : Nat) (100 : Int)),
                    V.int IntKind.i64 (0 : Int)]),
              [])))
        (Tr.chk true
          (Tr.br (c.a == o.a && (c.b == o.b && (c.c == o.c && (c.d == o.d && true))))
            (Tr.chk true
              (Tr.br
                (o.a == BitVec.ofInt (64 : Nat) (0 : Int) &&
                  (o.b == BitVec.ofInt (64 : Nat) (0 : Int) &&
                    (o.c == BitVec.ofInt (64 : Nat) (0 : Int) && (o.d == BitVec.ofInt (64 : Nat) (0 : Int) && true))))
                (Tr.chk true
                  (Tr.leaf
                    (Fin.ret
                        (V.tup
                          [V.u64 (BitVec.ofInt (64 : Nat) (0 : Int) + BitVec.ofInt (64 : Nat) (20000 : Int)),
                            V.int IntKind.i64 (0 : Int)]),
                      [])))
                (Tr.chk true
                  (Tr.br
                    (v.a == BitVec.ofInt (64 : Nat) (0 : Int) &&
                      (v.b == BitVec.ofInt (64 : Nat) (0 : Int) &&
                        (v.c == BitVec.ofInt (64 : Nat) (0 : Int) &&
                          (v.d == BitVec.ofInt (64 : Nat) (0 : Int) && true))))
                    (Tr.chk true
                      (Tr.leaf
                        (Fin.ret
                            (V.tup
                              [V.u64 (BitVec.ofInt (64 : Nat) (0 : Int) + BitVec.ofInt (64 : Nat) (2900 : Int)),
                                V.int IntKind.i64 (4800 : Int)]),
                          [])))
                    (Tr.chk true
                      (Tr.leaf
                        (Fin.ret
                            (V.tup
                              [V.u64 (BitVec.ofInt (64 : Nat) (0 : Int) + BitVec.ofInt (64 : Nat) (2900 : Int)),
                                V.int IntKind.i64 (0 : Int)]),
                          [])))))))
            (Tr.chk true
              (Tr.br
                (!(o.a == BitVec.ofInt (64 : Nat) (0 : Int) &&
                    (o.b == BitVec.ofInt (64 : Nat) (0 : Int) &&
                      (o.c == BitVec.ofInt (64 : Nat) (0 : Int) &&
                        (o.d == BitVec.ofInt (64 : Nat) (0 : Int) && true)))))
                (Tr.chk true
                  (Tr.br
                    (c.a == BitVec.ofInt (64 : Nat) (0 : Int) &&
                      (c.b == BitVec.ofInt (64 : Nat) (0 : Int) &&
                        (c.c == BitVec.ofInt (64 : Nat) (0 : Int) &&
                          (c.d == BitVec.ofInt (64 : Nat) (0 : Int) && true))))
                    (Tr.chk true
                      (Tr.br
                        (!(o.a == BitVec.ofInt (64 : Nat) (0 : Int) &&
                            (o.b == BitVec.ofInt (64 : Nat) (0 : Int) &&
                              (o.c == BitVec.ofInt (64 : Nat) (0 : Int) &&
                                (o.d == BitVec.ofInt (64 : Nat) (0 : Int) && true)))))
                        (Tr.chk true
                          (Tr.br
                            (!(c.a == BitVec.ofInt (64 : Nat) (0 : Int) &&
                                (c.b == BitVec.ofInt (64 : Nat) (0 : Int) &&
                                  (c.c == BitVec.ofInt (64 : Nat) (0 : Int) &&
                                    (c.d == BitVec.ofInt (64 : Nat) (0 : Int) && true)))))
                            (Tr.chk true
                              (Tr.br
                                (v.a == BitVec.ofInt (64 : Nat) (0 : Int) &&
                                  (v.b == BitVec.ofInt (64 : Nat) (0 : Int) &&
                                    (v.c == BitVec.ofInt (64 : Nat) (0 : Int) &&
                                      (v.d == BitVec.ofInt (64 : Nat) (0 : Int) && true))))
                                (Tr.chk true
                                  (Tr.br (v.a == o.a && (v.b == o.b && (v.c == o.c && (v.d == o.d && true))))
                                    (Tr.chk true
                                      (Tr.br
                                        (o.a == BitVec.ofInt (64 : Nat) (0 : Int) &&
                                          (o.b == BitVec.ofInt (64 : Nat) (0 : Int) &&
                                            (o.c == BitVec.ofInt (64 : Nat) (0 : Int) &&
                                              (o.d == BitVec.ofInt (64 : Nat) (0 : Int) && true))))
                                        (Tr.chk true
                                          (Tr.br (v.a == o.a && (v.b == o.b && (v.c == o.c && (v.d == o.d && true))))
                                            (Tr.chk true
                                              (Tr.br
                                                (!(o.a == BitVec.ofInt (64 : Nat) (0 : Int) &&
                                                    (o.b == BitVec.ofInt (64 : Nat) (0 : Int) &&
                                                      (o.c == BitVec.ofInt (64 : Nat) (0 : Int) &&
                                                        (o.d == BitVec.ofInt (64 : Nat) (0 : Int) && true)))))
                                                (Tr.chk true
                                                  (Tr.leaf
                                                    (Fin.ret
                                                        (V.tup
                                                          [V.u64
                                                              (BitVec.ofInt (64 : Nat) (0 : Int) +
                                                                BitVec.ofInt (64 : Nat) (100 : Int)),
                                                            V.int IntKind.i64 (22700 : Int)]),
                                                      [])))
                                                (Tr.chk true
                                                  (Tr.leaf
                                                    (Fin.ret
                                                        (V.tup
                                                          [V.u64
                                                              (BitVec.ofInt (64 : Nat) (0 : Int) +
                                                                BitVec.ofInt (64 : Nat) (100 : Int)),
                                                            V.int IntKind.i64 (19900 : Int)]),
                                                      [])))))
                                            (Tr.chk true
                                              (Tr.leaf
                                                (Fin.ret
                                                    (V.tup
                                                      [V.u64
                                                          (BitVec.ofInt (64 : Nat) (0 : Int) +
                                                            BitVec.ofInt (64 : Nat) (100 : Int)),
                                                        V.int IntKind.i64 (19900 : Int)]),
                                                  [])))))
                                        (Tr.chk true
                                          (Tr.br (v.a == o.a && (v.b == o.b && (v.c == o.c && (v.d == o.d && true))))
                                            (Tr.chk true
                                              (Tr.br
                                                (!(o.a == BitVec.ofInt (64 : Nat) (0 : Int) &&
                                                    (o.b == BitVec.ofInt (64 : Nat) (0 : Int) &&
                                                      (o.c == BitVec.ofInt (64 : Nat) (0 : Int) &&
                                                        (o.d == BitVec.ofInt (64 : Nat) (0 : Int) && true)))))
                                                (Tr.chk true
                                                  (Tr.leaf
                                                    (Fin.ret
                                                        (V.tup
                                                          [V.u64
                                                              (BitVec.ofInt (64 : Nat) (0 : Int) +
                                                                BitVec.ofInt (64 : Nat) (100 : Int)),
                                                            V.int IntKind.i64 (2800 : Int)]),
                                                      [])))
                                                (Tr.chk true
                                                  (Tr.leaf
                                                    (Fin.ret
                                                        (V.tup
                                                          [V.u64
                                                              (BitVec.ofInt (64 : Nat) (0 : Int) +
                                                                BitVec.ofInt (64 : Nat) (100 : Int)),
                                                            V.int IntKind.i64 (0 : Int)]),
                                                      [])))))
                                            (Tr.chk true
                                              (Tr.leaf
                                                (Fin.ret
                                                    (V.tup
                                                      [V.u64
                                                          (BitVec.ofInt (64 : Nat) (0 : Int) +
                                                            BitVec.ofInt (64 : Nat) (100 : Int)),
                                                        V.int IntKind.i64 (0 : Int)]),
                                                  [])))))))
                                    (Tr.chk true
                                      (Tr.br (v.a == o.a && (v.b == o.b && (v.c == o.c && (v.d == o.d && true))))
                                        (Tr.chk true
                                          (Tr.br
                                            (!(o.a == BitVec.ofInt (64 : Nat) (0 : Int) &&
                                                (o.b == BitVec.ofInt (64 : Nat) (0 : Int) &&
                                                  (o.c == BitVec.ofInt (64 : Nat) (0 : Int) &&
                                                    (o.d == BitVec.ofInt (64 : Nat) (0 : Int) && true)))))
                                            (Tr.chk true
                                              (Tr.leaf
                                                (Fin.ret
                                                    (V.tup
                                                      [V.u64
                                                          (BitVec.ofInt (64 : Nat) (0 : Int) +
                                                            BitVec.ofInt (64 : Nat) (100 : Int)),
                                                        V.int IntKind.i64 (2800 : Int)]),
                                                  [])))
                                            (Tr.chk true
                                              (Tr.leaf
                                                (Fin.ret
                                                    (V.tup
                                                      [V.u64
                                                          (BitVec.ofInt (64 : Nat) (0 : Int) +
                                                            BitVec.ofInt (64 : Nat) (100 : Int)),
                                                        V.int IntKind.i64 (0 : Int)]),
                                                  [])))))
                                        (Tr.chk true
                                          (Tr.leaf
                                            (Fin.ret
                                                (V.tup
                                                  [V.u64
                                                      (BitVec.ofInt (64 : Nat) (0 : Int) +
                                                        BitVec.ofInt (64 : Nat) (100 : Int)),
                                                    V.int IntKind.i64 (0 : Int)]),
                                              [])))))))
                                (Tr.chk true
                                  (Tr.br (v.a == o.a && (v.b == o.b && (v.c == o.c && (v.d == o.d && true))))
                                    (Tr.chk true
                                      (Tr.br
                                        (o.a == BitVec.ofInt (64 : Nat) (0 : Int) &&
                                          (o.b == BitVec.ofInt (64 : Nat) (0 : Int) &&
                                            (o.c == BitVec.ofInt (64 : Nat) (0 : Int) &&
                                              (o.d == BitVec.ofInt (64 : Nat) (0 : Int) && true))))
                                        (Tr.chk true
                                          (Tr.br (v.a == o.a && (v.b == o.b && (v.c == o.c && (v.d == o.d && true))))
                                            (Tr.chk true
                                              (Tr.br
                                                (!(o.a == BitVec.ofInt (64 : Nat) (0 : Int) &&
                                                    (o.b == BitVec.ofInt (64 : Nat) (0 : Int) &&
                                                      (o.c == BitVec.ofInt (64 : Nat) (0 : Int) &&
                                                        (o.d == BitVec.ofInt (64 : Nat) (0 : Int) && true)))))
                                                (Tr.chk true
                                                  (Tr.leaf
                                                    (Fin.ret
                                                        (V.tup
                                                          [V.u64
                                                              (BitVec.ofInt (64 : Nat) (0 : Int) +
                                                                BitVec.ofInt (64 : Nat) (100 : Int)),
                                                            V.int IntKind.i64 (17900 : Int)]),
                                                      [])))
                                                (Tr.chk true
                                                  (Tr.leaf
                                                    (Fin.ret
                                                        (V.tup
                                                          [V.u64
                                                              (BitVec.ofInt (64 : Nat) (0 : Int) +
                                                                BitVec.ofInt (64 : Nat) (100 : Int)),
                                                            V.int IntKind.i64 (15100 : Int)]),
                                                      [])))))
                                            (Tr.chk true
                                              (Tr.leaf
                                                (Fin.ret
                                                    (V.tup
                                                      [V.u64
                                                          (BitVec.ofInt (64 : Nat) (0 : Int) +
                                                            BitVec.ofInt (64 : Nat) (100 : Int)),
                                                        V.int IntKind.i64 (15100 : Int)]),
                                                  [])))))
                                        (Tr.chk true
                                          (Tr.br (v.a == o.a && (v.b == o.b && (v.c == o.c && (v.d == o.d && true))))
                                            (Tr.chk true
                                              (Tr.br
                                                (!(o.a == BitVec.ofInt (64 : Nat) (0 : Int) &&
                                                    (o.b == BitVec.ofInt (64 : Nat) (0 : Int) &&
                                                      (o.c == BitVec.ofInt (64 : Nat) (0 : Int) &&
                                                        (o.d == BitVec.ofInt (64 : Nat) (0 : Int) && true)))))
                                                (Tr.chk true
                                                  (Tr.leaf
                                                    (Fin.ret
                                                        (V.tup
                                                          [V.u64
                                                              (BitVec.ofInt (64 : Nat) (0 : Int) +
                                                                BitVec.ofInt (64 : Nat) (100 : Int)),
                                                            V.int IntKind.i64 (-2000 : Int)]),
                                                      [])))
                                                (Tr.chk true
                                                  (Tr.leaf
                                                    (Fin.ret
                                                        (V.tup
                                                          [V.u64
                                                              (BitVec.ofInt (64 : Nat) (0 : Int) +
                                                                BitVec.ofInt (64 : Nat) (100 : Int)),
                                                            V.int IntKind.i64 (-4800 : Int)]),
                                                      [])))))
                                            (Tr.chk true
                                              (Tr.leaf
                                                (Fin.ret
                                                    (V.tup
                                                      [V.u64
                                                          (BitVec.ofInt (64 : Nat) (0 : Int) +
                                                            BitVec.ofInt (64 : Nat) (100 : Int)),
                                                        V.int IntKind.i64 (-4800 : Int)]),
                                                  [])))))))
                                    (Tr.chk true
                                      (Tr.br (v.a == o.a && (v.b == o.b && (v.c == o.c && (v.d == o.d && true))))
                                        (Tr.chk true
                                          (Tr.br
                                            (!(o.a == BitVec.ofInt (64 : Nat) (0 : Int) &&
                                                (o.b == BitVec.ofInt (64 : Nat) (0 : Int) &&
                                                  (o.c == BitVec.ofInt (64 : Nat) (0 : Int) &&
                                                    (o.d == BitVec.ofInt (64 : Nat) (0 : Int) && true)))))
                                            (Tr.chk true
                                              (Tr.leaf
                                                (Fin.ret
                                                    (V.tup
                                                      [V.u64
                                                          (BitVec.ofInt (64 : Nat) (0 : Int) +
                                                            BitVec.ofInt (64 : Nat) (100 : Int)),
                                                        V.int IntKind.i64 (-2000 : Int)]),
                                                  [])))
                                            (Tr.chk true
                                              (Tr.leaf
                                                (Fin.ret
                                                    (V.tup
                                                      [V.u64
                                                          (BitVec.ofInt (64 : Nat) (0 : Int) +
                                                            BitVec.ofInt (64 : Nat) (100 : Int)),
                                                        V.int IntKind.i64 (-4800 : Int)]),
                                                  [])))))
                                        (Tr.chk true
                                          (Tr.leaf
                                            (Fin.ret
                                                (V.tup
                                                  [V.u64
                                                      (BitVec.ofInt (64 : Nat) (0 : Int) +
                                                        BitVec.ofInt (64 : Nat) (100 : Int)),
                                                    V.int IntKind.i64 (-4800 : Int)]),
                                              [])))))))))
                            (Tr.chk true
                              (Tr.br (v.a == o.a && (v.b == o.b && (v.c == o.c && (v.d == o.d && true))))
                                (Tr.chk true
                                  (Tr.br
                                    (o.a == BitVec.ofInt (64 : Nat) (0 : Int) &&
                                      (o.b == BitVec.ofInt (64 : Nat) (0 : Int) &&
                                        (o.c == BitVec.ofInt (64 : Nat) (0 : Int) &&
                                          (o.d == BitVec.ofInt (64 : Nat) (0 : Int) && true))))
                                    (Tr.chk true
                                      (Tr.br (v.a == o.a && (v.b == o.b && (v.c == o.c && (v.d == o.d && true))))
                                        (Tr.chk true
                                          (Tr.br
                                            (!(o.a == BitVec.ofInt (64 : Nat) (0 : Int) &&
                                                (o.b == BitVec.ofInt (64 : Nat) (0 : Int) &&
                                                  (o.c == BitVec.ofInt (64 : Nat) (0 : Int) &&
                                                    (o.d == BitVec.ofInt (64 : Nat) (0 : Int) && true)))))
                                            (Tr.chk true
                                              (Tr.leaf
                                                (Fin.ret
                                                    (V.tup
                                                      [V.u64
                                                          (BitVec.ofInt (64 : Nat) (0 : Int) +
                                                            BitVec.ofInt (64 : Nat) (100 : Int)),
                                                        V.int IntKind.i64 (17900 : Int)]),
                                                  [])))
                                            (Tr.chk true
                                              (Tr.leaf
                                                (Fin.ret
                                                    (V.tup
                                                      [V.u64
                                                          (BitVec.ofInt (64 : Nat) (0 : Int) +
                                                            BitVec.ofInt (64 : Nat) (100 : Int)),
                                                        V.int IntKind.i64 (15100 : Int)]),
                                                  [])))))
                                        (Tr.chk true
                                          (Tr.leaf
                                            (Fin.ret
                                                (V.tup
                                                  [V.u64
                                                      (BitVec.ofInt (64 : Nat) (0 : Int) +
                                                        BitVec.ofInt (64 : Nat) (100 : Int)),
                                                    V.int IntKind.i64 (15100 : Int)]),
                                              [])))))
                                    (Tr.chk true
                                      (Tr.br (v.a == o.a && (v.b == o.b && (v.c == o.c && (v.d == o.d && true))))
                                        (Tr.chk true
                                          (Tr.br
                                            (!(o.a == BitVec.ofInt (64 : Nat) (0 : Int) &&
                                                (o.b == BitVec.ofInt (64 : Nat) (0 : Int) &&
                                                  (o.c == BitVec.ofInt (64 : Nat) (0 : Int) &&
                                                    (o.d == BitVec.ofInt (64 : Nat) (0 : Int) && true)))))
                                            (Tr.chk true
                                              (Tr.leaf
                                                (Fin.ret
                                                    (V.tup
                                                      [V.u64
                                                          (BitVec.ofInt (64 : Nat) (0 : Int) +
                                                            BitVec.ofInt (64 : Nat) (100 : Int)),
                                                        V.int IntKind.i64 (-2000 : Int)]),
                                                  [])))
                                            (Tr.chk true
                                              (Tr.leaf
                                                (Fin.ret
                                                    (V.tup
                                                      [V.u64
                                                          (BitVec.ofInt (64 : Nat) (0 : Int) +
                                                            BitVec.ofInt (64 : Nat) (100 : Int)),
                                                        V.int IntKind.i64 (-4800 : Int)]),
                                                  [])))))
                                        (Tr.chk true
                                          (Tr.leaf
                                            (Fin.ret
                                                (V.tup
                                                  [V.u64
                                                      (BitVec.ofInt (64 : Nat) (0 : Int) +
                                                        BitVec.ofInt (64 : Nat) (100 : Int)),
                                                    V.int IntKind.i64 (-4800 : Int)]),
                                              [])))))))
                                (Tr.chk true
                                  (Tr.br (v.a == o.a && (v.b == o.b && (v.c == o.c && (v.d == o.d && true))))
                                    (Tr.chk true
                                      (Tr.br
                                        (!(o.a == BitVec.ofInt (64 : Nat) (0 : Int) &&
                                            (o.b == BitVec.ofInt (64 : Nat) (0 : Int) &&
                                              (o.c == BitVec.ofInt (64 : Nat) (0 : Int) &&
                                                (o.d == BitVec.ofInt (64 : Nat) (0 : Int) && true)))))
                                        (Tr.chk true
                                          (Tr.leaf
                                            (Fin.ret
                                                (V.tup
                                                  [V.u64
                                                      (BitVec.ofInt (64 : Nat) (0 : Int) +
                                                        BitVec.ofInt (64 : Nat) (100 : Int)),
                                                    V.int IntKind.i64 (-2000 : Int)]),
                                              [])))
                                        (Tr.chk true
                                          (Tr.leaf
                                            (Fin.ret
                                                (V.tup
                                                  [V.u64
                                                      (BitVec.ofInt (64 : Nat) (0 : Int) +
                                                        BitVec.ofInt (64 : Nat) (100 : Int)),
                                                    V.int IntKind.i64 (-4800 : Int)]),
                                              [])))))
                                    (Tr.chk true
                                      (Tr.leaf
                                        (Fin.ret
                                            (V.tup
                                              [V.u64
                                                  (BitVec.ofInt (64 : Nat) (0 : Int) +
                                                    BitVec.ofInt (64 : Nat) (100 : Int)),
                                                V.int IntKind.i64 (-4800 : Int)]),
                                          [])))))))))
                        (Tr.chk true
                          (Tr.br (v.a == o.a && (v.b == o.b && (v.c == o.c && (v.d == o.d && true))))
                            (Tr.chk true
                              (Tr.br
                                (o.a == BitVec.ofInt (64 : Nat) (0 : Int) &&
                                  (o.b == BitVec.ofInt (64 : Nat) (0 : Int) &&
                                    (o.c == BitVec.ofInt (64 : Nat) (0 : Int) &&
                                      (o.d == BitVec.ofInt (64 : Nat) (0 : Int) && true))))
                                (Tr.chk true
                                  (Tr.br (v.a == o.a && (v.b == o.b && (v.c == o.c && (v.d == o.d && true))))
                                    (Tr.chk true
                                      (Tr.br
                                        (!(o.a == BitVec.ofInt (64 : Nat) (0 : Int) &&
                                            (o.b == BitVec.ofInt (64 : Nat) (0 : Int) &&
                                              (o.c == BitVec.ofInt (64 : Nat) (0 : Int) &&
                                                (o.d == BitVec.ofInt (64 : Nat) (0 : Int) && true)))))
                                        (Tr.chk true
                                          (Tr.leaf
                                            (Fin.ret
                                                (V.tup
                                                  [V.u64
                                                      (BitVec.ofInt (64 : Nat) (0 : Int) +
                                                        BitVec.ofInt (64 : Nat) (100 : Int)),
                                                    V.int IntKind.i64 (17900 : Int)]),
                                              [])))
                                        (Tr.chk true
                                          (Tr.leaf
                                            (Fin.ret
                                                (V.tup
                                                  [V.u64
                                                      (BitVec.ofInt (64 : Nat) (0 : Int) +
                                                        BitVec.ofInt (64 : Nat) (100 : Int)),
                                                    V.int IntKind.i64 (15100 : Int)]),
                                              [])))))
                                    (Tr.chk true
                                      (Tr.leaf
                                        (Fin.ret
                                            (V.tup
                                              [V.u64
                                                  (BitVec.ofInt (64 : Nat) (0 : Int) +
                                                    BitVec.ofInt (64 : Nat) (100 : Int)),
                                                V.int IntKind.i64 (15100 : Int)]),
                                          [])))))
                                (Tr.chk true
                                  (Tr.br (v.a == o.a && (v.b == o.b && (v.c == o.c && (v.d == o.d && true))))
                                    (Tr.chk true
                                      (Tr.br
                                        (!(o.a == BitVec.ofInt (64 : Nat) (0 : Int) &&
                                            (o.b == BitVec.ofInt (64 : Nat) (0 : Int) &&
                                              (o.c == BitVec.ofInt (64 : Nat) (0 : Int) &&
                                                (o.d == BitVec.ofInt (64 : Nat) (0 : Int) && true)))))
                                        (Tr.chk true
                                          (Tr.leaf
                                            (Fin.ret
                                                (V.tup
                                                  [V.u64
                                                      (BitVec.ofInt (64 : Nat) (0 : Int) +
                                                        BitVec.ofInt (64 : Nat) (100 : Int)),
                                                    V.int IntKind.i64 (-2000 : Int)]),
                                              [])))
                                        (Tr.chk true
                                          (Tr.leaf
                                            (Fin.ret
                                                (V.tup
                                                  [V.u64
                                                      (BitVec.ofInt (64 : Nat) (0 : Int) +
                                                        BitVec.ofInt (64 : Nat) (100 : Int)),
                                                    V.int IntKind.i64 (-4800 : Int)]),
                                              [])))))
                                    (Tr.chk true
                                      (Tr.leaf
                                        (Fin.ret
                                            (V.tup
                                              [V.u64
                                                  (BitVec.ofInt (64 : Nat) (0 : Int) +
                                                    BitVec.ofInt (64 : Nat) (100 : Int)),
                                                V.int IntKind.i64 (-4800 : Int)]),
                                          [])))))))
                            (Tr.chk true
                              (Tr.br (v.a == o.a && (v.b == o.b && (v.c == o.c && (v.d == o.d && true))))
                                (Tr.chk true
                                  (Tr.br
                                    (!(o.a == BitVec.ofInt (64 : Nat) (0 : Int) &&
                                        (o.b == BitVec.ofInt (64 : Nat) (0 : Int) &&
                                          (o.c == BitVec.ofInt (64 : Nat) (0 : Int) &&
                                            (o.d == BitVec.ofInt (64 : Nat) (0 : Int) && true)))))
                                    (Tr.chk true
                                      (Tr.leaf
                                        (Fin.ret
                                            (V.tup
                                              [V.u64
                                                  (BitVec.ofInt (64 : Nat) (0 : Int) +
                                                    BitVec.ofInt (64 : Nat) (100 : Int)),
                                                V.int IntKind.i64 (-2000 : Int)]),
                                          [])))
                                    (Tr.chk true
                                      (Tr.leaf
                                        (Fin.ret
                                            (V.tup
                                              [V.u64
                                                  (BitVec.ofInt (64 : Nat) (0 : Int) +
                                                    BitVec.ofInt (64 : Nat) (100 : Int)),
                                                V.int IntKind.i64 (-4800 : Int)]),
                                          [])))))
                                (Tr.chk true
                                  (Tr.leaf
                                    (Fin.ret
                                        (V.tup
                                          [V.u64
                                              (BitVec.ofInt (64 : Nat) (0 : Int) + BitVec.ofInt (64 : Nat) (100 : Int)),
                                            V.int IntKind.i64 (-4800 : Int)]),
                                      [])))))))))
                    (Tr.chk true
                      (Tr.br
                        (!(o.a == BitVec.ofInt (64 : Nat) (0 : Int) &&
                            (o.b == BitVec.ofInt (64 : Nat) (0 : Int) &&
                              (o.c == BitVec.ofInt (64 : Nat) (0 : Int) &&
                                (o.d == BitVec.ofInt (64 : Nat) (0 : Int) && true)))))
                        (Tr.chk true
                          (Tr.br
                            (!(c.a == BitVec.ofInt (64 : Nat) (0 : Int) &&
                                (c.b == BitVec.ofInt (64 : Nat) (0 : Int) &&
                                  (c.c == BitVec.ofInt (64 : Nat) (0 : Int) &&
                                    (c.d == BitVec.ofInt (64 : Nat) (0 : Int) && true)))))
                            (Tr.chk true
                              (Tr.br
                                (v.a == BitVec.ofInt (64 : Nat) (0 : Int) &&
                                  (v.b == BitVec.ofInt (64 : Nat) (0 : Int) &&
                                    (v.c == BitVec.ofInt (64 : Nat) (0 : Int) &&
                                      (v.d == BitVec.ofInt (64 : Nat) (0 : Int) && true))))
                                (Tr.chk true
                                  (Tr.br (v.a == o.a && (v.b == o.b && (v.c == o.c && (v.d == o.d && true))))
                                    (Tr.chk true
                                      (Tr.br
                                        (o.a == BitVec.ofInt (64 : Nat) (0 : Int) &&
                                          (o.b == BitVec.ofInt (64 : Nat) (0 : Int) &&
                                            (o.c == BitVec.ofInt (64 : Nat) (0 : Int) &&
                                              (o.d == BitVec.ofInt (64 : Nat) (0 : Int) && true))))
                                        (Tr.chk true
                                          (Tr.br (v.a == o.a && (v.b == o.b && (v.c == o.c && (v.d == o.d && true))))
                                            (Tr.chk true
                                              (Tr.br
                                                (!(o.a == BitVec.ofInt (64 : Nat) (0 : Int) &&
                                                    (o.b == BitVec.ofInt (64 : Nat) (0 : Int) &&
                                                      (o.c == BitVec.ofInt (64 : Nat) (0 : Int) &&
                                                        (o.d == BitVec.ofInt (64 : Nat) (0 : Int) && true)))))
                                                (Tr.chk true
                                                  (Tr.leaf
                                                    (Fin.ret
                                                        (V.tup
                                                          [V.u64
                                                              (BitVec.ofInt (64 : Nat) (0 : Int) +
                                                                BitVec.ofInt (64 : Nat) (100 : Int)),
                                                            V.int IntKind.i64 (27500 : Int)]),
                                                      [])))
                                                (Tr.chk true
                                                  (Tr.leaf
                                                    (Fin.ret
                                                        (V.tup
                                                          [V.u64
                                                              (BitVec.ofInt (64 : Nat) (0 : Int) +
                                                                BitVec.ofInt (64 : Nat) (100 : Int)),
                                                            V.int IntKind.i64 (24700 : Int)]),
                                                      [])))))
                                            (Tr.chk true
                                              (Tr.leaf
                                                (Fin.ret
                                                    (V.tup
                                                      [V.u64
                                                          (BitVec.ofInt (64 : Nat) (0 : Int) +
                                                            BitVec.ofInt (64 : Nat) (100 : Int)),
                                                        V.int IntKind.i64 (24700 : Int)]),
                                                  [])))))
                                        (Tr.chk true
                                          (Tr.br (v.a == o.a && (v.b == o.b && (v.c == o.c && (v.d == o.d && true))))
                                            (Tr.chk true
                                              (Tr.br
                                                (!(o.a == BitVec.ofInt (64 : Nat) (0 : Int) &&
                                                    (o.b == BitVec.ofInt (64 : Nat) (0 : Int) &&
                                                      (o.c == BitVec.ofInt (64 : Nat) (0 : Int) &&
                                                        (o.d == BitVec.ofInt (64 : Nat) (0 : Int) && true)))))
                                                (Tr.chk true
                                                  (Tr.leaf
                                                    (Fin.ret
                                                        (V.tup
                                                          [V.u64
                                                              (BitVec.ofInt (64 : Nat) (0 : Int) +
                                                                BitVec.ofInt (64 : Nat) (100 : Int)),
                                                            V.int IntKind.i64 (7600 : Int)]),
                                                      [])))
                                                (Tr.chk true
                                                  (Tr.leaf
                                                    (Fin.ret
                                                        (V.tup
                                                          [V.u64
                                                              (BitVec.ofInt (64 : Nat) (0 : Int) +
                                                                BitVec.ofInt (64 : Nat) (100 : Int)),
                                                            V.int IntKind.i64 (4800 : Int)]),
                                                      [])))))
                                            (Tr.chk true
                                              (Tr.leaf
                                                (Fin.ret
                                                    (V.tup
                                                      [V.u64
                                                          (BitVec.ofInt (64 : Nat) (0 : Int) +
                                                            BitVec.ofInt (64 : Nat) (100 : Int)),
                                                        V.int IntKind.i64 (4800 : Int)]),
                                                  [])))))))
                                    (Tr.chk true
                                      (Tr.br (v.a == o.a && (v.b == o.b && (v.c == o.c && (v.d == o.d && true))))
                                        (Tr.chk true
                                          (Tr.br
                                            (!(o.a == BitVec.ofInt (64 : Nat) (0 : Int) &&
                                                (o.b == BitVec.ofInt (64 : Nat) (0 : Int) &&
                                                  (o.c == BitVec.ofInt (64 : Nat) (0 : Int) &&
                                                    (o.d == BitVec.ofInt (64 : Nat) (0 : Int) && true)))))
                                            (Tr.chk true
                                              (Tr.leaf
                                                (Fin.ret
                                                    (V.tup
                                                      [V.u64
                                                          (BitVec.ofInt (64 : Nat) (0 : Int) +
                                                            BitVec.ofInt (64 : Nat) (100 : Int)),
                                                        V.int IntKind.i64 (7600 : Int)]),
                                                  [])))
                                            (Tr.chk true
                                              (Tr.leaf
                                                (Fin.ret
                                                    (V.tup
                                                      [V.u64
                                                          (BitVec.ofInt (64 : Nat) (0 : Int) +
                                                            BitVec.ofInt (64 : Nat) (100 : Int)),
                                                        V.int IntKind.i64 (4800 : Int)]),
                                                  [])))))
                                        (Tr.chk true
                                          (Tr.leaf
                                            (Fin.ret
                                                (V.tup
                                                  [V.u64
                                                      (BitVec.ofInt (64 : Nat) (0 : Int) +
                                                        BitVec.ofInt (64 : Nat) (100 : Int)),
                                                    V.int IntKind.i64 (4800 : Int)]),
                                              [])))))))
                                (Tr.chk true
                                  (Tr.br (v.a == o.a && (v.b == o.b && (v.c == o.c && (v.d == o.d && true))))
                                    (Tr.chk true
                                      (Tr.br
                                        (o.a == BitVec.ofInt (64 : Nat) (0 : Int) &&
                                          (o.b == BitVec.ofInt (64 : Nat) (0 : Int) &&
                                            (o.c == BitVec.ofInt (64 : Nat) (0 : Int) &&
                                              (o.d == BitVec.ofInt (64 : Nat) (0 : Int) && true))))
                                        (Tr.chk true
                                          (Tr.br (v.a == o.a && (v.b == o.b && (v.c == o.c && (v.d == o.d && true))))
                                            (Tr.chk true
                                              (Tr.br
                                                (!(o.a == BitVec.ofInt (64 : Nat) (0 : Int) &&
                                                    (o.b == BitVec.ofInt (64 : Nat) (0 : Int) &&
                                                      (o.c == BitVec.ofInt (64 : Nat) (0 : Int) &&
                                                        (o.d == BitVec.ofInt (64 : Nat) (0 : Int) && true)))))
                                                (Tr.chk true
                                                  (Tr.leaf
                                                    (Fin.ret
                                                        (V.tup
                                                          [V.u64
                                                              (BitVec.ofInt (64 : Nat) (0 : Int) +
                                                                BitVec.ofInt (64 : Nat) (100 : Int)),
                                                            V.int IntKind.i64 (22700 : Int)]),
                                                      [])))
                                                (Tr.chk true
                                                  (Tr.leaf
                                                    (Fin.ret
                                                        (V.tup
                                                          [V.u64
                                                              (BitVec.ofInt (64 : Nat) (0 : Int) +
                                                                BitVec.ofInt (64 : Nat) (100 : Int)),
                                                            V.int IntKind.i64 (19900 : Int)]),
                                                      [])))))
                                            (Tr.chk true
                                              (Tr.leaf
                                                (Fin.ret
                                                    (V.tup
                                                      [V.u64
                                                          (BitVec.ofInt (64 : Nat) (0 : Int) +
                                                            BitVec.ofInt (64 : Nat) (100 : Int)),
                                                        V.int IntKind.i64 (19900 : Int)]),
                                                  [])))))
                                        (Tr.chk true
                                          (Tr.br (v.a == o.a && (v.b == o.b && (v.c == o.c && (v.d == o.d && true))))
                                            (Tr.chk true
                                              (Tr.br
                                                (!(o.a == BitVec.ofInt (64 : Nat) (0 : Int) &&
                                                    (o.b == BitVec.ofInt (64 : Nat) (0 : Int) &&
                                                      (o.c == BitVec.ofInt (64 : Nat) (0 : Int) &&
                                                        (o.d == BitVec.ofInt (64 : Nat) (0 : Int) && true)))))
                                                (Tr.chk true
                                                  (Tr.leaf
                                                    (Fin.ret
                                                        (V.tup
                                                          [V.u64
                                                              (BitVec.ofInt (64 : Nat) (0 : Int) +
                                                                BitVec.ofInt (64 : Nat) (100 : Int)),
                                                            V.int IntKind.i64 (2800 : Int)]),
                                                      [])))
                                                (Tr.chk true
                                                  (Tr.leaf
                                                    (Fin.ret
                                                        (V.tup
                                                          [V.u64
                                                              (BitVec.ofInt (64 : Nat) (0 : Int) +
                                                                BitVec.ofInt (64 : Nat) (100 : Int)),
                                                            V.int IntKind.i64 (0 : Int)]),
                                                      [])))))
                                            (Tr.chk true
                                              (Tr.leaf
                                                (Fin.ret
                                                    (V.tup
                                                      [V.u64
                                                          (BitVec.ofInt (64 : Nat) (0 : Int) +
                                                            BitVec.ofInt (64 : Nat) (100 : Int)),
                                                        V.int IntKind.i64 (0 : Int)]),
                                                  [])))))))
                                    (Tr.chk true
                                      (Tr.br (v.a == o.a && (v.b == o.b && (v.c == o.c && (v.d == o.d && true))))
                                        (Tr.chk true
                                          (Tr.br
                                            (!(o.a == BitVec.ofInt (64 : Nat) (0 : Int) &&
                                                (o.b == BitVec.ofInt (64 : Nat) (0 : Int) &&
                                                  (o.c == BitVec.ofInt (64 : Nat) (0 : Int) &&
                                                    (o.d == BitVec.ofInt (64 : Nat) (0 : Int) && true)))))
                                            (Tr.chk true
                                              (Tr.leaf
                                                (Fin.ret
                                                    (V.tup
                                                      [V.u64
                                                          (BitVec.ofInt (64 : Nat) (0 : Int) +
                                                            BitVec.ofInt (64 : Nat) (100 : Int)),
                                                        V.int IntKind.i64 (2800 : Int)]),
                                                  [])))
                                            (Tr.chk true
                                              (Tr.leaf
                                                (Fin.ret
                                                    (V.tup
                                                      [V.u64
                                                          (BitVec.ofInt (64 : Nat) (0 : Int) +
                                                            BitVec.ofInt (64 : Nat) (100 : Int)),
                                                        V.int IntKind.i64 (0 : Int)]),
                                                  [])))))
                                        (Tr.chk true
                                          (Tr.leaf
                                            (Fin.ret
                                                (V.tup
                                                  [V.u64
                                                      (BitVec.ofInt (64 : Nat) (0 : Int) +
                                                        BitVec.ofInt (64 : Nat) (100 : Int)),
                                                    V.int IntKind.i64 (0 : Int)]),
                                              [])))))))))
                            (Tr.chk true
                              (Tr.br (v.a == o.a && (v.b == o.b && (v.c == o.c && (v.d == o.d && true))))
                                (Tr.chk true
                                  (Tr.br
                                    (o.a == BitVec.ofInt (64 : Nat) (0 : Int) &&
                                      (o.b == BitVec.ofInt (64 : Nat) (0 : Int) &&
                                        (o.c == BitVec.ofInt (64 : Nat) (0 : Int) &&
                                          (o.d == BitVec.ofInt (64 : Nat) (0 : Int) && true))))
                                    (Tr.chk true
                                      (Tr.br (v.a == o.a && (v.b == o.b && (v.c == o.c && (v.d == o.d && true))))
                                        (Tr.chk true
                                          (Tr.br
                                            (!(o.a == BitVec.ofInt (64 : Nat) (0 : Int) &&
                                                (o.b == BitVec.ofInt (64 : Nat) (0 : Int) &&
                                                  (o.c == BitVec.ofInt (64 : Nat) (0 : Int) &&
                                                    (o.d == BitVec.ofInt (64 : Nat) (0 : Int) && true)))))
                                            (Tr.chk true
                                              (Tr.leaf
                                                (Fin.ret
                                                    (V.tup
                                                      [V.u64
                                                          (BitVec.ofInt (64 : Nat) (0 : Int) +
                                                            BitVec.ofInt (64 : Nat) (100 : Int)),
                                                        V.int IntKind.i64 (22700 : Int)]),
                                                  [])))
                                            (Tr.chk true
                                              (Tr.leaf
                                                (Fin.ret
                                                    (V.tup
                                                      [V.u64
                                                          (BitVec.ofInt (64 : Nat) (0 : Int) +
                                                            BitVec.ofInt (64 : Nat) (100 : Int)),
                                                        V.int IntKind.i64 (19900 : Int)]),
                                                  [])))))
                                        (Tr.chk true
                                          (Tr.leaf
                                            (Fin.ret
                                                (V.tup
                                                  [V.u64
                                                      (BitVec.ofInt (64 : Nat) (0 : Int) +
                                                        BitVec.ofInt (64 : Nat) (100 : Int)),
                                                    V.int IntKind.i64 (19900 : Int)]),
                                              [])))))
                                    (Tr.chk true
                                      (Tr.br (v.a == o.a && (v.b == o.b && (v.c == o.c && (v.d == o.d && true))))
                                        (Tr.chk true
                                          (Tr.br
                                            (!(o.a == BitVec.ofInt (64 : Nat) (0 : Int) &&
                                                (o.b == BitVec.ofInt (64 : Nat) (0 : Int) &&
                                                  (o.c == BitVec.ofInt (64 : Nat) (0 : Int) &&
                                                    (o.d == BitVec.ofInt (64 : Nat) (0 : Int) && true)))))
                                            (Tr.chk true
                                              (Tr.leaf
                                                (Fin.ret
                                                    (V.tup
                                                      [V.u64
                                                          (BitVec.ofInt (64 : Nat) (0 : Int) +
                                                            BitVec.ofInt (64 : Nat) (100 : Int)),
                                                        V.int IntKind.i64 (2800 : Int)]),
                                                  [])))
                                            (Tr.chk true
                                              (Tr.leaf
                                                (Fin.ret
                                                    (V.tup
                                                      [V.u64
                                                          (BitVec.ofInt (64 : Nat) (0 : Int) +
                                                            BitVec.ofInt (64 : Nat) (100 : Int)),
                                                        V.int IntKind.i64 (0 : Int)]),
                                                  [])))))
                                        (Tr.chk true
                                          (Tr.leaf
                                            (Fin.ret
                                                (V.tup
                                                  [V.u64
                                                      (BitVec.ofInt (64 : Nat) (0 : Int) +
                                                        BitVec.ofInt (64 : Nat) (100 : Int)),
                                                    V.int IntKind.i64 (0 : Int)]),
                                              [])))))))
                                (Tr.chk true
                                  (Tr.br (v.a == o.a && (v.b == o.b && (v.c == o.c && (v.d == o.d && true))))
                                    (Tr.chk true
                                      (Tr.br
                                        (!(o.a == BitVec.ofInt (64 : Nat) (0 : Int) &&
                                            (o.b == BitVec.ofInt (64 : Nat) (0 : Int) &&
                                              (o.c == BitVec.ofInt (64 : Nat) (0 : Int) &&
                                                (o.d == BitVec.ofInt (64 : Nat) (0 : Int) && true)))))
                                        (Tr.chk true
                                          (Tr.leaf
                                            (Fin.ret
                                                (V.tup
                                                  [V.u64
                                                      (BitVec.ofInt (64 : Nat) (0 : Int) +
                                                        BitVec.ofInt (64 : Nat) (100 : Int)),
                                                    V.int IntKind.i64 (2800 : Int)]),
                                              [])))
                                        (Tr.chk true
                                          (Tr.leaf
                                            (Fin.ret
                                                (V.tup
                                                  [V.u64
                                                      (BitVec.ofInt (64 : Nat) (0 : Int) +
                                                        BitVec.ofInt (64 : Nat) (100 : Int)),
                                                    V.int IntKind.i64 (0 : Int)]),
                                              [])))))
                                    (Tr.chk true
                                      (Tr.leaf
                                        (Fin.ret
                                            (V.tup
                                              [V.u64
                                                  (BitVec.ofInt (64 : Nat) (0 : Int) +
                                                    BitVec.ofInt (64 : Nat) (100 : Int)),
                                                V.int IntKind.i64 (0 : Int)]),
                                          [])))))))))
                        (Tr.chk true
                          (Tr.br (v.a == o.a && (v.b == o.b && (v.c == o.c && (v.d == o.d && true))))
                            (Tr.chk true
                              (Tr.br
                                (o.a == BitVec.ofInt (64 : Nat) (0 : Int) &&
                                  (o.b == BitVec.ofInt (64 : Nat) (0 : Int) &&
                                    (o.c == BitVec.ofInt (64 : Nat) (0 : Int) &&
                                      (o.d == BitVec.ofInt (64 : Nat) (0 : Int) && true))))
                                (Tr.chk true
                                  (Tr.br (v.a == o.a && (v.b == o.b && (v.c == o.c && (v.d == o.d && true))))
                                    (Tr.chk true
                                      (Tr.br
                                        (!(o.a == BitVec.ofInt (64 : Nat) (0 : Int) &&
                                            (o.b == BitVec.ofInt (64 : Nat) (0 : Int) &&
                                              (o.c == BitVec.ofInt (64 : Nat) (0 : Int) &&
                                                (o.d == BitVec.ofInt (64 : Nat) (0 : Int) && true)))))
                                        (Tr.chk true
                                          (Tr.leaf
                                            (Fin.ret
                                                (V.tup
                                                  [V.u64
                                                      (BitVec.ofInt (64 : Nat) (0 : Int) +
                                                        BitVec.ofInt (64 : Nat) (100 : Int)),
                                                    V.int IntKind.i64 (22700 : Int)]),
                                              [])))
                                        (Tr.chk true
                                          (Tr.leaf
                                            (Fin.ret
                                                (V.tup
                                                  [V.u64
                                                      (BitVec.ofInt (64 : Nat) (0 : Int) +
                                                        BitVec.ofInt (64 : Nat) (100 : Int)),
                                                    V.int IntKind.i64 (19900 : Int)]),
                                              [])))))
                                    (Tr.chk true
                                      (Tr.leaf
                                        (Fin.ret
                                            (V.tup
                                              [V.u64
                                                  (BitVec.ofInt (64 : Nat) (0 : Int) +
                                                    BitVec.ofInt (64 : Nat) (100 : Int)),
                                                V.int IntKind.i64 (19900 : Int)]),
                                          [])))))
                                (Tr.chk true
                                  (Tr.br (v.a == o.a && (v.b == o.b && (v.c == o.c && (v.d == o.d && true))))
                                    (Tr.chk true
                                      (Tr.br
                                        (!(o.a == BitVec.ofInt (64 : Nat) (0 : Int) &&
                                            (o.b == BitVec.ofInt (64 : Nat) (0 : Int) &&
                                              (o.c == BitVec.ofInt (64 : Nat) (0 : Int) &&
                                                (o.d == BitVec.ofInt (64 : Nat) (0 : Int) && true)))))
                                        (Tr.chk true
                                          (Tr.leaf
                                            (Fin.ret
                                                (V.tup
                                                  [V.u64
                                                      (BitVec.ofInt (64 : Nat) (0 : Int) +
                                                        BitVec.ofInt (64 : Nat) (100 : Int)),
                                                    V.int IntKind.i64 (2800 : Int)]),
                                              [])))
                                        (Tr.chk true
                                          (Tr.leaf
                                            (Fin.ret
                                                (V.tup
                                                  [V.u64
                                                      (BitVec.ofInt (64 : Nat) (0 : Int) +
                                                        BitVec.ofInt (64 : Nat) (100 : Int)),
                                                    V.int IntKind.i64 (0 : Int)]),
                                              [])))))
                                    (Tr.chk true
                                      (Tr.leaf
                                        (Fin.ret
                                            (V.tup
                                              [V.u64
                                                  (BitVec.ofInt (64 : Nat) (0 : Int) +
                                                    BitVec.ofInt (64 : Nat) (100 : Int)),
                                                V.int IntKind.i64 (0 : Int)]),
                                          [])))))))
                            (Tr.chk true
                              (Tr.br (v.a == o.a && (v.b == o.b && (v.c == o.c && (v.d == o.d && true))))
                                (Tr.chk true
                                  (Tr.br
                                    (!(o.a == BitVec.ofInt (64 : Nat) (0 : Int) &&
                                        (o.b == BitVec.ofInt (64 : Nat) (0 : Int) &&
                                          (o.c == BitVec.ofInt (64 : Nat) (0 : Int) &&
                                            (o.d == BitVec.ofInt (64 : Nat) (0 : Int) && true)))))
                                    (Tr.chk true
                                      (Tr.leaf
                                        (Fin.ret
                                            (V.tup
                                              [V.u64
                                                  (BitVec.ofInt (64 : Nat) (0 : Int) +
                                                    BitVec.ofInt (64 : Nat) (100 : Int)),
                                                V.int IntKind.i64 (2800 : Int)]),
                                          [])))
                                    (Tr.chk true
                                      (Tr.leaf
                                        (Fin.ret
                                            (V.tup
                                              [V.u64
                                                  (BitVec.ofInt (64 : Nat) (0 : Int) +
                                                    BitVec.ofInt (64 : Nat) (100 : Int)),
                                                V.int IntKind.i64 (0 : Int)]),
                                          [])))))
                                (Tr.chk true
                                  (Tr.leaf
                                    (Fin.ret
                                        (V.tup
                                          [V.u64
                                              (BitVec.ofInt (64 : Nat) (0 : Int) + BitVec.ofInt (64 : Nat) (100 : Int)),
                                            V.int IntKind.i64 (0 : Int)]),
                                      [])))))))))))
                (Tr.chk true
                  (Tr.br
                    (!(o.a == BitVec.ofInt (64 : Nat) (0 : Int) &&
                        (o.b == BitVec.ofInt (64 : Nat) (0 : Int) &&
                          (o.c == BitVec.ofInt (64 : Nat) (0 : Int) &&
                            (o.d == BitVec.ofInt (64 : Nat) (0 : Int) && true)))))
                    (Tr.chk true
                      (Tr.br
                        (!(c.a == BitVec.ofInt (64 : Nat) (0 : Int) &&
                            (c.b == BitVec.ofInt (64 : Nat) (0 : Int) &&
                              (c.c == BitVec.ofInt (64 : Nat) (0 : Int) &&
                                (c.d == BitVec.ofInt (64 : Nat) (0 : Int) && true)))))
                        (Tr.chk true
                          (Tr.br
                            (v.a == BitVec.ofInt (64 : Nat) (0 : Int) &&
                              (v.b == BitVec.ofInt (64 : Nat) (0 : Int) &&
                                (v.c == BitVec.ofInt (64 : Nat) (0 : Int) &&
                                  (v.d == BitVec.ofInt (64 : Nat) (0 : Int) && true))))
                            (Tr.chk true
                              (Tr.br (v.a == o.a && (v.b == o.b && (v.c == o.c && (v.d == o.d && true))))
                                (Tr.chk true
                                  (Tr.br
                                    (o.a == BitVec.ofInt (64 : Nat) (0 : Int) &&
                                      (o.b == BitVec.ofInt (64 : Nat) (0 : Int) &&
                                        (o.c == BitVec.ofInt (64 : Nat) (0 : Int) &&
                                          (o.d == BitVec.ofInt (64 : Nat) (0 : Int) && true))))
                                    (Tr.chk true
                                      (Tr.br (v.a == o.a && (v.b == o.b && (v.c == o.c && (v.d == o.d && true))))
                                        (Tr.chk true
                                          (Tr.br
                                            (!(o.a == BitVec.ofInt (64 : Nat) (0 : Int) &&
                                                (o.b == BitVec.ofInt (64 : Nat) (0 : Int) &&
                                                  (o.c == BitVec.ofInt (64 : Nat) (0 : Int) &&
                                                    (o.d == BitVec.ofInt (64 : Nat) (0 : Int) && true)))))
                                            (Tr.chk true
                                              (Tr.leaf
                                                (Fin.ret
                                                    (V.tup
                                                      [V.u64
                                                          (BitVec.ofInt (64 : Nat) (0 : Int) +
                                                            BitVec.ofInt (64 : Nat) (100 : Int)),
                                                        V.int IntKind.i64 (27500 : Int)]),
                                                  [])))
                                            (Tr.chk true
                                              (Tr.leaf
                                                (Fin.ret
                                                    (V.tup
                                                      [V.u64
                                                          (BitVec.ofInt (64 : Nat) (0 : Int) +
                                                            BitVec.ofInt (64 : Nat) (100 : Int)),
                                                        V.int IntKind.i64 (24700 : Int)]),
                                                  [])))))
                                        (Tr.chk true
                                          (Tr.leaf
                                            (Fin.ret
                                                (V.tup
                                                  [V.u64
                                                      (BitVec.ofInt (64 : Nat) (0 : Int) +
                                                        BitVec.ofInt (64 : Nat) (100 : Int)),
                                                    V.int IntKind.i64 (24700 : Int)]),
                                              [])))))
                                    (Tr.chk true
                                      (Tr.br (v.a == o.a && (v.b == o.b && (v.c == o.c && (v.d == o.d && true))))
                                        (Tr.chk true
                                          (Tr.br
                                            (!(o.a == BitVec.ofInt (64 : Nat) (0 : Int) &&
                                                (o.b == BitVec.ofInt (64 : Nat) (0 : Int) &&
                                                  (o.c == BitVec.ofInt (64 : Nat) (0 : Int) &&
                                                    (o.d == BitVec.ofInt (64 : Nat) (0 : Int) && true)))))
                                            (Tr.chk true
                                              (Tr.leaf
                                                (Fin.ret
                                                    (V.tup
                                                      [V.u64
                                                          (BitVec.ofInt (64 : Nat) (0 : Int) +
                                                            BitVec.ofInt (64 : Nat) (100 : Int)),
                                                        V.int IntKind.i64 (7600 : Int)]),
                                                  [])))
                                            (Tr.chk true
                                              (Tr.leaf
                                                (Fin.ret
                                                    (V.tup
                                                      [V.u64
                                                          (BitVec.ofInt (64 : Nat) (0 : Int) +
                                                            BitVec.ofInt (64 : Nat) (100 : Int)),
                                                        V.int IntKind.i64 (4800 : Int)]),
                                                  [])))))
                                        (Tr.chk true
                                          (Tr.leaf
                                            (Fin.ret
                                                (V.tup
                                                  [V.u64
                                                      (BitVec.ofInt (64 : Nat) (0 : Int) +
                                                        BitVec.ofInt (64 : Nat) (100 : Int)),
                                                    V.int IntKind.i64 (4800 : Int)]),
                                              [])))))))
                                (Tr.chk true
                                  (Tr.br (v.a == o.a && (v.b == o.b && (v.c == o.c && (v.d == o.d && true))))
                                    (Tr.chk true
                                      (Tr.br
                                        (!(o.a == BitVec.ofInt (64 : Nat) (0 : Int) &&
                                            (o.b == BitVec.ofInt (64 : Nat) (0 : Int) &&
                                              (o.c == BitVec.ofInt (64 : Nat) (0 : Int) &&
                                                (o.d == BitVec.ofInt (64 : Nat) (0 : Int) && true)))))
                                        (Tr.chk true
                                          (Tr.leaf
                                            (Fin.ret
                                                (V.tup
                                                  [V.u64
                                                      (BitVec.ofInt (64 : Nat) (0 : Int) +
                                                        BitVec.ofInt (64 : Nat) (100 : Int)),
                                                    V.int IntKind.i64 (7600 : Int)]),
                                              [])))
                                        (Tr.chk true
                                          (Tr.leaf
                                            (Fin.ret
                                                (V.tup
                                                  [V.u64
                                                      (BitVec.ofInt (64 : Nat) (0 : Int) +
                                                        BitVec.ofInt (64 : Nat) (100 : Int)),
                                                    V.int IntKind.i64 (4800 : Int)]),
                                              [])))))
                                    (Tr.chk true
                                      (Tr.leaf
                                        (Fin.ret
                                            (V.tup
                                              [V.u64
                                                  (BitVec.ofInt (64 : Nat) (0 : Int) +
                                                    BitVec.ofInt (64 : Nat) (100 : Int)),
                                                V.int IntKind.i64 (4800 : Int)]),
                                          [])))))))
                            (Tr.chk true
                              (Tr.br (v.a == o.a && (v.b == o.b && (v.c == o.c && (v.d == o.d && true))))
                                (Tr.chk true
                                  (Tr.br
                                    (o.a == BitVec.ofInt (64 : Nat) (0 : Int) &&
                                      (o.b == BitVec.ofInt (64 : Nat) (0 : Int) &&
                                        (o.c == BitVec.ofInt (64 : Nat) (0 : Int) &&
                                          (o.d == BitVec.ofInt (64 : Nat) (0 : Int) && true))))
                                    (Tr.chk true
                                      (Tr.br (v.a == o.a && (v.b == o.b && (v.c == o.c && (v.d == o.d && true))))
                                        (Tr.chk true
                                          (Tr.br
                                            (!(o.a == BitVec.ofInt (64 : Nat) (0 : Int) &&
                                                (o.b == BitVec.ofInt (64 : Nat) (0 : Int) &&
                                                  (o.c == BitVec.ofInt (64 : Nat) (0 : Int) &&
                                                    (o.d == BitVec.ofInt (64 : Nat) (0 : Int) && true)))))
                                            (Tr.chk true
                                              (Tr.leaf
                                                (Fin.ret
                                                    (V.tup
                                                      [V.u64
                                                          (BitVec.ofInt (64 : Nat) (0 : Int) +
                                                            BitVec.ofInt (64 : Nat) (100 : Int)),
                                                        V.int IntKind.i64 (22700 : Int)]),
                                                  [])))
                                            (Tr.chk true
                                              (Tr.leaf
                                                (Fin.ret
                                                    (V.tup
                                                      [V.u64
                                                          (BitVec.ofInt (64 : Nat) (0 : Int) +
                                                            BitVec.ofInt (64 : Nat) (100 : Int)),
                                                        V.int IntKind.i64 (19900 : Int)]),
                                                  [])))))
                                        (Tr.chk true
                                          (Tr.leaf
                                            (Fin.ret
                                                (V.tup
                                                  [V.u64
                                                      (BitVec.ofInt (64 : Nat) (0 : Int) +
                                                        BitVec.ofInt (64 : Nat) (100 : Int)),
                                                    V.int IntKind.i64 (19900 : Int)]),
                                              [])))))
                                    (Tr.chk true
                                      (Tr.br (v.a == o.a && (v.b == o.b && (v.c == o.c && (v.d == o.d && true))))
                                        (Tr.chk true
                                          (Tr.br
                                            (!(o.a == BitVec.ofInt (64 : Nat) (0 : Int) &&
                                                (o.b == BitVec.ofInt (64 : Nat) (0 : Int) &&
                                                  (o.c == BitVec.ofInt (64 : Nat) (0 : Int) &&
                                                    (o.d == BitVec.ofInt (64 : Nat) (0 : Int) && true)))))
                                            (Tr.chk true
                                              (Tr.leaf
                                                (Fin.ret
                                                    (V.tup
                                                      [V.u64
                                                          (BitVec.ofInt (64 : Nat) (0 : Int) +
                                                            BitVec.ofInt (64 : Nat) (100 : Int)),
                                                        V.int IntKind.i64 (2800 : Int)]),
                                                  [])))
                                            (Tr.chk true
                                              (Tr.leaf
                                                (Fin.ret
                                                    (V.tup
                                                      [V.u64
                                                          (BitVec.ofInt (64 : Nat) (0 : Int) +
                                                            BitVec.ofInt (64 : Nat) (100 : Int)),
                                                        V.int IntKind.i64 (0 : Int)]),
                                                  [])))))
                                        (Tr.chk true
                                          (Tr.leaf
                                            (Fin.ret
                                                (V.tup
                                                  [V.u64
                                                      (BitVec.ofInt (64 : Nat) (0 : Int) +
                                                        BitVec.ofInt (64 : Nat) (100 : Int)),
                                                    V.int IntKind.i64 (0 : Int)]),
                                              [])))))))
                                (Tr.chk true
                                  (Tr.br (v.a == o.a && (v.b == o.b && (v.c == o.c && (v.d == o.d && true))))
                                    (Tr.chk true
                                      (Tr.br
                                        (!(o.a == BitVec.ofInt (64 : Nat) (0 : Int) &&
                                            (o.b == BitVec.ofInt (64 : Nat) (0 : Int) &&
                                              (o.c == BitVec.ofInt (64 : Nat) (0 : Int) &&
                                                (o.d == BitVec.ofInt (64 : Nat) (0 : Int) && true)))))
                                        (Tr.chk true
                                          (Tr.leaf
                                            (Fin.ret
                                                (V.tup
                                                  [V.u64
                                                      (BitVec.ofInt (64 : Nat) (0 : Int) +
                                                        BitVec.ofInt (64 : Nat) (100 : Int)),
                                                    V.int IntKind.i64 (2800 : Int)]),
                                              [])))
                                        (Tr.chk true
                                          (Tr.leaf
                                            (Fin.ret
                                                (V.tup
                                                  [V.u64
                                                      (BitVec.ofInt (64 : Nat) (0 : Int) +
                                                        BitVec.ofInt (64 : Nat) (100 : Int)),
                                                    V.int IntKind.i64 (0 : Int)]),
                                              [])))))
                                    (Tr.chk true
                                      (Tr.leaf
                                        (Fin.ret
                                            (V.tup
                                              [V.u64
                                                  (BitVec.ofInt (64 : Nat) (0 : Int) +
                                                    BitVec.ofInt (64 : Nat) (100 : Int)),
                                                V.int IntKind.i64 (0 : Int)]),
                                          [])))))))))
                        (Tr.chk true
                          (Tr.br (v.a == o.a && (v.b == o.b && (v.c == o.c && (v.d == o.d && true))))
                            (Tr.chk true
                              (Tr.br
                                (o.a == BitVec.ofInt (64 : Nat) (0 : Int) &&
                                  (o.b == BitVec.ofInt (64 : Nat) (0 : Int) &&
                                    (o.c == BitVec.ofInt (64 : Nat) (0 : Int) &&
                                      (o.d == BitVec.ofInt (64 : Nat) (0 : Int) && true))))
                                (Tr.chk true
                                  (Tr.br (v.a == o.a && (v.b == o.b && (v.c == o.c && (v.d == o.d && true))))
                                    (Tr.chk true
                                      (Tr.br
                                        (!(o.a == BitVec.ofInt (64 : Nat) (0 : Int) &&
                                            (o.b == BitVec.ofInt (64 : Nat) (0 : Int) &&
                                              (o.c == BitVec.ofInt (64 : Nat) (0 : Int) &&
                                                (o.d == BitVec.ofInt (64 : Nat) (0 : Int) && true)))))
                                        (Tr.chk true
                                          (Tr.leaf
                                            (Fin.ret
                                                (V.tup
                                                  [V.u64
                                                      (BitVec.ofInt (64 : Nat) (0 : Int) +
                                                        BitVec.ofInt (64 : Nat) (100 : Int)),
                                                    V.int IntKind.i64 (22700 : Int)]),
                                              [])))
                                        (Tr.chk true
                                          (Tr.leaf
                                            (Fin.ret
                                                (V.tup
                                                  [V.u64
                                                      (BitVec.ofInt (64 : Nat) (0 : Int) +
                                                        BitVec.ofInt (64 : Nat) (100 : Int)),
                                                    V.int IntKind.i64 (19900 : Int)]),
                                              [])))))
                                    (Tr.chk true
                                      (Tr.leaf
                                        (Fin.ret
                                            (V.tup
                                              [V.u64
                                                  (BitVec.ofInt (64 : Nat) (0 : Int) +
                                                    BitVec.ofInt (64 : Nat) (100 : Int)),
                                                V.int IntKind.i64 (19900 : Int)]),
                                          [])))))
                                (Tr.chk true
                                  (Tr.br (v.a == o.a && (v.b == o.b && (v.c == o.c && (v.d == o.d && true))))
                                    (Tr.chk true
                                      (Tr.br
                                        (!(o.a == BitVec.ofInt (64 : Nat) (0 : Int) &&
                                            (o.b == BitVec.ofInt (64 : Nat) (0 : Int) &&
                                              (o.c == BitVec.ofInt (64 : Nat) (0 : Int) &&
                                                (o.d == BitVec.ofInt (64 : Nat) (0 : Int) && true)))))
                                        (Tr.chk true
                                          (Tr.leaf
                                            (Fin.ret
                                                (V.tup
                                                  [V.u64
                                                      (BitVec.ofInt (64 : Nat) (0 : Int) +
                                                        BitVec.ofInt (64 : Nat) (100 : Int)),
                                                    V.int IntKind.i64 (2800 : Int)]),
                                              [])))
                                        (Tr.chk true
                                          (Tr.leaf
                                            (Fin.ret
                                                (V.tup
                                                  [V.u64
                                                      (BitVec.ofInt (64 : Nat) (0 : Int) +
                                                        BitVec.ofInt (64 : Nat) (100 : Int)),
                                                    V.int IntKind.i64 (0 : Int)]),
                                              [])))))
                                    (Tr.chk true
                                      (Tr.leaf
                                        (Fin.ret
                                            (V.tup
                                              [V.u64
                                                  (BitVec.ofInt (64 : Nat) (0 : Int) +
                                                    BitVec.ofInt (64 : Nat) (100 : Int)),
                                                V.int IntKind.i64 (0 : Int)]),
                                          [])))))))
                            (Tr.chk true
                              (Tr.br (v.a == o.a && (v.b == o.b && (v.c == o.c && (v.d == o.d && true))))
                                (Tr.chk true
                                  (Tr.br
                                    (!(o.a == BitVec.ofInt (64 : Nat) (0 : Int) &&
                                        (o.b == BitVec.ofInt (64 : Nat) (0 : Int) &&
                                          (o.c == BitVec.ofInt (64 : Nat) (0 : Int) &&
                                            (o.d == BitVec.ofInt (64 : Nat) (0 : Int) && true)))))
                                    (Tr.chk true
                                      (Tr.leaf
                                        (Fin.ret
                                            (V.tup
                                              [V.u64
                                                  (BitVec.ofInt (64 : Nat) (0 : Int) +
                                                    BitVec.ofInt (64 : Nat) (100 : Int)),
                                                V.int IntKind.i64 (2800 : Int)]),
                                          [])))
                                    (Tr.chk true
                                      (Tr.leaf
                                        (Fin.ret
                                            (V.tup
                                              [V.u64
                                                  (BitVec.ofInt (64 : Nat) (0 : Int) +
                                                    BitVec.ofInt (64 : Nat) (100 : Int)),
                                                V.int IntKind.i64 (0 : Int)]),
                                          [])))))
                                (Tr.chk true
                                  (Tr.leaf
                                    (Fin.ret
                                        (V.tup
                                          [V.u64
                                              (BitVec.ofInt (64 : Nat) (0 : Int) + BitVec.ofInt (64 : Nat) (100 : Int)),
                                            V.int IntKind.i64 (0 : Int)]),
                                      [])))))))))
                    (Tr.chk true
                      (Tr.br (v.a == o.a && (v.b == o.b && (v.c == o.c && (v.d == o.d && true))))
                        (Tr.chk true
                          (Tr.br
                            (o.a == BitVec.ofInt (64 : Nat) (0 : Int) &&
                              (o.b == BitVec.ofInt (64 : Nat) (0 : Int) &&
                                (o.c == BitVec.ofInt (64 : Nat) (0 : Int) &&
                                  (o.d == BitVec.ofInt (64 : Nat) (0 : Int) && true))))
                            (Tr.chk true
                              (Tr.br (v.a == o.a && (v.b == o.b && (v.c == o.c && (v.d == o.d && true))))
                                (Tr.chk true
                                  (Tr.br
                                    (!(o.a == BitVec.ofInt (64 : Nat) (0 : Int) &&
                                        (o.b == BitVec.ofInt (64 : Nat) (0 : Int) &&
                                          (o.c == BitVec.ofInt (64 : Nat) (0 : Int) &&
                                            (o.d == BitVec.ofInt (64 : Nat) (0 : Int) && true)))))
                                    (Tr.chk true
                                      (Tr.leaf
                                        (Fin.ret
                                            (V.tup
                                              [V.u64
                                                  (BitVec.ofInt (64 : Nat) (0 : Int) +
                                                    BitVec.ofInt (64 : Nat) (100 : Int)),
                                                V.int IntKind.i64 (22700 : Int)]),
                                          [])))
                                    (Tr.chk true
                                      (Tr.leaf
                                        (Fin.ret
                                            (V.tup
                                              [V.u64
                                                  (BitVec.ofInt (64 : Nat) (0 : Int) +
                                                    BitVec.ofInt (64 : Nat) (100 : Int)),
                                                V.int IntKind.i64 (19900 : Int)]),
                                          [])))))
                                (Tr.chk true
                                  (Tr.leaf
                                    (Fin.ret
                                        (V.tup
                                          [V.u64
                                              (BitVec.ofInt (64 : Nat) (0 : Int) + BitVec.ofInt (64 : Nat) (100 : Int)),
                                            V.int IntKind.i64 (19900 : Int)]),
                                      [])))))
                            (Tr.chk true
                              (Tr.br (v.a == o.a && (v.b == o.b && (v.c == o.c && (v.d == o.d && true))))
                                (Tr.chk true
                                  (Tr.br
                                    (!(o.a == BitVec.ofInt (64 : Nat) (0 : Int) &&
                                        (o.b == BitVec.ofInt (64 : Nat) (0 : Int) &&
                                          (o.c == BitVec.ofInt (64 : Nat) (0 : Int) &&
                                            (o.d == BitVec.ofInt (64 : Nat) (0 : Int) && true)))))
                                    (Tr.chk true
                                      (Tr.leaf
                                        (Fin.ret
                                            (V.tup
                                              [V.u64
                                                  (BitVec.ofInt (64 : Nat) (0 : Int) +
                                                    BitVec.ofInt (64 : Nat) (100 : Int)),
                                                V.int IntKind.i64 (2800 : Int)]),
                                          [])))
                                    (Tr.chk true
                                      (Tr.leaf
                                        (Fin.ret
                                            (V.tup
                                              [V.u64
                                                  (BitVec.ofInt (64 : Nat) (0 : Int) +
                                                    BitVec.ofInt (64 : Nat) (100 : Int)),
                                                V.int IntKind.i64 (0 : Int)]),
                                          [])))))
                                (Tr.chk true
                                  (Tr.leaf
                                    (Fin.ret
                                        (V.tup
                                          [V.u64
                                              (BitVec.ofInt (64 : Nat) (0 : Int) + BitVec.ofInt (64 : Nat) (100 : Int)),
                                            V.int IntKind.i64 (0 : Int)]),
                                      [])))))))
                        (Tr.chk true
                          (Tr.br (v.a == o.a && (v.b == o.b && (v.c == o.c && (v.d == o.d && true))))
                            (Tr.chk true
                              (Tr.br
                                (!(o.a == BitVec.ofInt (64 : Nat) (0 : Int) &&
                                    (o.b == BitVec.ofInt (64 : Nat) (0 : Int) &&
                                      (o.c == BitVec.ofInt (64 : Nat) (0 : Int) &&
                                        (o.d == BitVec.ofInt (64 : Nat) (0 : Int) && true)))))
                                (Tr.chk true
                                  (Tr.leaf
                                    (Fin.ret
                                        (V.tup
                                          [V.u64
                                              (BitVec.ofInt (64 : Nat) (0 : Int) + BitVec.ofInt (64 : Nat) (100 : Int)),
                                            V.int IntKind.i64 (2800 : Int)]),
                                      [])))
                                (Tr.chk true
                                  (Tr.leaf
                                    (Fin.ret
                                        (V.tup
                                          [V.u64
                                              (BitVec.ofInt (64 : Nat) (0 : Int) + BitVec.ofInt (64 : Nat) (100 : Int)),
                                            V.int IntKind.i64 (0 : Int)]),
                                      [])))))
                            (Tr.chk true
                              (Tr.leaf
                                (Fin.ret
                                    (V.tup
                                      [V.u64 (BitVec.ofInt (64 : Nat) (0 : Int) + BitVec.ofInt (64 : Nat) (100 : Int)),
                                        V.int IntKind.i64 (0 : Int)]),
                                  [])))))))))))))))) := by kernel_rfl
end
end Go.Proofs.Ytajbaocfdlopbaa.K
end
section
open Go Go.Lh
namespace Go.Proofs.Ytajbaocfdlopbaa.K
noncomputable section
set_option maxRecDepth 100000
def inF (x : TX) : Nat → BitVec 64
  | 0 => 0
  | i + 1 => inF x i + (BitVec.ofInt 64 2400 + BitVec.ofInt 64 1900 * BitVec.ofInt 64 (x.ax.m i : Int))
structure IS where
  acc : BitVec 64
  n : Nat
  f : Nat → Nat → V
  k : Int
  cs : List V
def is_S (x : TX) (a : IS) (i : Nat) : Fr × Heap := ([(1,.ptr 0 0),(3,.u64 (a.acc + inF x i)),(11,.isl 2 a.n a.f),(12,.int .i64 a.k),(13,.int .i64 (i : Nat))], [.vals a.cs])
def is_read : Fr → Heap → Option IS := fun f h => match f, h with
  | [(1,.ptr 0 0),(3,.u64 acc),(11,.isl 2 n f),(12,.int .i64 k),(13,.int .i64 0)], [.vals cs] => some ⟨acc, n, f, k, cs⟩
  | _, _ => none
def is_P (x : TX) (a : IS) : Prop := a.n = x.ln ∧ a.f = axF x.ax ∧ a.k = (x.ln : Nat) ∧ a.cs = x.cs ∧ x.ln < 9223372036854775808
def is_ok (x : TX) (a : IS) : Bool := @decide (is_P x a) (Classical.propDecidable _)
theorem is_ok_iff {x : TX} {a : IS} : is_ok x a = true ↔ is_P x a := by simp [is_ok]
def is_E (x : TX) (a : IS) : Tr (X × Fr × Heap) := .leaf (.exit 0, [(1,.ptr 0 0),(3,.u64 (a.acc + inF x x.ln))], [.vals a.cs])
def is_s (x : TX) : SmT := whT 3 [1,3,11,12,13] is_read (is_ok x) (is_E x)
theorem is_at (x : TX) : SmAtT Pr Go.Proofs.Try.f45 0 (is_s x) 0 := by
  refine cntT_at (on := [1,3,11,12,13]) (off := [1,3]) (fuel := 100) (L := noLoopsT) OX0_sound mixed (is_S x) (fun _ => x.ln) (by kernel_rfl) (by kernel_rfl) (by kernel_rfl) LoopsOk.noneT ?_ ?_
  · intro f g a h
    unfold is_read at h
    split at h <;> cases h
    simp [is_S, inF]
  · rintro ⟨acc, n, f, k, cs⟩ q hok hq i hi
    obtain ⟨h1, h2, h3, h4, h5⟩ := is_ok_iff.1 hok
    simp only at h1 h2 h3 h4
    subst h1 h2 h3 h4
    rw [is_E, Tr.is_leaf] at hq
    refine Tr.wp_prune (il_x x (acc + inF x i) i) ?_
    simp only [← BitVec.add_assoc, wp_chk, wp_leaf, wp_br, decide_eq_true_eq, decide_eq_false_iff_not, true_and, Bool.and_true, Bool.and_eq_true]
    refine ⟨fun h => ⟨⟨h, by omega⟩, .inl ⟨by omega, ?_⟩⟩, fun h => .inr ⟨fun e => (by cases e), ?_⟩⟩
    · rw [is_S, show ((i : Int) + 1) = ((i + 1 : Nat) : Int) by omega, wrapI_nat (by omega), inF]; simp only [← BitVec.add_assoc]; rfl
    · have : i = x.ln := by omega
      rw [← hq, this]; rfl
theorem is_Ls (x : TX) : LoopsOk Pr Go.Proofs.Try.f45 0 (smLT 0 [is_s x]).o := LoopsOk.one (by kernel_rfl) (is_at x)
structure RS where
  acc : BitVec 64
  cs : List V
def rs_S (x : TX) (a : RS) (i : Nat) : Fr × Heap := ([(1,.ptr 0 0),(3,.u64 (a.acc + inF x i)),(4,.int .i64 (i : Nat))], [.vals a.cs])
def rs_read : Fr → Heap → Option RS := fun f h => match f, h with
  | [(1,.ptr 0 0),(3,.u64 acc),(4,.int .i64 0)], [.vals cs] => some ⟨acc, cs⟩
  | _, _ => none
def rs_P (x : TX) (a : RS) : Prop := a.cs = x.cs ∧ x.ln < 9223372036854775808
def rs_ok (x : TX) (a : RS) : Bool := @decide (rs_P x a) (Classical.propDecidable _)
theorem rs_ok_iff {x : TX} {a : RS} : rs_ok x a = true ↔ rs_P x a := by simp [rs_ok]
def rs_E (x : TX) (a : RS) : Tr (X × Fr × Heap) := .leaf (.exit 0, [(1,.ptr 0 0),(3,.u64 (a.acc + inF x x.ln))], [.vals a.cs])
def rs_s (x : TX) : SmT := whT 3 [1,3,4] rs_read (rs_ok x) (rs_E x)
theorem rs_at (x : TX) : SmAtT Pr Go.Proofs.Try.f46 0 (rs_s x) 0 := by
  refine cntT_at (on := [1,3,4]) (off := [1,3]) (fuel := 100) (L := noLoopsT) OX0_sound mixed (rs_S x) (fun _ => x.ln) (by kernel_rfl) (by kernel_rfl) (by kernel_rfl) LoopsOk.noneT ?_ ?_
  · intro f g a h
    unfold rs_read at h
    split at h <;> cases h
    simp [rs_S, inF]
  · rintro ⟨acc, cs⟩ q hok hq i hi
    obtain ⟨h4, h5⟩ := rs_ok_iff.1 hok
    simp only at h4
    subst h4
    rw [rs_E, Tr.is_leaf] at hq
    refine Tr.wp_prune (ril_x x (acc + inF x i) i) ?_
    simp only [wp_chk, wp_leaf, wp_br, decide_eq_true_eq, decide_eq_false_iff_not, true_and, Bool.and_true, Bool.and_eq_true]
    refine ⟨fun h => ⟨⟨h, by omega⟩, .inl ⟨by omega, ?_⟩⟩, fun h => .inr ⟨fun e => (by cases e), ?_⟩⟩
    · rw [rs_S, show ((i : Int) + 1) = ((i + 1 : Nat) : Int) by omega, wrapI_nat (by omega), inF]; simp only [← BitVec.add_assoc]; rfl
    · have : i = x.ln := by omega
      rw [← hq, this]; rfl
theorem rs_Ls (x : TX) : LoopsOk Pr Go.Proofs.Try.f46 0 (smLT 0 [rs_s x]).o := LoopsOk.one (by kernel_rfl) (rs_at x)
/-- what the first bytes of a text cost -/
def rdF (s : List (BitVec 8)) : Nat → BitVec 64
  | 0 => 0
  | i + 1 => if s.getD i 0 = 0 then rdF s i + BitVec.ofInt 64 16 - BitVec.ofInt 64 12 else rdF s i + BitVec.ofInt 64 16
structure DS where
  s : List (BitVec 8)
  acc : BitVec 64
def ds_S (a : DS) (i : Nat) : Fr × Heap := ([(0,.str a.s),(3,.u64 (if i = 0 then a.acc else rdF a.s i)),(4,.int .i64 (i : Nat))], [])
def ds_read : Fr → Heap → Option DS := fun f h => match f, h with
  | [(0,.str s),(3,.u64 acc),(4,.int .i64 0)], [] => some ⟨s, acc⟩
  | _, _ => none
def ds_P (a : DS) : Prop := a.acc = 0 ∧ a.s.length < 9223372036854775808
def ds_ok (a : DS) : Bool := @decide (ds_P a) (Classical.propDecidable _)
theorem ds_ok_iff {a : DS} : ds_ok a = true ↔ ds_P a := by simp [ds_ok]
def ds_E (a : DS) : Tr (X × Fr × Heap) := .leaf (.exit 0, [(3,.u64 (rdF a.s a.s.length))], [])
def ds_s : SmT := whT 3 [0,3,4] ds_read ds_ok ds_E
theorem ds_at : SmAtT Pr Go.Proofs.Try.f48 0 ds_s 0 := by
  refine cntT_x OX0_sound mixed ds_S (fun a => a.s.length) (fun a i => dl_x a.s _ i) (by kernel_rfl) (by kernel_rfl) (by kernel_rfl) LoopsOk.noneT ?_ ?_
  · intro f g a h
    unfold ds_read at h
    split at h <;> cases h
    rfl
  · rintro ⟨s, acc⟩ q hok hq i hi
    obtain ⟨h4, h5⟩ := ds_ok_iff.1 hok
    simp only at h4 h5 hi
    subst h4
    rw [ds_E, Tr.is_leaf] at hq
    have e0 : ∀ i, (if i = 0 then (0 : BitVec 64) else rdF s i) = rdF s i := by
      intro i; split
      · rename_i h; subst h; rfl
      · rfl
    simp only [e0, wp_chk, wp_leaf, wp_br, decide_eq_true_eq, decide_eq_false_iff_not, true_and, Bool.and_true, Bool.and_eq_true, beq_iff_eq, beq_eq_false_iff_ne, ne_eq]
    refine ⟨fun h => ⟨by omega, fun h0 => .inl ⟨by omega, ?_⟩, fun h0 => .inl ⟨by omega, ?_⟩⟩, fun h => .inr ⟨fun e => (by cases e), ?_⟩⟩
    · rw [ds_S, show ((i : Int) + 1) = ((i + 1 : Nat) : Int) by omega, wrapI_nat (by omega), e0, rdF, if_pos (show s.getD i 0 = 0 from h0)]
    · rw [ds_S, show ((i : Int) + 1) = ((i + 1 : Nat) : Int) by omega, wrapI_nat (by omega), e0, rdF, if_neg (show ¬ s.getD i 0 = 0 from h0)]
    · have : i = s.length := by omega
      rw [← hq, this]
theorem ds_Ls : LoopsOk Pr Go.Proofs.Try.f48 0 (smLT 0 [ds_s]).o := LoopsOk.one (by kernel_rfl) ds_at
end
end Go.Proofs.Ytajbaocfdlopbaa.K
end
section
open Go Go.Lh
namespace Go.Proofs.Ytajbaocfdlopbaa.K
noncomputable section
set_option maxRecDepth 100000
theorem rdat_x (s : List (BitVec 8)) : Tr.prune (Tr.Sh.any)
  (execBF Pr OX0 (smLT (0 : Nat) [ds_s]) (100 : Nat) Go.Proofs.Try.f48 [V.str s] []) =
  Tr.chk (ds_ok (DS.mk s (BitVec.ofInt (64 : Nat) (0 : Int))) && true && true)
  (Tr.leaf (Fin.ret (V.u64 (rdF s s.length)), [])) := by kernel_rfl
def readS1 : List V → Heap → Option (List (BitVec 8)) := fun args h => match args, h with
  | [.str s], [] => some s
  | _, _ => none
theorem zero8 : (bytesOf (ByteArray.mk #[OfNat.ofNat (0 : Nat)])).getD (0 : Nat) (0 : BitVec 8) = 0 := rfl
theorem count_take (s : List (BitVec 8)) : ∀ i, i ≤ s.length → rdF s i = BitVec.ofNat 64 (16 * i) - BitVec.ofNat 64 (12 * List.count 0 (s.take i))
  | 0, _ => by simp [rdF]
  | i + 1, h => by
    have ih := count_take s i (by omega)
    have hg : s.getD i 0 = s[i]'(by omega) := by rw [List.getD_eq_getElem?_getD, List.getElem?_eq_getElem (by omega)]; rfl
    have ht : s.take (i + 1) = s.take i ++ [s.getD i 0] := by rw [List.take_add_one, List.getElem?_eq_getElem (by omega), hg]; rfl
    rw [rdF, ih, ht, List.count_append]
    have e16 : BitVec.ofNat 64 (16 * (i + 1)) = BitVec.ofNat 64 (16 * i) + BitVec.ofNat 64 16 := by rw [← BitVec.ofNat_add]; congr 1
    split
    · rename_i h0
      rw [h0]
      have e12 : BitVec.ofNat 64 (12 * (List.count 0 (s.take i) + List.count (0 : BitVec 8) [0])) = BitVec.ofNat 64 (12 * List.count 0 (s.take i)) + BitVec.ofNat 64 12 := by
        rw [← BitVec.ofNat_add]; rfl
      rw [e16, e12]
      show _ + BitVec.ofNat 64 16 - BitVec.ofNat 64 12 = _
      generalize BitVec.ofNat 64 (16 * i) = A
      generalize BitVec.ofNat 64 (12 * List.count 0 (s.take i)) = B
      rw [BitVec.sub_eq_add_neg, BitVec.sub_eq_add_neg, BitVec.sub_eq_add_neg, BitVec.neg_add, BitVec.sub_eq_add_neg]
      ac_rfl
    · rename_i h0
      have e0 : List.count (0 : BitVec 8) [s.getD i 0] = 0 := by rw [List.count_singleton, if_neg (by rw [beq_iff_eq]; exact h0)]
      rw [e0, Nat.add_zero, e16]
      show _ + BitVec.ofNat 64 16 = _
      rw [BitVec.sub_eq_add_neg, BitVec.sub_eq_add_neg]
      ac_rfl
theorem wrap_bmod (z : Int) : wrapI .i64 z = Int.bmod z (2 ^ 64) := by
  simp only [wrapI, IntKind.wrap]
  simp [IntKind.signed, IntKind.bits, Int.bmod]
  omega
theorem rdF_dC (s : List (BitVec 8)) : rdF s s.length = dC s := by
  rw [count_take s _ (Nat.le_refl _), List.take_length, dC, zC, zero8, wrap_bmod, wrap_bmod, wrap_bmod]
  apply BitVec.eq_of_toInt_eq
  rw [← BitVec.ofInt_natCast, ← BitVec.ofInt_natCast, BitVec.toInt_sub, BitVec.toInt_ofInt, BitVec.toInt_ofInt, BitVec.toInt_ofInt]
  simp only [Int.natCast_mul]
  simp [Int.bmod]
  omega
theorem rdata_fn (s : List (BitVec 8)) (hs : s.length < 9223372036854775808) : LFn Pr 48 [.str s] [] (.ret (.u64 (dC s))) [] := by
  refine fnT OX0_sound mixed (by kernel_rfl) ds_Ls (rdat_x s) (tr1 ?_ ?_)
  · rw [Bool.and_true, Bool.and_true]
    exact ds_ok_iff.2 ⟨rfl, hs⟩
  · rw [rdF_dC]
def shortS (s : List (BitVec 8)) : Bool := @decide (s.length < 9223372036854775808) (Classical.propDecidable _)
theorem shortS_iff {s : List (BitVec 8)} : shortS s = true ↔ s.length < 9223372036854775808 := by simp [shortS]
def rdata_g : List V → Heap → Tr (Fin × Heap) := ctT readS1 (fun s => .chk (shortS s) (.leaf (.ret (.u64 (dC s)), [])))
theorem rdata_ok : ∀ args h r, (rdata_g args h).is r → LFn Pr 48 args h r.1 r.2 := by
  refine ctT_ok (fun s => [.str s]) (fun _ => []) ?_ (fun a r h => ?_)
  · intro args h a e
    unfold readS1 at e
    split at e <;> cases e
    exact ⟨rfl, rfl⟩
  · rw [Tr.is_chk, Tr.is_leaf] at h
    obtain ⟨h1, rfl⟩ := h
    exact rdata_fn a (shortS_iff.1 h1)
theorem rdata_en : Enters Pr 48 := Enters.of (fn := Go.Proofs.Try.f48) (by kernel_rfl) (by kernel_rfl)
theorem data_en : Enters Pr 47 := Enters.of (fn := Go.Proofs.Try.f47) (by kernel_rfl) (by kernel_rfl)
def stB (cold b1 b2 b3 b4 b5 b6 : Bool) : BitVec 64 × Int :=
  let b : BitVec 64 := bif cold then 2100#64 else 0#64
  bif b1 then (b + 100#64, 0)
  else bif b2 then (bif b3 then (b + 20000#64, 0) else (b + 2900#64, bif b4 then 4800 else 0))
  else (b + 100#64, (bif !b3 && b5 then -4800 else 0) + (bif !b3 && (!b5 && b4) then 4800 else 0) + (bif b6 && b3 then 19900 else 0) + (bif b6 && !b3 then 2800 else 0))
theorem stB_eq (o c v : W4) (cold : Bool) : stC o c v cold = stB cold (decide (v.n = c.n)) (decide (c.n = o.n)) (decide (o.n = 0)) (decide (v.n = 0)) (decide (c.n = 0)) (decide (v.n = o.n)) := by
  have z : ∀ x : W4, (x.n = 0) = (x = W4.zero) := fun x => propext (W4.inj_n (y := W4.zero))
  have i : ∀ x y : W4, (x.n = y.n) = (x = y) := fun x y => propext W4.inj_n
  simp only [z, i]
  unfold stC stB
  simp only [← decide_not, ← Bool.decide_and, Bool.cond_decide]
  cases cold <;> rfl
theorem rstore_fn (o c v : W4) (cold : Bool) : LFn Pr 44 [o.v, c.v, v.v, .bool cold] [] (.ret (.tup [.u64 (stC o c v cold).1, .int .i64 (stC o c v cold).2])) [] := by
  refine fnT OX0_sound mixed (by kernel_rfl) LoopsOk.noneT (rst_x o c v cold) ?_
  rw [stB_eq]
  have b0 : BitVec.ofInt 64 0 = 0#64 := rfl
  simp only [b0, W4.eqT', W4.zeroT', W4.eqT, W4.zeroT]
  generalize decide (v.n = c.n) = b1
  generalize decide (c.n = o.n) = b2
  generalize decide (o.n = 0) = b3
  generalize decide (v.n = 0) = b4
  generalize decide (c.n = 0) = b5
  generalize decide (v.n = o.n) = b6
  clear b0
  refine Tr.wp_of_is (a := _) ?_ rfl
  unfold Tr.is
  cases cold <;> cases b1 <;> cases b2 <;> cases b3 <;> cases b4 <;> cases b5 <;> cases b6 <;> rfl
def KX1 : KnownT := (48, rdata_g) :: (47, old data_g) :: []
theorem KX1_ok : KOkT Pr KX1 := KOkT.cons rdata_en rdata_ok (KOkT.cons data_en (old_ok data_ok) KOkT.nil)
def OX1 : OrcT := autoT Pr ext KX1 [58, 88, 49, 112, 90, 121] 4
theorem OX1_sound : OrcSound Pr OX1.o := autoT_sound mixed ext_ok KX1_ok (by kernel_rfl) 4
theorem int_x (x : TX) : Tr.prune (Tr.Sh.any.both Tr.Sh.any)
  (execBF Pr OX1 (smLT (0 : Nat) [is_s x]) (100 : Nat) Go.Proofs.Try.f45 [V.agg x.cs] []) =
  Tr.chk
  (is_ok x
      (IS.mk (BitVec.ofInt (64 : Nat) (21000 : Int) + dC x.d) x.ln (axF x.ax) (↑x.ln : Int)
        [V.int IntKind.i64 x.k, V.str x.s1, V.str x.s2, V.u64 x.n, V.u64 x.g, V.u64 x.p.a, V.u64 x.p.b, V.u64 x.p.c,
          V.u64 x.p.d, V.u64 x.t.a, V.u64 x.t.b, V.u64 x.t.c, V.u64 x.t.d, V.u64 x.v.a, V.u64 x.v.b, V.u64 x.v.c,
          V.u64 x.v.d, V.str x.d, V.isl (2 : Nat) x.ln (axF x.ax)]) &&
    true)
  (Tr.br (x.s2 == bytesOf (ByteArray.mk #[]))
    (Tr.chk true
      (Tr.leaf
        (Fin.ret
            (V.u64
              (BitVec.ofInt (64 : Nat) (21000 : Int) + dC x.d + inF x x.ln +
                (BitVec.ofInt (64 : Nat) (32000 : Int) +
                  BitVec.ofInt (64 : Nat) (2 : Int) *
                    (((if BitVec.ofInt (64 : Nat) (4294967296 : Int) < BitVec.ofInt (64 : Nat) (↑x.d.length : Int) then
                          BitVec.ofInt (64 : Nat) (4294967296 : Int)
                        else BitVec.ofInt (64 : Nat) (↑x.d.length : Int)) +
                        BitVec.ofInt (64 : Nat) (31 : Int)) /
                      BitVec.ofInt (64 : Nat) (32 : Int))))),
          [])))
    (Tr.chk true
      (Tr.leaf (Fin.ret (V.u64 (BitVec.ofInt (64 : Nat) (21000 : Int) + dC x.d + inF x x.ln)), [])))) := by kernel_rfl
theorem rint_x (x : TX) : Tr.prune (Tr.Sh.any.both Tr.Sh.any)
  (execBF Pr OX1 (smLT (0 : Nat) [rs_s x]) (100 : Nat) Go.Proofs.Try.f46 [V.agg x.cs] []) =
  Tr.chk
  (shortS x.d && true &&
    (rs_ok x
        (RS.mk (BitVec.ofInt (64 : Nat) (21000 : Int) + dC x.d)
          [V.int IntKind.i64 x.k, V.str x.s1, V.str x.s2, V.u64 x.n, V.u64 x.g, V.u64 x.p.a, V.u64 x.p.b, V.u64 x.p.c,
            V.u64 x.p.d, V.u64 x.t.a, V.u64 x.t.b, V.u64 x.t.c, V.u64 x.t.d, V.u64 x.v.a, V.u64 x.v.b, V.u64 x.v.c,
            V.u64 x.v.d, V.str x.d, V.isl (2 : Nat) x.ln (axF x.ax)]) &&
      true))
  (Tr.br (x.s2 == bytesOf (ByteArray.mk #[]))
    (Tr.chk true
      (Tr.leaf
        (Fin.ret
            (V.u64
              (BitVec.ofInt (64 : Nat) (21000 : Int) + dC x.d + inF x x.ln + BitVec.ofInt (64 : Nat) (32000 : Int) +
                BitVec.ofInt (64 : Nat) (2 : Int) *
                  (((if BitVec.ofInt (64 : Nat) (4294967296 : Int) < BitVec.ofInt (64 : Nat) (↑x.d.length : Int) then
                        BitVec.ofInt (64 : Nat) (4294967296 : Int)
                      else BitVec.ofInt (64 : Nat) (↑x.d.length : Int)) +
                      BitVec.ofInt (64 : Nat) (31 : Int)) /
                    BitVec.ofInt (64 : Nat) (32 : Int)))),
          [])))
    (Tr.chk true
      (Tr.leaf (Fin.ret (V.u64 (BitVec.ofInt (64 : Nat) (21000 : Int) + dC x.d + inF x x.ln)), [])))) := by kernel_rfl
/-- what a transaction costs at any rate -/
def intC (x : TX) : BitVec 64 := BitVec.ofInt 64 21000 + dC x.d + inF x x.ln + (bif x.s2 == bytesOf (ByteArray.mk #[]) then (BitVec.ofInt 64 32000 + BitVec.ofInt 64 2 * (((if BitVec.ofInt 64 4294967296 < BitVec.ofInt 64 (x.d.length : Int) then BitVec.ofInt 64 4294967296 else BitVec.ofInt 64 (x.d.length : Int)) + BitVec.ofInt 64 31) / BitVec.ofInt 64 32)) else 0#64)
theorem int_fn (x : TX) (hl : x.ln < 9223372036854775808) : LFn Pr 45 [.agg x.cs] [] (.ret (.u64 (intC x))) [] := by
  refine fnT OX1_sound mixed (by kernel_rfl) (is_Ls x) (int_x x) ?_
  unfold intC
  refine wp_chk.2 ⟨by rw [Bool.and_true]; exact is_ok_iff.2 ⟨rfl, rfl, rfl, rfl, hl⟩, wp_br.2 ⟨fun h => ?_, fun h => ?_⟩⟩
  · rw [h]; exact tr1 rfl rfl
  · rw [h]; exact tr1 rfl (by simp only [cond_false]; rw [BitVec.add_zero])
theorem rint_fn (x : TX) (hl : x.ln < 9223372036854775808) (hd : x.d.length < 9223372036854775808) : LFn Pr 46 [.agg x.cs] [] (.ret (.u64 (intC x))) [] := by
  refine fnT OX1_sound mixed (by kernel_rfl) (rs_Ls x) (rint_x x) ?_
  unfold intC
  refine wp_chk.2 ⟨by rw [shortS_iff.2 hd, Bool.and_true, Bool.and_true, Bool.true_and]; exact rs_ok_iff.2 ⟨rfl, hl⟩, wp_br.2 ⟨fun h => ?_, fun h => ?_⟩⟩
  · rw [h]; exact tr1 rfl (by simp only [cond_true, BitVec.add_assoc])
  · rw [h]; exact tr1 rfl (by simp only [cond_false]; rw [BitVec.add_zero])
end
end Go.Proofs.Ytajbaocfdlopbaa.K
end
