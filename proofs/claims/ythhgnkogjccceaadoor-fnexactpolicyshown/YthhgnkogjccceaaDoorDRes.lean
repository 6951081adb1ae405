/-
  What each function comes to, step by step, over what the others answer.
-/
import Derived.Test.YthhgnkogjccceaaDoorDCfg
namespace Go.Proofs.YthhgnkogjccceaaDoor
open Go.Vm
set_option linter.unusedVariables false

theorem laws_szNote_res (n : Nat) (a0 : Note) (a1 : Int) : resid Tryd.prog cfg RN n 7 [.ag (Note.cells a0), .int a1] [] = (br (decide (IntKind.i64.wrap (a1 - (↑a0.domain.size : Int)) < 0))
  (some (V.c (C.f (F.sc (Value.int IntKind.i64 (-1)))), [], []))
  (some (V.c (C.f (F.sc (Value.int IntKind.i64 (IntKind.i64.wrap (a1 - (↑a0.domain.size : Int)))))), [], [])) : Option (V × List Vm.Obj × List Vm.Obj)) := by kernel_rfl

theorem laws_toNote_res (n : Nat) (a0 : Note) : resid Tryd.prog cfg RN n 9 [.ag (Note.cells a0)] [] = (some
  (V.agg
      [C.f (F.sc (Value.int IntKind.i64 a0.kind)), C.f (F.sc (Value.int IntKind.i64 a0.who)),
        C.f (F.sc (Value.string a0.domain)), C.f (F.sc (Value.int IntKind.i64 a0.body)),
        C.f (F.sc (Value.int IntKind.i64 a0.time))],
    [], []) : Option (V × List Vm.Obj × List Vm.Obj)) := by kernel_rfl

theorem laws_szPolicy_res (n : Nat) (a0 : Policy) (a1 : Int) : resid Tryd.prog cfg RN n 11 [.ag (Policy.cells a0), .int a1] [] = (br (decide (IntKind.i64.wrap (a1 - (↑a0.domain.size : Int)) < 0))
  (some (V.c (C.f (F.sc (Value.int IntKind.i64 (-1)))), [], []))
  (qb
    (pres RN 29
      [V.c (C.f (F.sl false Kind.str a0.mx)),
        V.c (C.f (F.sc (Value.int IntKind.i64 (IntKind.i64.wrap (a1 - (↑a0.domain.size : Int))))))])
    fun v =>
    qb (qb (unC v) fun y => fInt y) fun n =>
      br (decide (n < 0)) (some (V.c (C.f (F.sc (Value.int IntKind.i64 (-1)))), [], []))
        (some (V.c (C.f (F.sc (Value.int IntKind.i64 n))), [], []))) : Option (V × List Vm.Obj × List Vm.Obj)) := by kernel_rfl

theorem laws_toPolicy_res (n : Nat) (a0 : Policy) : resid Tryd.prog cfg RN n 13 [.ag (Policy.cells a0)] [] = (qb (pres RN 31 [V.c (C.f (F.sl false Kind.str a0.mx))]) fun v =>
  qb (qb (unC v) fun y => fSl Kind.str y) fun l =>
    some
      (V.agg
          [C.f (F.sc (Value.string a0.domain)), C.f (F.sc (Value.int IntKind.i64 a0.mode)), C.f (F.sl false Kind.str l),
            C.f (F.sc (Value.int IntKind.i64 a0.til))],
        [], []) : Option (V × List Vm.Obj × List Vm.Obj)) := by kernel_rfl

theorem laws_eqPolicy_res (n : Nat) (a0 : Policy) (a1 : Policy) : resid Tryd.prog cfg RN n 15 [.ag (Policy.cells a0), .ag (Policy.cells a1)] [] = (br (!a0.domain.toList == a1.domain.toList) (some (V.c (C.f (F.sc (Value.bool false))), [], []))
  (br (a0.mode != a1.mode) (some (V.c (C.f (F.sc (Value.bool false))), [], []))
    (qb (pres RN 34 [V.c (C.f (F.sl false Kind.str a0.mx)), V.c (C.f (F.sl false Kind.str a1.mx))]) fun v =>
      qb (qb (unC v) fun y => fBool y) fun b =>
        br (!b) (some (V.c (C.f (F.sc (Value.bool false))), [], []))
          (br (a0.til != a1.til) (some (V.c (C.f (F.sc (Value.bool false))), [], []))
            (some (V.c (C.f (F.sc (Value.bool true))), [], []))))) : Option (V × List Vm.Obj × List Vm.Obj)) := by kernel_rfl

theorem laws_szLetter_res (n : Nat) (a0 : Letter) (a1 : Int) : resid Tryd.prog cfg RN n 16 [.ag (Letter.cells a0), .int a1] [] = (br (decide (IntKind.i64.wrap (a1 - (↑a0.domain.size : Int)) < 0))
  (some (V.c (C.f (F.sc (Value.int IntKind.i64 (-1)))), [], []))
  (some (V.c (C.f (F.sc (Value.int IntKind.i64 (IntKind.i64.wrap (a1 - (↑a0.domain.size : Int)))))), [], [])) : Option (V × List Vm.Obj × List Vm.Obj)) := by kernel_rfl

theorem laws_toLetter_res (n : Nat) (a0 : Letter) : resid Tryd.prog cfg RN n 18 [.ag (Letter.cells a0)] [] = (some
  (V.agg
      [C.f (F.sc (Value.string a0.domain)), C.f (F.sc (Value.int IntKind.i64 a0.body)),
        C.f (F.sc (Value.int IntKind.i64 a0.state)), C.f (F.sc (Value.int IntKind.i64 a0.tries)),
        C.f (F.sc (Value.int IntKind.i64 a0.next))],
    [], []) : Option (V × List Vm.Obj × List Vm.Obj)) := by kernel_rfl

theorem laws_szServer_res (n : Nat) (a0 : Server) (a1 : Int) : resid Tryd.prog cfg RN n 20 [.ag (Server.cells a0), .int a1] [] = (br (decide (IntKind.i64.wrap (a1 - (↑a0.host.size : Int)) < 0))
  (some (V.c (C.f (F.sc (Value.int IntKind.i64 (-1)))), [], []))
  (qb
    (pres RN 38
      [V.agg
          [C.f (F.sc (Value.int IntKind.i64 a0.cert.op)), C.f (F.sc (Value.int IntKind.i64 a0.cert.n)),
            C.f (F.sc (Value.string a0.cert.s)), C.f (F.sl false Kind.term a0.cert.kids)],
        V.c (C.f (F.sc (Value.int IntKind.i64 (IntKind.i64.wrap (a1 - (↑a0.host.size : Int))))))])
    fun v =>
    qb (qb (unC v) fun y => fInt y) fun n =>
      br (decide (n < 0)) (some (V.c (C.f (F.sc (Value.int IntKind.i64 (-1)))), [], []))
        (qb
          (pres RN 38
            [V.agg
                [C.f (F.sc (Value.int IntKind.i64 a0.share.op)), C.f (F.sc (Value.int IntKind.i64 a0.share.n)),
                  C.f (F.sc (Value.string a0.share.s)), C.f (F.sl false Kind.term a0.share.kids)],
              V.c (C.f (F.sc (Value.int IntKind.i64 n)))])
          fun v =>
          qb (qb (unC v) fun y => fInt y) fun n =>
            br (decide (n < 0)) (some (V.c (C.f (F.sc (Value.int IntKind.i64 (-1)))), [], []))
              (qb (pres RN 39 [V.c (C.f (F.sl false Kind.int a0.got)), V.c (C.f (F.sc (Value.int IntKind.i64 n)))])
                fun v =>
                qb (qb (unC v) fun y => fInt y) fun n =>
                  br (decide (n < 0)) (some (V.c (C.f (F.sc (Value.int IntKind.i64 (-1)))), [], []))
                    (some (V.c (C.f (F.sc (Value.int IntKind.i64 n))), [], []))))) : Option (V × List Vm.Obj × List Vm.Obj)) := by kernel_rfl

theorem laws_toServer_res (n : Nat) (a0 : Server) : resid Tryd.prog cfg RN n 22 [.ag (Server.cells a0)] [] = (qb
  (pres RN 40
    [V.agg
        [C.f (F.sc (Value.int IntKind.i64 a0.cert.op)), C.f (F.sc (Value.int IntKind.i64 a0.cert.n)),
          C.f (F.sc (Value.string a0.cert.s)), C.f (F.sl false Kind.term a0.cert.kids)]])
  fun v =>
  qb (asEl Kind.term v) fun x =>
    qb
      (pres RN 40
        [V.agg
            [C.f (F.sc (Value.int IntKind.i64 a0.share.op)), C.f (F.sc (Value.int IntKind.i64 a0.share.n)),
              C.f (F.sc (Value.string a0.share.s)), C.f (F.sl false Kind.term a0.share.kids)]])
      fun v =>
      qb (asEl Kind.term v) fun x_1 =>
        qb (pres RN 41 [V.c (C.f (F.sl false Kind.int a0.got))]) fun v =>
          qb (qb (unC v) fun y => fSl Kind.int y) fun l =>
            some
              (V.agg
                  [C.f (F.sc (Value.int IntKind.i64 a0.step)), C.f (F.sc (Value.string a0.host)),
                    C.f (F.sc (Value.int IntKind.i64 a0.key)), C.f (F.sc (Value.int IntKind.i64 a0.eph)),
                    C.f (F.sc (Value.int IntKind.i64 x.op)), C.f (F.sc (Value.int IntKind.i64 x.n)),
                    C.f (F.sc (Value.string x.s)), C.f (F.sl false Kind.term x.kids),
                    C.f (F.sc (Value.int IntKind.i64 x_1.op)), C.f (F.sc (Value.int IntKind.i64 x_1.n)),
                    C.f (F.sc (Value.string x_1.s)), C.f (F.sl false Kind.term x_1.kids),
                    C.f (F.sc (Value.int IntKind.i64 a0.inn)), C.f (F.sc (Value.int IntKind.i64 a0.out)),
                    C.f (F.sc (Value.bool a0.tls)), C.f (F.sl false Kind.int l)],
                [], []) : Option (V × List Vm.Obj × List Vm.Obj)) := by kernel_rfl

theorem laws_eqServer_res (n : Nat) (a0 : Server) (a1 : Server) : resid Tryd.prog cfg RN n 24 [.ag (Server.cells a0), .ag (Server.cells a1)] [] = (br (a0.step != a1.step) (some (V.c (C.f (F.sc (Value.bool false))), [], []))
  (br (!a0.host.toList == a1.host.toList) (some (V.c (C.f (F.sc (Value.bool false))), [], []))
    (br (a0.key != a1.key) (some (V.c (C.f (F.sc (Value.bool false))), [], []))
      (br (a0.eph != a1.eph) (some (V.c (C.f (F.sc (Value.bool false))), [], []))
        (qb
          (pres RN 42
            [V.agg
                [C.f (F.sc (Value.int IntKind.i64 a0.cert.op)), C.f (F.sc (Value.int IntKind.i64 a0.cert.n)),
                  C.f (F.sc (Value.string a0.cert.s)), C.f (F.sl false Kind.term a0.cert.kids)],
              V.agg
                [C.f (F.sc (Value.int IntKind.i64 a1.cert.op)), C.f (F.sc (Value.int IntKind.i64 a1.cert.n)),
                  C.f (F.sc (Value.string a1.cert.s)), C.f (F.sl false Kind.term a1.cert.kids)]])
          fun v =>
          qb (qb (unC v) fun y => fBool y) fun b =>
            br (!b) (some (V.c (C.f (F.sc (Value.bool false))), [], []))
              (qb
                (pres RN 42
                  [V.agg
                      [C.f (F.sc (Value.int IntKind.i64 a0.share.op)), C.f (F.sc (Value.int IntKind.i64 a0.share.n)),
                        C.f (F.sc (Value.string a0.share.s)), C.f (F.sl false Kind.term a0.share.kids)],
                    V.agg
                      [C.f (F.sc (Value.int IntKind.i64 a1.share.op)), C.f (F.sc (Value.int IntKind.i64 a1.share.n)),
                        C.f (F.sc (Value.string a1.share.s)), C.f (F.sl false Kind.term a1.share.kids)]])
                fun v =>
                qb (qb (unC v) fun y => fBool y) fun b =>
                  br (!b) (some (V.c (C.f (F.sc (Value.bool false))), [], []))
                    (br (a0.inn != a1.inn) (some (V.c (C.f (F.sc (Value.bool false))), [], []))
                      (br (a0.out != a1.out) (some (V.c (C.f (F.sc (Value.bool false))), [], []))
                        (br (!a0.tls == a1.tls) (some (V.c (C.f (F.sc (Value.bool false))), [], []))
                          (qb
                            (pres RN 43 [V.c (C.f (F.sl false Kind.int a0.got)), V.c (C.f (F.sl false Kind.int a1.got))])
                            fun v =>
                            qb (qb (unC v) fun y => fBool y) fun b =>
                              br (!b) (some (V.c (C.f (F.sc (Value.bool false))), [], []))
                                (some (V.c (C.f (F.sc (Value.bool true))), [], []))))))))))) : Option (V × List Vm.Obj × List Vm.Obj)) := by kernel_rfl

theorem laws_szStringS_res (n : Nat) (t0 : Bool) (a0 : List ByteArray) (a1 : Int) : resid Tryd.prog cfg RN n 29 [.sl t0 .str a0, .int a1] [] = (br (decide (IntKind.i64.wrap (a1 - (↑a0.length : Int)) < 0))
  (some (V.c (C.f (F.sc (Value.int IntKind.i64 (-1)))), [], []))
  (qb
    (lp Tryd.prog cfg RN n 5 29 5 0 n
      (St.mk
        (frOf
          [(0, V.c (C.f (F.sl t0 Kind.str a0))),
            (1, V.c (C.f (F.sc (Value.int IntKind.i64 (IntKind.i64.wrap (a1 - (↑a0.length : Int))))))),
            (4, V.c (C.f (F.sc (Value.int IntKind.i64 0)))), (5, V.c (C.f (F.sc (Value.int IntKind.i64 0))))])
        (hpIds [])))
    fun r =>
    qb (qb (unC (r.snd.fr (1, Sh.int).fst)) fun y => fInt y) fun n =>
      qb (qb (unC (r.snd.fr (4, Sh.int).fst)) fun y => fInt y) fun n_1 =>
        br (isRetE r.fst) (some (V.c (C.f (F.sc (Value.int IntKind.i64 n_1))), [], []))
          (br (isExt 0 r.fst) (some (V.c (C.f (F.sc (Value.int IntKind.i64 n))), [], [])) none)) : Option (V × List Vm.Obj × List Vm.Obj)) := by kernel_rfl

theorem laws_toStringS_res (n : Nat) (t0 : Bool) (a0 : List ByteArray) : resid Tryd.prog cfg RN n 31 [.sl t0 .str a0] [] = (br
  (decide ((↑a0.length : Int) = (↑a0.length : Int)) && decide (0 ≤ (↑a0.length : Int)) &&
    (↑a0.length : Int).toNat.ble appMax)
  (qb
    (lp Tryd.prog cfg RN n 5 31 3 0 n
      (St.mk
        (frOf
          [(0, V.c (C.f (F.sl t0 Kind.str a0))), (3, V.c (C.row (Id.own 3) Kind.str)),
            (4, V.c (C.f (F.sc (Value.int IntKind.i64 0))))])
        (hpIds [(Id.own 3, Obj.row true Kind.str (List.replicate (↑a0.length : Int).toNat (zeroEl Kind.str)))])))
    fun r =>
    qb (qb (unC (r.snd.fr (3, Sh.row (Id.own 3) Kind.str).fst)) fun y => fRow (Id.own 3) Kind.str y) fun x =>
      qb (r.snd.2 (Id.own 3, OSh.row true Kind.str).fst) fun o =>
        qb (asRow true Kind.str o) fun l =>
          br (isRetE r.fst) (some (V.c C.hole, [], []))
            (br (isExt 0 r.fst) (some (V.c (C.row (Id.ret 0 0) Kind.str), [], [Obj.row true Kind.str l])) none))
  none : Option (V × List Vm.Obj × List Vm.Obj)) := by kernel_rfl

theorem laws_eqStringS_res (n : Nat) (t0 : Bool) (a0 : List ByteArray) (t1 : Bool) (a1 : List ByteArray) : resid Tryd.prog cfg RN n 34 [.sl t0 .str a0, .sl t1 .str a1] [] = (br ((↑a0.length : Int) != (↑a1.length : Int)) (some (V.c (C.f (F.sc (Value.bool false))), [], []))
  (qb
    (lp Tryd.prog cfg RN n 5 34 4 0 n
      (St.mk
        (frOf
          [(0, V.c (C.f (F.sl t0 Kind.str a0))), (1, V.c (C.f (F.sl t1 Kind.str a1))),
            (4, V.c (C.f (F.sc (Value.bool false)))), (5, V.c (C.f (F.sc (Value.int IntKind.i64 0))))])
        (hpIds [])))
    fun r =>
    qb (qb (unC (r.snd.fr (4, Sh.bool).fst)) fun y => fBool y) fun b =>
      br (isRetE r.fst) (some (V.c (C.f (F.sc (Value.bool b))), [], []))
        (br (isExt 0 r.fst) (some (V.c (C.f (F.sc (Value.bool true))), [], [])) none)) : Option (V × List Vm.Obj × List Vm.Obj)) := by kernel_rfl

theorem laws_szTerm_res (n : Nat) (a0 : Term) (a1 : Int) : resid Tryd.prog cfg RN n 38 [.ag (Term.cells a0), .int a1] [] = (br (decide (IntKind.i64.wrap (a1 - (↑a0.s.size : Int)) < 0))
  (some (V.c (C.f (F.sc (Value.int IntKind.i64 (-1)))), [], []))
  (qb
    (pres RN 52
      [V.c (C.f (F.sl false Kind.term a0.kids)),
        V.c (C.f (F.sc (Value.int IntKind.i64 (IntKind.i64.wrap (a1 - (↑a0.s.size : Int))))))])
    fun v =>
    qb (qb (unC v) fun y => fInt y) fun n =>
      br (decide (n < 0)) (some (V.c (C.f (F.sc (Value.int IntKind.i64 (-1)))), [], []))
        (some (V.c (C.f (F.sc (Value.int IntKind.i64 n))), [], []))) : Option (V × List Vm.Obj × List Vm.Obj)) := by kernel_rfl

theorem laws_szIntS_res (n : Nat) (t0 : Bool) (a0 : List (El .int)) (a1 : Int) : resid Tryd.prog cfg RN n 39 [.sl t0 .int a0, .int a1] [] = (br (decide (IntKind.i64.wrap (a1 - (↑a0.length : Int)) < 0))
  (some (V.c (C.f (F.sc (Value.int IntKind.i64 (-1)))), [], []))
  (some (V.c (C.f (F.sc (Value.int IntKind.i64 (IntKind.i64.wrap (a1 - (↑a0.length : Int)))))), [], [])) : Option (V × List Vm.Obj × List Vm.Obj)) := by kernel_rfl

theorem laws_toTerm_res (n : Nat) (a0 : Term) : resid Tryd.prog cfg RN n 40 [.ag (Term.cells a0)] [] = (qb (pres RN 53 [V.c (C.f (F.sl false Kind.term a0.kids))]) fun v =>
  qb (qb (unC v) fun y => fSl Kind.term y) fun l =>
    some
      (V.agg
          [C.f (F.sc (Value.int IntKind.i64 a0.op)), C.f (F.sc (Value.int IntKind.i64 a0.n)),
            C.f (F.sc (Value.string a0.s)), C.f (F.sl false Kind.term l)],
        [], []) : Option (V × List Vm.Obj × List Vm.Obj)) := by kernel_rfl

theorem laws_toIntS_res (n : Nat) (t0 : Bool) (a0 : List (El .int)) : resid Tryd.prog cfg RN n 41 [.sl t0 .int a0] [] = (br
  (decide ((↑a0.length : Int) = (↑a0.length : Int)) && decide (0 ≤ (↑a0.length : Int)) &&
    (↑a0.length : Int).toNat.ble appMax)
  (qb
    (lp Tryd.prog cfg RN n 5 41 3 0 n
      (St.mk
        (frOf
          [(0, V.c (C.f (F.sl t0 Kind.int a0))), (3, V.c (C.row (Id.own 3) Kind.int)),
            (4, V.c (C.f (F.sc (Value.int IntKind.i64 0))))])
        (hpIds [(Id.own 3, Obj.row true Kind.int (List.replicate (↑a0.length : Int).toNat (zeroEl Kind.int)))])))
    fun r =>
    qb (qb (unC (r.snd.fr (3, Sh.row (Id.own 3) Kind.int).fst)) fun y => fRow (Id.own 3) Kind.int y) fun x =>
      qb (r.snd.2 (Id.own 3, OSh.row true Kind.int).fst) fun o =>
        qb (asRow true Kind.int o) fun l =>
          br (isRetE r.fst) (some (V.c C.hole, [], []))
            (br (isExt 0 r.fst) (some (V.c (C.row (Id.ret 0 0) Kind.int), [], [Obj.row true Kind.int l])) none))
  none : Option (V × List Vm.Obj × List Vm.Obj)) := by kernel_rfl

theorem laws_eqTerm_res (n : Nat) (a0 : Term) (a1 : Term) : resid Tryd.prog cfg RN n 42 [.ag (Term.cells a0), .ag (Term.cells a1)] [] = (br (a0.op != a1.op) (some (V.c (C.f (F.sc (Value.bool false))), [], []))
  (br (a0.n != a1.n) (some (V.c (C.f (F.sc (Value.bool false))), [], []))
    (br (!a0.s.toList == a1.s.toList) (some (V.c (C.f (F.sc (Value.bool false))), [], []))
      (qb (pres RN 54 [V.c (C.f (F.sl false Kind.term a0.kids)), V.c (C.f (F.sl false Kind.term a1.kids))]) fun v =>
        qb (qb (unC v) fun y => fBool y) fun b =>
          br (!b) (some (V.c (C.f (F.sc (Value.bool false))), [], []))
            (some (V.c (C.f (F.sc (Value.bool true))), [], []))))) : Option (V × List Vm.Obj × List Vm.Obj)) := by kernel_rfl

theorem laws_eqIntS_res (n : Nat) (t0 : Bool) (a0 : List (El .int)) (t1 : Bool) (a1 : List (El .int)) : resid Tryd.prog cfg RN n 43 [.sl t0 .int a0, .sl t1 .int a1] [] = (br ((↑a0.length : Int) != (↑a1.length : Int)) (some (V.c (C.f (F.sc (Value.bool false))), [], []))
  (qb
    (lp Tryd.prog cfg RN n 5 43 4 0 n
      (St.mk
        (frOf
          [(0, V.c (C.f (F.sl t0 Kind.int a0))), (1, V.c (C.f (F.sl t1 Kind.int a1))),
            (4, V.c (C.f (F.sc (Value.bool false)))), (5, V.c (C.f (F.sc (Value.int IntKind.i64 0))))])
        (hpIds [])))
    fun r =>
    qb (qb (unC (r.snd.fr (4, Sh.bool).fst)) fun y => fBool y) fun b =>
      br (isRetE r.fst) (some (V.c (C.f (F.sc (Value.bool b))), [], []))
        (br (isExt 0 r.fst) (some (V.c (C.f (F.sc (Value.bool true))), [], [])) none)) : Option (V × List Vm.Obj × List Vm.Obj)) := by kernel_rfl

theorem laws_szTermS_res (n : Nat) (t0 : Bool) (a0 : List Term) (a1 : Int) : resid Tryd.prog cfg RN n 52 [.sl t0 .term a0, .int a1] [] = (br (decide (IntKind.i64.wrap (a1 - (↑a0.length : Int)) < 0))
  (some (V.c (C.f (F.sc (Value.int IntKind.i64 (-1)))), [], []))
  (qb
    (lp Tryd.prog cfg RN n 5 52 5 0 n
      (St.mk
        (frOf
          [(0, V.c (C.f (F.sl t0 Kind.term a0))),
            (1, V.c (C.f (F.sc (Value.int IntKind.i64 (IntKind.i64.wrap (a1 - (↑a0.length : Int))))))),
            (4, V.c (C.f (F.sc (Value.int IntKind.i64 0)))), (5, V.c (C.f (F.sc (Value.int IntKind.i64 0))))])
        (hpIds [])))
    fun r =>
    qb (qb (unC (r.snd.fr (1, Sh.int).fst)) fun y => fInt y) fun n =>
      qb (qb (unC (r.snd.fr (4, Sh.int).fst)) fun y => fInt y) fun n_1 =>
        br (isRetE r.fst) (some (V.c (C.f (F.sc (Value.int IntKind.i64 n_1))), [], []))
          (br (isExt 0 r.fst) (some (V.c (C.f (F.sc (Value.int IntKind.i64 n))), [], [])) none)) : Option (V × List Vm.Obj × List Vm.Obj)) := by kernel_rfl

theorem laws_toTermS_res (n : Nat) (t0 : Bool) (a0 : List Term) : resid Tryd.prog cfg RN n 53 [.sl t0 .term a0] [] = (br
  (decide ((↑a0.length : Int) = (↑a0.length : Int)) && decide (0 ≤ (↑a0.length : Int)) &&
    (↑a0.length : Int).toNat.ble appMax)
  (qb
    (lp Tryd.prog cfg RN n 5 53 3 0 n
      (St.mk
        (frOf
          [(0, V.c (C.f (F.sl t0 Kind.term a0))), (3, V.c (C.row (Id.own 3) Kind.term)),
            (4, V.c (C.f (F.sc (Value.int IntKind.i64 0))))])
        (hpIds [(Id.own 3, Obj.row true Kind.term (List.replicate (↑a0.length : Int).toNat (zeroEl Kind.term)))])))
    fun r =>
    qb (qb (unC (r.snd.fr (3, Sh.row (Id.own 3) Kind.term).fst)) fun y => fRow (Id.own 3) Kind.term y) fun x =>
      qb (r.snd.2 (Id.own 3, OSh.row true Kind.term).fst) fun o =>
        qb (asRow true Kind.term o) fun l =>
          br (isRetE r.fst) (some (V.c C.hole, [], []))
            (br (isExt 0 r.fst) (some (V.c (C.row (Id.ret 0 0) Kind.term), [], [Obj.row true Kind.term l])) none))
  none : Option (V × List Vm.Obj × List Vm.Obj)) := by kernel_rfl

theorem laws_eqTermS_res (n : Nat) (t0 : Bool) (a0 : List Term) (t1 : Bool) (a1 : List Term) : resid Tryd.prog cfg RN n 54 [.sl t0 .term a0, .sl t1 .term a1] [] = (br ((↑a0.length : Int) != (↑a1.length : Int)) (some (V.c (C.f (F.sc (Value.bool false))), [], []))
  (qb
    (lp Tryd.prog cfg RN n 5 54 4 0 n
      (St.mk
        (frOf
          [(0, V.c (C.f (F.sl t0 Kind.term a0))), (1, V.c (C.f (F.sl t1 Kind.term a1))),
            (4, V.c (C.f (F.sc (Value.bool false)))), (5, V.c (C.f (F.sc (Value.int IntKind.i64 0))))])
        (hpIds [])))
    fun r =>
    qb (qb (unC (r.snd.fr (4, Sh.bool).fst)) fun y => fBool y) fun b =>
      br (isRetE r.fst) (some (V.c (C.f (F.sc (Value.bool b))), [], []))
        (br (isExt 0 r.fst) (some (V.c (C.f (F.sc (Value.bool true))), [], [])) none)) : Option (V × List Vm.Obj × List Vm.Obj)) := by kernel_rfl

theorem spec_NoteText_res (n : Nat) (a0 : Note) : resid Tryd.prog cfg RN n 8 [.ag (Note.cells a0)] [] = (qb
  (pres RN 25
    [V.agg
        [C.f (F.sc (Value.int IntKind.i64 a0.kind)), C.f (F.sc (Value.int IntKind.i64 a0.who)),
          C.f (F.sc (Value.string a0.domain)), C.f (F.sc (Value.int IntKind.i64 a0.body)),
          C.f (F.sc (Value.int IntKind.i64 a0.time))]])
  fun v =>
  qb (qb (unC v) fun y => fBool y) fun b =>
    br (!b) (some (V.c (C.f (F.sc (Value.string (ByteArray.mk #[])))), [], []))
      (qb
        (idx
          [ByteArray.mk #[], ByteArray.mk #[116, 97, 107, 101], ByteArray.mk #[116, 114, 121],
            ByteArray.mk #[103, 111, 110, 101], ByteArray.mk #[98, 97, 99, 107]]
          a0.kind)
        fun y =>
        qb (catOk y (ByteArray.mk #[32])) fun x =>
          qb (pres RN 26 [V.c (C.f (F.sc (Value.int IntKind.i64 a0.who)))]) fun v =>
            qb (qb (unC v) fun y => fStr y) fun s =>
              qb (catOk (y ++ ByteArray.mk #[32]) s) fun x =>
                br (a0.kind == 1)
                  (qb (catOk (y ++ ByteArray.mk #[32] ++ s) (ByteArray.mk #[32])) fun x =>
                    qb (catOk (y ++ ByteArray.mk #[32] ++ s ++ ByteArray.mk #[32]) a0.domain) fun x =>
                      qb (catOk (y ++ ByteArray.mk #[32] ++ s ++ ByteArray.mk #[32] ++ a0.domain) (ByteArray.mk #[32]))
                        fun x =>
                        qb (pres RN 26 [V.c (C.f (F.sc (Value.int IntKind.i64 a0.body)))]) fun v =>
                          qb (qb (unC v) fun y => fStr y) fun s_1 =>
                            qb
                              (catOk
                                (y ++ ByteArray.mk #[32] ++ s ++ ByteArray.mk #[32] ++ a0.domain ++ ByteArray.mk #[32])
                                s_1)
                              fun x =>
                              qb
                                (catOk
                                  (y ++ ByteArray.mk #[32] ++ s ++ ByteArray.mk #[32] ++ a0.domain ++
                                      ByteArray.mk #[32] ++
                                    s_1)
                                  (ByteArray.mk #[10]))
                                fun x =>
                                some
                                  (V.c
                                      (C.f
                                        (F.sc
                                          (Value.string
                                            (y ++ ByteArray.mk #[32] ++ s ++ ByteArray.mk #[32] ++ a0.domain ++
                                                  ByteArray.mk #[32] ++
                                                s_1 ++
                                              ByteArray.mk #[10])))),
                                    [], []))
                  (br (a0.kind == 2)
                    (qb (catOk (y ++ ByteArray.mk #[32] ++ s) (ByteArray.mk #[32])) fun x =>
                      qb (pres RN 26 [V.c (C.f (F.sc (Value.int IntKind.i64 a0.time)))]) fun v =>
                        qb (qb (unC v) fun y => fStr y) fun s_1 =>
                          qb (catOk (y ++ ByteArray.mk #[32] ++ s ++ ByteArray.mk #[32]) s_1) fun x =>
                            qb (catOk (y ++ ByteArray.mk #[32] ++ s ++ ByteArray.mk #[32] ++ s_1) (ByteArray.mk #[10]))
                              fun x =>
                              some
                                (V.c
                                    (C.f
                                      (F.sc
                                        (Value.string
                                          (y ++ ByteArray.mk #[32] ++ s ++ ByteArray.mk #[32] ++ s_1 ++
                                            ByteArray.mk #[10])))),
                                  [], []))
                    (qb (catOk (y ++ ByteArray.mk #[32] ++ s) (ByteArray.mk #[10])) fun x =>
                      some
                        (V.c (C.f (F.sc (Value.string (y ++ ByteArray.mk #[32] ++ s ++ ByteArray.mk #[10])))), [],
                          [])))) : Option (V × List Vm.Obj × List Vm.Obj)) := by kernel_rfl

theorem spec_PolicyShown_res (n : Nat) (a0 : Policy) : resid Tryd.prog cfg RN n 12 [.ag (Policy.cells a0)] [] = (br (decide (a0.mode ≥ 0))
  (br (decide (a0.mode ≤ 2))
    (qb
      (idx [ByteArray.mk #[110, 111, 110, 101], ByteArray.mk #[116, 101, 115, 116], ByteArray.mk #[104, 111, 108, 100]]
        a0.mode)
      fun y =>
      qb (catOk a0.domain (ByteArray.mk #[32])) fun x =>
        qb (catOk (a0.domain ++ ByteArray.mk #[32]) y) fun x =>
          qb
            (lp Tryd.prog cfg RN n 5 12 6 0 n
              (St.mk
                (frOf
                  [(1, V.c (C.bx (Id.own 1) 0)),
                    (4, V.c (C.f (F.sc (Value.string (a0.domain ++ ByteArray.mk #[32] ++ y))))),
                    (5, V.c (C.f (F.sc (Value.int IntKind.i64 0))))])
                (hpIds
                  [(Id.own 1,
                      Obj.box
                        [C.f (F.sc (Value.string a0.domain)), C.f (F.sc (Value.int IntKind.i64 a0.mode)),
                          C.f (F.sl false Kind.str a0.mx), C.f (F.sc (Value.int IntKind.i64 a0.til))])])))
            fun r =>
            qb (qb (unC (r.snd.fr (1, Sh.bx (Id.own 1) 0).fst)) fun y => fBx (Id.own 1) 0 y) fun x =>
              qb (qb (unC (r.snd.fr (4, Sh.str).fst)) fun y => fStr y) fun s =>
                qb (r.snd.2 (Id.own 1, OSh.box [Sh.str, Sh.int, Sh.sl Kind.str, Sh.int]).fst) fun o =>
                  qb (asBox o) fun cs =>
                    qb cs[0]? fun c =>
                      qb (qb (unC (V.c c)) fun y => fStr y) fun s_1 =>
                        qb cs[0 + 1]? fun c =>
                          qb (qb (unC (V.c c)) fun y => fInt y) fun n =>
                            qb cs[0 + 1 + 1]? fun c =>
                              qb (qb (unC (V.c c)) fun y => fSl Kind.str y) fun l =>
                                qb cs[0 + 1 + 1 + 1]? fun c =>
                                  qb (qb (unC (V.c c)) fun y => fInt y) fun n =>
                                    br (cs.length.beq [Sh.str, Sh.int, Sh.sl Kind.str, Sh.int].length)
                                      (br (isRetE r.fst) (some (V.c C.hole, [], []))
                                        (br (isExt 0 r.fst)
                                          (qb (catOk s (ByteArray.mk #[32])) fun x =>
                                            qb (pres RN 26 [V.c (C.f (F.sc (Value.int IntKind.i64 n)))]) fun v =>
                                              qb (qb (unC v) fun y => fStr y) fun s_2 =>
                                                qb (catOk (s ++ ByteArray.mk #[32]) s_2) fun x =>
                                                  some
                                                    (V.c (C.f (F.sc (Value.string (s ++ ByteArray.mk #[32] ++ s_2)))),
                                                      [], []))
                                          none))
                                      none)
    (qb (catOk a0.domain (ByteArray.mk #[32])) fun x =>
      qb (catOk (a0.domain ++ ByteArray.mk #[32]) (ByteArray.mk #[63])) fun x =>
        qb
          (lp Tryd.prog cfg RN n 5 12 6 0 n
            (St.mk
              (frOf
                [(1, V.c (C.bx (Id.own 1) 0)),
                  (4, V.c (C.f (F.sc (Value.string (a0.domain ++ ByteArray.mk #[32] ++ ByteArray.mk #[63]))))),
                  (5, V.c (C.f (F.sc (Value.int IntKind.i64 0))))])
              (hpIds
                [(Id.own 1,
                    Obj.box
                      [C.f (F.sc (Value.string a0.domain)), C.f (F.sc (Value.int IntKind.i64 a0.mode)),
                        C.f (F.sl false Kind.str a0.mx), C.f (F.sc (Value.int IntKind.i64 a0.til))])])))
          fun r =>
          qb (qb (unC (r.snd.fr (1, Sh.bx (Id.own 1) 0).fst)) fun y => fBx (Id.own 1) 0 y) fun x =>
            qb (qb (unC (r.snd.fr (4, Sh.str).fst)) fun y => fStr y) fun s =>
              qb (r.snd.2 (Id.own 1, OSh.box [Sh.str, Sh.int, Sh.sl Kind.str, Sh.int]).fst) fun o =>
                qb (asBox o) fun cs =>
                  qb cs[0]? fun c =>
                    qb (qb (unC (V.c c)) fun y => fStr y) fun s_1 =>
                      qb cs[0 + 1]? fun c =>
                        qb (qb (unC (V.c c)) fun y => fInt y) fun n =>
                          qb cs[0 + 1 + 1]? fun c =>
                            qb (qb (unC (V.c c)) fun y => fSl Kind.str y) fun l =>
                              qb cs[0 + 1 + 1 + 1]? fun c =>
                                qb (qb (unC (V.c c)) fun y => fInt y) fun n =>
                                  br (cs.length.beq [Sh.str, Sh.int, Sh.sl Kind.str, Sh.int].length)
                                    (br (isRetE r.fst) (some (V.c C.hole, [], []))
                                      (br (isExt 0 r.fst)
                                        (qb (catOk s (ByteArray.mk #[32])) fun x =>
                                          qb (pres RN 26 [V.c (C.f (F.sc (Value.int IntKind.i64 n)))]) fun v =>
                                            qb (qb (unC v) fun y => fStr y) fun s_2 =>
                                              qb (catOk (s ++ ByteArray.mk #[32]) s_2) fun x =>
                                                some
                                                  (V.c (C.f (F.sc (Value.string (s ++ ByteArray.mk #[32] ++ s_2)))), [],
                                                    []))
                                        none))
                                    none))
  (qb (catOk a0.domain (ByteArray.mk #[32])) fun x =>
    qb (catOk (a0.domain ++ ByteArray.mk #[32]) (ByteArray.mk #[63])) fun x =>
      qb
        (lp Tryd.prog cfg RN n 5 12 6 0 n
          (St.mk
            (frOf
              [(1, V.c (C.bx (Id.own 1) 0)),
                (4, V.c (C.f (F.sc (Value.string (a0.domain ++ ByteArray.mk #[32] ++ ByteArray.mk #[63]))))),
                (5, V.c (C.f (F.sc (Value.int IntKind.i64 0))))])
            (hpIds
              [(Id.own 1,
                  Obj.box
                    [C.f (F.sc (Value.string a0.domain)), C.f (F.sc (Value.int IntKind.i64 a0.mode)),
                      C.f (F.sl false Kind.str a0.mx), C.f (F.sc (Value.int IntKind.i64 a0.til))])])))
        fun r =>
        qb (qb (unC (r.snd.fr (1, Sh.bx (Id.own 1) 0).fst)) fun y => fBx (Id.own 1) 0 y) fun x =>
          qb (qb (unC (r.snd.fr (4, Sh.str).fst)) fun y => fStr y) fun s =>
            qb (r.snd.2 (Id.own 1, OSh.box [Sh.str, Sh.int, Sh.sl Kind.str, Sh.int]).fst) fun o =>
              qb (asBox o) fun cs =>
                qb cs[0]? fun c =>
                  qb (qb (unC (V.c c)) fun y => fStr y) fun s_1 =>
                    qb cs[0 + 1]? fun c =>
                      qb (qb (unC (V.c c)) fun y => fInt y) fun n =>
                        qb cs[0 + 1 + 1]? fun c =>
                          qb (qb (unC (V.c c)) fun y => fSl Kind.str y) fun l =>
                            qb cs[0 + 1 + 1 + 1]? fun c =>
                              qb (qb (unC (V.c c)) fun y => fInt y) fun n =>
                                br (cs.length.beq [Sh.str, Sh.int, Sh.sl Kind.str, Sh.int].length)
                                  (br (isRetE r.fst) (some (V.c C.hole, [], []))
                                    (br (isExt 0 r.fst)
                                      (qb (catOk s (ByteArray.mk #[32])) fun x =>
                                        qb (pres RN 26 [V.c (C.f (F.sc (Value.int IntKind.i64 n)))]) fun v =>
                                          qb (qb (unC v) fun y => fStr y) fun s_2 =>
                                            qb (catOk (s ++ ByteArray.mk #[32]) s_2) fun x =>
                                              some
                                                (V.c (C.f (F.sc (Value.string (s ++ ByteArray.mk #[32] ++ s_2)))), [],
                                                  []))
                                      none))
                                  none) : Option (V × List Vm.Obj × List Vm.Obj)) := by kernel_rfl

theorem spec_LetterText_res (n : Nat) (a0 : Letter) : resid Tryd.prog cfg RN n 17 [.ag (Letter.cells a0)] [] = (qb (catOk a0.domain (ByteArray.mk #[32])) fun x =>
  qb
    (pres RN 35
      [V.c (C.f (F.sc (Value.int IntKind.i64 a0.state))),
        V.c
          (C.f
            (F.sl false Kind.str
              [ByteArray.mk #[119, 97, 105, 116, 115], ByteArray.mk #[103, 111, 110, 101],
                ByteArray.mk #[98, 97, 99, 107]]))])
    fun v =>
    qb (qb (unC v) fun y => fStr y) fun s =>
      qb (catOk (a0.domain ++ ByteArray.mk #[32]) s) fun x =>
        qb (catOk (a0.domain ++ ByteArray.mk #[32] ++ s) (ByteArray.mk #[32])) fun x =>
          qb (pres RN 26 [V.c (C.f (F.sc (Value.int IntKind.i64 a0.tries)))]) fun v =>
            qb (qb (unC v) fun y => fStr y) fun s_1 =>
              qb (catOk (a0.domain ++ ByteArray.mk #[32] ++ s ++ ByteArray.mk #[32]) s_1) fun x =>
                qb (catOk (a0.domain ++ ByteArray.mk #[32] ++ s ++ ByteArray.mk #[32] ++ s_1) (ByteArray.mk #[32]))
                  fun x =>
                  qb (pres RN 26 [V.c (C.f (F.sc (Value.int IntKind.i64 a0.next)))]) fun v =>
                    qb (qb (unC v) fun y => fStr y) fun s_2 =>
                      qb
                        (catOk (a0.domain ++ ByteArray.mk #[32] ++ s ++ ByteArray.mk #[32] ++ s_1 ++ ByteArray.mk #[32])
                          s_2)
                        fun x =>
                        some
                          (V.c
                              (C.f
                                (F.sc
                                  (Value.string
                                    (a0.domain ++ ByteArray.mk #[32] ++ s ++ ByteArray.mk #[32] ++ s_1 ++
                                        ByteArray.mk #[32] ++
                                      s_2)))),
                            [], []) : Option (V × List Vm.Obj × List Vm.Obj)) := by kernel_rfl

theorem spec_ServerText_res (n : Nat) (a0 : Server) : resid Tryd.prog cfg RN n 21 [.ag (Server.cells a0)] [] = (qb
  (pres RN 35
    [V.c (C.f (F.sc (Value.int IntKind.i64 a0.step))),
      V.c
        (C.f
          (F.sl false Kind.str
            [ByteArray.mk #[108, 105, 110, 101], ByteArray.mk #[104, 101, 108, 108, 111],
              ByteArray.mk #[100, 111, 110, 101], ByteArray.mk #[98, 111, 100, 121],
              ByteArray.mk #[102, 97, 105, 108]]))])
  fun v =>
  qb (qb (unC v) fun y => fStr y) fun s =>
    qb (catOk s (ByteArray.mk #[32])) fun x =>
      qb (catOk (s ++ ByteArray.mk #[32]) a0.host) fun x =>
        qb (catOk (s ++ ByteArray.mk #[32] ++ a0.host) (ByteArray.mk #[32])) fun x =>
          qb (pres RN 26 [V.c (C.f (F.sc (Value.int IntKind.i64 (↑a0.got.length : Int))))]) fun v =>
            qb (qb (unC v) fun y => fStr y) fun s_1 =>
              qb (catOk (s ++ ByteArray.mk #[32] ++ a0.host ++ ByteArray.mk #[32]) s_1) fun x =>
                br a0.tls
                  (qb
                    (catOk (s ++ ByteArray.mk #[32] ++ a0.host ++ ByteArray.mk #[32] ++ s_1)
                      (ByteArray.mk #[32, 115, 101, 97, 108, 101, 100]))
                    fun x =>
                    some
                      (V.c
                          (C.f
                            (F.sc
                              (Value.string
                                (s ++ ByteArray.mk #[32] ++ a0.host ++ ByteArray.mk #[32] ++ s_1 ++
                                  ByteArray.mk #[32, 115, 101, 97, 108, 101, 100])))),
                        [], []))
                  (some
                    (V.c (C.f (F.sc (Value.string (s ++ ByteArray.mk #[32] ++ a0.host ++ ByteArray.mk #[32] ++ s_1)))),
                      [], [])) : Option (V × List Vm.Obj × List Vm.Obj)) := by kernel_rfl

theorem spec_NoteOk_res (n : Nat) (a0 : Note) : resid Tryd.prog cfg RN n 25 [.ag (Note.cells a0)] [] = (br (decide (a0.kind ≥ 1))
  (br (!decide (a0.kind ≤ 4)) (some (V.c (C.f (F.sc (Value.bool false))), [], []))
    (br (decide (a0.who ≥ 0))
      (br (!decide (a0.who ≤ 29)) (some (V.c (C.f (F.sc (Value.bool false))), [], []))
        (br (a0.kind == 1)
          (qb (pres RN 44 [V.c (C.f (F.sc (Value.string a0.domain)))]) fun v =>
            qb (qb (unC v) fun y => fBool y) fun b =>
              br b
                (br (decide (a0.body ≥ 0))
                  (br (decide (a0.body ≤ 1000000))
                    (br (a0.kind == 2)
                      (br (decide (a0.time ≥ 0))
                        (br (decide (a0.time ≤ 100000)) (some (V.c (C.f (F.sc (Value.bool true))), [], []))
                          (some (V.c (C.f (F.sc (Value.bool (a0.time == 0)))), [], [])))
                        (some (V.c (C.f (F.sc (Value.bool (a0.time == 0)))), [], [])))
                      (some (V.c (C.f (F.sc (Value.bool (a0.time == 0)))), [], [])))
                    (br (a0.kind != 1)
                      (br (a0.domain.toList == (ByteArray.mk #[]).toList)
                        (br (a0.body == 0)
                          (br (a0.kind == 2)
                            (br (decide (a0.time ≥ 0))
                              (br (decide (a0.time ≤ 100000)) (some (V.c (C.f (F.sc (Value.bool true))), [], []))
                                (some (V.c (C.f (F.sc (Value.bool (a0.time == 0)))), [], [])))
                              (some (V.c (C.f (F.sc (Value.bool (a0.time == 0)))), [], [])))
                            (some (V.c (C.f (F.sc (Value.bool (a0.time == 0)))), [], [])))
                          (some (V.c (C.f (F.sc (Value.bool false))), [], [])))
                        (some (V.c (C.f (F.sc (Value.bool false))), [], [])))
                      (some (V.c (C.f (F.sc (Value.bool false))), [], []))))
                  (br (a0.kind != 1)
                    (br (a0.domain.toList == (ByteArray.mk #[]).toList)
                      (br (a0.body == 0)
                        (br (a0.kind == 2)
                          (br (decide (a0.time ≥ 0))
                            (br (decide (a0.time ≤ 100000)) (some (V.c (C.f (F.sc (Value.bool true))), [], []))
                              (some (V.c (C.f (F.sc (Value.bool (a0.time == 0)))), [], [])))
                            (some (V.c (C.f (F.sc (Value.bool (a0.time == 0)))), [], [])))
                          (some (V.c (C.f (F.sc (Value.bool (a0.time == 0)))), [], [])))
                        (some (V.c (C.f (F.sc (Value.bool false))), [], [])))
                      (some (V.c (C.f (F.sc (Value.bool false))), [], [])))
                    (some (V.c (C.f (F.sc (Value.bool false))), [], []))))
                (br (a0.kind != 1)
                  (br (a0.domain.toList == (ByteArray.mk #[]).toList)
                    (br (a0.body == 0)
                      (br (a0.kind == 2)
                        (br (decide (a0.time ≥ 0))
                          (br (decide (a0.time ≤ 100000)) (some (V.c (C.f (F.sc (Value.bool true))), [], []))
                            (some (V.c (C.f (F.sc (Value.bool (a0.time == 0)))), [], [])))
                          (some (V.c (C.f (F.sc (Value.bool (a0.time == 0)))), [], [])))
                        (some (V.c (C.f (F.sc (Value.bool (a0.time == 0)))), [], [])))
                      (some (V.c (C.f (F.sc (Value.bool false))), [], [])))
                    (some (V.c (C.f (F.sc (Value.bool false))), [], [])))
                  (some (V.c (C.f (F.sc (Value.bool false))), [], []))))
          (br (a0.kind != 1)
            (br (a0.domain.toList == (ByteArray.mk #[]).toList)
              (br (a0.body == 0)
                (br (a0.kind == 2)
                  (br (decide (a0.time ≥ 0))
                    (br (decide (a0.time ≤ 100000)) (some (V.c (C.f (F.sc (Value.bool true))), [], []))
                      (some (V.c (C.f (F.sc (Value.bool (a0.time == 0)))), [], [])))
                    (some (V.c (C.f (F.sc (Value.bool (a0.time == 0)))), [], [])))
                  (some (V.c (C.f (F.sc (Value.bool (a0.time == 0)))), [], [])))
                (some (V.c (C.f (F.sc (Value.bool false))), [], [])))
              (some (V.c (C.f (F.sc (Value.bool false))), [], [])))
            (some (V.c (C.f (F.sc (Value.bool false))), [], [])))))
      (some (V.c (C.f (F.sc (Value.bool false))), [], []))))
  (some (V.c (C.f (F.sc (Value.bool false))), [], [])) : Option (V × List Vm.Obj × List Vm.Obj)) := by kernel_rfl

theorem spec_l1Digits_res (n : Nat) (a0 : Int) : resid Tryd.prog cfg RN n 26 [.int a0] [] = (br (a0 == 0) (some (V.c (C.f (F.sc (Value.string (ByteArray.mk #[48])))), [], []))
  (qb
    (lp Tryd.prog cfg RN n 5 26 5 0 n
      (St.mk
        (frOf
          [(0, V.c (C.f (F.sc (Value.int IntKind.i64 a0)))), (3, V.c (C.f (F.sc (Value.bool (decide (a0 < 0)))))),
            (4, V.c (C.f (F.sc (Value.string (ByteArray.mk #[])))))])
        (hpIds [])))
    fun r =>
    qb (qb (unC (r.snd.fr (3, Sh.bool).fst)) fun y => fBool y) fun b =>
      qb (qb (unC (r.snd.fr (4, Sh.str).fst)) fun y => fStr y) fun s =>
        br (isRetE r.fst) (some (V.c C.hole, [], []))
          (br (isExt 0 r.fst)
            (br b
              (qb (catOk (ByteArray.mk #[45]) s) fun x =>
                some (V.c (C.f (F.sc (Value.string (ByteArray.mk #[45] ++ s)))), [], []))
              (some (V.c (C.f (F.sc (Value.string s))), [], [])))
            none)) : Option (V × List Vm.Obj × List Vm.Obj)) := by kernel_rfl

theorem spec_l17Name_res (n : Nat) (a0 : Int) (t1 : Bool) (a1 : List ByteArray) : resid Tryd.prog cfg RN n 35 [.int a0, .sl t1 .str a1] [] = (br (decide (a0 < 1)) (some (V.c (C.f (F.sc (Value.string (ByteArray.mk #[110, 111, 110, 101])))), [], []))
  (br (decide (a0 > (↑a1.length : Int)))
    (some (V.c (C.f (F.sc (Value.string (ByteArray.mk #[110, 111, 110, 101])))), [], []))
    (qb (idx a1 (IntKind.i64.wrap (a0 - 1))) fun y => some (V.c (C.f (F.sc (Value.string y))), [], []))) : Option (V × List Vm.Obj × List Vm.Obj)) := by kernel_rfl

theorem spec_l6Domain_res (n : Nat) (a0 : ByteArray) : resid Tryd.prog cfg RN n 44 [.str a0] [] = (qb
  (lp Tryd.prog cfg RN n 5 44 2 0 n
    (St.mk
      (frOf
        [(0, V.c (C.f (F.sc (Value.string a0)))), (2, V.c (C.f (F.sc (Value.bool false)))),
          (3, V.c (C.f (F.sc (Value.int IntKind.i64 0))))])
      (hpIds [])))
  fun r =>
  qb (qb (unC (r.snd.fr (0, Sh.str).fst)) fun y => fStr y) fun s =>
    qb (qb (unC (r.snd.fr (2, Sh.bool).fst)) fun y => fBool y) fun b =>
      br (isRetE r.fst) (some (V.c (C.f (F.sc (Value.bool b))), [], []))
        (br (isExt 0 r.fst)
          (br (decide ((↑s.size : Int) ≥ 1))
            (some (V.c (C.f (F.sc (Value.bool (decide ((↑s.size : Int) ≤ 10))))), [], []))
            (some (V.c (C.f (F.sc (Value.bool false))), [], [])))
          none) : Option (V × List Vm.Obj × List Vm.Obj)) := by kernel_rfl

theorem impl_NoteText_res (n : Nat) (a0 : Note) : resid Tryd.prog cfg RN n 10 [.ag (Note.cells a0)] [] = (qb
  (pres RN 27
    [V.agg
        [C.f (F.sc (Value.int IntKind.i64 a0.kind)), C.f (F.sc (Value.int IntKind.i64 a0.who)),
          C.f (F.sc (Value.string a0.domain)), C.f (F.sc (Value.int IntKind.i64 a0.body)),
          C.f (F.sc (Value.int IntKind.i64 a0.time))]])
  fun v =>
  qb (qb (unC v) fun y => fBool y) fun b =>
    br (!b) (some (V.c (C.f (F.sc (Value.string (ByteArray.mk #[])))), [], []))
      (qb
        (idx
          [ByteArray.mk #[], ByteArray.mk #[116, 97, 107, 101], ByteArray.mk #[116, 114, 121],
            ByteArray.mk #[103, 111, 110, 101], ByteArray.mk #[98, 97, 99, 107]]
          a0.kind)
        fun y =>
        qb (catOk y (ByteArray.mk #[32])) fun x =>
          qb (pres RN 28 [V.c (C.f (F.sc (Value.int IntKind.i64 a0.who)))]) fun v =>
            qb (qb (unC v) fun y => fStr y) fun s =>
              qb (catOk (y ++ ByteArray.mk #[32]) s) fun x =>
                br (a0.kind == 1)
                  (qb (catOk (ByteArray.mk #[32]) a0.domain) fun x =>
                    qb (catOk (ByteArray.mk #[32] ++ a0.domain) (ByteArray.mk #[32])) fun x =>
                      qb (pres RN 28 [V.c (C.f (F.sc (Value.int IntKind.i64 a0.body)))]) fun v =>
                        qb (qb (unC v) fun y => fStr y) fun s_1 =>
                          qb (catOk (ByteArray.mk #[32] ++ a0.domain ++ ByteArray.mk #[32]) s_1) fun x =>
                            qb
                              (catOk (y ++ ByteArray.mk #[32] ++ s)
                                (ByteArray.mk #[32] ++ a0.domain ++ ByteArray.mk #[32] ++ s_1))
                              fun x =>
                              qb
                                (catOk
                                  (y ++ ByteArray.mk #[32] ++ s ++
                                    (ByteArray.mk #[32] ++ a0.domain ++ ByteArray.mk #[32] ++ s_1))
                                  (ByteArray.mk #[10]))
                                fun x =>
                                some
                                  (V.c
                                      (C.f
                                        (F.sc
                                          (Value.string
                                            (y ++ ByteArray.mk #[32] ++ s ++
                                                (ByteArray.mk #[32] ++ a0.domain ++ ByteArray.mk #[32] ++ s_1) ++
                                              ByteArray.mk #[10])))),
                                    [], []))
                  (br (a0.kind == 2)
                    (qb (pres RN 28 [V.c (C.f (F.sc (Value.int IntKind.i64 a0.time)))]) fun v =>
                      qb (qb (unC v) fun y => fStr y) fun s_1 =>
                        qb (catOk (ByteArray.mk #[32]) s_1) fun x =>
                          qb (catOk (y ++ ByteArray.mk #[32] ++ s) (ByteArray.mk #[32] ++ s_1)) fun x =>
                            qb
                              (catOk (y ++ ByteArray.mk #[32] ++ s ++ (ByteArray.mk #[32] ++ s_1)) (ByteArray.mk #[10]))
                              fun x =>
                              some
                                (V.c
                                    (C.f
                                      (F.sc
                                        (Value.string
                                          (y ++ ByteArray.mk #[32] ++ s ++ (ByteArray.mk #[32] ++ s_1) ++
                                            ByteArray.mk #[10])))),
                                  [], []))
                    (qb (catOk (y ++ ByteArray.mk #[32] ++ s) (ByteArray.mk #[10])) fun x =>
                      some
                        (V.c (C.f (F.sc (Value.string (y ++ ByteArray.mk #[32] ++ s ++ ByteArray.mk #[10])))), [],
                          [])))) : Option (V × List Vm.Obj × List Vm.Obj)) := by kernel_rfl

theorem impl_PolicyShown_res (n : Nat) (a0 : Policy) : resid Tryd.prog cfg RN n 14 [.ag (Policy.cells a0)] [] = (br (decide (a0.mode ≥ 0))
  (br (decide (a0.mode ≤ 2))
    (qb (pres RN 33 []) fun v =>
      qb (qb (unC v) fun y => fSl Kind.str y) fun l =>
        qb (idx l a0.mode) fun y =>
          qb (catOk a0.domain (ByteArray.mk #[32])) fun x =>
            qb (catOk (a0.domain ++ ByteArray.mk #[32]) y) fun x =>
              qb
                (lp Tryd.prog cfg RN n 5 14 6 0 n
                  (St.mk
                    (frOf
                      [(1, V.c (C.bx (Id.own 1) 0)),
                        (4, V.c (C.f (F.sc (Value.string (a0.domain ++ ByteArray.mk #[32] ++ y))))),
                        (21, V.c (C.f (F.sl false Kind.str a0.mx))),
                        (22, V.c (C.f (F.sc (Value.int IntKind.i64 (↑a0.mx.length : Int))))),
                        (23, V.c (C.f (F.sc (Value.int IntKind.i64 0))))])
                    (hpIds
                      [(Id.own 1,
                          Obj.box
                            [C.f (F.sc (Value.string a0.domain)), C.f (F.sc (Value.int IntKind.i64 a0.mode)),
                              C.f (F.sl false Kind.str a0.mx), C.f (F.sc (Value.int IntKind.i64 a0.til))])])))
                fun r =>
                qb (qb (unC (r.snd.fr (1, Sh.bx (Id.own 1) 0).fst)) fun y => fBx (Id.own 1) 0 y) fun x =>
                  qb (qb (unC (r.snd.fr (4, Sh.str).fst)) fun y => fStr y) fun s =>
                    qb (r.snd.2 (Id.own 1, OSh.box [Sh.str, Sh.int, Sh.sl Kind.str, Sh.int]).fst) fun o =>
                      qb (asBox o) fun cs =>
                        qb cs[0]? fun c =>
                          qb (qb (unC (V.c c)) fun y => fStr y) fun s_1 =>
                            qb cs[0 + 1]? fun c =>
                              qb (qb (unC (V.c c)) fun y => fInt y) fun n =>
                                qb cs[0 + 1 + 1]? fun c =>
                                  qb (qb (unC (V.c c)) fun y => fSl Kind.str y) fun l =>
                                    qb cs[0 + 1 + 1 + 1]? fun c =>
                                      qb (qb (unC (V.c c)) fun y => fInt y) fun n =>
                                        br (cs.length.beq [Sh.str, Sh.int, Sh.sl Kind.str, Sh.int].length)
                                          (br (isRetE r.fst) (some (V.c C.hole, [], []))
                                            (br (isExt 0 r.fst)
                                              (qb (catOk s (ByteArray.mk #[32])) fun x =>
                                                qb (pres RN 28 [V.c (C.f (F.sc (Value.int IntKind.i64 n)))]) fun v =>
                                                  qb (qb (unC v) fun y => fStr y) fun s_2 =>
                                                    qb (catOk (s ++ ByteArray.mk #[32]) s_2) fun x =>
                                                      some
                                                        (V.c
                                                            (C.f
                                                              (F.sc (Value.string (s ++ ByteArray.mk #[32] ++ s_2)))),
                                                          [], []))
                                              none))
                                          none)
    (qb (catOk a0.domain (ByteArray.mk #[32])) fun x =>
      qb (catOk (a0.domain ++ ByteArray.mk #[32]) (ByteArray.mk #[63])) fun x =>
        qb
          (lp Tryd.prog cfg RN n 5 14 6 0 n
            (St.mk
              (frOf
                [(1, V.c (C.bx (Id.own 1) 0)),
                  (4, V.c (C.f (F.sc (Value.string (a0.domain ++ ByteArray.mk #[32] ++ ByteArray.mk #[63]))))),
                  (21, V.c (C.f (F.sl false Kind.str a0.mx))),
                  (22, V.c (C.f (F.sc (Value.int IntKind.i64 (↑a0.mx.length : Int))))),
                  (23, V.c (C.f (F.sc (Value.int IntKind.i64 0))))])
              (hpIds
                [(Id.own 1,
                    Obj.box
                      [C.f (F.sc (Value.string a0.domain)), C.f (F.sc (Value.int IntKind.i64 a0.mode)),
                        C.f (F.sl false Kind.str a0.mx), C.f (F.sc (Value.int IntKind.i64 a0.til))])])))
          fun r =>
          qb (qb (unC (r.snd.fr (1, Sh.bx (Id.own 1) 0).fst)) fun y => fBx (Id.own 1) 0 y) fun x =>
            qb (qb (unC (r.snd.fr (4, Sh.str).fst)) fun y => fStr y) fun s =>
              qb (r.snd.2 (Id.own 1, OSh.box [Sh.str, Sh.int, Sh.sl Kind.str, Sh.int]).fst) fun o =>
                qb (asBox o) fun cs =>
                  qb cs[0]? fun c =>
                    qb (qb (unC (V.c c)) fun y => fStr y) fun s_1 =>
                      qb cs[0 + 1]? fun c =>
                        qb (qb (unC (V.c c)) fun y => fInt y) fun n =>
                          qb cs[0 + 1 + 1]? fun c =>
                            qb (qb (unC (V.c c)) fun y => fSl Kind.str y) fun l =>
                              qb cs[0 + 1 + 1 + 1]? fun c =>
                                qb (qb (unC (V.c c)) fun y => fInt y) fun n =>
                                  br (cs.length.beq [Sh.str, Sh.int, Sh.sl Kind.str, Sh.int].length)
                                    (br (isRetE r.fst) (some (V.c C.hole, [], []))
                                      (br (isExt 0 r.fst)
                                        (qb (catOk s (ByteArray.mk #[32])) fun x =>
                                          qb (pres RN 28 [V.c (C.f (F.sc (Value.int IntKind.i64 n)))]) fun v =>
                                            qb (qb (unC v) fun y => fStr y) fun s_2 =>
                                              qb (catOk (s ++ ByteArray.mk #[32]) s_2) fun x =>
                                                some
                                                  (V.c (C.f (F.sc (Value.string (s ++ ByteArray.mk #[32] ++ s_2)))), [],
                                                    []))
                                        none))
                                    none))
  (qb (catOk a0.domain (ByteArray.mk #[32])) fun x =>
    qb (catOk (a0.domain ++ ByteArray.mk #[32]) (ByteArray.mk #[63])) fun x =>
      qb
        (lp Tryd.prog cfg RN n 5 14 6 0 n
          (St.mk
            (frOf
              [(1, V.c (C.bx (Id.own 1) 0)),
                (4, V.c (C.f (F.sc (Value.string (a0.domain ++ ByteArray.mk #[32] ++ ByteArray.mk #[63]))))),
                (21, V.c (C.f (F.sl false Kind.str a0.mx))),
                (22, V.c (C.f (F.sc (Value.int IntKind.i64 (↑a0.mx.length : Int))))),
                (23, V.c (C.f (F.sc (Value.int IntKind.i64 0))))])
            (hpIds
              [(Id.own 1,
                  Obj.box
                    [C.f (F.sc (Value.string a0.domain)), C.f (F.sc (Value.int IntKind.i64 a0.mode)),
                      C.f (F.sl false Kind.str a0.mx), C.f (F.sc (Value.int IntKind.i64 a0.til))])])))
        fun r =>
        qb (qb (unC (r.snd.fr (1, Sh.bx (Id.own 1) 0).fst)) fun y => fBx (Id.own 1) 0 y) fun x =>
          qb (qb (unC (r.snd.fr (4, Sh.str).fst)) fun y => fStr y) fun s =>
            qb (r.snd.2 (Id.own 1, OSh.box [Sh.str, Sh.int, Sh.sl Kind.str, Sh.int]).fst) fun o =>
              qb (asBox o) fun cs =>
                qb cs[0]? fun c =>
                  qb (qb (unC (V.c c)) fun y => fStr y) fun s_1 =>
                    qb cs[0 + 1]? fun c =>
                      qb (qb (unC (V.c c)) fun y => fInt y) fun n =>
                        qb cs[0 + 1 + 1]? fun c =>
                          qb (qb (unC (V.c c)) fun y => fSl Kind.str y) fun l =>
                            qb cs[0 + 1 + 1 + 1]? fun c =>
                              qb (qb (unC (V.c c)) fun y => fInt y) fun n =>
                                br (cs.length.beq [Sh.str, Sh.int, Sh.sl Kind.str, Sh.int].length)
                                  (br (isRetE r.fst) (some (V.c C.hole, [], []))
                                    (br (isExt 0 r.fst)
                                      (qb (catOk s (ByteArray.mk #[32])) fun x =>
                                        qb (pres RN 28 [V.c (C.f (F.sc (Value.int IntKind.i64 n)))]) fun v =>
                                          qb (qb (unC v) fun y => fStr y) fun s_2 =>
                                            qb (catOk (s ++ ByteArray.mk #[32]) s_2) fun x =>
                                              some
                                                (V.c (C.f (F.sc (Value.string (s ++ ByteArray.mk #[32] ++ s_2)))), [],
                                                  []))
                                      none))
                                  none) : Option (V × List Vm.Obj × List Vm.Obj)) := by kernel_rfl

theorem impl_LetterText_res (n : Nat) (a0 : Letter) : resid Tryd.prog cfg RN n 19 [.ag (Letter.cells a0)] [] = (qb
  (pres RN 37
    [V.c (C.f (F.sc (Value.int IntKind.i64 a0.state))),
      V.c
        (C.f
          (F.sl false Kind.str
            [ByteArray.mk #[119, 97, 105, 116, 115], ByteArray.mk #[103, 111, 110, 101],
              ByteArray.mk #[98, 97, 99, 107]]))])
  fun v =>
  qb (qb (unC v) fun y => fStr y) fun s =>
    qb (pres RN 28 [V.c (C.f (F.sc (Value.int IntKind.i64 a0.tries)))]) fun v =>
      qb (qb (unC v) fun y => fStr y) fun s_1 =>
        qb (pres RN 28 [V.c (C.f (F.sc (Value.int IntKind.i64 a0.next)))]) fun v =>
          qb (qb (unC v) fun y => fStr y) fun s_2 =>
            qb
              (pres RN 36
                [V.c (C.f (F.sl false Kind.str [a0.domain, s, s_1, s_2])),
                  V.c (C.f (F.sc (Value.string (ByteArray.mk #[32]))))])
              fun v => qb (qb (unC v) fun y => fStr y) fun s => some (V.c (C.f (F.sc (Value.string s))), [], []) : Option (V × List Vm.Obj × List Vm.Obj)) := by kernel_rfl

theorem impl_ServerText_res (n : Nat) (a0 : Server) : resid Tryd.prog cfg RN n 23 [.ag (Server.cells a0)] [] = (qb
  (pres RN 37
    [V.c (C.f (F.sc (Value.int IntKind.i64 a0.step))),
      V.c
        (C.f
          (F.sl false Kind.str
            [ByteArray.mk #[108, 105, 110, 101], ByteArray.mk #[104, 101, 108, 108, 111],
              ByteArray.mk #[100, 111, 110, 101], ByteArray.mk #[98, 111, 100, 121],
              ByteArray.mk #[102, 97, 105, 108]]))])
  fun v =>
  qb (qb (unC v) fun y => fStr y) fun s =>
    qb (catOk s (ByteArray.mk #[32])) fun x =>
      qb (catOk (s ++ ByteArray.mk #[32]) a0.host) fun x =>
        qb (catOk (s ++ ByteArray.mk #[32] ++ a0.host) (ByteArray.mk #[32])) fun x =>
          qb (pres RN 28 [V.c (C.f (F.sc (Value.int IntKind.i64 (↑a0.got.length : Int))))]) fun v =>
            qb (qb (unC v) fun y => fStr y) fun s_1 =>
              qb (catOk (s ++ ByteArray.mk #[32] ++ a0.host ++ ByteArray.mk #[32]) s_1) fun x =>
                br a0.tls
                  (qb
                    (catOk (s ++ ByteArray.mk #[32] ++ a0.host ++ ByteArray.mk #[32] ++ s_1)
                      (ByteArray.mk #[32, 115, 101, 97, 108, 101, 100]))
                    fun x =>
                    some
                      (V.c
                          (C.f
                            (F.sc
                              (Value.string
                                (s ++ ByteArray.mk #[32] ++ a0.host ++ ByteArray.mk #[32] ++ s_1 ++
                                  ByteArray.mk #[32, 115, 101, 97, 108, 101, 100])))),
                        [], []))
                  (some
                    (V.c (C.f (F.sc (Value.string (s ++ ByteArray.mk #[32] ++ a0.host ++ ByteArray.mk #[32] ++ s_1)))),
                      [], [])) : Option (V × List Vm.Obj × List Vm.Obj)) := by kernel_rfl

theorem impl_NoteOk_res (n : Nat) (a0 : Note) : resid Tryd.prog cfg RN n 27 [.ag (Note.cells a0)] [] = (br (decide (a0.who ≥ 0))
  (br (!decide (a0.who ≤ 29)) (some (V.c (C.f (F.sc (Value.bool false))), [], []))
    (br (a0.kind == 1)
      (qb (pres RN 45 [V.c (C.f (F.sc (Value.string a0.domain)))]) fun v =>
        qb (qb (unC v) fun y => fBool y) fun b =>
          br b
            (br (decide (a0.body ≥ 0))
              (br (decide (a0.body ≤ 1000000))
                (some
                  (V.c
                      (C.f
                        (F.sc
                          (Value.bool
                            (a0.kind == a0.kind &&
                              (a0.who == a0.who &&
                                (a0.domain == a0.domain && (a0.body == a0.body && (a0.time == 0 && true)))))))),
                    [], []))
                (some (V.c (C.f (F.sc (Value.bool false))), [], [])))
              (some (V.c (C.f (F.sc (Value.bool false))), [], [])))
            (some (V.c (C.f (F.sc (Value.bool false))), [], [])))
      (br (a0.kind == 2)
        (br (decide (a0.time ≥ 0))
          (br (decide (a0.time ≤ 100000))
            (some
              (V.c
                  (C.f
                    (F.sc
                      (Value.bool
                        (a0.kind == a0.kind &&
                          (a0.who == a0.who &&
                            (a0.domain == ByteArray.mk #[] && (a0.body == 0 && (a0.time == a0.time && true)))))))),
                [], []))
            (some (V.c (C.f (F.sc (Value.bool false))), [], [])))
          (some (V.c (C.f (F.sc (Value.bool false))), [], [])))
        (br (a0.kind == 3)
          (some
            (V.c
                (C.f
                  (F.sc
                    (Value.bool
                      (a0.kind == a0.kind &&
                        (a0.who == a0.who &&
                          (a0.domain == ByteArray.mk #[] && (a0.body == 0 && (a0.time == 0 && true)))))))),
              [], []))
          (br (a0.kind == 4)
            (some
              (V.c
                  (C.f
                    (F.sc
                      (Value.bool
                        (a0.kind == a0.kind &&
                          (a0.who == a0.who &&
                            (a0.domain == ByteArray.mk #[] && (a0.body == 0 && (a0.time == 0 && true)))))))),
                [], []))
            (some (V.c (C.f (F.sc (Value.bool false))), [], [])))))))
  (some (V.c (C.f (F.sc (Value.bool false))), [], [])) : Option (V × List Vm.Obj × List Vm.Obj)) := by kernel_rfl

theorem impl_modes_res (n : Nat) : resid Tryd.prog cfg RN n 33 [] [] = (some
  (V.c
      (C.f
        (F.sl true Kind.str
          [ByteArray.mk #[110, 111, 110, 101], ByteArray.mk #[116, 101, 115, 116],
            ByteArray.mk #[104, 111, 108, 100]])),
    [], []) : Option (V × List Vm.Obj × List Vm.Obj)) := by kernel_rfl

theorem impl_named_res (n : Nat) (a0 : Int) (t1 : Bool) (a1 : List ByteArray) : resid Tryd.prog cfg RN n 37 [.int a0, .sl t1 .str a1] [] = (br (decide (a0 ≥ 1))
  (br (!decide (a0 ≤ (↑a1.length : Int)))
    (some (V.c (C.f (F.sc (Value.string (ByteArray.mk #[110, 111, 110, 101])))), [], []))
    (qb (idx a1 (IntKind.i64.wrap (a0 - 1))) fun y => some (V.c (C.f (F.sc (Value.string y))), [], [])))
  (some (V.c (C.f (F.sc (Value.string (ByteArray.mk #[110, 111, 110, 101])))), [], [])) : Option (V × List Vm.Obj × List Vm.Obj)) := by kernel_rfl

theorem impl_domainOk_res (n : Nat) (a0 : ByteArray) : resid Tryd.prog cfg RN n 45 [.str a0] [] = (qb
  (lp Tryd.prog cfg RN n 5 45 2 0 n
    (St.mk
      (frOf
        [(0, V.c (C.f (F.sc (Value.string a0)))), (2, V.c (C.f (F.sc (Value.bool false)))),
          (5, V.c (C.f (F.sc (Value.int IntKind.i64 (↑a0.size : Int))))),
          (6, V.c (C.f (F.sc (Value.int IntKind.i64 0))))])
      (hpIds [])))
  fun r =>
  qb (qb (unC (r.snd.fr (0, Sh.str).fst)) fun y => fStr y) fun s =>
    qb (qb (unC (r.snd.fr (2, Sh.bool).fst)) fun y => fBool y) fun b =>
      br (isRetE r.fst) (some (V.c (C.f (F.sc (Value.bool b))), [], []))
        (br (isExt 0 r.fst)
          (br (decide ((↑s.size : Int) ≥ 1))
            (some (V.c (C.f (F.sc (Value.bool (decide ((↑s.size : Int) ≤ 10))))), [], []))
            (some (V.c (C.f (F.sc (Value.bool false))), [], [])))
          none) : Option (V × List Vm.Obj × List Vm.Obj)) := by kernel_rfl

theorem laws_FnExactNoteText_res (n : Nat) (a0 : Note) : resid Tryd.prog cfg RN n 3 [.ag (Note.cells a0)] [] = (qb
  (pres RN 7
    [V.agg
        [C.f (F.sc (Value.int IntKind.i64 a0.kind)), C.f (F.sc (Value.int IntKind.i64 a0.who)),
          C.f (F.sc (Value.string a0.domain)), C.f (F.sc (Value.int IntKind.i64 a0.body)),
          C.f (F.sc (Value.int IntKind.i64 a0.time))],
      V.c (C.f (F.sc (Value.int IntKind.i64 1048576)))])
  fun v =>
  qb (qb (unC v) fun y => fInt y) fun n =>
    br (decide (n < 0)) (some (V.c (C.f (F.sc (Value.bool true))), [], []))
      (qb
        (pres RN 9
          [V.agg
              [C.f (F.sc (Value.int IntKind.i64 a0.kind)), C.f (F.sc (Value.int IntKind.i64 a0.who)),
                C.f (F.sc (Value.string a0.domain)), C.f (F.sc (Value.int IntKind.i64 a0.body)),
                C.f (F.sc (Value.int IntKind.i64 a0.time))]])
        fun v =>
        qb (asEl Kind.note v) fun x =>
          qb
            (pres RN 8
              [V.agg
                  [C.f (F.sc (Value.int IntKind.i64 x.kind)), C.f (F.sc (Value.int IntKind.i64 x.who)),
                    C.f (F.sc (Value.string x.domain)), C.f (F.sc (Value.int IntKind.i64 x.body)),
                    C.f (F.sc (Value.int IntKind.i64 x.time))]])
            fun v =>
            qb (qb (unC v) fun y => fStr y) fun s =>
              qb
                (pres RN 9
                  [V.agg
                      [C.f (F.sc (Value.int IntKind.i64 a0.kind)), C.f (F.sc (Value.int IntKind.i64 a0.who)),
                        C.f (F.sc (Value.string a0.domain)), C.f (F.sc (Value.int IntKind.i64 a0.body)),
                        C.f (F.sc (Value.int IntKind.i64 a0.time))]])
                fun v =>
                qb (asEl Kind.note v) fun x =>
                  qb
                    (pres RN 10
                      [V.agg
                          [C.f (F.sc (Value.int IntKind.i64 x.kind)), C.f (F.sc (Value.int IntKind.i64 x.who)),
                            C.f (F.sc (Value.string x.domain)), C.f (F.sc (Value.int IntKind.i64 x.body)),
                            C.f (F.sc (Value.int IntKind.i64 x.time))]])
                    fun v =>
                    qb (qb (unC v) fun y => fStr y) fun s_1 =>
                      br (!s_1.toList == s.toList) (some (V.c (C.f (F.sc (Value.bool false))), [], []))
                        (some (V.c (C.f (F.sc (Value.bool true))), [], []))) : Option (V × List Vm.Obj × List Vm.Obj)) := by kernel_rfl

theorem laws_FnExactPolicyShown_res (n : Nat) (a0 : Policy) : resid Tryd.prog cfg RN n 4 [.ag (Policy.cells a0)] [] = (qb
  (pres RN 11
    [V.agg
        [C.f (F.sc (Value.string a0.domain)), C.f (F.sc (Value.int IntKind.i64 a0.mode)),
          C.f (F.sl false Kind.str a0.mx), C.f (F.sc (Value.int IntKind.i64 a0.til))],
      V.c (C.f (F.sc (Value.int IntKind.i64 1048576)))])
  fun v =>
  qb (qb (unC v) fun y => fInt y) fun n =>
    br (decide (n < 0)) (some (V.c (C.f (F.sc (Value.bool true))), [], []))
      (qb
        (pres RN 13
          [V.agg
              [C.f (F.sc (Value.string a0.domain)), C.f (F.sc (Value.int IntKind.i64 a0.mode)),
                C.f (F.sl false Kind.str a0.mx), C.f (F.sc (Value.int IntKind.i64 a0.til))]])
        fun v =>
        qb (asEl Kind.policy v) fun x =>
          qb
            (pres RN 12
              [V.agg
                  [C.f (F.sc (Value.string x.domain)), C.f (F.sc (Value.int IntKind.i64 x.mode)),
                    C.f (F.sl false Kind.str x.mx), C.f (F.sc (Value.int IntKind.i64 x.til))]])
            fun v =>
            qb (qb (unC v) fun y => fStr y) fun s =>
              qb
                (pres RN 13
                  [V.agg
                      [C.f (F.sc (Value.string a0.domain)), C.f (F.sc (Value.int IntKind.i64 a0.mode)),
                        C.f (F.sl false Kind.str a0.mx), C.f (F.sc (Value.int IntKind.i64 a0.til))]])
                fun v =>
                qb (asEl Kind.policy v) fun x =>
                  qb
                    (pres RN 14
                      [V.agg
                          [C.f (F.sc (Value.string x.domain)), C.f (F.sc (Value.int IntKind.i64 x.mode)),
                            C.f (F.sl false Kind.str x.mx), C.f (F.sc (Value.int IntKind.i64 x.til))]])
                    fun v =>
                    qb (qb (unC v) fun y => fStr y) fun s_1 =>
                      br (!s_1.toList == s.toList) (some (V.c (C.f (F.sc (Value.bool false))), [], []))
                        (qb
                          (pres RN 13
                            [V.agg
                                [C.f (F.sc (Value.string a0.domain)), C.f (F.sc (Value.int IntKind.i64 a0.mode)),
                                  C.f (F.sl false Kind.str a0.mx), C.f (F.sc (Value.int IntKind.i64 a0.til))]])
                          fun v =>
                          qb (asEl Kind.policy v) fun x_1 =>
                            qb
                              (pres RN 15
                                [V.agg
                                    [C.f (F.sc (Value.string x.domain)), C.f (F.sc (Value.int IntKind.i64 x.mode)),
                                      C.f (F.sl false Kind.str x.mx), C.f (F.sc (Value.int IntKind.i64 x.til))],
                                  V.agg
                                    [C.f (F.sc (Value.string x_1.domain)), C.f (F.sc (Value.int IntKind.i64 x_1.mode)),
                                      C.f (F.sl false Kind.str x_1.mx), C.f (F.sc (Value.int IntKind.i64 x_1.til))]])
                              fun v =>
                              qb (qb (unC v) fun y => fBool y) fun b =>
                                br (!b) (some (V.c (C.f (F.sc (Value.bool false))), [], []))
                                  (some (V.c (C.f (F.sc (Value.bool true))), [], [])))) : Option (V × List Vm.Obj × List Vm.Obj)) := by kernel_rfl

theorem laws_FnExactLetterText_res (n : Nat) (a0 : Letter) : resid Tryd.prog cfg RN n 5 [.ag (Letter.cells a0)] [] = (qb
  (pres RN 16
    [V.agg
        [C.f (F.sc (Value.string a0.domain)), C.f (F.sc (Value.int IntKind.i64 a0.body)),
          C.f (F.sc (Value.int IntKind.i64 a0.state)), C.f (F.sc (Value.int IntKind.i64 a0.tries)),
          C.f (F.sc (Value.int IntKind.i64 a0.next))],
      V.c (C.f (F.sc (Value.int IntKind.i64 1048576)))])
  fun v =>
  qb (qb (unC v) fun y => fInt y) fun n =>
    br (decide (n < 0)) (some (V.c (C.f (F.sc (Value.bool true))), [], []))
      (qb
        (pres RN 18
          [V.agg
              [C.f (F.sc (Value.string a0.domain)), C.f (F.sc (Value.int IntKind.i64 a0.body)),
                C.f (F.sc (Value.int IntKind.i64 a0.state)), C.f (F.sc (Value.int IntKind.i64 a0.tries)),
                C.f (F.sc (Value.int IntKind.i64 a0.next))]])
        fun v =>
        qb (asEl Kind.letter v) fun x =>
          qb
            (pres RN 17
              [V.agg
                  [C.f (F.sc (Value.string x.domain)), C.f (F.sc (Value.int IntKind.i64 x.body)),
                    C.f (F.sc (Value.int IntKind.i64 x.state)), C.f (F.sc (Value.int IntKind.i64 x.tries)),
                    C.f (F.sc (Value.int IntKind.i64 x.next))]])
            fun v =>
            qb (qb (unC v) fun y => fStr y) fun s =>
              qb
                (pres RN 18
                  [V.agg
                      [C.f (F.sc (Value.string a0.domain)), C.f (F.sc (Value.int IntKind.i64 a0.body)),
                        C.f (F.sc (Value.int IntKind.i64 a0.state)), C.f (F.sc (Value.int IntKind.i64 a0.tries)),
                        C.f (F.sc (Value.int IntKind.i64 a0.next))]])
                fun v =>
                qb (asEl Kind.letter v) fun x =>
                  qb
                    (pres RN 19
                      [V.agg
                          [C.f (F.sc (Value.string x.domain)), C.f (F.sc (Value.int IntKind.i64 x.body)),
                            C.f (F.sc (Value.int IntKind.i64 x.state)), C.f (F.sc (Value.int IntKind.i64 x.tries)),
                            C.f (F.sc (Value.int IntKind.i64 x.next))]])
                    fun v =>
                    qb (qb (unC v) fun y => fStr y) fun s_1 =>
                      br (!s_1.toList == s.toList) (some (V.c (C.f (F.sc (Value.bool false))), [], []))
                        (some (V.c (C.f (F.sc (Value.bool true))), [], []))) : Option (V × List Vm.Obj × List Vm.Obj)) := by kernel_rfl

theorem laws_FnExactServerText_res (n : Nat) (a0 : Server) : resid Tryd.prog cfg RN n 6 [.ag (Server.cells a0)] [] = (qb
  (pres RN 20
    [V.agg
        [C.f (F.sc (Value.int IntKind.i64 a0.step)), C.f (F.sc (Value.string a0.host)),
          C.f (F.sc (Value.int IntKind.i64 a0.key)), C.f (F.sc (Value.int IntKind.i64 a0.eph)),
          C.f (F.sc (Value.int IntKind.i64 a0.cert.op)), C.f (F.sc (Value.int IntKind.i64 a0.cert.n)),
          C.f (F.sc (Value.string a0.cert.s)), C.f (F.sl false Kind.term a0.cert.kids),
          C.f (F.sc (Value.int IntKind.i64 a0.share.op)), C.f (F.sc (Value.int IntKind.i64 a0.share.n)),
          C.f (F.sc (Value.string a0.share.s)), C.f (F.sl false Kind.term a0.share.kids),
          C.f (F.sc (Value.int IntKind.i64 a0.inn)), C.f (F.sc (Value.int IntKind.i64 a0.out)),
          C.f (F.sc (Value.bool a0.tls)), C.f (F.sl false Kind.int a0.got)],
      V.c (C.f (F.sc (Value.int IntKind.i64 1048576)))])
  fun v =>
  qb (qb (unC v) fun y => fInt y) fun n =>
    br (decide (n < 0)) (some (V.c (C.f (F.sc (Value.bool true))), [], []))
      (qb
        (pres RN 22
          [V.agg
              [C.f (F.sc (Value.int IntKind.i64 a0.step)), C.f (F.sc (Value.string a0.host)),
                C.f (F.sc (Value.int IntKind.i64 a0.key)), C.f (F.sc (Value.int IntKind.i64 a0.eph)),
                C.f (F.sc (Value.int IntKind.i64 a0.cert.op)), C.f (F.sc (Value.int IntKind.i64 a0.cert.n)),
                C.f (F.sc (Value.string a0.cert.s)), C.f (F.sl false Kind.term a0.cert.kids),
                C.f (F.sc (Value.int IntKind.i64 a0.share.op)), C.f (F.sc (Value.int IntKind.i64 a0.share.n)),
                C.f (F.sc (Value.string a0.share.s)), C.f (F.sl false Kind.term a0.share.kids),
                C.f (F.sc (Value.int IntKind.i64 a0.inn)), C.f (F.sc (Value.int IntKind.i64 a0.out)),
                C.f (F.sc (Value.bool a0.tls)), C.f (F.sl false Kind.int a0.got)]])
        fun v =>
        qb (asServer v) fun x =>
          qb
            (pres RN 21
              [V.agg
                  [C.f (F.sc (Value.int IntKind.i64 x.step)), C.f (F.sc (Value.string x.host)),
                    C.f (F.sc (Value.int IntKind.i64 x.key)), C.f (F.sc (Value.int IntKind.i64 x.eph)),
                    C.f (F.sc (Value.int IntKind.i64 x.cert.op)), C.f (F.sc (Value.int IntKind.i64 x.cert.n)),
                    C.f (F.sc (Value.string x.cert.s)), C.f (F.sl false Kind.term x.cert.kids),
                    C.f (F.sc (Value.int IntKind.i64 x.share.op)), C.f (F.sc (Value.int IntKind.i64 x.share.n)),
                    C.f (F.sc (Value.string x.share.s)), C.f (F.sl false Kind.term x.share.kids),
                    C.f (F.sc (Value.int IntKind.i64 x.inn)), C.f (F.sc (Value.int IntKind.i64 x.out)),
                    C.f (F.sc (Value.bool x.tls)), C.f (F.sl false Kind.int x.got)]])
            fun v =>
            qb (qb (unC v) fun y => fStr y) fun s =>
              qb
                (pres RN 22
                  [V.agg
                      [C.f (F.sc (Value.int IntKind.i64 a0.step)), C.f (F.sc (Value.string a0.host)),
                        C.f (F.sc (Value.int IntKind.i64 a0.key)), C.f (F.sc (Value.int IntKind.i64 a0.eph)),
                        C.f (F.sc (Value.int IntKind.i64 a0.cert.op)), C.f (F.sc (Value.int IntKind.i64 a0.cert.n)),
                        C.f (F.sc (Value.string a0.cert.s)), C.f (F.sl false Kind.term a0.cert.kids),
                        C.f (F.sc (Value.int IntKind.i64 a0.share.op)), C.f (F.sc (Value.int IntKind.i64 a0.share.n)),
                        C.f (F.sc (Value.string a0.share.s)), C.f (F.sl false Kind.term a0.share.kids),
                        C.f (F.sc (Value.int IntKind.i64 a0.inn)), C.f (F.sc (Value.int IntKind.i64 a0.out)),
                        C.f (F.sc (Value.bool a0.tls)), C.f (F.sl false Kind.int a0.got)]])
                fun v =>
                qb (asServer v) fun x =>
                  qb
                    (pres RN 23
                      [V.agg
                          [C.f (F.sc (Value.int IntKind.i64 x.step)), C.f (F.sc (Value.string x.host)),
                            C.f (F.sc (Value.int IntKind.i64 x.key)), C.f (F.sc (Value.int IntKind.i64 x.eph)),
                            C.f (F.sc (Value.int IntKind.i64 x.cert.op)), C.f (F.sc (Value.int IntKind.i64 x.cert.n)),
                            C.f (F.sc (Value.string x.cert.s)), C.f (F.sl false Kind.term x.cert.kids),
                            C.f (F.sc (Value.int IntKind.i64 x.share.op)), C.f (F.sc (Value.int IntKind.i64 x.share.n)),
                            C.f (F.sc (Value.string x.share.s)), C.f (F.sl false Kind.term x.share.kids),
                            C.f (F.sc (Value.int IntKind.i64 x.inn)), C.f (F.sc (Value.int IntKind.i64 x.out)),
                            C.f (F.sc (Value.bool x.tls)), C.f (F.sl false Kind.int x.got)]])
                    fun v =>
                    qb (qb (unC v) fun y => fStr y) fun s_1 =>
                      br (!s_1.toList == s.toList) (some (V.c (C.f (F.sc (Value.bool false))), [], []))
                        (qb
                          (pres RN 22
                            [V.agg
                                [C.f (F.sc (Value.int IntKind.i64 a0.step)), C.f (F.sc (Value.string a0.host)),
                                  C.f (F.sc (Value.int IntKind.i64 a0.key)), C.f (F.sc (Value.int IntKind.i64 a0.eph)),
                                  C.f (F.sc (Value.int IntKind.i64 a0.cert.op)),
                                  C.f (F.sc (Value.int IntKind.i64 a0.cert.n)), C.f (F.sc (Value.string a0.cert.s)),
                                  C.f (F.sl false Kind.term a0.cert.kids),
                                  C.f (F.sc (Value.int IntKind.i64 a0.share.op)),
                                  C.f (F.sc (Value.int IntKind.i64 a0.share.n)), C.f (F.sc (Value.string a0.share.s)),
                                  C.f (F.sl false Kind.term a0.share.kids), C.f (F.sc (Value.int IntKind.i64 a0.inn)),
                                  C.f (F.sc (Value.int IntKind.i64 a0.out)), C.f (F.sc (Value.bool a0.tls)),
                                  C.f (F.sl false Kind.int a0.got)]])
                          fun v =>
                          qb (asServer v) fun x_1 =>
                            qb
                              (pres RN 24
                                [V.agg
                                    [C.f (F.sc (Value.int IntKind.i64 x.step)), C.f (F.sc (Value.string x.host)),
                                      C.f (F.sc (Value.int IntKind.i64 x.key)),
                                      C.f (F.sc (Value.int IntKind.i64 x.eph)),
                                      C.f (F.sc (Value.int IntKind.i64 x.cert.op)),
                                      C.f (F.sc (Value.int IntKind.i64 x.cert.n)), C.f (F.sc (Value.string x.cert.s)),
                                      C.f (F.sl false Kind.term x.cert.kids),
                                      C.f (F.sc (Value.int IntKind.i64 x.share.op)),
                                      C.f (F.sc (Value.int IntKind.i64 x.share.n)), C.f (F.sc (Value.string x.share.s)),
                                      C.f (F.sl false Kind.term x.share.kids), C.f (F.sc (Value.int IntKind.i64 x.inn)),
                                      C.f (F.sc (Value.int IntKind.i64 x.out)), C.f (F.sc (Value.bool x.tls)),
                                      C.f (F.sl false Kind.int x.got)],
                                  V.agg
                                    [C.f (F.sc (Value.int IntKind.i64 x_1.step)), C.f (F.sc (Value.string x_1.host)),
                                      C.f (F.sc (Value.int IntKind.i64 x_1.key)),
                                      C.f (F.sc (Value.int IntKind.i64 x_1.eph)),
                                      C.f (F.sc (Value.int IntKind.i64 x_1.cert.op)),
                                      C.f (F.sc (Value.int IntKind.i64 x_1.cert.n)),
                                      C.f (F.sc (Value.string x_1.cert.s)), C.f (F.sl false Kind.term x_1.cert.kids),
                                      C.f (F.sc (Value.int IntKind.i64 x_1.share.op)),
                                      C.f (F.sc (Value.int IntKind.i64 x_1.share.n)),
                                      C.f (F.sc (Value.string x_1.share.s)), C.f (F.sl false Kind.term x_1.share.kids),
                                      C.f (F.sc (Value.int IntKind.i64 x_1.inn)),
                                      C.f (F.sc (Value.int IntKind.i64 x_1.out)), C.f (F.sc (Value.bool x_1.tls)),
                                      C.f (F.sl false Kind.int x_1.got)]])
                              fun v =>
                              qb (qb (unC v) fun y => fBool y) fun b =>
                                br (!b) (some (V.c (C.f (F.sc (Value.bool false))), [], []))
                                  (some (V.c (C.f (F.sc (Value.bool true))), [], [])))) : Option (V × List Vm.Obj × List Vm.Obj)) := by kernel_rfl

theorem laws_szStringS_round5 (n : Nat) (t0 : Bool) (x0 : List ByteArray) (x1 : Int) (x4 : Int) (x5 : Int) : roundK Tryd.prog cfg RN n 5 29 5 0 ⟨frOf [(0, .sl t0 .str x0), (1, .int x1), (4, .int x4), (5, .int x5)], hpIds []⟩ = (br (decide (x5 < (↑x0.length : Int)))
  (qb (idx x0 x5) fun y =>
    br (decide (IntKind.i64.wrap (x1 - (↑(ByteArray.size y) : Int)) < 0))
      (some
        (Ex.ret,
          St.mk
            (frOf
              [(1, V.c (C.f (F.sc (Value.int IntKind.i64 (IntKind.i64.wrap (x1 - (↑(ByteArray.size y) : Int))))))),
                (4, V.c (C.f (F.sc (Value.int IntKind.i64 (-1)))))])
            (hpIds [])))
      (some
        (Ex.nrm,
          St.mk
            (frOf
              [(0, V.c (C.f (F.sl t0 Kind.str x0))),
                (1, V.c (C.f (F.sc (Value.int IntKind.i64 (IntKind.i64.wrap (x1 - (↑(ByteArray.size y) : Int))))))),
                (4, V.c (C.f (F.sc (Value.int IntKind.i64 x4)))),
                (5, V.c (C.f (F.sc (Value.int IntKind.i64 (IntKind.i64.wrap (x5 + 1))))))])
            (hpIds []))))
  (some
    (Ex.ext 0,
      St.mk (frOf [(1, V.c (C.f (F.sc (Value.int IntKind.i64 x1)))), (4, V.c (C.f (F.sc (Value.int IntKind.i64 x4))))])
        (hpIds []))) : Option (Ex × St)) := by kernel_rfl

theorem laws_toStringS_round3 (n : Nat) (t0 : Bool) (x0 : List ByteArray) (x3 : List ByteArray) (x4 : Int) : roundK Tryd.prog cfg RN n 5 31 3 0 ⟨frOf [(0, .sl t0 .str x0), (3, .c (.row (.own 3) .str)), (4, .int x4)], hpIds [(.own 3, .row true .str x3)]⟩ = (br (decide (x4 < (↑x0.length : Int)))
  (qb (idx x0 x4) fun y =>
    qb (idx x3 x4) fun x =>
      qb x3[x4.toNat]? fun x =>
        some
          (Ex.nrm,
            St.mk
              (frOf
                [(0, V.c (C.f (F.sl t0 Kind.str x0))), (3, V.c (C.row (Id.own 3) Kind.str)),
                  (4, V.c (C.f (F.sc (Value.int IntKind.i64 (IntKind.i64.wrap (x4 + 1))))))])
              (hpIds [(Id.own 3, Obj.row true Kind.str (x3.set x4.toNat y))])))
  (some (Ex.ext 0, St.mk (frOf [(3, V.c (C.row (Id.own 3) Kind.str))]) (hpIds [(Id.own 3, Obj.row true Kind.str x3)]))) : Option (Ex × St)) := by kernel_rfl

theorem laws_eqStringS_round4 (n : Nat) (t0 : Bool) (x0 : List ByteArray) (t1 : Bool) (x1 : List ByteArray) (x4 : Bool) (x5 : Int) : roundK Tryd.prog cfg RN n 5 34 4 0 ⟨frOf [(0, .sl t0 .str x0), (1, .sl t1 .str x1), (4, .bool x4), (5, .int x5)], hpIds []⟩ = (br (decide (x5 < (↑x0.length : Int)))
  (qb (idx x0 x5) fun y =>
    qb (idx x1 x5) fun y_1 =>
      br (!ByteArray.toList y == ByteArray.toList y_1)
        (some (Ex.ret, St.mk (frOf [(4, V.c (C.f (F.sc (Value.bool false))))]) (hpIds [])))
        (some
          (Ex.nrm,
            St.mk
              (frOf
                [(0, V.c (C.f (F.sl t0 Kind.str x0))), (1, V.c (C.f (F.sl t1 Kind.str x1))),
                  (4, V.c (C.f (F.sc (Value.bool x4)))),
                  (5, V.c (C.f (F.sc (Value.int IntKind.i64 (IntKind.i64.wrap (x5 + 1))))))])
              (hpIds []))))
  (some (Ex.ext 0, St.mk (frOf [(4, V.c (C.f (F.sc (Value.bool x4))))]) (hpIds []))) : Option (Ex × St)) := by kernel_rfl

theorem laws_toIntS_round3 (n : Nat) (t0 : Bool) (x0 : List (El .int)) (x3 : List (El .int)) (x4 : Int) : roundK Tryd.prog cfg RN n 5 41 3 0 ⟨frOf [(0, .sl t0 .int x0), (3, .c (.row (.own 3) .int)), (4, .int x4)], hpIds [(.own 3, .row true .int x3)]⟩ = (br (decide (x4 < (↑x0.length : Int)))
  (qb (idx x0 x4) fun y =>
    qb (idx x3 x4) fun x =>
      qb x3[x4.toNat]? fun x =>
        some
          (Ex.nrm,
            St.mk
              (frOf
                [(0, V.c (C.f (F.sl t0 Kind.int x0))), (3, V.c (C.row (Id.own 3) Kind.int)),
                  (4, V.c (C.f (F.sc (Value.int IntKind.i64 (IntKind.i64.wrap (x4 + 1))))))])
              (hpIds [(Id.own 3, Obj.row true Kind.int (x3.set x4.toNat y))])))
  (some (Ex.ext 0, St.mk (frOf [(3, V.c (C.row (Id.own 3) Kind.int))]) (hpIds [(Id.own 3, Obj.row true Kind.int x3)]))) : Option (Ex × St)) := by kernel_rfl

theorem laws_eqIntS_round4 (n : Nat) (t0 : Bool) (x0 : List (El .int)) (t1 : Bool) (x1 : List (El .int)) (x4 : Bool) (x5 : Int) : roundK Tryd.prog cfg RN n 5 43 4 0 ⟨frOf [(0, .sl t0 .int x0), (1, .sl t1 .int x1), (4, .bool x4), (5, .int x5)], hpIds []⟩ = (br (decide (x5 < (↑x0.length : Int)))
  (qb (idx x0 x5) fun y =>
    qb (idx x1 x5) fun y_1 =>
      br (y != y_1) (some (Ex.ret, St.mk (frOf [(4, V.c (C.f (F.sc (Value.bool false))))]) (hpIds [])))
        (some
          (Ex.nrm,
            St.mk
              (frOf
                [(0, V.c (C.f (F.sl t0 Kind.int x0))), (1, V.c (C.f (F.sl t1 Kind.int x1))),
                  (4, V.c (C.f (F.sc (Value.bool x4)))),
                  (5, V.c (C.f (F.sc (Value.int IntKind.i64 (IntKind.i64.wrap (x5 + 1))))))])
              (hpIds []))))
  (some (Ex.ext 0, St.mk (frOf [(4, V.c (C.f (F.sc (Value.bool x4))))]) (hpIds []))) : Option (Ex × St)) := by kernel_rfl

theorem laws_szTermS_round5 (n : Nat) (t0 : Bool) (x0 : List Term) (x1 : Int) (x4 : Int) (x5 : Int) : roundK Tryd.prog cfg RN n 5 52 5 0 ⟨frOf [(0, .sl t0 .term x0), (1, .int x1), (4, .int x4), (5, .int x5)], hpIds []⟩ = (br (decide (x5 < (↑x0.length : Int)))
  (qb (idx x0 x5) fun y =>
    qb
      (pres RN 38
        [V.agg
            [C.f (F.sc (Value.int IntKind.i64 y.op)), C.f (F.sc (Value.int IntKind.i64 y.n)),
              C.f (F.sc (Value.string y.s)), C.f (F.sl false Kind.term y.kids)],
          V.c (C.f (F.sc (Value.int IntKind.i64 x1)))])
      fun v =>
      qb (qb (unC v) fun y => fInt y) fun n =>
        br (decide (n < 0))
          (some
            (Ex.ret,
              St.mk
                (frOf
                  [(1, V.c (C.f (F.sc (Value.int IntKind.i64 n)))), (4, V.c (C.f (F.sc (Value.int IntKind.i64 (-1)))))])
                (hpIds [])))
          (some
            (Ex.nrm,
              St.mk
                (frOf
                  [(0, V.c (C.f (F.sl t0 Kind.term x0))), (1, V.c (C.f (F.sc (Value.int IntKind.i64 n)))),
                    (4, V.c (C.f (F.sc (Value.int IntKind.i64 x4)))),
                    (5, V.c (C.f (F.sc (Value.int IntKind.i64 (IntKind.i64.wrap (x5 + 1))))))])
                (hpIds []))))
  (some
    (Ex.ext 0,
      St.mk (frOf [(1, V.c (C.f (F.sc (Value.int IntKind.i64 x1)))), (4, V.c (C.f (F.sc (Value.int IntKind.i64 x4))))])
        (hpIds []))) : Option (Ex × St)) := by kernel_rfl

theorem laws_toTermS_round3 (n : Nat) (t0 : Bool) (x0 : List Term) (x3 : List Term) (x4 : Int) : roundK Tryd.prog cfg RN n 5 53 3 0 ⟨frOf [(0, .sl t0 .term x0), (3, .c (.row (.own 3) .term)), (4, .int x4)], hpIds [(.own 3, .row true .term x3)]⟩ = (br (decide (x4 < (↑x0.length : Int)))
  (qb (idx x0 x4) fun y =>
    qb
      (pres RN 40
        [V.agg
            [C.f (F.sc (Value.int IntKind.i64 y.op)), C.f (F.sc (Value.int IntKind.i64 y.n)),
              C.f (F.sc (Value.string y.s)), C.f (F.sl false Kind.term y.kids)]])
      fun v =>
      qb (asEl Kind.term v) fun x =>
        qb (idx x3 x4) fun x_1 =>
          qb x3[x4.toNat]? fun x_2 =>
            some
              (Ex.nrm,
                St.mk
                  (frOf
                    [(0, V.c (C.f (F.sl t0 Kind.term x0))), (3, V.c (C.row (Id.own 3) Kind.term)),
                      (4, V.c (C.f (F.sc (Value.int IntKind.i64 (IntKind.i64.wrap (x4 + 1))))))])
                  (hpIds [(Id.own 3, Obj.row true Kind.term (x3.set x4.toNat (Term.mk x.op x.n x.s x.kids)))])))
  (some
    (Ex.ext 0, St.mk (frOf [(3, V.c (C.row (Id.own 3) Kind.term))]) (hpIds [(Id.own 3, Obj.row true Kind.term x3)]))) : Option (Ex × St)) := by kernel_rfl

theorem laws_eqTermS_round4 (n : Nat) (t0 : Bool) (x0 : List Term) (t1 : Bool) (x1 : List Term) (x4 : Bool) (x5 : Int) : roundK Tryd.prog cfg RN n 5 54 4 0 ⟨frOf [(0, .sl t0 .term x0), (1, .sl t1 .term x1), (4, .bool x4), (5, .int x5)], hpIds []⟩ = (br (decide (x5 < (↑x0.length : Int)))
  (qb (idx x0 x5) fun y =>
    qb (idx x1 x5) fun y_1 =>
      qb
        (pres RN 42
          [V.agg
              [C.f (F.sc (Value.int IntKind.i64 y.op)), C.f (F.sc (Value.int IntKind.i64 y.n)),
                C.f (F.sc (Value.string y.s)), C.f (F.sl false Kind.term y.kids)],
            V.agg
              [C.f (F.sc (Value.int IntKind.i64 y_1.op)), C.f (F.sc (Value.int IntKind.i64 y_1.n)),
                C.f (F.sc (Value.string y_1.s)), C.f (F.sl false Kind.term y_1.kids)]])
        fun v =>
        qb (qb (unC v) fun y => fBool y) fun b =>
          br (!b) (some (Ex.ret, St.mk (frOf [(4, V.c (C.f (F.sc (Value.bool false))))]) (hpIds [])))
            (some
              (Ex.nrm,
                St.mk
                  (frOf
                    [(0, V.c (C.f (F.sl t0 Kind.term x0))), (1, V.c (C.f (F.sl t1 Kind.term x1))),
                      (4, V.c (C.f (F.sc (Value.bool x4)))),
                      (5, V.c (C.f (F.sc (Value.int IntKind.i64 (IntKind.i64.wrap (x5 + 1))))))])
                  (hpIds []))))
  (some (Ex.ext 0, St.mk (frOf [(4, V.c (C.f (F.sc (Value.bool x4))))]) (hpIds []))) : Option (Ex × St)) := by kernel_rfl

theorem spec_PolicyShown_round6 (n : Nat) (x4 : ByteArray) (x5 : Int) (y1 : Policy) : roundK Tryd.prog cfg RN n 5 12 6 0 ⟨frOf [(1, .c (.bx (.own 1) 0)), (4, .str x4), (5, .int x5)], hpIds [(.own 1, .box ((Policy.cells y1).map C.f))]⟩ = (br (decide (x5 < (↑y1.mx.length : Int)))
  (qb (catOk x4 (ByteArray.mk #[32])) fun x =>
    qb (idx y1.mx x5) fun y =>
      qb (catOk (x4 ++ ByteArray.mk #[32]) y) fun x =>
        some
          (Ex.nrm,
            St.mk
              (frOf
                [(1, V.c (C.bx (Id.own 1) 0)), (4, V.c (C.f (F.sc (Value.string (x4 ++ ByteArray.mk #[32] ++ y))))),
                  (5, V.c (C.f (F.sc (Value.int IntKind.i64 (IntKind.i64.wrap (x5 + 1))))))])
              (hpIds
                [(Id.own 1,
                    Obj.box
                      [C.f (F.sc (Value.string y1.domain)), C.f (F.sc (Value.int IntKind.i64 y1.mode)),
                        C.f (F.sl false Kind.str y1.mx), C.f (F.sc (Value.int IntKind.i64 y1.til))])])))
  (some
    (Ex.ext 0,
      St.mk (frOf [(1, V.c (C.bx (Id.own 1) 0)), (4, V.c (C.f (F.sc (Value.string x4))))])
        (hpIds
          [(Id.own 1,
              Obj.box
                [C.f (F.sc (Value.string y1.domain)), C.f (F.sc (Value.int IntKind.i64 y1.mode)),
                  C.f (F.sl false Kind.str y1.mx), C.f (F.sc (Value.int IntKind.i64 y1.til))])]))) : Option (Ex × St)) := by kernel_rfl

theorem spec_l1Digits_round5 (n : Nat) (x0 : Int) (x3 : Bool) (x4 : ByteArray) : roundK Tryd.prog cfg RN n 5 26 5 0 ⟨frOf [(0, .int x0), (3, .bool x3), (4, .str x4)], hpIds []⟩ = (br (x0 != 0)
  (qb (ne0 10) fun x =>
    br (decide (x0.tmod 10 < 0))
      (qb (u8of (IntKind.u8.wrap (IntKind.i64.wrap (48 + IntKind.i64.wrap (0 - x0.tmod 10))))) fun y =>
        qb (catOk (ByteArray.mk #[y]) x4) fun x =>
          qb (ne0 10) fun x =>
            some
              (Ex.nrm,
                St.mk
                  (frOf
                    [(0, V.c (C.f (F.sc (Value.int IntKind.i64 (IntKind.i64.wrap (x0.tdiv 10)))))),
                      (3, V.c (C.f (F.sc (Value.bool x3)))),
                      (4, V.c (C.f (F.sc (Value.string (ByteArray.mk #[y] ++ x4)))))])
                  (hpIds [])))
      (qb (u8of (IntKind.u8.wrap (IntKind.i64.wrap (48 + x0.tmod 10)))) fun y =>
        qb (catOk (ByteArray.mk #[y]) x4) fun x =>
          qb (ne0 10) fun x =>
            some
              (Ex.nrm,
                St.mk
                  (frOf
                    [(0, V.c (C.f (F.sc (Value.int IntKind.i64 (IntKind.i64.wrap (x0.tdiv 10)))))),
                      (3, V.c (C.f (F.sc (Value.bool x3)))),
                      (4, V.c (C.f (F.sc (Value.string (ByteArray.mk #[y] ++ x4)))))])
                  (hpIds []))))
  (some
    (Ex.ext 0,
      St.mk (frOf [(3, V.c (C.f (F.sc (Value.bool x3)))), (4, V.c (C.f (F.sc (Value.string x4))))]) (hpIds []))) : Option (Ex × St)) := by kernel_rfl

theorem spec_l6Domain_round2 (n : Nat) (x0 : ByteArray) (x2 : Bool) (x3 : Int) : roundK Tryd.prog cfg RN n 5 44 2 0 ⟨frOf [(0, .str x0), (2, .bool x2), (3, .int x3)], hpIds []⟩ = (br (decide (x3 < (↑x0.size : Int)))
  (qb (byteAt x0 x3) fun b =>
    br (decide (b < 97))
      (some
        (Ex.ret,
          St.mk (frOf [(0, V.c (C.f (F.sc (Value.string x0)))), (2, V.c (C.f (F.sc (Value.bool false))))]) (hpIds [])))
      (qb (byteAt x0 x3) fun b =>
        br (decide (b > 122))
          (some
            (Ex.ret,
              St.mk (frOf [(0, V.c (C.f (F.sc (Value.string x0)))), (2, V.c (C.f (F.sc (Value.bool false))))])
                (hpIds [])))
          (some
            (Ex.nrm,
              St.mk
                (frOf
                  [(0, V.c (C.f (F.sc (Value.string x0)))), (2, V.c (C.f (F.sc (Value.bool x2)))),
                    (3, V.c (C.f (F.sc (Value.int IntKind.i64 (IntKind.i64.wrap (x3 + 1))))))])
                (hpIds [])))))
  (some
    (Ex.ext 0,
      St.mk (frOf [(0, V.c (C.f (F.sc (Value.string x0)))), (2, V.c (C.f (F.sc (Value.bool x2))))]) (hpIds []))) : Option (Ex × St)) := by kernel_rfl

theorem impl_PolicyShown_round6 (n : Nat) (x4 : ByteArray) (t21 : Bool) (x21 : List ByteArray) (x22 : Int) (x23 : Int) (y1 : Policy) : roundK Tryd.prog cfg RN n 5 14 6 0 ⟨frOf [(1, .c (.bx (.own 1) 0)), (4, .str x4), (21, .sl t21 .str x21), (22, .int x22), (23, .int x23)], hpIds [(.own 1, .box ((Policy.cells y1).map C.f))]⟩ = (br (decide (x23 < x22))
  (qb (idx x21 x23) fun y =>
    qb (catOk (ByteArray.mk #[32]) y) fun x =>
      qb (catOk x4 (ByteArray.mk #[32] ++ y)) fun x =>
        some
          (Ex.nrm,
            St.mk
              (frOf
                [(1, V.c (C.bx (Id.own 1) 0)), (4, V.c (C.f (F.sc (Value.string (x4 ++ (ByteArray.mk #[32] ++ y)))))),
                  (21, V.c (C.f (F.sl t21 Kind.str x21))), (22, V.c (C.f (F.sc (Value.int IntKind.i64 x22)))),
                  (23, V.c (C.f (F.sc (Value.int IntKind.i64 (IntKind.i64.wrap (x23 + 1))))))])
              (hpIds
                [(Id.own 1,
                    Obj.box
                      [C.f (F.sc (Value.string y1.domain)), C.f (F.sc (Value.int IntKind.i64 y1.mode)),
                        C.f (F.sl false Kind.str y1.mx), C.f (F.sc (Value.int IntKind.i64 y1.til))])])))
  (some
    (Ex.ext 0,
      St.mk (frOf [(1, V.c (C.bx (Id.own 1) 0)), (4, V.c (C.f (F.sc (Value.string x4))))])
        (hpIds
          [(Id.own 1,
              Obj.box
                [C.f (F.sc (Value.string y1.domain)), C.f (F.sc (Value.int IntKind.i64 y1.mode)),
                  C.f (F.sl false Kind.str y1.mx), C.f (F.sc (Value.int IntKind.i64 y1.til))])]))) : Option (Ex × St)) := by kernel_rfl

theorem impl_domainOk_round2 (n : Nat) (x0 : ByteArray) (x2 : Bool) (x5 : Int) (x6 : Int) : roundK Tryd.prog cfg RN n 5 45 2 0 ⟨frOf [(0, .str x0), (2, .bool x2), (5, .int x5), (6, .int x6)], hpIds []⟩ = (br (decide (x6 < x5))
  (qb (byteAt x0 x6) fun b =>
    br (decide (b < 97))
      (some
        (Ex.ret,
          St.mk (frOf [(0, V.c (C.f (F.sc (Value.string x0)))), (2, V.c (C.f (F.sc (Value.bool false))))]) (hpIds [])))
      (qb (byteAt x0 x6) fun b =>
        br (decide (b > 122))
          (some
            (Ex.ret,
              St.mk (frOf [(0, V.c (C.f (F.sc (Value.string x0)))), (2, V.c (C.f (F.sc (Value.bool false))))])
                (hpIds [])))
          (some
            (Ex.nrm,
              St.mk
                (frOf
                  [(0, V.c (C.f (F.sc (Value.string x0)))), (2, V.c (C.f (F.sc (Value.bool x2)))),
                    (5, V.c (C.f (F.sc (Value.int IntKind.i64 x5)))),
                    (6, V.c (C.f (F.sc (Value.int IntKind.i64 (IntKind.i64.wrap (x6 + 1))))))])
                (hpIds [])))))
  (some
    (Ex.ext 0,
      St.mk (frOf [(0, V.c (C.f (F.sc (Value.string x0)))), (2, V.c (C.f (F.sc (Value.bool x2))))]) (hpIds []))) : Option (Ex × St)) := by kernel_rfl

end Go.Proofs.YthhgnkogjccceaaDoor
