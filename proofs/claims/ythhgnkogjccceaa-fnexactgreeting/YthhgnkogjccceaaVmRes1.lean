/-
  What each function comes to, step by step, over what the others answer.
-/
import Derived.Test.YthhgnkogjccceaaVmSeat1
namespace Go.Proofs.Ythhgnkogjccceaa
open Go.Vm
set_option linter.unusedVariables false

theorem spec_l6Domain_res (n : Nat) (a0 : ByteArray) : resid Try.prog cfg RN n 35 [.str a0] [] = (qb
  (lp Try.prog cfg RN n 5 35 2 0 n
    (St.mk
      (frOf
        [(0, V.c (C.f (F.sc (Value.string a0)))), (2, V.c (C.f (F.sc (Value.bool false)))),
          (3, V.c (C.f (F.sc (Value.int IntKind.i64 0))))])
      (hpIds [])))
  fun r =>
  qb (qb (unC (r.snd.fr (0, Sh.str).fst)) fun y => fStr y) fun s =>
    qb (qb (unC (r.snd.fr (2, Sh.bool).fst)) fun y => fBool y) fun b =>
      br (isRetE r.fst) (some (V.c (C.f (F.sc (Value.bool b))), [], []))
        (br (isExt 0 r.fst)
          (br (decide ((↑s.size : Int) ≥ 1))
            (some (V.c (C.f (F.sc (Value.bool (decide ((↑s.size : Int) ≤ 10))))), [], []))
            (some (V.c (C.f (F.sc (Value.bool false))), [], [])))
          none) : Option (V × List Vm.Obj × List Vm.Obj)) := by kernel_rfl

theorem impl_domainOk_res (n : Nat) (a0 : ByteArray) : resid Try.prog cfg RN n 37 [.str a0] [] = (qb
  (lp Try.prog cfg RN n 5 37 2 0 n
    (St.mk
      (frOf
        [(0, V.c (C.f (F.sc (Value.string a0)))), (2, V.c (C.f (F.sc (Value.bool false)))),
          (5, V.c (C.f (F.sc (Value.int IntKind.i64 (↑a0.size : Int))))),
          (6, V.c (C.f (F.sc (Value.int IntKind.i64 0))))])
      (hpIds [])))
  fun r =>
  qb (qb (unC (r.snd.fr (0, Sh.str).fst)) fun y => fStr y) fun s =>
    qb (qb (unC (r.snd.fr (2, Sh.bool).fst)) fun y => fBool y) fun b =>
      br (isRetE r.fst) (some (V.c (C.f (F.sc (Value.bool b))), [], []))
        (br (isExt 0 r.fst)
          (br (decide ((↑s.size : Int) ≥ 1))
            (some (V.c (C.f (F.sc (Value.bool (decide ((↑s.size : Int) ≤ 10))))), [], []))
            (some (V.c (C.f (F.sc (Value.bool false))), [], [])))
          none) : Option (V × List Vm.Obj × List Vm.Obj)) := by kernel_rfl

theorem spec_LetterOk_res (n : Nat) (a0 : Letter) : resid Try.prog cfg RN n 14 [.ag (Letter.cells a0)] [] = (qb (pres RN 35 [V.c (C.f (F.sc (Value.string a0.domain)))]) fun v =>
  qb (qb (unC v) fun y => fBool y) fun b =>
    br b
      (br (decide (a0.body ≥ 0))
        (br (decide (a0.body ≤ 1000000))
          (br (decide (a0.state ≥ 1))
            (br (decide (a0.state ≤ 3))
              (br (decide (a0.tries ≥ 0))
                (br (decide (a0.tries ≤ 4))
                  (br (decide (a0.next ≥ 0)) (some (V.c (C.f (F.sc (Value.bool (decide (a0.next ≤ 100000))))), [], []))
                    (some (V.c (C.f (F.sc (Value.bool false))), [], [])))
                  (some (V.c (C.f (F.sc (Value.bool false))), [], [])))
                (some (V.c (C.f (F.sc (Value.bool false))), [], [])))
              (some (V.c (C.f (F.sc (Value.bool false))), [], [])))
            (some (V.c (C.f (F.sc (Value.bool false))), [], [])))
          (some (V.c (C.f (F.sc (Value.bool false))), [], [])))
        (some (V.c (C.f (F.sc (Value.bool false))), [], [])))
      (some (V.c (C.f (F.sc (Value.bool false))), [], [])) : Option (V × List Vm.Obj × List Vm.Obj)) := by kernel_rfl

theorem impl_LetterOk_res (n : Nat) (a0 : Letter) : resid Try.prog cfg RN n 15 [.ag (Letter.cells a0)] [] = (qb (pres RN 37 [V.c (C.f (F.sc (Value.string a0.domain)))]) fun v =>
  qb (qb (unC v) fun y => fBool y) fun b =>
    br b
      (br (decide (a0.body ≥ 0))
        (br (decide (a0.body ≤ 1000000))
          (br (decide (a0.state ≥ 1))
            (br (decide (a0.state ≤ 3))
              (br (decide (a0.tries ≥ 0))
                (br (decide (a0.tries ≤ 4))
                  (br (decide (a0.next ≥ 0)) (some (V.c (C.f (F.sc (Value.bool (decide (a0.next ≤ 100000))))), [], []))
                    (some (V.c (C.f (F.sc (Value.bool false))), [], [])))
                  (some (V.c (C.f (F.sc (Value.bool false))), [], [])))
                (some (V.c (C.f (F.sc (Value.bool false))), [], [])))
              (some (V.c (C.f (F.sc (Value.bool false))), [], [])))
            (some (V.c (C.f (F.sc (Value.bool false))), [], [])))
          (some (V.c (C.f (F.sc (Value.bool false))), [], [])))
        (some (V.c (C.f (F.sc (Value.bool false))), [], [])))
      (some (V.c (C.f (F.sc (Value.bool false))), [], [])) : Option (V × List Vm.Obj × List Vm.Obj)) := by kernel_rfl

theorem spec_NoteOk_res (n : Nat) (a0 : Note) : resid Try.prog cfg RN n 20 [.ag (Note.cells a0)] [] = (br (decide (a0.kind ≥ 1))
  (br (!decide (a0.kind ≤ 4)) (some (V.c (C.f (F.sc (Value.bool false))), [], []))
    (br (decide (a0.who ≥ 0))
      (br (!decide (a0.who ≤ 29)) (some (V.c (C.f (F.sc (Value.bool false))), [], []))
        (br (a0.kind == 1)
          (qb (pres RN 35 [V.c (C.f (F.sc (Value.string a0.domain)))]) fun v =>
            qb (qb (unC v) fun y => fBool y) fun b =>
              br b
                (br (decide (a0.body ≥ 0))
                  (br (decide (a0.body ≤ 1000000))
                    (br (a0.kind == 2)
                      (br (decide (a0.time ≥ 0))
                        (br (decide (a0.time ≤ 100000)) (some (V.c (C.f (F.sc (Value.bool true))), [], []))
                          (some (V.c (C.f (F.sc (Value.bool (a0.time == 0)))), [], [])))
                        (some (V.c (C.f (F.sc (Value.bool (a0.time == 0)))), [], [])))
                      (some (V.c (C.f (F.sc (Value.bool (a0.time == 0)))), [], [])))
                    (br (a0.kind != 1)
                      (br (a0.domain.toList == (ByteArray.mk #[]).toList)
                        (br (a0.body == 0)
                          (br (a0.kind == 2)
                            (br (decide (a0.time ≥ 0))
                              (br (decide (a0.time ≤ 100000)) (some (V.c (C.f (F.sc (Value.bool true))), [], []))
                                (some (V.c (C.f (F.sc (Value.bool (a0.time == 0)))), [], [])))
                              (some (V.c (C.f (F.sc (Value.bool (a0.time == 0)))), [], [])))
                            (some (V.c (C.f (F.sc (Value.bool (a0.time == 0)))), [], [])))
                          (some (V.c (C.f (F.sc (Value.bool false))), [], [])))
                        (some (V.c (C.f (F.sc (Value.bool false))), [], [])))
                      (some (V.c (C.f (F.sc (Value.bool false))), [], []))))
                  (br (a0.kind != 1)
                    (br (a0.domain.toList == (ByteArray.mk #[]).toList)
                      (br (a0.body == 0)
                        (br (a0.kind == 2)
                          (br (decide (a0.time ≥ 0))
                            (br (decide (a0.time ≤ 100000)) (some (V.c (C.f (F.sc (Value.bool true))), [], []))
                              (some (V.c (C.f (F.sc (Value.bool (a0.time == 0)))), [], [])))
                            (some (V.c (C.f (F.sc (Value.bool (a0.time == 0)))), [], [])))
                          (some (V.c (C.f (F.sc (Value.bool (a0.time == 0)))), [], [])))
                        (some (V.c (C.f (F.sc (Value.bool false))), [], [])))
                      (some (V.c (C.f (F.sc (Value.bool false))), [], [])))
                    (some (V.c (C.f (F.sc (Value.bool false))), [], []))))
                (br (a0.kind != 1)
                  (br (a0.domain.toList == (ByteArray.mk #[]).toList)
                    (br (a0.body == 0)
                      (br (a0.kind == 2)
                        (br (decide (a0.time ≥ 0))
                          (br (decide (a0.time ≤ 100000)) (some (V.c (C.f (F.sc (Value.bool true))), [], []))
                            (some (V.c (C.f (F.sc (Value.bool (a0.time == 0)))), [], [])))
                          (some (V.c (C.f (F.sc (Value.bool (a0.time == 0)))), [], [])))
                        (some (V.c (C.f (F.sc (Value.bool (a0.time == 0)))), [], [])))
                      (some (V.c (C.f (F.sc (Value.bool false))), [], [])))
                    (some (V.c (C.f (F.sc (Value.bool false))), [], [])))
                  (some (V.c (C.f (F.sc (Value.bool false))), [], []))))
          (br (a0.kind != 1)
            (br (a0.domain.toList == (ByteArray.mk #[]).toList)
              (br (a0.body == 0)
                (br (a0.kind == 2)
                  (br (decide (a0.time ≥ 0))
                    (br (decide (a0.time ≤ 100000)) (some (V.c (C.f (F.sc (Value.bool true))), [], []))
                      (some (V.c (C.f (F.sc (Value.bool (a0.time == 0)))), [], [])))
                    (some (V.c (C.f (F.sc (Value.bool (a0.time == 0)))), [], [])))
                  (some (V.c (C.f (F.sc (Value.bool (a0.time == 0)))), [], [])))
                (some (V.c (C.f (F.sc (Value.bool false))), [], [])))
              (some (V.c (C.f (F.sc (Value.bool false))), [], [])))
            (some (V.c (C.f (F.sc (Value.bool false))), [], [])))))
      (some (V.c (C.f (F.sc (Value.bool false))), [], []))))
  (some (V.c (C.f (F.sc (Value.bool false))), [], [])) : Option (V × List Vm.Obj × List Vm.Obj)) := by kernel_rfl

theorem impl_NoteOk_res (n : Nat) (a0 : Note) : resid Try.prog cfg RN n 22 [.ag (Note.cells a0)] [] = (br (decide (a0.who ≥ 0))
  (br (!decide (a0.who ≤ 29)) (some (V.c (C.f (F.sc (Value.bool false))), [], []))
    (br (a0.kind == 1)
      (qb (pres RN 37 [V.c (C.f (F.sc (Value.string a0.domain)))]) fun v =>
        qb (qb (unC v) fun y => fBool y) fun b =>
          br b
            (br (decide (a0.body ≥ 0))
              (br (decide (a0.body ≤ 1000000))
                (some
                  (V.c
                      (C.f
                        (F.sc
                          (Value.bool
                            (a0.kind == a0.kind &&
                              (a0.who == a0.who &&
                                (a0.domain == a0.domain && (a0.body == a0.body && (a0.time == 0 && true)))))))),
                    [], []))
                (some (V.c (C.f (F.sc (Value.bool false))), [], [])))
              (some (V.c (C.f (F.sc (Value.bool false))), [], [])))
            (some (V.c (C.f (F.sc (Value.bool false))), [], [])))
      (br (a0.kind == 2)
        (br (decide (a0.time ≥ 0))
          (br (decide (a0.time ≤ 100000))
            (some
              (V.c
                  (C.f
                    (F.sc
                      (Value.bool
                        (a0.kind == a0.kind &&
                          (a0.who == a0.who &&
                            (a0.domain == ByteArray.mk #[] && (a0.body == 0 && (a0.time == a0.time && true)))))))),
                [], []))
            (some (V.c (C.f (F.sc (Value.bool false))), [], [])))
          (some (V.c (C.f (F.sc (Value.bool false))), [], [])))
        (br (a0.kind == 3)
          (some
            (V.c
                (C.f
                  (F.sc
                    (Value.bool
                      (a0.kind == a0.kind &&
                        (a0.who == a0.who &&
                          (a0.domain == ByteArray.mk #[] && (a0.body == 0 && (a0.time == 0 && true)))))))),
              [], []))
          (br (a0.kind == 4)
            (some
              (V.c
                  (C.f
                    (F.sc
                      (Value.bool
                        (a0.kind == a0.kind &&
                          (a0.who == a0.who &&
                            (a0.domain == ByteArray.mk #[] && (a0.body == 0 && (a0.time == 0 && true)))))))),
                [], []))
            (some (V.c (C.f (F.sc (Value.bool false))), [], [])))))))
  (some (V.c (C.f (F.sc (Value.bool false))), [], [])) : Option (V × List Vm.Obj × List Vm.Obj)) := by kernel_rfl

theorem laws_FnExactNoteOk_res (n : Nat) (a0 : Note) : resid Try.prog cfg RN n 6 [.ag (Note.cells a0)] [] = (br (decide (IntKind.i64.wrap (1048576 - (↑a0.domain.size : Int)) < 0))
  (some (V.c (C.f (F.sc (Value.bool true))), [], []))
  (br (decide (IntKind.i64.wrap (1048576 - (↑a0.domain.size : Int)) < 0))
    (some (V.c (C.f (F.sc (Value.bool true))), [], []))
    (qb
      (pres RN 20
        [V.agg
            [C.f (F.sc (Value.int IntKind.i64 a0.kind)), C.f (F.sc (Value.int IntKind.i64 a0.who)),
              C.f (F.sc (Value.string a0.domain)), C.f (F.sc (Value.int IntKind.i64 a0.body)),
              C.f (F.sc (Value.int IntKind.i64 a0.time))]])
      fun v =>
      qb (qb (unC v) fun y => fBool y) fun b =>
        qb
          (pres RN 22
            [V.agg
                [C.f (F.sc (Value.int IntKind.i64 a0.kind)), C.f (F.sc (Value.int IntKind.i64 a0.who)),
                  C.f (F.sc (Value.string a0.domain)), C.f (F.sc (Value.int IntKind.i64 a0.body)),
                  C.f (F.sc (Value.int IntKind.i64 a0.time))]])
          fun v =>
          qb (qb (unC v) fun y => fBool y) fun b_1 =>
            br (!b_1 == b) (some (V.c (C.f (F.sc (Value.bool false))), [], []))
              (some (V.c (C.f (F.sc (Value.bool true))), [], [])))) : Option (V × List Vm.Obj × List Vm.Obj)) := by kernel_rfl

theorem spec_LetterTry_res (n : Nat) (a0 : Letter) (a1 : Int) : resid Try.prog cfg RN n 23 [.ag (Letter.cells a0), .int a1] [] = (qb
  (pres RN 14
    [V.agg
        [C.f (F.sc (Value.string a0.domain)), C.f (F.sc (Value.int IntKind.i64 a0.body)),
          C.f (F.sc (Value.int IntKind.i64 a0.state)), C.f (F.sc (Value.int IntKind.i64 a0.tries)),
          C.f (F.sc (Value.int IntKind.i64 a0.next))]])
  fun v =>
  qb (qb (unC v) fun y => fBool y) fun b =>
    br (!b)
      (some
        (V.tup
            [V.agg
                [C.f (F.sc (Value.string a0.domain)), C.f (F.sc (Value.int IntKind.i64 a0.body)),
                  C.f (F.sc (Value.int IntKind.i64 a0.state)), C.f (F.sc (Value.int IntKind.i64 a0.tries)),
                  C.f (F.sc (Value.int IntKind.i64 a0.next))],
              V.c (C.f (F.sc (Value.bool false)))],
          [], []))
      (br (a0.state != 1)
        (some
          (V.tup
              [V.agg
                  [C.f (F.sc (Value.string a0.domain)), C.f (F.sc (Value.int IntKind.i64 a0.body)),
                    C.f (F.sc (Value.int IntKind.i64 a0.state)), C.f (F.sc (Value.int IntKind.i64 a0.tries)),
                    C.f (F.sc (Value.int IntKind.i64 a0.next))],
                V.c (C.f (F.sc (Value.bool false)))],
            [], []))
        (br (decide (a1 ≥ a0.next))
          (br (!decide (a1 ≤ 100000))
            (some
              (V.tup
                  [V.agg
                      [C.f (F.sc (Value.string a0.domain)), C.f (F.sc (Value.int IntKind.i64 a0.body)),
                        C.f (F.sc (Value.int IntKind.i64 a0.state)), C.f (F.sc (Value.int IntKind.i64 a0.tries)),
                        C.f (F.sc (Value.int IntKind.i64 a0.next))],
                    V.c (C.f (F.sc (Value.bool false)))],
                [], []))
            (br (a0.tries == 4)
              (some
                (V.tup
                    [V.agg
                        [C.f (F.sc (Value.string a0.domain)), C.f (F.sc (Value.int IntKind.i64 a0.body)),
                          C.f (F.sc (Value.int IntKind.i64 a0.state)), C.f (F.sc (Value.int IntKind.i64 a0.tries)),
                          C.f (F.sc (Value.int IntKind.i64 a0.next))],
                      V.c (C.f (F.sc (Value.bool false)))],
                  [], []))
              (qb (ge0 (IntKind.i64.wrap (a0.tries + 1))) fun x =>
                br
                  (decide
                    (100000 <
                      IntKind.i64.wrap
                        (a1 +
                          IntKind.i64.wrap (10 * 2 ^ min (IntKind.i64.wrap (a0.tries + 1)).toNat IntKind.i64.bits))))
                  (some
                    (V.tup
                        [V.agg
                            [C.f (F.sc (Value.string a0.domain)), C.f (F.sc (Value.int IntKind.i64 a0.body)),
                              C.f (F.sc (Value.int IntKind.i64 a0.state)),
                              C.f (F.sc (Value.int IntKind.i64 (IntKind.i64.wrap (a0.tries + 1)))),
                              C.f (F.sc (Value.int IntKind.i64 100000))],
                          V.c (C.f (F.sc (Value.bool true)))],
                      [], []))
                  (some
                    (V.tup
                        [V.agg
                            [C.f (F.sc (Value.string a0.domain)), C.f (F.sc (Value.int IntKind.i64 a0.body)),
                              C.f (F.sc (Value.int IntKind.i64 a0.state)),
                              C.f (F.sc (Value.int IntKind.i64 (IntKind.i64.wrap (a0.tries + 1)))),
                              C.f
                                (F.sc
                                  (Value.int IntKind.i64
                                    (IntKind.i64.wrap
                                      (a1 +
                                        IntKind.i64.wrap
                                          (10 * 2 ^ min (IntKind.i64.wrap (a0.tries + 1)).toNat IntKind.i64.bits)))))],
                          V.c (C.f (F.sc (Value.bool true)))],
                      [], [])))))
          (some
            (V.tup
                [V.agg
                    [C.f (F.sc (Value.string a0.domain)), C.f (F.sc (Value.int IntKind.i64 a0.body)),
                      C.f (F.sc (Value.int IntKind.i64 a0.state)), C.f (F.sc (Value.int IntKind.i64 a0.tries)),
                      C.f (F.sc (Value.int IntKind.i64 a0.next))],
                  V.c (C.f (F.sc (Value.bool false)))],
              [], [])))) : Option (V × List Vm.Obj × List Vm.Obj)) := by kernel_rfl

theorem impl_LetterTry_res (n : Nat) (a0 : Letter) (a1 : Int) : resid Try.prog cfg RN n 24 [.ag (Letter.cells a0), .int a1] [] = (qb
  (pres RN 15
    [V.agg
        [C.f (F.sc (Value.string a0.domain)), C.f (F.sc (Value.int IntKind.i64 a0.body)),
          C.f (F.sc (Value.int IntKind.i64 a0.state)), C.f (F.sc (Value.int IntKind.i64 a0.tries)),
          C.f (F.sc (Value.int IntKind.i64 a0.next))]])
  fun v =>
  qb (qb (unC v) fun y => fBool y) fun b =>
    br (!b)
      (some
        (V.tup
            [V.agg
                [C.f (F.sc (Value.string a0.domain)), C.f (F.sc (Value.int IntKind.i64 a0.body)),
                  C.f (F.sc (Value.int IntKind.i64 a0.state)), C.f (F.sc (Value.int IntKind.i64 a0.tries)),
                  C.f (F.sc (Value.int IntKind.i64 a0.next))],
              V.c (C.f (F.sc (Value.bool false)))],
          [], []))
      (br (a0.state != 1)
        (some
          (V.tup
              [V.agg
                  [C.f (F.sc (Value.string a0.domain)), C.f (F.sc (Value.int IntKind.i64 a0.body)),
                    C.f (F.sc (Value.int IntKind.i64 a0.state)), C.f (F.sc (Value.int IntKind.i64 a0.tries)),
                    C.f (F.sc (Value.int IntKind.i64 a0.next))],
                V.c (C.f (F.sc (Value.bool false)))],
            [], []))
        (br (decide (a1 ≥ 0))
          (br (!decide (a1 ≤ 100000))
            (some
              (V.tup
                  [V.agg
                      [C.f (F.sc (Value.string a0.domain)), C.f (F.sc (Value.int IntKind.i64 a0.body)),
                        C.f (F.sc (Value.int IntKind.i64 a0.state)), C.f (F.sc (Value.int IntKind.i64 a0.tries)),
                        C.f (F.sc (Value.int IntKind.i64 a0.next))],
                    V.c (C.f (F.sc (Value.bool false)))],
                [], []))
            (br (decide (a0.next > a1))
              (some
                (V.tup
                    [V.agg
                        [C.f (F.sc (Value.string a0.domain)), C.f (F.sc (Value.int IntKind.i64 a0.body)),
                          C.f (F.sc (Value.int IntKind.i64 a0.state)), C.f (F.sc (Value.int IntKind.i64 a0.tries)),
                          C.f (F.sc (Value.int IntKind.i64 a0.next))],
                      V.c (C.f (F.sc (Value.bool false)))],
                  [], []))
              (br (a0.tries == 4)
                (some
                  (V.tup
                      [V.agg
                          [C.f (F.sc (Value.string a0.domain)), C.f (F.sc (Value.int IntKind.i64 a0.body)),
                            C.f (F.sc (Value.int IntKind.i64 a0.state)), C.f (F.sc (Value.int IntKind.i64 a0.tries)),
                            C.f (F.sc (Value.int IntKind.i64 a0.next))],
                        V.c (C.f (F.sc (Value.bool false)))],
                    [], []))
                (qb (ge0 (IntKind.i64.wrap (a0.tries + 1))) fun x =>
                  some
                    (V.tup
                        [V.agg
                            [C.f (F.sc (Value.string a0.domain)), C.f (F.sc (Value.int IntKind.i64 a0.body)),
                              C.f (F.sc (Value.int IntKind.i64 a0.state)),
                              C.f (F.sc (Value.int IntKind.i64 (IntKind.i64.wrap (a0.tries + 1)))),
                              C.f
                                (F.sc
                                  (Value.int IntKind.i64
                                    (bif false then
                                      if
                                          100000 <
                                            IntKind.i64.wrap
                                              (a1 +
                                                IntKind.i64.wrap
                                                  (10 *
                                                    2 ^
                                                      min (IntKind.i64.wrap (a0.tries + 1)).toNat
                                                        IntKind.i64.bits)) then
                                        IntKind.i64.wrap
                                          (a1 +
                                            IntKind.i64.wrap
                                              (10 * 2 ^ min (IntKind.i64.wrap (a0.tries + 1)).toNat IntKind.i64.bits))
                                      else 100000
                                    else
                                      if
                                          IntKind.i64.wrap
                                              (a1 +
                                                IntKind.i64.wrap
                                                  (10 *
                                                    2 ^ min (IntKind.i64.wrap (a0.tries + 1)).toNat IntKind.i64.bits)) <
                                            100000 then
                                        IntKind.i64.wrap
                                          (a1 +
                                            IntKind.i64.wrap
                                              (10 * 2 ^ min (IntKind.i64.wrap (a0.tries + 1)).toNat IntKind.i64.bits))
                                      else 100000)))],
                          V.c (C.f (F.sc (Value.bool true)))],
                      [], [])))))
          (some
            (V.tup
                [V.agg
                    [C.f (F.sc (Value.string a0.domain)), C.f (F.sc (Value.int IntKind.i64 a0.body)),
                      C.f (F.sc (Value.int IntKind.i64 a0.state)), C.f (F.sc (Value.int IntKind.i64 a0.tries)),
                      C.f (F.sc (Value.int IntKind.i64 a0.next))],
                  V.c (C.f (F.sc (Value.bool false)))],
              [], [])))) : Option (V × List Vm.Obj × List Vm.Obj)) := by kernel_rfl

theorem laws_FnExactLetterTry_res (n : Nat) (a0 : Letter) (a1 : Int) : resid Try.prog cfg RN n 7 [.ag (Letter.cells a0), .int a1] [] = (br (decide (IntKind.i64.wrap (1048576 - (↑a0.domain.size : Int)) < 0))
  (some (V.c (C.f (F.sc (Value.bool true))), [], []))
  (br (decide (IntKind.i64.wrap (1048576 - (↑a0.domain.size : Int)) < 0))
    (some (V.c (C.f (F.sc (Value.bool true))), [], []))
    (qb
      (pres RN 23
        [V.agg
            [C.f (F.sc (Value.string a0.domain)), C.f (F.sc (Value.int IntKind.i64 a0.body)),
              C.f (F.sc (Value.int IntKind.i64 a0.state)), C.f (F.sc (Value.int IntKind.i64 a0.tries)),
              C.f (F.sc (Value.int IntKind.i64 a0.next))],
          V.c (C.f (F.sc (Value.int IntKind.i64 a1)))])
      fun v =>
      qb (fTup [Sh.el Kind.letter, Sh.bool].length v) fun x =>
        qb (Vm.part v 0) fun x =>
          qb (asEl Kind.letter x) fun x =>
            qb (Vm.part v (0 + 1)) fun x_1 =>
              qb (qb (unC x_1) fun y => fBool y) fun b =>
                qb
                  (pres RN 24
                    [V.agg
                        [C.f (F.sc (Value.string a0.domain)), C.f (F.sc (Value.int IntKind.i64 a0.body)),
                          C.f (F.sc (Value.int IntKind.i64 a0.state)), C.f (F.sc (Value.int IntKind.i64 a0.tries)),
                          C.f (F.sc (Value.int IntKind.i64 a0.next))],
                      V.c (C.f (F.sc (Value.int IntKind.i64 a1)))])
                  fun v =>
                  qb (fTup [Sh.el Kind.letter, Sh.bool].length v) fun x_2 =>
                    qb (Vm.part v 0) fun x_3 =>
                      qb (asEl Kind.letter x_3) fun x_4 =>
                        qb (Vm.part v (0 + 1)) fun x_5 =>
                          qb (qb (unC x_5) fun y => fBool y) fun b_1 =>
                            qb
                              (pres RN 18
                                [V.agg
                                    [C.f (F.sc (Value.string x_4.domain)), C.f (F.sc (Value.int IntKind.i64 x_4.body)),
                                      C.f (F.sc (Value.int IntKind.i64 x_4.state)),
                                      C.f (F.sc (Value.int IntKind.i64 x_4.tries)),
                                      C.f (F.sc (Value.int IntKind.i64 x_4.next))],
                                  V.agg
                                    [C.f (F.sc (Value.string x.domain)), C.f (F.sc (Value.int IntKind.i64 x.body)),
                                      C.f (F.sc (Value.int IntKind.i64 x.state)),
                                      C.f (F.sc (Value.int IntKind.i64 x.tries)),
                                      C.f (F.sc (Value.int IntKind.i64 x.next))]])
                              fun v =>
                              qb (qb (unC v) fun y => fBool y) fun b_2 =>
                                br (!b_2) (some (V.c (C.f (F.sc (Value.bool false))), [], []))
                                  (br (!b_1 == b) (some (V.c (C.f (F.sc (Value.bool false))), [], []))
                                    (some (V.c (C.f (F.sc (Value.bool true))), [], []))))) : Option (V × List Vm.Obj × List Vm.Obj)) := by kernel_rfl

theorem laws_eqTermS_res (n : Nat) (t0 : Bool) (a0 : List Term) (t1 : Bool) (a1 : List Term) : resid Try.prog cfg RN n 44 [.sl t0 .term a0, .sl t1 .term a1] [] = (br ((↑a0.length : Int) != (↑a1.length : Int)) (some (V.c (C.f (F.sc (Value.bool false))), [], []))
  (qb
    (lp Try.prog cfg RN n 5 44 4 0 n
      (St.mk
        (frOf
          [(0, V.c (C.f (F.sl t0 Kind.term a0))), (1, V.c (C.f (F.sl t1 Kind.term a1))),
            (4, V.c (C.f (F.sc (Value.bool false)))), (5, V.c (C.f (F.sc (Value.int IntKind.i64 0))))])
        (hpIds [])))
    fun r =>
    qb (qb (unC (r.snd.fr (4, Sh.bool).fst)) fun y => fBool y) fun b =>
      br (isRetE r.fst) (some (V.c (C.f (F.sc (Value.bool b))), [], []))
        (br (isExt 0 r.fst) (some (V.c (C.f (F.sc (Value.bool true))), [], [])) none)) : Option (V × List Vm.Obj × List Vm.Obj)) := by kernel_rfl

theorem laws_eqTerm_res (n : Nat) (a0 : Term) (a1 : Term) : resid Try.prog cfg RN n 27 [.ag (Term.cells a0), .ag (Term.cells a1)] [] = (br (a0.op != a1.op) (some (V.c (C.f (F.sc (Value.bool false))), [], []))
  (br (a0.n != a1.n) (some (V.c (C.f (F.sc (Value.bool false))), [], []))
    (br (!a0.s.toList == a1.s.toList) (some (V.c (C.f (F.sc (Value.bool false))), [], []))
      (qb (pres RN 44 [V.c (C.f (F.sl false Kind.term a0.kids)), V.c (C.f (F.sl false Kind.term a1.kids))]) fun v =>
        qb (qb (unC v) fun y => fBool y) fun b =>
          br (!b) (some (V.c (C.f (F.sc (Value.bool false))), [], []))
            (some (V.c (C.f (F.sc (Value.bool true))), [], []))))) : Option (V × List Vm.Obj × List Vm.Obj)) := by kernel_rfl

theorem laws_szTermS_res (n : Nat) (t0 : Bool) (a0 : List Term) (a1 : Int) : resid Try.prog cfg RN n 52 [.sl t0 .term a0, .int a1] [] = (br (decide (IntKind.i64.wrap (a1 - (↑a0.length : Int)) < 0))
  (some (V.c (C.f (F.sc (Value.int IntKind.i64 (-1)))), [], []))
  (qb
    (lp Try.prog cfg RN n 5 52 5 0 n
      (St.mk
        (frOf
          [(0, V.c (C.f (F.sl t0 Kind.term a0))),
            (1, V.c (C.f (F.sc (Value.int IntKind.i64 (IntKind.i64.wrap (a1 - (↑a0.length : Int))))))),
            (4, V.c (C.f (F.sc (Value.int IntKind.i64 0)))), (5, V.c (C.f (F.sc (Value.int IntKind.i64 0))))])
        (hpIds [])))
    fun r =>
    qb (qb (unC (r.snd.fr (1, Sh.int).fst)) fun y => fInt y) fun n =>
      qb (qb (unC (r.snd.fr (4, Sh.int).fst)) fun y => fInt y) fun n_1 =>
        br (isRetE r.fst) (some (V.c (C.f (F.sc (Value.int IntKind.i64 n_1))), [], []))
          (br (isExt 0 r.fst) (some (V.c (C.f (F.sc (Value.int IntKind.i64 n))), [], [])) none)) : Option (V × List Vm.Obj × List Vm.Obj)) := by kernel_rfl

theorem laws_szTerm_res (n : Nat) (a0 : Term) (a1 : Int) : resid Try.prog cfg RN n 47 [.ag (Term.cells a0), .int a1] [] = (br (decide (IntKind.i64.wrap (a1 - (↑a0.s.size : Int)) < 0))
  (some (V.c (C.f (F.sc (Value.int IntKind.i64 (-1)))), [], []))
  (qb
    (pres RN 52
      [V.c (C.f (F.sl false Kind.term a0.kids)),
        V.c (C.f (F.sc (Value.int IntKind.i64 (IntKind.i64.wrap (a1 - (↑a0.s.size : Int))))))])
    fun v =>
    qb (qb (unC v) fun y => fInt y) fun n =>
      br (decide (n < 0)) (some (V.c (C.f (F.sc (Value.int IntKind.i64 (-1)))), [], []))
        (some (V.c (C.f (F.sc (Value.int IntKind.i64 n))), [], []))) : Option (V × List Vm.Obj × List Vm.Obj)) := by kernel_rfl

theorem laws_toTermS_res (n : Nat) (t0 : Bool) (a0 : List Term) : resid Try.prog cfg RN n 53 [.sl t0 .term a0] [] = (br
  (decide ((↑a0.length : Int) = (↑a0.length : Int)) && decide (0 ≤ (↑a0.length : Int)) &&
    (↑a0.length : Int).toNat.ble appMax)
  (qb
    (lp Try.prog cfg RN n 5 53 3 0 n
      (St.mk
        (frOf
          [(0, V.c (C.f (F.sl t0 Kind.term a0))), (3, V.c (C.row (Id.own 3) Kind.term)),
            (4, V.c (C.f (F.sc (Value.int IntKind.i64 0))))])
        (hpIds [(Id.own 3, Obj.row true Kind.term (List.replicate (↑a0.length : Int).toNat (zeroEl Kind.term)))])))
    fun r =>
    qb (qb (unC (r.snd.fr (3, Sh.row (Id.own 3) Kind.term).fst)) fun y => fRow (Id.own 3) Kind.term y) fun x =>
      qb (r.snd.2 (Id.own 3, OSh.row true Kind.term).fst) fun o =>
        qb (asRow true Kind.term o) fun l =>
          br (isRetE r.fst) (some (V.c C.hole, [], []))
            (br (isExt 0 r.fst) (some (V.c (C.row (Id.ret 0 0) Kind.term), [], [Obj.row true Kind.term l])) none))
  none : Option (V × List Vm.Obj × List Vm.Obj)) := by kernel_rfl

theorem laws_toTerm_res (n : Nat) (a0 : Term) : resid Try.prog cfg RN n 49 [.ag (Term.cells a0)] [] = (qb (pres RN 53 [V.c (C.f (F.sl false Kind.term a0.kids))]) fun v =>
  qb (qb (unC v) fun y => fSl Kind.term y) fun l =>
    some
      (V.agg
          [C.f (F.sc (Value.int IntKind.i64 a0.op)), C.f (F.sc (Value.int IntKind.i64 a0.n)),
            C.f (F.sc (Value.string a0.s)), C.f (F.sl false Kind.term l)],
        [], []) : Option (V × List Vm.Obj × List Vm.Obj)) := by kernel_rfl

theorem laws_FnExactGreeting_res (n : Nat) : resid Try.prog cfg RN n 8 [] [] = (qb
  (pres RN 27
    [V.agg
        [C.f (F.sc (Value.int IntKind.i64 2)), C.f (F.sc (Value.int IntKind.i64 0)),
          C.f (F.sc (Value.string (ByteArray.mk #[50, 50, 48]))), C.f (F.sl false Kind.term [])],
      V.agg
        [C.f (F.sc (Value.int IntKind.i64 2)), C.f (F.sc (Value.int IntKind.i64 0)),
          C.f (F.sc (Value.string (ByteArray.mk #[50, 50, 48]))), C.f (F.sl false Kind.term [])]])
  fun v =>
  qb (qb (unC v) fun y => fBool y) fun b =>
    br (!b) (some (V.c (C.f (F.sc (Value.bool false))), [], []))
      (qb
        (lp Try.prog cfg RN n 3 45 2 0 n
          (St.mk
            (frOf
              [(0, V.c (C.f (F.sl true Kind.term []))), (1, V.c (C.f (F.sc (Value.int IntKind.i64 1)))),
                (5, V.c (C.f (F.sc (Value.int IntKind.i64 0))))])
            (hpIds [])))
        fun r =>
        qb (qb (unC (r.snd.fr (1, Sh.int).fst)) fun y => fInt y) fun n =>
          br (isRetE r.fst)
            (qb (pres RN 46 [V.c (C.f (F.sl false Kind.term [])), V.c (C.f (F.sc (Value.int IntKind.i64 1)))]) fun v =>
              qb (qb (unC v) fun y => fInt y) fun n =>
                br (decide (n < 0)) (some (V.c (C.f (F.sc (Value.bool false))), [], []))
                  (br (decide (n < 0)) (some (V.c (C.f (F.sc (Value.bool false))), [], [])) none))
            (br (isExt 0 r.fst)
              (qb (pres RN 46 [V.c (C.f (F.sl false Kind.term [])), V.c (C.f (F.sc (Value.int IntKind.i64 1)))]) fun v =>
                qb (qb (unC v) fun y => fInt y) fun n_1 =>
                  br (decide (n_1 < 0)) (some (V.c (C.f (F.sc (Value.bool false))), [], []))
                    (br (decide (n_1 < 0)) (some (V.c (C.f (F.sc (Value.bool false))), [], []))
                      (br (n_1 != n) (some (V.c (C.f (F.sc (Value.bool false))), [], []))
                        (qb
                          (pres RN 27
                            [V.agg
                                [C.f (F.sc (Value.int IntKind.i64 2)), C.f (F.sc (Value.int IntKind.i64 0)),
                                  C.f (F.sc (Value.string (ByteArray.mk #[50, 50, 48]))),
                                  C.f (F.sl false Kind.term [])],
                              V.agg
                                [C.f (F.sc (Value.int IntKind.i64 2)), C.f (F.sc (Value.int IntKind.i64 0)),
                                  C.f (F.sc (Value.string (ByteArray.mk #[50, 50, 48]))),
                                  C.f (F.sl false Kind.term [])]])
                          fun v =>
                          qb (qb (unC v) fun y => fBool y) fun b =>
                            br (!b) (some (V.c (C.f (F.sc (Value.bool false))), [], []))
                              (qb
                                (pres RN 46
                                  [V.c (C.f (F.sl false Kind.term [])), V.c (C.f (F.sc (Value.int IntKind.i64 1)))])
                                fun v =>
                                qb (qb (unC v) fun y => fInt y) fun n_2 =>
                                  br (decide (n_2 < 0)) (some (V.c (C.f (F.sc (Value.bool false))), [], []))
                                    (br (decide (n_2 < 0)) (some (V.c (C.f (F.sc (Value.bool false))), [], []))
                                      (br (n_2 != n) (some (V.c (C.f (F.sc (Value.bool false))), [], []))
                                        (some (V.c (C.f (F.sc (Value.bool true))), [], [])))))))))
              none)) : Option (V × List Vm.Obj × List Vm.Obj)) := by kernel_rfl

theorem laws_FnExactClientText_res (n : Nat) (a0 : Client) : resid Try.prog cfg RN n 9 [.ag (Client.cells a0)] [] = (qb
  (pres RN 30
    [V.agg
        [C.f (F.sc (Value.int IntKind.i64 a0.step)), C.f (F.sc (Value.string a0.host)), C.f (F.sc (Value.bool a0.must)),
          C.f (F.sc (Value.int IntKind.i64 a0.eph)), C.f (F.sc (Value.int IntKind.i64 a0.body)),
          C.f (F.sc (Value.int IntKind.i64 a0.share.op)), C.f (F.sc (Value.int IntKind.i64 a0.share.n)),
          C.f (F.sc (Value.string a0.share.s)), C.f (F.sl false Kind.term a0.share.kids),
          C.f (F.sc (Value.int IntKind.i64 a0.inn)), C.f (F.sc (Value.int IntKind.i64 a0.out)),
          C.f (F.sc (Value.bool a0.tls)), C.f (F.sc (Value.bool a0.proved))],
      V.c (C.f (F.sc (Value.int IntKind.i64 1048576)))])
  fun v =>
  qb (qb (unC v) fun y => fInt y) fun n =>
    br (decide (n < 0)) (some (V.c (C.f (F.sc (Value.bool true))), [], []))
      (qb
        (pres RN 32
          [V.agg
              [C.f (F.sc (Value.int IntKind.i64 a0.step)), C.f (F.sc (Value.string a0.host)),
                C.f (F.sc (Value.bool a0.must)), C.f (F.sc (Value.int IntKind.i64 a0.eph)),
                C.f (F.sc (Value.int IntKind.i64 a0.body)), C.f (F.sc (Value.int IntKind.i64 a0.share.op)),
                C.f (F.sc (Value.int IntKind.i64 a0.share.n)), C.f (F.sc (Value.string a0.share.s)),
                C.f (F.sl false Kind.term a0.share.kids), C.f (F.sc (Value.int IntKind.i64 a0.inn)),
                C.f (F.sc (Value.int IntKind.i64 a0.out)), C.f (F.sc (Value.bool a0.tls)),
                C.f (F.sc (Value.bool a0.proved))]])
        fun v =>
        qb (asClient v) fun x =>
          qb
            (pres RN 31
              [V.agg
                  [C.f (F.sc (Value.int IntKind.i64 x.step)), C.f (F.sc (Value.string x.host)),
                    C.f (F.sc (Value.bool x.must)), C.f (F.sc (Value.int IntKind.i64 x.eph)),
                    C.f (F.sc (Value.int IntKind.i64 x.body)), C.f (F.sc (Value.int IntKind.i64 x.share.op)),
                    C.f (F.sc (Value.int IntKind.i64 x.share.n)), C.f (F.sc (Value.string x.share.s)),
                    C.f (F.sl false Kind.term x.share.kids), C.f (F.sc (Value.int IntKind.i64 x.inn)),
                    C.f (F.sc (Value.int IntKind.i64 x.out)), C.f (F.sc (Value.bool x.tls)),
                    C.f (F.sc (Value.bool x.proved))]])
            fun v =>
            qb (qb (unC v) fun y => fStr y) fun s =>
              qb
                (pres RN 32
                  [V.agg
                      [C.f (F.sc (Value.int IntKind.i64 a0.step)), C.f (F.sc (Value.string a0.host)),
                        C.f (F.sc (Value.bool a0.must)), C.f (F.sc (Value.int IntKind.i64 a0.eph)),
                        C.f (F.sc (Value.int IntKind.i64 a0.body)), C.f (F.sc (Value.int IntKind.i64 a0.share.op)),
                        C.f (F.sc (Value.int IntKind.i64 a0.share.n)), C.f (F.sc (Value.string a0.share.s)),
                        C.f (F.sl false Kind.term a0.share.kids), C.f (F.sc (Value.int IntKind.i64 a0.inn)),
                        C.f (F.sc (Value.int IntKind.i64 a0.out)), C.f (F.sc (Value.bool a0.tls)),
                        C.f (F.sc (Value.bool a0.proved))]])
                fun v =>
                qb (asClient v) fun x =>
                  qb
                    (pres RN 33
                      [V.agg
                          [C.f (F.sc (Value.int IntKind.i64 x.step)), C.f (F.sc (Value.string x.host)),
                            C.f (F.sc (Value.bool x.must)), C.f (F.sc (Value.int IntKind.i64 x.eph)),
                            C.f (F.sc (Value.int IntKind.i64 x.body)), C.f (F.sc (Value.int IntKind.i64 x.share.op)),
                            C.f (F.sc (Value.int IntKind.i64 x.share.n)), C.f (F.sc (Value.string x.share.s)),
                            C.f (F.sl false Kind.term x.share.kids), C.f (F.sc (Value.int IntKind.i64 x.inn)),
                            C.f (F.sc (Value.int IntKind.i64 x.out)), C.f (F.sc (Value.bool x.tls)),
                            C.f (F.sc (Value.bool x.proved))]])
                    fun v =>
                    qb (qb (unC v) fun y => fStr y) fun s_1 =>
                      br (!s_1.toList == s.toList) (some (V.c (C.f (F.sc (Value.bool false))), [], []))
                        (qb
                          (pres RN 32
                            [V.agg
                                [C.f (F.sc (Value.int IntKind.i64 a0.step)), C.f (F.sc (Value.string a0.host)),
                                  C.f (F.sc (Value.bool a0.must)), C.f (F.sc (Value.int IntKind.i64 a0.eph)),
                                  C.f (F.sc (Value.int IntKind.i64 a0.body)),
                                  C.f (F.sc (Value.int IntKind.i64 a0.share.op)),
                                  C.f (F.sc (Value.int IntKind.i64 a0.share.n)), C.f (F.sc (Value.string a0.share.s)),
                                  C.f (F.sl false Kind.term a0.share.kids), C.f (F.sc (Value.int IntKind.i64 a0.inn)),
                                  C.f (F.sc (Value.int IntKind.i64 a0.out)), C.f (F.sc (Value.bool a0.tls)),
                                  C.f (F.sc (Value.bool a0.proved))]])
                          fun v =>
                          qb (asClient v) fun x_1 =>
                            qb
                              (pres RN 34
                                [V.agg
                                    [C.f (F.sc (Value.int IntKind.i64 x.step)), C.f (F.sc (Value.string x.host)),
                                      C.f (F.sc (Value.bool x.must)), C.f (F.sc (Value.int IntKind.i64 x.eph)),
                                      C.f (F.sc (Value.int IntKind.i64 x.body)),
                                      C.f (F.sc (Value.int IntKind.i64 x.share.op)),
                                      C.f (F.sc (Value.int IntKind.i64 x.share.n)), C.f (F.sc (Value.string x.share.s)),
                                      C.f (F.sl false Kind.term x.share.kids), C.f (F.sc (Value.int IntKind.i64 x.inn)),
                                      C.f (F.sc (Value.int IntKind.i64 x.out)), C.f (F.sc (Value.bool x.tls)),
                                      C.f (F.sc (Value.bool x.proved))],
                                  V.agg
                                    [C.f (F.sc (Value.int IntKind.i64 x_1.step)), C.f (F.sc (Value.string x_1.host)),
                                      C.f (F.sc (Value.bool x_1.must)), C.f (F.sc (Value.int IntKind.i64 x_1.eph)),
                                      C.f (F.sc (Value.int IntKind.i64 x_1.body)),
                                      C.f (F.sc (Value.int IntKind.i64 x_1.share.op)),
                                      C.f (F.sc (Value.int IntKind.i64 x_1.share.n)),
                                      C.f (F.sc (Value.string x_1.share.s)), C.f (F.sl false Kind.term x_1.share.kids),
                                      C.f (F.sc (Value.int IntKind.i64 x_1.inn)),
                                      C.f (F.sc (Value.int IntKind.i64 x_1.out)), C.f (F.sc (Value.bool x_1.tls)),
                                      C.f (F.sc (Value.bool x_1.proved))]])
                              fun v =>
                              qb (qb (unC v) fun y => fBool y) fun b =>
                                br (!b) (some (V.c (C.f (F.sc (Value.bool false))), [], []))
                                  (some (V.c (C.f (F.sc (Value.bool true))), [], [])))) : Option (V × List Vm.Obj × List Vm.Obj)) := by kernel_rfl

theorem laws_FnExactSpent_res (n : Nat) (a0 : Letter) (a1 : Int) : resid Try.prog cfg RN n 3 [.ag (Letter.cells a0), .int a1] [] = (br (decide (IntKind.i64.wrap (1048576 - (↑a0.domain.size : Int)) < 0))
  (some (V.c (C.f (F.sc (Value.bool true))), [], []))
  (br (decide (IntKind.i64.wrap (1048576 - (↑a0.domain.size : Int)) < 0))
    (some (V.c (C.f (F.sc (Value.bool true))), [], []))
    (br (a0.state == 1)
      (br (a0.tries == 4)
        (br (a0.state == 1)
          (br (a0.tries == 4)
            (br (!decide (a0.next ≤ a1) == decide (a0.next ≤ a1)) (some (V.c (C.f (F.sc (Value.bool false))), [], []))
              (some (V.c (C.f (F.sc (Value.bool true))), [], [])))
            (br (!false == decide (a0.next ≤ a1)) (some (V.c (C.f (F.sc (Value.bool false))), [], []))
              (some (V.c (C.f (F.sc (Value.bool true))), [], []))))
          (br (!false == decide (a0.next ≤ a1)) (some (V.c (C.f (F.sc (Value.bool false))), [], []))
            (some (V.c (C.f (F.sc (Value.bool true))), [], []))))
        (br (a0.state == 1)
          (br (a0.tries == 4)
            (br (!decide (a0.next ≤ a1) == false) (some (V.c (C.f (F.sc (Value.bool false))), [], []))
              (some (V.c (C.f (F.sc (Value.bool true))), [], [])))
            (some (V.c (C.f (F.sc (Value.bool true))), [], [])))
          (some (V.c (C.f (F.sc (Value.bool true))), [], []))))
      (br (a0.state == 1)
        (br (a0.tries == 4)
          (br (!decide (a0.next ≤ a1) == false) (some (V.c (C.f (F.sc (Value.bool false))), [], []))
            (some (V.c (C.f (F.sc (Value.bool true))), [], [])))
          (some (V.c (C.f (F.sc (Value.bool true))), [], [])))
        (some (V.c (C.f (F.sc (Value.bool true))), [], []))))) : Option (V × List Vm.Obj × List Vm.Obj)) := by kernel_rfl

theorem laws_FnExactLetterOk_res (n : Nat) (a0 : Letter) : resid Try.prog cfg RN n 4 [.ag (Letter.cells a0)] [] = (br (decide (IntKind.i64.wrap (1048576 - (↑a0.domain.size : Int)) < 0))
  (some (V.c (C.f (F.sc (Value.bool true))), [], []))
  (br (decide (IntKind.i64.wrap (1048576 - (↑a0.domain.size : Int)) < 0))
    (some (V.c (C.f (F.sc (Value.bool true))), [], []))
    (qb
      (pres RN 14
        [V.agg
            [C.f (F.sc (Value.string a0.domain)), C.f (F.sc (Value.int IntKind.i64 a0.body)),
              C.f (F.sc (Value.int IntKind.i64 a0.state)), C.f (F.sc (Value.int IntKind.i64 a0.tries)),
              C.f (F.sc (Value.int IntKind.i64 a0.next))]])
      fun v =>
      qb (qb (unC v) fun y => fBool y) fun b =>
        qb
          (pres RN 15
            [V.agg
                [C.f (F.sc (Value.string a0.domain)), C.f (F.sc (Value.int IntKind.i64 a0.body)),
                  C.f (F.sc (Value.int IntKind.i64 a0.state)), C.f (F.sc (Value.int IntKind.i64 a0.tries)),
                  C.f (F.sc (Value.int IntKind.i64 a0.next))]])
          fun v =>
          qb (qb (unC v) fun y => fBool y) fun b_1 =>
            br (!b_1 == b) (some (V.c (C.f (F.sc (Value.bool false))), [], []))
              (some (V.c (C.f (F.sc (Value.bool true))), [], [])))) : Option (V × List Vm.Obj × List Vm.Obj)) := by kernel_rfl

theorem laws_FnExactLetterEnd_res (n : Nat) (a0 : Letter) (a1 : Bool) : resid Try.prog cfg RN n 5 [.ag (Letter.cells a0), .bool a1] [] = (br (decide (IntKind.i64.wrap (1048576 - (↑a0.domain.size : Int)) < 0))
  (some (V.c (C.f (F.sc (Value.bool true))), [], []))
  (br (decide (IntKind.i64.wrap (1048576 - (↑a0.domain.size : Int)) < 0))
    (some (V.c (C.f (F.sc (Value.bool true))), [], []))
    (br (a0.state != 1)
      (br (a0.state != 1)
        (qb
          (pres RN 18
            [V.agg
                [C.f (F.sc (Value.string a0.domain)), C.f (F.sc (Value.int IntKind.i64 a0.body)),
                  C.f (F.sc (Value.int IntKind.i64 a0.state)), C.f (F.sc (Value.int IntKind.i64 a0.tries)),
                  C.f (F.sc (Value.int IntKind.i64 a0.next))],
              V.agg
                [C.f (F.sc (Value.string a0.domain)), C.f (F.sc (Value.int IntKind.i64 a0.body)),
                  C.f (F.sc (Value.int IntKind.i64 a0.state)), C.f (F.sc (Value.int IntKind.i64 a0.tries)),
                  C.f (F.sc (Value.int IntKind.i64 a0.next))]])
          fun v =>
          qb (qb (unC v) fun y => fBool y) fun b =>
            br (!b) (some (V.c (C.f (F.sc (Value.bool false))), [], []))
              (some (V.c (C.f (F.sc (Value.bool true))), [], [])))
        (br a1
          (qb
            (pres RN 18
              [V.agg
                  [C.f (F.sc (Value.string a0.domain)), C.f (F.sc (Value.int IntKind.i64 a0.body)),
                    C.f (F.sc (Value.int IntKind.i64 2)), C.f (F.sc (Value.int IntKind.i64 a0.tries)),
                    C.f (F.sc (Value.int IntKind.i64 a0.next))],
                V.agg
                  [C.f (F.sc (Value.string a0.domain)), C.f (F.sc (Value.int IntKind.i64 a0.body)),
                    C.f (F.sc (Value.int IntKind.i64 a0.state)), C.f (F.sc (Value.int IntKind.i64 a0.tries)),
                    C.f (F.sc (Value.int IntKind.i64 a0.next))]])
            fun v =>
            qb (qb (unC v) fun y => fBool y) fun b =>
              br (!b) (some (V.c (C.f (F.sc (Value.bool false))), [], []))
                (some (V.c (C.f (F.sc (Value.bool true))), [], [])))
          (qb
            (pres RN 18
              [V.agg
                  [C.f (F.sc (Value.string a0.domain)), C.f (F.sc (Value.int IntKind.i64 a0.body)),
                    C.f (F.sc (Value.int IntKind.i64 3)), C.f (F.sc (Value.int IntKind.i64 a0.tries)),
                    C.f (F.sc (Value.int IntKind.i64 a0.next))],
                V.agg
                  [C.f (F.sc (Value.string a0.domain)), C.f (F.sc (Value.int IntKind.i64 a0.body)),
                    C.f (F.sc (Value.int IntKind.i64 a0.state)), C.f (F.sc (Value.int IntKind.i64 a0.tries)),
                    C.f (F.sc (Value.int IntKind.i64 a0.next))]])
            fun v =>
            qb (qb (unC v) fun y => fBool y) fun b =>
              br (!b) (some (V.c (C.f (F.sc (Value.bool false))), [], []))
                (some (V.c (C.f (F.sc (Value.bool true))), [], [])))))
      (br a1
        (br (a0.state != 1)
          (qb
            (pres RN 18
              [V.agg
                  [C.f (F.sc (Value.string a0.domain)), C.f (F.sc (Value.int IntKind.i64 a0.body)),
                    C.f (F.sc (Value.int IntKind.i64 a0.state)), C.f (F.sc (Value.int IntKind.i64 a0.tries)),
                    C.f (F.sc (Value.int IntKind.i64 a0.next))],
                V.agg
                  [C.f (F.sc (Value.string a0.domain)), C.f (F.sc (Value.int IntKind.i64 a0.body)),
                    C.f (F.sc (Value.int IntKind.i64 2)), C.f (F.sc (Value.int IntKind.i64 a0.tries)),
                    C.f (F.sc (Value.int IntKind.i64 a0.next))]])
            fun v =>
            qb (qb (unC v) fun y => fBool y) fun b =>
              br (!b) (some (V.c (C.f (F.sc (Value.bool false))), [], []))
                (some (V.c (C.f (F.sc (Value.bool true))), [], [])))
          (br a1
            (qb
              (pres RN 18
                [V.agg
                    [C.f (F.sc (Value.string a0.domain)), C.f (F.sc (Value.int IntKind.i64 a0.body)),
                      C.f (F.sc (Value.int IntKind.i64 2)), C.f (F.sc (Value.int IntKind.i64 a0.tries)),
                      C.f (F.sc (Value.int IntKind.i64 a0.next))],
                  V.agg
                    [C.f (F.sc (Value.string a0.domain)), C.f (F.sc (Value.int IntKind.i64 a0.body)),
                      C.f (F.sc (Value.int IntKind.i64 2)), C.f (F.sc (Value.int IntKind.i64 a0.tries)),
                      C.f (F.sc (Value.int IntKind.i64 a0.next))]])
              fun v =>
              qb (qb (unC v) fun y => fBool y) fun b =>
                br (!b) (some (V.c (C.f (F.sc (Value.bool false))), [], []))
                  (some (V.c (C.f (F.sc (Value.bool true))), [], [])))
            (qb
              (pres RN 18
                [V.agg
                    [C.f (F.sc (Value.string a0.domain)), C.f (F.sc (Value.int IntKind.i64 a0.body)),
                      C.f (F.sc (Value.int IntKind.i64 3)), C.f (F.sc (Value.int IntKind.i64 a0.tries)),
                      C.f (F.sc (Value.int IntKind.i64 a0.next))],
                  V.agg
                    [C.f (F.sc (Value.string a0.domain)), C.f (F.sc (Value.int IntKind.i64 a0.body)),
                      C.f (F.sc (Value.int IntKind.i64 2)), C.f (F.sc (Value.int IntKind.i64 a0.tries)),
                      C.f (F.sc (Value.int IntKind.i64 a0.next))]])
              fun v =>
              qb (qb (unC v) fun y => fBool y) fun b =>
                br (!b) (some (V.c (C.f (F.sc (Value.bool false))), [], []))
                  (some (V.c (C.f (F.sc (Value.bool true))), [], [])))))
        (br (a0.state != 1)
          (qb
            (pres RN 18
              [V.agg
                  [C.f (F.sc (Value.string a0.domain)), C.f (F.sc (Value.int IntKind.i64 a0.body)),
                    C.f (F.sc (Value.int IntKind.i64 a0.state)), C.f (F.sc (Value.int IntKind.i64 a0.tries)),
                    C.f (F.sc (Value.int IntKind.i64 a0.next))],
                V.agg
                  [C.f (F.sc (Value.string a0.domain)), C.f (F.sc (Value.int IntKind.i64 a0.body)),
                    C.f (F.sc (Value.int IntKind.i64 3)), C.f (F.sc (Value.int IntKind.i64 a0.tries)),
                    C.f (F.sc (Value.int IntKind.i64 a0.next))]])
            fun v =>
            qb (qb (unC v) fun y => fBool y) fun b =>
              br (!b) (some (V.c (C.f (F.sc (Value.bool false))), [], []))
                (some (V.c (C.f (F.sc (Value.bool true))), [], [])))
          (br a1
            (qb
              (pres RN 18
                [V.agg
                    [C.f (F.sc (Value.string a0.domain)), C.f (F.sc (Value.int IntKind.i64 a0.body)),
                      C.f (F.sc (Value.int IntKind.i64 2)), C.f (F.sc (Value.int IntKind.i64 a0.tries)),
                      C.f (F.sc (Value.int IntKind.i64 a0.next))],
                  V.agg
                    [C.f (F.sc (Value.string a0.domain)), C.f (F.sc (Value.int IntKind.i64 a0.body)),
                      C.f (F.sc (Value.int IntKind.i64 3)), C.f (F.sc (Value.int IntKind.i64 a0.tries)),
                      C.f (F.sc (Value.int IntKind.i64 a0.next))]])
              fun v =>
              qb (qb (unC v) fun y => fBool y) fun b =>
                br (!b) (some (V.c (C.f (F.sc (Value.bool false))), [], []))
                  (some (V.c (C.f (F.sc (Value.bool true))), [], [])))
            (qb
              (pres RN 18
                [V.agg
                    [C.f (F.sc (Value.string a0.domain)), C.f (F.sc (Value.int IntKind.i64 a0.body)),
                      C.f (F.sc (Value.int IntKind.i64 3)), C.f (F.sc (Value.int IntKind.i64 a0.tries)),
                      C.f (F.sc (Value.int IntKind.i64 a0.next))],
                  V.agg
                    [C.f (F.sc (Value.string a0.domain)), C.f (F.sc (Value.int IntKind.i64 a0.body)),
                      C.f (F.sc (Value.int IntKind.i64 3)), C.f (F.sc (Value.int IntKind.i64 a0.tries)),
                      C.f (F.sc (Value.int IntKind.i64 a0.next))]])
              fun v =>
              qb (qb (unC v) fun y => fBool y) fun b =>
                br (!b) (some (V.c (C.f (F.sc (Value.bool false))), [], []))
                  (some (V.c (C.f (F.sc (Value.bool true))), [], [])))))))) : Option (V × List Vm.Obj × List Vm.Obj)) := by kernel_rfl

theorem laws_markTermS_res (n : Nat) (t0 : Bool) (a0 : List Term) (a1 : Int) : resid Try.prog cfg RN n 45 [.sl t0 .term a0, .int a1] [] = (qb
  (lp Try.prog cfg RN n 5 45 2 0 n
    (St.mk
      (frOf
        [(0, V.c (C.f (F.sl t0 Kind.term a0))), (1, V.c (C.f (F.sc (Value.int IntKind.i64 a1)))),
          (5, V.c (C.f (F.sc (Value.int IntKind.i64 0))))])
      (hpIds [])))
  fun r =>
  qb (qb (unC (r.snd.fr (1, Sh.int).fst)) fun y => fInt y) fun n =>
    br (isRetE r.fst) (some (V.c C.hole, [], []))
      (br (isExt 0 r.fst) (some (V.c (C.f (F.sc (Value.int IntKind.i64 n))), [], [])) none) : Option (V × List Vm.Obj × List Vm.Obj)) := by kernel_rfl

theorem laws_heldTermS_res (n : Nat) (t0 : Bool) (a0 : List Term) (a1 : Int) : resid Try.prog cfg RN n 46 [.sl t0 .term a0, .int a1] [] = (qb
  (lp Try.prog cfg RN n 5 46 2 0 n
    (St.mk
      (frOf
        [(0, V.c (C.f (F.sl t0 Kind.term a0))), (1, V.c (C.f (F.sc (Value.int IntKind.i64 a1)))),
          (4, V.c (C.f (F.sc (Value.int IntKind.i64 0)))), (5, V.c (C.f (F.sc (Value.int IntKind.i64 0))))])
      (hpIds [])))
  fun r =>
  qb (qb (unC (r.snd.fr (1, Sh.int).fst)) fun y => fInt y) fun n =>
    qb (qb (unC (r.snd.fr (4, Sh.int).fst)) fun y => fInt y) fun n_1 =>
      br (isRetE r.fst) (some (V.c (C.f (F.sc (Value.int IntKind.i64 n_1))), [], []))
        (br (isExt 0 r.fst) (some (V.c (C.f (F.sc (Value.int IntKind.i64 n))), [], [])) none) : Option (V × List Vm.Obj × List Vm.Obj)) := by kernel_rfl

theorem laws_eqLetter_res (n : Nat) (a0 : Letter) (a1 : Letter) : resid Try.prog cfg RN n 18 [.ag (Letter.cells a0), .ag (Letter.cells a1)] [] = (br (!a0.domain.toList == a1.domain.toList) (some (V.c (C.f (F.sc (Value.bool false))), [], []))
  (br (a0.body != a1.body) (some (V.c (C.f (F.sc (Value.bool false))), [], []))
    (br (a0.state != a1.state) (some (V.c (C.f (F.sc (Value.bool false))), [], []))
      (br (a0.tries != a1.tries) (some (V.c (C.f (F.sc (Value.bool false))), [], []))
        (br (a0.next != a1.next) (some (V.c (C.f (F.sc (Value.bool false))), [], []))
          (some (V.c (C.f (F.sc (Value.bool true))), [], [])))))) : Option (V × List Vm.Obj × List Vm.Obj)) := by kernel_rfl

theorem spec_ClientText_res (n : Nat) (a0 : Client) : resid Try.prog cfg RN n 31 [.ag (Client.cells a0)] [] = (qb
  (pres RN 48
    [V.c (C.f (F.sc (Value.int IntKind.i64 a0.step))),
      V.c
        (C.f
          (F.sl false Kind.str
            [ByteArray.mk #[103, 114, 101, 101, 116], ByteArray.mk #[101, 104, 108, 111],
              ByteArray.mk #[114, 101, 97, 100, 121], ByteArray.mk #[114, 101, 112, 108, 121],
              ByteArray.mk #[109, 97, 105, 108], ByteArray.mk #[114, 99, 112, 116], ByteArray.mk #[100, 97, 116, 97],
              ByteArray.mk #[98, 111, 100, 121], ByteArray.mk #[100, 111, 110, 101],
              ByteArray.mk #[102, 97, 105, 108]]))])
  fun v =>
  qb (qb (unC v) fun y => fStr y) fun s =>
    qb (catOk s (ByteArray.mk #[32])) fun x =>
      qb (catOk (s ++ ByteArray.mk #[32]) a0.host) fun x =>
        br a0.must
          (qb (catOk (s ++ ByteArray.mk #[32] ++ a0.host) (ByteArray.mk #[32, 109, 117, 115, 116])) fun x =>
            br a0.tls
              (qb
                (catOk (s ++ ByteArray.mk #[32] ++ a0.host ++ ByteArray.mk #[32, 109, 117, 115, 116])
                  (ByteArray.mk #[32, 115, 101, 97, 108, 101, 100]))
                fun x =>
                br a0.proved
                  (qb
                    (catOk
                      (s ++ ByteArray.mk #[32] ++ a0.host ++ ByteArray.mk #[32, 109, 117, 115, 116] ++
                        ByteArray.mk #[32, 115, 101, 97, 108, 101, 100])
                      (ByteArray.mk #[32, 112, 114, 111, 118, 101, 100]))
                    fun x =>
                    some
                      (V.c
                          (C.f
                            (F.sc
                              (Value.string
                                (s ++ ByteArray.mk #[32] ++ a0.host ++ ByteArray.mk #[32, 109, 117, 115, 116] ++
                                    ByteArray.mk #[32, 115, 101, 97, 108, 101, 100] ++
                                  ByteArray.mk #[32, 112, 114, 111, 118, 101, 100])))),
                        [], []))
                  (some
                    (V.c
                        (C.f
                          (F.sc
                            (Value.string
                              (s ++ ByteArray.mk #[32] ++ a0.host ++ ByteArray.mk #[32, 109, 117, 115, 116] ++
                                ByteArray.mk #[32, 115, 101, 97, 108, 101, 100])))),
                      [], [])))
              (br a0.proved
                (qb
                  (catOk (s ++ ByteArray.mk #[32] ++ a0.host ++ ByteArray.mk #[32, 109, 117, 115, 116])
                    (ByteArray.mk #[32, 112, 114, 111, 118, 101, 100]))
                  fun x =>
                  some
                    (V.c
                        (C.f
                          (F.sc
                            (Value.string
                              (s ++ ByteArray.mk #[32] ++ a0.host ++ ByteArray.mk #[32, 109, 117, 115, 116] ++
                                ByteArray.mk #[32, 112, 114, 111, 118, 101, 100])))),
                      [], []))
                (some
                  (V.c
                      (C.f
                        (F.sc
                          (Value.string
                            (s ++ ByteArray.mk #[32] ++ a0.host ++ ByteArray.mk #[32, 109, 117, 115, 116])))),
                    [], []))))
          (br a0.tls
            (qb (catOk (s ++ ByteArray.mk #[32] ++ a0.host) (ByteArray.mk #[32, 115, 101, 97, 108, 101, 100])) fun x =>
              br a0.proved
                (qb
                  (catOk (s ++ ByteArray.mk #[32] ++ a0.host ++ ByteArray.mk #[32, 115, 101, 97, 108, 101, 100])
                    (ByteArray.mk #[32, 112, 114, 111, 118, 101, 100]))
                  fun x =>
                  some
                    (V.c
                        (C.f
                          (F.sc
                            (Value.string
                              (s ++ ByteArray.mk #[32] ++ a0.host ++ ByteArray.mk #[32, 115, 101, 97, 108, 101, 100] ++
                                ByteArray.mk #[32, 112, 114, 111, 118, 101, 100])))),
                      [], []))
                (some
                  (V.c
                      (C.f
                        (F.sc
                          (Value.string
                            (s ++ ByteArray.mk #[32] ++ a0.host ++ ByteArray.mk #[32, 115, 101, 97, 108, 101, 100])))),
                    [], [])))
            (br a0.proved
              (qb (catOk (s ++ ByteArray.mk #[32] ++ a0.host) (ByteArray.mk #[32, 112, 114, 111, 118, 101, 100]))
                fun x =>
                some
                  (V.c
                      (C.f
                        (F.sc
                          (Value.string
                            (s ++ ByteArray.mk #[32] ++ a0.host ++ ByteArray.mk #[32, 112, 114, 111, 118, 101, 100])))),
                    [], []))
              (some (V.c (C.f (F.sc (Value.string (s ++ ByteArray.mk #[32] ++ a0.host)))), [], [])))) : Option (V × List Vm.Obj × List Vm.Obj)) := by kernel_rfl

theorem impl_ClientText_res (n : Nat) (a0 : Client) : resid Try.prog cfg RN n 33 [.ag (Client.cells a0)] [] = (qb
  (pres RN 50
    [V.c (C.f (F.sc (Value.int IntKind.i64 a0.step))),
      V.c
        (C.f
          (F.sl false Kind.str
            [ByteArray.mk #[103, 114, 101, 101, 116], ByteArray.mk #[101, 104, 108, 111],
              ByteArray.mk #[114, 101, 97, 100, 121], ByteArray.mk #[114, 101, 112, 108, 121],
              ByteArray.mk #[109, 97, 105, 108], ByteArray.mk #[114, 99, 112, 116], ByteArray.mk #[100, 97, 116, 97],
              ByteArray.mk #[98, 111, 100, 121], ByteArray.mk #[100, 111, 110, 101],
              ByteArray.mk #[102, 97, 105, 108]]))])
  fun v =>
  qb (qb (unC v) fun y => fStr y) fun s =>
    qb (catOk s (ByteArray.mk #[32])) fun x =>
      qb (catOk (s ++ ByteArray.mk #[32]) a0.host) fun x =>
        br a0.must
          (qb (catOk (s ++ ByteArray.mk #[32] ++ a0.host) (ByteArray.mk #[32, 109, 117, 115, 116])) fun x =>
            br a0.tls
              (qb
                (catOk (s ++ ByteArray.mk #[32] ++ a0.host ++ ByteArray.mk #[32, 109, 117, 115, 116])
                  (ByteArray.mk #[32, 115, 101, 97, 108, 101, 100]))
                fun x =>
                br a0.proved
                  (qb
                    (catOk
                      (s ++ ByteArray.mk #[32] ++ a0.host ++ ByteArray.mk #[32, 109, 117, 115, 116] ++
                        ByteArray.mk #[32, 115, 101, 97, 108, 101, 100])
                      (ByteArray.mk #[32, 112, 114, 111, 118, 101, 100]))
                    fun x =>
                    some
                      (V.c
                          (C.f
                            (F.sc
                              (Value.string
                                (s ++ ByteArray.mk #[32] ++ a0.host ++ ByteArray.mk #[32, 109, 117, 115, 116] ++
                                    ByteArray.mk #[32, 115, 101, 97, 108, 101, 100] ++
                                  ByteArray.mk #[32, 112, 114, 111, 118, 101, 100])))),
                        [], []))
                  (some
                    (V.c
                        (C.f
                          (F.sc
                            (Value.string
                              (s ++ ByteArray.mk #[32] ++ a0.host ++ ByteArray.mk #[32, 109, 117, 115, 116] ++
                                ByteArray.mk #[32, 115, 101, 97, 108, 101, 100])))),
                      [], [])))
              (br a0.proved
                (qb
                  (catOk (s ++ ByteArray.mk #[32] ++ a0.host ++ ByteArray.mk #[32, 109, 117, 115, 116])
                    (ByteArray.mk #[32, 112, 114, 111, 118, 101, 100]))
                  fun x =>
                  some
                    (V.c
                        (C.f
                          (F.sc
                            (Value.string
                              (s ++ ByteArray.mk #[32] ++ a0.host ++ ByteArray.mk #[32, 109, 117, 115, 116] ++
                                ByteArray.mk #[32, 112, 114, 111, 118, 101, 100])))),
                      [], []))
                (some
                  (V.c
                      (C.f
                        (F.sc
                          (Value.string
                            (s ++ ByteArray.mk #[32] ++ a0.host ++ ByteArray.mk #[32, 109, 117, 115, 116])))),
                    [], []))))
          (br a0.tls
            (qb (catOk (s ++ ByteArray.mk #[32] ++ a0.host) (ByteArray.mk #[32, 115, 101, 97, 108, 101, 100])) fun x =>
              br a0.proved
                (qb
                  (catOk (s ++ ByteArray.mk #[32] ++ a0.host ++ ByteArray.mk #[32, 115, 101, 97, 108, 101, 100])
                    (ByteArray.mk #[32, 112, 114, 111, 118, 101, 100]))
                  fun x =>
                  some
                    (V.c
                        (C.f
                          (F.sc
                            (Value.string
                              (s ++ ByteArray.mk #[32] ++ a0.host ++ ByteArray.mk #[32, 115, 101, 97, 108, 101, 100] ++
                                ByteArray.mk #[32, 112, 114, 111, 118, 101, 100])))),
                      [], []))
                (some
                  (V.c
                      (C.f
                        (F.sc
                          (Value.string
                            (s ++ ByteArray.mk #[32] ++ a0.host ++ ByteArray.mk #[32, 115, 101, 97, 108, 101, 100])))),
                    [], [])))
            (br a0.proved
              (qb (catOk (s ++ ByteArray.mk #[32] ++ a0.host) (ByteArray.mk #[32, 112, 114, 111, 118, 101, 100]))
                fun x =>
                some
                  (V.c
                      (C.f
                        (F.sc
                          (Value.string
                            (s ++ ByteArray.mk #[32] ++ a0.host ++ ByteArray.mk #[32, 112, 114, 111, 118, 101, 100])))),
                    [], []))
              (some (V.c (C.f (F.sc (Value.string (s ++ ByteArray.mk #[32] ++ a0.host)))), [], [])))) : Option (V × List Vm.Obj × List Vm.Obj)) := by kernel_rfl

theorem laws_toClient_res (n : Nat) (a0 : Client) : resid Try.prog cfg RN n 32 [.ag (Client.cells a0)] [] = (qb
  (pres RN 49
    [V.agg
        [C.f (F.sc (Value.int IntKind.i64 a0.share.op)), C.f (F.sc (Value.int IntKind.i64 a0.share.n)),
          C.f (F.sc (Value.string a0.share.s)), C.f (F.sl false Kind.term a0.share.kids)]])
  fun v =>
  qb (asEl Kind.term v) fun x =>
    some
      (V.agg
          [C.f (F.sc (Value.int IntKind.i64 a0.step)), C.f (F.sc (Value.string a0.host)),
            C.f (F.sc (Value.bool a0.must)), C.f (F.sc (Value.int IntKind.i64 a0.eph)),
            C.f (F.sc (Value.int IntKind.i64 a0.body)), C.f (F.sc (Value.int IntKind.i64 x.op)),
            C.f (F.sc (Value.int IntKind.i64 x.n)), C.f (F.sc (Value.string x.s)), C.f (F.sl false Kind.term x.kids),
            C.f (F.sc (Value.int IntKind.i64 a0.inn)), C.f (F.sc (Value.int IntKind.i64 a0.out)),
            C.f (F.sc (Value.bool a0.tls)), C.f (F.sc (Value.bool a0.proved))],
        [], []) : Option (V × List Vm.Obj × List Vm.Obj)) := by kernel_rfl

theorem laws_eqClient_res (n : Nat) (a0 : Client) (a1 : Client) : resid Try.prog cfg RN n 34 [.ag (Client.cells a0), .ag (Client.cells a1)] [] = (br (a0.step != a1.step) (some (V.c (C.f (F.sc (Value.bool false))), [], []))
  (br (!a0.host.toList == a1.host.toList) (some (V.c (C.f (F.sc (Value.bool false))), [], []))
    (br (!a0.must == a1.must) (some (V.c (C.f (F.sc (Value.bool false))), [], []))
      (br (a0.eph != a1.eph) (some (V.c (C.f (F.sc (Value.bool false))), [], []))
        (br (a0.body != a1.body) (some (V.c (C.f (F.sc (Value.bool false))), [], []))
          (qb
            (pres RN 27
              [V.agg
                  [C.f (F.sc (Value.int IntKind.i64 a0.share.op)), C.f (F.sc (Value.int IntKind.i64 a0.share.n)),
                    C.f (F.sc (Value.string a0.share.s)), C.f (F.sl false Kind.term a0.share.kids)],
                V.agg
                  [C.f (F.sc (Value.int IntKind.i64 a1.share.op)), C.f (F.sc (Value.int IntKind.i64 a1.share.n)),
                    C.f (F.sc (Value.string a1.share.s)), C.f (F.sl false Kind.term a1.share.kids)]])
            fun v =>
            qb (qb (unC v) fun y => fBool y) fun b =>
              br (!b) (some (V.c (C.f (F.sc (Value.bool false))), [], []))
                (br (a0.inn != a1.inn) (some (V.c (C.f (F.sc (Value.bool false))), [], []))
                  (br (a0.out != a1.out) (some (V.c (C.f (F.sc (Value.bool false))), [], []))
                    (br (!a0.tls == a1.tls) (some (V.c (C.f (F.sc (Value.bool false))), [], []))
                      (br (!a0.proved == a1.proved) (some (V.c (C.f (F.sc (Value.bool false))), [], []))
                        (some (V.c (C.f (F.sc (Value.bool true))), [], []))))))))))) : Option (V × List Vm.Obj × List Vm.Obj)) := by kernel_rfl

theorem spec_l17Name_res (n : Nat) (a0 : Int) (t1 : Bool) (a1 : List ByteArray) : resid Try.prog cfg RN n 48 [.int a0, .sl t1 .str a1] [] = (br (decide (a0 < 1)) (some (V.c (C.f (F.sc (Value.string (ByteArray.mk #[110, 111, 110, 101])))), [], []))
  (br (decide (a0 > (↑a1.length : Int)))
    (some (V.c (C.f (F.sc (Value.string (ByteArray.mk #[110, 111, 110, 101])))), [], []))
    (qb (idx a1 (IntKind.i64.wrap (a0 - 1))) fun y => some (V.c (C.f (F.sc (Value.string y))), [], []))) : Option (V × List Vm.Obj × List Vm.Obj)) := by kernel_rfl

theorem impl_named_res (n : Nat) (a0 : Int) (t1 : Bool) (a1 : List ByteArray) : resid Try.prog cfg RN n 50 [.int a0, .sl t1 .str a1] [] = (br (decide (a0 ≥ 1))
  (br (!decide (a0 ≤ (↑a1.length : Int)))
    (some (V.c (C.f (F.sc (Value.string (ByteArray.mk #[110, 111, 110, 101])))), [], []))
    (qb (idx a1 (IntKind.i64.wrap (a0 - 1))) fun y => some (V.c (C.f (F.sc (Value.string y))), [], [])))
  (some (V.c (C.f (F.sc (Value.string (ByteArray.mk #[110, 111, 110, 101])))), [], [])) : Option (V × List Vm.Obj × List Vm.Obj)) := by kernel_rfl

theorem laws_szClient_res (n : Nat) (a0 : Client) (a1 : Int) : resid Try.prog cfg RN n 30 [.ag (Client.cells a0), .int a1] [] = (br (decide (IntKind.i64.wrap (a1 - (↑a0.host.size : Int)) < 0))
  (some (V.c (C.f (F.sc (Value.int IntKind.i64 (-1)))), [], []))
  (qb
    (pres RN 47
      [V.agg
          [C.f (F.sc (Value.int IntKind.i64 a0.share.op)), C.f (F.sc (Value.int IntKind.i64 a0.share.n)),
            C.f (F.sc (Value.string a0.share.s)), C.f (F.sl false Kind.term a0.share.kids)],
        V.c (C.f (F.sc (Value.int IntKind.i64 (IntKind.i64.wrap (a1 - (↑a0.host.size : Int))))))])
    fun v =>
    qb (qb (unC v) fun y => fInt y) fun n =>
      br (decide (n < 0)) (some (V.c (C.f (F.sc (Value.int IntKind.i64 (-1)))), [], []))
        (some (V.c (C.f (F.sc (Value.int IntKind.i64 n))), [], []))) : Option (V × List Vm.Obj × List Vm.Obj)) := by kernel_rfl

theorem laws_szLetter_res (n : Nat) (a0 : Letter) (a1 : Int) : resid Try.prog cfg RN n 10 [.ag (Letter.cells a0), .int a1] [] = (br (decide (IntKind.i64.wrap (a1 - (↑a0.domain.size : Int)) < 0))
  (some (V.c (C.f (F.sc (Value.int IntKind.i64 (-1)))), [], []))
  (some (V.c (C.f (F.sc (Value.int IntKind.i64 (IntKind.i64.wrap (a1 - (↑a0.domain.size : Int)))))), [], [])) : Option (V × List Vm.Obj × List Vm.Obj)) := by kernel_rfl

theorem laws_szNote_res (n : Nat) (a0 : Note) (a1 : Int) : resid Try.prog cfg RN n 19 [.ag (Note.cells a0), .int a1] [] = (br (decide (IntKind.i64.wrap (a1 - (↑a0.domain.size : Int)) < 0))
  (some (V.c (C.f (F.sc (Value.int IntKind.i64 (-1)))), [], []))
  (some (V.c (C.f (F.sc (Value.int IntKind.i64 (IntKind.i64.wrap (a1 - (↑a0.domain.size : Int)))))), [], [])) : Option (V × List Vm.Obj × List Vm.Obj)) := by kernel_rfl

theorem spec_l6Domain_round2 (n : Nat) (x0 : ByteArray) (x2 : Bool) (x3 : Int) : roundK Try.prog cfg RN n 5 35 2 0 ⟨frOf [(0, .str x0), (2, .bool x2), (3, .int x3)], hpIds []⟩ = (br (decide (x3 < (↑x0.size : Int)))
  (qb (byteAt x0 x3) fun b =>
    br (decide (b < 97))
      (some
        (Ex.ret,
          St.mk (frOf [(0, V.c (C.f (F.sc (Value.string x0)))), (2, V.c (C.f (F.sc (Value.bool false))))]) (hpIds [])))
      (qb (byteAt x0 x3) fun b =>
        br (decide (b > 122))
          (some
            (Ex.ret,
              St.mk (frOf [(0, V.c (C.f (F.sc (Value.string x0)))), (2, V.c (C.f (F.sc (Value.bool false))))])
                (hpIds [])))
          (some
            (Ex.nrm,
              St.mk
                (frOf
                  [(0, V.c (C.f (F.sc (Value.string x0)))), (2, V.c (C.f (F.sc (Value.bool x2)))),
                    (3, V.c (C.f (F.sc (Value.int IntKind.i64 (IntKind.i64.wrap (x3 + 1))))))])
                (hpIds [])))))
  (some
    (Ex.ext 0,
      St.mk (frOf [(0, V.c (C.f (F.sc (Value.string x0)))), (2, V.c (C.f (F.sc (Value.bool x2))))]) (hpIds []))) : Option (Ex × St)) := by kernel_rfl

theorem impl_domainOk_round2 (n : Nat) (x0 : ByteArray) (x2 : Bool) (x5 : Int) (x6 : Int) : roundK Try.prog cfg RN n 5 37 2 0 ⟨frOf [(0, .str x0), (2, .bool x2), (5, .int x5), (6, .int x6)], hpIds []⟩ = (br (decide (x6 < x5))
  (qb (byteAt x0 x6) fun b =>
    br (decide (b < 97))
      (some
        (Ex.ret,
          St.mk (frOf [(0, V.c (C.f (F.sc (Value.string x0)))), (2, V.c (C.f (F.sc (Value.bool false))))]) (hpIds [])))
      (qb (byteAt x0 x6) fun b =>
        br (decide (b > 122))
          (some
            (Ex.ret,
              St.mk (frOf [(0, V.c (C.f (F.sc (Value.string x0)))), (2, V.c (C.f (F.sc (Value.bool false))))])
                (hpIds [])))
          (some
            (Ex.nrm,
              St.mk
                (frOf
                  [(0, V.c (C.f (F.sc (Value.string x0)))), (2, V.c (C.f (F.sc (Value.bool x2)))),
                    (5, V.c (C.f (F.sc (Value.int IntKind.i64 x5)))),
                    (6, V.c (C.f (F.sc (Value.int IntKind.i64 (IntKind.i64.wrap (x6 + 1))))))])
                (hpIds [])))))
  (some
    (Ex.ext 0,
      St.mk (frOf [(0, V.c (C.f (F.sc (Value.string x0)))), (2, V.c (C.f (F.sc (Value.bool x2))))]) (hpIds []))) : Option (Ex × St)) := by kernel_rfl

theorem laws_eqTermS_round4 (n : Nat) (t0 : Bool) (x0 : List Term) (t1 : Bool) (x1 : List Term) (x4 : Bool) (x5 : Int) : roundK Try.prog cfg RN n 5 44 4 0 ⟨frOf [(0, .sl t0 .term x0), (1, .sl t1 .term x1), (4, .bool x4), (5, .int x5)], hpIds []⟩ = (br (decide (x5 < (↑x0.length : Int)))
  (qb (idx x0 x5) fun y =>
    qb (idx x1 x5) fun y_1 =>
      qb
        (pres RN 27
          [V.agg
              [C.f (F.sc (Value.int IntKind.i64 y.op)), C.f (F.sc (Value.int IntKind.i64 y.n)),
                C.f (F.sc (Value.string y.s)), C.f (F.sl false Kind.term y.kids)],
            V.agg
              [C.f (F.sc (Value.int IntKind.i64 y_1.op)), C.f (F.sc (Value.int IntKind.i64 y_1.n)),
                C.f (F.sc (Value.string y_1.s)), C.f (F.sl false Kind.term y_1.kids)]])
        fun v =>
        qb (qb (unC v) fun y => fBool y) fun b =>
          br (!b) (some (Ex.ret, St.mk (frOf [(4, V.c (C.f (F.sc (Value.bool false))))]) (hpIds [])))
            (some
              (Ex.nrm,
                St.mk
                  (frOf
                    [(0, V.c (C.f (F.sl t0 Kind.term x0))), (1, V.c (C.f (F.sl t1 Kind.term x1))),
                      (4, V.c (C.f (F.sc (Value.bool x4)))),
                      (5, V.c (C.f (F.sc (Value.int IntKind.i64 (IntKind.i64.wrap (x5 + 1))))))])
                  (hpIds []))))
  (some (Ex.ext 0, St.mk (frOf [(4, V.c (C.f (F.sc (Value.bool x4))))]) (hpIds []))) : Option (Ex × St)) := by kernel_rfl

theorem laws_szTermS_round5 (n : Nat) (t0 : Bool) (x0 : List Term) (x1 : Int) (x4 : Int) (x5 : Int) : roundK Try.prog cfg RN n 5 52 5 0 ⟨frOf [(0, .sl t0 .term x0), (1, .int x1), (4, .int x4), (5, .int x5)], hpIds []⟩ = (br (decide (x5 < (↑x0.length : Int)))
  (qb (idx x0 x5) fun y =>
    qb
      (pres RN 47
        [V.agg
            [C.f (F.sc (Value.int IntKind.i64 y.op)), C.f (F.sc (Value.int IntKind.i64 y.n)),
              C.f (F.sc (Value.string y.s)), C.f (F.sl false Kind.term y.kids)],
          V.c (C.f (F.sc (Value.int IntKind.i64 x1)))])
      fun v =>
      qb (qb (unC v) fun y => fInt y) fun n =>
        br (decide (n < 0))
          (some
            (Ex.ret,
              St.mk
                (frOf
                  [(1, V.c (C.f (F.sc (Value.int IntKind.i64 n)))), (4, V.c (C.f (F.sc (Value.int IntKind.i64 (-1)))))])
                (hpIds [])))
          (some
            (Ex.nrm,
              St.mk
                (frOf
                  [(0, V.c (C.f (F.sl t0 Kind.term x0))), (1, V.c (C.f (F.sc (Value.int IntKind.i64 n)))),
                    (4, V.c (C.f (F.sc (Value.int IntKind.i64 x4)))),
                    (5, V.c (C.f (F.sc (Value.int IntKind.i64 (IntKind.i64.wrap (x5 + 1))))))])
                (hpIds []))))
  (some
    (Ex.ext 0,
      St.mk (frOf [(1, V.c (C.f (F.sc (Value.int IntKind.i64 x1)))), (4, V.c (C.f (F.sc (Value.int IntKind.i64 x4))))])
        (hpIds []))) : Option (Ex × St)) := by kernel_rfl

theorem laws_toTermS_round3 (n : Nat) (t0 : Bool) (x0 : List Term) (x3 : List Term) (x4 : Int) : roundK Try.prog cfg RN n 5 53 3 0 ⟨frOf [(0, .sl t0 .term x0), (3, .c (.row (.own 3) .term)), (4, .int x4)], hpIds [(.own 3, .row true .term x3)]⟩ = (br (decide (x4 < (↑x0.length : Int)))
  (qb (idx x0 x4) fun y =>
    qb
      (pres RN 49
        [V.agg
            [C.f (F.sc (Value.int IntKind.i64 y.op)), C.f (F.sc (Value.int IntKind.i64 y.n)),
              C.f (F.sc (Value.string y.s)), C.f (F.sl false Kind.term y.kids)]])
      fun v =>
      qb (asEl Kind.term v) fun x =>
        qb (idx x3 x4) fun x_1 =>
          qb x3[x4.toNat]? fun x_2 =>
            some
              (Ex.nrm,
                St.mk
                  (frOf
                    [(0, V.c (C.f (F.sl t0 Kind.term x0))), (3, V.c (C.row (Id.own 3) Kind.term)),
                      (4, V.c (C.f (F.sc (Value.int IntKind.i64 (IntKind.i64.wrap (x4 + 1))))))])
                  (hpIds [(Id.own 3, Obj.row true Kind.term (x3.set x4.toNat (Term.mk x.op x.n x.s x.kids)))])))
  (some
    (Ex.ext 0, St.mk (frOf [(3, V.c (C.row (Id.own 3) Kind.term))]) (hpIds [(Id.own 3, Obj.row true Kind.term x3)]))) : Option (Ex × St)) := by kernel_rfl

theorem laws_markTermS_round2 (n : Nat) (t0 : Bool) (x0 : List Term) (x1 : Int) (x5 : Int) : roundK Try.prog cfg RN n 5 45 2 0 ⟨frOf [(0, .sl t0 .term x0), (1, .int x1), (5, .int x5)], hpIds []⟩ = (br (decide (x5 < (↑x0.length : Int))) (qb (idx x0 x5) fun y => none)
  (some (Ex.ext 0, St.mk (frOf [(1, V.c (C.f (F.sc (Value.int IntKind.i64 x1))))]) (hpIds []))) : Option (Ex × St)) := by kernel_rfl

theorem laws_markTermS_round2_3 (n : Nat) (t0 : Bool) (x0 : List Term) (x1 : Int) (x5 : Int) : roundK Try.prog cfg RN n 3 45 2 0 ⟨frOf [(0, .sl t0 .term x0), (1, .int x1), (5, .int x5)], hpIds []⟩ = (br (decide (x5 < (↑x0.length : Int))) (qb (idx x0 x5) fun y => none)
  (some (Ex.ext 0, St.mk (frOf [(1, V.c (C.f (F.sc (Value.int IntKind.i64 x1))))]) (hpIds []))) : Option (Ex × St)) := by kernel_rfl

theorem laws_heldTermS_round2 (n : Nat) (t0 : Bool) (x0 : List Term) (x1 : Int) (x4 : Int) (x5 : Int) : roundK Try.prog cfg RN n 5 46 2 0 ⟨frOf [(0, .sl t0 .term x0), (1, .int x1), (4, .int x4), (5, .int x5)], hpIds []⟩ = (br (decide (x5 < (↑x0.length : Int)))
  (qb (idx x0 x5) fun y =>
    br (y.op != x1)
      (some
        (Ex.ret,
          St.mk
            (frOf
              [(1, V.c (C.f (F.sc (Value.int IntKind.i64 x1)))), (4, V.c (C.f (F.sc (Value.int IntKind.i64 (-1)))))])
            (hpIds [])))
      (qb (idx x0 x5) fun y =>
        br (y.n != IntKind.i64.wrap (x1 + 1))
          (some
            (Ex.ret,
              St.mk
                (frOf
                  [(1, V.c (C.f (F.sc (Value.int IntKind.i64 (IntKind.i64.wrap (x1 + 1)))))),
                    (4, V.c (C.f (F.sc (Value.int IntKind.i64 (-1)))))])
                (hpIds [])))
          (qb (idx x0 x5) fun y =>
            qb (pres RN 51 [V.c (C.f (F.sc (Value.int IntKind.i64 (IntKind.i64.wrap (IntKind.i64.wrap (x1 + 1) + 1)))))])
              fun v =>
              qb (qb (unC v) fun y => fStr y) fun s =>
                br (!y.s.toList == s.toList)
                  (some
                    (Ex.ret,
                      St.mk
                        (frOf
                          [(1,
                              V.c
                                (C.f
                                  (F.sc (Value.int IntKind.i64 (IntKind.i64.wrap (IntKind.i64.wrap (x1 + 1) + 1)))))),
                            (4, V.c (C.f (F.sc (Value.int IntKind.i64 (-1)))))])
                        (hpIds [])))
                  (qb (idx x0 x5) fun y =>
                    qb
                      (pres RN 46
                        [V.c (C.f (F.sl false Kind.term y.kids)),
                          V.c
                            (C.f
                              (F.sc
                                (Value.int IntKind.i64
                                  (IntKind.i64.wrap (IntKind.i64.wrap (IntKind.i64.wrap (x1 + 1) + 1) + 1)))))])
                      fun v =>
                      qb (qb (unC v) fun y => fInt y) fun n =>
                        br (decide (n < 0))
                          (some
                            (Ex.ret,
                              St.mk
                                (frOf
                                  [(1, V.c (C.f (F.sc (Value.int IntKind.i64 n)))),
                                    (4, V.c (C.f (F.sc (Value.int IntKind.i64 (-1)))))])
                                (hpIds [])))
                          (some
                            (Ex.nrm,
                              St.mk
                                (frOf
                                  [(0, V.c (C.f (F.sl t0 Kind.term x0))),
                                    (1, V.c (C.f (F.sc (Value.int IntKind.i64 n)))),
                                    (4, V.c (C.f (F.sc (Value.int IntKind.i64 x4)))),
                                    (5, V.c (C.f (F.sc (Value.int IntKind.i64 (IntKind.i64.wrap (x5 + 1))))))])
                                (hpIds [])))))))
  (some
    (Ex.ext 0,
      St.mk (frOf [(1, V.c (C.f (F.sc (Value.int IntKind.i64 x1)))), (4, V.c (C.f (F.sc (Value.int IntKind.i64 x4))))])
        (hpIds []))) : Option (Ex × St)) := by kernel_rfl

end Go.Proofs.Ythhgnkogjccceaa
