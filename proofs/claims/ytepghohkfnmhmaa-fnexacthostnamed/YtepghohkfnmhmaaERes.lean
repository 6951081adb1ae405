/-
  What each function comes to, step by step, over what the others answer.
-/
import Derived.Test.YtepghohkfnmhmaaECfg
namespace Go.Proofs.Ytepghohkfnmhmaa
open Go.Vm
set_option linter.unusedVariables false

theorem laws_szWorld_res (n : Nat) (a0 : WorldD) (a1 : Int) : resid Try.prog cfg RN n 18 [.ag (WorldD.cells a0), .int a1] [] = (qb (pres RN 34 [V.c (C.f (F.sl false Kind.term a0.known)), V.c (C.f (F.sc (Value.int IntKind.i64 a1)))]) fun v =>
  qb (qb (unC v) fun y => fInt y) fun n =>
    br (decide (n < 0)) (some (V.c (C.f (F.sc (Value.int IntKind.i64 (-1)))), [], []))
      (qb (pres RN 35 [V.c (C.f (F.sl false Kind.policy a0.cache)), V.c (C.f (F.sc (Value.int IntKind.i64 n)))]) fun v =>
        qb (qb (unC v) fun y => fInt y) fun n =>
          br (decide (n < 0)) (some (V.c (C.f (F.sc (Value.int IntKind.i64 (-1)))), [], []))
            (qb (pres RN 36 [V.c (C.f (F.sl false Kind.host a0.hosts)), V.c (C.f (F.sc (Value.int IntKind.i64 n)))])
              fun v =>
              qb (qb (unC v) fun y => fInt y) fun n =>
                br (decide (n < 0)) (some (V.c (C.f (F.sc (Value.int IntKind.i64 (-1)))), [], []))
                  (qb
                    (pres RN 37
                      [V.c (C.f (F.sl false Kind.letter a0.letters)), V.c (C.f (F.sc (Value.int IntKind.i64 n)))])
                    fun v =>
                    qb (qb (unC v) fun y => fInt y) fun n =>
                      br (decide (n < 0)) (some (V.c (C.f (F.sc (Value.int IntKind.i64 (-1)))), [], []))
                        (br (decide (IntKind.i64.wrap (n - (↑a0.book.size : Int)) < 0))
                          (some (V.c (C.f (F.sc (Value.int IntKind.i64 (-1)))), [], []))
                          (qb
                            (pres RN 38
                              [V.c (C.f (F.sl false Kind.call a0.calls)),
                                V.c
                                  (C.f (F.sc (Value.int IntKind.i64 (IntKind.i64.wrap (n - (↑a0.book.size : Int))))))])
                            fun v =>
                            qb (qb (unC v) fun y => fInt y) fun n =>
                              br (decide (n < 0)) (some (V.c (C.f (F.sc (Value.int IntKind.i64 (-1)))), [], []))
                                (qb
                                  (pres RN 39
                                    [V.c (C.f (F.sl false Kind.talk a0.talks)),
                                      V.c (C.f (F.sc (Value.int IntKind.i64 n)))])
                                  fun v =>
                                  qb (qb (unC v) fun y => fInt y) fun n =>
                                    br (decide (n < 0)) (some (V.c (C.f (F.sc (Value.int IntKind.i64 (-1)))), [], []))
                                      (qb
                                        (pres RN 40
                                          [V.c (C.f (F.sl false Kind.int a0.told)),
                                            V.c (C.f (F.sc (Value.int IntKind.i64 n)))])
                                        fun v =>
                                        qb (qb (unC v) fun y => fInt y) fun n =>
                                          br (decide (n < 0))
                                            (some (V.c (C.f (F.sc (Value.int IntKind.i64 (-1)))), [], []))
                                            (some (V.c (C.f (F.sc (Value.int IntKind.i64 n))), [], []))))))))) : Option (V × List Vm.Obj × List Vm.Obj)) := by kernel_rfl

theorem spec_HostNamed_res (n : Nat) (a0 : WorldD) (a1 : ByteArray) : resid Try.prog cfg RN n 19 [.ag (WorldD.cells a0), .str a1] [] = (qb
  (lp Try.prog cfg RN n 5 19 2 0 n
    (St.mk
      (frOf
        [(1, V.c (C.f (F.sc (Value.string a1)))), (2, V.c (C.bx (Id.own 2) 0)),
          (4, V.c (C.f (F.sc (Value.int IntKind.i64 0)))), (5, V.c (C.f (F.sc (Value.int IntKind.i64 0))))])
      (hpIds
        [(Id.own 2,
            Obj.box
              [C.f (F.sc (Value.int IntKind.i64 a0.time)), C.f (F.sc (Value.int IntKind.i64 a0.fresh)),
                C.f (F.sl false Kind.term a0.known), C.f (F.sl false Kind.policy a0.cache),
                C.f (F.sl false Kind.host a0.hosts), C.f (F.sl false Kind.letter a0.letters),
                C.f (F.sc (Value.string a0.book)), C.f (F.sc (Value.int IntKind.i64 a0.sure)),
                C.f (F.sl false Kind.call a0.calls), C.f (F.sl false Kind.talk a0.talks),
                C.f (F.sl false Kind.int a0.told)])])))
  fun r =>
  qb (qb (unC (r.snd.fr (4, Sh.int).fst)) fun y => fInt y) fun n =>
    br (isRetE r.fst) (some (V.c (C.f (F.sc (Value.int IntKind.i64 n))), [], []))
      (br (isExt 0 r.fst) (some (V.c (C.f (F.sc (Value.int IntKind.i64 (-1)))), [], [])) none) : Option (V × List Vm.Obj × List Vm.Obj)) := by kernel_rfl

theorem laws_toWorld_res (n : Nat) (a0 : WorldD) : resid Try.prog cfg RN n 20 [.ag (WorldD.cells a0)] [] = (qb (pres RN 41 [V.c (C.f (F.sl false Kind.term a0.known))]) fun v =>
  qb (qb (unC v) fun y => fSl Kind.term y) fun l =>
    qb (pres RN 42 [V.c (C.f (F.sl false Kind.policy a0.cache))]) fun v =>
      qb (qb (unC v) fun y => fSl Kind.policy y) fun l_1 =>
        qb (pres RN 43 [V.c (C.f (F.sl false Kind.host a0.hosts))]) fun v =>
          qb (qb (unC v) fun y => fSl Kind.host y) fun l_2 =>
            qb (pres RN 44 [V.c (C.f (F.sl false Kind.letter a0.letters))]) fun v =>
              qb (qb (unC v) fun y => fSl Kind.letter y) fun l_3 =>
                qb (pres RN 45 [V.c (C.f (F.sl false Kind.call a0.calls))]) fun v =>
                  qb (qb (unC v) fun y => fSl Kind.call y) fun l_4 =>
                    qb (pres RN 46 [V.c (C.f (F.sl false Kind.talk a0.talks))]) fun v =>
                      qb (qb (unC v) fun y => fSl Kind.talk y) fun l_5 =>
                        qb (pres RN 47 [V.c (C.f (F.sl false Kind.int a0.told))]) fun v =>
                          qb (qb (unC v) fun y => fSl Kind.int y) fun l_6 =>
                            some
                              (V.agg
                                  [C.f (F.sc (Value.int IntKind.i64 a0.time)),
                                    C.f (F.sc (Value.int IntKind.i64 a0.fresh)), C.f (F.sl false Kind.term l),
                                    C.f (F.sl false Kind.policy l_1), C.f (F.sl false Kind.host l_2),
                                    C.f (F.sl false Kind.letter l_3), C.f (F.sc (Value.string a0.book)),
                                    C.f (F.sc (Value.int IntKind.i64 a0.sure)), C.f (F.sl false Kind.call l_4),
                                    C.f (F.sl false Kind.talk l_5), C.f (F.sl false Kind.int l_6)],
                                [], []) : Option (V × List Vm.Obj × List Vm.Obj)) := by kernel_rfl

theorem impl_HostNamed_res (n : Nat) (a0 : WorldD) (a1 : ByteArray) : resid Try.prog cfg RN n 21 [.ag (WorldD.cells a0), .str a1] [] = (qb
  (lp Try.prog cfg RN n 4 48 2 1 n
    (St.mk
      (frOf
        [(0, V.c (C.f (F.sl false Kind.host a0.hosts))), (1, V.c (C.fn 49 [C.bx (Id.arg 0) 0])),
          (4, V.c (C.f (F.sc (Value.int IntKind.i64 0)))),
          (7, V.c (C.f (F.sc (Value.int IntKind.i64 (↑a0.hosts.length : Int))))),
          (8, V.c (C.f (F.sc (Value.int IntKind.i64 0))))])
      (hpIds [(Id.arg 0, Obj.box [C.f (F.sc (Value.string a1))])])))
  fun r =>
  qb (qb (unC (r.snd.fr (4, Sh.int).fst)) fun y => fInt y) fun n =>
    qb (r.snd.2 (Id.arg 0, OSh.box [Sh.str]).fst) fun o =>
      qb (asBox o) fun cs =>
        qb cs[0]? fun c =>
          qb (qb (unC (V.c c)) fun y => fStr y) fun s =>
            br (cs.length.beq [Sh.str].length)
              (br (isRetE r.fst) (some (V.c (C.f (F.sc (Value.int IntKind.i64 n))), [], []))
                (br (isExt 0 r.fst) (some (V.c (C.f (F.sc (Value.int IntKind.i64 (-1)))), [], [])) none))
              none : Option (V × List Vm.Obj × List Vm.Obj)) := by kernel_rfl

theorem laws_eqWorld_res (n : Nat) (a0 : WorldD) (a1 : WorldD) : resid Try.prog cfg RN n 22 [.ag (WorldD.cells a0), .ag (WorldD.cells a1)] [] = (br (a0.time != a1.time) (some (V.c (C.f (F.sc (Value.bool false))), [], []))
  (br (a0.fresh != a1.fresh) (some (V.c (C.f (F.sc (Value.bool false))), [], []))
    (qb (pres RN 50 [V.c (C.f (F.sl false Kind.term a0.known)), V.c (C.f (F.sl false Kind.term a1.known))]) fun v =>
      qb (qb (unC v) fun y => fBool y) fun b =>
        br (!b) (some (V.c (C.f (F.sc (Value.bool false))), [], []))
          (qb (pres RN 51 [V.c (C.f (F.sl false Kind.policy a0.cache)), V.c (C.f (F.sl false Kind.policy a1.cache))])
            fun v =>
            qb (qb (unC v) fun y => fBool y) fun b =>
              br (!b) (some (V.c (C.f (F.sc (Value.bool false))), [], []))
                (qb (pres RN 52 [V.c (C.f (F.sl false Kind.host a0.hosts)), V.c (C.f (F.sl false Kind.host a1.hosts))])
                  fun v =>
                  qb (qb (unC v) fun y => fBool y) fun b =>
                    br (!b) (some (V.c (C.f (F.sc (Value.bool false))), [], []))
                      (qb
                        (pres RN 53
                          [V.c (C.f (F.sl false Kind.letter a0.letters)),
                            V.c (C.f (F.sl false Kind.letter a1.letters))])
                        fun v =>
                        qb (qb (unC v) fun y => fBool y) fun b =>
                          br (!b) (some (V.c (C.f (F.sc (Value.bool false))), [], []))
                            (br (!a0.book.toList == a1.book.toList) (some (V.c (C.f (F.sc (Value.bool false))), [], []))
                              (br (a0.sure != a1.sure) (some (V.c (C.f (F.sc (Value.bool false))), [], []))
                                (qb
                                  (pres RN 54
                                    [V.c (C.f (F.sl false Kind.call a0.calls)),
                                      V.c (C.f (F.sl false Kind.call a1.calls))])
                                  fun v =>
                                  qb (qb (unC v) fun y => fBool y) fun b =>
                                    br (!b) (some (V.c (C.f (F.sc (Value.bool false))), [], []))
                                      (qb
                                        (pres RN 55
                                          [V.c (C.f (F.sl false Kind.talk a0.talks)),
                                            V.c (C.f (F.sl false Kind.talk a1.talks))])
                                        fun v =>
                                        qb (qb (unC v) fun y => fBool y) fun b =>
                                          br (!b) (some (V.c (C.f (F.sc (Value.bool false))), [], []))
                                            (qb
                                              (pres RN 56
                                                [V.c (C.f (F.sl false Kind.int a0.told)),
                                                  V.c (C.f (F.sl false Kind.int a1.told))])
                                              fun v =>
                                              qb (qb (unC v) fun y => fBool y) fun b =>
                                                br (!b) (some (V.c (C.f (F.sc (Value.bool false))), [], []))
                                                  (some (V.c (C.f (F.sc (Value.bool true))), [], [])))))))))))) : Option (V × List Vm.Obj × List Vm.Obj)) := by kernel_rfl

theorem impl_domainOk_res (n : Nat) (a0 : ByteArray) : resid Try.prog cfg RN n 30 [.str a0] [] = (qb
  (lp Try.prog cfg RN n 5 30 2 0 n
    (St.mk
      (frOf
        [(0, V.c (C.f (F.sc (Value.string a0)))), (2, V.c (C.f (F.sc (Value.bool false)))),
          (5, V.c (C.f (F.sc (Value.int IntKind.i64 (↑a0.size : Int))))),
          (6, V.c (C.f (F.sc (Value.int IntKind.i64 0))))])
      (hpIds [])))
  fun r =>
  qb (qb (unC (r.snd.fr (0, Sh.str).fst)) fun y => fStr y) fun s =>
    qb (qb (unC (r.snd.fr (2, Sh.bool).fst)) fun y => fBool y) fun b =>
      br (isRetE r.fst) (some (V.c (C.f (F.sc (Value.bool b))), [], []))
        (br (isExt 0 r.fst)
          (br (decide ((↑s.size : Int) ≥ 1))
            (some (V.c (C.f (F.sc (Value.bool (decide ((↑s.size : Int) ≤ 10))))), [], []))
            (some (V.c (C.f (F.sc (Value.bool false))), [], [])))
          none) : Option (V × List Vm.Obj × List Vm.Obj)) := by kernel_rfl

theorem spec_l6Domain_res (n : Nat) (a0 : ByteArray) : resid Try.prog cfg RN n 33 [.str a0] [] = (qb
  (lp Try.prog cfg RN n 5 33 2 0 n
    (St.mk
      (frOf
        [(0, V.c (C.f (F.sc (Value.string a0)))), (2, V.c (C.f (F.sc (Value.bool false)))),
          (3, V.c (C.f (F.sc (Value.int IntKind.i64 0))))])
      (hpIds [])))
  fun r =>
  qb (qb (unC (r.snd.fr (0, Sh.str).fst)) fun y => fStr y) fun s =>
    qb (qb (unC (r.snd.fr (2, Sh.bool).fst)) fun y => fBool y) fun b =>
      br (isRetE r.fst) (some (V.c (C.f (F.sc (Value.bool b))), [], []))
        (br (isExt 0 r.fst)
          (br (decide ((↑s.size : Int) ≥ 1))
            (some (V.c (C.f (F.sc (Value.bool (decide ((↑s.size : Int) ≤ 10))))), [], []))
            (some (V.c (C.f (F.sc (Value.bool false))), [], [])))
          none) : Option (V × List Vm.Obj × List Vm.Obj)) := by kernel_rfl

theorem laws_szTermS_res (n : Nat) (t0 : Bool) (a0 : List Term) (a1 : Int) : resid Try.prog cfg RN n 34 [.sl t0 .term a0, .int a1] [] = (br (decide (IntKind.i64.wrap (a1 - (↑a0.length : Int)) < 0))
  (some (V.c (C.f (F.sc (Value.int IntKind.i64 (-1)))), [], []))
  (qb
    (lp Try.prog cfg RN n 5 34 5 0 n
      (St.mk
        (frOf
          [(0, V.c (C.f (F.sl t0 Kind.term a0))),
            (1, V.c (C.f (F.sc (Value.int IntKind.i64 (IntKind.i64.wrap (a1 - (↑a0.length : Int))))))),
            (4, V.c (C.f (F.sc (Value.int IntKind.i64 0)))), (5, V.c (C.f (F.sc (Value.int IntKind.i64 0))))])
        (hpIds [])))
    fun r =>
    qb (qb (unC (r.snd.fr (1, Sh.int).fst)) fun y => fInt y) fun n =>
      qb (qb (unC (r.snd.fr (4, Sh.int).fst)) fun y => fInt y) fun n_1 =>
        br (isRetE r.fst) (some (V.c (C.f (F.sc (Value.int IntKind.i64 n_1))), [], []))
          (br (isExt 0 r.fst) (some (V.c (C.f (F.sc (Value.int IntKind.i64 n))), [], [])) none)) : Option (V × List Vm.Obj × List Vm.Obj)) := by kernel_rfl

theorem laws_szPolicyS_res (n : Nat) (t0 : Bool) (a0 : List Policy) (a1 : Int) : resid Try.prog cfg RN n 35 [.sl t0 .policy a0, .int a1] [] = (br (decide (IntKind.i64.wrap (a1 - (↑a0.length : Int)) < 0))
  (some (V.c (C.f (F.sc (Value.int IntKind.i64 (-1)))), [], []))
  (qb
    (lp Try.prog cfg RN n 5 35 5 0 n
      (St.mk
        (frOf
          [(0, V.c (C.f (F.sl t0 Kind.policy a0))),
            (1, V.c (C.f (F.sc (Value.int IntKind.i64 (IntKind.i64.wrap (a1 - (↑a0.length : Int))))))),
            (4, V.c (C.f (F.sc (Value.int IntKind.i64 0)))), (5, V.c (C.f (F.sc (Value.int IntKind.i64 0))))])
        (hpIds [])))
    fun r =>
    qb (qb (unC (r.snd.fr (1, Sh.int).fst)) fun y => fInt y) fun n =>
      qb (qb (unC (r.snd.fr (4, Sh.int).fst)) fun y => fInt y) fun n_1 =>
        br (isRetE r.fst) (some (V.c (C.f (F.sc (Value.int IntKind.i64 n_1))), [], []))
          (br (isExt 0 r.fst) (some (V.c (C.f (F.sc (Value.int IntKind.i64 n))), [], [])) none)) : Option (V × List Vm.Obj × List Vm.Obj)) := by kernel_rfl

theorem laws_szHostS_res (n : Nat) (t0 : Bool) (a0 : List Host) (a1 : Int) : resid Try.prog cfg RN n 36 [.sl t0 .host a0, .int a1] [] = (br (decide (IntKind.i64.wrap (a1 - (↑a0.length : Int)) < 0))
  (some (V.c (C.f (F.sc (Value.int IntKind.i64 (-1)))), [], []))
  (qb
    (lp Try.prog cfg RN n 5 36 5 0 n
      (St.mk
        (frOf
          [(0, V.c (C.f (F.sl t0 Kind.host a0))),
            (1, V.c (C.f (F.sc (Value.int IntKind.i64 (IntKind.i64.wrap (a1 - (↑a0.length : Int))))))),
            (4, V.c (C.f (F.sc (Value.int IntKind.i64 0)))), (5, V.c (C.f (F.sc (Value.int IntKind.i64 0))))])
        (hpIds [])))
    fun r =>
    qb (qb (unC (r.snd.fr (1, Sh.int).fst)) fun y => fInt y) fun n =>
      qb (qb (unC (r.snd.fr (4, Sh.int).fst)) fun y => fInt y) fun n_1 =>
        br (isRetE r.fst) (some (V.c (C.f (F.sc (Value.int IntKind.i64 n_1))), [], []))
          (br (isExt 0 r.fst) (some (V.c (C.f (F.sc (Value.int IntKind.i64 n))), [], [])) none)) : Option (V × List Vm.Obj × List Vm.Obj)) := by kernel_rfl

theorem laws_szLetterS_res (n : Nat) (t0 : Bool) (a0 : List Letter) (a1 : Int) : resid Try.prog cfg RN n 37 [.sl t0 .letter a0, .int a1] [] = (br (decide (IntKind.i64.wrap (a1 - (↑a0.length : Int)) < 0))
  (some (V.c (C.f (F.sc (Value.int IntKind.i64 (-1)))), [], []))
  (qb
    (lp Try.prog cfg RN n 5 37 5 0 n
      (St.mk
        (frOf
          [(0, V.c (C.f (F.sl t0 Kind.letter a0))),
            (1, V.c (C.f (F.sc (Value.int IntKind.i64 (IntKind.i64.wrap (a1 - (↑a0.length : Int))))))),
            (4, V.c (C.f (F.sc (Value.int IntKind.i64 0)))), (5, V.c (C.f (F.sc (Value.int IntKind.i64 0))))])
        (hpIds [])))
    fun r =>
    qb (qb (unC (r.snd.fr (1, Sh.int).fst)) fun y => fInt y) fun n =>
      qb (qb (unC (r.snd.fr (4, Sh.int).fst)) fun y => fInt y) fun n_1 =>
        br (isRetE r.fst) (some (V.c (C.f (F.sc (Value.int IntKind.i64 n_1))), [], []))
          (br (isExt 0 r.fst) (some (V.c (C.f (F.sc (Value.int IntKind.i64 n))), [], [])) none)) : Option (V × List Vm.Obj × List Vm.Obj)) := by kernel_rfl

theorem laws_szCallS_res (n : Nat) (t0 : Bool) (a0 : List CallD) (a1 : Int) : resid Try.prog cfg RN n 38 [.sl t0 .call a0, .int a1] [] = (br (decide (IntKind.i64.wrap (a1 - (↑a0.length : Int)) < 0))
  (some (V.c (C.f (F.sc (Value.int IntKind.i64 (-1)))), [], []))
  (qb
    (lp Try.prog cfg RN n 5 38 5 0 n
      (St.mk
        (frOf
          [(0, V.c (C.f (F.sl t0 Kind.call a0))),
            (1, V.c (C.f (F.sc (Value.int IntKind.i64 (IntKind.i64.wrap (a1 - (↑a0.length : Int))))))),
            (4, V.c (C.f (F.sc (Value.int IntKind.i64 0)))), (5, V.c (C.f (F.sc (Value.int IntKind.i64 0))))])
        (hpIds [])))
    fun r =>
    qb (qb (unC (r.snd.fr (1, Sh.int).fst)) fun y => fInt y) fun n =>
      qb (qb (unC (r.snd.fr (4, Sh.int).fst)) fun y => fInt y) fun n_1 =>
        br (isRetE r.fst) (some (V.c (C.f (F.sc (Value.int IntKind.i64 n_1))), [], []))
          (br (isExt 0 r.fst) (some (V.c (C.f (F.sc (Value.int IntKind.i64 n))), [], [])) none)) : Option (V × List Vm.Obj × List Vm.Obj)) := by kernel_rfl

theorem laws_szTalkS_res (n : Nat) (t0 : Bool) (a0 : List Talk) (a1 : Int) : resid Try.prog cfg RN n 39 [.sl t0 .talk a0, .int a1] [] = (br (decide (IntKind.i64.wrap (a1 - (↑a0.length : Int)) < 0))
  (some (V.c (C.f (F.sc (Value.int IntKind.i64 (-1)))), [], []))
  (qb
    (lp Try.prog cfg RN n 5 39 5 0 n
      (St.mk
        (frOf
          [(0, V.c (C.f (F.sl t0 Kind.talk a0))),
            (1, V.c (C.f (F.sc (Value.int IntKind.i64 (IntKind.i64.wrap (a1 - (↑a0.length : Int))))))),
            (4, V.c (C.f (F.sc (Value.int IntKind.i64 0)))), (5, V.c (C.f (F.sc (Value.int IntKind.i64 0))))])
        (hpIds [])))
    fun r =>
    qb (qb (unC (r.snd.fr (1, Sh.int).fst)) fun y => fInt y) fun n =>
      qb (qb (unC (r.snd.fr (4, Sh.int).fst)) fun y => fInt y) fun n_1 =>
        br (isRetE r.fst) (some (V.c (C.f (F.sc (Value.int IntKind.i64 n_1))), [], []))
          (br (isExt 0 r.fst) (some (V.c (C.f (F.sc (Value.int IntKind.i64 n))), [], [])) none)) : Option (V × List Vm.Obj × List Vm.Obj)) := by kernel_rfl

theorem laws_szIntS_res (n : Nat) (t0 : Bool) (a0 : List (El .int)) (a1 : Int) : resid Try.prog cfg RN n 40 [.sl t0 .int a0, .int a1] [] = (br (decide (IntKind.i64.wrap (a1 - (↑a0.length : Int)) < 0))
  (some (V.c (C.f (F.sc (Value.int IntKind.i64 (-1)))), [], []))
  (some (V.c (C.f (F.sc (Value.int IntKind.i64 (IntKind.i64.wrap (a1 - (↑a0.length : Int)))))), [], [])) : Option (V × List Vm.Obj × List Vm.Obj)) := by kernel_rfl

theorem laws_toTermS_res (n : Nat) (t0 : Bool) (a0 : List Term) : resid Try.prog cfg RN n 41 [.sl t0 .term a0] [] = (br
  (decide ((↑a0.length : Int) = (↑a0.length : Int)) && decide (0 ≤ (↑a0.length : Int)) &&
    (↑a0.length : Int).toNat.ble appMax)
  (qb
    (lp Try.prog cfg RN n 5 41 3 0 n
      (St.mk
        (frOf
          [(0, V.c (C.f (F.sl t0 Kind.term a0))), (3, V.c (C.row (Id.own 3) Kind.term)),
            (4, V.c (C.f (F.sc (Value.int IntKind.i64 0))))])
        (hpIds [(Id.own 3, Obj.row true Kind.term (List.replicate (↑a0.length : Int).toNat (zeroEl Kind.term)))])))
    fun r =>
    qb (qb (unC (r.snd.fr (3, Sh.row (Id.own 3) Kind.term).fst)) fun y => fRow (Id.own 3) Kind.term y) fun x =>
      qb (r.snd.2 (Id.own 3, OSh.row true Kind.term).fst) fun o =>
        qb (asRow true Kind.term o) fun l =>
          br (isRetE r.fst) (some (V.c C.hole, [], []))
            (br (isExt 0 r.fst) (some (V.c (C.row (Id.ret 0 0) Kind.term), [], [Obj.row true Kind.term l])) none))
  none : Option (V × List Vm.Obj × List Vm.Obj)) := by kernel_rfl

theorem laws_toPolicyS_res (n : Nat) (t0 : Bool) (a0 : List Policy) : resid Try.prog cfg RN n 42 [.sl t0 .policy a0] [] = (br
  (decide ((↑a0.length : Int) = (↑a0.length : Int)) && decide (0 ≤ (↑a0.length : Int)) &&
    (↑a0.length : Int).toNat.ble appMax)
  (qb
    (lp Try.prog cfg RN n 5 42 3 0 n
      (St.mk
        (frOf
          [(0, V.c (C.f (F.sl t0 Kind.policy a0))), (3, V.c (C.row (Id.own 3) Kind.policy)),
            (4, V.c (C.f (F.sc (Value.int IntKind.i64 0))))])
        (hpIds [(Id.own 3, Obj.row true Kind.policy (List.replicate (↑a0.length : Int).toNat (zeroEl Kind.policy)))])))
    fun r =>
    qb (qb (unC (r.snd.fr (3, Sh.row (Id.own 3) Kind.policy).fst)) fun y => fRow (Id.own 3) Kind.policy y) fun x =>
      qb (r.snd.2 (Id.own 3, OSh.row true Kind.policy).fst) fun o =>
        qb (asRow true Kind.policy o) fun l =>
          br (isRetE r.fst) (some (V.c C.hole, [], []))
            (br (isExt 0 r.fst) (some (V.c (C.row (Id.ret 0 0) Kind.policy), [], [Obj.row true Kind.policy l])) none))
  none : Option (V × List Vm.Obj × List Vm.Obj)) := by kernel_rfl

theorem laws_toHostS_res (n : Nat) (t0 : Bool) (a0 : List Host) : resid Try.prog cfg RN n 43 [.sl t0 .host a0] [] = (br
  (decide ((↑a0.length : Int) = (↑a0.length : Int)) && decide (0 ≤ (↑a0.length : Int)) &&
    (↑a0.length : Int).toNat.ble appMax)
  (qb
    (lp Try.prog cfg RN n 5 43 3 0 n
      (St.mk
        (frOf
          [(0, V.c (C.f (F.sl t0 Kind.host a0))), (3, V.c (C.row (Id.own 3) Kind.host)),
            (4, V.c (C.f (F.sc (Value.int IntKind.i64 0))))])
        (hpIds [(Id.own 3, Obj.row true Kind.host (List.replicate (↑a0.length : Int).toNat (zeroEl Kind.host)))])))
    fun r =>
    qb (qb (unC (r.snd.fr (3, Sh.row (Id.own 3) Kind.host).fst)) fun y => fRow (Id.own 3) Kind.host y) fun x =>
      qb (r.snd.2 (Id.own 3, OSh.row true Kind.host).fst) fun o =>
        qb (asRow true Kind.host o) fun l =>
          br (isRetE r.fst) (some (V.c C.hole, [], []))
            (br (isExt 0 r.fst) (some (V.c (C.row (Id.ret 0 0) Kind.host), [], [Obj.row true Kind.host l])) none))
  none : Option (V × List Vm.Obj × List Vm.Obj)) := by kernel_rfl

theorem laws_toLetterS_res (n : Nat) (t0 : Bool) (a0 : List Letter) : resid Try.prog cfg RN n 44 [.sl t0 .letter a0] [] = (br
  (decide ((↑a0.length : Int) = (↑a0.length : Int)) && decide (0 ≤ (↑a0.length : Int)) &&
    (↑a0.length : Int).toNat.ble appMax)
  (qb
    (lp Try.prog cfg RN n 5 44 3 0 n
      (St.mk
        (frOf
          [(0, V.c (C.f (F.sl t0 Kind.letter a0))), (3, V.c (C.row (Id.own 3) Kind.letter)),
            (4, V.c (C.f (F.sc (Value.int IntKind.i64 0))))])
        (hpIds [(Id.own 3, Obj.row true Kind.letter (List.replicate (↑a0.length : Int).toNat (zeroEl Kind.letter)))])))
    fun r =>
    qb (qb (unC (r.snd.fr (3, Sh.row (Id.own 3) Kind.letter).fst)) fun y => fRow (Id.own 3) Kind.letter y) fun x =>
      qb (r.snd.2 (Id.own 3, OSh.row true Kind.letter).fst) fun o =>
        qb (asRow true Kind.letter o) fun l =>
          br (isRetE r.fst) (some (V.c C.hole, [], []))
            (br (isExt 0 r.fst) (some (V.c (C.row (Id.ret 0 0) Kind.letter), [], [Obj.row true Kind.letter l])) none))
  none : Option (V × List Vm.Obj × List Vm.Obj)) := by kernel_rfl

theorem laws_toCallS_res (n : Nat) (t0 : Bool) (a0 : List CallD) : resid Try.prog cfg RN n 45 [.sl t0 .call a0] [] = (br
  (decide ((↑a0.length : Int) = (↑a0.length : Int)) && decide (0 ≤ (↑a0.length : Int)) &&
    (↑a0.length : Int).toNat.ble appMax)
  (qb
    (lp Try.prog cfg RN n 5 45 3 0 n
      (St.mk
        (frOf
          [(0, V.c (C.f (F.sl t0 Kind.call a0))), (3, V.c (C.row (Id.own 3) Kind.call)),
            (4, V.c (C.f (F.sc (Value.int IntKind.i64 0))))])
        (hpIds [(Id.own 3, Obj.row true Kind.call (List.replicate (↑a0.length : Int).toNat (zeroEl Kind.call)))])))
    fun r =>
    qb (qb (unC (r.snd.fr (3, Sh.row (Id.own 3) Kind.call).fst)) fun y => fRow (Id.own 3) Kind.call y) fun x =>
      qb (r.snd.2 (Id.own 3, OSh.row true Kind.call).fst) fun o =>
        qb (asRow true Kind.call o) fun l =>
          br (isRetE r.fst) (some (V.c C.hole, [], []))
            (br (isExt 0 r.fst) (some (V.c (C.row (Id.ret 0 0) Kind.call), [], [Obj.row true Kind.call l])) none))
  none : Option (V × List Vm.Obj × List Vm.Obj)) := by kernel_rfl

theorem laws_toTalkS_res (n : Nat) (t0 : Bool) (a0 : List Talk) : resid Try.prog cfg RN n 46 [.sl t0 .talk a0] [] = (br
  (decide ((↑a0.length : Int) = (↑a0.length : Int)) && decide (0 ≤ (↑a0.length : Int)) &&
    (↑a0.length : Int).toNat.ble appMax)
  (qb
    (lp Try.prog cfg RN n 5 46 3 0 n
      (St.mk
        (frOf
          [(0, V.c (C.f (F.sl t0 Kind.talk a0))), (3, V.c (C.row (Id.own 3) Kind.talk)),
            (4, V.c (C.f (F.sc (Value.int IntKind.i64 0))))])
        (hpIds [(Id.own 3, Obj.row true Kind.talk (List.replicate (↑a0.length : Int).toNat (zeroEl Kind.talk)))])))
    fun r =>
    qb (qb (unC (r.snd.fr (3, Sh.row (Id.own 3) Kind.talk).fst)) fun y => fRow (Id.own 3) Kind.talk y) fun x =>
      qb (r.snd.2 (Id.own 3, OSh.row true Kind.talk).fst) fun o =>
        qb (asRow true Kind.talk o) fun l =>
          br (isRetE r.fst) (some (V.c C.hole, [], []))
            (br (isExt 0 r.fst) (some (V.c (C.row (Id.ret 0 0) Kind.talk), [], [Obj.row true Kind.talk l])) none))
  none : Option (V × List Vm.Obj × List Vm.Obj)) := by kernel_rfl

theorem laws_toIntS_res (n : Nat) (t0 : Bool) (a0 : List (El .int)) : resid Try.prog cfg RN n 47 [.sl t0 .int a0] [] = (br
  (decide ((↑a0.length : Int) = (↑a0.length : Int)) && decide (0 ≤ (↑a0.length : Int)) &&
    (↑a0.length : Int).toNat.ble appMax)
  (qb
    (lp Try.prog cfg RN n 5 47 3 0 n
      (St.mk
        (frOf
          [(0, V.c (C.f (F.sl t0 Kind.int a0))), (3, V.c (C.row (Id.own 3) Kind.int)),
            (4, V.c (C.f (F.sc (Value.int IntKind.i64 0))))])
        (hpIds [(Id.own 3, Obj.row true Kind.int (List.replicate (↑a0.length : Int).toNat (zeroEl Kind.int)))])))
    fun r =>
    qb (qb (unC (r.snd.fr (3, Sh.row (Id.own 3) Kind.int).fst)) fun y => fRow (Id.own 3) Kind.int y) fun x =>
      qb (r.snd.2 (Id.own 3, OSh.row true Kind.int).fst) fun o =>
        qb (asRow true Kind.int o) fun l =>
          br (isRetE r.fst) (some (V.c C.hole, [], []))
            (br (isExt 0 r.fst) (some (V.c (C.row (Id.ret 0 0) Kind.int), [], [Obj.row true Kind.int l])) none))
  none : Option (V × List Vm.Obj × List Vm.Obj)) := by kernel_rfl

theorem laws_eqTermS_res (n : Nat) (t0 : Bool) (a0 : List Term) (t1 : Bool) (a1 : List Term) : resid Try.prog cfg RN n 50 [.sl t0 .term a0, .sl t1 .term a1] [] = (br ((↑a0.length : Int) != (↑a1.length : Int)) (some (V.c (C.f (F.sc (Value.bool false))), [], []))
  (qb
    (lp Try.prog cfg RN n 5 50 4 0 n
      (St.mk
        (frOf
          [(0, V.c (C.f (F.sl t0 Kind.term a0))), (1, V.c (C.f (F.sl t1 Kind.term a1))),
            (4, V.c (C.f (F.sc (Value.bool false)))), (5, V.c (C.f (F.sc (Value.int IntKind.i64 0))))])
        (hpIds [])))
    fun r =>
    qb (qb (unC (r.snd.fr (4, Sh.bool).fst)) fun y => fBool y) fun b =>
      br (isRetE r.fst) (some (V.c (C.f (F.sc (Value.bool b))), [], []))
        (br (isExt 0 r.fst) (some (V.c (C.f (F.sc (Value.bool true))), [], [])) none)) : Option (V × List Vm.Obj × List Vm.Obj)) := by kernel_rfl

theorem laws_eqPolicyS_res (n : Nat) (t0 : Bool) (a0 : List Policy) (t1 : Bool) (a1 : List Policy) : resid Try.prog cfg RN n 51 [.sl t0 .policy a0, .sl t1 .policy a1] [] = (br ((↑a0.length : Int) != (↑a1.length : Int)) (some (V.c (C.f (F.sc (Value.bool false))), [], []))
  (qb
    (lp Try.prog cfg RN n 5 51 4 0 n
      (St.mk
        (frOf
          [(0, V.c (C.f (F.sl t0 Kind.policy a0))), (1, V.c (C.f (F.sl t1 Kind.policy a1))),
            (4, V.c (C.f (F.sc (Value.bool false)))), (5, V.c (C.f (F.sc (Value.int IntKind.i64 0))))])
        (hpIds [])))
    fun r =>
    qb (qb (unC (r.snd.fr (4, Sh.bool).fst)) fun y => fBool y) fun b =>
      br (isRetE r.fst) (some (V.c (C.f (F.sc (Value.bool b))), [], []))
        (br (isExt 0 r.fst) (some (V.c (C.f (F.sc (Value.bool true))), [], [])) none)) : Option (V × List Vm.Obj × List Vm.Obj)) := by kernel_rfl

theorem laws_eqHostS_res (n : Nat) (t0 : Bool) (a0 : List Host) (t1 : Bool) (a1 : List Host) : resid Try.prog cfg RN n 52 [.sl t0 .host a0, .sl t1 .host a1] [] = (br ((↑a0.length : Int) != (↑a1.length : Int)) (some (V.c (C.f (F.sc (Value.bool false))), [], []))
  (qb
    (lp Try.prog cfg RN n 5 52 4 0 n
      (St.mk
        (frOf
          [(0, V.c (C.f (F.sl t0 Kind.host a0))), (1, V.c (C.f (F.sl t1 Kind.host a1))),
            (4, V.c (C.f (F.sc (Value.bool false)))), (5, V.c (C.f (F.sc (Value.int IntKind.i64 0))))])
        (hpIds [])))
    fun r =>
    qb (qb (unC (r.snd.fr (4, Sh.bool).fst)) fun y => fBool y) fun b =>
      br (isRetE r.fst) (some (V.c (C.f (F.sc (Value.bool b))), [], []))
        (br (isExt 0 r.fst) (some (V.c (C.f (F.sc (Value.bool true))), [], [])) none)) : Option (V × List Vm.Obj × List Vm.Obj)) := by kernel_rfl

theorem laws_eqLetterS_res (n : Nat) (t0 : Bool) (a0 : List Letter) (t1 : Bool) (a1 : List Letter) : resid Try.prog cfg RN n 53 [.sl t0 .letter a0, .sl t1 .letter a1] [] = (br ((↑a0.length : Int) != (↑a1.length : Int)) (some (V.c (C.f (F.sc (Value.bool false))), [], []))
  (qb
    (lp Try.prog cfg RN n 5 53 4 0 n
      (St.mk
        (frOf
          [(0, V.c (C.f (F.sl t0 Kind.letter a0))), (1, V.c (C.f (F.sl t1 Kind.letter a1))),
            (4, V.c (C.f (F.sc (Value.bool false)))), (5, V.c (C.f (F.sc (Value.int IntKind.i64 0))))])
        (hpIds [])))
    fun r =>
    qb (qb (unC (r.snd.fr (4, Sh.bool).fst)) fun y => fBool y) fun b =>
      br (isRetE r.fst) (some (V.c (C.f (F.sc (Value.bool b))), [], []))
        (br (isExt 0 r.fst) (some (V.c (C.f (F.sc (Value.bool true))), [], [])) none)) : Option (V × List Vm.Obj × List Vm.Obj)) := by kernel_rfl

theorem laws_eqCallS_res (n : Nat) (t0 : Bool) (a0 : List CallD) (t1 : Bool) (a1 : List CallD) : resid Try.prog cfg RN n 54 [.sl t0 .call a0, .sl t1 .call a1] [] = (br ((↑a0.length : Int) != (↑a1.length : Int)) (some (V.c (C.f (F.sc (Value.bool false))), [], []))
  (qb
    (lp Try.prog cfg RN n 5 54 4 0 n
      (St.mk
        (frOf
          [(0, V.c (C.f (F.sl t0 Kind.call a0))), (1, V.c (C.f (F.sl t1 Kind.call a1))),
            (4, V.c (C.f (F.sc (Value.bool false)))), (5, V.c (C.f (F.sc (Value.int IntKind.i64 0))))])
        (hpIds [])))
    fun r =>
    qb (qb (unC (r.snd.fr (4, Sh.bool).fst)) fun y => fBool y) fun b =>
      br (isRetE r.fst) (some (V.c (C.f (F.sc (Value.bool b))), [], []))
        (br (isExt 0 r.fst) (some (V.c (C.f (F.sc (Value.bool true))), [], [])) none)) : Option (V × List Vm.Obj × List Vm.Obj)) := by kernel_rfl

theorem laws_eqTalkS_res (n : Nat) (t0 : Bool) (a0 : List Talk) (t1 : Bool) (a1 : List Talk) : resid Try.prog cfg RN n 55 [.sl t0 .talk a0, .sl t1 .talk a1] [] = (br ((↑a0.length : Int) != (↑a1.length : Int)) (some (V.c (C.f (F.sc (Value.bool false))), [], []))
  (qb
    (lp Try.prog cfg RN n 5 55 4 0 n
      (St.mk
        (frOf
          [(0, V.c (C.f (F.sl t0 Kind.talk a0))), (1, V.c (C.f (F.sl t1 Kind.talk a1))),
            (4, V.c (C.f (F.sc (Value.bool false)))), (5, V.c (C.f (F.sc (Value.int IntKind.i64 0))))])
        (hpIds [])))
    fun r =>
    qb (qb (unC (r.snd.fr (4, Sh.bool).fst)) fun y => fBool y) fun b =>
      br (isRetE r.fst) (some (V.c (C.f (F.sc (Value.bool b))), [], []))
        (br (isExt 0 r.fst) (some (V.c (C.f (F.sc (Value.bool true))), [], [])) none)) : Option (V × List Vm.Obj × List Vm.Obj)) := by kernel_rfl

theorem laws_eqIntS_res (n : Nat) (t0 : Bool) (a0 : List (El .int)) (t1 : Bool) (a1 : List (El .int)) : resid Try.prog cfg RN n 56 [.sl t0 .int a0, .sl t1 .int a1] [] = (br ((↑a0.length : Int) != (↑a1.length : Int)) (some (V.c (C.f (F.sc (Value.bool false))), [], []))
  (qb
    (lp Try.prog cfg RN n 5 56 4 0 n
      (St.mk
        (frOf
          [(0, V.c (C.f (F.sl t0 Kind.int a0))), (1, V.c (C.f (F.sl t1 Kind.int a1))),
            (4, V.c (C.f (F.sc (Value.bool false)))), (5, V.c (C.f (F.sc (Value.int IntKind.i64 0))))])
        (hpIds [])))
    fun r =>
    qb (qb (unC (r.snd.fr (4, Sh.bool).fst)) fun y => fBool y) fun b =>
      br (isRetE r.fst) (some (V.c (C.f (F.sc (Value.bool b))), [], []))
        (br (isExt 0 r.fst) (some (V.c (C.f (F.sc (Value.bool true))), [], [])) none)) : Option (V × List Vm.Obj × List Vm.Obj)) := by kernel_rfl

theorem laws_szTerm_res (n : Nat) (a0 : Term) (a1 : Int) : resid Try.prog cfg RN n 59 [.ag (Term.cells a0), .int a1] [] = (br (decide (IntKind.i64.wrap (a1 - (↑a0.s.size : Int)) < 0))
  (some (V.c (C.f (F.sc (Value.int IntKind.i64 (-1)))), [], []))
  (qb
    (pres RN 34
      [V.c (C.f (F.sl false Kind.term a0.kids)),
        V.c (C.f (F.sc (Value.int IntKind.i64 (IntKind.i64.wrap (a1 - (↑a0.s.size : Int))))))])
    fun v =>
    qb (qb (unC v) fun y => fInt y) fun n =>
      br (decide (n < 0)) (some (V.c (C.f (F.sc (Value.int IntKind.i64 (-1)))), [], []))
        (some (V.c (C.f (F.sc (Value.int IntKind.i64 n))), [], []))) : Option (V × List Vm.Obj × List Vm.Obj)) := by kernel_rfl

theorem laws_szPolicy_res (n : Nat) (a0 : Policy) (a1 : Int) : resid Try.prog cfg RN n 60 [.ag (Policy.cells a0), .int a1] [] = (br (decide (IntKind.i64.wrap (a1 - (↑a0.domain.size : Int)) < 0))
  (some (V.c (C.f (F.sc (Value.int IntKind.i64 (-1)))), [], []))
  (qb
    (pres RN 79
      [V.c (C.f (F.sl false Kind.str a0.mx)),
        V.c (C.f (F.sc (Value.int IntKind.i64 (IntKind.i64.wrap (a1 - (↑a0.domain.size : Int))))))])
    fun v =>
    qb (qb (unC v) fun y => fInt y) fun n =>
      br (decide (n < 0)) (some (V.c (C.f (F.sc (Value.int IntKind.i64 (-1)))), [], []))
        (some (V.c (C.f (F.sc (Value.int IntKind.i64 n))), [], []))) : Option (V × List Vm.Obj × List Vm.Obj)) := by kernel_rfl

theorem laws_szHost_res (n : Nat) (a0 : Host) (a1 : Int) : resid Try.prog cfg RN n 61 [.ag (Host.cells a0), .int a1] [] = (br (decide (IntKind.i64.wrap (a1 - (↑a0.name.size : Int)) < 0))
  (some (V.c (C.f (F.sc (Value.int IntKind.i64 (-1)))), [], []))
  (some (V.c (C.f (F.sc (Value.int IntKind.i64 (IntKind.i64.wrap (a1 - (↑a0.name.size : Int)))))), [], [])) : Option (V × List Vm.Obj × List Vm.Obj)) := by kernel_rfl

theorem laws_szLetter_res (n : Nat) (a0 : Letter) (a1 : Int) : resid Try.prog cfg RN n 62 [.ag (Letter.cells a0), .int a1] [] = (br (decide (IntKind.i64.wrap (a1 - (↑a0.domain.size : Int)) < 0))
  (some (V.c (C.f (F.sc (Value.int IntKind.i64 (-1)))), [], []))
  (some (V.c (C.f (F.sc (Value.int IntKind.i64 (IntKind.i64.wrap (a1 - (↑a0.domain.size : Int)))))), [], [])) : Option (V × List Vm.Obj × List Vm.Obj)) := by kernel_rfl

theorem laws_szCall_res (n : Nat) (a0 : CallD) (a1 : Int) : resid Try.prog cfg RN n 63 [.ag (CallD.cells a0), .int a1] [] = (qb
  (pres RN 80
    [V.agg
        [C.f (F.sc (Value.int IntKind.i64 a0.client.step)), C.f (F.sc (Value.string a0.client.host)),
          C.f (F.sc (Value.bool a0.client.must)), C.f (F.sc (Value.int IntKind.i64 a0.client.eph)),
          C.f (F.sc (Value.int IntKind.i64 a0.client.body)), C.f (F.sc (Value.int IntKind.i64 a0.client.share.op)),
          C.f (F.sc (Value.int IntKind.i64 a0.client.share.n)), C.f (F.sc (Value.string a0.client.share.s)),
          C.f (F.sl false Kind.term a0.client.share.kids), C.f (F.sc (Value.int IntKind.i64 a0.client.inn)),
          C.f (F.sc (Value.int IntKind.i64 a0.client.out)), C.f (F.sc (Value.bool a0.client.tls)),
          C.f (F.sc (Value.bool a0.client.proved))],
      V.c (C.f (F.sc (Value.int IntKind.i64 a1)))])
  fun v =>
  qb (qb (unC v) fun y => fInt y) fun n =>
    br (decide (n < 0)) (some (V.c (C.f (F.sc (Value.int IntKind.i64 (-1)))), [], []))
      (some (V.c (C.f (F.sc (Value.int IntKind.i64 n))), [], [])) : Option (V × List Vm.Obj × List Vm.Obj)) := by kernel_rfl

theorem laws_szTalk_res (n : Nat) (a0 : Talk) (a1 : Int) : resid Try.prog cfg RN n 64 [.ag (Talk.cells a0), .int a1] [] = (qb
  (pres RN 81
    [V.agg
        [C.f (F.sc (Value.int IntKind.i64 a0.server.step)), C.f (F.sc (Value.string a0.server.host)),
          C.f (F.sc (Value.int IntKind.i64 a0.server.key)), C.f (F.sc (Value.int IntKind.i64 a0.server.eph)),
          C.f (F.sc (Value.int IntKind.i64 a0.server.cert.op)), C.f (F.sc (Value.int IntKind.i64 a0.server.cert.n)),
          C.f (F.sc (Value.string a0.server.cert.s)), C.f (F.sl false Kind.term a0.server.cert.kids),
          C.f (F.sc (Value.int IntKind.i64 a0.server.share.op)), C.f (F.sc (Value.int IntKind.i64 a0.server.share.n)),
          C.f (F.sc (Value.string a0.server.share.s)), C.f (F.sl false Kind.term a0.server.share.kids),
          C.f (F.sc (Value.int IntKind.i64 a0.server.inn)), C.f (F.sc (Value.int IntKind.i64 a0.server.out)),
          C.f (F.sc (Value.bool a0.server.tls)), C.f (F.sl false Kind.int a0.server.got)],
      V.c (C.f (F.sc (Value.int IntKind.i64 a1)))])
  fun v =>
  qb (qb (unC v) fun y => fInt y) fun n =>
    br (decide (n < 0)) (some (V.c (C.f (F.sc (Value.int IntKind.i64 (-1)))), [], []))
      (some (V.c (C.f (F.sc (Value.int IntKind.i64 n))), [], [])) : Option (V × List Vm.Obj × List Vm.Obj)) := by kernel_rfl

theorem laws_toTerm_res (n : Nat) (a0 : Term) : resid Try.prog cfg RN n 65 [.ag (Term.cells a0)] [] = (qb (pres RN 41 [V.c (C.f (F.sl false Kind.term a0.kids))]) fun v =>
  qb (qb (unC v) fun y => fSl Kind.term y) fun l =>
    some
      (V.agg
          [C.f (F.sc (Value.int IntKind.i64 a0.op)), C.f (F.sc (Value.int IntKind.i64 a0.n)),
            C.f (F.sc (Value.string a0.s)), C.f (F.sl false Kind.term l)],
        [], []) : Option (V × List Vm.Obj × List Vm.Obj)) := by kernel_rfl

theorem laws_toPolicy_res (n : Nat) (a0 : Policy) : resid Try.prog cfg RN n 66 [.ag (Policy.cells a0)] [] = (qb (pres RN 82 [V.c (C.f (F.sl false Kind.str a0.mx))]) fun v =>
  qb (qb (unC v) fun y => fSl Kind.str y) fun l =>
    some
      (V.agg
          [C.f (F.sc (Value.string a0.domain)), C.f (F.sc (Value.int IntKind.i64 a0.mode)), C.f (F.sl false Kind.str l),
            C.f (F.sc (Value.int IntKind.i64 a0.til))],
        [], []) : Option (V × List Vm.Obj × List Vm.Obj)) := by kernel_rfl

theorem laws_toHost_res (n : Nat) (a0 : Host) : resid Try.prog cfg RN n 67 [.ag (Host.cells a0)] [] = (some
  (V.agg
      [C.f (F.sc (Value.string a0.name)), C.f (F.sc (Value.int IntKind.i64 a0.key)), C.f (F.sc (Value.bool a0.lost))],
    [], []) : Option (V × List Vm.Obj × List Vm.Obj)) := by kernel_rfl

theorem laws_toLetter_res (n : Nat) (a0 : Letter) : resid Try.prog cfg RN n 68 [.ag (Letter.cells a0)] [] = (some
  (V.agg
      [C.f (F.sc (Value.string a0.domain)), C.f (F.sc (Value.int IntKind.i64 a0.body)),
        C.f (F.sc (Value.int IntKind.i64 a0.state)), C.f (F.sc (Value.int IntKind.i64 a0.tries)),
        C.f (F.sc (Value.int IntKind.i64 a0.next))],
    [], []) : Option (V × List Vm.Obj × List Vm.Obj)) := by kernel_rfl

theorem laws_toCall_res (n : Nat) (a0 : CallD) : resid Try.prog cfg RN n 69 [.ag (CallD.cells a0)] [] = (qb
  (pres RN 83
    [V.agg
        [C.f (F.sc (Value.int IntKind.i64 a0.client.step)), C.f (F.sc (Value.string a0.client.host)),
          C.f (F.sc (Value.bool a0.client.must)), C.f (F.sc (Value.int IntKind.i64 a0.client.eph)),
          C.f (F.sc (Value.int IntKind.i64 a0.client.body)), C.f (F.sc (Value.int IntKind.i64 a0.client.share.op)),
          C.f (F.sc (Value.int IntKind.i64 a0.client.share.n)), C.f (F.sc (Value.string a0.client.share.s)),
          C.f (F.sl false Kind.term a0.client.share.kids), C.f (F.sc (Value.int IntKind.i64 a0.client.inn)),
          C.f (F.sc (Value.int IntKind.i64 a0.client.out)), C.f (F.sc (Value.bool a0.client.tls)),
          C.f (F.sc (Value.bool a0.client.proved))]])
  fun v =>
  qb (asClient v) fun x =>
    some
      (V.agg
          [C.f (F.sc (Value.int IntKind.i64 a0.letter)), C.f (F.sc (Value.int IntKind.i64 x.step)),
            C.f (F.sc (Value.string x.host)), C.f (F.sc (Value.bool x.must)), C.f (F.sc (Value.int IntKind.i64 x.eph)),
            C.f (F.sc (Value.int IntKind.i64 x.body)), C.f (F.sc (Value.int IntKind.i64 x.share.op)),
            C.f (F.sc (Value.int IntKind.i64 x.share.n)), C.f (F.sc (Value.string x.share.s)),
            C.f (F.sl false Kind.term x.share.kids), C.f (F.sc (Value.int IntKind.i64 x.inn)),
            C.f (F.sc (Value.int IntKind.i64 x.out)), C.f (F.sc (Value.bool x.tls)), C.f (F.sc (Value.bool x.proved)),
            C.f (F.sc (Value.bool a0.good))],
        [], []) : Option (V × List Vm.Obj × List Vm.Obj)) := by kernel_rfl

theorem laws_toTalk_res (n : Nat) (a0 : Talk) : resid Try.prog cfg RN n 70 [.ag (Talk.cells a0)] [] = (qb
  (pres RN 84
    [V.agg
        [C.f (F.sc (Value.int IntKind.i64 a0.server.step)), C.f (F.sc (Value.string a0.server.host)),
          C.f (F.sc (Value.int IntKind.i64 a0.server.key)), C.f (F.sc (Value.int IntKind.i64 a0.server.eph)),
          C.f (F.sc (Value.int IntKind.i64 a0.server.cert.op)), C.f (F.sc (Value.int IntKind.i64 a0.server.cert.n)),
          C.f (F.sc (Value.string a0.server.cert.s)), C.f (F.sl false Kind.term a0.server.cert.kids),
          C.f (F.sc (Value.int IntKind.i64 a0.server.share.op)), C.f (F.sc (Value.int IntKind.i64 a0.server.share.n)),
          C.f (F.sc (Value.string a0.server.share.s)), C.f (F.sl false Kind.term a0.server.share.kids),
          C.f (F.sc (Value.int IntKind.i64 a0.server.inn)), C.f (F.sc (Value.int IntKind.i64 a0.server.out)),
          C.f (F.sc (Value.bool a0.server.tls)), C.f (F.sl false Kind.int a0.server.got)]])
  fun v =>
  qb (asServer v) fun x =>
    some
      (V.agg
          [C.f (F.sc (Value.int IntKind.i64 a0.host)), C.f (F.sc (Value.int IntKind.i64 x.step)),
            C.f (F.sc (Value.string x.host)), C.f (F.sc (Value.int IntKind.i64 x.key)),
            C.f (F.sc (Value.int IntKind.i64 x.eph)), C.f (F.sc (Value.int IntKind.i64 x.cert.op)),
            C.f (F.sc (Value.int IntKind.i64 x.cert.n)), C.f (F.sc (Value.string x.cert.s)),
            C.f (F.sl false Kind.term x.cert.kids), C.f (F.sc (Value.int IntKind.i64 x.share.op)),
            C.f (F.sc (Value.int IntKind.i64 x.share.n)), C.f (F.sc (Value.string x.share.s)),
            C.f (F.sl false Kind.term x.share.kids), C.f (F.sc (Value.int IntKind.i64 x.inn)),
            C.f (F.sc (Value.int IntKind.i64 x.out)), C.f (F.sc (Value.bool x.tls)), C.f (F.sl false Kind.int x.got)],
        [], []) : Option (V × List Vm.Obj × List Vm.Obj)) := by kernel_rfl

theorem laws_eqTerm_res (n : Nat) (a0 : Term) (a1 : Term) : resid Try.prog cfg RN n 71 [.ag (Term.cells a0), .ag (Term.cells a1)] [] = (br (a0.op != a1.op) (some (V.c (C.f (F.sc (Value.bool false))), [], []))
  (br (a0.n != a1.n) (some (V.c (C.f (F.sc (Value.bool false))), [], []))
    (br (!a0.s.toList == a1.s.toList) (some (V.c (C.f (F.sc (Value.bool false))), [], []))
      (qb (pres RN 50 [V.c (C.f (F.sl false Kind.term a0.kids)), V.c (C.f (F.sl false Kind.term a1.kids))]) fun v =>
        qb (qb (unC v) fun y => fBool y) fun b =>
          br (!b) (some (V.c (C.f (F.sc (Value.bool false))), [], []))
            (some (V.c (C.f (F.sc (Value.bool true))), [], []))))) : Option (V × List Vm.Obj × List Vm.Obj)) := by kernel_rfl

theorem laws_eqPolicy_res (n : Nat) (a0 : Policy) (a1 : Policy) : resid Try.prog cfg RN n 72 [.ag (Policy.cells a0), .ag (Policy.cells a1)] [] = (br (!a0.domain.toList == a1.domain.toList) (some (V.c (C.f (F.sc (Value.bool false))), [], []))
  (br (a0.mode != a1.mode) (some (V.c (C.f (F.sc (Value.bool false))), [], []))
    (qb (pres RN 85 [V.c (C.f (F.sl false Kind.str a0.mx)), V.c (C.f (F.sl false Kind.str a1.mx))]) fun v =>
      qb (qb (unC v) fun y => fBool y) fun b =>
        br (!b) (some (V.c (C.f (F.sc (Value.bool false))), [], []))
          (br (a0.til != a1.til) (some (V.c (C.f (F.sc (Value.bool false))), [], []))
            (some (V.c (C.f (F.sc (Value.bool true))), [], []))))) : Option (V × List Vm.Obj × List Vm.Obj)) := by kernel_rfl

theorem laws_eqHost_res (n : Nat) (a0 : Host) (a1 : Host) : resid Try.prog cfg RN n 73 [.ag (Host.cells a0), .ag (Host.cells a1)] [] = (br (!a0.name.toList == a1.name.toList) (some (V.c (C.f (F.sc (Value.bool false))), [], []))
  (br (a0.key != a1.key) (some (V.c (C.f (F.sc (Value.bool false))), [], []))
    (br (!a0.lost == a1.lost) (some (V.c (C.f (F.sc (Value.bool false))), [], []))
      (some (V.c (C.f (F.sc (Value.bool true))), [], [])))) : Option (V × List Vm.Obj × List Vm.Obj)) := by kernel_rfl

theorem laws_eqLetter_res (n : Nat) (a0 : Letter) (a1 : Letter) : resid Try.prog cfg RN n 74 [.ag (Letter.cells a0), .ag (Letter.cells a1)] [] = (br (!a0.domain.toList == a1.domain.toList) (some (V.c (C.f (F.sc (Value.bool false))), [], []))
  (br (a0.body != a1.body) (some (V.c (C.f (F.sc (Value.bool false))), [], []))
    (br (a0.state != a1.state) (some (V.c (C.f (F.sc (Value.bool false))), [], []))
      (br (a0.tries != a1.tries) (some (V.c (C.f (F.sc (Value.bool false))), [], []))
        (br (a0.next != a1.next) (some (V.c (C.f (F.sc (Value.bool false))), [], []))
          (some (V.c (C.f (F.sc (Value.bool true))), [], [])))))) : Option (V × List Vm.Obj × List Vm.Obj)) := by kernel_rfl

theorem laws_eqCall_res (n : Nat) (a0 : CallD) (a1 : CallD) : resid Try.prog cfg RN n 75 [.ag (CallD.cells a0), .ag (CallD.cells a1)] [] = (br (a0.letter != a1.letter) (some (V.c (C.f (F.sc (Value.bool false))), [], []))
  (qb
    (pres RN 86
      [V.agg
          [C.f (F.sc (Value.int IntKind.i64 a0.client.step)), C.f (F.sc (Value.string a0.client.host)),
            C.f (F.sc (Value.bool a0.client.must)), C.f (F.sc (Value.int IntKind.i64 a0.client.eph)),
            C.f (F.sc (Value.int IntKind.i64 a0.client.body)), C.f (F.sc (Value.int IntKind.i64 a0.client.share.op)),
            C.f (F.sc (Value.int IntKind.i64 a0.client.share.n)), C.f (F.sc (Value.string a0.client.share.s)),
            C.f (F.sl false Kind.term a0.client.share.kids), C.f (F.sc (Value.int IntKind.i64 a0.client.inn)),
            C.f (F.sc (Value.int IntKind.i64 a0.client.out)), C.f (F.sc (Value.bool a0.client.tls)),
            C.f (F.sc (Value.bool a0.client.proved))],
        V.agg
          [C.f (F.sc (Value.int IntKind.i64 a1.client.step)), C.f (F.sc (Value.string a1.client.host)),
            C.f (F.sc (Value.bool a1.client.must)), C.f (F.sc (Value.int IntKind.i64 a1.client.eph)),
            C.f (F.sc (Value.int IntKind.i64 a1.client.body)), C.f (F.sc (Value.int IntKind.i64 a1.client.share.op)),
            C.f (F.sc (Value.int IntKind.i64 a1.client.share.n)), C.f (F.sc (Value.string a1.client.share.s)),
            C.f (F.sl false Kind.term a1.client.share.kids), C.f (F.sc (Value.int IntKind.i64 a1.client.inn)),
            C.f (F.sc (Value.int IntKind.i64 a1.client.out)), C.f (F.sc (Value.bool a1.client.tls)),
            C.f (F.sc (Value.bool a1.client.proved))]])
    fun v =>
    qb (qb (unC v) fun y => fBool y) fun b =>
      br (!b) (some (V.c (C.f (F.sc (Value.bool false))), [], []))
        (br (!a0.good == a1.good) (some (V.c (C.f (F.sc (Value.bool false))), [], []))
          (some (V.c (C.f (F.sc (Value.bool true))), [], [])))) : Option (V × List Vm.Obj × List Vm.Obj)) := by kernel_rfl

theorem laws_eqTalk_res (n : Nat) (a0 : Talk) (a1 : Talk) : resid Try.prog cfg RN n 76 [.ag (Talk.cells a0), .ag (Talk.cells a1)] [] = (br (a0.host != a1.host) (some (V.c (C.f (F.sc (Value.bool false))), [], []))
  (qb
    (pres RN 87
      [V.agg
          [C.f (F.sc (Value.int IntKind.i64 a0.server.step)), C.f (F.sc (Value.string a0.server.host)),
            C.f (F.sc (Value.int IntKind.i64 a0.server.key)), C.f (F.sc (Value.int IntKind.i64 a0.server.eph)),
            C.f (F.sc (Value.int IntKind.i64 a0.server.cert.op)), C.f (F.sc (Value.int IntKind.i64 a0.server.cert.n)),
            C.f (F.sc (Value.string a0.server.cert.s)), C.f (F.sl false Kind.term a0.server.cert.kids),
            C.f (F.sc (Value.int IntKind.i64 a0.server.share.op)), C.f (F.sc (Value.int IntKind.i64 a0.server.share.n)),
            C.f (F.sc (Value.string a0.server.share.s)), C.f (F.sl false Kind.term a0.server.share.kids),
            C.f (F.sc (Value.int IntKind.i64 a0.server.inn)), C.f (F.sc (Value.int IntKind.i64 a0.server.out)),
            C.f (F.sc (Value.bool a0.server.tls)), C.f (F.sl false Kind.int a0.server.got)],
        V.agg
          [C.f (F.sc (Value.int IntKind.i64 a1.server.step)), C.f (F.sc (Value.string a1.server.host)),
            C.f (F.sc (Value.int IntKind.i64 a1.server.key)), C.f (F.sc (Value.int IntKind.i64 a1.server.eph)),
            C.f (F.sc (Value.int IntKind.i64 a1.server.cert.op)), C.f (F.sc (Value.int IntKind.i64 a1.server.cert.n)),
            C.f (F.sc (Value.string a1.server.cert.s)), C.f (F.sl false Kind.term a1.server.cert.kids),
            C.f (F.sc (Value.int IntKind.i64 a1.server.share.op)), C.f (F.sc (Value.int IntKind.i64 a1.server.share.n)),
            C.f (F.sc (Value.string a1.server.share.s)), C.f (F.sl false Kind.term a1.server.share.kids),
            C.f (F.sc (Value.int IntKind.i64 a1.server.inn)), C.f (F.sc (Value.int IntKind.i64 a1.server.out)),
            C.f (F.sc (Value.bool a1.server.tls)), C.f (F.sl false Kind.int a1.server.got)]])
    fun v =>
    qb (qb (unC v) fun y => fBool y) fun b =>
      br (!b) (some (V.c (C.f (F.sc (Value.bool false))), [], [])) (some (V.c (C.f (F.sc (Value.bool true))), [], []))) : Option (V × List Vm.Obj × List Vm.Obj)) := by kernel_rfl

theorem laws_szStringS_res (n : Nat) (t0 : Bool) (a0 : List ByteArray) (a1 : Int) : resid Try.prog cfg RN n 79 [.sl t0 .str a0, .int a1] [] = (br (decide (IntKind.i64.wrap (a1 - (↑a0.length : Int)) < 0))
  (some (V.c (C.f (F.sc (Value.int IntKind.i64 (-1)))), [], []))
  (qb
    (lp Try.prog cfg RN n 5 79 5 0 n
      (St.mk
        (frOf
          [(0, V.c (C.f (F.sl t0 Kind.str a0))),
            (1, V.c (C.f (F.sc (Value.int IntKind.i64 (IntKind.i64.wrap (a1 - (↑a0.length : Int))))))),
            (4, V.c (C.f (F.sc (Value.int IntKind.i64 0)))), (5, V.c (C.f (F.sc (Value.int IntKind.i64 0))))])
        (hpIds [])))
    fun r =>
    qb (qb (unC (r.snd.fr (1, Sh.int).fst)) fun y => fInt y) fun n =>
      qb (qb (unC (r.snd.fr (4, Sh.int).fst)) fun y => fInt y) fun n_1 =>
        br (isRetE r.fst) (some (V.c (C.f (F.sc (Value.int IntKind.i64 n_1))), [], []))
          (br (isExt 0 r.fst) (some (V.c (C.f (F.sc (Value.int IntKind.i64 n))), [], [])) none)) : Option (V × List Vm.Obj × List Vm.Obj)) := by kernel_rfl

theorem laws_szClient_res (n : Nat) (a0 : Client) (a1 : Int) : resid Try.prog cfg RN n 80 [.ag (Client.cells a0), .int a1] [] = (br (decide (IntKind.i64.wrap (a1 - (↑a0.host.size : Int)) < 0))
  (some (V.c (C.f (F.sc (Value.int IntKind.i64 (-1)))), [], []))
  (qb
    (pres RN 59
      [V.agg
          [C.f (F.sc (Value.int IntKind.i64 a0.share.op)), C.f (F.sc (Value.int IntKind.i64 a0.share.n)),
            C.f (F.sc (Value.string a0.share.s)), C.f (F.sl false Kind.term a0.share.kids)],
        V.c (C.f (F.sc (Value.int IntKind.i64 (IntKind.i64.wrap (a1 - (↑a0.host.size : Int))))))])
    fun v =>
    qb (qb (unC v) fun y => fInt y) fun n =>
      br (decide (n < 0)) (some (V.c (C.f (F.sc (Value.int IntKind.i64 (-1)))), [], []))
        (some (V.c (C.f (F.sc (Value.int IntKind.i64 n))), [], []))) : Option (V × List Vm.Obj × List Vm.Obj)) := by kernel_rfl

theorem laws_szServer_res (n : Nat) (a0 : Server) (a1 : Int) : resid Try.prog cfg RN n 81 [.ag (Server.cells a0), .int a1] [] = (br (decide (IntKind.i64.wrap (a1 - (↑a0.host.size : Int)) < 0))
  (some (V.c (C.f (F.sc (Value.int IntKind.i64 (-1)))), [], []))
  (qb
    (pres RN 59
      [V.agg
          [C.f (F.sc (Value.int IntKind.i64 a0.cert.op)), C.f (F.sc (Value.int IntKind.i64 a0.cert.n)),
            C.f (F.sc (Value.string a0.cert.s)), C.f (F.sl false Kind.term a0.cert.kids)],
        V.c (C.f (F.sc (Value.int IntKind.i64 (IntKind.i64.wrap (a1 - (↑a0.host.size : Int))))))])
    fun v =>
    qb (qb (unC v) fun y => fInt y) fun n =>
      br (decide (n < 0)) (some (V.c (C.f (F.sc (Value.int IntKind.i64 (-1)))), [], []))
        (qb
          (pres RN 59
            [V.agg
                [C.f (F.sc (Value.int IntKind.i64 a0.share.op)), C.f (F.sc (Value.int IntKind.i64 a0.share.n)),
                  C.f (F.sc (Value.string a0.share.s)), C.f (F.sl false Kind.term a0.share.kids)],
              V.c (C.f (F.sc (Value.int IntKind.i64 n)))])
          fun v =>
          qb (qb (unC v) fun y => fInt y) fun n =>
            br (decide (n < 0)) (some (V.c (C.f (F.sc (Value.int IntKind.i64 (-1)))), [], []))
              (qb (pres RN 40 [V.c (C.f (F.sl false Kind.int a0.got)), V.c (C.f (F.sc (Value.int IntKind.i64 n)))])
                fun v =>
                qb (qb (unC v) fun y => fInt y) fun n =>
                  br (decide (n < 0)) (some (V.c (C.f (F.sc (Value.int IntKind.i64 (-1)))), [], []))
                    (some (V.c (C.f (F.sc (Value.int IntKind.i64 n))), [], []))))) : Option (V × List Vm.Obj × List Vm.Obj)) := by kernel_rfl

theorem laws_toStringS_res (n : Nat) (t0 : Bool) (a0 : List ByteArray) : resid Try.prog cfg RN n 82 [.sl t0 .str a0] [] = (br
  (decide ((↑a0.length : Int) = (↑a0.length : Int)) && decide (0 ≤ (↑a0.length : Int)) &&
    (↑a0.length : Int).toNat.ble appMax)
  (qb
    (lp Try.prog cfg RN n 5 82 3 0 n
      (St.mk
        (frOf
          [(0, V.c (C.f (F.sl t0 Kind.str a0))), (3, V.c (C.row (Id.own 3) Kind.str)),
            (4, V.c (C.f (F.sc (Value.int IntKind.i64 0))))])
        (hpIds [(Id.own 3, Obj.row true Kind.str (List.replicate (↑a0.length : Int).toNat (zeroEl Kind.str)))])))
    fun r =>
    qb (qb (unC (r.snd.fr (3, Sh.row (Id.own 3) Kind.str).fst)) fun y => fRow (Id.own 3) Kind.str y) fun x =>
      qb (r.snd.2 (Id.own 3, OSh.row true Kind.str).fst) fun o =>
        qb (asRow true Kind.str o) fun l =>
          br (isRetE r.fst) (some (V.c C.hole, [], []))
            (br (isExt 0 r.fst) (some (V.c (C.row (Id.ret 0 0) Kind.str), [], [Obj.row true Kind.str l])) none))
  none : Option (V × List Vm.Obj × List Vm.Obj)) := by kernel_rfl

theorem laws_toClient_res (n : Nat) (a0 : Client) : resid Try.prog cfg RN n 83 [.ag (Client.cells a0)] [] = (qb
  (pres RN 65
    [V.agg
        [C.f (F.sc (Value.int IntKind.i64 a0.share.op)), C.f (F.sc (Value.int IntKind.i64 a0.share.n)),
          C.f (F.sc (Value.string a0.share.s)), C.f (F.sl false Kind.term a0.share.kids)]])
  fun v =>
  qb (asEl Kind.term v) fun x =>
    some
      (V.agg
          [C.f (F.sc (Value.int IntKind.i64 a0.step)), C.f (F.sc (Value.string a0.host)),
            C.f (F.sc (Value.bool a0.must)), C.f (F.sc (Value.int IntKind.i64 a0.eph)),
            C.f (F.sc (Value.int IntKind.i64 a0.body)), C.f (F.sc (Value.int IntKind.i64 x.op)),
            C.f (F.sc (Value.int IntKind.i64 x.n)), C.f (F.sc (Value.string x.s)), C.f (F.sl false Kind.term x.kids),
            C.f (F.sc (Value.int IntKind.i64 a0.inn)), C.f (F.sc (Value.int IntKind.i64 a0.out)),
            C.f (F.sc (Value.bool a0.tls)), C.f (F.sc (Value.bool a0.proved))],
        [], []) : Option (V × List Vm.Obj × List Vm.Obj)) := by kernel_rfl

theorem laws_toServer_res (n : Nat) (a0 : Server) : resid Try.prog cfg RN n 84 [.ag (Server.cells a0)] [] = (qb
  (pres RN 65
    [V.agg
        [C.f (F.sc (Value.int IntKind.i64 a0.cert.op)), C.f (F.sc (Value.int IntKind.i64 a0.cert.n)),
          C.f (F.sc (Value.string a0.cert.s)), C.f (F.sl false Kind.term a0.cert.kids)]])
  fun v =>
  qb (asEl Kind.term v) fun x =>
    qb
      (pres RN 65
        [V.agg
            [C.f (F.sc (Value.int IntKind.i64 a0.share.op)), C.f (F.sc (Value.int IntKind.i64 a0.share.n)),
              C.f (F.sc (Value.string a0.share.s)), C.f (F.sl false Kind.term a0.share.kids)]])
      fun v =>
      qb (asEl Kind.term v) fun x_1 =>
        qb (pres RN 47 [V.c (C.f (F.sl false Kind.int a0.got))]) fun v =>
          qb (qb (unC v) fun y => fSl Kind.int y) fun l =>
            some
              (V.agg
                  [C.f (F.sc (Value.int IntKind.i64 a0.step)), C.f (F.sc (Value.string a0.host)),
                    C.f (F.sc (Value.int IntKind.i64 a0.key)), C.f (F.sc (Value.int IntKind.i64 a0.eph)),
                    C.f (F.sc (Value.int IntKind.i64 x.op)), C.f (F.sc (Value.int IntKind.i64 x.n)),
                    C.f (F.sc (Value.string x.s)), C.f (F.sl false Kind.term x.kids),
                    C.f (F.sc (Value.int IntKind.i64 x_1.op)), C.f (F.sc (Value.int IntKind.i64 x_1.n)),
                    C.f (F.sc (Value.string x_1.s)), C.f (F.sl false Kind.term x_1.kids),
                    C.f (F.sc (Value.int IntKind.i64 a0.inn)), C.f (F.sc (Value.int IntKind.i64 a0.out)),
                    C.f (F.sc (Value.bool a0.tls)), C.f (F.sl false Kind.int l)],
                [], []) : Option (V × List Vm.Obj × List Vm.Obj)) := by kernel_rfl

theorem laws_eqStringS_res (n : Nat) (t0 : Bool) (a0 : List ByteArray) (t1 : Bool) (a1 : List ByteArray) : resid Try.prog cfg RN n 85 [.sl t0 .str a0, .sl t1 .str a1] [] = (br ((↑a0.length : Int) != (↑a1.length : Int)) (some (V.c (C.f (F.sc (Value.bool false))), [], []))
  (qb
    (lp Try.prog cfg RN n 5 85 4 0 n
      (St.mk
        (frOf
          [(0, V.c (C.f (F.sl t0 Kind.str a0))), (1, V.c (C.f (F.sl t1 Kind.str a1))),
            (4, V.c (C.f (F.sc (Value.bool false)))), (5, V.c (C.f (F.sc (Value.int IntKind.i64 0))))])
        (hpIds [])))
    fun r =>
    qb (qb (unC (r.snd.fr (4, Sh.bool).fst)) fun y => fBool y) fun b =>
      br (isRetE r.fst) (some (V.c (C.f (F.sc (Value.bool b))), [], []))
        (br (isExt 0 r.fst) (some (V.c (C.f (F.sc (Value.bool true))), [], [])) none)) : Option (V × List Vm.Obj × List Vm.Obj)) := by kernel_rfl

theorem laws_eqClient_res (n : Nat) (a0 : Client) (a1 : Client) : resid Try.prog cfg RN n 86 [.ag (Client.cells a0), .ag (Client.cells a1)] [] = (br (a0.step != a1.step) (some (V.c (C.f (F.sc (Value.bool false))), [], []))
  (br (!a0.host.toList == a1.host.toList) (some (V.c (C.f (F.sc (Value.bool false))), [], []))
    (br (!a0.must == a1.must) (some (V.c (C.f (F.sc (Value.bool false))), [], []))
      (br (a0.eph != a1.eph) (some (V.c (C.f (F.sc (Value.bool false))), [], []))
        (br (a0.body != a1.body) (some (V.c (C.f (F.sc (Value.bool false))), [], []))
          (qb
            (pres RN 71
              [V.agg
                  [C.f (F.sc (Value.int IntKind.i64 a0.share.op)), C.f (F.sc (Value.int IntKind.i64 a0.share.n)),
                    C.f (F.sc (Value.string a0.share.s)), C.f (F.sl false Kind.term a0.share.kids)],
                V.agg
                  [C.f (F.sc (Value.int IntKind.i64 a1.share.op)), C.f (F.sc (Value.int IntKind.i64 a1.share.n)),
                    C.f (F.sc (Value.string a1.share.s)), C.f (F.sl false Kind.term a1.share.kids)]])
            fun v =>
            qb (qb (unC v) fun y => fBool y) fun b =>
              br (!b) (some (V.c (C.f (F.sc (Value.bool false))), [], []))
                (br (a0.inn != a1.inn) (some (V.c (C.f (F.sc (Value.bool false))), [], []))
                  (br (a0.out != a1.out) (some (V.c (C.f (F.sc (Value.bool false))), [], []))
                    (br (!a0.tls == a1.tls) (some (V.c (C.f (F.sc (Value.bool false))), [], []))
                      (br (!a0.proved == a1.proved) (some (V.c (C.f (F.sc (Value.bool false))), [], []))
                        (some (V.c (C.f (F.sc (Value.bool true))), [], []))))))))))) : Option (V × List Vm.Obj × List Vm.Obj)) := by kernel_rfl

theorem laws_eqServer_res (n : Nat) (a0 : Server) (a1 : Server) : resid Try.prog cfg RN n 87 [.ag (Server.cells a0), .ag (Server.cells a1)] [] = (br (a0.step != a1.step) (some (V.c (C.f (F.sc (Value.bool false))), [], []))
  (br (!a0.host.toList == a1.host.toList) (some (V.c (C.f (F.sc (Value.bool false))), [], []))
    (br (a0.key != a1.key) (some (V.c (C.f (F.sc (Value.bool false))), [], []))
      (br (a0.eph != a1.eph) (some (V.c (C.f (F.sc (Value.bool false))), [], []))
        (qb
          (pres RN 71
            [V.agg
                [C.f (F.sc (Value.int IntKind.i64 a0.cert.op)), C.f (F.sc (Value.int IntKind.i64 a0.cert.n)),
                  C.f (F.sc (Value.string a0.cert.s)), C.f (F.sl false Kind.term a0.cert.kids)],
              V.agg
                [C.f (F.sc (Value.int IntKind.i64 a1.cert.op)), C.f (F.sc (Value.int IntKind.i64 a1.cert.n)),
                  C.f (F.sc (Value.string a1.cert.s)), C.f (F.sl false Kind.term a1.cert.kids)]])
          fun v =>
          qb (qb (unC v) fun y => fBool y) fun b =>
            br (!b) (some (V.c (C.f (F.sc (Value.bool false))), [], []))
              (qb
                (pres RN 71
                  [V.agg
                      [C.f (F.sc (Value.int IntKind.i64 a0.share.op)), C.f (F.sc (Value.int IntKind.i64 a0.share.n)),
                        C.f (F.sc (Value.string a0.share.s)), C.f (F.sl false Kind.term a0.share.kids)],
                    V.agg
                      [C.f (F.sc (Value.int IntKind.i64 a1.share.op)), C.f (F.sc (Value.int IntKind.i64 a1.share.n)),
                        C.f (F.sc (Value.string a1.share.s)), C.f (F.sl false Kind.term a1.share.kids)]])
                fun v =>
                qb (qb (unC v) fun y => fBool y) fun b =>
                  br (!b) (some (V.c (C.f (F.sc (Value.bool false))), [], []))
                    (br (a0.inn != a1.inn) (some (V.c (C.f (F.sc (Value.bool false))), [], []))
                      (br (a0.out != a1.out) (some (V.c (C.f (F.sc (Value.bool false))), [], []))
                        (br (!a0.tls == a1.tls) (some (V.c (C.f (F.sc (Value.bool false))), [], []))
                          (qb
                            (pres RN 56 [V.c (C.f (F.sl false Kind.int a0.got)), V.c (C.f (F.sl false Kind.int a1.got))])
                            fun v =>
                            qb (qb (unC v) fun y => fBool y) fun b =>
                              br (!b) (some (V.c (C.f (F.sc (Value.bool false))), [], []))
                                (some (V.c (C.f (F.sc (Value.bool true))), [], []))))))))))) : Option (V × List Vm.Obj × List Vm.Obj)) := by kernel_rfl

theorem laws_FnExactHostNamed_res (n : Nat) (a0 : WorldD) (a1 : ByteArray) : resid Try.prog cfg RN n 4 [.ag (WorldD.cells a0), .str a1] [] = (br (decide ((↑a1.size : Int) > 1048576)) (some (V.c (C.f (F.sc (Value.bool true))), [], []))
  (qb
    (pres RN 18
      [V.agg
          [C.f (F.sc (Value.int IntKind.i64 a0.time)), C.f (F.sc (Value.int IntKind.i64 a0.fresh)),
            C.f (F.sl false Kind.term a0.known), C.f (F.sl false Kind.policy a0.cache),
            C.f (F.sl false Kind.host a0.hosts), C.f (F.sl false Kind.letter a0.letters),
            C.f (F.sc (Value.string a0.book)), C.f (F.sc (Value.int IntKind.i64 a0.sure)),
            C.f (F.sl false Kind.call a0.calls), C.f (F.sl false Kind.talk a0.talks),
            C.f (F.sl false Kind.int a0.told)],
        V.c (C.f (F.sc (Value.int IntKind.i64 1048576)))])
    fun v =>
    qb (qb (unC v) fun y => fInt y) fun n =>
      br (decide (n < 0)) (some (V.c (C.f (F.sc (Value.bool true))), [], []))
        (qb
          (pres RN 20
            [V.agg
                [C.f (F.sc (Value.int IntKind.i64 a0.time)), C.f (F.sc (Value.int IntKind.i64 a0.fresh)),
                  C.f (F.sl false Kind.term a0.known), C.f (F.sl false Kind.policy a0.cache),
                  C.f (F.sl false Kind.host a0.hosts), C.f (F.sl false Kind.letter a0.letters),
                  C.f (F.sc (Value.string a0.book)), C.f (F.sc (Value.int IntKind.i64 a0.sure)),
                  C.f (F.sl false Kind.call a0.calls), C.f (F.sl false Kind.talk a0.talks),
                  C.f (F.sl false Kind.int a0.told)]])
          fun v =>
          qb (asWorld v) fun x =>
            qb
              (pres RN 19
                [V.agg
                    [C.f (F.sc (Value.int IntKind.i64 x.time)), C.f (F.sc (Value.int IntKind.i64 x.fresh)),
                      C.f (F.sl false Kind.term x.known), C.f (F.sl false Kind.policy x.cache),
                      C.f (F.sl false Kind.host x.hosts), C.f (F.sl false Kind.letter x.letters),
                      C.f (F.sc (Value.string x.book)), C.f (F.sc (Value.int IntKind.i64 x.sure)),
                      C.f (F.sl false Kind.call x.calls), C.f (F.sl false Kind.talk x.talks),
                      C.f (F.sl false Kind.int x.told)],
                  V.c (C.f (F.sc (Value.string a1)))])
              fun v =>
              qb (qb (unC v) fun y => fInt y) fun n =>
                qb
                  (pres RN 20
                    [V.agg
                        [C.f (F.sc (Value.int IntKind.i64 a0.time)), C.f (F.sc (Value.int IntKind.i64 a0.fresh)),
                          C.f (F.sl false Kind.term a0.known), C.f (F.sl false Kind.policy a0.cache),
                          C.f (F.sl false Kind.host a0.hosts), C.f (F.sl false Kind.letter a0.letters),
                          C.f (F.sc (Value.string a0.book)), C.f (F.sc (Value.int IntKind.i64 a0.sure)),
                          C.f (F.sl false Kind.call a0.calls), C.f (F.sl false Kind.talk a0.talks),
                          C.f (F.sl false Kind.int a0.told)]])
                  fun v =>
                  qb (asWorld v) fun x =>
                    qb
                      (pres RN 21
                        [V.agg
                            [C.f (F.sc (Value.int IntKind.i64 x.time)), C.f (F.sc (Value.int IntKind.i64 x.fresh)),
                              C.f (F.sl false Kind.term x.known), C.f (F.sl false Kind.policy x.cache),
                              C.f (F.sl false Kind.host x.hosts), C.f (F.sl false Kind.letter x.letters),
                              C.f (F.sc (Value.string x.book)), C.f (F.sc (Value.int IntKind.i64 x.sure)),
                              C.f (F.sl false Kind.call x.calls), C.f (F.sl false Kind.talk x.talks),
                              C.f (F.sl false Kind.int x.told)],
                          V.c (C.f (F.sc (Value.string a1)))])
                      fun v =>
                      qb (qb (unC v) fun y => fInt y) fun n_1 =>
                        br (n_1 != n) (some (V.c (C.f (F.sc (Value.bool false))), [], []))
                          (qb
                            (pres RN 20
                              [V.agg
                                  [C.f (F.sc (Value.int IntKind.i64 a0.time)),
                                    C.f (F.sc (Value.int IntKind.i64 a0.fresh)), C.f (F.sl false Kind.term a0.known),
                                    C.f (F.sl false Kind.policy a0.cache), C.f (F.sl false Kind.host a0.hosts),
                                    C.f (F.sl false Kind.letter a0.letters), C.f (F.sc (Value.string a0.book)),
                                    C.f (F.sc (Value.int IntKind.i64 a0.sure)), C.f (F.sl false Kind.call a0.calls),
                                    C.f (F.sl false Kind.talk a0.talks), C.f (F.sl false Kind.int a0.told)]])
                            fun v =>
                            qb (asWorld v) fun x_1 =>
                              qb
                                (pres RN 22
                                  [V.agg
                                      [C.f (F.sc (Value.int IntKind.i64 x.time)),
                                        C.f (F.sc (Value.int IntKind.i64 x.fresh)), C.f (F.sl false Kind.term x.known),
                                        C.f (F.sl false Kind.policy x.cache), C.f (F.sl false Kind.host x.hosts),
                                        C.f (F.sl false Kind.letter x.letters), C.f (F.sc (Value.string x.book)),
                                        C.f (F.sc (Value.int IntKind.i64 x.sure)), C.f (F.sl false Kind.call x.calls),
                                        C.f (F.sl false Kind.talk x.talks), C.f (F.sl false Kind.int x.told)],
                                    V.agg
                                      [C.f (F.sc (Value.int IntKind.i64 x_1.time)),
                                        C.f (F.sc (Value.int IntKind.i64 x_1.fresh)),
                                        C.f (F.sl false Kind.term x_1.known), C.f (F.sl false Kind.policy x_1.cache),
                                        C.f (F.sl false Kind.host x_1.hosts), C.f (F.sl false Kind.letter x_1.letters),
                                        C.f (F.sc (Value.string x_1.book)), C.f (F.sc (Value.int IntKind.i64 x_1.sure)),
                                        C.f (F.sl false Kind.call x_1.calls), C.f (F.sl false Kind.talk x_1.talks),
                                        C.f (F.sl false Kind.int x_1.told)]])
                                fun v =>
                                qb (qb (unC v) fun y => fBool y) fun b =>
                                  br (!b) (some (V.c (C.f (F.sc (Value.bool false))), [], []))
                                    (some (V.c (C.f (F.sc (Value.bool true))), [], []))))) : Option (V × List Vm.Obj × List Vm.Obj)) := by kernel_rfl

theorem spec_HostNamed_round2 (n : Nat) (x1 : ByteArray) (x4 : Int) (x5 : Int) (y2 : WorldD) : roundK Try.prog cfg RN n 5 19 2 0 ⟨frOf [(1, .str x1), (2, .c (.bx (.own 2) 0)), (4, .int x4), (5, .int x5)], hpIds [(.own 2, .box ((WorldD.cells y2).map C.f))]⟩ = (br (decide (x5 < (↑y2.hosts.length : Int)))
  (qb (idx y2.hosts x5) fun y =>
    br (y.name.toList == x1.toList)
      (some (Ex.ret, St.mk (frOf [(4, V.c (C.f (F.sc (Value.int IntKind.i64 x5))))]) (hpIds [])))
      (some
        (Ex.nrm,
          St.mk
            (frOf
              [(1, V.c (C.f (F.sc (Value.string x1)))), (2, V.c (C.bx (Id.own 2) 0)),
                (4, V.c (C.f (F.sc (Value.int IntKind.i64 x4)))),
                (5, V.c (C.f (F.sc (Value.int IntKind.i64 (IntKind.i64.wrap (x5 + 1))))))])
            (hpIds
              [(Id.own 2,
                  Obj.box
                    [C.f (F.sc (Value.int IntKind.i64 y2.time)), C.f (F.sc (Value.int IntKind.i64 y2.fresh)),
                      C.f (F.sl false Kind.term y2.known), C.f (F.sl false Kind.policy y2.cache),
                      C.f (F.sl false Kind.host y2.hosts), C.f (F.sl false Kind.letter y2.letters),
                      C.f (F.sc (Value.string y2.book)), C.f (F.sc (Value.int IntKind.i64 y2.sure)),
                      C.f (F.sl false Kind.call y2.calls), C.f (F.sl false Kind.talk y2.talks),
                      C.f (F.sl false Kind.int y2.told)])]))))
  (some (Ex.ext 0, St.mk (frOf [(4, V.c (C.f (F.sc (Value.int IntKind.i64 x4))))]) (hpIds []))) : Option (Ex × St)) := by kernel_rfl

theorem impl_domainOk_round2 (n : Nat) (x0 : ByteArray) (x2 : Bool) (x5 : Int) (x6 : Int) : roundK Try.prog cfg RN n 5 30 2 0 ⟨frOf [(0, .str x0), (2, .bool x2), (5, .int x5), (6, .int x6)], hpIds []⟩ = (br (decide (x6 < x5))
  (qb (byteAt x0 x6) fun b =>
    br (decide (b < 97))
      (some
        (Ex.ret,
          St.mk (frOf [(0, V.c (C.f (F.sc (Value.string x0)))), (2, V.c (C.f (F.sc (Value.bool false))))]) (hpIds [])))
      (qb (byteAt x0 x6) fun b =>
        br (decide (b > 122))
          (some
            (Ex.ret,
              St.mk (frOf [(0, V.c (C.f (F.sc (Value.string x0)))), (2, V.c (C.f (F.sc (Value.bool false))))])
                (hpIds [])))
          (some
            (Ex.nrm,
              St.mk
                (frOf
                  [(0, V.c (C.f (F.sc (Value.string x0)))), (2, V.c (C.f (F.sc (Value.bool x2)))),
                    (5, V.c (C.f (F.sc (Value.int IntKind.i64 x5)))),
                    (6, V.c (C.f (F.sc (Value.int IntKind.i64 (IntKind.i64.wrap (x6 + 1))))))])
                (hpIds [])))))
  (some
    (Ex.ext 0,
      St.mk (frOf [(0, V.c (C.f (F.sc (Value.string x0)))), (2, V.c (C.f (F.sc (Value.bool x2))))]) (hpIds []))) : Option (Ex × St)) := by kernel_rfl

theorem spec_l6Domain_round2 (n : Nat) (x0 : ByteArray) (x2 : Bool) (x3 : Int) : roundK Try.prog cfg RN n 5 33 2 0 ⟨frOf [(0, .str x0), (2, .bool x2), (3, .int x3)], hpIds []⟩ = (br (decide (x3 < (↑x0.size : Int)))
  (qb (byteAt x0 x3) fun b =>
    br (decide (b < 97))
      (some
        (Ex.ret,
          St.mk (frOf [(0, V.c (C.f (F.sc (Value.string x0)))), (2, V.c (C.f (F.sc (Value.bool false))))]) (hpIds [])))
      (qb (byteAt x0 x3) fun b =>
        br (decide (b > 122))
          (some
            (Ex.ret,
              St.mk (frOf [(0, V.c (C.f (F.sc (Value.string x0)))), (2, V.c (C.f (F.sc (Value.bool false))))])
                (hpIds [])))
          (some
            (Ex.nrm,
              St.mk
                (frOf
                  [(0, V.c (C.f (F.sc (Value.string x0)))), (2, V.c (C.f (F.sc (Value.bool x2)))),
                    (3, V.c (C.f (F.sc (Value.int IntKind.i64 (IntKind.i64.wrap (x3 + 1))))))])
                (hpIds [])))))
  (some
    (Ex.ext 0,
      St.mk (frOf [(0, V.c (C.f (F.sc (Value.string x0)))), (2, V.c (C.f (F.sc (Value.bool x2))))]) (hpIds []))) : Option (Ex × St)) := by kernel_rfl

theorem laws_szTermS_round5 (n : Nat) (t0 : Bool) (x0 : List Term) (x1 : Int) (x4 : Int) (x5 : Int) : roundK Try.prog cfg RN n 5 34 5 0 ⟨frOf [(0, .sl t0 .term x0), (1, .int x1), (4, .int x4), (5, .int x5)], hpIds []⟩ = (br (decide (x5 < (↑x0.length : Int)))
  (qb (idx x0 x5) fun y =>
    qb
      (pres RN 59
        [V.agg
            [C.f (F.sc (Value.int IntKind.i64 y.op)), C.f (F.sc (Value.int IntKind.i64 y.n)),
              C.f (F.sc (Value.string y.s)), C.f (F.sl false Kind.term y.kids)],
          V.c (C.f (F.sc (Value.int IntKind.i64 x1)))])
      fun v =>
      qb (qb (unC v) fun y => fInt y) fun n =>
        br (decide (n < 0))
          (some
            (Ex.ret,
              St.mk
                (frOf
                  [(1, V.c (C.f (F.sc (Value.int IntKind.i64 n)))), (4, V.c (C.f (F.sc (Value.int IntKind.i64 (-1)))))])
                (hpIds [])))
          (some
            (Ex.nrm,
              St.mk
                (frOf
                  [(0, V.c (C.f (F.sl t0 Kind.term x0))), (1, V.c (C.f (F.sc (Value.int IntKind.i64 n)))),
                    (4, V.c (C.f (F.sc (Value.int IntKind.i64 x4)))),
                    (5, V.c (C.f (F.sc (Value.int IntKind.i64 (IntKind.i64.wrap (x5 + 1))))))])
                (hpIds []))))
  (some
    (Ex.ext 0,
      St.mk (frOf [(1, V.c (C.f (F.sc (Value.int IntKind.i64 x1)))), (4, V.c (C.f (F.sc (Value.int IntKind.i64 x4))))])
        (hpIds []))) : Option (Ex × St)) := by kernel_rfl

theorem laws_szPolicyS_round5 (n : Nat) (t0 : Bool) (x0 : List Policy) (x1 : Int) (x4 : Int) (x5 : Int) : roundK Try.prog cfg RN n 5 35 5 0 ⟨frOf [(0, .sl t0 .policy x0), (1, .int x1), (4, .int x4), (5, .int x5)], hpIds []⟩ = (br (decide (x5 < (↑x0.length : Int)))
  (qb (idx x0 x5) fun y =>
    qb
      (pres RN 60
        [V.agg
            [C.f (F.sc (Value.string y.domain)), C.f (F.sc (Value.int IntKind.i64 y.mode)),
              C.f (F.sl false Kind.str y.mx), C.f (F.sc (Value.int IntKind.i64 y.til))],
          V.c (C.f (F.sc (Value.int IntKind.i64 x1)))])
      fun v =>
      qb (qb (unC v) fun y => fInt y) fun n =>
        br (decide (n < 0))
          (some
            (Ex.ret,
              St.mk
                (frOf
                  [(1, V.c (C.f (F.sc (Value.int IntKind.i64 n)))), (4, V.c (C.f (F.sc (Value.int IntKind.i64 (-1)))))])
                (hpIds [])))
          (some
            (Ex.nrm,
              St.mk
                (frOf
                  [(0, V.c (C.f (F.sl t0 Kind.policy x0))), (1, V.c (C.f (F.sc (Value.int IntKind.i64 n)))),
                    (4, V.c (C.f (F.sc (Value.int IntKind.i64 x4)))),
                    (5, V.c (C.f (F.sc (Value.int IntKind.i64 (IntKind.i64.wrap (x5 + 1))))))])
                (hpIds []))))
  (some
    (Ex.ext 0,
      St.mk (frOf [(1, V.c (C.f (F.sc (Value.int IntKind.i64 x1)))), (4, V.c (C.f (F.sc (Value.int IntKind.i64 x4))))])
        (hpIds []))) : Option (Ex × St)) := by kernel_rfl

theorem laws_szHostS_round5 (n : Nat) (t0 : Bool) (x0 : List Host) (x1 : Int) (x4 : Int) (x5 : Int) : roundK Try.prog cfg RN n 5 36 5 0 ⟨frOf [(0, .sl t0 .host x0), (1, .int x1), (4, .int x4), (5, .int x5)], hpIds []⟩ = (br (decide (x5 < (↑x0.length : Int)))
  (qb (idx x0 x5) fun y =>
    qb
      (pres RN 61
        [V.agg
            [C.f (F.sc (Value.string y.name)), C.f (F.sc (Value.int IntKind.i64 y.key)),
              C.f (F.sc (Value.bool y.lost))],
          V.c (C.f (F.sc (Value.int IntKind.i64 x1)))])
      fun v =>
      qb (qb (unC v) fun y => fInt y) fun n =>
        br (decide (n < 0))
          (some
            (Ex.ret,
              St.mk
                (frOf
                  [(1, V.c (C.f (F.sc (Value.int IntKind.i64 n)))), (4, V.c (C.f (F.sc (Value.int IntKind.i64 (-1)))))])
                (hpIds [])))
          (some
            (Ex.nrm,
              St.mk
                (frOf
                  [(0, V.c (C.f (F.sl t0 Kind.host x0))), (1, V.c (C.f (F.sc (Value.int IntKind.i64 n)))),
                    (4, V.c (C.f (F.sc (Value.int IntKind.i64 x4)))),
                    (5, V.c (C.f (F.sc (Value.int IntKind.i64 (IntKind.i64.wrap (x5 + 1))))))])
                (hpIds []))))
  (some
    (Ex.ext 0,
      St.mk (frOf [(1, V.c (C.f (F.sc (Value.int IntKind.i64 x1)))), (4, V.c (C.f (F.sc (Value.int IntKind.i64 x4))))])
        (hpIds []))) : Option (Ex × St)) := by kernel_rfl

theorem laws_szLetterS_round5 (n : Nat) (t0 : Bool) (x0 : List Letter) (x1 : Int) (x4 : Int) (x5 : Int) : roundK Try.prog cfg RN n 5 37 5 0 ⟨frOf [(0, .sl t0 .letter x0), (1, .int x1), (4, .int x4), (5, .int x5)], hpIds []⟩ = (br (decide (x5 < (↑x0.length : Int)))
  (qb (idx x0 x5) fun y =>
    qb
      (pres RN 62
        [V.agg
            [C.f (F.sc (Value.string y.domain)), C.f (F.sc (Value.int IntKind.i64 y.body)),
              C.f (F.sc (Value.int IntKind.i64 y.state)), C.f (F.sc (Value.int IntKind.i64 y.tries)),
              C.f (F.sc (Value.int IntKind.i64 y.next))],
          V.c (C.f (F.sc (Value.int IntKind.i64 x1)))])
      fun v =>
      qb (qb (unC v) fun y => fInt y) fun n =>
        br (decide (n < 0))
          (some
            (Ex.ret,
              St.mk
                (frOf
                  [(1, V.c (C.f (F.sc (Value.int IntKind.i64 n)))), (4, V.c (C.f (F.sc (Value.int IntKind.i64 (-1)))))])
                (hpIds [])))
          (some
            (Ex.nrm,
              St.mk
                (frOf
                  [(0, V.c (C.f (F.sl t0 Kind.letter x0))), (1, V.c (C.f (F.sc (Value.int IntKind.i64 n)))),
                    (4, V.c (C.f (F.sc (Value.int IntKind.i64 x4)))),
                    (5, V.c (C.f (F.sc (Value.int IntKind.i64 (IntKind.i64.wrap (x5 + 1))))))])
                (hpIds []))))
  (some
    (Ex.ext 0,
      St.mk (frOf [(1, V.c (C.f (F.sc (Value.int IntKind.i64 x1)))), (4, V.c (C.f (F.sc (Value.int IntKind.i64 x4))))])
        (hpIds []))) : Option (Ex × St)) := by kernel_rfl

theorem laws_szCallS_round5 (n : Nat) (t0 : Bool) (x0 : List CallD) (x1 : Int) (x4 : Int) (x5 : Int) : roundK Try.prog cfg RN n 5 38 5 0 ⟨frOf [(0, .sl t0 .call x0), (1, .int x1), (4, .int x4), (5, .int x5)], hpIds []⟩ = (br (decide (x5 < (↑x0.length : Int)))
  (qb (idx x0 x5) fun y =>
    qb
      (pres RN 63
        [V.agg
            [C.f (F.sc (Value.int IntKind.i64 y.letter)), C.f (F.sc (Value.int IntKind.i64 y.client.step)),
              C.f (F.sc (Value.string y.client.host)), C.f (F.sc (Value.bool y.client.must)),
              C.f (F.sc (Value.int IntKind.i64 y.client.eph)), C.f (F.sc (Value.int IntKind.i64 y.client.body)),
              C.f (F.sc (Value.int IntKind.i64 y.client.share.op)), C.f (F.sc (Value.int IntKind.i64 y.client.share.n)),
              C.f (F.sc (Value.string y.client.share.s)), C.f (F.sl false Kind.term y.client.share.kids),
              C.f (F.sc (Value.int IntKind.i64 y.client.inn)), C.f (F.sc (Value.int IntKind.i64 y.client.out)),
              C.f (F.sc (Value.bool y.client.tls)), C.f (F.sc (Value.bool y.client.proved)),
              C.f (F.sc (Value.bool y.good))],
          V.c (C.f (F.sc (Value.int IntKind.i64 x1)))])
      fun v =>
      qb (qb (unC v) fun y => fInt y) fun n =>
        br (decide (n < 0))
          (some
            (Ex.ret,
              St.mk
                (frOf
                  [(1, V.c (C.f (F.sc (Value.int IntKind.i64 n)))), (4, V.c (C.f (F.sc (Value.int IntKind.i64 (-1)))))])
                (hpIds [])))
          (some
            (Ex.nrm,
              St.mk
                (frOf
                  [(0, V.c (C.f (F.sl t0 Kind.call x0))), (1, V.c (C.f (F.sc (Value.int IntKind.i64 n)))),
                    (4, V.c (C.f (F.sc (Value.int IntKind.i64 x4)))),
                    (5, V.c (C.f (F.sc (Value.int IntKind.i64 (IntKind.i64.wrap (x5 + 1))))))])
                (hpIds []))))
  (some
    (Ex.ext 0,
      St.mk (frOf [(1, V.c (C.f (F.sc (Value.int IntKind.i64 x1)))), (4, V.c (C.f (F.sc (Value.int IntKind.i64 x4))))])
        (hpIds []))) : Option (Ex × St)) := by kernel_rfl

theorem laws_szTalkS_round5 (n : Nat) (t0 : Bool) (x0 : List Talk) (x1 : Int) (x4 : Int) (x5 : Int) : roundK Try.prog cfg RN n 5 39 5 0 ⟨frOf [(0, .sl t0 .talk x0), (1, .int x1), (4, .int x4), (5, .int x5)], hpIds []⟩ = (br (decide (x5 < (↑x0.length : Int)))
  (qb (idx x0 x5) fun y =>
    qb
      (pres RN 64
        [V.agg
            [C.f (F.sc (Value.int IntKind.i64 y.host)), C.f (F.sc (Value.int IntKind.i64 y.server.step)),
              C.f (F.sc (Value.string y.server.host)), C.f (F.sc (Value.int IntKind.i64 y.server.key)),
              C.f (F.sc (Value.int IntKind.i64 y.server.eph)), C.f (F.sc (Value.int IntKind.i64 y.server.cert.op)),
              C.f (F.sc (Value.int IntKind.i64 y.server.cert.n)), C.f (F.sc (Value.string y.server.cert.s)),
              C.f (F.sl false Kind.term y.server.cert.kids), C.f (F.sc (Value.int IntKind.i64 y.server.share.op)),
              C.f (F.sc (Value.int IntKind.i64 y.server.share.n)), C.f (F.sc (Value.string y.server.share.s)),
              C.f (F.sl false Kind.term y.server.share.kids), C.f (F.sc (Value.int IntKind.i64 y.server.inn)),
              C.f (F.sc (Value.int IntKind.i64 y.server.out)), C.f (F.sc (Value.bool y.server.tls)),
              C.f (F.sl false Kind.int y.server.got)],
          V.c (C.f (F.sc (Value.int IntKind.i64 x1)))])
      fun v =>
      qb (qb (unC v) fun y => fInt y) fun n =>
        br (decide (n < 0))
          (some
            (Ex.ret,
              St.mk
                (frOf
                  [(1, V.c (C.f (F.sc (Value.int IntKind.i64 n)))), (4, V.c (C.f (F.sc (Value.int IntKind.i64 (-1)))))])
                (hpIds [])))
          (some
            (Ex.nrm,
              St.mk
                (frOf
                  [(0, V.c (C.f (F.sl t0 Kind.talk x0))), (1, V.c (C.f (F.sc (Value.int IntKind.i64 n)))),
                    (4, V.c (C.f (F.sc (Value.int IntKind.i64 x4)))),
                    (5, V.c (C.f (F.sc (Value.int IntKind.i64 (IntKind.i64.wrap (x5 + 1))))))])
                (hpIds []))))
  (some
    (Ex.ext 0,
      St.mk (frOf [(1, V.c (C.f (F.sc (Value.int IntKind.i64 x1)))), (4, V.c (C.f (F.sc (Value.int IntKind.i64 x4))))])
        (hpIds []))) : Option (Ex × St)) := by kernel_rfl

theorem laws_toTermS_round3 (n : Nat) (t0 : Bool) (x0 : List Term) (x3 : List Term) (x4 : Int) : roundK Try.prog cfg RN n 5 41 3 0 ⟨frOf [(0, .sl t0 .term x0), (3, .c (.row (.own 3) .term)), (4, .int x4)], hpIds [(.own 3, .row true .term x3)]⟩ = (br (decide (x4 < (↑x0.length : Int)))
  (qb (idx x0 x4) fun y =>
    qb
      (pres RN 65
        [V.agg
            [C.f (F.sc (Value.int IntKind.i64 y.op)), C.f (F.sc (Value.int IntKind.i64 y.n)),
              C.f (F.sc (Value.string y.s)), C.f (F.sl false Kind.term y.kids)]])
      fun v =>
      qb (asEl Kind.term v) fun x =>
        qb (idx x3 x4) fun x_1 =>
          qb x3[x4.toNat]? fun x_2 =>
            some
              (Ex.nrm,
                St.mk
                  (frOf
                    [(0, V.c (C.f (F.sl t0 Kind.term x0))), (3, V.c (C.row (Id.own 3) Kind.term)),
                      (4, V.c (C.f (F.sc (Value.int IntKind.i64 (IntKind.i64.wrap (x4 + 1))))))])
                  (hpIds [(Id.own 3, Obj.row true Kind.term (x3.set x4.toNat (Term.mk x.op x.n x.s x.kids)))])))
  (some
    (Ex.ext 0, St.mk (frOf [(3, V.c (C.row (Id.own 3) Kind.term))]) (hpIds [(Id.own 3, Obj.row true Kind.term x3)]))) : Option (Ex × St)) := by kernel_rfl

theorem laws_toPolicyS_round3 (n : Nat) (t0 : Bool) (x0 : List Policy) (x3 : List Policy) (x4 : Int) : roundK Try.prog cfg RN n 5 42 3 0 ⟨frOf [(0, .sl t0 .policy x0), (3, .c (.row (.own 3) .policy)), (4, .int x4)], hpIds [(.own 3, .row true .policy x3)]⟩ = (br (decide (x4 < (↑x0.length : Int)))
  (qb (idx x0 x4) fun y =>
    qb
      (pres RN 66
        [V.agg
            [C.f (F.sc (Value.string y.domain)), C.f (F.sc (Value.int IntKind.i64 y.mode)),
              C.f (F.sl false Kind.str y.mx), C.f (F.sc (Value.int IntKind.i64 y.til))]])
      fun v =>
      qb (asEl Kind.policy v) fun x =>
        qb (idx x3 x4) fun x_1 =>
          qb x3[x4.toNat]? fun x_2 =>
            some
              (Ex.nrm,
                St.mk
                  (frOf
                    [(0, V.c (C.f (F.sl t0 Kind.policy x0))), (3, V.c (C.row (Id.own 3) Kind.policy)),
                      (4, V.c (C.f (F.sc (Value.int IntKind.i64 (IntKind.i64.wrap (x4 + 1))))))])
                  (hpIds
                    [(Id.own 3, Obj.row true Kind.policy (x3.set x4.toNat (Policy.mk x.domain x.mode x.mx x.til)))])))
  (some
    (Ex.ext 0,
      St.mk (frOf [(3, V.c (C.row (Id.own 3) Kind.policy))]) (hpIds [(Id.own 3, Obj.row true Kind.policy x3)]))) : Option (Ex × St)) := by kernel_rfl

theorem laws_toHostS_round3 (n : Nat) (t0 : Bool) (x0 : List Host) (x3 : List Host) (x4 : Int) : roundK Try.prog cfg RN n 5 43 3 0 ⟨frOf [(0, .sl t0 .host x0), (3, .c (.row (.own 3) .host)), (4, .int x4)], hpIds [(.own 3, .row true .host x3)]⟩ = (br (decide (x4 < (↑x0.length : Int)))
  (qb (idx x0 x4) fun y =>
    qb
      (pres RN 67
        [V.agg
            [C.f (F.sc (Value.string y.name)), C.f (F.sc (Value.int IntKind.i64 y.key)),
              C.f (F.sc (Value.bool y.lost))]])
      fun v =>
      qb (asEl Kind.host v) fun x =>
        qb (idx x3 x4) fun x_1 =>
          qb x3[x4.toNat]? fun x_2 =>
            some
              (Ex.nrm,
                St.mk
                  (frOf
                    [(0, V.c (C.f (F.sl t0 Kind.host x0))), (3, V.c (C.row (Id.own 3) Kind.host)),
                      (4, V.c (C.f (F.sc (Value.int IntKind.i64 (IntKind.i64.wrap (x4 + 1))))))])
                  (hpIds [(Id.own 3, Obj.row true Kind.host (x3.set x4.toNat (Host.mk x.name x.key x.lost)))])))
  (some
    (Ex.ext 0, St.mk (frOf [(3, V.c (C.row (Id.own 3) Kind.host))]) (hpIds [(Id.own 3, Obj.row true Kind.host x3)]))) : Option (Ex × St)) := by kernel_rfl

theorem laws_toLetterS_round3 (n : Nat) (t0 : Bool) (x0 : List Letter) (x3 : List Letter) (x4 : Int) : roundK Try.prog cfg RN n 5 44 3 0 ⟨frOf [(0, .sl t0 .letter x0), (3, .c (.row (.own 3) .letter)), (4, .int x4)], hpIds [(.own 3, .row true .letter x3)]⟩ = (br (decide (x4 < (↑x0.length : Int)))
  (qb (idx x0 x4) fun y =>
    qb
      (pres RN 68
        [V.agg
            [C.f (F.sc (Value.string y.domain)), C.f (F.sc (Value.int IntKind.i64 y.body)),
              C.f (F.sc (Value.int IntKind.i64 y.state)), C.f (F.sc (Value.int IntKind.i64 y.tries)),
              C.f (F.sc (Value.int IntKind.i64 y.next))]])
      fun v =>
      qb (asEl Kind.letter v) fun x =>
        qb (idx x3 x4) fun x_1 =>
          qb x3[x4.toNat]? fun x_2 =>
            some
              (Ex.nrm,
                St.mk
                  (frOf
                    [(0, V.c (C.f (F.sl t0 Kind.letter x0))), (3, V.c (C.row (Id.own 3) Kind.letter)),
                      (4, V.c (C.f (F.sc (Value.int IntKind.i64 (IntKind.i64.wrap (x4 + 1))))))])
                  (hpIds
                    [(Id.own 3,
                        Obj.row true Kind.letter
                          (x3.set x4.toNat (Letter.mk x.domain x.body x.state x.tries x.next)))])))
  (some
    (Ex.ext 0,
      St.mk (frOf [(3, V.c (C.row (Id.own 3) Kind.letter))]) (hpIds [(Id.own 3, Obj.row true Kind.letter x3)]))) : Option (Ex × St)) := by kernel_rfl

theorem laws_toCallS_round3 (n : Nat) (t0 : Bool) (x0 : List CallD) (x3 : List CallD) (x4 : Int) : roundK Try.prog cfg RN n 5 45 3 0 ⟨frOf [(0, .sl t0 .call x0), (3, .c (.row (.own 3) .call)), (4, .int x4)], hpIds [(.own 3, .row true .call x3)]⟩ = (br (decide (x4 < (↑x0.length : Int)))
  (qb (idx x0 x4) fun y =>
    qb
      (pres RN 69
        [V.agg
            [C.f (F.sc (Value.int IntKind.i64 y.letter)), C.f (F.sc (Value.int IntKind.i64 y.client.step)),
              C.f (F.sc (Value.string y.client.host)), C.f (F.sc (Value.bool y.client.must)),
              C.f (F.sc (Value.int IntKind.i64 y.client.eph)), C.f (F.sc (Value.int IntKind.i64 y.client.body)),
              C.f (F.sc (Value.int IntKind.i64 y.client.share.op)), C.f (F.sc (Value.int IntKind.i64 y.client.share.n)),
              C.f (F.sc (Value.string y.client.share.s)), C.f (F.sl false Kind.term y.client.share.kids),
              C.f (F.sc (Value.int IntKind.i64 y.client.inn)), C.f (F.sc (Value.int IntKind.i64 y.client.out)),
              C.f (F.sc (Value.bool y.client.tls)), C.f (F.sc (Value.bool y.client.proved)),
              C.f (F.sc (Value.bool y.good))]])
      fun v =>
      qb (asEl Kind.call v) fun x =>
        qb (idx x3 x4) fun x_1 =>
          qb x3[x4.toNat]? fun x_2 =>
            some
              (Ex.nrm,
                St.mk
                  (frOf
                    [(0, V.c (C.f (F.sl t0 Kind.call x0))), (3, V.c (C.row (Id.own 3) Kind.call)),
                      (4, V.c (C.f (F.sc (Value.int IntKind.i64 (IntKind.i64.wrap (x4 + 1))))))])
                  (hpIds
                    [(Id.own 3,
                        Obj.row true Kind.call
                          (x3.set x4.toNat
                            (CallD.mk x.letter
                              (Client.mk x.client.step x.client.host x.client.must x.client.eph x.client.body
                                (Term.mk x.client.share.op x.client.share.n x.client.share.s x.client.share.kids)
                                x.client.inn x.client.out x.client.tls x.client.proved)
                              x.good)))])))
  (some
    (Ex.ext 0, St.mk (frOf [(3, V.c (C.row (Id.own 3) Kind.call))]) (hpIds [(Id.own 3, Obj.row true Kind.call x3)]))) : Option (Ex × St)) := by kernel_rfl

theorem laws_toTalkS_round3 (n : Nat) (t0 : Bool) (x0 : List Talk) (x3 : List Talk) (x4 : Int) : roundK Try.prog cfg RN n 5 46 3 0 ⟨frOf [(0, .sl t0 .talk x0), (3, .c (.row (.own 3) .talk)), (4, .int x4)], hpIds [(.own 3, .row true .talk x3)]⟩ = (br (decide (x4 < (↑x0.length : Int)))
  (qb (idx x0 x4) fun y =>
    qb
      (pres RN 70
        [V.agg
            [C.f (F.sc (Value.int IntKind.i64 y.host)), C.f (F.sc (Value.int IntKind.i64 y.server.step)),
              C.f (F.sc (Value.string y.server.host)), C.f (F.sc (Value.int IntKind.i64 y.server.key)),
              C.f (F.sc (Value.int IntKind.i64 y.server.eph)), C.f (F.sc (Value.int IntKind.i64 y.server.cert.op)),
              C.f (F.sc (Value.int IntKind.i64 y.server.cert.n)), C.f (F.sc (Value.string y.server.cert.s)),
              C.f (F.sl false Kind.term y.server.cert.kids), C.f (F.sc (Value.int IntKind.i64 y.server.share.op)),
              C.f (F.sc (Value.int IntKind.i64 y.server.share.n)), C.f (F.sc (Value.string y.server.share.s)),
              C.f (F.sl false Kind.term y.server.share.kids), C.f (F.sc (Value.int IntKind.i64 y.server.inn)),
              C.f (F.sc (Value.int IntKind.i64 y.server.out)), C.f (F.sc (Value.bool y.server.tls)),
              C.f (F.sl false Kind.int y.server.got)]])
      fun v =>
      qb (asEl Kind.talk v) fun x =>
        qb (idx x3 x4) fun x_1 =>
          qb x3[x4.toNat]? fun x_2 =>
            some
              (Ex.nrm,
                St.mk
                  (frOf
                    [(0, V.c (C.f (F.sl t0 Kind.talk x0))), (3, V.c (C.row (Id.own 3) Kind.talk)),
                      (4, V.c (C.f (F.sc (Value.int IntKind.i64 (IntKind.i64.wrap (x4 + 1))))))])
                  (hpIds
                    [(Id.own 3,
                        Obj.row true Kind.talk
                          (x3.set x4.toNat
                            (Talk.mk x.host
                              (Server.mk x.server.step x.server.host x.server.key x.server.eph
                                (Term.mk x.server.cert.op x.server.cert.n x.server.cert.s x.server.cert.kids)
                                (Term.mk x.server.share.op x.server.share.n x.server.share.s x.server.share.kids)
                                x.server.inn x.server.out x.server.tls x.server.got))))])))
  (some
    (Ex.ext 0, St.mk (frOf [(3, V.c (C.row (Id.own 3) Kind.talk))]) (hpIds [(Id.own 3, Obj.row true Kind.talk x3)]))) : Option (Ex × St)) := by kernel_rfl

theorem laws_toIntS_round3 (n : Nat) (t0 : Bool) (x0 : List (El .int)) (x3 : List (El .int)) (x4 : Int) : roundK Try.prog cfg RN n 5 47 3 0 ⟨frOf [(0, .sl t0 .int x0), (3, .c (.row (.own 3) .int)), (4, .int x4)], hpIds [(.own 3, .row true .int x3)]⟩ = (br (decide (x4 < (↑x0.length : Int)))
  (qb (idx x0 x4) fun y =>
    qb (idx x3 x4) fun x =>
      qb x3[x4.toNat]? fun x =>
        some
          (Ex.nrm,
            St.mk
              (frOf
                [(0, V.c (C.f (F.sl t0 Kind.int x0))), (3, V.c (C.row (Id.own 3) Kind.int)),
                  (4, V.c (C.f (F.sc (Value.int IntKind.i64 (IntKind.i64.wrap (x4 + 1))))))])
              (hpIds [(Id.own 3, Obj.row true Kind.int (x3.set x4.toNat y))])))
  (some (Ex.ext 0, St.mk (frOf [(3, V.c (C.row (Id.own 3) Kind.int))]) (hpIds [(Id.own 3, Obj.row true Kind.int x3)]))) : Option (Ex × St)) := by kernel_rfl

theorem laws_eqTermS_round4 (n : Nat) (t0 : Bool) (x0 : List Term) (t1 : Bool) (x1 : List Term) (x4 : Bool) (x5 : Int) : roundK Try.prog cfg RN n 5 50 4 0 ⟨frOf [(0, .sl t0 .term x0), (1, .sl t1 .term x1), (4, .bool x4), (5, .int x5)], hpIds []⟩ = (br (decide (x5 < (↑x0.length : Int)))
  (qb (idx x0 x5) fun y =>
    qb (idx x1 x5) fun y_1 =>
      qb
        (pres RN 71
          [V.agg
              [C.f (F.sc (Value.int IntKind.i64 y.op)), C.f (F.sc (Value.int IntKind.i64 y.n)),
                C.f (F.sc (Value.string y.s)), C.f (F.sl false Kind.term y.kids)],
            V.agg
              [C.f (F.sc (Value.int IntKind.i64 y_1.op)), C.f (F.sc (Value.int IntKind.i64 y_1.n)),
                C.f (F.sc (Value.string y_1.s)), C.f (F.sl false Kind.term y_1.kids)]])
        fun v =>
        qb (qb (unC v) fun y => fBool y) fun b =>
          br (!b) (some (Ex.ret, St.mk (frOf [(4, V.c (C.f (F.sc (Value.bool false))))]) (hpIds [])))
            (some
              (Ex.nrm,
                St.mk
                  (frOf
                    [(0, V.c (C.f (F.sl t0 Kind.term x0))), (1, V.c (C.f (F.sl t1 Kind.term x1))),
                      (4, V.c (C.f (F.sc (Value.bool x4)))),
                      (5, V.c (C.f (F.sc (Value.int IntKind.i64 (IntKind.i64.wrap (x5 + 1))))))])
                  (hpIds []))))
  (some (Ex.ext 0, St.mk (frOf [(4, V.c (C.f (F.sc (Value.bool x4))))]) (hpIds []))) : Option (Ex × St)) := by kernel_rfl

theorem laws_eqPolicyS_round4 (n : Nat) (t0 : Bool) (x0 : List Policy) (t1 : Bool) (x1 : List Policy) (x4 : Bool) (x5 : Int) : roundK Try.prog cfg RN n 5 51 4 0 ⟨frOf [(0, .sl t0 .policy x0), (1, .sl t1 .policy x1), (4, .bool x4), (5, .int x5)], hpIds []⟩ = (br (decide (x5 < (↑x0.length : Int)))
  (qb (idx x0 x5) fun y =>
    qb (idx x1 x5) fun y_1 =>
      qb
        (pres RN 72
          [V.agg
              [C.f (F.sc (Value.string y.domain)), C.f (F.sc (Value.int IntKind.i64 y.mode)),
                C.f (F.sl false Kind.str y.mx), C.f (F.sc (Value.int IntKind.i64 y.til))],
            V.agg
              [C.f (F.sc (Value.string y_1.domain)), C.f (F.sc (Value.int IntKind.i64 y_1.mode)),
                C.f (F.sl false Kind.str y_1.mx), C.f (F.sc (Value.int IntKind.i64 y_1.til))]])
        fun v =>
        qb (qb (unC v) fun y => fBool y) fun b =>
          br (!b) (some (Ex.ret, St.mk (frOf [(4, V.c (C.f (F.sc (Value.bool false))))]) (hpIds [])))
            (some
              (Ex.nrm,
                St.mk
                  (frOf
                    [(0, V.c (C.f (F.sl t0 Kind.policy x0))), (1, V.c (C.f (F.sl t1 Kind.policy x1))),
                      (4, V.c (C.f (F.sc (Value.bool x4)))),
                      (5, V.c (C.f (F.sc (Value.int IntKind.i64 (IntKind.i64.wrap (x5 + 1))))))])
                  (hpIds []))))
  (some (Ex.ext 0, St.mk (frOf [(4, V.c (C.f (F.sc (Value.bool x4))))]) (hpIds []))) : Option (Ex × St)) := by kernel_rfl

theorem laws_eqHostS_round4 (n : Nat) (t0 : Bool) (x0 : List Host) (t1 : Bool) (x1 : List Host) (x4 : Bool) (x5 : Int) : roundK Try.prog cfg RN n 5 52 4 0 ⟨frOf [(0, .sl t0 .host x0), (1, .sl t1 .host x1), (4, .bool x4), (5, .int x5)], hpIds []⟩ = (br (decide (x5 < (↑x0.length : Int)))
  (qb (idx x0 x5) fun y =>
    qb (idx x1 x5) fun y_1 =>
      qb
        (pres RN 73
          [V.agg
              [C.f (F.sc (Value.string y.name)), C.f (F.sc (Value.int IntKind.i64 y.key)),
                C.f (F.sc (Value.bool y.lost))],
            V.agg
              [C.f (F.sc (Value.string y_1.name)), C.f (F.sc (Value.int IntKind.i64 y_1.key)),
                C.f (F.sc (Value.bool y_1.lost))]])
        fun v =>
        qb (qb (unC v) fun y => fBool y) fun b =>
          br (!b) (some (Ex.ret, St.mk (frOf [(4, V.c (C.f (F.sc (Value.bool false))))]) (hpIds [])))
            (some
              (Ex.nrm,
                St.mk
                  (frOf
                    [(0, V.c (C.f (F.sl t0 Kind.host x0))), (1, V.c (C.f (F.sl t1 Kind.host x1))),
                      (4, V.c (C.f (F.sc (Value.bool x4)))),
                      (5, V.c (C.f (F.sc (Value.int IntKind.i64 (IntKind.i64.wrap (x5 + 1))))))])
                  (hpIds []))))
  (some (Ex.ext 0, St.mk (frOf [(4, V.c (C.f (F.sc (Value.bool x4))))]) (hpIds []))) : Option (Ex × St)) := by kernel_rfl

theorem laws_eqLetterS_round4 (n : Nat) (t0 : Bool) (x0 : List Letter) (t1 : Bool) (x1 : List Letter) (x4 : Bool) (x5 : Int) : roundK Try.prog cfg RN n 5 53 4 0 ⟨frOf [(0, .sl t0 .letter x0), (1, .sl t1 .letter x1), (4, .bool x4), (5, .int x5)], hpIds []⟩ = (br (decide (x5 < (↑x0.length : Int)))
  (qb (idx x0 x5) fun y =>
    qb (idx x1 x5) fun y_1 =>
      qb
        (pres RN 74
          [V.agg
              [C.f (F.sc (Value.string y.domain)), C.f (F.sc (Value.int IntKind.i64 y.body)),
                C.f (F.sc (Value.int IntKind.i64 y.state)), C.f (F.sc (Value.int IntKind.i64 y.tries)),
                C.f (F.sc (Value.int IntKind.i64 y.next))],
            V.agg
              [C.f (F.sc (Value.string y_1.domain)), C.f (F.sc (Value.int IntKind.i64 y_1.body)),
                C.f (F.sc (Value.int IntKind.i64 y_1.state)), C.f (F.sc (Value.int IntKind.i64 y_1.tries)),
                C.f (F.sc (Value.int IntKind.i64 y_1.next))]])
        fun v =>
        qb (qb (unC v) fun y => fBool y) fun b =>
          br (!b) (some (Ex.ret, St.mk (frOf [(4, V.c (C.f (F.sc (Value.bool false))))]) (hpIds [])))
            (some
              (Ex.nrm,
                St.mk
                  (frOf
                    [(0, V.c (C.f (F.sl t0 Kind.letter x0))), (1, V.c (C.f (F.sl t1 Kind.letter x1))),
                      (4, V.c (C.f (F.sc (Value.bool x4)))),
                      (5, V.c (C.f (F.sc (Value.int IntKind.i64 (IntKind.i64.wrap (x5 + 1))))))])
                  (hpIds []))))
  (some (Ex.ext 0, St.mk (frOf [(4, V.c (C.f (F.sc (Value.bool x4))))]) (hpIds []))) : Option (Ex × St)) := by kernel_rfl

theorem laws_eqCallS_round4 (n : Nat) (t0 : Bool) (x0 : List CallD) (t1 : Bool) (x1 : List CallD) (x4 : Bool) (x5 : Int) : roundK Try.prog cfg RN n 5 54 4 0 ⟨frOf [(0, .sl t0 .call x0), (1, .sl t1 .call x1), (4, .bool x4), (5, .int x5)], hpIds []⟩ = (br (decide (x5 < (↑x0.length : Int)))
  (qb (idx x0 x5) fun y =>
    qb (idx x1 x5) fun y_1 =>
      qb
        (pres RN 75
          [V.agg
              [C.f (F.sc (Value.int IntKind.i64 y.letter)), C.f (F.sc (Value.int IntKind.i64 y.client.step)),
                C.f (F.sc (Value.string y.client.host)), C.f (F.sc (Value.bool y.client.must)),
                C.f (F.sc (Value.int IntKind.i64 y.client.eph)), C.f (F.sc (Value.int IntKind.i64 y.client.body)),
                C.f (F.sc (Value.int IntKind.i64 y.client.share.op)),
                C.f (F.sc (Value.int IntKind.i64 y.client.share.n)), C.f (F.sc (Value.string y.client.share.s)),
                C.f (F.sl false Kind.term y.client.share.kids), C.f (F.sc (Value.int IntKind.i64 y.client.inn)),
                C.f (F.sc (Value.int IntKind.i64 y.client.out)), C.f (F.sc (Value.bool y.client.tls)),
                C.f (F.sc (Value.bool y.client.proved)), C.f (F.sc (Value.bool y.good))],
            V.agg
              [C.f (F.sc (Value.int IntKind.i64 y_1.letter)), C.f (F.sc (Value.int IntKind.i64 y_1.client.step)),
                C.f (F.sc (Value.string y_1.client.host)), C.f (F.sc (Value.bool y_1.client.must)),
                C.f (F.sc (Value.int IntKind.i64 y_1.client.eph)), C.f (F.sc (Value.int IntKind.i64 y_1.client.body)),
                C.f (F.sc (Value.int IntKind.i64 y_1.client.share.op)),
                C.f (F.sc (Value.int IntKind.i64 y_1.client.share.n)), C.f (F.sc (Value.string y_1.client.share.s)),
                C.f (F.sl false Kind.term y_1.client.share.kids), C.f (F.sc (Value.int IntKind.i64 y_1.client.inn)),
                C.f (F.sc (Value.int IntKind.i64 y_1.client.out)), C.f (F.sc (Value.bool y_1.client.tls)),
                C.f (F.sc (Value.bool y_1.client.proved)), C.f (F.sc (Value.bool y_1.good))]])
        fun v =>
        qb (qb (unC v) fun y => fBool y) fun b =>
          br (!b) (some (Ex.ret, St.mk (frOf [(4, V.c (C.f (F.sc (Value.bool false))))]) (hpIds [])))
            (some
              (Ex.nrm,
                St.mk
                  (frOf
                    [(0, V.c (C.f (F.sl t0 Kind.call x0))), (1, V.c (C.f (F.sl t1 Kind.call x1))),
                      (4, V.c (C.f (F.sc (Value.bool x4)))),
                      (5, V.c (C.f (F.sc (Value.int IntKind.i64 (IntKind.i64.wrap (x5 + 1))))))])
                  (hpIds []))))
  (some (Ex.ext 0, St.mk (frOf [(4, V.c (C.f (F.sc (Value.bool x4))))]) (hpIds []))) : Option (Ex × St)) := by kernel_rfl

theorem laws_eqTalkS_round4 (n : Nat) (t0 : Bool) (x0 : List Talk) (t1 : Bool) (x1 : List Talk) (x4 : Bool) (x5 : Int) : roundK Try.prog cfg RN n 5 55 4 0 ⟨frOf [(0, .sl t0 .talk x0), (1, .sl t1 .talk x1), (4, .bool x4), (5, .int x5)], hpIds []⟩ = (br (decide (x5 < (↑x0.length : Int)))
  (qb (idx x0 x5) fun y =>
    qb (idx x1 x5) fun y_1 =>
      qb
        (pres RN 76
          [V.agg
              [C.f (F.sc (Value.int IntKind.i64 y.host)), C.f (F.sc (Value.int IntKind.i64 y.server.step)),
                C.f (F.sc (Value.string y.server.host)), C.f (F.sc (Value.int IntKind.i64 y.server.key)),
                C.f (F.sc (Value.int IntKind.i64 y.server.eph)), C.f (F.sc (Value.int IntKind.i64 y.server.cert.op)),
                C.f (F.sc (Value.int IntKind.i64 y.server.cert.n)), C.f (F.sc (Value.string y.server.cert.s)),
                C.f (F.sl false Kind.term y.server.cert.kids), C.f (F.sc (Value.int IntKind.i64 y.server.share.op)),
                C.f (F.sc (Value.int IntKind.i64 y.server.share.n)), C.f (F.sc (Value.string y.server.share.s)),
                C.f (F.sl false Kind.term y.server.share.kids), C.f (F.sc (Value.int IntKind.i64 y.server.inn)),
                C.f (F.sc (Value.int IntKind.i64 y.server.out)), C.f (F.sc (Value.bool y.server.tls)),
                C.f (F.sl false Kind.int y.server.got)],
            V.agg
              [C.f (F.sc (Value.int IntKind.i64 y_1.host)), C.f (F.sc (Value.int IntKind.i64 y_1.server.step)),
                C.f (F.sc (Value.string y_1.server.host)), C.f (F.sc (Value.int IntKind.i64 y_1.server.key)),
                C.f (F.sc (Value.int IntKind.i64 y_1.server.eph)),
                C.f (F.sc (Value.int IntKind.i64 y_1.server.cert.op)),
                C.f (F.sc (Value.int IntKind.i64 y_1.server.cert.n)), C.f (F.sc (Value.string y_1.server.cert.s)),
                C.f (F.sl false Kind.term y_1.server.cert.kids), C.f (F.sc (Value.int IntKind.i64 y_1.server.share.op)),
                C.f (F.sc (Value.int IntKind.i64 y_1.server.share.n)), C.f (F.sc (Value.string y_1.server.share.s)),
                C.f (F.sl false Kind.term y_1.server.share.kids), C.f (F.sc (Value.int IntKind.i64 y_1.server.inn)),
                C.f (F.sc (Value.int IntKind.i64 y_1.server.out)), C.f (F.sc (Value.bool y_1.server.tls)),
                C.f (F.sl false Kind.int y_1.server.got)]])
        fun v =>
        qb (qb (unC v) fun y => fBool y) fun b =>
          br (!b) (some (Ex.ret, St.mk (frOf [(4, V.c (C.f (F.sc (Value.bool false))))]) (hpIds [])))
            (some
              (Ex.nrm,
                St.mk
                  (frOf
                    [(0, V.c (C.f (F.sl t0 Kind.talk x0))), (1, V.c (C.f (F.sl t1 Kind.talk x1))),
                      (4, V.c (C.f (F.sc (Value.bool x4)))),
                      (5, V.c (C.f (F.sc (Value.int IntKind.i64 (IntKind.i64.wrap (x5 + 1))))))])
                  (hpIds []))))
  (some (Ex.ext 0, St.mk (frOf [(4, V.c (C.f (F.sc (Value.bool x4))))]) (hpIds []))) : Option (Ex × St)) := by kernel_rfl

theorem laws_eqIntS_round4 (n : Nat) (t0 : Bool) (x0 : List (El .int)) (t1 : Bool) (x1 : List (El .int)) (x4 : Bool) (x5 : Int) : roundK Try.prog cfg RN n 5 56 4 0 ⟨frOf [(0, .sl t0 .int x0), (1, .sl t1 .int x1), (4, .bool x4), (5, .int x5)], hpIds []⟩ = (br (decide (x5 < (↑x0.length : Int)))
  (qb (idx x0 x5) fun y =>
    qb (idx x1 x5) fun y_1 =>
      br (y != y_1) (some (Ex.ret, St.mk (frOf [(4, V.c (C.f (F.sc (Value.bool false))))]) (hpIds [])))
        (some
          (Ex.nrm,
            St.mk
              (frOf
                [(0, V.c (C.f (F.sl t0 Kind.int x0))), (1, V.c (C.f (F.sl t1 Kind.int x1))),
                  (4, V.c (C.f (F.sc (Value.bool x4)))),
                  (5, V.c (C.f (F.sc (Value.int IntKind.i64 (IntKind.i64.wrap (x5 + 1))))))])
              (hpIds []))))
  (some (Ex.ext 0, St.mk (frOf [(4, V.c (C.f (F.sc (Value.bool x4))))]) (hpIds []))) : Option (Ex × St)) := by kernel_rfl

theorem laws_szStringS_round5 (n : Nat) (t0 : Bool) (x0 : List ByteArray) (x1 : Int) (x4 : Int) (x5 : Int) : roundK Try.prog cfg RN n 5 79 5 0 ⟨frOf [(0, .sl t0 .str x0), (1, .int x1), (4, .int x4), (5, .int x5)], hpIds []⟩ = (br (decide (x5 < (↑x0.length : Int)))
  (qb (idx x0 x5) fun y =>
    br (decide (IntKind.i64.wrap (x1 - (↑(ByteArray.size y) : Int)) < 0))
      (some
        (Ex.ret,
          St.mk
            (frOf
              [(1, V.c (C.f (F.sc (Value.int IntKind.i64 (IntKind.i64.wrap (x1 - (↑(ByteArray.size y) : Int))))))),
                (4, V.c (C.f (F.sc (Value.int IntKind.i64 (-1)))))])
            (hpIds [])))
      (some
        (Ex.nrm,
          St.mk
            (frOf
              [(0, V.c (C.f (F.sl t0 Kind.str x0))),
                (1, V.c (C.f (F.sc (Value.int IntKind.i64 (IntKind.i64.wrap (x1 - (↑(ByteArray.size y) : Int))))))),
                (4, V.c (C.f (F.sc (Value.int IntKind.i64 x4)))),
                (5, V.c (C.f (F.sc (Value.int IntKind.i64 (IntKind.i64.wrap (x5 + 1))))))])
            (hpIds []))))
  (some
    (Ex.ext 0,
      St.mk (frOf [(1, V.c (C.f (F.sc (Value.int IntKind.i64 x1)))), (4, V.c (C.f (F.sc (Value.int IntKind.i64 x4))))])
        (hpIds []))) : Option (Ex × St)) := by kernel_rfl

theorem laws_toStringS_round3 (n : Nat) (t0 : Bool) (x0 : List ByteArray) (x3 : List ByteArray) (x4 : Int) : roundK Try.prog cfg RN n 5 82 3 0 ⟨frOf [(0, .sl t0 .str x0), (3, .c (.row (.own 3) .str)), (4, .int x4)], hpIds [(.own 3, .row true .str x3)]⟩ = (br (decide (x4 < (↑x0.length : Int)))
  (qb (idx x0 x4) fun y =>
    qb (idx x3 x4) fun x =>
      qb x3[x4.toNat]? fun x =>
        some
          (Ex.nrm,
            St.mk
              (frOf
                [(0, V.c (C.f (F.sl t0 Kind.str x0))), (3, V.c (C.row (Id.own 3) Kind.str)),
                  (4, V.c (C.f (F.sc (Value.int IntKind.i64 (IntKind.i64.wrap (x4 + 1))))))])
              (hpIds [(Id.own 3, Obj.row true Kind.str (x3.set x4.toNat y))])))
  (some (Ex.ext 0, St.mk (frOf [(3, V.c (C.row (Id.own 3) Kind.str))]) (hpIds [(Id.own 3, Obj.row true Kind.str x3)]))) : Option (Ex × St)) := by kernel_rfl

theorem laws_eqStringS_round4 (n : Nat) (t0 : Bool) (x0 : List ByteArray) (t1 : Bool) (x1 : List ByteArray) (x4 : Bool) (x5 : Int) : roundK Try.prog cfg RN n 5 85 4 0 ⟨frOf [(0, .sl t0 .str x0), (1, .sl t1 .str x1), (4, .bool x4), (5, .int x5)], hpIds []⟩ = (br (decide (x5 < (↑x0.length : Int)))
  (qb (idx x0 x5) fun y =>
    qb (idx x1 x5) fun y_1 =>
      br (!ByteArray.toList y == ByteArray.toList y_1)
        (some (Ex.ret, St.mk (frOf [(4, V.c (C.f (F.sc (Value.bool false))))]) (hpIds [])))
        (some
          (Ex.nrm,
            St.mk
              (frOf
                [(0, V.c (C.f (F.sl t0 Kind.str x0))), (1, V.c (C.f (F.sl t1 Kind.str x1))),
                  (4, V.c (C.f (F.sc (Value.bool x4)))),
                  (5, V.c (C.f (F.sc (Value.int IntKind.i64 (IntKind.i64.wrap (x5 + 1))))))])
              (hpIds []))))
  (some (Ex.ext 0, St.mk (frOf [(4, V.c (C.f (F.sc (Value.bool x4))))]) (hpIds []))) : Option (Ex × St)) := by kernel_rfl

theorem slices_IndexFunc_impl_Host_impl_Host_round2_4 (n : Nat) (t0 : Bool) (x0 : List Host) (x4 : Int) (x7 : Int) (x8 : Int) (z0 : ByteArray) : roundK Try.prog cfg RN n 4 48 2 1 ⟨frOf [(0, .sl t0 .host x0), (1, .c (.fn 49 [.bx (.arg 0) 0])), (4, .int x4), (7, .int x7), (8, .int x8)], hpIds [(.arg 0, .box [.f (.str z0)])]⟩ = (br (decide (x8 < x7))
  (qb (idx x0 x8) fun y =>
    br (y.name.toList == z0.toList)
      (some
        (Ex.ret,
          St.mk (frOf [(4, V.c (C.f (F.sc (Value.int IntKind.i64 x8))))])
            (hpIds [(Id.arg 0, Obj.box [C.f (F.sc (Value.string z0))])])))
      (some
        (Ex.nrm,
          St.mk
            (frOf
              [(0, V.c (C.f (F.sl t0 Kind.host x0))), (1, V.c (C.fn 49 [C.bx (Id.arg 0) 0])),
                (4, V.c (C.f (F.sc (Value.int IntKind.i64 x4)))), (7, V.c (C.f (F.sc (Value.int IntKind.i64 x7)))),
                (8, V.c (C.f (F.sc (Value.int IntKind.i64 (IntKind.i64.wrap (x8 + 1))))))])
            (hpIds [(Id.arg 0, Obj.box [C.f (F.sc (Value.string z0))])]))))
  (some
    (Ex.ext 0,
      St.mk (frOf [(4, V.c (C.f (F.sc (Value.int IntKind.i64 x4))))])
        (hpIds [(Id.arg 0, Obj.box [C.f (F.sc (Value.string z0))])]))) : Option (Ex × St)) := by kernel_rfl

end Go.Proofs.Ytepghohkfnmhmaa
