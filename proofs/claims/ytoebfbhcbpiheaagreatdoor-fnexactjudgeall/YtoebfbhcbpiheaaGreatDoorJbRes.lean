/-
  What each function comes to, over what the others answer, as plain data.
-/
import Derived.Test.YtoebfbhcbpiheaaGreatDoorJbResD
namespace Go.Proofs.YtoebfbhcbpiheaaGreatDoor
open Go.Vm
set_option linter.unusedVariables false

noncomputable def laws_FnExactJudgeBook_R (n : Nat) (a0 : WorldD) : Option (V × List Vm.Obj × List Vm.Obj) := qb (laws_szWorld_T a0 1048576) fun x => br (decide (x < 0)) (some (V.c (C.f (F.sc (Value.bool true))), [], [])) (qb (laws_toWorld_T a0) fun x => qb (spec_JudgeBook_T x) fun x => qb (laws_toWorld_T a0) fun x_1 => qb (impl_JudgeBook_T x_1) fun x_2 => br (!x_2 == x) (some (V.c (C.f (F.sc (Value.bool false))), [], [])) (qb (laws_toWorld_T a0) fun x => qb (laws_eqWorld_T x_1 x) fun x => br (!x) (some (V.c (C.f (F.sc (Value.bool false))), [], [])) (some (V.c (C.f (F.sc (Value.bool true))), [], []))))

theorem laws_FnExactJudgeBook_res (n : Nat) (a0 : WorldD) : resid Tryz.prog cfg RN n 9 [.ag (WorldD.cells a0)] [] = laws_FnExactJudgeBook_R n a0 := by kernel_rfl

noncomputable def laws_FnExactJudgeAll_R (n : Nat) (a0 : WorldD) : Option (V × List Vm.Obj × List Vm.Obj) := qb (laws_szWorld_T a0 1048576) fun x => br (decide (x < 0)) (some (V.c (C.f (F.sc (Value.bool true))), [], [])) (qb (laws_toWorld_T a0) fun x => qb (spec_JudgeAll_T x) fun x => qb (laws_toWorld_T a0) fun x_1 => qb (impl_JudgeAll_T x_1) fun x_2 => br (!x_2 == x) (some (V.c (C.f (F.sc (Value.bool false))), [], [])) (qb (laws_toWorld_T a0) fun x => qb (laws_eqWorld_T x_1 x) fun x => br (!x) (some (V.c (C.f (F.sc (Value.bool false))), [], [])) (some (V.c (C.f (F.sc (Value.bool true))), [], []))))

theorem laws_FnExactJudgeAll_res (n : Nat) (a0 : WorldD) : resid Tryz.prog cfg RN n 10 [.ag (WorldD.cells a0)] [] = laws_FnExactJudgeAll_R n a0 := by kernel_rfl

noncomputable def laws_eqServer_R (n : Nat) (a0 : Server) (a1 : Server) : Option Bool := br (a0.step != a1.step) (some false) (br (!a0.host.toList == a1.host.toList) (some false) (br (a0.key != a1.key) (some false) (br (a0.eph != a1.eph) (some false) (qb (laws_eqTerm_T a0.cert a1.cert) fun x => br (!x) (some false) (qb (laws_eqTerm_T a0.share a1.share) fun x => br (!x) (some false) (br (a0.inn != a1.inn) (some false) (br (a0.out != a1.out) (some false) (br (!a0.tls == a1.tls) (some false) (qb (laws_eqIntS_T a0.got a1.got) fun x => br (!x) (some false) (some true))))))))))

theorem laws_eqServer_res (n : Nat) (a0 : Server) (a1 : Server) : residT Tryz.prog cfg RN n 13 [.ag (Server.cells a0), .ag (Server.cells a1)] (.bool) = laws_eqServer_R n a0 a1 := by kernel_rfl

theorem laws_eqServer_of (n : Nat) (a0 : Server) (a1 : Server) {y} (h : laws_eqServer_R n a0 a1 = some y) : laws_eqServer_T a0 a1 = some y := presT_of (((laws_eqServer_res n a0 a1)).trans h)

noncomputable def laws_szWorld_R (n : Nat) (a0 : WorldD) (a1 : Int) : Option Int := qb (laws_szTermS_T a0.known a1) fun x => br (decide (x < 0)) (some (-1)) (qb (laws_szPolicyS_T a0.cache x) fun x => br (decide (x < 0)) (some (-1)) (qb (laws_szHostS_T a0.hosts x) fun x => br (decide (x < 0)) (some (-1)) (qb (laws_szLetterS_T a0.letters x) fun x => br (decide (x < 0)) (some (-1)) (br (decide (IntKind.i64.wrap (x - (↑a0.book.size : Int)) < 0)) (some (-1)) (qb (laws_szCallS_T a0.calls (IntKind.i64.wrap (x - (↑a0.book.size : Int)))) fun x => br (decide (x < 0)) (some (-1)) (qb (laws_szTalkS_T a0.talks x) fun x => br (decide (x < 0)) (some (-1)) (qb (laws_szIntS_T a0.told x) fun x => br (decide (x < 0)) (some (-1)) (some x))))))))

theorem laws_szWorld_res (n : Nat) (a0 : WorldD) (a1 : Int) : residT Tryz.prog cfg RN n 16 [.ag (WorldD.cells a0), .int a1] (.int) = laws_szWorld_R n a0 a1 := by kernel_rfl

theorem laws_szWorld_of (n : Nat) (a0 : WorldD) (a1 : Int) {y} (h : laws_szWorld_R n a0 a1 = some y) : laws_szWorld_T a0 a1 = some y := presT_of (((laws_szWorld_res n a0 a1)).trans h)

noncomputable def spec_WorldOk_R (n : Nat) (a0 : WorldD) : Option Bool := qb (spec_l1In_T a0.time 0 100000) fun x => br (!x) (some false) (qb (spec_l1In_T a0.fresh 1000 999990) fun x => br (!x) (some false) (br (decide ((↑a0.known.length : Int) > 300)) (some false) (qb (spec_CacheOk_T a0.cache) fun x => br (!x) (some false) (qb (spec_l13Hosts_T a0.hosts) fun x => br (!x) (some false) (br (decide ((↑a0.letters.length : Int) > 30)) (some false) (br (decide ((↑a0.book.size : Int) > 12000)) (some false) (qb (spec_l1In_T a0.sure 0 (↑a0.book.size : Int)) fun x => br (!x) (some false) (qb (spec_WorldOk_L4 n n false 0 a0) fun x => br (isRetE x.fst) (some x.snd.fst.snd.fst) (br (isExt 0 x.fst) (qb (spec_WorldOk_L9 n n x.snd.fst.snd.fst 0 x.snd.snd.fst) fun x => br (isRetE x.fst) (some x.snd.fst.snd.fst) (br (isExt 2 x.fst) (qb (spec_WorldOk_L14 n n x.snd.fst.snd.fst 0 x.snd.snd.fst) fun x => br (isRetE x.fst) (some x.snd.fst.snd.fst) (br (isExt 4 x.fst) (qb (spec_l13Open_T x.snd.snd.fst) fun x => some x) none)) none)) none)))))))))

theorem spec_WorldOk_res (n : Nat) (a0 : WorldD) : residT Tryz.prog cfg RN n 17 [.ag (WorldD.cells a0)] (.bool) = spec_WorldOk_R n a0 := by kernel_rfl

theorem spec_WorldOk_of (n : Nat) (a0 : WorldD) {y} (h : spec_WorldOk_R n a0 = some y) : spec_WorldOk_T a0 = some y := presT_of (((spec_WorldOk_res n a0)).trans h)

noncomputable def laws_toWorld_R (n : Nat) (a0 : WorldD) : Option WorldD := qb (laws_toTermS_T a0.known) fun x => qb (laws_toPolicyS_T a0.cache) fun x_1 => qb (laws_toHostS_T a0.hosts) fun x_2 => qb (laws_toLetterS_T a0.letters) fun x_3 => qb (laws_toCallS_T a0.calls) fun x_4 => qb (laws_toTalkS_T a0.talks) fun x_5 => qb (laws_toIntS_T a0.told) fun x_6 => some (WorldD.mk a0.time a0.fresh x x_1 x_2 x_3 a0.book a0.sure x_4 x_5 x_6)

theorem laws_toWorld_res (n : Nat) (a0 : WorldD) : residT Tryz.prog cfg RN n 18 [.ag (WorldD.cells a0)] (.world) = laws_toWorld_R n a0 := by kernel_rfl

theorem laws_toWorld_of (n : Nat) (a0 : WorldD) {y} (h : laws_toWorld_R n a0 = some y) : laws_toWorld_T a0 = some y := presT_of (((laws_toWorld_res n a0)).trans h)

noncomputable def impl_WorldOk_R (n : Nat) (a0 : WorldD) : Option Bool := qb (impl_isTime_T a0.time) fun x => br (!x) (some false) (qb (impl_in_T a0.fresh 1000 999990) fun x => br (!x) (some false) (br (decide ((↑a0.known.length : Int) > 300)) (some false) (qb (slices_ContainsFunc_impl_Term_impl_Term_T a0.known (V.c (C.fn 76 []))) fun x => br x (some false) (qb (impl_CacheOk_T a0.cache) fun x => br (!x) (some false) (qb (impl_hostsOk_T a0.hosts) fun x => br (!x) (some false) (br (decide ((↑a0.letters.length : Int) > 30)) (some false) (qb (slices_ContainsFunc_impl_Letter_impl_Letter_T a0.letters (V.c (C.fn 81 []))) fun x => br x (some false) (br (decide ((↑a0.book.size : Int) ≤ 12000)) (qb (impl_in_T a0.sure 0 (↑a0.book.size : Int)) fun x => br x (qb (impl_linesOk_T a0) fun x => br x (qb (impl_toldOk_T a0.told) fun x => some x) (some false)) (some false)) (some false)))))))))

theorem impl_WorldOk_res (n : Nat) (a0 : WorldD) : residT Tryz.prog cfg RN n 19 [.ag (WorldD.cells a0)] (.bool) = impl_WorldOk_R n a0 := by kernel_rfl

theorem impl_WorldOk_of (n : Nat) (a0 : WorldD) {y} (h : impl_WorldOk_R n a0 = some y) : impl_WorldOk_T a0 = some y := presT_of (((impl_WorldOk_res n a0)).trans h)

noncomputable def laws_eqWorld_R (n : Nat) (a0 : WorldD) (a1 : WorldD) : Option Bool := br (a0.time != a1.time) (some false) (br (a0.fresh != a1.fresh) (some false) (qb (laws_eqTermS_T a0.known a1.known) fun x => br (!x) (some false) (qb (laws_eqPolicyS_T a0.cache a1.cache) fun x => br (!x) (some false) (qb (laws_eqHostS_T a0.hosts a1.hosts) fun x => br (!x) (some false) (qb (laws_eqLetterS_T a0.letters a1.letters) fun x => br (!x) (some false) (br (!a0.book.toList == a1.book.toList) (some false) (br (a0.sure != a1.sure) (some false) (qb (laws_eqCallS_T a0.calls a1.calls) fun x => br (!x) (some false) (qb (laws_eqTalkS_T a0.talks a1.talks) fun x => br (!x) (some false) (qb (laws_eqIntS_T a0.told a1.told) fun x => br (!x) (some false) (some true)))))))))))

theorem laws_eqWorld_res (n : Nat) (a0 : WorldD) (a1 : WorldD) : residT Tryz.prog cfg RN n 20 [.ag (WorldD.cells a0), .ag (WorldD.cells a1)] (.bool) = laws_eqWorld_R n a0 a1 := by kernel_rfl

theorem laws_eqWorld_of (n : Nat) (a0 : WorldD) (a1 : WorldD) {y} (h : laws_eqWorld_R n a0 a1 = some y) : laws_eqWorld_T a0 a1 = some y := presT_of (((laws_eqWorld_res n a0 a1)).trans h)

noncomputable def spec_JudgeHeld_R (n : Nat) (a0 : WorldD) : Option Bool := qb (spec_WorldOk_T a0) fun x => br (!x) (some false) (qb (spec_JudgeHeld_L4 n n false 0 a0) fun x => br (isRetE x.fst) (some x.snd.fst.fst) (br (isExt 0 x.fst) (some true) none))

theorem spec_JudgeHeld_res (n : Nat) (a0 : WorldD) : residT Tryz.prog cfg RN n 21 [.ag (WorldD.cells a0)] (.bool) = spec_JudgeHeld_R n a0 := by kernel_rfl

theorem spec_JudgeHeld_of (n : Nat) (a0 : WorldD) {y} (h : spec_JudgeHeld_R n a0 = some y) : spec_JudgeHeld_T a0 = some y := presT_of (((spec_JudgeHeld_res n a0)).trans h)

noncomputable def impl_JudgeHeld_R (n : Nat) (a0 : WorldD) : Option Bool := qb (impl_WorldOk_T a0) fun x => br x (qb (slices_ContainsFunc_impl_Call_impl_Call_T a0.calls (V.c (C.fn 92 []))) fun x => some !x) (some false)

theorem impl_JudgeHeld_res (n : Nat) (a0 : WorldD) : residT Tryz.prog cfg RN n 22 [.ag (WorldD.cells a0)] (.bool) = impl_JudgeHeld_R n a0 := by kernel_rfl

theorem impl_JudgeHeld_of (n : Nat) (a0 : WorldD) {y} (h : impl_JudgeHeld_R n a0 = some y) : impl_JudgeHeld_T a0 = some y := presT_of (((impl_JudgeHeld_res n a0)).trans h)

noncomputable def spec_JudgeTaken_R (n : Nat) (a0 : WorldD) : Option Bool := qb (spec_WorldOk_T a0) fun x => br (!x) (some false) (qb (spec_JudgeTaken_L4 n n false 0 a0) fun x => br (isRetE x.fst) (some x.snd.fst.fst) (br (isExt 0 x.fst) (some true) none))

theorem spec_JudgeTaken_res (n : Nat) (a0 : WorldD) : residT Tryz.prog cfg RN n 23 [.ag (WorldD.cells a0)] (.bool) = spec_JudgeTaken_R n a0 := by kernel_rfl

theorem spec_JudgeTaken_of (n : Nat) (a0 : WorldD) {y} (h : spec_JudgeTaken_R n a0 = some y) : spec_JudgeTaken_T a0 = some y := presT_of (((spec_JudgeTaken_res n a0)).trans h)

noncomputable def impl_JudgeTaken_R (n : Nat) (a0 : WorldD) : Option Bool := qb (impl_WorldOk_T a0) fun x => br x (qb (slices_ContainsFunc_impl_Call_impl_Call_T a0.calls (V.c (C.fn 94 [C.f (F.ep Kind.world a0 0)]))) fun x => some !x) (some false)

theorem impl_JudgeTaken_res (n : Nat) (a0 : WorldD) : residT Tryz.prog cfg RN n 24 [.ag (WorldD.cells a0)] (.bool) = impl_JudgeTaken_R n a0 := by kernel_rfl

theorem impl_JudgeTaken_of (n : Nat) (a0 : WorldD) {y} (h : impl_JudgeTaken_R n a0 = some y) : impl_JudgeTaken_T a0 = some y := presT_of (((impl_JudgeTaken_res n a0)).trans h)

noncomputable def spec_JudgeSecret_R (n : Nat) (a0 : WorldD) : Option Bool := qb (spec_WorldOk_T a0) fun x => br (!x) (some false) (qb (spec_JudgeSecret_L4 n n false 0 a0) fun x => br (isRetE x.fst) (some x.snd.fst.fst) (br (isExt 0 x.fst) (some true) none))

theorem spec_JudgeSecret_res (n : Nat) (a0 : WorldD) : residT Tryz.prog cfg RN n 25 [.ag (WorldD.cells a0)] (.bool) = spec_JudgeSecret_R n a0 := by kernel_rfl

theorem spec_JudgeSecret_of (n : Nat) (a0 : WorldD) {y} (h : spec_JudgeSecret_R n a0 = some y) : spec_JudgeSecret_T a0 = some y := presT_of (((spec_JudgeSecret_res n a0)).trans h)

noncomputable def impl_JudgeSecret_R (n : Nat) (a0 : WorldD) : Option Bool := qb (impl_WorldOk_T a0) fun x => br x (qb (slices_ContainsFunc_impl_Letter_impl_Letter_T a0.letters (V.c (C.fn 100 [C.f (F.ep Kind.world a0 0)]))) fun x => some !x) (some false)

theorem impl_JudgeSecret_res (n : Nat) (a0 : WorldD) : residT Tryz.prog cfg RN n 26 [.ag (WorldD.cells a0)] (.bool) = impl_JudgeSecret_R n a0 := by kernel_rfl

theorem impl_JudgeSecret_of (n : Nat) (a0 : WorldD) {y} (h : impl_JudgeSecret_R n a0 = some y) : impl_JudgeSecret_T a0 = some y := presT_of (((impl_JudgeSecret_res n a0)).trans h)

noncomputable def laws_szStringS_R (n : Nat) (a0 : List ByteArray) (a1 : Int) : Option Int := br (decide (IntKind.i64.wrap (a1 - (↑a0.length : Int)) < 0)) (some (-1)) (qb (laws_szStringS_L5 n n false a0 (IntKind.i64.wrap (a1 - (↑a0.length : Int))) 0 0) fun x => br (isRetE x.fst) (some x.snd.fst.snd.fst) (br (isExt 0 x.fst) (some x.snd.fst.fst) none))

theorem laws_szStringS_res (n : Nat) (a0 : List ByteArray) (a1 : Int) : residT Tryz.prog cfg RN n 27 [.sl false .str a0, .int a1] (.int) = laws_szStringS_R n a0 a1 := by kernel_rfl

theorem laws_szStringS_of (n : Nat) (a0 : List ByteArray) (a1 : Int) {y} (h : laws_szStringS_R n a0 a1 = some y) : laws_szStringS_T a0 a1 = some y := presT_of (((laws_szStringS_res n a0 a1)).trans h)

noncomputable def laws_toStringS_R (n : Nat) (a0 : List ByteArray) : Option (List ByteArray) := br (decide ((↑a0.length : Int) = (↑a0.length : Int)) && decide (0 ≤ (↑a0.length : Int)) && (↑a0.length : Int).toNat.ble appMax) (qb (laws_toStringS_L3 n n false a0 (List.replicate (↑a0.length : Int).toNat (zeroEl Kind.str)) 0) fun x => br (isRetE x.fst) none (br (isExt 0 x.fst) (some x.snd.snd.fst) none)) none

theorem laws_toStringS_res (n : Nat) (a0 : List ByteArray) : residT Tryz.prog cfg RN n 29 [.sl false .str a0] (.sl .str) = laws_toStringS_R n a0 := by kernel_rfl

theorem laws_toStringS_of (n : Nat) (a0 : List ByteArray) {y} (h : laws_toStringS_R n a0 = some y) : laws_toStringS_T a0 = some y := presT_of (((laws_toStringS_res n a0)).trans h)

noncomputable def laws_eqStringS_R (n : Nat) (a0 : List ByteArray) (a1 : List ByteArray) : Option Bool := br ((↑a0.length : Int) != (↑a1.length : Int)) (some false) (qb (laws_eqStringS_L4 n n false a0 false a1 false 0) fun x => br (isRetE x.fst) (some x.snd.fst.fst) (br (isExt 0 x.fst) (some true) none))

theorem laws_eqStringS_res (n : Nat) (a0 : List ByteArray) (a1 : List ByteArray) : residT Tryz.prog cfg RN n 31 [.sl false .str a0, .sl false .str a1] (.bool) = laws_eqStringS_R n a0 a1 := by kernel_rfl

theorem laws_eqStringS_of (n : Nat) (a0 : List ByteArray) (a1 : List ByteArray) {y} (h : laws_eqStringS_R n a0 a1 = some y) : laws_eqStringS_T a0 a1 = some y := presT_of (((laws_eqStringS_res n a0 a1)).trans h)

noncomputable def spec_JudgeBook_R (n : Nat) (a0 : WorldD) : Option Bool := qb (spec_WorldOk_T a0) fun x => br (!x) (some false) (qb (spec_Notes_T a0.book) fun x => qb (spec_Play_T x.fst) fun x_1 => br (x.snd.fst != (↑a0.book.size : Int)) (some false) (br ((↑(List.length x_1) : Int) != (↑a0.letters.length : Int)) (some false) (qb (spec_JudgeBook_L8 n n false false x_1 0 a0) fun x => br (isRetE x.fst) (some x.snd.fst.fst) (br (isExt 0 x.fst) (some true) none))))

theorem spec_JudgeBook_res (n : Nat) (a0 : WorldD) : residT Tryz.prog cfg RN n 35 [.ag (WorldD.cells a0)] (.bool) = spec_JudgeBook_R n a0 := by kernel_rfl

theorem spec_JudgeBook_of (n : Nat) (a0 : WorldD) {y} (h : spec_JudgeBook_R n a0 = some y) : spec_JudgeBook_T a0 = some y := presT_of (((spec_JudgeBook_res n a0)).trans h)

noncomputable def impl_JudgeBook_R (n : Nat) (a0 : WorldD) : Option Bool := qb (impl_Notes_T a0.book) fun x => qb (impl_WorldOk_T a0) fun x_1 => br x_1 (br (x.snd.fst == (↑a0.book.size : Int)) (qb (impl_Play_T x.fst) fun x => qb (slices_Equal_impl_Letter_impl_Letter_T x a0.letters) fun x => some x) (some false)) (some false)

theorem impl_JudgeBook_res (n : Nat) (a0 : WorldD) : residT Tryz.prog cfg RN n 36 [.ag (WorldD.cells a0)] (.bool) = impl_JudgeBook_R n a0 := by kernel_rfl

theorem impl_JudgeBook_of (n : Nat) (a0 : WorldD) {y} (h : impl_JudgeBook_R n a0 = some y) : impl_JudgeBook_T a0 = some y := presT_of (((impl_JudgeBook_res n a0)).trans h)

noncomputable def spec_JudgeAll_R (n : Nat) (a0 : WorldD) : Option Bool := qb (spec_JudgeSecret_T a0) fun x => br x (qb (spec_JudgeHeld_T a0) fun x => br x (qb (spec_JudgeTaken_T a0) fun x => br x (qb (spec_JudgeBook_T a0) fun x => some x) (some false)) (some false)) (some false)

theorem spec_JudgeAll_res (n : Nat) (a0 : WorldD) : residT Tryz.prog cfg RN n 37 [.ag (WorldD.cells a0)] (.bool) = spec_JudgeAll_R n a0 := by kernel_rfl

theorem spec_JudgeAll_of (n : Nat) (a0 : WorldD) {y} (h : spec_JudgeAll_R n a0 = some y) : spec_JudgeAll_T a0 = some y := presT_of (((spec_JudgeAll_res n a0)).trans h)

noncomputable def impl_JudgeAll_R (n : Nat) (a0 : WorldD) : Option Bool := qb (impl_JudgeSecret_T a0) fun x => br x (qb (impl_JudgeHeld_T a0) fun x => br x (qb (impl_JudgeTaken_T a0) fun x => br x (qb (impl_JudgeBook_T a0) fun x => some x) (some false)) (some false)) (some false)

theorem impl_JudgeAll_res (n : Nat) (a0 : WorldD) : residT Tryz.prog cfg RN n 38 [.ag (WorldD.cells a0)] (.bool) = impl_JudgeAll_R n a0 := by kernel_rfl

theorem impl_JudgeAll_of (n : Nat) (a0 : WorldD) {y} (h : impl_JudgeAll_R n a0 = some y) : impl_JudgeAll_T a0 = some y := presT_of (((impl_JudgeAll_res n a0)).trans h)

noncomputable def spec_Atom_R (n : Nat) (a0 : Int) : Option Term := qb (spec_l3Ok_T (Term.mk 1 a0 (ByteArray.mk #[]) [])) fun x => some (Term.mk x.op x.n x.s x.kids)

theorem spec_Atom_res (n : Nat) (a0 : Int) : residT Tryz.prog cfg RN n 41 [.int a0] (.el .term) = spec_Atom_R n a0 := by kernel_rfl

theorem spec_Atom_of (n : Nat) (a0 : Int) {y} (h : spec_Atom_R n a0 = some y) : spec_Atom_T a0 = some y := presT_of (((spec_Atom_res n a0)).trans h)

noncomputable def spec_ServerOk_R (n : Nat) (a0 : Server) : Option Bool := qb (spec_ServerOk_L2 n n false 0 a0) fun x => br (isRetE x.fst) (some x.snd.fst.snd.fst) (br (isExt 0 x.fst) (br x.snd.snd.fst.tls (qb (spec_TermOk_T x.snd.snd.fst.share) fun x_1 => br (!x_1) (some false) (qb (spec_l1In_T x.snd.snd.fst.step 1 5) fun x_2 => br x_2 (qb (spec_HostOk_T x.snd.snd.fst.host) fun x_3 => br x_3 (qb (spec_l1In_T x.snd.snd.fst.key 0 1000000) fun x_4 => br x_4 (qb (spec_l1In_T x.snd.snd.fst.eph 0 1000000) fun x_5 => br x_5 (qb (spec_TermOk_T x.snd.snd.fst.cert) fun x_6 => br x_6 (qb (spec_l1In_T x.snd.snd.fst.inn 0 100) fun x_7 => br x_7 (qb (spec_l1In_T x.snd.snd.fst.out 0 100) fun x_8 => br x_8 (some (decide ((↑x.snd.snd.fst.got.length : Int) ≤ 20))) (some false)) (some false)) (some false)) (some false)) (some false)) (some false)) (some false))) (br (x.snd.snd.fst.step == 3) (qb (spec_TermOk_T x.snd.snd.fst.share) fun x_1 => br (!x_1) (some false) (br (!x.snd.snd.fst.step == 3) (qb (spec_Same_T x.snd.snd.fst.share (Term.mk 0 0 (ByteArray.mk #[]) [])) fun x_2 => br (!x_2) (some false) (qb (spec_l1In_T x.snd.snd.fst.step 1 5) fun x_3 => br x_3 (qb (spec_HostOk_T x.snd.snd.fst.host) fun x_4 => br x_4 (qb (spec_l1In_T x.snd.snd.fst.key 0 1000000) fun x_5 => br x_5 (qb (spec_l1In_T x.snd.snd.fst.eph 0 1000000) fun x_6 => br x_6 (qb (spec_TermOk_T x.snd.snd.fst.cert) fun x_7 => br x_7 (qb (spec_l1In_T x.snd.snd.fst.inn 0 100) fun x_8 => br x_8 (qb (spec_l1In_T x.snd.snd.fst.out 0 100) fun x_9 => br x_9 (some (decide ((↑x.snd.snd.fst.got.length : Int) ≤ 20))) (some false)) (some false)) (some false)) (some false)) (some false)) (some false)) (some false))) (qb (spec_l1In_T x.snd.snd.fst.step 1 5) fun x_2 => br x_2 (qb (spec_HostOk_T x.snd.snd.fst.host) fun x_3 => br x_3 (qb (spec_l1In_T x.snd.snd.fst.key 0 1000000) fun x_4 => br x_4 (qb (spec_l1In_T x.snd.snd.fst.eph 0 1000000) fun x_5 => br x_5 (qb (spec_TermOk_T x.snd.snd.fst.cert) fun x_6 => br x_6 (qb (spec_l1In_T x.snd.snd.fst.inn 0 100) fun x_7 => br x_7 (qb (spec_l1In_T x.snd.snd.fst.out 0 100) fun x_8 => br x_8 (some (decide ((↑x.snd.snd.fst.got.length : Int) ≤ 20))) (some false)) (some false)) (some false)) (some false)) (some false)) (some false)) (some false)))) (br (!x.snd.snd.fst.step == 3) (qb (spec_Same_T x.snd.snd.fst.share (Term.mk 0 0 (ByteArray.mk #[]) [])) fun x_1 => br (!x_1) (some false) (qb (spec_l1In_T x.snd.snd.fst.step 1 5) fun x_2 => br x_2 (qb (spec_HostOk_T x.snd.snd.fst.host) fun x_3 => br x_3 (qb (spec_l1In_T x.snd.snd.fst.key 0 1000000) fun x_4 => br x_4 (qb (spec_l1In_T x.snd.snd.fst.eph 0 1000000) fun x_5 => br x_5 (qb (spec_TermOk_T x.snd.snd.fst.cert) fun x_6 => br x_6 (qb (spec_l1In_T x.snd.snd.fst.inn 0 100) fun x_7 => br x_7 (qb (spec_l1In_T x.snd.snd.fst.out 0 100) fun x_8 => br x_8 (some (decide ((↑x.snd.snd.fst.got.length : Int) ≤ 20))) (some false)) (some false)) (some false)) (some false)) (some false)) (some false)) (some false))) (qb (spec_l1In_T x.snd.snd.fst.step 1 5) fun x_1 => br x_1 (qb (spec_HostOk_T x.snd.snd.fst.host) fun x_2 => br x_2 (qb (spec_l1In_T x.snd.snd.fst.key 0 1000000) fun x_3 => br x_3 (qb (spec_l1In_T x.snd.snd.fst.eph 0 1000000) fun x_4 => br x_4 (qb (spec_TermOk_T x.snd.snd.fst.cert) fun x_5 => br x_5 (qb (spec_l1In_T x.snd.snd.fst.inn 0 100) fun x_6 => br x_6 (qb (spec_l1In_T x.snd.snd.fst.out 0 100) fun x_7 => br x_7 (some (decide ((↑x.snd.snd.fst.got.length : Int) ≤ 20))) (some false)) (some false)) (some false)) (some false)) (some false)) (some false)) (some false))))) none)

theorem spec_ServerOk_res (n : Nat) (a0 : Server) : residT Tryz.prog cfg RN n 42 [.ag (Server.cells a0)] (.bool) = spec_ServerOk_R n a0 := by kernel_rfl

theorem spec_ServerOk_of (n : Nat) (a0 : Server) {y} (h : spec_ServerOk_R n a0 = some y) : spec_ServerOk_T a0 = some y := presT_of (((spec_ServerOk_res n a0)).trans h)

noncomputable def impl_Atom_R (n : Nat) (a0 : Int) : Option Term := qb (impl_right_T (Term.mk 1 a0 (ByteArray.mk #[]) [])) fun x => some (Term.mk x.op x.n x.s x.kids)

theorem impl_Atom_res (n : Nat) (a0 : Int) : residT Tryz.prog cfg RN n 45 [.int a0] (.el .term) = impl_Atom_R n a0 := by kernel_rfl

theorem impl_Atom_of (n : Nat) (a0 : Int) {y} (h : impl_Atom_R n a0 = some y) : impl_Atom_T a0 = some y := presT_of (((impl_Atom_res n a0)).trans h)

noncomputable def impl_ServerOk_R (n : Nat) (a0 : Server) : Option Bool := qb (impl_in_T a0.step 1 5) fun x => br (!x) (some false) (qb (impl_HostOk_T a0.host) fun x => br (!x) (some false) (qb (impl_isAtom_T a0.key) fun x => br (!x) (some false) (qb (impl_isAtom_T a0.eph) fun x => br (!x) (some false) (qb (impl_TermOk_T a0.cert) fun x => br (!x) (some false) (qb (impl_in_T a0.inn 0 100) fun x => br (!x) (some false) (qb (impl_in_T a0.out 0 100) fun x => br (!x) (some false) (br a0.tls (qb (impl_TermOk_T a0.share) fun x => br (!x) (some false) (br (decide ((↑a0.got.length : Int) ≤ 20)) (qb (slices_ContainsFunc_int_int_T a0.got (V.c (C.fn 141 []))) fun x => some !x) (some false))) (br (a0.step == 3) (qb (impl_TermOk_T a0.share) fun x => br (!x) (some false) (br (!a0.step == 3) (qb (impl_noTerm_T a0.share) fun x => br (!x) (some false) (br (decide ((↑a0.got.length : Int) ≤ 20)) (qb (slices_ContainsFunc_int_int_T a0.got (V.c (C.fn 141 []))) fun x => some !x) (some false))) (br (decide ((↑a0.got.length : Int) ≤ 20)) (qb (slices_ContainsFunc_int_int_T a0.got (V.c (C.fn 141 []))) fun x => some !x) (some false)))) (br (!a0.step == 3) (qb (impl_noTerm_T a0.share) fun x => br (!x) (some false) (br (decide ((↑a0.got.length : Int) ≤ 20)) (qb (slices_ContainsFunc_int_int_T a0.got (V.c (C.fn 141 []))) fun x => some !x) (some false))) (br (decide ((↑a0.got.length : Int) ≤ 20)) (qb (slices_ContainsFunc_int_int_T a0.got (V.c (C.fn 141 []))) fun x => some !x) (some false)))))))))))

theorem impl_ServerOk_res (n : Nat) (a0 : Server) : residT Tryz.prog cfg RN n 46 [.ag (Server.cells a0)] (.bool) = impl_ServerOk_R n a0 := by kernel_rfl

theorem impl_ServerOk_of (n : Nat) (a0 : Server) {y} (h : impl_ServerOk_R n a0 = some y) : impl_ServerOk_T a0 = some y := presT_of (((impl_ServerOk_res n a0)).trans h)

noncomputable def laws_eqTerm_R (n : Nat) (a0 : Term) (a1 : Term) : Option Bool := br (a0.op != a1.op) (some false) (br (a0.n != a1.n) (some false) (br (!a0.s.toList == a1.s.toList) (some false) (qb (laws_eqTermS_T a0.kids a1.kids) fun x => br (!x) (some false) (some true))))

theorem laws_eqTerm_res (n : Nat) (a0 : Term) (a1 : Term) : residT Tryz.prog cfg RN n 47 [.ag (Term.cells a0), .ag (Term.cells a1)] (.bool) = laws_eqTerm_R n a0 a1 := by kernel_rfl

theorem laws_eqTerm_of (n : Nat) (a0 : Term) (a1 : Term) {y} (h : laws_eqTerm_R n a0 a1 = some y) : laws_eqTerm_T a0 a1 = some y := presT_of (((laws_eqTerm_res n a0 a1)).trans h)

noncomputable def laws_eqIntS_R (n : Nat) (a0 : List Int) (a1 : List Int) : Option Bool := br ((↑a0.length : Int) != (↑a1.length : Int)) (some false) (qb (laws_eqIntS_L4 n n false a0 false a1 false 0) fun x => br (isRetE x.fst) (some x.snd.fst.fst) (br (isExt 0 x.fst) (some true) none))

theorem laws_eqIntS_res (n : Nat) (a0 : List Int) (a1 : List Int) : residT Tryz.prog cfg RN n 48 [.sl false .int a0, .sl false .int a1] (.bool) = laws_eqIntS_R n a0 a1 := by kernel_rfl

theorem laws_eqIntS_of (n : Nat) (a0 : List Int) (a1 : List Int) {y} (h : laws_eqIntS_R n a0 a1 = some y) : laws_eqIntS_T a0 a1 = some y := presT_of (((laws_eqIntS_res n a0 a1)).trans h)

noncomputable def laws_szTermS_R (n : Nat) (a0 : List Term) (a1 : Int) : Option Int := br (decide (IntKind.i64.wrap (a1 - (↑a0.length : Int)) < 0)) (some (-1)) (qb (laws_szTermS_L5 n n false a0 (IntKind.i64.wrap (a1 - (↑a0.length : Int))) 0 0) fun x => br (isRetE x.fst) (some x.snd.fst.snd.fst) (br (isExt 0 x.fst) (some x.snd.fst.fst) none))

theorem laws_szTermS_res (n : Nat) (a0 : List Term) (a1 : Int) : residT Tryz.prog cfg RN n 53 [.sl false .term a0, .int a1] (.int) = laws_szTermS_R n a0 a1 := by kernel_rfl

theorem laws_szTermS_of (n : Nat) (a0 : List Term) (a1 : Int) {y} (h : laws_szTermS_R n a0 a1 = some y) : laws_szTermS_T a0 a1 = some y := presT_of (((laws_szTermS_res n a0 a1)).trans h)

noncomputable def laws_szPolicyS_R (n : Nat) (a0 : List Policy) (a1 : Int) : Option Int := br (decide (IntKind.i64.wrap (a1 - (↑a0.length : Int)) < 0)) (some (-1)) (qb (laws_szPolicyS_L5 n n false a0 (IntKind.i64.wrap (a1 - (↑a0.length : Int))) 0 0) fun x => br (isRetE x.fst) (some x.snd.fst.snd.fst) (br (isExt 0 x.fst) (some x.snd.fst.fst) none))

theorem laws_szPolicyS_res (n : Nat) (a0 : List Policy) (a1 : Int) : residT Tryz.prog cfg RN n 54 [.sl false .policy a0, .int a1] (.int) = laws_szPolicyS_R n a0 a1 := by kernel_rfl

theorem laws_szPolicyS_of (n : Nat) (a0 : List Policy) (a1 : Int) {y} (h : laws_szPolicyS_R n a0 a1 = some y) : laws_szPolicyS_T a0 a1 = some y := presT_of (((laws_szPolicyS_res n a0 a1)).trans h)

noncomputable def laws_szHostS_R (n : Nat) (a0 : List Host) (a1 : Int) : Option Int := br (decide (IntKind.i64.wrap (a1 - (↑a0.length : Int)) < 0)) (some (-1)) (qb (laws_szHostS_L5 n n false a0 (IntKind.i64.wrap (a1 - (↑a0.length : Int))) 0 0) fun x => br (isRetE x.fst) (some x.snd.fst.snd.fst) (br (isExt 0 x.fst) (some x.snd.fst.fst) none))

theorem laws_szHostS_res (n : Nat) (a0 : List Host) (a1 : Int) : residT Tryz.prog cfg RN n 55 [.sl false .host a0, .int a1] (.int) = laws_szHostS_R n a0 a1 := by kernel_rfl

theorem laws_szHostS_of (n : Nat) (a0 : List Host) (a1 : Int) {y} (h : laws_szHostS_R n a0 a1 = some y) : laws_szHostS_T a0 a1 = some y := presT_of (((laws_szHostS_res n a0 a1)).trans h)

noncomputable def laws_szLetterS_R (n : Nat) (a0 : List Letter) (a1 : Int) : Option Int := br (decide (IntKind.i64.wrap (a1 - (↑a0.length : Int)) < 0)) (some (-1)) (qb (laws_szLetterS_L5 n n false a0 (IntKind.i64.wrap (a1 - (↑a0.length : Int))) 0 0) fun x => br (isRetE x.fst) (some x.snd.fst.snd.fst) (br (isExt 0 x.fst) (some x.snd.fst.fst) none))

theorem laws_szLetterS_res (n : Nat) (a0 : List Letter) (a1 : Int) : residT Tryz.prog cfg RN n 56 [.sl false .letter a0, .int a1] (.int) = laws_szLetterS_R n a0 a1 := by kernel_rfl

theorem laws_szLetterS_of (n : Nat) (a0 : List Letter) (a1 : Int) {y} (h : laws_szLetterS_R n a0 a1 = some y) : laws_szLetterS_T a0 a1 = some y := presT_of (((laws_szLetterS_res n a0 a1)).trans h)

noncomputable def laws_szCallS_R (n : Nat) (a0 : List CallD) (a1 : Int) : Option Int := br (decide (IntKind.i64.wrap (a1 - (↑a0.length : Int)) < 0)) (some (-1)) (qb (laws_szCallS_L5 n n false a0 (IntKind.i64.wrap (a1 - (↑a0.length : Int))) 0 0) fun x => br (isRetE x.fst) (some x.snd.fst.snd.fst) (br (isExt 0 x.fst) (some x.snd.fst.fst) none))

theorem laws_szCallS_res (n : Nat) (a0 : List CallD) (a1 : Int) : residT Tryz.prog cfg RN n 57 [.sl false .call a0, .int a1] (.int) = laws_szCallS_R n a0 a1 := by kernel_rfl

theorem laws_szCallS_of (n : Nat) (a0 : List CallD) (a1 : Int) {y} (h : laws_szCallS_R n a0 a1 = some y) : laws_szCallS_T a0 a1 = some y := presT_of (((laws_szCallS_res n a0 a1)).trans h)

noncomputable def laws_szTalkS_R (n : Nat) (a0 : List Talk) (a1 : Int) : Option Int := br (decide (IntKind.i64.wrap (a1 - (↑a0.length : Int)) < 0)) (some (-1)) (qb (laws_szTalkS_L5 n n false a0 (IntKind.i64.wrap (a1 - (↑a0.length : Int))) 0 0) fun x => br (isRetE x.fst) (some x.snd.fst.snd.fst) (br (isExt 0 x.fst) (some x.snd.fst.fst) none))

theorem laws_szTalkS_res (n : Nat) (a0 : List Talk) (a1 : Int) : residT Tryz.prog cfg RN n 58 [.sl false .talk a0, .int a1] (.int) = laws_szTalkS_R n a0 a1 := by kernel_rfl

theorem laws_szTalkS_of (n : Nat) (a0 : List Talk) (a1 : Int) {y} (h : laws_szTalkS_R n a0 a1 = some y) : laws_szTalkS_T a0 a1 = some y := presT_of (((laws_szTalkS_res n a0 a1)).trans h)

noncomputable def laws_szIntS_R (n : Nat) (a0 : List Int) (a1 : Int) : Option Int := br (decide (IntKind.i64.wrap (a1 - (↑a0.length : Int)) < 0)) (some (-1)) (some (IntKind.i64.wrap (a1 - (↑a0.length : Int))))

theorem laws_szIntS_res (n : Nat) (a0 : List Int) (a1 : Int) : residT Tryz.prog cfg RN n 59 [.sl false .int a0, .int a1] (.int) = laws_szIntS_R n a0 a1 := by kernel_rfl

theorem laws_szIntS_of (n : Nat) (a0 : List Int) (a1 : Int) {y} (h : laws_szIntS_R n a0 a1 = some y) : laws_szIntS_T a0 a1 = some y := presT_of (((laws_szIntS_res n a0 a1)).trans h)

noncomputable def spec_l1In_R (n : Nat) (a0 : Int) (a1 : Int) (a2 : Int) : Option Bool := br (decide (a0 ≥ a1)) (some (decide (a0 ≤ a2))) (some false)

theorem spec_l1In_res (n : Nat) (a0 : Int) (a1 : Int) (a2 : Int) : residT Tryz.prog cfg RN n 60 [.int a0, .int a1, .int a2] (.bool) = spec_l1In_R n a0 a1 a2 := by kernel_rfl

theorem spec_l1In_of (n : Nat) (a0 : Int) (a1 : Int) (a2 : Int) {y} (h : spec_l1In_R n a0 a1 a2 = some y) : spec_l1In_T a0 a1 a2 = some y := presT_of (((spec_l1In_res n a0 a1 a2)).trans h)

noncomputable def spec_CacheOk_R (n : Nat) (a0 : List Policy) : Option Bool := qb (spec_CacheOk_L2 n n false a0 false 0) fun x => br (isRetE x.fst) (some x.snd.fst.snd.fst) (br (isExt 0 x.fst) (some (decide ((↑(List.length x.snd.fst.fst) : Int) ≤ 10))) none)

theorem spec_CacheOk_res (n : Nat) (a0 : List Policy) : residT Tryz.prog cfg RN n 61 [.sl false .policy a0] (.bool) = spec_CacheOk_R n a0 := by kernel_rfl

theorem spec_CacheOk_of (n : Nat) (a0 : List Policy) {y} (h : spec_CacheOk_R n a0 = some y) : spec_CacheOk_T a0 = some y := presT_of (((spec_CacheOk_res n a0)).trans h)

noncomputable def spec_l13Hosts_R (n : Nat) (a0 : List Host) : Option Bool := qb (spec_l13Hosts_L2 n n false a0 false 0) fun x => br (isRetE x.fst) (some x.snd.fst.snd.fst) (br (isExt 0 x.fst) (some (decide ((↑(List.length x.snd.fst.fst) : Int) ≤ 4))) none)

theorem spec_l13Hosts_res (n : Nat) (a0 : List Host) : residT Tryz.prog cfg RN n 62 [.sl false .host a0] (.bool) = spec_l13Hosts_R n a0 := by kernel_rfl

theorem spec_l13Hosts_of (n : Nat) (a0 : List Host) {y} (h : spec_l13Hosts_R n a0 = some y) : spec_l13Hosts_T a0 = some y := presT_of (((spec_l13Hosts_res n a0)).trans h)

noncomputable def spec_TermOk_R (n : Nat) (a0 : Term) : Option Bool := qb (spec_TermSize_T a0) fun x => br (decide (x ≤ 200)) (qb (spec_l1Right_T a0) fun x => some x) (some false)

theorem spec_TermOk_res (n : Nat) (a0 : Term) : residT Tryz.prog cfg RN n 63 [.ag (Term.cells a0)] (.bool) = spec_TermOk_R n a0 := by kernel_rfl

theorem spec_TermOk_of (n : Nat) (a0 : Term) {y} (h : spec_TermOk_R n a0 = some y) : spec_TermOk_T a0 = some y := presT_of (((spec_TermOk_res n a0)).trans h)

noncomputable def spec_LetterOk_R (n : Nat) (a0 : Letter) : Option Bool := qb (spec_l6Domain_T a0.domain) fun x => br x (qb (spec_l1In_T a0.body 0 1000000) fun x => br x (qb (spec_l1In_T a0.state 1 3) fun x => br x (qb (spec_l1In_T a0.tries 0 4) fun x => br x (qb (spec_l1In_T a0.next 0 100000) fun x => some x) (some false)) (some false)) (some false)) (some false)

theorem spec_LetterOk_res (n : Nat) (a0 : Letter) : residT Tryz.prog cfg RN n 64 [.ag (Letter.cells a0)] (.bool) = spec_LetterOk_R n a0 := by kernel_rfl

theorem spec_LetterOk_of (n : Nat) (a0 : Letter) {y} (h : spec_LetterOk_R n a0 = some y) : spec_LetterOk_T a0 = some y := presT_of (((spec_LetterOk_res n a0)).trans h)

noncomputable def spec_l13Open_R (n : Nat) (a0 : WorldD) : Option Bool := qb (spec_l13Open_L2 n n false 0 a0) fun x => br (isRetE x.fst) (some x.snd.fst.snd.fst) (br (isExt 0 x.fst) (qb (spec_l13Open_L7 n n x.snd.fst.snd.fst 0 x.snd.snd.fst) fun x => br (isRetE x.fst) (some x.snd.fst.snd.fst) (br (isExt 2 x.fst) (br (decide ((↑x.snd.snd.fst.calls.length : Int) ≤ 12)) (some (decide ((↑x.snd.snd.fst.talks.length : Int) ≤ 12))) (some false)) none)) none)

theorem spec_l13Open_res (n : Nat) (a0 : WorldD) : residT Tryz.prog cfg RN n 65 [.ag (WorldD.cells a0)] (.bool) = spec_l13Open_R n a0 := by kernel_rfl

theorem spec_l13Open_of (n : Nat) (a0 : WorldD) {y} (h : spec_l13Open_R n a0 = some y) : spec_l13Open_T a0 = some y := presT_of (((spec_l13Open_res n a0)).trans h)

noncomputable def laws_toTermS_R (n : Nat) (a0 : List Term) : Option (List Term) := br (decide ((↑a0.length : Int) = (↑a0.length : Int)) && decide (0 ≤ (↑a0.length : Int)) && (↑a0.length : Int).toNat.ble appMax) (qb (laws_toTermS_L3 n n false a0 (List.replicate (↑a0.length : Int).toNat (zeroEl Kind.term)) 0) fun x => br (isRetE x.fst) none (br (isExt 0 x.fst) (some x.snd.snd.fst) none)) none

theorem laws_toTermS_res (n : Nat) (a0 : List Term) : residT Tryz.prog cfg RN n 66 [.sl false .term a0] (.sl .term) = laws_toTermS_R n a0 := by kernel_rfl

theorem laws_toTermS_of (n : Nat) (a0 : List Term) {y} (h : laws_toTermS_R n a0 = some y) : laws_toTermS_T a0 = some y := presT_of (((laws_toTermS_res n a0)).trans h)

noncomputable def laws_toPolicyS_R (n : Nat) (a0 : List Policy) : Option (List Policy) := br (decide ((↑a0.length : Int) = (↑a0.length : Int)) && decide (0 ≤ (↑a0.length : Int)) && (↑a0.length : Int).toNat.ble appMax) (qb (laws_toPolicyS_L3 n n false a0 (List.replicate (↑a0.length : Int).toNat (zeroEl Kind.policy)) 0) fun x => br (isRetE x.fst) none (br (isExt 0 x.fst) (some x.snd.snd.fst) none)) none

theorem laws_toPolicyS_res (n : Nat) (a0 : List Policy) : residT Tryz.prog cfg RN n 67 [.sl false .policy a0] (.sl .policy) = laws_toPolicyS_R n a0 := by kernel_rfl

theorem laws_toPolicyS_of (n : Nat) (a0 : List Policy) {y} (h : laws_toPolicyS_R n a0 = some y) : laws_toPolicyS_T a0 = some y := presT_of (((laws_toPolicyS_res n a0)).trans h)

noncomputable def laws_toHostS_R (n : Nat) (a0 : List Host) : Option (List Host) := br (decide ((↑a0.length : Int) = (↑a0.length : Int)) && decide (0 ≤ (↑a0.length : Int)) && (↑a0.length : Int).toNat.ble appMax) (qb (laws_toHostS_L3 n n false a0 (List.replicate (↑a0.length : Int).toNat (zeroEl Kind.host)) 0) fun x => br (isRetE x.fst) none (br (isExt 0 x.fst) (some x.snd.snd.fst) none)) none

theorem laws_toHostS_res (n : Nat) (a0 : List Host) : residT Tryz.prog cfg RN n 68 [.sl false .host a0] (.sl .host) = laws_toHostS_R n a0 := by kernel_rfl

theorem laws_toHostS_of (n : Nat) (a0 : List Host) {y} (h : laws_toHostS_R n a0 = some y) : laws_toHostS_T a0 = some y := presT_of (((laws_toHostS_res n a0)).trans h)

noncomputable def laws_toLetterS_R (n : Nat) (a0 : List Letter) : Option (List Letter) := br (decide ((↑a0.length : Int) = (↑a0.length : Int)) && decide (0 ≤ (↑a0.length : Int)) && (↑a0.length : Int).toNat.ble appMax) (qb (laws_toLetterS_L3 n n false a0 (List.replicate (↑a0.length : Int).toNat (zeroEl Kind.letter)) 0) fun x => br (isRetE x.fst) none (br (isExt 0 x.fst) (some x.snd.snd.fst) none)) none

theorem laws_toLetterS_res (n : Nat) (a0 : List Letter) : residT Tryz.prog cfg RN n 69 [.sl false .letter a0] (.sl .letter) = laws_toLetterS_R n a0 := by kernel_rfl

theorem laws_toLetterS_of (n : Nat) (a0 : List Letter) {y} (h : laws_toLetterS_R n a0 = some y) : laws_toLetterS_T a0 = some y := presT_of (((laws_toLetterS_res n a0)).trans h)

noncomputable def laws_toCallS_R (n : Nat) (a0 : List CallD) : Option (List CallD) := br (decide ((↑a0.length : Int) = (↑a0.length : Int)) && decide (0 ≤ (↑a0.length : Int)) && (↑a0.length : Int).toNat.ble appMax) (qb (laws_toCallS_L3 n n false a0 (List.replicate (↑a0.length : Int).toNat (zeroEl Kind.call)) 0) fun x => br (isRetE x.fst) none (br (isExt 0 x.fst) (some x.snd.snd.fst) none)) none

theorem laws_toCallS_res (n : Nat) (a0 : List CallD) : residT Tryz.prog cfg RN n 70 [.sl false .call a0] (.sl .call) = laws_toCallS_R n a0 := by kernel_rfl

theorem laws_toCallS_of (n : Nat) (a0 : List CallD) {y} (h : laws_toCallS_R n a0 = some y) : laws_toCallS_T a0 = some y := presT_of (((laws_toCallS_res n a0)).trans h)

noncomputable def laws_toTalkS_R (n : Nat) (a0 : List Talk) : Option (List Talk) := br (decide ((↑a0.length : Int) = (↑a0.length : Int)) && decide (0 ≤ (↑a0.length : Int)) && (↑a0.length : Int).toNat.ble appMax) (qb (laws_toTalkS_L3 n n false a0 (List.replicate (↑a0.length : Int).toNat (zeroEl Kind.talk)) 0) fun x => br (isRetE x.fst) none (br (isExt 0 x.fst) (some x.snd.snd.fst) none)) none

theorem laws_toTalkS_res (n : Nat) (a0 : List Talk) : residT Tryz.prog cfg RN n 71 [.sl false .talk a0] (.sl .talk) = laws_toTalkS_R n a0 := by kernel_rfl

theorem laws_toTalkS_of (n : Nat) (a0 : List Talk) {y} (h : laws_toTalkS_R n a0 = some y) : laws_toTalkS_T a0 = some y := presT_of (((laws_toTalkS_res n a0)).trans h)

noncomputable def laws_toIntS_R (n : Nat) (a0 : List Int) : Option (List Int) := br (decide ((↑a0.length : Int) = (↑a0.length : Int)) && decide (0 ≤ (↑a0.length : Int)) && (↑a0.length : Int).toNat.ble appMax) (qb (laws_toIntS_L3 n n false a0 (List.replicate (↑a0.length : Int).toNat (zeroEl Kind.int)) 0) fun x => br (isRetE x.fst) none (br (isExt 0 x.fst) (some x.snd.snd.fst) none)) none

theorem laws_toIntS_res (n : Nat) (a0 : List Int) : residT Tryz.prog cfg RN n 72 [.sl false .int a0] (.sl .int) = laws_toIntS_R n a0 := by kernel_rfl

theorem laws_toIntS_of (n : Nat) (a0 : List Int) {y} (h : laws_toIntS_R n a0 = some y) : laws_toIntS_T a0 = some y := presT_of (((laws_toIntS_res n a0)).trans h)

noncomputable def impl_isTime_R (n : Nat) (a0 : Int) : Option Bool := qb (impl_in_T a0 0 100000) fun x => some x

theorem impl_isTime_res (n : Nat) (a0 : Int) : residT Tryz.prog cfg RN n 73 [.int a0] (.bool) = impl_isTime_R n a0 := by kernel_rfl

theorem impl_isTime_of (n : Nat) (a0 : Int) {y} (h : impl_isTime_R n a0 = some y) : impl_isTime_T a0 = some y := presT_of (((impl_isTime_res n a0)).trans h)

noncomputable def impl_in_R (n : Nat) (a0 : Int) (a1 : Int) (a2 : Int) : Option Bool := br (decide (a0 ≥ a1)) (some (decide (a0 ≤ a2))) (some false)

theorem impl_in_res (n : Nat) (a0 : Int) (a1 : Int) (a2 : Int) : residT Tryz.prog cfg RN n 74 [.int a0, .int a1, .int a2] (.bool) = impl_in_R n a0 a1 a2 := by kernel_rfl

theorem impl_in_of (n : Nat) (a0 : Int) (a1 : Int) (a2 : Int) {y} (h : impl_in_R n a0 a1 a2 = some y) : impl_in_T a0 a1 a2 = some y := presT_of (((impl_in_res n a0 a1 a2)).trans h)

noncomputable def ContainsFunc_WorldOk_1_R (n : Nat) (a0 : List Term) : Option Bool := qb (slices_IndexFunc_impl_Term_impl_Term_T a0 (V.c (C.fn 76 []))) fun x => some (decide (x ≥ 0))

theorem ContainsFunc_WorldOk_1_res (n : Nat) (a0 : List Term) : residT Tryz.prog cfg RN n 75 [.sl false .term a0, .c (.fn 76 [])] (.bool) = ContainsFunc_WorldOk_1_R n a0 := by kernel_rfl

theorem ContainsFunc_WorldOk_1_of (n : Nat) (a0 : List Term) {y} (h : ContainsFunc_WorldOk_1_R n a0 = some y) : slices_ContainsFunc_impl_Term_impl_Term_T a0 (.c (.fn 76 [])) = some y := presT_of (((ContainsFunc_WorldOk_1_res n a0)).trans h)

noncomputable def ContainsFunc_formOk_1_R (n : Nat) (a0 : List Term) : Option Bool := qb (slices_IndexFunc_impl_Term_impl_Term_T a0 (V.c (C.fn 207 []))) fun x => some (decide (x ≥ 0))

theorem ContainsFunc_formOk_1_res (n : Nat) (a0 : List Term) : residT Tryz.prog cfg RN n 75 [.sl false .term a0, .c (.fn 207 [])] (.bool) = ContainsFunc_formOk_1_R n a0 := by kernel_rfl

theorem ContainsFunc_formOk_1_of (n : Nat) (a0 : List Term) {y} (h : ContainsFunc_formOk_1_R n a0 = some y) : slices_ContainsFunc_impl_Term_impl_Term_T a0 (.c (.fn 207 [])) = some y := presT_of (((ContainsFunc_formOk_1_res n a0)).trans h)

noncomputable def ContainsFunc_made_1_R (n : Nat) (a0 : List Term) (c0 : List Term) : Option Bool := qb (slices_IndexFunc_impl_Term_impl_Term_T a0 (V.c (C.fn 218 [C.f (F.ep Kind.terms c0 0)]))) fun x => some (decide (x ≥ 0))

theorem ContainsFunc_made_1_res (n : Nat) (a0 : List Term) (c0 : List Term) : residT Tryz.prog cfg RN n 75 [.sl false .term a0, .c (.fn 218 [.f (.ep .terms c0 0)])] (.bool) = ContainsFunc_made_1_R n a0 c0 := by kernel_rfl

theorem ContainsFunc_made_1_of (n : Nat) (a0 : List Term) (c0 : List Term) {y} (h : ContainsFunc_made_1_R n a0 c0 = some y) : slices_ContainsFunc_impl_Term_impl_Term_T a0 (.c (.fn 218 [.f (.ep .terms c0 0)])) = some y := presT_of (((ContainsFunc_made_1_res n a0 c0)).trans h)

noncomputable def ContainsFunc_hasTerm_1_R (n : Nat) (a0 : List Term) (c0 : Term) : Option Bool := qb (slices_IndexFunc_impl_Term_impl_Term_T a0 (V.c (C.fn 239 [C.f (F.ep Kind.term c0 0)]))) fun x => some (decide (x ≥ 0))

theorem ContainsFunc_hasTerm_1_res (n : Nat) (a0 : List Term) (c0 : Term) : residT Tryz.prog cfg RN n 75 [.sl false .term a0, .c (.fn 239 [.f (.ep .term c0 0)])] (.bool) = ContainsFunc_hasTerm_1_R n a0 c0 := by kernel_rfl

theorem ContainsFunc_hasTerm_1_of (n : Nat) (a0 : List Term) (c0 : Term) {y} (h : ContainsFunc_hasTerm_1_R n a0 c0 = some y) : slices_ContainsFunc_impl_Term_impl_Term_T a0 (.c (.fn 239 [.f (.ep .term c0 0)])) = some y := presT_of (((ContainsFunc_hasTerm_1_res n a0 c0)).trans h)

noncomputable def impl_TermOk_R (n : Nat) (a0 : Term) : Option Bool := qb (impl_TermSize_T a0) fun x => br (decide (x ≤ 200)) (qb (impl_formOk_T a0) fun x => some x) (some false)

theorem impl_TermOk_res (n : Nat) (a0 : Term) : residT Tryz.prog cfg RN n 77 [.ag (Term.cells a0)] (.bool) = impl_TermOk_R n a0 := by kernel_rfl

theorem impl_TermOk_of (n : Nat) (a0 : Term) {y} (h : impl_TermOk_R n a0 = some y) : impl_TermOk_T a0 = some y := presT_of (((impl_TermOk_res n a0)).trans h)

noncomputable def impl_CacheOk_R (n : Nat) (a0 : List Policy) : Option Bool := qb (impl_CacheOk_L2 n n false a0 false false a0 (↑a0.length : Int) 0) fun x => br (isRetE x.fst) (some x.snd.fst.snd.fst) (br (isExt 0 x.fst) (some (decide ((↑(List.length x.snd.fst.fst) : Int) ≤ 10))) none)

theorem impl_CacheOk_res (n : Nat) (a0 : List Policy) : residT Tryz.prog cfg RN n 78 [.sl false .policy a0] (.bool) = impl_CacheOk_R n a0 := by kernel_rfl

theorem impl_CacheOk_of (n : Nat) (a0 : List Policy) {y} (h : impl_CacheOk_R n a0 = some y) : impl_CacheOk_T a0 = some y := presT_of (((impl_CacheOk_res n a0)).trans h)

noncomputable def impl_hostsOk_R (n : Nat) (a0 : List Host) : Option Bool := qb (impl_hostsOk_L2 n n false a0 false false a0 (↑a0.length : Int) 0) fun x => br (isRetE x.fst) (some x.snd.fst.snd.fst) (br (isExt 0 x.fst) (some (decide ((↑(List.length x.snd.fst.fst) : Int) ≤ 4))) none)

theorem impl_hostsOk_res (n : Nat) (a0 : List Host) : residT Tryz.prog cfg RN n 79 [.sl false .host a0] (.bool) = impl_hostsOk_R n a0 := by kernel_rfl

theorem impl_hostsOk_of (n : Nat) (a0 : List Host) {y} (h : impl_hostsOk_R n a0 = some y) : impl_hostsOk_T a0 = some y := presT_of (((impl_hostsOk_res n a0)).trans h)

noncomputable def ContainsFunc_WorldOk_2_R (n : Nat) (a0 : List Letter) : Option Bool := qb (slices_IndexFunc_impl_Letter_impl_Letter_T a0 (V.c (C.fn 81 []))) fun x => some (decide (x ≥ 0))

theorem ContainsFunc_WorldOk_2_res (n : Nat) (a0 : List Letter) : residT Tryz.prog cfg RN n 80 [.sl false .letter a0, .c (.fn 81 [])] (.bool) = ContainsFunc_WorldOk_2_R n a0 := by kernel_rfl

theorem ContainsFunc_WorldOk_2_of (n : Nat) (a0 : List Letter) {y} (h : ContainsFunc_WorldOk_2_R n a0 = some y) : slices_ContainsFunc_impl_Letter_impl_Letter_T a0 (.c (.fn 81 [])) = some y := presT_of (((ContainsFunc_WorldOk_2_res n a0)).trans h)

noncomputable def ContainsFunc_JudgeSecret_1_R (n : Nat) (a0 : List Letter) (c0 : WorldD) : Option Bool := qb (slices_IndexFunc_impl_Letter_impl_Letter_T a0 (V.c (C.fn 100 [C.f (F.ep Kind.world c0 0)]))) fun x => some (decide (x ≥ 0))

theorem ContainsFunc_JudgeSecret_1_res (n : Nat) (a0 : List Letter) (c0 : WorldD) : residT Tryz.prog cfg RN n 80 [.sl false .letter a0, .c (.fn 100 [.f (.ep .world c0 0)])] (.bool) = ContainsFunc_JudgeSecret_1_R n a0 c0 := by kernel_rfl

theorem ContainsFunc_JudgeSecret_1_of (n : Nat) (a0 : List Letter) (c0 : WorldD) {y} (h : ContainsFunc_JudgeSecret_1_R n a0 c0 = some y) : slices_ContainsFunc_impl_Letter_impl_Letter_T a0 (.c (.fn 100 [.f (.ep .world c0 0)])) = some y := presT_of (((ContainsFunc_JudgeSecret_1_res n a0 c0)).trans h)

noncomputable def impl_LetterOk_R (n : Nat) (a0 : Letter) : Option Bool := qb (impl_domainOk_T a0.domain) fun x => br x (qb (impl_isAtom_T a0.body) fun x => br x (qb (impl_in_T a0.state 1 3) fun x => br x (qb (impl_in_T a0.tries 0 4) fun x => br x (qb (impl_isTime_T a0.next) fun x => some x) (some false)) (some false)) (some false)) (some false)

theorem impl_LetterOk_res (n : Nat) (a0 : Letter) : residT Tryz.prog cfg RN n 82 [.ag (Letter.cells a0)] (.bool) = impl_LetterOk_R n a0 := by kernel_rfl

theorem impl_LetterOk_of (n : Nat) (a0 : Letter) {y} (h : impl_LetterOk_R n a0 = some y) : impl_LetterOk_T a0 = some y := presT_of (((impl_LetterOk_res n a0)).trans h)

noncomputable def impl_linesOk_R (n : Nat) (a0 : WorldD) : Option Bool := qb (impl_linesOk_L2 n n false false a0.calls (↑a0.calls.length : Int) 0 a0) fun x => br (isRetE x.fst) (some x.snd.fst.snd.fst) (br (isExt 0 x.fst) (qb (impl_linesOk_L8 n n x.snd.fst.snd.fst false x.snd.snd.fst.talks (↑x.snd.snd.fst.talks.length : Int) 0 x.snd.snd.fst) fun x => br (isRetE x.fst) (some x.snd.fst.snd.fst) (br (isExt 2 x.fst) (br (decide ((↑x.snd.snd.fst.calls.length : Int) ≤ 12)) (some (decide ((↑x.snd.snd.fst.talks.length : Int) ≤ 12))) (some false)) none)) none)

theorem impl_linesOk_res (n : Nat) (a0 : WorldD) : residT Tryz.prog cfg RN n 83 [.ag (WorldD.cells a0)] (.bool) = impl_linesOk_R n a0 := by kernel_rfl

theorem impl_linesOk_of (n : Nat) (a0 : WorldD) {y} (h : impl_linesOk_R n a0 = some y) : impl_linesOk_T a0 = some y := presT_of (((impl_linesOk_res n a0)).trans h)

noncomputable def impl_toldOk_R (n : Nat) (a0 : List Int) : Option Bool := qb (impl_toldOk_L2 n n false a0 false false a0 (↑a0.length : Int) 0) fun x => br (isRetE x.fst) (some x.snd.fst.fst) (br (isExt 0 x.fst) (some true) none)

theorem impl_toldOk_res (n : Nat) (a0 : List Int) : residT Tryz.prog cfg RN n 84 [.sl false .int a0] (.bool) = impl_toldOk_R n a0 := by kernel_rfl

theorem impl_toldOk_of (n : Nat) (a0 : List Int) {y} (h : impl_toldOk_R n a0 = some y) : impl_toldOk_T a0 = some y := presT_of (((impl_toldOk_res n a0)).trans h)

noncomputable def laws_eqTermS_R (n : Nat) (a0 : List Term) (a1 : List Term) : Option Bool := br ((↑a0.length : Int) != (↑a1.length : Int)) (some false) (qb (laws_eqTermS_L4 n n false a0 false a1 false 0) fun x => br (isRetE x.fst) (some x.snd.fst.fst) (br (isExt 0 x.fst) (some true) none))

theorem laws_eqTermS_res (n : Nat) (a0 : List Term) (a1 : List Term) : residT Tryz.prog cfg RN n 85 [.sl false .term a0, .sl false .term a1] (.bool) = laws_eqTermS_R n a0 a1 := by kernel_rfl

theorem laws_eqTermS_of (n : Nat) (a0 : List Term) (a1 : List Term) {y} (h : laws_eqTermS_R n a0 a1 = some y) : laws_eqTermS_T a0 a1 = some y := presT_of (((laws_eqTermS_res n a0 a1)).trans h)

noncomputable def laws_eqPolicyS_R (n : Nat) (a0 : List Policy) (a1 : List Policy) : Option Bool := br ((↑a0.length : Int) != (↑a1.length : Int)) (some false) (qb (laws_eqPolicyS_L4 n n false a0 false a1 false 0) fun x => br (isRetE x.fst) (some x.snd.fst.fst) (br (isExt 0 x.fst) (some true) none))

theorem laws_eqPolicyS_res (n : Nat) (a0 : List Policy) (a1 : List Policy) : residT Tryz.prog cfg RN n 86 [.sl false .policy a0, .sl false .policy a1] (.bool) = laws_eqPolicyS_R n a0 a1 := by kernel_rfl

theorem laws_eqPolicyS_of (n : Nat) (a0 : List Policy) (a1 : List Policy) {y} (h : laws_eqPolicyS_R n a0 a1 = some y) : laws_eqPolicyS_T a0 a1 = some y := presT_of (((laws_eqPolicyS_res n a0 a1)).trans h)

noncomputable def laws_eqHostS_R (n : Nat) (a0 : List Host) (a1 : List Host) : Option Bool := br ((↑a0.length : Int) != (↑a1.length : Int)) (some false) (qb (laws_eqHostS_L4 n n false a0 false a1 false 0) fun x => br (isRetE x.fst) (some x.snd.fst.fst) (br (isExt 0 x.fst) (some true) none))

theorem laws_eqHostS_res (n : Nat) (a0 : List Host) (a1 : List Host) : residT Tryz.prog cfg RN n 87 [.sl false .host a0, .sl false .host a1] (.bool) = laws_eqHostS_R n a0 a1 := by kernel_rfl

theorem laws_eqHostS_of (n : Nat) (a0 : List Host) (a1 : List Host) {y} (h : laws_eqHostS_R n a0 a1 = some y) : laws_eqHostS_T a0 a1 = some y := presT_of (((laws_eqHostS_res n a0 a1)).trans h)

noncomputable def laws_eqLetterS_R (n : Nat) (a0 : List Letter) (a1 : List Letter) : Option Bool := br ((↑a0.length : Int) != (↑a1.length : Int)) (some false) (qb (laws_eqLetterS_L4 n n false a0 false a1 false 0) fun x => br (isRetE x.fst) (some x.snd.fst.fst) (br (isExt 0 x.fst) (some true) none))

theorem laws_eqLetterS_res (n : Nat) (a0 : List Letter) (a1 : List Letter) : residT Tryz.prog cfg RN n 88 [.sl false .letter a0, .sl false .letter a1] (.bool) = laws_eqLetterS_R n a0 a1 := by kernel_rfl

theorem laws_eqLetterS_of (n : Nat) (a0 : List Letter) (a1 : List Letter) {y} (h : laws_eqLetterS_R n a0 a1 = some y) : laws_eqLetterS_T a0 a1 = some y := presT_of (((laws_eqLetterS_res n a0 a1)).trans h)

noncomputable def laws_eqCallS_R (n : Nat) (a0 : List CallD) (a1 : List CallD) : Option Bool := br ((↑a0.length : Int) != (↑a1.length : Int)) (some false) (qb (laws_eqCallS_L4 n n false a0 false a1 false 0) fun x => br (isRetE x.fst) (some x.snd.fst.fst) (br (isExt 0 x.fst) (some true) none))

theorem laws_eqCallS_res (n : Nat) (a0 : List CallD) (a1 : List CallD) : residT Tryz.prog cfg RN n 89 [.sl false .call a0, .sl false .call a1] (.bool) = laws_eqCallS_R n a0 a1 := by kernel_rfl

theorem laws_eqCallS_of (n : Nat) (a0 : List CallD) (a1 : List CallD) {y} (h : laws_eqCallS_R n a0 a1 = some y) : laws_eqCallS_T a0 a1 = some y := presT_of (((laws_eqCallS_res n a0 a1)).trans h)

noncomputable def laws_eqTalkS_R (n : Nat) (a0 : List Talk) (a1 : List Talk) : Option Bool := br ((↑a0.length : Int) != (↑a1.length : Int)) (some false) (qb (laws_eqTalkS_L4 n n false a0 false a1 false 0) fun x => br (isRetE x.fst) (some x.snd.fst.fst) (br (isExt 0 x.fst) (some true) none))

theorem laws_eqTalkS_res (n : Nat) (a0 : List Talk) (a1 : List Talk) : residT Tryz.prog cfg RN n 90 [.sl false .talk a0, .sl false .talk a1] (.bool) = laws_eqTalkS_R n a0 a1 := by kernel_rfl

theorem laws_eqTalkS_of (n : Nat) (a0 : List Talk) (a1 : List Talk) {y} (h : laws_eqTalkS_R n a0 a1 = some y) : laws_eqTalkS_T a0 a1 = some y := presT_of (((laws_eqTalkS_res n a0 a1)).trans h)

noncomputable def ContainsFunc_JudgeHeld_1_R (n : Nat) (a0 : List CallD) : Option Bool := qb (slices_IndexFunc_impl_Call_impl_Call_T a0 (V.c (C.fn 92 []))) fun x => some (decide (x ≥ 0))

theorem ContainsFunc_JudgeHeld_1_res (n : Nat) (a0 : List CallD) : residT Tryz.prog cfg RN n 91 [.sl false .call a0, .c (.fn 92 [])] (.bool) = ContainsFunc_JudgeHeld_1_R n a0 := by kernel_rfl

theorem ContainsFunc_JudgeHeld_1_of (n : Nat) (a0 : List CallD) {y} (h : ContainsFunc_JudgeHeld_1_R n a0 = some y) : slices_ContainsFunc_impl_Call_impl_Call_T a0 (.c (.fn 92 [])) = some y := presT_of (((ContainsFunc_JudgeHeld_1_res n a0)).trans h)

noncomputable def ContainsFunc_JudgeTaken_1_R (n : Nat) (a0 : List CallD) (c0 : WorldD) : Option Bool := qb (slices_IndexFunc_impl_Call_impl_Call_T a0 (V.c (C.fn 94 [C.f (F.ep Kind.world c0 0)]))) fun x => some (decide (x ≥ 0))

theorem ContainsFunc_JudgeTaken_1_res (n : Nat) (a0 : List CallD) (c0 : WorldD) : residT Tryz.prog cfg RN n 91 [.sl false .call a0, .c (.fn 94 [.f (.ep .world c0 0)])] (.bool) = ContainsFunc_JudgeTaken_1_R n a0 c0 := by kernel_rfl

theorem ContainsFunc_JudgeTaken_1_of (n : Nat) (a0 : List CallD) (c0 : WorldD) {y} (h : ContainsFunc_JudgeTaken_1_R n a0 c0 = some y) : slices_ContainsFunc_impl_Call_impl_Call_T a0 (.c (.fn 94 [.f (.ep .world c0 0)])) = some y := presT_of (((ContainsFunc_JudgeTaken_1_res n a0 c0)).trans h)

noncomputable def spec_l15Got_R (n : Nat) (a0 : WorldD) (a1 : Int) : Option Bool := qb (spec_l15Got_L2 n n a1 false 0 a0) fun x => br (isRetE x.fst) (some x.snd.fst.fst) (br (isExt 0 x.fst) (some false) none)

theorem spec_l15Got_res (n : Nat) (a0 : WorldD) (a1 : Int) : residT Tryz.prog cfg RN n 93 [.ag (WorldD.cells a0), .int a1] (.bool) = spec_l15Got_R n a0 a1 := by kernel_rfl

theorem spec_l15Got_of (n : Nat) (a0 : WorldD) (a1 : Int) {y} (h : spec_l15Got_R n a0 a1 = some y) : spec_l15Got_T a0 a1 = some y := presT_of (((spec_l15Got_res n a0 a1)).trans h)

noncomputable def ContainsFunc_JudgeTaken_1_1_R (n : Nat) (a0 : List Talk) (c0 : CallD) : Option Bool := qb (slices_IndexFunc_impl_Talk_impl_Talk_T a0 (V.c (C.fn 96 [C.f (F.ep Kind.call c0 0)]))) fun x => some (decide (x ≥ 0))

theorem ContainsFunc_JudgeTaken_1_1_res (n : Nat) (a0 : List Talk) (c0 : CallD) : residT Tryz.prog cfg RN n 95 [.sl false .talk a0, .c (.fn 96 [.f (.ep .call c0 0)])] (.bool) = ContainsFunc_JudgeTaken_1_1_R n a0 c0 := by kernel_rfl

theorem ContainsFunc_JudgeTaken_1_1_of (n : Nat) (a0 : List Talk) (c0 : CallD) {y} (h : ContainsFunc_JudgeTaken_1_1_R n a0 c0 = some y) : slices_ContainsFunc_impl_Talk_impl_Talk_T a0 (.c (.fn 96 [.f (.ep .call c0 0)])) = some y := presT_of (((ContainsFunc_JudgeTaken_1_1_res n a0 c0)).trans h)

noncomputable def slices_Contains_int_int_R (n : Nat) (a0 : List Int) (a1 : Int) : Option Bool := qb (slices_Index_int_int_T a0 a1) fun x => some (decide (x ≥ 0))

theorem slices_Contains_int_int_res (n : Nat) (a0 : List Int) (a1 : Int) : residT Tryz.prog cfg RN n 97 [.sl false .int a0, .int a1] (.bool) = slices_Contains_int_int_R n a0 a1 := by kernel_rfl

theorem slices_Contains_int_int_of (n : Nat) (a0 : List Int) (a1 : Int) {y} (h : slices_Contains_int_int_R n a0 a1 = some y) : slices_Contains_int_int_T a0 a1 = some y := presT_of (((slices_Contains_int_int_res n a0 a1)).trans h)

noncomputable def spec_l15In_R (n : Nat) (a0 : List Int) (a1 : Int) : Option Bool := qb (spec_l15In_L2 n n false a0 a1 false 0) fun x => br (isRetE x.fst) (some x.snd.fst.fst) (br (isExt 0 x.fst) (some false) none)

theorem spec_l15In_res (n : Nat) (a0 : List Int) (a1 : Int) : residT Tryz.prog cfg RN n 98 [.sl false .int a0, .int a1] (.bool) = spec_l15In_R n a0 a1 := by kernel_rfl

theorem spec_l15In_of (n : Nat) (a0 : List Int) (a1 : Int) {y} (h : spec_l15In_R n a0 a1 = some y) : spec_l15In_T a0 a1 = some y := presT_of (((spec_l15In_res n a0 a1)).trans h)

noncomputable def spec_Made_R (n : Nat) (a0 : List Term) (a1 : Term) : Option Bool := qb (spec_TermOk_T a1) fun x => br x (qb (spec_l2Made_T a0 a1) fun x => some x) (some false)

theorem spec_Made_res (n : Nat) (a0 : List Term) (a1 : Term) : residT Tryz.prog cfg RN n 99 [.sl false .term a0, .ag (Term.cells a1)] (.bool) = spec_Made_R n a0 a1 := by kernel_rfl

theorem spec_Made_of (n : Nat) (a0 : List Term) (a1 : Term) {y} (h : spec_Made_R n a0 a1 = some y) : spec_Made_T a0 a1 = some y := presT_of (((spec_Made_res n a0 a1)).trans h)

noncomputable def impl_Made_R (n : Nat) (a0 : List Term) (a1 : Term) : Option Bool := qb (impl_TermOk_T a1) fun x => br x (qb (impl_made_T a0 a1) fun x => some x) (some false)

theorem impl_Made_res (n : Nat) (a0 : List Term) (a1 : Term) : residT Tryz.prog cfg RN n 101 [.sl false .term a0, .ag (Term.cells a1)] (.bool) = impl_Made_R n a0 a1 := by kernel_rfl

theorem impl_Made_of (n : Nat) (a0 : List Term) (a1 : Term) {y} (h : impl_Made_R n a0 a1 = some y) : impl_Made_T a0 a1 = some y := presT_of (((impl_Made_res n a0 a1)).trans h)

noncomputable def spec_Notes_R (n : Nat) (a0 : ByteArray) : Option (List Note × Int × Unit) := qb (spec_Notes_L4 n n a0 [] 0 0) fun x => br (isRetE x.fst) none (br (isExt 0 x.fst) (some (x.snd.snd.fst, x.snd.fst.snd.fst, PUnit.unit)) none)

theorem spec_Notes_res (n : Nat) (a0 : ByteArray) : residT Tryz.prog cfg RN n 118 [.str a0] (.tup [.sl .note, .int]) = spec_Notes_R n a0 := by kernel_rfl

theorem spec_Notes_of (n : Nat) (a0 : ByteArray) {y} (h : spec_Notes_R n a0 = some y) : spec_Notes_T a0 = some y := presT_of (((spec_Notes_res n a0)).trans h)

noncomputable def spec_Play_R (n : Nat) (a0 : List Note) : Option (List Letter) := qb (spec_Play_L3 n n false a0 [] 0) fun x => br (isRetE x.fst) none (br (isExt 0 x.fst) (some x.snd.snd.fst) none)

theorem spec_Play_res (n : Nat) (a0 : List Note) : residT Tryz.prog cfg RN n 119 [.sl false .note a0] (.sl .letter) = spec_Play_R n a0 := by kernel_rfl

theorem spec_Play_of (n : Nat) (a0 : List Note) {y} (h : spec_Play_R n a0 = some y) : spec_Play_T a0 = some y := presT_of (((spec_Play_res n a0)).trans h)

noncomputable def impl_Notes_R (n : Nat) (a0 : ByteArray) : Option (List Note × Int × Unit) := qb (impl_Notes_L3 n n a0 [] 0 [] 0) fun x => br (isRetE x.fst) (some (x.snd.snd.fst, x.snd.fst.snd.fst, PUnit.unit)) none

theorem impl_Notes_res (n : Nat) (a0 : ByteArray) : residT Tryz.prog cfg RN n 120 [.str a0] (.tup [.sl .note, .int]) = impl_Notes_R n a0 := by kernel_rfl

theorem impl_Notes_of (n : Nat) (a0 : ByteArray) {y} (h : impl_Notes_R n a0 = some y) : impl_Notes_T a0 = some y := presT_of (((impl_Notes_res n a0)).trans h)

noncomputable def slices_Equal_impl_Letter_impl_Letter_R (n : Nat) (a0 : List Letter) (a1 : List Letter) : Option Bool := br ((↑a0.length : Int) != (↑a1.length : Int)) (some false) (qb (slices_Equal_impl_Letter_impl_Letter_L4 n n false a0 false a1 false (↑a0.length : Int) 0) fun x => br (isRetE x.fst) (some x.snd.fst.fst) (br (isExt 0 x.fst) (some true) none))

theorem slices_Equal_impl_Letter_impl_Letter_res (n : Nat) (a0 : List Letter) (a1 : List Letter) : residT Tryz.prog cfg RN n 121 [.sl false .letter a0, .sl false .letter a1] (.bool) = slices_Equal_impl_Letter_impl_Letter_R n a0 a1 := by kernel_rfl

theorem slices_Equal_impl_Letter_impl_Letter_of (n : Nat) (a0 : List Letter) (a1 : List Letter) {y} (h : slices_Equal_impl_Letter_impl_Letter_R n a0 a1 = some y) : slices_Equal_impl_Letter_impl_Letter_T a0 a1 = some y := presT_of (((slices_Equal_impl_Letter_impl_Letter_res n a0 a1)).trans h)

noncomputable def impl_Play_R (n : Nat) (a0 : List Note) : Option (List Letter) := qb (impl_Play_L3 n n [] false a0 (↑a0.length : Int) 0) fun x => br (isRetE x.fst) none (br (isExt 0 x.fst) (some x.snd.snd.fst) none)

theorem impl_Play_res (n : Nat) (a0 : List Note) : residT Tryz.prog cfg RN n 122 [.sl false .note a0] (.sl .letter) = impl_Play_R n a0 := by kernel_rfl

theorem impl_Play_of (n : Nat) (a0 : List Note) {y} (h : impl_Play_R n a0 = some y) : impl_Play_T a0 = some y := presT_of (((impl_Play_res n a0)).trans h)

noncomputable def spec_l3Ok_R (n : Nat) (a0 : Term) : Option Term := qb (spec_TermOk_T a0) fun x => br (!x) (some (Term.mk 0 0 (ByteArray.mk #[]) [])) (some (Term.mk a0.op a0.n a0.s a0.kids))

theorem spec_l3Ok_res (n : Nat) (a0 : Term) : residT Tryz.prog cfg RN n 127 [.ag (Term.cells a0)] (.el .term) = spec_l3Ok_R n a0 := by kernel_rfl

theorem spec_l3Ok_of (n : Nat) (a0 : Term) {y} (h : spec_l3Ok_R n a0 = some y) : spec_l3Ok_T a0 = some y := presT_of (((spec_l3Ok_res n a0)).trans h)

noncomputable def spec_Same_R (n : Nat) (a0 : Term) (a1 : Term) : Option Bool := br (a0.op != a1.op) (some false) (br (a0.n != a1.n) (some false) (br (!a0.s.toList == a1.s.toList) (some false) (br ((↑a0.kids.length : Int) != (↑a1.kids.length : Int)) (some false) (qb (spec_Same_L4 n n false 0 a0 a1) fun x => br (isRetE x.fst) (some x.snd.fst.fst) (br (isExt 0 x.fst) (some true) none)))))

theorem spec_Same_res (n : Nat) (a0 : Term) (a1 : Term) : residT Tryz.prog cfg RN n 129 [.ag (Term.cells a0), .ag (Term.cells a1)] (.bool) = spec_Same_R n a0 a1 := by kernel_rfl

theorem spec_Same_of (n : Nat) (a0 : Term) (a1 : Term) {y} (h : spec_Same_R n a0 a1 = some y) : spec_Same_T a0 a1 = some y := presT_of (((spec_Same_res n a0 a1)).trans h)

noncomputable def spec_HostOk_R (n : Nat) (a0 : ByteArray) : Option Bool := qb (spec_l5Labels_T a0 2) fun x => some x

theorem spec_HostOk_res (n : Nat) (a0 : ByteArray) : residT Tryz.prog cfg RN n 130 [.str a0] (.bool) = spec_HostOk_R n a0 := by kernel_rfl

theorem spec_HostOk_of (n : Nat) (a0 : ByteArray) {y} (h : spec_HostOk_R n a0 = some y) : spec_HostOk_T a0 = some y := presT_of (((spec_HostOk_res n a0)).trans h)

noncomputable def impl_right_R (n : Nat) (a0 : Term) : Option Term := qb (impl_TermOk_T a0) fun x => br (!x) (some (Term.mk 0 0 (ByteArray.mk #[]) [])) (qb (impl_clone_T a0) fun x => some (Term.mk x.op x.n x.s x.kids))

theorem impl_right_res (n : Nat) (a0 : Term) : residT Tryz.prog cfg RN n 136 [.ag (Term.cells a0)] (.el .term) = impl_right_R n a0 := by kernel_rfl

theorem impl_right_of (n : Nat) (a0 : Term) {y} (h : impl_right_R n a0 = some y) : impl_right_T a0 = some y := presT_of (((impl_right_res n a0)).trans h)

noncomputable def impl_HostOk_R (n : Nat) (a0 : ByteArray) : Option Bool := qb (impl_labelsOk_T a0 2) fun x => some x

theorem impl_HostOk_res (n : Nat) (a0 : ByteArray) : residT Tryz.prog cfg RN n 137 [.str a0] (.bool) = impl_HostOk_R n a0 := by kernel_rfl

theorem impl_HostOk_of (n : Nat) (a0 : ByteArray) {y} (h : impl_HostOk_R n a0 = some y) : impl_HostOk_T a0 = some y := presT_of (((impl_HostOk_res n a0)).trans h)

noncomputable def impl_isAtom_R (n : Nat) (a0 : Int) : Option Bool := qb (impl_in_T a0 0 1000000) fun x => some x

theorem impl_isAtom_res (n : Nat) (a0 : Int) : residT Tryz.prog cfg RN n 138 [.int a0] (.bool) = impl_isAtom_R n a0 := by kernel_rfl

theorem impl_isAtom_of (n : Nat) (a0 : Int) {y} (h : impl_isAtom_R n a0 = some y) : impl_isAtom_T a0 = some y := presT_of (((impl_isAtom_res n a0)).trans h)

noncomputable def impl_noTerm_R (n : Nat) (a0 : Term) : Option Bool := qb (impl_Same_T a0 (Term.mk 0 0 (ByteArray.mk #[]) [])) fun x => some x

theorem impl_noTerm_res (n : Nat) (a0 : Term) : residT Tryz.prog cfg RN n 139 [.ag (Term.cells a0)] (.bool) = impl_noTerm_R n a0 := by kernel_rfl

theorem impl_noTerm_of (n : Nat) (a0 : Term) {y} (h : impl_noTerm_R n a0 = some y) : impl_noTerm_T a0 = some y := presT_of (((impl_noTerm_res n a0)).trans h)

noncomputable def ContainsFunc_ServerOk_1_R (n : Nat) (a0 : List Int) : Option Bool := qb (slices_IndexFunc_int_int_T a0 (V.c (C.fn 141 []))) fun x => some (decide (x ≥ 0))

theorem ContainsFunc_ServerOk_1_res (n : Nat) (a0 : List Int) : residT Tryz.prog cfg RN n 140 [.sl false .int a0, .c (.fn 141 [])] (.bool) = ContainsFunc_ServerOk_1_R n a0 := by kernel_rfl

theorem ContainsFunc_ServerOk_1_of (n : Nat) (a0 : List Int) {y} (h : ContainsFunc_ServerOk_1_R n a0 = some y) : slices_ContainsFunc_int_int_T a0 (.c (.fn 141 [])) = some y := presT_of (((ContainsFunc_ServerOk_1_res n a0)).trans h)

noncomputable def laws_szTerm_R (n : Nat) (a0 : Term) (a1 : Int) : Option Int := br (decide (IntKind.i64.wrap (a1 - (↑a0.s.size : Int)) < 0)) (some (-1)) (qb (laws_szTermS_T a0.kids (IntKind.i64.wrap (a1 - (↑a0.s.size : Int)))) fun x => br (decide (x < 0)) (some (-1)) (some x))

theorem laws_szTerm_res (n : Nat) (a0 : Term) (a1 : Int) : residT Tryz.prog cfg RN n 142 [.ag (Term.cells a0), .int a1] (.int) = laws_szTerm_R n a0 a1 := by kernel_rfl

theorem laws_szTerm_of (n : Nat) (a0 : Term) (a1 : Int) {y} (h : laws_szTerm_R n a0 a1 = some y) : laws_szTerm_T a0 a1 = some y := presT_of (((laws_szTerm_res n a0 a1)).trans h)

noncomputable def laws_szPolicy_R (n : Nat) (a0 : Policy) (a1 : Int) : Option Int := br (decide (IntKind.i64.wrap (a1 - (↑a0.domain.size : Int)) < 0)) (some (-1)) (qb (laws_szStringS_T a0.mx (IntKind.i64.wrap (a1 - (↑a0.domain.size : Int)))) fun x => br (decide (x < 0)) (some (-1)) (some x))

theorem laws_szPolicy_res (n : Nat) (a0 : Policy) (a1 : Int) : residT Tryz.prog cfg RN n 143 [.ag (Policy.cells a0), .int a1] (.int) = laws_szPolicy_R n a0 a1 := by kernel_rfl

theorem laws_szPolicy_of (n : Nat) (a0 : Policy) (a1 : Int) {y} (h : laws_szPolicy_R n a0 a1 = some y) : laws_szPolicy_T a0 a1 = some y := presT_of (((laws_szPolicy_res n a0 a1)).trans h)

noncomputable def laws_szHost_R (n : Nat) (a0 : Host) (a1 : Int) : Option Int := br (decide (IntKind.i64.wrap (a1 - (↑a0.name.size : Int)) < 0)) (some (-1)) (some (IntKind.i64.wrap (a1 - (↑a0.name.size : Int))))

theorem laws_szHost_res (n : Nat) (a0 : Host) (a1 : Int) : residT Tryz.prog cfg RN n 144 [.ag (Host.cells a0), .int a1] (.int) = laws_szHost_R n a0 a1 := by kernel_rfl

theorem laws_szHost_of (n : Nat) (a0 : Host) (a1 : Int) {y} (h : laws_szHost_R n a0 a1 = some y) : laws_szHost_T a0 a1 = some y := presT_of (((laws_szHost_res n a0 a1)).trans h)

noncomputable def laws_szLetter_R (n : Nat) (a0 : Letter) (a1 : Int) : Option Int := br (decide (IntKind.i64.wrap (a1 - (↑a0.domain.size : Int)) < 0)) (some (-1)) (some (IntKind.i64.wrap (a1 - (↑a0.domain.size : Int))))

theorem laws_szLetter_res (n : Nat) (a0 : Letter) (a1 : Int) : residT Tryz.prog cfg RN n 145 [.ag (Letter.cells a0), .int a1] (.int) = laws_szLetter_R n a0 a1 := by kernel_rfl

theorem laws_szLetter_of (n : Nat) (a0 : Letter) (a1 : Int) {y} (h : laws_szLetter_R n a0 a1 = some y) : laws_szLetter_T a0 a1 = some y := presT_of (((laws_szLetter_res n a0 a1)).trans h)

noncomputable def laws_szCall_R (n : Nat) (a0 : CallD) (a1 : Int) : Option Int := qb (laws_szClient_T a0.client a1) fun x => br (decide (x < 0)) (some (-1)) (some x)

theorem laws_szCall_res (n : Nat) (a0 : CallD) (a1 : Int) : residT Tryz.prog cfg RN n 146 [.ag (CallD.cells a0), .int a1] (.int) = laws_szCall_R n a0 a1 := by kernel_rfl

theorem laws_szCall_of (n : Nat) (a0 : CallD) (a1 : Int) {y} (h : laws_szCall_R n a0 a1 = some y) : laws_szCall_T a0 a1 = some y := presT_of (((laws_szCall_res n a0 a1)).trans h)

noncomputable def laws_szTalk_R (n : Nat) (a0 : Talk) (a1 : Int) : Option Int := qb (laws_szServer_T a0.server a1) fun x => br (decide (x < 0)) (some (-1)) (some x)

theorem laws_szTalk_res (n : Nat) (a0 : Talk) (a1 : Int) : residT Tryz.prog cfg RN n 147 [.ag (Talk.cells a0), .int a1] (.int) = laws_szTalk_R n a0 a1 := by kernel_rfl

theorem laws_szTalk_of (n : Nat) (a0 : Talk) (a1 : Int) {y} (h : laws_szTalk_R n a0 a1 = some y) : laws_szTalk_T a0 a1 = some y := presT_of (((laws_szTalk_res n a0 a1)).trans h)

noncomputable def spec_PolicyOk_R (n : Nat) (a0 : Policy) : Option Bool := qb (spec_PolicyOk_L2 n n false 0 a0) fun x => br (isRetE x.fst) (some x.snd.fst.snd.fst) (br (isExt 0 x.fst) (qb (spec_l6Domain_T x.snd.snd.fst.domain) fun x_1 => br x_1 (qb (spec_l1In_T x.snd.snd.fst.mode 0 2) fun x_2 => br x_2 (br (decide ((↑x.snd.snd.fst.mx.length : Int) ≤ 5)) (br (x.snd.snd.fst.mode == 0) (qb (spec_l1In_T x.snd.snd.fst.til 0 100000) fun x => some x) (br (decide ((↑x.snd.snd.fst.mx.length : Int) > 0)) (qb (spec_l1In_T x.snd.snd.fst.til 0 100000) fun x => some x) (some false))) (some false)) (some false)) (some false)) none)

theorem spec_PolicyOk_res (n : Nat) (a0 : Policy) : residT Tryz.prog cfg RN n 148 [.ag (Policy.cells a0)] (.bool) = spec_PolicyOk_R n a0 := by kernel_rfl

theorem spec_PolicyOk_of (n : Nat) (a0 : Policy) {y} (h : spec_PolicyOk_R n a0 = some y) : spec_PolicyOk_T a0 = some y := presT_of (((spec_PolicyOk_res n a0)).trans h)

noncomputable def spec_TermSize_R (n : Nat) (a0 : Term) : Option Int := qb (spec_TermSize_L3 n n 1 0 a0) fun x => br (isRetE x.fst) none (br (isExt 0 x.fst) (some x.snd.fst.fst) none)

theorem spec_TermSize_res (n : Nat) (a0 : Term) : residT Tryz.prog cfg RN n 149 [.ag (Term.cells a0)] (.int) = spec_TermSize_R n a0 := by kernel_rfl

theorem spec_TermSize_of (n : Nat) (a0 : Term) {y} (h : spec_TermSize_R n a0 = some y) : spec_TermSize_T a0 = some y := presT_of (((spec_TermSize_res n a0)).trans h)

noncomputable def spec_l1Right_R (n : Nat) (a0 : Term) : Option Bool := qb (spec_l1Kids_T a0.op) fun x => br (x != (↑a0.kids.length : Int)) (some false) (br (a0.op != 1) (br (a0.n != 0) (some false) (br (a0.op != 2) (br (!a0.s.toList == (ByteArray.mk #[]).toList) (some false) (qb (spec_l1In_T a0.n 0 1000000) fun x => br (!x) (some false) (br (decide ((↑a0.s.size : Int) > 300)) (some false) (qb (spec_l1Right_L4 n n false 0 a0) fun x => br (isRetE x.fst) (some x.snd.fst.snd.fst) (br (isExt 0 x.fst) (br (x.snd.snd.fst.op != 5) (some true) (qb (idx x.snd.snd.fst.kids 1) fun y => qb (idx x.snd.snd.fst.kids 0) fun y_1 => qb (spec_Before_T y y_1) fun x => some !x)) none))))) (qb (spec_l1In_T a0.n 0 1000000) fun x => br (!x) (some false) (br (decide ((↑a0.s.size : Int) > 300)) (some false) (qb (spec_l1Right_L4 n n false 0 a0) fun x => br (isRetE x.fst) (some x.snd.fst.snd.fst) (br (isExt 0 x.fst) (br (x.snd.snd.fst.op != 5) (some true) (qb (idx x.snd.snd.fst.kids 1) fun y => qb (idx x.snd.snd.fst.kids 0) fun y_1 => qb (spec_Before_T y y_1) fun x => some !x)) none)))))) (br (a0.op != 2) (br (!a0.s.toList == (ByteArray.mk #[]).toList) (some false) (qb (spec_l1In_T a0.n 0 1000000) fun x => br (!x) (some false) (br (decide ((↑a0.s.size : Int) > 300)) (some false) (qb (spec_l1Right_L4 n n false 0 a0) fun x => br (isRetE x.fst) (some x.snd.fst.snd.fst) (br (isExt 0 x.fst) (br (x.snd.snd.fst.op != 5) (some true) (qb (idx x.snd.snd.fst.kids 1) fun y => qb (idx x.snd.snd.fst.kids 0) fun y_1 => qb (spec_Before_T y y_1) fun x => some !x)) none))))) (qb (spec_l1In_T a0.n 0 1000000) fun x => br (!x) (some false) (br (decide ((↑a0.s.size : Int) > 300)) (some false) (qb (spec_l1Right_L4 n n false 0 a0) fun x => br (isRetE x.fst) (some x.snd.fst.snd.fst) (br (isExt 0 x.fst) (br (x.snd.snd.fst.op != 5) (some true) (qb (idx x.snd.snd.fst.kids 1) fun y => qb (idx x.snd.snd.fst.kids 0) fun y_1 => qb (spec_Before_T y y_1) fun x => some !x)) none))))))

theorem spec_l1Right_res (n : Nat) (a0 : Term) : residT Tryz.prog cfg RN n 150 [.ag (Term.cells a0)] (.bool) = spec_l1Right_R n a0 := by kernel_rfl

theorem spec_l1Right_of (n : Nat) (a0 : Term) {y} (h : spec_l1Right_R n a0 = some y) : spec_l1Right_T a0 = some y := presT_of (((spec_l1Right_res n a0)).trans h)

noncomputable def spec_l6Domain_R (n : Nat) (a0 : ByteArray) : Option Bool := qb (spec_l6Domain_L2 n n a0 false 0) fun x => br (isRetE x.fst) (some x.snd.fst.snd.fst) (br (isExt 0 x.fst) (qb (spec_l1In_T (↑(ByteArray.size x.snd.fst.fst) : Int) 1 10) fun x => some x) none)

theorem spec_l6Domain_res (n : Nat) (a0 : ByteArray) : residT Tryz.prog cfg RN n 151 [.str a0] (.bool) = spec_l6Domain_R n a0 := by kernel_rfl

theorem spec_l6Domain_of (n : Nat) (a0 : ByteArray) {y} (h : spec_l6Domain_R n a0 = some y) : spec_l6Domain_T a0 = some y := presT_of (((spec_l6Domain_res n a0)).trans h)

noncomputable def spec_ClientOk_R (n : Nat) (a0 : Client) : Option Bool := qb (spec_l1In_T a0.step 1 10) fun x => br (!x) (some false) (qb (spec_HostOk_T a0.host) fun x => br (!x) (some false) (qb (spec_l1In_T a0.eph 0 1000000) fun x => br (!x) (some false) (qb (spec_l1In_T a0.body 0 1000000) fun x => br (!x) (some false) (qb (spec_l1In_T a0.inn 0 100) fun x => br (!x) (some false) (qb (spec_l1In_T a0.out 0 100) fun x => br (!x) (some false) (qb (spec_Same_T a0.share (Term.mk 0 0 (ByteArray.mk #[]) [])) fun x => br a0.tls (qb (spec_TermOk_T a0.share) fun x_1 => br (!x_1) (some false) (br (!a0.tls) (br (!x) (some false) (br a0.proved (some false) (br (!a0.must) (some true) (qb (spec_l1In_T a0.step 5 9) fun x => br (!x) (some true) (br a0.tls (some a0.proved) (some false)))))) (br (!a0.must) (some true) (qb (spec_l1In_T a0.step 5 9) fun x => br (!x) (some true) (br a0.tls (some a0.proved) (some false)))))) (br (!a0.tls) (br (!x) (some false) (br a0.proved (some false) (br (!a0.must) (some true) (qb (spec_l1In_T a0.step 5 9) fun x => br (!x) (some true) (br a0.tls (some a0.proved) (some false)))))) (br (!a0.must) (some true) (qb (spec_l1In_T a0.step 5 9) fun x => br (!x) (some true) (br a0.tls (some a0.proved) (some false)))))))))))

theorem spec_ClientOk_res (n : Nat) (a0 : Client) : residT Tryz.prog cfg RN n 152 [.ag (Client.cells a0)] (.bool) = spec_ClientOk_R n a0 := by kernel_rfl

theorem spec_ClientOk_of (n : Nat) (a0 : Client) {y} (h : spec_ClientOk_R n a0 = some y) : spec_ClientOk_T a0 = some y := presT_of (((spec_ClientOk_res n a0)).trans h)

noncomputable def laws_toTerm_R (n : Nat) (a0 : Term) : Option Term := qb (laws_toTermS_T a0.kids) fun x => some (Term.mk a0.op a0.n a0.s x)

theorem laws_toTerm_res (n : Nat) (a0 : Term) : residT Tryz.prog cfg RN n 153 [.ag (Term.cells a0)] (.el .term) = laws_toTerm_R n a0 := by kernel_rfl

theorem laws_toTerm_of (n : Nat) (a0 : Term) {y} (h : laws_toTerm_R n a0 = some y) : laws_toTerm_T a0 = some y := presT_of (((laws_toTerm_res n a0)).trans h)

noncomputable def laws_toPolicy_R (n : Nat) (a0 : Policy) : Option Policy := qb (laws_toStringS_T a0.mx) fun x => some (Policy.mk a0.domain a0.mode x a0.til)

theorem laws_toPolicy_res (n : Nat) (a0 : Policy) : residT Tryz.prog cfg RN n 154 [.ag (Policy.cells a0)] (.el .policy) = laws_toPolicy_R n a0 := by kernel_rfl

theorem laws_toPolicy_of (n : Nat) (a0 : Policy) {y} (h : laws_toPolicy_R n a0 = some y) : laws_toPolicy_T a0 = some y := presT_of (((laws_toPolicy_res n a0)).trans h)

noncomputable def laws_toHost_R (n : Nat) (a0 : Host) : Option Host := some a0

theorem laws_toHost_res (n : Nat) (a0 : Host) : residT Tryz.prog cfg RN n 155 [.ag (Host.cells a0)] (.el .host) = laws_toHost_R n a0 := by kernel_rfl

theorem laws_toHost_of (n : Nat) (a0 : Host) {y} (h : laws_toHost_R n a0 = some y) : laws_toHost_T a0 = some y := presT_of (((laws_toHost_res n a0)).trans h)

noncomputable def laws_toLetter_R (n : Nat) (a0 : Letter) : Option Letter := some a0

theorem laws_toLetter_res (n : Nat) (a0 : Letter) : residT Tryz.prog cfg RN n 156 [.ag (Letter.cells a0)] (.el .letter) = laws_toLetter_R n a0 := by kernel_rfl

theorem laws_toLetter_of (n : Nat) (a0 : Letter) {y} (h : laws_toLetter_R n a0 = some y) : laws_toLetter_T a0 = some y := presT_of (((laws_toLetter_res n a0)).trans h)

noncomputable def laws_toCall_R (n : Nat) (a0 : CallD) : Option CallD := qb (laws_toClient_T a0.client) fun x => some (CallD.mk a0.letter (Client.mk x.step x.host x.must x.eph x.body (Term.mk x.share.op x.share.n x.share.s x.share.kids) x.inn x.out x.tls x.proved) a0.good)

theorem laws_toCall_res (n : Nat) (a0 : CallD) : residT Tryz.prog cfg RN n 157 [.ag (CallD.cells a0)] (.el .call) = laws_toCall_R n a0 := by kernel_rfl

theorem laws_toCall_of (n : Nat) (a0 : CallD) {y} (h : laws_toCall_R n a0 = some y) : laws_toCall_T a0 = some y := presT_of (((laws_toCall_res n a0)).trans h)

noncomputable def laws_toTalk_R (n : Nat) (a0 : Talk) : Option Talk := qb (laws_toServer_T a0.server) fun x => some (Talk.mk a0.host (Server.mk x.step x.host x.key x.eph (Term.mk x.cert.op x.cert.n x.cert.s x.cert.kids) (Term.mk x.share.op x.share.n x.share.s x.share.kids) x.inn x.out x.tls x.got))

theorem laws_toTalk_res (n : Nat) (a0 : Talk) : residT Tryz.prog cfg RN n 158 [.ag (Talk.cells a0)] (.el .talk) = laws_toTalk_R n a0 := by kernel_rfl

theorem laws_toTalk_of (n : Nat) (a0 : Talk) {y} (h : laws_toTalk_R n a0 = some y) : laws_toTalk_T a0 = some y := presT_of (((laws_toTalk_res n a0)).trans h)

noncomputable def IndexFunc_WorldOk_1_R (n : Nat) (a0 : List Term) : Option Int := qb (IndexFunc_WorldOk_1_L2 n n false a0 0 (↑a0.length : Int) 0) fun x => br (isRetE x.fst) (some x.snd.fst.fst) (br (isExt 0 x.fst) (some (-1)) none)

theorem IndexFunc_WorldOk_1_res (n : Nat) (a0 : List Term) : residT Tryz.prog cfg RN n 159 [.sl false .term a0, .c (.fn 76 [])] (.int) = IndexFunc_WorldOk_1_R n a0 := by kernel_rfl

theorem IndexFunc_WorldOk_1_of (n : Nat) (a0 : List Term) {y} (h : IndexFunc_WorldOk_1_R n a0 = some y) : slices_IndexFunc_impl_Term_impl_Term_T a0 (.c (.fn 76 [])) = some y := presT_of (((IndexFunc_WorldOk_1_res n a0)).trans h)

noncomputable def IndexFunc_formOk_1_R (n : Nat) (a0 : List Term) : Option Int := qb (IndexFunc_formOk_1_L2 n n false a0 0 (↑a0.length : Int) 0) fun x => br (isRetE x.fst) (some x.snd.fst.fst) (br (isExt 0 x.fst) (some (-1)) none)

theorem IndexFunc_formOk_1_res (n : Nat) (a0 : List Term) : residT Tryz.prog cfg RN n 159 [.sl false .term a0, .c (.fn 207 [])] (.int) = IndexFunc_formOk_1_R n a0 := by kernel_rfl

theorem IndexFunc_formOk_1_of (n : Nat) (a0 : List Term) {y} (h : IndexFunc_formOk_1_R n a0 = some y) : slices_IndexFunc_impl_Term_impl_Term_T a0 (.c (.fn 207 [])) = some y := presT_of (((IndexFunc_formOk_1_res n a0)).trans h)

noncomputable def IndexFunc_made_1_R (n : Nat) (a0 : List Term) (c0 : List Term) : Option Int := qb (IndexFunc_made_1_L2 n n false a0 c0 0 (↑a0.length : Int) 0) fun x => br (isRetE x.fst) (some x.snd.fst.fst) (br (isExt 0 x.fst) (some (-1)) none)

theorem IndexFunc_made_1_res (n : Nat) (a0 : List Term) (c0 : List Term) : residT Tryz.prog cfg RN n 159 [.sl false .term a0, .c (.fn 218 [.f (.ep .terms c0 0)])] (.int) = IndexFunc_made_1_R n a0 c0 := by kernel_rfl

theorem IndexFunc_made_1_of (n : Nat) (a0 : List Term) (c0 : List Term) {y} (h : IndexFunc_made_1_R n a0 c0 = some y) : slices_IndexFunc_impl_Term_impl_Term_T a0 (.c (.fn 218 [.f (.ep .terms c0 0)])) = some y := presT_of (((IndexFunc_made_1_res n a0 c0)).trans h)

noncomputable def IndexFunc_hasTerm_1_R (n : Nat) (a0 : List Term) (c0 : Term) : Option Int := qb (IndexFunc_hasTerm_1_L2 n n false a0 c0 0 (↑a0.length : Int) 0) fun x => br (isRetE x.fst) (some x.snd.fst.fst) (br (isExt 0 x.fst) (some (-1)) none)

theorem IndexFunc_hasTerm_1_res (n : Nat) (a0 : List Term) (c0 : Term) : residT Tryz.prog cfg RN n 159 [.sl false .term a0, .c (.fn 239 [.f (.ep .term c0 0)])] (.int) = IndexFunc_hasTerm_1_R n a0 c0 := by kernel_rfl

theorem IndexFunc_hasTerm_1_of (n : Nat) (a0 : List Term) (c0 : Term) {y} (h : IndexFunc_hasTerm_1_R n a0 c0 = some y) : slices_IndexFunc_impl_Term_impl_Term_T a0 (.c (.fn 239 [.f (.ep .term c0 0)])) = some y := presT_of (((IndexFunc_hasTerm_1_res n a0 c0)).trans h)

noncomputable def impl_TermSize_R (n : Nat) (a0 : Term) : Option Int := qb (impl_TermSize_L3 n n 1 false a0.kids (↑a0.kids.length : Int) 0) fun x => br (isRetE x.fst) none (br (isExt 0 x.fst) (some x.snd.fst.fst) none)

theorem impl_TermSize_res (n : Nat) (a0 : Term) : residT Tryz.prog cfg RN n 160 [.ag (Term.cells a0)] (.int) = impl_TermSize_R n a0 := by kernel_rfl

theorem impl_TermSize_of (n : Nat) (a0 : Term) {y} (h : impl_TermSize_R n a0 = some y) : impl_TermSize_T a0 = some y := presT_of (((impl_TermSize_res n a0)).trans h)

noncomputable def impl_formOk_R (n : Nat) (a0 : Term) : Option Bool := qb (impl_arity_T a0.op) fun x => br ((↑a0.kids.length : Int) != x) (some false) (qb (slices_ContainsFunc_impl_Term_impl_Term_T a0.kids (V.c (C.fn 207 []))) fun x => br x (some false) (br (a0.op == 1) (qb (impl_in_T a0.n 0 1000000) fun x => br x (some (a0.s.toList == (ByteArray.mk #[]).toList)) (some false)) (br (a0.op == 2) (br (a0.n == 0) (some (decide ((↑a0.s.size : Int) ≤ 300))) (some false)) (br (a0.op == 5) (br (a0.n == 0) (br (a0.s.toList == (ByteArray.mk #[]).toList) (qb (idx a0.kids 1) fun y => qb (idx a0.kids 0) fun y_1 => qb (impl_Before_T y y_1) fun x => some !x) (some false)) (some false)) (br (a0.n == 0) (some (a0.s.toList == (ByteArray.mk #[]).toList)) (some false))))))

theorem impl_formOk_res (n : Nat) (a0 : Term) : residT Tryz.prog cfg RN n 161 [.ag (Term.cells a0)] (.bool) = impl_formOk_R n a0 := by kernel_rfl

theorem impl_formOk_of (n : Nat) (a0 : Term) {y} (h : impl_formOk_R n a0 = some y) : impl_formOk_T a0 = some y := presT_of (((impl_formOk_res n a0)).trans h)

noncomputable def impl_PolicyOk_R (n : Nat) (a0 : Policy) : Option Bool := qb (impl_domainOk_T a0.domain) fun x => br (!x) (some false) (qb (impl_in_T a0.mode 0 2) fun x => br (!x) (some false) (br (decide ((↑a0.mx.length : Int) > 5)) (some false) (qb (slices_ContainsFunc_string_string_T a0.mx (V.c (C.fn 210 []))) fun x => br x (some false) (br (a0.mode == 0) (qb (impl_isTime_T a0.til) fun x => some x) (br (decide ((↑a0.mx.length : Int) > 0)) (qb (impl_isTime_T a0.til) fun x => some x) (some false))))))

theorem impl_PolicyOk_res (n : Nat) (a0 : Policy) : residT Tryz.prog cfg RN n 162 [.ag (Policy.cells a0)] (.bool) = impl_PolicyOk_R n a0 := by kernel_rfl

theorem impl_PolicyOk_of (n : Nat) (a0 : Policy) {y} (h : impl_PolicyOk_R n a0 = some y) : impl_PolicyOk_T a0 = some y := presT_of (((impl_PolicyOk_res n a0)).trans h)

noncomputable def ContainsFunc_hostsOk_1_R (n : Nat) (a0 : List Host) (c0 : Host) : Option Bool := qb (slices_IndexFunc_impl_Host_impl_Host_T a0 (V.c (C.fn 164 [C.f (F.ep Kind.host c0 0)]))) fun x => some (decide (x ≥ 0))

theorem ContainsFunc_hostsOk_1_res (n : Nat) (a0 : List Host) (c0 : Host) : residT Tryz.prog cfg RN n 163 [.sl false .host a0, .c (.fn 164 [.f (.ep .host c0 0)])] (.bool) = ContainsFunc_hostsOk_1_R n a0 c0 := by kernel_rfl

theorem ContainsFunc_hostsOk_1_of (n : Nat) (a0 : List Host) (c0 : Host) {y} (h : ContainsFunc_hostsOk_1_R n a0 c0 = some y) : slices_ContainsFunc_impl_Host_impl_Host_T a0 (.c (.fn 164 [.f (.ep .host c0 0)])) = some y := presT_of (((ContainsFunc_hostsOk_1_res n a0 c0)).trans h)

noncomputable def IndexFunc_WorldOk_2_R (n : Nat) (a0 : List Letter) : Option Int := qb (IndexFunc_WorldOk_2_L2 n n false a0 0 (↑a0.length : Int) 0) fun x => br (isRetE x.fst) (some x.snd.fst.fst) (br (isExt 0 x.fst) (some (-1)) none)

theorem IndexFunc_WorldOk_2_res (n : Nat) (a0 : List Letter) : residT Tryz.prog cfg RN n 165 [.sl false .letter a0, .c (.fn 81 [])] (.int) = IndexFunc_WorldOk_2_R n a0 := by kernel_rfl

theorem IndexFunc_WorldOk_2_of (n : Nat) (a0 : List Letter) {y} (h : IndexFunc_WorldOk_2_R n a0 = some y) : slices_IndexFunc_impl_Letter_impl_Letter_T a0 (.c (.fn 81 [])) = some y := presT_of (((IndexFunc_WorldOk_2_res n a0)).trans h)

noncomputable def IndexFunc_JudgeSecret_1_R (n : Nat) (a0 : List Letter) (c0 : WorldD) : Option Int := qb (IndexFunc_JudgeSecret_1_L2 n n false a0 c0 0 (↑a0.length : Int) 0) fun x => br (isRetE x.fst) (some x.snd.fst.fst) (br (isExt 0 x.fst) (some (-1)) none)

theorem IndexFunc_JudgeSecret_1_res (n : Nat) (a0 : List Letter) (c0 : WorldD) : residT Tryz.prog cfg RN n 165 [.sl false .letter a0, .c (.fn 100 [.f (.ep .world c0 0)])] (.int) = IndexFunc_JudgeSecret_1_R n a0 c0 := by kernel_rfl

theorem IndexFunc_JudgeSecret_1_of (n : Nat) (a0 : List Letter) (c0 : WorldD) {y} (h : IndexFunc_JudgeSecret_1_R n a0 c0 = some y) : slices_IndexFunc_impl_Letter_impl_Letter_T a0 (.c (.fn 100 [.f (.ep .world c0 0)])) = some y := presT_of (((IndexFunc_JudgeSecret_1_res n a0 c0)).trans h)

noncomputable def impl_domainOk_R (n : Nat) (a0 : ByteArray) : Option Bool := qb (impl_domainOk_L2 n n a0 false (↑a0.size : Int) 0) fun x => br (isRetE x.fst) (some x.snd.fst.snd.fst) (br (isExt 0 x.fst) (qb (impl_in_T (↑(ByteArray.size x.snd.fst.fst) : Int) 1 10) fun x => some x) none)

theorem impl_domainOk_res (n : Nat) (a0 : ByteArray) : residT Tryz.prog cfg RN n 166 [.str a0] (.bool) = impl_domainOk_R n a0 := by kernel_rfl

theorem impl_domainOk_of (n : Nat) (a0 : ByteArray) {y} (h : impl_domainOk_R n a0 = some y) : impl_domainOk_T a0 = some y := presT_of (((impl_domainOk_res n a0)).trans h)

noncomputable def impl_ClientOk_R (n : Nat) (a0 : Client) : Option Bool := qb (impl_in_T a0.step 1 10) fun x => br (!x) (some false) (qb (impl_HostOk_T a0.host) fun x => br (!x) (some false) (qb (impl_isAtom_T a0.eph) fun x => br (!x) (some false) (qb (impl_isAtom_T a0.body) fun x => br (!x) (some false) (qb (impl_in_T a0.inn 0 100) fun x => br (!x) (some false) (qb (impl_in_T a0.out 0 100) fun x => br (!x) (some false) (br a0.tls (qb (impl_TermOk_T a0.share) fun x => br (!x) (some false) (br (!a0.tls) (qb (impl_noTerm_T a0.share) fun x => br (!x) (some false) (br a0.proved (some false) (br (!a0.must) (some true) (qb (impl_in_T a0.step 5 9) fun x => br (!x) (some true) (br a0.tls (some a0.proved) (some false)))))) (br (!a0.must) (some true) (qb (impl_in_T a0.step 5 9) fun x => br (!x) (some true) (br a0.tls (some a0.proved) (some false)))))) (br (!a0.tls) (qb (impl_noTerm_T a0.share) fun x => br (!x) (some false) (br a0.proved (some false) (br (!a0.must) (some true) (qb (impl_in_T a0.step 5 9) fun x => br (!x) (some true) (br a0.tls (some a0.proved) (some false)))))) (br (!a0.must) (some true) (qb (impl_in_T a0.step 5 9) fun x => br (!x) (some true) (br a0.tls (some a0.proved) (some false)))))))))))

theorem impl_ClientOk_res (n : Nat) (a0 : Client) : residT Tryz.prog cfg RN n 167 [.ag (Client.cells a0)] (.bool) = impl_ClientOk_R n a0 := by kernel_rfl

theorem impl_ClientOk_of (n : Nat) (a0 : Client) {y} (h : impl_ClientOk_R n a0 = some y) : impl_ClientOk_T a0 = some y := presT_of (((impl_ClientOk_res n a0)).trans h)

noncomputable def laws_eqPolicy_R (n : Nat) (a0 : Policy) (a1 : Policy) : Option Bool := br (!a0.domain.toList == a1.domain.toList) (some false) (br (a0.mode != a1.mode) (some false) (qb (laws_eqStringS_T a0.mx a1.mx) fun x => br (!x) (some false) (br (a0.til != a1.til) (some false) (some true))))

theorem laws_eqPolicy_res (n : Nat) (a0 : Policy) (a1 : Policy) : residT Tryz.prog cfg RN n 168 [.ag (Policy.cells a0), .ag (Policy.cells a1)] (.bool) = laws_eqPolicy_R n a0 a1 := by kernel_rfl

theorem laws_eqPolicy_of (n : Nat) (a0 : Policy) (a1 : Policy) {y} (h : laws_eqPolicy_R n a0 a1 = some y) : laws_eqPolicy_T a0 a1 = some y := presT_of (((laws_eqPolicy_res n a0 a1)).trans h)

noncomputable def laws_eqHost_R (n : Nat) (a0 : Host) (a1 : Host) : Option Bool := br (!a0.name.toList == a1.name.toList) (some false) (br (a0.key != a1.key) (some false) (br (!a0.lost == a1.lost) (some false) (some true)))

theorem laws_eqHost_res (n : Nat) (a0 : Host) (a1 : Host) : residT Tryz.prog cfg RN n 169 [.ag (Host.cells a0), .ag (Host.cells a1)] (.bool) = laws_eqHost_R n a0 a1 := by kernel_rfl

theorem laws_eqHost_of (n : Nat) (a0 : Host) (a1 : Host) {y} (h : laws_eqHost_R n a0 a1 = some y) : laws_eqHost_T a0 a1 = some y := presT_of (((laws_eqHost_res n a0 a1)).trans h)

noncomputable def laws_eqLetter_R (n : Nat) (a0 : Letter) (a1 : Letter) : Option Bool := br (!a0.domain.toList == a1.domain.toList) (some false) (br (a0.body != a1.body) (some false) (br (a0.state != a1.state) (some false) (br (a0.tries != a1.tries) (some false) (br (a0.next != a1.next) (some false) (some true)))))

theorem laws_eqLetter_res (n : Nat) (a0 : Letter) (a1 : Letter) : residT Tryz.prog cfg RN n 170 [.ag (Letter.cells a0), .ag (Letter.cells a1)] (.bool) = laws_eqLetter_R n a0 a1 := by kernel_rfl

theorem laws_eqLetter_of (n : Nat) (a0 : Letter) (a1 : Letter) {y} (h : laws_eqLetter_R n a0 a1 = some y) : laws_eqLetter_T a0 a1 = some y := presT_of (((laws_eqLetter_res n a0 a1)).trans h)

noncomputable def laws_eqCall_R (n : Nat) (a0 : CallD) (a1 : CallD) : Option Bool := br (a0.letter != a1.letter) (some false) (qb (laws_eqClient_T a0.client a1.client) fun x => br (!x) (some false) (br (!a0.good == a1.good) (some false) (some true)))

theorem laws_eqCall_res (n : Nat) (a0 : CallD) (a1 : CallD) : residT Tryz.prog cfg RN n 171 [.ag (CallD.cells a0), .ag (CallD.cells a1)] (.bool) = laws_eqCall_R n a0 a1 := by kernel_rfl

theorem laws_eqCall_of (n : Nat) (a0 : CallD) (a1 : CallD) {y} (h : laws_eqCall_R n a0 a1 = some y) : laws_eqCall_T a0 a1 = some y := presT_of (((laws_eqCall_res n a0 a1)).trans h)

noncomputable def laws_eqTalk_R (n : Nat) (a0 : Talk) (a1 : Talk) : Option Bool := br (a0.host != a1.host) (some false) (qb (laws_eqServer_T a0.server a1.server) fun x => br (!x) (some false) (some true))

theorem laws_eqTalk_res (n : Nat) (a0 : Talk) (a1 : Talk) : residT Tryz.prog cfg RN n 172 [.ag (Talk.cells a0), .ag (Talk.cells a1)] (.bool) = laws_eqTalk_R n a0 a1 := by kernel_rfl

theorem laws_eqTalk_of (n : Nat) (a0 : Talk) (a1 : Talk) {y} (h : laws_eqTalk_R n a0 a1 = some y) : laws_eqTalk_T a0 a1 = some y := presT_of (((laws_eqTalk_res n a0 a1)).trans h)

noncomputable def IndexFunc_JudgeHeld_1_R (n : Nat) (a0 : List CallD) : Option Int := qb (IndexFunc_JudgeHeld_1_L2 n n false a0 0 (↑a0.length : Int) 0) fun x => br (isRetE x.fst) (some x.snd.fst.fst) (br (isExt 0 x.fst) (some (-1)) none)

theorem IndexFunc_JudgeHeld_1_res (n : Nat) (a0 : List CallD) : residT Tryz.prog cfg RN n 173 [.sl false .call a0, .c (.fn 92 [])] (.int) = IndexFunc_JudgeHeld_1_R n a0 := by kernel_rfl

theorem IndexFunc_JudgeHeld_1_of (n : Nat) (a0 : List CallD) {y} (h : IndexFunc_JudgeHeld_1_R n a0 = some y) : slices_IndexFunc_impl_Call_impl_Call_T a0 (.c (.fn 92 [])) = some y := presT_of (((IndexFunc_JudgeHeld_1_res n a0)).trans h)

noncomputable def IndexFunc_JudgeTaken_1_R (n : Nat) (a0 : List CallD) (c0 : WorldD) : Option Int := qb (IndexFunc_JudgeTaken_1_L2 n n false a0 c0 0 (↑a0.length : Int) 0) fun x => br (isRetE x.fst) (some x.snd.fst.fst) (br (isExt 0 x.fst) (some (-1)) none)

theorem IndexFunc_JudgeTaken_1_res (n : Nat) (a0 : List CallD) (c0 : WorldD) : residT Tryz.prog cfg RN n 173 [.sl false .call a0, .c (.fn 94 [.f (.ep .world c0 0)])] (.int) = IndexFunc_JudgeTaken_1_R n a0 c0 := by kernel_rfl

theorem IndexFunc_JudgeTaken_1_of (n : Nat) (a0 : List CallD) (c0 : WorldD) {y} (h : IndexFunc_JudgeTaken_1_R n a0 c0 = some y) : slices_IndexFunc_impl_Call_impl_Call_T a0 (.c (.fn 94 [.f (.ep .world c0 0)])) = some y := presT_of (((IndexFunc_JudgeTaken_1_res n a0 c0)).trans h)

noncomputable def IndexFunc_JudgeTaken_1_1_R (n : Nat) (a0 : List Talk) (c0 : CallD) : Option Int := qb (IndexFunc_JudgeTaken_1_1_L2 n n false a0 c0 0 (↑a0.length : Int) 0) fun x => br (isRetE x.fst) (some x.snd.fst.fst) (br (isExt 0 x.fst) (some (-1)) none)

theorem IndexFunc_JudgeTaken_1_1_res (n : Nat) (a0 : List Talk) (c0 : CallD) : residT Tryz.prog cfg RN n 174 [.sl false .talk a0, .c (.fn 96 [.f (.ep .call c0 0)])] (.int) = IndexFunc_JudgeTaken_1_1_R n a0 c0 := by kernel_rfl

theorem IndexFunc_JudgeTaken_1_1_of (n : Nat) (a0 : List Talk) (c0 : CallD) {y} (h : IndexFunc_JudgeTaken_1_1_R n a0 c0 = some y) : slices_IndexFunc_impl_Talk_impl_Talk_T a0 (.c (.fn 96 [.f (.ep .call c0 0)])) = some y := presT_of (((IndexFunc_JudgeTaken_1_1_res n a0 c0)).trans h)

noncomputable def slices_Index_int_int_R (n : Nat) (a0 : List Int) (a1 : Int) : Option Int := qb (slices_Index_int_int_L2 n n false a0 a1 0 (↑a0.length : Int) 0) fun x => br (isRetE x.fst) (some x.snd.fst.fst) (br (isExt 0 x.fst) (some (-1)) none)

theorem slices_Index_int_int_res (n : Nat) (a0 : List Int) (a1 : Int) : residT Tryz.prog cfg RN n 175 [.sl false .int a0, .int a1] (.int) = slices_Index_int_int_R n a0 a1 := by kernel_rfl

theorem slices_Index_int_int_of (n : Nat) (a0 : List Int) (a1 : Int) {y} (h : slices_Index_int_int_R n a0 a1 = some y) : slices_Index_int_int_T a0 a1 = some y := presT_of (((slices_Index_int_int_res n a0 a1)).trans h)

noncomputable def spec_l2Made_R (n : Nat) (a0 : List Term) (a1 : Term) : Option Bool := br (a1.op == 2) (some true) (qb (spec_l2Has_T a0 a1) fun x => br x (some true) (br (a1.op == 1) (some false) (br (a1.op == 5) none (qb (spec_l2Made_L9 n n false a0 false 0 a1) fun x => br (isRetE x.fst) (some x.snd.fst.fst) (br (isExt 0 x.fst) (some true) none)))))

theorem spec_l2Made_res (n : Nat) (a0 : List Term) (a1 : Term) : residT Tryz.prog cfg RN n 176 [.sl false .term a0, .ag (Term.cells a1)] (.bool) = spec_l2Made_R n a0 a1 := by kernel_rfl

theorem spec_l2Made_of (n : Nat) (a0 : List Term) (a1 : Term) {y} (h : spec_l2Made_R n a0 a1 = some y) : spec_l2Made_T a0 a1 = some y := presT_of (((spec_l2Made_res n a0 a1)).trans h)

noncomputable def impl_made_R (n : Nat) (a0 : List Term) (a1 : Term) : Option Bool := br (a1.op == 2) (some true) (qb (impl_hasTerm_T a0 a1) fun x => br x (some true) (br (a1.op == 1) (some false) (br (a1.op == 5) none (qb (slices_ContainsFunc_impl_Term_impl_Term_T a1.kids (V.c (C.fn 218 [C.f (F.ep Kind.terms (Sigma.mk Kind.terms a0).snd 0)]))) fun x => some !x))))

theorem impl_made_res (n : Nat) (a0 : List Term) (a1 : Term) : residT Tryz.prog cfg RN n 177 [.sl false .term a0, .ag (Term.cells a1)] (.bool) = impl_made_R n a0 a1 := by kernel_rfl

theorem impl_made_of (n : Nat) (a0 : List Term) (a1 : Term) {y} (h : impl_made_R n a0 a1 = some y) : impl_made_T a0 a1 = some y := presT_of (((impl_made_res n a0 a1)).trans h)

noncomputable def spec_NoteOf_R (n : Nat) (a0 : ByteArray) : Option (Note × Bool × Unit) := br ((↑a0.size : Int) == 0) (some (Note.mk 0 0 (ByteArray.mk #[]) 0 0, false, PUnit.unit)) (qb (byteAt a0 (IntKind.i64.wrap ((↑a0.size : Int) - 1))) fun b => br (b != 10) (some (Note.mk 0 0 (ByteArray.mk #[]) 0 0, false, PUnit.unit)) (qb (bnds a0.size none (some (IntKind.i64.wrap ((↑a0.size : Int) - 1)))) fun p => qb (spec_l12Words_T (a0.extract p.fst p.snd)) fun x => qb (spec_NoteOf_L7 n n a0 false x true [ByteArray.mk #[], ByteArray.mk #[116, 97, 107, 101], ByteArray.mk #[116, 114, 121], ByteArray.mk #[103, 111, 110, 101], ByteArray.mk #[98, 97, 99, 107]] 1 (Note.mk 0 0 (ByteArray.mk #[]) 0 0) (Note.mk 0 0 (ByteArray.mk #[]) 0 0)) fun x => br (isRetE x.fst) none (br (isExt 0 x.fst) (br (decide ((↑(List.length x.snd.fst.snd.snd.fst) : Int) > 1)) (qb (idx x.snd.fst.snd.snd.fst 1) fun y => qb (spec_l12Num_T y) fun x_1 => br (x.snd.snd.snd.fst.kind == 1) (br ((↑(List.length x.snd.fst.snd.snd.fst) : Int) == 4) (qb (idx x.snd.fst.snd.snd.fst 2) fun y => qb (idx x.snd.fst.snd.snd.fst 3) fun y_1 => qb (spec_l12Num_T y_1) fun x_2 => br (x.snd.snd.snd.fst.kind == 2) (br ((↑(List.length x.snd.fst.snd.snd.fst) : Int) == 3) (qb (idx x.snd.fst.snd.snd.fst 2) fun y_2 => qb (spec_l12Num_T y_2) fun x_3 => qb (spec_NoteText_T (Note.mk x.snd.snd.snd.fst.kind x_1 y x_2 x_3)) fun x_4 => br (!ByteArray.toList x_4 == ByteArray.toList x.snd.fst.fst) (some (Note.mk 0 0 (ByteArray.mk #[]) 0 0, false, PUnit.unit)) (some (Note.mk x.snd.snd.snd.fst.kind x_1 y x_2 x_3, true, PUnit.unit))) (qb (spec_NoteText_T (Note.mk x.snd.snd.snd.fst.kind x_1 y x_2 x.snd.snd.snd.fst.time)) fun x_3 => br (!ByteArray.toList x_3 == ByteArray.toList x.snd.fst.fst) (some (Note.mk 0 0 (ByteArray.mk #[]) 0 0, false, PUnit.unit)) (some (Note.mk x.snd.snd.snd.fst.kind x_1 y x_2 x.snd.snd.snd.fst.time, true, PUnit.unit)))) (qb (spec_NoteText_T (Note.mk x.snd.snd.snd.fst.kind x_1 y x_2 x.snd.snd.snd.fst.time)) fun x_3 => br (!ByteArray.toList x_3 == ByteArray.toList x.snd.fst.fst) (some (Note.mk 0 0 (ByteArray.mk #[]) 0 0, false, PUnit.unit)) (some (Note.mk x.snd.snd.snd.fst.kind x_1 y x_2 x.snd.snd.snd.fst.time, true, PUnit.unit)))) (br (x.snd.snd.snd.fst.kind == 2) (br ((↑(List.length x.snd.fst.snd.snd.fst) : Int) == 3) (qb (idx x.snd.fst.snd.snd.fst 2) fun y => qb (spec_l12Num_T y) fun x_2 => qb (spec_NoteText_T (Note.mk x.snd.snd.snd.fst.kind x_1 x.snd.snd.snd.fst.domain x.snd.snd.snd.fst.body x_2)) fun x_3 => br (!ByteArray.toList x_3 == ByteArray.toList x.snd.fst.fst) (some (Note.mk 0 0 (ByteArray.mk #[]) 0 0, false, PUnit.unit)) (some (Note.mk x.snd.snd.snd.fst.kind x_1 x.snd.snd.snd.fst.domain x.snd.snd.snd.fst.body x_2, true, PUnit.unit))) (qb (spec_NoteText_T (Note.mk x.snd.snd.snd.fst.kind x_1 x.snd.snd.snd.fst.domain x.snd.snd.snd.fst.body x.snd.snd.snd.fst.time)) fun x_2 => br (!ByteArray.toList x_2 == ByteArray.toList x.snd.fst.fst) (some (Note.mk 0 0 (ByteArray.mk #[]) 0 0, false, PUnit.unit)) (some (Note.mk x.snd.snd.snd.fst.kind x_1 x.snd.snd.snd.fst.domain x.snd.snd.snd.fst.body x.snd.snd.snd.fst.time, true, PUnit.unit)))) (qb (spec_NoteText_T (Note.mk x.snd.snd.snd.fst.kind x_1 x.snd.snd.snd.fst.domain x.snd.snd.snd.fst.body x.snd.snd.snd.fst.time)) fun x_2 => br (!ByteArray.toList x_2 == ByteArray.toList x.snd.fst.fst) (some (Note.mk 0 0 (ByteArray.mk #[]) 0 0, false, PUnit.unit)) (some (Note.mk x.snd.snd.snd.fst.kind x_1 x.snd.snd.snd.fst.domain x.snd.snd.snd.fst.body x.snd.snd.snd.fst.time, true, PUnit.unit))))) (br (x.snd.snd.snd.fst.kind == 2) (br ((↑(List.length x.snd.fst.snd.snd.fst) : Int) == 3) (qb (idx x.snd.fst.snd.snd.fst 2) fun y => qb (spec_l12Num_T y) fun x_2 => qb (spec_NoteText_T (Note.mk x.snd.snd.snd.fst.kind x_1 x.snd.snd.snd.fst.domain x.snd.snd.snd.fst.body x_2)) fun x_3 => br (!ByteArray.toList x_3 == ByteArray.toList x.snd.fst.fst) (some (Note.mk 0 0 (ByteArray.mk #[]) 0 0, false, PUnit.unit)) (some (Note.mk x.snd.snd.snd.fst.kind x_1 x.snd.snd.snd.fst.domain x.snd.snd.snd.fst.body x_2, true, PUnit.unit))) (qb (spec_NoteText_T (Note.mk x.snd.snd.snd.fst.kind x_1 x.snd.snd.snd.fst.domain x.snd.snd.snd.fst.body x.snd.snd.snd.fst.time)) fun x_2 => br (!ByteArray.toList x_2 == ByteArray.toList x.snd.fst.fst) (some (Note.mk 0 0 (ByteArray.mk #[]) 0 0, false, PUnit.unit)) (some (Note.mk x.snd.snd.snd.fst.kind x_1 x.snd.snd.snd.fst.domain x.snd.snd.snd.fst.body x.snd.snd.snd.fst.time, true, PUnit.unit)))) (qb (spec_NoteText_T (Note.mk x.snd.snd.snd.fst.kind x_1 x.snd.snd.snd.fst.domain x.snd.snd.snd.fst.body x.snd.snd.snd.fst.time)) fun x_2 => br (!ByteArray.toList x_2 == ByteArray.toList x.snd.fst.fst) (some (Note.mk 0 0 (ByteArray.mk #[]) 0 0, false, PUnit.unit)) (some (Note.mk x.snd.snd.snd.fst.kind x_1 x.snd.snd.snd.fst.domain x.snd.snd.snd.fst.body x.snd.snd.snd.fst.time, true, PUnit.unit))))) (br (x.snd.snd.snd.fst.kind == 1) (br ((↑(List.length x.snd.fst.snd.snd.fst) : Int) == 4) (qb (idx x.snd.fst.snd.snd.fst 2) fun y => qb (idx x.snd.fst.snd.snd.fst 3) fun y_1 => qb (spec_l12Num_T y_1) fun x_1 => br (x.snd.snd.snd.fst.kind == 2) (br ((↑(List.length x.snd.fst.snd.snd.fst) : Int) == 3) (qb (idx x.snd.fst.snd.snd.fst 2) fun y_2 => qb (spec_l12Num_T y_2) fun x_2 => qb (spec_NoteText_T (Note.mk x.snd.snd.snd.fst.kind x.snd.snd.snd.fst.who y x_1 x_2)) fun x_3 => br (!ByteArray.toList x_3 == ByteArray.toList x.snd.fst.fst) (some (Note.mk 0 0 (ByteArray.mk #[]) 0 0, false, PUnit.unit)) (some (Note.mk x.snd.snd.snd.fst.kind x.snd.snd.snd.fst.who y x_1 x_2, true, PUnit.unit))) (qb (spec_NoteText_T (Note.mk x.snd.snd.snd.fst.kind x.snd.snd.snd.fst.who y x_1 x.snd.snd.snd.fst.time)) fun x_2 => br (!ByteArray.toList x_2 == ByteArray.toList x.snd.fst.fst) (some (Note.mk 0 0 (ByteArray.mk #[]) 0 0, false, PUnit.unit)) (some (Note.mk x.snd.snd.snd.fst.kind x.snd.snd.snd.fst.who y x_1 x.snd.snd.snd.fst.time, true, PUnit.unit)))) (qb (spec_NoteText_T (Note.mk x.snd.snd.snd.fst.kind x.snd.snd.snd.fst.who y x_1 x.snd.snd.snd.fst.time)) fun x_2 => br (!ByteArray.toList x_2 == ByteArray.toList x.snd.fst.fst) (some (Note.mk 0 0 (ByteArray.mk #[]) 0 0, false, PUnit.unit)) (some (Note.mk x.snd.snd.snd.fst.kind x.snd.snd.snd.fst.who y x_1 x.snd.snd.snd.fst.time, true, PUnit.unit)))) (br (x.snd.snd.snd.fst.kind == 2) (br ((↑(List.length x.snd.fst.snd.snd.fst) : Int) == 3) (qb (idx x.snd.fst.snd.snd.fst 2) fun y => qb (spec_l12Num_T y) fun x_1 => qb (spec_NoteText_T (Note.mk x.snd.snd.snd.fst.kind x.snd.snd.snd.fst.who x.snd.snd.snd.fst.domain x.snd.snd.snd.fst.body x_1)) fun x_2 => br (!ByteArray.toList x_2 == ByteArray.toList x.snd.fst.fst) (some (Note.mk 0 0 (ByteArray.mk #[]) 0 0, false, PUnit.unit)) (some (Note.mk x.snd.snd.snd.fst.kind x.snd.snd.snd.fst.who x.snd.snd.snd.fst.domain x.snd.snd.snd.fst.body x_1, true, PUnit.unit))) (qb (spec_NoteText_T x.snd.snd.snd.fst) fun x_1 => br (!ByteArray.toList x_1 == ByteArray.toList x.snd.fst.fst) (some (Note.mk 0 0 (ByteArray.mk #[]) 0 0, false, PUnit.unit)) (some (x.snd.snd.snd.fst, true, PUnit.unit)))) (qb (spec_NoteText_T x.snd.snd.snd.fst) fun x_1 => br (!ByteArray.toList x_1 == ByteArray.toList x.snd.fst.fst) (some (Note.mk 0 0 (ByteArray.mk #[]) 0 0, false, PUnit.unit)) (some (x.snd.snd.snd.fst, true, PUnit.unit))))) (br (x.snd.snd.snd.fst.kind == 2) (br ((↑(List.length x.snd.fst.snd.snd.fst) : Int) == 3) (qb (idx x.snd.fst.snd.snd.fst 2) fun y => qb (spec_l12Num_T y) fun x_1 => qb (spec_NoteText_T (Note.mk x.snd.snd.snd.fst.kind x.snd.snd.snd.fst.who x.snd.snd.snd.fst.domain x.snd.snd.snd.fst.body x_1)) fun x_2 => br (!ByteArray.toList x_2 == ByteArray.toList x.snd.fst.fst) (some (Note.mk 0 0 (ByteArray.mk #[]) 0 0, false, PUnit.unit)) (some (Note.mk x.snd.snd.snd.fst.kind x.snd.snd.snd.fst.who x.snd.snd.snd.fst.domain x.snd.snd.snd.fst.body x_1, true, PUnit.unit))) (qb (spec_NoteText_T x.snd.snd.snd.fst) fun x_1 => br (!ByteArray.toList x_1 == ByteArray.toList x.snd.fst.fst) (some (Note.mk 0 0 (ByteArray.mk #[]) 0 0, false, PUnit.unit)) (some (x.snd.snd.snd.fst, true, PUnit.unit)))) (qb (spec_NoteText_T x.snd.snd.snd.fst) fun x_1 => br (!ByteArray.toList x_1 == ByteArray.toList x.snd.fst.fst) (some (Note.mk 0 0 (ByteArray.mk #[]) 0 0, false, PUnit.unit)) (some (x.snd.snd.snd.fst, true, PUnit.unit)))))) none)))

theorem spec_NoteOf_res (n : Nat) (a0 : ByteArray) : residT Tryz.prog cfg RN n 182 [.str a0] (.tup [.el .note, .bool]) = spec_NoteOf_R n a0 := by kernel_rfl

theorem spec_NoteOf_of (n : Nat) (a0 : ByteArray) {y} (h : spec_NoteOf_R n a0 = some y) : spec_NoteOf_T a0 = some y := presT_of (((spec_NoteOf_res n a0)).trans h)

noncomputable def spec_NoteOk_R (n : Nat) (a0 : Note) : Option Bool := qb (spec_l1In_T a0.kind 1 4) fun x => br (!x) (some false) (qb (spec_l1In_T a0.who 0 29) fun x => br (!x) (some false) (br (a0.kind == 1) (qb (spec_l6Domain_T a0.domain) fun x => br x (qb (spec_l1In_T a0.body 0 1000000) fun x => br x (br (a0.kind == 2) (qb (spec_l1In_T a0.time 0 100000) fun x => br x (some true) (some (a0.time == 0))) (some (a0.time == 0))) (br (a0.kind != 1) (br (a0.domain.toList == (ByteArray.mk #[]).toList) (br (a0.body == 0) (br (a0.kind == 2) (qb (spec_l1In_T a0.time 0 100000) fun x => br x (some true) (some (a0.time == 0))) (some (a0.time == 0))) (some false)) (some false)) (some false))) (br (a0.kind != 1) (br (a0.domain.toList == (ByteArray.mk #[]).toList) (br (a0.body == 0) (br (a0.kind == 2) (qb (spec_l1In_T a0.time 0 100000) fun x => br x (some true) (some (a0.time == 0))) (some (a0.time == 0))) (some false)) (some false)) (some false))) (br (a0.kind != 1) (br (a0.domain.toList == (ByteArray.mk #[]).toList) (br (a0.body == 0) (br (a0.kind == 2) (qb (spec_l1In_T a0.time 0 100000) fun x => br x (some true) (some (a0.time == 0))) (some (a0.time == 0))) (some false)) (some false)) (some false))))

theorem spec_NoteOk_res (n : Nat) (a0 : Note) : residT Tryz.prog cfg RN n 183 [.ag (Note.cells a0)] (.bool) = spec_NoteOk_R n a0 := by kernel_rfl

theorem spec_NoteOk_of (n : Nat) (a0 : Note) {y} (h : spec_NoteOk_R n a0 = some y) : spec_NoteOk_T a0 = some y := presT_of (((spec_NoteOk_res n a0)).trans h)

noncomputable def spec_LetterTry_R (n : Nat) (a0 : Letter) (a1 : Int) : Option (Letter × Bool × Unit) := qb (spec_LetterOk_T a0) fun x => br (!x) (some (a0, false, PUnit.unit)) (br (a0.state != 1) (some (a0, false, PUnit.unit)) (qb (spec_l1In_T a1 a0.next 100000) fun x => br (!x) (some (a0, false, PUnit.unit)) (br (a0.tries == 4) (some (a0, false, PUnit.unit)) (qb (ge0 (IntKind.i64.wrap (a0.tries + 1))) fun y => qb (spec_l1Min_T 100000 (IntKind.i64.wrap (a1 + IntKind.i64.wrap (10 * 2 ^ min (IntKind.i64.wrap (a0.tries + 1)).toNat IntKind.i64.bits)))) fun x => some (Letter.mk a0.domain a0.body a0.state (IntKind.i64.wrap (a0.tries + 1)) x, true, PUnit.unit)))))

theorem spec_LetterTry_res (n : Nat) (a0 : Letter) (a1 : Int) : residT Tryz.prog cfg RN n 184 [.ag (Letter.cells a0), .int a1] (.tup [.el .letter, .bool]) = spec_LetterTry_R n a0 a1 := by kernel_rfl

theorem spec_LetterTry_of (n : Nat) (a0 : Letter) (a1 : Int) {y} (h : spec_LetterTry_R n a0 a1 = some y) : spec_LetterTry_T a0 a1 = some y := presT_of (((spec_LetterTry_res n a0 a1)).trans h)

noncomputable def spec_LetterEnd_R (n : Nat) (a0 : Letter) (a1 : Bool) : Option Letter := br (a0.state != 1) (some a0) (br a1 (some (Letter.mk a0.domain a0.body 2 a0.tries a0.next)) (some (Letter.mk a0.domain a0.body 3 a0.tries a0.next)))

theorem spec_LetterEnd_res (n : Nat) (a0 : Letter) (a1 : Bool) : residT Tryz.prog cfg RN n 185 [.ag (Letter.cells a0), .bool a1] (.el .letter) = spec_LetterEnd_R n a0 a1 := by kernel_rfl

theorem spec_LetterEnd_of (n : Nat) (a0 : Letter) (a1 : Bool) {y} (h : spec_LetterEnd_R n a0 a1 = some y) : spec_LetterEnd_T a0 a1 = some y := presT_of (((spec_LetterEnd_res n a0 a1)).trans h)

noncomputable def impl_NoteOf_R (n : Nat) (a0 : ByteArray) : Option (Note × Bool × Unit) := qb (strings_TrimSuffix_T a0 (ByteArray.mk #[10])) fun x => qb (strings_Split_T x (ByteArray.mk #[32])) fun x => qb (impl_noteNumber_T x 1) fun x_1 => qb (idx x 0) fun y => br (ByteArray.toList y == (ByteArray.mk #[116, 97, 107, 101]).toList) (qb (impl_noteNumber_T x 3) fun x_2 => br (decide ((↑(List.length x) : Int) > 2)) (qb (idx x 2) fun y => qb (impl_NoteText_T (Note.mk 1 x_1 y x_2 0)) fun x => br (ByteArray.toList x == (ByteArray.mk #[]).toList) (some (Note.mk 0 0 (ByteArray.mk #[]) 0 0, false, PUnit.unit)) (br (!ByteArray.toList x == a0.toList) (some (Note.mk 0 0 (ByteArray.mk #[]) 0 0, false, PUnit.unit)) (some (Note.mk 1 x_1 y x_2 0, true, PUnit.unit)))) (qb (impl_NoteText_T (Note.mk 1 x_1 (ByteArray.mk #[]) x_2 0)) fun x => br (ByteArray.toList x == (ByteArray.mk #[]).toList) (some (Note.mk 0 0 (ByteArray.mk #[]) 0 0, false, PUnit.unit)) (br (!ByteArray.toList x == a0.toList) (some (Note.mk 0 0 (ByteArray.mk #[]) 0 0, false, PUnit.unit)) (some (Note.mk 1 x_1 (ByteArray.mk #[]) x_2 0, true, PUnit.unit))))) (br (ByteArray.toList y == (ByteArray.mk #[116, 114, 121]).toList) (qb (impl_noteNumber_T x 2) fun x => qb (impl_NoteText_T (Note.mk 2 x_1 (ByteArray.mk #[]) 0 x)) fun x_2 => br (ByteArray.toList x_2 == (ByteArray.mk #[]).toList) (some (Note.mk 0 0 (ByteArray.mk #[]) 0 0, false, PUnit.unit)) (br (!ByteArray.toList x_2 == a0.toList) (some (Note.mk 0 0 (ByteArray.mk #[]) 0 0, false, PUnit.unit)) (some (Note.mk 2 x_1 (ByteArray.mk #[]) 0 x, true, PUnit.unit)))) (br (ByteArray.toList y == (ByteArray.mk #[103, 111, 110, 101]).toList) (qb (impl_NoteText_T (Note.mk 3 x_1 (ByteArray.mk #[]) 0 0)) fun x => br (ByteArray.toList x == (ByteArray.mk #[]).toList) (some (Note.mk 0 0 (ByteArray.mk #[]) 0 0, false, PUnit.unit)) (br (!ByteArray.toList x == a0.toList) (some (Note.mk 0 0 (ByteArray.mk #[]) 0 0, false, PUnit.unit)) (some (Note.mk 3 x_1 (ByteArray.mk #[]) 0 0, true, PUnit.unit)))) (br (ByteArray.toList y == (ByteArray.mk #[98, 97, 99, 107]).toList) (qb (impl_NoteText_T (Note.mk 4 x_1 (ByteArray.mk #[]) 0 0)) fun x => br (ByteArray.toList x == (ByteArray.mk #[]).toList) (some (Note.mk 0 0 (ByteArray.mk #[]) 0 0, false, PUnit.unit)) (br (!ByteArray.toList x == a0.toList) (some (Note.mk 0 0 (ByteArray.mk #[]) 0 0, false, PUnit.unit)) (some (Note.mk 4 x_1 (ByteArray.mk #[]) 0 0, true, PUnit.unit)))) (qb (impl_NoteText_T (Note.mk 0 x_1 (ByteArray.mk #[]) 0 0)) fun x => br (ByteArray.toList x == (ByteArray.mk #[]).toList) (some (Note.mk 0 0 (ByteArray.mk #[]) 0 0, false, PUnit.unit)) (br (!ByteArray.toList x == a0.toList) (some (Note.mk 0 0 (ByteArray.mk #[]) 0 0, false, PUnit.unit)) (some (Note.mk 0 x_1 (ByteArray.mk #[]) 0 0, true, PUnit.unit)))))))

theorem impl_NoteOf_res (n : Nat) (a0 : ByteArray) : residT Tryz.prog cfg RN n 187 [.str a0] (.tup [.el .note, .bool]) = impl_NoteOf_R n a0 := by kernel_rfl

theorem impl_NoteOf_of (n : Nat) (a0 : ByteArray) {y} (h : impl_NoteOf_R n a0 = some y) : impl_NoteOf_T a0 = some y := presT_of (((impl_NoteOf_res n a0)).trans h)

noncomputable def impl_NoteOk_R (n : Nat) (a0 : Note) : Option Bool := qb (impl_in_T a0.who 0 29) fun x => br (!x) (some false) (br (a0.kind == 1) (qb (impl_domainOk_T a0.domain) fun x => br x (qb (impl_isAtom_T a0.body) fun x => br x (some (a0.kind == a0.kind && (a0.who == a0.who && (a0.domain == a0.domain && (a0.body == a0.body && (a0.time == 0 && true)))))) (some false)) (some false)) (br (a0.kind == 2) (qb (impl_isTime_T a0.time) fun x => br x (some (a0.kind == a0.kind && (a0.who == a0.who && (a0.domain == ByteArray.mk #[] && (a0.body == 0 && (a0.time == a0.time && true)))))) (some false)) (br (a0.kind == 3) (some (a0.kind == a0.kind && (a0.who == a0.who && (a0.domain == ByteArray.mk #[] && (a0.body == 0 && (a0.time == 0 && true)))))) (br (a0.kind == 4) (some (a0.kind == a0.kind && (a0.who == a0.who && (a0.domain == ByteArray.mk #[] && (a0.body == 0 && (a0.time == 0 && true)))))) (some false)))))

theorem impl_NoteOk_res (n : Nat) (a0 : Note) : residT Tryz.prog cfg RN n 188 [.ag (Note.cells a0)] (.bool) = impl_NoteOk_R n a0 := by kernel_rfl

theorem impl_NoteOk_of (n : Nat) (a0 : Note) {y} (h : impl_NoteOk_R n a0 = some y) : impl_NoteOk_T a0 = some y := presT_of (((impl_NoteOk_res n a0)).trans h)

noncomputable def impl_LetterTry_R (n : Nat) (a0 : Letter) (a1 : Int) : Option (Letter × Bool × Unit) := qb (impl_LetterOk_T a0) fun x => br (!x) (some (a0, false, PUnit.unit)) (br (a0.state != 1) (some (a0, false, PUnit.unit)) (qb (impl_isTime_T a1) fun x => br (!x) (some (a0, false, PUnit.unit)) (br (decide (a0.next > a1)) (some (a0, false, PUnit.unit)) (br (a0.tries == 4) (some (a0, false, PUnit.unit)) (qb (ge0 (IntKind.i64.wrap (a0.tries + 1))) fun y => some (Letter.mk a0.domain a0.body a0.state (IntKind.i64.wrap (a0.tries + 1)) (bif false then if 100000 < IntKind.i64.wrap (a1 + IntKind.i64.wrap (10 * 2 ^ min (IntKind.i64.wrap (a0.tries + 1)).toNat IntKind.i64.bits)) then IntKind.i64.wrap (a1 + IntKind.i64.wrap (10 * 2 ^ min (IntKind.i64.wrap (a0.tries + 1)).toNat IntKind.i64.bits)) else 100000 else if IntKind.i64.wrap (a1 + IntKind.i64.wrap (10 * 2 ^ min (IntKind.i64.wrap (a0.tries + 1)).toNat IntKind.i64.bits)) < 100000 then IntKind.i64.wrap (a1 + IntKind.i64.wrap (10 * 2 ^ min (IntKind.i64.wrap (a0.tries + 1)).toNat IntKind.i64.bits)) else 100000), true, PUnit.unit))))))

theorem impl_LetterTry_res (n : Nat) (a0 : Letter) (a1 : Int) : residT Tryz.prog cfg RN n 189 [.ag (Letter.cells a0), .int a1] (.tup [.el .letter, .bool]) = impl_LetterTry_R n a0 a1 := by kernel_rfl

theorem impl_LetterTry_of (n : Nat) (a0 : Letter) (a1 : Int) {y} (h : impl_LetterTry_R n a0 a1 = some y) : impl_LetterTry_T a0 a1 = some y := presT_of (((impl_LetterTry_res n a0 a1)).trans h)

noncomputable def impl_LetterEnd_R (n : Nat) (a0 : Letter) (a1 : Bool) : Option Letter := br (a0.state != 1) (some a0) (br a1 (some (Letter.mk a0.domain a0.body 2 a0.tries a0.next)) (some (Letter.mk a0.domain a0.body 3 a0.tries a0.next)))

theorem impl_LetterEnd_res (n : Nat) (a0 : Letter) (a1 : Bool) : residT Tryz.prog cfg RN n 190 [.ag (Letter.cells a0), .bool a1] (.el .letter) = impl_LetterEnd_R n a0 a1 := by kernel_rfl

theorem impl_LetterEnd_of (n : Nat) (a0 : Letter) (a1 : Bool) {y} (h : impl_LetterEnd_R n a0 a1 = some y) : impl_LetterEnd_T a0 a1 = some y := presT_of (((impl_LetterEnd_res n a0 a1)).trans h)

noncomputable def spec_l1Digits_R (n : Nat) (a0 : Int) : Option ByteArray := br (a0 == 0) (some (ByteArray.mk #[48])) (qb (spec_l1Digits_L5 n n a0 (decide (a0 < 0)) (ByteArray.mk #[])) fun x => br (isRetE x.fst) none (br (isExt 0 x.fst) (br x.snd.fst.fst (qb (catOk (ByteArray.mk #[45]) x.snd.fst.snd.fst) fun y => some (ByteArray.mk #[45] ++ x.snd.fst.snd.fst)) (some x.snd.fst.snd.fst)) none))

theorem spec_l1Digits_res (n : Nat) (a0 : Int) : residT Tryz.prog cfg RN n 192 [.int a0] (.str) = spec_l1Digits_R n a0 := by kernel_rfl

theorem spec_l1Digits_of (n : Nat) (a0 : Int) {y} (h : spec_l1Digits_R n a0 = some y) : spec_l1Digits_T a0 = some y := presT_of (((spec_l1Digits_res n a0)).trans h)

noncomputable def spec_l5Labels_R (n : Nat) (a0 : ByteArray) (a1 : Int) : Option Bool := qb (spec_Labels_T a0) fun x => qb (spec_l5Labels_L3 n n a0 a1 false false x 0) fun x => br (isRetE x.fst) (some x.snd.fst.snd.snd.fst) (br (isExt 0 x.fst) (br (decide ((↑(List.length x.snd.fst.snd.snd.snd.fst) : Int) ≥ x.snd.fst.snd.fst)) (some (decide ((↑(ByteArray.size x.snd.fst.fst) : Int) ≤ 60))) (some false)) none)

theorem spec_l5Labels_res (n : Nat) (a0 : ByteArray) (a1 : Int) : residT Tryz.prog cfg RN n 193 [.str a0, .int a1] (.bool) = spec_l5Labels_R n a0 a1 := by kernel_rfl

theorem spec_l5Labels_of (n : Nat) (a0 : ByteArray) (a1 : Int) {y} (h : spec_l5Labels_R n a0 a1 = some y) : spec_l5Labels_T a0 a1 = some y := presT_of (((spec_l5Labels_res n a0 a1)).trans h)

noncomputable def impl_clone_R (n : Nat) (a0 : Term) : Option Term := qb (impl_cloneAll_T a0.kids) fun x => some (Term.mk a0.op a0.n a0.s x)

theorem impl_clone_res (n : Nat) (a0 : Term) : residT Tryz.prog cfg RN n 195 [.ag (Term.cells a0)] (.el .term) = impl_clone_R n a0 := by kernel_rfl

theorem impl_clone_of (n : Nat) (a0 : Term) {y} (h : impl_clone_R n a0 = some y) : impl_clone_T a0 = some y := presT_of (((impl_clone_res n a0)).trans h)

noncomputable def impl_labelsOk_R (n : Nat) (a0 : ByteArray) (a1 : Int) : Option Bool := qb (impl_Labels_T a0) fun x => br (decide ((↑a0.size : Int) ≤ 60)) (br (decide ((↑(List.length x) : Int) ≥ a1)) (qb (slices_ContainsFunc_string_string_T x (V.c (C.fn 233 []))) fun x => some !x) (some false)) (some false)

theorem impl_labelsOk_res (n : Nat) (a0 : ByteArray) (a1 : Int) : residT Tryz.prog cfg RN n 196 [.str a0, .int a1] (.bool) = impl_labelsOk_R n a0 a1 := by kernel_rfl

theorem impl_labelsOk_of (n : Nat) (a0 : ByteArray) (a1 : Int) {y} (h : impl_labelsOk_R n a0 a1 = some y) : impl_labelsOk_T a0 a1 = some y := presT_of (((impl_labelsOk_res n a0 a1)).trans h)

noncomputable def impl_Same_R (n : Nat) (a0 : Term) (a1 : Term) : Option Bool := br (a0.op == a1.op) (br (a0.n == a1.n) (br (a0.s.toList == a1.s.toList) (qb (slices_EqualFunc_impl_Term_impl_Term_impl_Term_impl_Term_T a0.kids a1.kids (V.c (C.fn 197 []))) fun x => some x) (some false)) (some false)) (some false)

theorem impl_Same_res (n : Nat) (a0 : Term) (a1 : Term) : residT Tryz.prog cfg RN n 197 [.ag (Term.cells a0), .ag (Term.cells a1)] (.bool) = impl_Same_R n a0 a1 := by kernel_rfl

theorem impl_Same_of (n : Nat) (a0 : Term) (a1 : Term) {y} (h : impl_Same_R n a0 a1 = some y) : impl_Same_T a0 a1 = some y := presT_of (((impl_Same_res n a0 a1)).trans h)

noncomputable def IndexFunc_ServerOk_1_R (n : Nat) (a0 : List Int) : Option Int := qb (IndexFunc_ServerOk_1_L2 n n false a0 0 (↑a0.length : Int) 0) fun x => br (isRetE x.fst) (some x.snd.fst.fst) (br (isExt 0 x.fst) (some (-1)) none)

theorem IndexFunc_ServerOk_1_res (n : Nat) (a0 : List Int) : residT Tryz.prog cfg RN n 198 [.sl false .int a0, .c (.fn 141 [])] (.int) = IndexFunc_ServerOk_1_R n a0 := by kernel_rfl

theorem IndexFunc_ServerOk_1_of (n : Nat) (a0 : List Int) {y} (h : IndexFunc_ServerOk_1_R n a0 = some y) : slices_IndexFunc_int_int_T a0 (.c (.fn 141 [])) = some y := presT_of (((IndexFunc_ServerOk_1_res n a0)).trans h)

noncomputable def laws_szClient_R (n : Nat) (a0 : Client) (a1 : Int) : Option Int := br (decide (IntKind.i64.wrap (a1 - (↑a0.host.size : Int)) < 0)) (some (-1)) (qb (laws_szTerm_T a0.share (IntKind.i64.wrap (a1 - (↑a0.host.size : Int)))) fun x => br (decide (x < 0)) (some (-1)) (some x))

theorem laws_szClient_res (n : Nat) (a0 : Client) (a1 : Int) : residT Tryz.prog cfg RN n 199 [.ag (Client.cells a0), .int a1] (.int) = laws_szClient_R n a0 a1 := by kernel_rfl

theorem laws_szClient_of (n : Nat) (a0 : Client) (a1 : Int) {y} (h : laws_szClient_R n a0 a1 = some y) : laws_szClient_T a0 a1 = some y := presT_of (((laws_szClient_res n a0 a1)).trans h)

noncomputable def laws_szServer_R (n : Nat) (a0 : Server) (a1 : Int) : Option Int := br (decide (IntKind.i64.wrap (a1 - (↑a0.host.size : Int)) < 0)) (some (-1)) (qb (laws_szTerm_T a0.cert (IntKind.i64.wrap (a1 - (↑a0.host.size : Int)))) fun x => br (decide (x < 0)) (some (-1)) (qb (laws_szTerm_T a0.share x) fun x => br (decide (x < 0)) (some (-1)) (qb (laws_szIntS_T a0.got x) fun x => br (decide (x < 0)) (some (-1)) (some x))))

theorem laws_szServer_res (n : Nat) (a0 : Server) (a1 : Int) : residT Tryz.prog cfg RN n 200 [.ag (Server.cells a0), .int a1] (.int) = laws_szServer_R n a0 a1 := by kernel_rfl

theorem laws_szServer_of (n : Nat) (a0 : Server) (a1 : Int) {y} (h : laws_szServer_R n a0 a1 = some y) : laws_szServer_T a0 a1 = some y := presT_of (((laws_szServer_res n a0 a1)).trans h)

noncomputable def spec_PatternOk_R (n : Nat) (a0 : ByteArray) : Option Bool := qb (spec_HostOk_T a0) fun x => br x (some true) (qb (spec_l5Star_T a0) fun x => br x (qb (bnds a0.size (some 2) none) fun p => qb (spec_l5Labels_T (a0.extract p.fst p.snd) 1) fun x => some x) (some false))

theorem spec_PatternOk_res (n : Nat) (a0 : ByteArray) : residT Tryz.prog cfg RN n 201 [.str a0] (.bool) = spec_PatternOk_R n a0 := by kernel_rfl

theorem spec_PatternOk_of (n : Nat) (a0 : ByteArray) {y} (h : spec_PatternOk_R n a0 = some y) : spec_PatternOk_T a0 = some y := presT_of (((spec_PatternOk_res n a0)).trans h)

noncomputable def spec_l1Kids_R (n : Nat) (a0 : Int) : Option Int := br (a0 == 1) (some 0) (br (a0 == 2) (some 0) (br (a0 == 4) (some 1) (br (a0 == 6) (some 1) (br (a0 == 3) (some 2) (br (a0 == 5) (some 2) (br (a0 == 7) (some 2) (br (a0 == 8) (some 2) (some (-1)))))))))

theorem spec_l1Kids_res (n : Nat) (a0 : Int) : residT Tryz.prog cfg RN n 202 [.int a0] (.int) = spec_l1Kids_R n a0 := by kernel_rfl

theorem spec_l1Kids_of (n : Nat) (a0 : Int) {y} (h : spec_l1Kids_R n a0 = some y) : spec_l1Kids_T a0 = some y := presT_of (((spec_l1Kids_res n a0)).trans h)

noncomputable def spec_Before_R (n : Nat) (a0 : Term) (a1 : Term) : Option Bool := br (a0.op != a1.op) (some (decide (a0.op < a1.op))) (br (a0.n != a1.n) (some (decide (a0.n < a1.n))) (br (!a0.s.toList == a1.s.toList) (some (Op.bytesLess a0.s.toList a1.s.toList)) (br ((↑a0.kids.length : Int) != (↑a1.kids.length : Int)) (some (decide ((↑a0.kids.length : Int) < (↑a1.kids.length : Int)))) (qb (spec_Before_L10 n n false 0 a0 a1) fun x => br (isRetE x.fst) (some x.snd.fst.fst) (br (isExt 1 x.fst) (some false) none)))))

theorem spec_Before_res (n : Nat) (a0 : Term) (a1 : Term) : residT Tryz.prog cfg RN n 203 [.ag (Term.cells a0), .ag (Term.cells a1)] (.bool) = spec_Before_R n a0 a1 := by kernel_rfl

theorem spec_Before_of (n : Nat) (a0 : Term) (a1 : Term) {y} (h : spec_Before_R n a0 a1 = some y) : spec_Before_T a0 a1 = some y := presT_of (((spec_Before_res n a0 a1)).trans h)

noncomputable def laws_toClient_R (n : Nat) (a0 : Client) : Option Client := qb (laws_toTerm_T a0.share) fun x => some (Client.mk a0.step a0.host a0.must a0.eph a0.body (Term.mk x.op x.n x.s x.kids) a0.inn a0.out a0.tls a0.proved)

theorem laws_toClient_res (n : Nat) (a0 : Client) : residT Tryz.prog cfg RN n 204 [.ag (Client.cells a0)] (.client) = laws_toClient_R n a0 := by kernel_rfl

theorem laws_toClient_of (n : Nat) (a0 : Client) {y} (h : laws_toClient_R n a0 = some y) : laws_toClient_T a0 = some y := presT_of (((laws_toClient_res n a0)).trans h)

noncomputable def laws_toServer_R (n : Nat) (a0 : Server) : Option Server := qb (laws_toTerm_T a0.cert) fun x => qb (laws_toTerm_T a0.share) fun x_1 => qb (laws_toIntS_T a0.got) fun x_2 => some (Server.mk a0.step a0.host a0.key a0.eph (Term.mk x.op x.n x.s x.kids) (Term.mk x_1.op x_1.n x_1.s x_1.kids) a0.inn a0.out a0.tls x_2)

theorem laws_toServer_res (n : Nat) (a0 : Server) : residT Tryz.prog cfg RN n 205 [.ag (Server.cells a0)] (.server) = laws_toServer_R n a0 := by kernel_rfl

theorem laws_toServer_of (n : Nat) (a0 : Server) {y} (h : laws_toServer_R n a0 = some y) : laws_toServer_T a0 = some y := presT_of (((laws_toServer_res n a0)).trans h)

noncomputable def impl_arity_R (n : Nat) (a0 : Int) : Option Int := br (a0 == 1) (some 0) (br (a0 == 2) (some 0) (br (a0 == 4) (some 1) (br (a0 == 6) (some 1) (br (a0 == 3) (some 2) (br (a0 == 5) (some 2) (br (a0 == 7) (some 2) (br (a0 == 8) (some 2) (some (-1)))))))))

theorem impl_arity_res (n : Nat) (a0 : Int) : residT Tryz.prog cfg RN n 206 [.int a0] (.int) = impl_arity_R n a0 := by kernel_rfl

theorem impl_arity_of (n : Nat) (a0 : Int) {y} (h : impl_arity_R n a0 = some y) : impl_arity_T a0 = some y := presT_of (((impl_arity_res n a0)).trans h)

noncomputable def impl_Before_R (n : Nat) (a0 : Term) (a1 : Term) : Option Bool := br (a0.op != a1.op) (some (decide (a0.op < a1.op))) (br (a0.n != a1.n) (some (decide (a0.n < a1.n))) (br (!a0.s.toList == a1.s.toList) (some (Op.bytesLess a0.s.toList a1.s.toList)) (br ((↑a0.kids.length : Int) != (↑a1.kids.length : Int)) (some (decide ((↑a0.kids.length : Int) < (↑a1.kids.length : Int)))) (qb (impl_Before_L10 n n false false a0.kids (↑a0.kids.length : Int) 0 a1) fun x => br (isRetE x.fst) (some x.snd.fst.fst) (br (isExt 1 x.fst) (some false) none)))))

theorem impl_Before_res (n : Nat) (a0 : Term) (a1 : Term) : residT Tryz.prog cfg RN n 208 [.ag (Term.cells a0), .ag (Term.cells a1)] (.bool) = impl_Before_R n a0 a1 := by kernel_rfl

theorem impl_Before_of (n : Nat) (a0 : Term) (a1 : Term) {y} (h : impl_Before_R n a0 a1 = some y) : impl_Before_T a0 a1 = some y := presT_of (((impl_Before_res n a0 a1)).trans h)

noncomputable def ContainsFunc_PolicyOk_1_R (n : Nat) (a0 : List ByteArray) : Option Bool := qb (slices_IndexFunc_string_string_T a0 (V.c (C.fn 210 []))) fun x => some (decide (x ≥ 0))

theorem ContainsFunc_PolicyOk_1_res (n : Nat) (a0 : List ByteArray) : residT Tryz.prog cfg RN n 209 [.sl false .str a0, .c (.fn 210 [])] (.bool) = ContainsFunc_PolicyOk_1_R n a0 := by kernel_rfl

theorem ContainsFunc_PolicyOk_1_of (n : Nat) (a0 : List ByteArray) {y} (h : ContainsFunc_PolicyOk_1_R n a0 = some y) : slices_ContainsFunc_string_string_T a0 (.c (.fn 210 [])) = some y := presT_of (((ContainsFunc_PolicyOk_1_res n a0)).trans h)

noncomputable def ContainsFunc_labelsOk_1_R (n : Nat) (a0 : List ByteArray) : Option Bool := qb (slices_IndexFunc_string_string_T a0 (V.c (C.fn 233 []))) fun x => some (decide (x ≥ 0))

theorem ContainsFunc_labelsOk_1_res (n : Nat) (a0 : List ByteArray) : residT Tryz.prog cfg RN n 209 [.sl false .str a0, .c (.fn 233 [])] (.bool) = ContainsFunc_labelsOk_1_R n a0 := by kernel_rfl

theorem ContainsFunc_labelsOk_1_of (n : Nat) (a0 : List ByteArray) {y} (h : ContainsFunc_labelsOk_1_R n a0 = some y) : slices_ContainsFunc_string_string_T a0 (.c (.fn 233 [])) = some y := presT_of (((ContainsFunc_labelsOk_1_res n a0)).trans h)

noncomputable def impl_PatternOk_R (n : Nat) (a0 : ByteArray) : Option Bool := qb (strings_CutPrefix_T a0 (ByteArray.mk #[42, 46])) fun x => br x.snd.fst (qb (impl_labelsOk_T x.fst 1) fun x => some x) (qb (impl_HostOk_T a0) fun x => some x)

theorem impl_PatternOk_res (n : Nat) (a0 : ByteArray) : residT Tryz.prog cfg RN n 211 [.str a0] (.bool) = impl_PatternOk_R n a0 := by kernel_rfl

theorem impl_PatternOk_of (n : Nat) (a0 : ByteArray) {y} (h : impl_PatternOk_R n a0 = some y) : impl_PatternOk_T a0 = some y := presT_of (((impl_PatternOk_res n a0)).trans h)

noncomputable def IndexFunc_hostsOk_1_R (n : Nat) (a0 : List Host) (c0 : Host) : Option Int := qb (IndexFunc_hostsOk_1_L2 n n false a0 c0 0 (↑a0.length : Int) 0) fun x => br (isRetE x.fst) (some x.snd.fst.fst) (br (isExt 0 x.fst) (some (-1)) none)

theorem IndexFunc_hostsOk_1_res (n : Nat) (a0 : List Host) (c0 : Host) : residT Tryz.prog cfg RN n 212 [.sl false .host a0, .c (.fn 164 [.f (.ep .host c0 0)])] (.int) = IndexFunc_hostsOk_1_R n a0 c0 := by kernel_rfl

theorem IndexFunc_hostsOk_1_of (n : Nat) (a0 : List Host) (c0 : Host) {y} (h : IndexFunc_hostsOk_1_R n a0 c0 = some y) : slices_IndexFunc_impl_Host_impl_Host_T a0 (.c (.fn 164 [.f (.ep .host c0 0)])) = some y := presT_of (((IndexFunc_hostsOk_1_res n a0 c0)).trans h)

noncomputable def laws_eqClient_R (n : Nat) (a0 : Client) (a1 : Client) : Option Bool := br (a0.step != a1.step) (some false) (br (!a0.host.toList == a1.host.toList) (some false) (br (!a0.must == a1.must) (some false) (br (a0.eph != a1.eph) (some false) (br (a0.body != a1.body) (some false) (qb (laws_eqTerm_T a0.share a1.share) fun x => br (!x) (some false) (br (a0.inn != a1.inn) (some false) (br (a0.out != a1.out) (some false) (br (!a0.tls == a1.tls) (some false) (br (!a0.proved == a1.proved) (some false) (some true))))))))))

theorem laws_eqClient_res (n : Nat) (a0 : Client) (a1 : Client) : residT Tryz.prog cfg RN n 213 [.ag (Client.cells a0), .ag (Client.cells a1)] (.bool) = laws_eqClient_R n a0 a1 := by kernel_rfl

theorem laws_eqClient_of (n : Nat) (a0 : Client) (a1 : Client) {y} (h : laws_eqClient_R n a0 a1 = some y) : laws_eqClient_T a0 a1 = some y := presT_of (((laws_eqClient_res n a0 a1)).trans h)

noncomputable def spec_l2Has_R (n : Nat) (a0 : List Term) (a1 : Term) : Option Bool := qb (spec_l2Has_L2 n n false a0 false 0 a1) fun x => br (isRetE x.fst) (some x.snd.fst.fst) (br (isExt 0 x.fst) (some false) none)

theorem spec_l2Has_res (n : Nat) (a0 : List Term) (a1 : Term) : residT Tryz.prog cfg RN n 214 [.sl false .term a0, .ag (Term.cells a1)] (.bool) = spec_l2Has_R n a0 a1 := by kernel_rfl

theorem spec_l2Has_of (n : Nat) (a0 : List Term) (a1 : Term) {y} (h : spec_l2Has_R n a0 a1 = some y) : spec_l2Has_T a0 a1 = some y := presT_of (((spec_l2Has_res n a0 a1)).trans h)

noncomputable def spec_l2Pub_R (n : Nat) (a0 : Term) : Option Term := some (Term.mk 4 0 (ByteArray.mk #[]) [Term.mk a0.op a0.n a0.s a0.kids])

theorem spec_l2Pub_res (n : Nat) (a0 : Term) : residT Tryz.prog cfg RN n 215 [.ag (Term.cells a0)] (.el .term) = spec_l2Pub_R n a0 := by kernel_rfl

theorem spec_l2Pub_of (n : Nat) (a0 : Term) {y} (h : spec_l2Pub_R n a0 = some y) : spec_l2Pub_T a0 = some y := presT_of (((spec_l2Pub_res n a0)).trans h)

noncomputable def impl_hasTerm_R (n : Nat) (a0 : List Term) (a1 : Term) : Option Bool := qb (slices_ContainsFunc_impl_Term_impl_Term_T a0 (V.c (C.fn 239 [C.f (F.ep Kind.term (Term.mk a1.op a1.n a1.s a1.kids) 0)]))) fun x => some x

theorem impl_hasTerm_res (n : Nat) (a0 : List Term) (a1 : Term) : residT Tryz.prog cfg RN n 216 [.sl false .term a0, .ag (Term.cells a1)] (.bool) = impl_hasTerm_R n a0 a1 := by kernel_rfl

theorem impl_hasTerm_of (n : Nat) (a0 : List Term) (a1 : Term) {y} (h : impl_hasTerm_R n a0 a1 = some y) : impl_hasTerm_T a0 a1 = some y := presT_of (((impl_hasTerm_res n a0 a1)).trans h)

noncomputable def impl_madePub_R (n : Nat) (a0 : List Term) (a1 : Term) : Option Bool := qb (impl_made_T a0 (Term.mk 4 0 (ByteArray.mk #[]) [Term.mk a1.op a1.n a1.s a1.kids])) fun x => some x

theorem impl_madePub_res (n : Nat) (a0 : List Term) (a1 : Term) : residT Tryz.prog cfg RN n 217 [.sl false .term a0, .ag (Term.cells a1)] (.bool) = impl_madePub_R n a0 a1 := by kernel_rfl

theorem impl_madePub_of (n : Nat) (a0 : List Term) (a1 : Term) {y} (h : impl_madePub_R n a0 a1 = some y) : impl_madePub_T a0 a1 = some y := presT_of (((impl_madePub_res n a0 a1)).trans h)

noncomputable def spec_l12Words_R (n : Nat) (a0 : ByteArray) : Option (List ByteArray) := qb (spec_l12Words_L4 n n a0 [] 0 0) fun x => br (isRetE x.fst) none (br (isExt 0 x.fst) (some x.snd.snd.fst) none)

theorem spec_l12Words_res (n : Nat) (a0 : ByteArray) : residT Tryz.prog cfg RN n 219 [.str a0] (.sl .str) = spec_l12Words_R n a0 := by kernel_rfl

theorem spec_l12Words_of (n : Nat) (a0 : ByteArray) {y} (h : spec_l12Words_R n a0 = some y) : spec_l12Words_T a0 = some y := presT_of (((spec_l12Words_res n a0)).trans h)

noncomputable def spec_l12Num_R (n : Nat) (a0 : ByteArray) : Option Int := qb (spec_l12Num_L3 n n a0 0 0) fun x => br (isRetE x.fst) none (br (isExt 0 x.fst) (some x.snd.fst.fst) none)

theorem spec_l12Num_res (n : Nat) (a0 : ByteArray) : residT Tryz.prog cfg RN n 220 [.str a0] (.int) = spec_l12Num_R n a0 := by kernel_rfl

theorem spec_l12Num_of (n : Nat) (a0 : ByteArray) {y} (h : spec_l12Num_R n a0 = some y) : spec_l12Num_T a0 = some y := presT_of (((spec_l12Num_res n a0)).trans h)

noncomputable def spec_NoteText_R (n : Nat) (a0 : Note) : Option ByteArray := qb (spec_NoteOk_T a0) fun x => br (!x) (some (ByteArray.mk #[])) (qb (idx [ByteArray.mk #[], ByteArray.mk #[116, 97, 107, 101], ByteArray.mk #[116, 114, 121], ByteArray.mk #[103, 111, 110, 101], ByteArray.mk #[98, 97, 99, 107]] a0.kind) fun y => qb (catOk y (ByteArray.mk #[32])) fun y_1 => qb (spec_l1Digits_T a0.who) fun x => qb (catOk (y ++ ByteArray.mk #[32]) x) fun y_2 => br (a0.kind == 1) (qb (catOk (y ++ ByteArray.mk #[32] ++ x) (ByteArray.mk #[32])) fun y_3 => qb (catOk (y ++ ByteArray.mk #[32] ++ x ++ ByteArray.mk #[32]) a0.domain) fun y_4 => qb (catOk (y ++ ByteArray.mk #[32] ++ x ++ ByteArray.mk #[32] ++ a0.domain) (ByteArray.mk #[32])) fun y_5 => qb (spec_l1Digits_T a0.body) fun x_1 => qb (catOk (y ++ ByteArray.mk #[32] ++ x ++ ByteArray.mk #[32] ++ a0.domain ++ ByteArray.mk #[32]) x_1) fun y_6 => qb (catOk (y ++ ByteArray.mk #[32] ++ x ++ ByteArray.mk #[32] ++ a0.domain ++ ByteArray.mk #[32] ++ x_1) (ByteArray.mk #[10])) fun y_7 => some (y ++ ByteArray.mk #[32] ++ x ++ ByteArray.mk #[32] ++ a0.domain ++ ByteArray.mk #[32] ++ x_1 ++ ByteArray.mk #[10])) (br (a0.kind == 2) (qb (catOk (y ++ ByteArray.mk #[32] ++ x) (ByteArray.mk #[32])) fun y_3 => qb (spec_l1Digits_T a0.time) fun x_1 => qb (catOk (y ++ ByteArray.mk #[32] ++ x ++ ByteArray.mk #[32]) x_1) fun y_4 => qb (catOk (y ++ ByteArray.mk #[32] ++ x ++ ByteArray.mk #[32] ++ x_1) (ByteArray.mk #[10])) fun y_5 => some (y ++ ByteArray.mk #[32] ++ x ++ ByteArray.mk #[32] ++ x_1 ++ ByteArray.mk #[10])) (qb (catOk (y ++ ByteArray.mk #[32] ++ x) (ByteArray.mk #[10])) fun y_3 => some (y ++ ByteArray.mk #[32] ++ x ++ ByteArray.mk #[10]))))

theorem spec_NoteText_res (n : Nat) (a0 : Note) : residT Tryz.prog cfg RN n 221 [.ag (Note.cells a0)] (.str) = spec_NoteText_R n a0 := by kernel_rfl

theorem spec_NoteText_of (n : Nat) (a0 : Note) {y} (h : spec_NoteText_R n a0 = some y) : spec_NoteText_T a0 = some y := presT_of (((spec_NoteText_res n a0)).trans h)

noncomputable def spec_l1Min_R (n : Nat) (a0 : Int) (a1 : Int) : Option Int := br (decide (a0 < a1)) (some a0) (some a1)

theorem spec_l1Min_res (n : Nat) (a0 : Int) (a1 : Int) : residT Tryz.prog cfg RN n 222 [.int a0, .int a1] (.int) = spec_l1Min_R n a0 a1 := by kernel_rfl

theorem spec_l1Min_of (n : Nat) (a0 : Int) (a1 : Int) {y} (h : spec_l1Min_R n a0 a1 = some y) : spec_l1Min_T a0 a1 = some y := presT_of (((spec_l1Min_res n a0 a1)).trans h)

noncomputable def strings_TrimSuffix_R (n : Nat) (a0 : ByteArray) (a1 : ByteArray) : Option ByteArray := qb (internal_stringslite_TrimSuffix_T a0 a1) fun x => some x

theorem strings_TrimSuffix_res (n : Nat) (a0 : ByteArray) (a1 : ByteArray) : residT Tryz.prog cfg RN n 225 [.str a0, .str a1] (.str) = strings_TrimSuffix_R n a0 a1 := by kernel_rfl

theorem strings_TrimSuffix_of (n : Nat) (a0 : ByteArray) (a1 : ByteArray) {y} (h : strings_TrimSuffix_R n a0 a1 = some y) : strings_TrimSuffix_T a0 a1 = some y := presT_of (((strings_TrimSuffix_res n a0 a1)).trans h)

noncomputable def impl_noteNumber_R (n : Nat) (a0 : List ByteArray) (a1 : Int) : Option Int := br (decide (a1 ≥ (↑a0.length : Int))) (some (-1)) (qb (idx a0 a1) fun y => qb (strconv_Atoi_T y) fun x => br x.snd.fst (some (-1)) (some x.fst))

theorem impl_noteNumber_res (n : Nat) (a0 : List ByteArray) (a1 : Int) : residT Tryz.prog cfg RN n 226 [.sl false .str a0, .int a1] (.int) = impl_noteNumber_R n a0 a1 := by kernel_rfl

theorem impl_noteNumber_of (n : Nat) (a0 : List ByteArray) (a1 : Int) {y} (h : impl_noteNumber_R n a0 a1 = some y) : impl_noteNumber_T a0 a1 = some y := presT_of (((impl_noteNumber_res n a0 a1)).trans h)

noncomputable def impl_NoteText_R (n : Nat) (a0 : Note) : Option ByteArray := qb (impl_NoteOk_T a0) fun x => br (!x) (some (ByteArray.mk #[])) (qb (idx [ByteArray.mk #[], ByteArray.mk #[116, 97, 107, 101], ByteArray.mk #[116, 114, 121], ByteArray.mk #[103, 111, 110, 101], ByteArray.mk #[98, 97, 99, 107]] a0.kind) fun y => qb (catOk y (ByteArray.mk #[32])) fun y_1 => qb (strconv_Itoa_T a0.who) fun x => qb (catOk (y ++ ByteArray.mk #[32]) x) fun y_2 => br (a0.kind == 1) (qb (catOk (ByteArray.mk #[32]) a0.domain) fun y_3 => qb (catOk (ByteArray.mk #[32] ++ a0.domain) (ByteArray.mk #[32])) fun y_4 => qb (strconv_Itoa_T a0.body) fun x_1 => qb (catOk (ByteArray.mk #[32] ++ a0.domain ++ ByteArray.mk #[32]) x_1) fun y_5 => qb (catOk (y ++ ByteArray.mk #[32] ++ x) (ByteArray.mk #[32] ++ a0.domain ++ ByteArray.mk #[32] ++ x_1)) fun y_6 => qb (catOk (y ++ ByteArray.mk #[32] ++ x ++ (ByteArray.mk #[32] ++ a0.domain ++ ByteArray.mk #[32] ++ x_1)) (ByteArray.mk #[10])) fun y_7 => some (y ++ ByteArray.mk #[32] ++ x ++ (ByteArray.mk #[32] ++ a0.domain ++ ByteArray.mk #[32] ++ x_1) ++ ByteArray.mk #[10])) (br (a0.kind == 2) (qb (strconv_Itoa_T a0.time) fun x_1 => qb (catOk (ByteArray.mk #[32]) x_1) fun y_3 => qb (catOk (y ++ ByteArray.mk #[32] ++ x) (ByteArray.mk #[32] ++ x_1)) fun y_4 => qb (catOk (y ++ ByteArray.mk #[32] ++ x ++ (ByteArray.mk #[32] ++ x_1)) (ByteArray.mk #[10])) fun y_5 => some (y ++ ByteArray.mk #[32] ++ x ++ (ByteArray.mk #[32] ++ x_1) ++ ByteArray.mk #[10])) (qb (catOk (y ++ ByteArray.mk #[32] ++ x) (ByteArray.mk #[10])) fun y_3 => some (y ++ ByteArray.mk #[32] ++ x ++ ByteArray.mk #[10]))))

theorem impl_NoteText_res (n : Nat) (a0 : Note) : residT Tryz.prog cfg RN n 227 [.ag (Note.cells a0)] (.str) = impl_NoteText_R n a0 := by kernel_rfl

theorem impl_NoteText_of (n : Nat) (a0 : Note) {y} (h : impl_NoteText_R n a0 = some y) : impl_NoteText_T a0 = some y := presT_of (((impl_NoteText_res n a0)).trans h)

noncomputable def spec_Labels_R (n : Nat) (a0 : ByteArray) : Option (List ByteArray) := qb (spec_Labels_L4 n n a0 [] 0 0) fun x => br (isRetE x.fst) none (br (isExt 0 x.fst) (some x.snd.snd.fst) none)

theorem spec_Labels_res (n : Nat) (a0 : ByteArray) : residT Tryz.prog cfg RN n 228 [.str a0] (.sl .str) = spec_Labels_R n a0 := by kernel_rfl

theorem spec_Labels_of (n : Nat) (a0 : ByteArray) {y} (h : spec_Labels_R n a0 = some y) : spec_Labels_T a0 = some y := presT_of (((spec_Labels_res n a0)).trans h)

noncomputable def spec_l5Label_R (n : Nat) (a0 : ByteArray) : Option Bool := qb (spec_l5Label_L2 n n a0 false 0) fun x => br (isRetE x.fst) (some x.snd.fst.snd.fst) (br (isExt 0 x.fst) (qb (spec_l1In_T (↑(ByteArray.size x.snd.fst.fst) : Int) 1 10) fun x => some x) none)

theorem spec_l5Label_res (n : Nat) (a0 : ByteArray) : residT Tryz.prog cfg RN n 229 [.str a0] (.bool) = spec_l5Label_R n a0 := by kernel_rfl

theorem spec_l5Label_of (n : Nat) (a0 : ByteArray) {y} (h : spec_l5Label_R n a0 = some y) : spec_l5Label_T a0 = some y := presT_of (((spec_l5Label_res n a0)).trans h)

noncomputable def impl_cloneAll_R (n : Nat) (a0 : List Term) : Option (List Term) := qb (impl_cloneAll_L3 n n [] false a0 (↑a0.length : Int) 0) fun x => br (isRetE x.fst) none (br (isExt 0 x.fst) (some x.snd.snd.fst) none)

theorem impl_cloneAll_res (n : Nat) (a0 : List Term) : residT Tryz.prog cfg RN n 231 [.sl false .term a0] (.sl .term) = impl_cloneAll_R n a0 := by kernel_rfl

theorem impl_cloneAll_of (n : Nat) (a0 : List Term) {y} (h : impl_cloneAll_R n a0 = some y) : impl_cloneAll_T a0 = some y := presT_of (((impl_cloneAll_res n a0)).trans h)

noncomputable def impl_Labels_R (n : Nat) (a0 : ByteArray) : Option (List ByteArray) := qb (strings_Split_T a0 (ByteArray.mk #[46])) fun x => some x

theorem impl_Labels_res (n : Nat) (a0 : ByteArray) : residT Tryz.prog cfg RN n 232 [.str a0] (.sl .str) = impl_Labels_R n a0 := by kernel_rfl

theorem impl_Labels_of (n : Nat) (a0 : ByteArray) {y} (h : impl_Labels_R n a0 = some y) : impl_Labels_T a0 = some y := presT_of (((impl_Labels_res n a0)).trans h)

noncomputable def impl_labelOk_R (n : Nat) (a0 : ByteArray) : Option Bool := qb (impl_labelOk_L2 n n a0 false (↑a0.size : Int) 0) fun x => br (isRetE x.fst) (some x.snd.fst.snd.fst) (br (isExt 0 x.fst) (qb (impl_in_T (↑(ByteArray.size x.snd.fst.fst) : Int) 1 10) fun x => some x) none)

theorem impl_labelOk_res (n : Nat) (a0 : ByteArray) : residT Tryz.prog cfg RN n 234 [.str a0] (.bool) = impl_labelOk_R n a0 := by kernel_rfl

theorem impl_labelOk_of (n : Nat) (a0 : ByteArray) {y} (h : impl_labelOk_R n a0 = some y) : impl_labelOk_T a0 = some y := presT_of (((impl_labelOk_res n a0)).trans h)

noncomputable def EqualFunc_Same_R (n : Nat) (a0 : List Term) (a1 : List Term) : Option Bool := br ((↑a0.length : Int) != (↑a1.length : Int)) (some false) (qb (EqualFunc_Same_L4 n n false a1 false false a0 (↑a0.length : Int) 0) fun x => br (isRetE x.fst) (some x.snd.fst.fst) (br (isExt 0 x.fst) (some true) none))

theorem EqualFunc_Same_res (n : Nat) (a0 : List Term) (a1 : List Term) : residT Tryz.prog cfg RN n 235 [.sl false .term a0, .sl false .term a1, .c (.fn 197 [])] (.bool) = EqualFunc_Same_R n a0 a1 := by kernel_rfl

theorem EqualFunc_Same_of (n : Nat) (a0 : List Term) (a1 : List Term) {y} (h : EqualFunc_Same_R n a0 a1 = some y) : slices_EqualFunc_impl_Term_impl_Term_impl_Term_impl_Term_T a0 a1 (.c (.fn 197 [])) = some y := presT_of (((EqualFunc_Same_res n a0 a1)).trans h)

noncomputable def spec_l5Star_R (n : Nat) (a0 : ByteArray) : Option Bool := br (decide ((↑a0.size : Int) > 2)) (qb (bnds a0.size none (some 2)) fun p => some ((a0.extract p.fst p.snd).toList == (ByteArray.mk #[42, 46]).toList)) (some false)

theorem spec_l5Star_res (n : Nat) (a0 : ByteArray) : residT Tryz.prog cfg RN n 236 [.str a0] (.bool) = spec_l5Star_R n a0 := by kernel_rfl

theorem spec_l5Star_of (n : Nat) (a0 : ByteArray) {y} (h : spec_l5Star_R n a0 = some y) : spec_l5Star_T a0 = some y := presT_of (((spec_l5Star_res n a0)).trans h)

noncomputable def IndexFunc_PolicyOk_1_R (n : Nat) (a0 : List ByteArray) : Option Int := qb (IndexFunc_PolicyOk_1_L2 n n false a0 0 (↑a0.length : Int) 0) fun x => br (isRetE x.fst) (some x.snd.fst.fst) (br (isExt 0 x.fst) (some (-1)) none)

theorem IndexFunc_PolicyOk_1_res (n : Nat) (a0 : List ByteArray) : residT Tryz.prog cfg RN n 237 [.sl false .str a0, .c (.fn 210 [])] (.int) = IndexFunc_PolicyOk_1_R n a0 := by kernel_rfl

theorem IndexFunc_PolicyOk_1_of (n : Nat) (a0 : List ByteArray) {y} (h : IndexFunc_PolicyOk_1_R n a0 = some y) : slices_IndexFunc_string_string_T a0 (.c (.fn 210 [])) = some y := presT_of (((IndexFunc_PolicyOk_1_res n a0)).trans h)

noncomputable def IndexFunc_labelsOk_1_R (n : Nat) (a0 : List ByteArray) : Option Int := qb (IndexFunc_labelsOk_1_L2 n n false a0 0 (↑a0.length : Int) 0) fun x => br (isRetE x.fst) (some x.snd.fst.fst) (br (isExt 0 x.fst) (some (-1)) none)

theorem IndexFunc_labelsOk_1_res (n : Nat) (a0 : List ByteArray) : residT Tryz.prog cfg RN n 237 [.sl false .str a0, .c (.fn 233 [])] (.int) = IndexFunc_labelsOk_1_R n a0 := by kernel_rfl

theorem IndexFunc_labelsOk_1_of (n : Nat) (a0 : List ByteArray) {y} (h : IndexFunc_labelsOk_1_R n a0 = some y) : slices_IndexFunc_string_string_T a0 (.c (.fn 233 [])) = some y := presT_of (((IndexFunc_labelsOk_1_res n a0)).trans h)

noncomputable def strings_CutPrefix_R (n : Nat) (a0 : ByteArray) (a1 : ByteArray) : Option (ByteArray × Bool × Unit) := qb (internal_stringslite_CutPrefix_T a0 a1) fun x => some (x.fst, x.snd.fst, PUnit.unit)

theorem strings_CutPrefix_res (n : Nat) (a0 : ByteArray) (a1 : ByteArray) : residT Tryz.prog cfg RN n 238 [.str a0, .str a1] (.tup [.str, .bool]) = strings_CutPrefix_R n a0 a1 := by kernel_rfl

theorem strings_CutPrefix_of (n : Nat) (a0 : ByteArray) (a1 : ByteArray) {y} (h : strings_CutPrefix_R n a0 a1 = some y) : strings_CutPrefix_T a0 a1 = some y := presT_of (((strings_CutPrefix_res n a0 a1)).trans h)

noncomputable def internal_stringslite_TrimSuffix_R (n : Nat) (a0 : ByteArray) (a1 : ByteArray) : Option ByteArray := qb (internal_stringslite_HasSuffix_T a0 a1) fun x => br x (qb (bnds a0.size none (some (IntKind.i64.wrap ((↑a0.size : Int) - (↑a1.size : Int))))) fun p => some (a0.extract p.fst p.snd)) (some a0)

theorem internal_stringslite_TrimSuffix_res (n : Nat) (a0 : ByteArray) (a1 : ByteArray) : residT Tryz.prog cfg RN n 242 [.str a0, .str a1] (.str) = internal_stringslite_TrimSuffix_R n a0 a1 := by kernel_rfl

theorem internal_stringslite_TrimSuffix_of (n : Nat) (a0 : ByteArray) (a1 : ByteArray) {y} (h : internal_stringslite_TrimSuffix_R n a0 a1 = some y) : internal_stringslite_TrimSuffix_T a0 a1 = some y := presT_of (((internal_stringslite_TrimSuffix_res n a0 a1)).trans h)

noncomputable def internal_stringslite_CutPrefix_R (n : Nat) (a0 : ByteArray) (a1 : ByteArray) : Option (ByteArray × Bool × Unit) := qb (internal_stringslite_HasPrefix_T a0 a1) fun x => br (!x) (some (a0, false, PUnit.unit)) (qb (bnds a0.size (some (↑a1.size : Int)) none) fun p => some (a0.extract p.fst p.snd, true, PUnit.unit))

theorem internal_stringslite_CutPrefix_res (n : Nat) (a0 : ByteArray) (a1 : ByteArray) : residT Tryz.prog cfg RN n 245 [.str a0, .str a1] (.tup [.str, .bool]) = internal_stringslite_CutPrefix_R n a0 a1 := by kernel_rfl

theorem internal_stringslite_CutPrefix_of (n : Nat) (a0 : ByteArray) (a1 : ByteArray) {y} (h : internal_stringslite_CutPrefix_R n a0 a1 = some y) : internal_stringslite_CutPrefix_T a0 a1 = some y := presT_of (((internal_stringslite_CutPrefix_res n a0 a1)).trans h)

noncomputable def internal_stringslite_HasSuffix_R (n : Nat) (a0 : ByteArray) (a1 : ByteArray) : Option Bool := br (decide ((↑a0.size : Int) ≥ (↑a1.size : Int))) (qb (bnds a0.size (some (IntKind.i64.wrap ((↑a0.size : Int) - (↑a1.size : Int)))) none) fun p => some ((a0.extract p.fst p.snd).toList == a1.toList)) (some false)

theorem internal_stringslite_HasSuffix_res (n : Nat) (a0 : ByteArray) (a1 : ByteArray) : residT Tryz.prog cfg RN n 249 [.str a0, .str a1] (.bool) = internal_stringslite_HasSuffix_R n a0 a1 := by kernel_rfl

theorem internal_stringslite_HasSuffix_of (n : Nat) (a0 : ByteArray) (a1 : ByteArray) {y} (h : internal_stringslite_HasSuffix_R n a0 a1 = some y) : internal_stringslite_HasSuffix_T a0 a1 = some y := presT_of (((internal_stringslite_HasSuffix_res n a0 a1)).trans h)

noncomputable def internal_stringslite_HasPrefix_R (n : Nat) (a0 : ByteArray) (a1 : ByteArray) : Option Bool := br (decide ((↑a0.size : Int) ≥ (↑a1.size : Int))) (qb (bnds a0.size none (some (↑a1.size : Int))) fun p => some ((a0.extract p.fst p.snd).toList == a1.toList)) (some false)

theorem internal_stringslite_HasPrefix_res (n : Nat) (a0 : ByteArray) (a1 : ByteArray) : residT Tryz.prog cfg RN n 256 [.str a0, .str a1] (.bool) = internal_stringslite_HasPrefix_R n a0 a1 := by kernel_rfl

theorem internal_stringslite_HasPrefix_of (n : Nat) (a0 : ByteArray) (a1 : ByteArray) {y} (h : internal_stringslite_HasPrefix_R n a0 a1 = some y) : internal_stringslite_HasPrefix_T a0 a1 = some y := presT_of (((internal_stringslite_HasPrefix_res n a0 a1)).trans h)

theorem spec_WorldOk_round4 (n : Nat) (x2 : Bool) (x3 : Int) (y1 : WorldD) : roundK Tryz.prog cfg RN n 5 17 4 0 (spec_WorldOk_S4 x2 x3 y1) = (br (decide (x3 < (↑y1.known.length : Int))) (qb (idx y1.known x3) fun y => qb (spec_TermOk_T y) fun x => br (!x) (some (Ex.ret, spec_WorldOk_O4 false y1)) (some (Ex.nrm, spec_WorldOk_S4 x2 (IntKind.i64.wrap (x3 + 1)) y1))) (some (Ex.ext 0, spec_WorldOk_O4 x2 y1)) : Option (Ex × St)) := by kernel_rfl

theorem spec_WorldOk_round9 (n : Nat) (x2 : Bool) (x4 : Int) (y1 : WorldD) : roundK Tryz.prog cfg RN n 5 17 9 0 (spec_WorldOk_S9 x2 x4 y1) = (br (decide (x4 < (↑y1.letters.length : Int))) (qb (idx y1.letters x4) fun y => qb (spec_LetterOk_T y) fun x => br (!x) (some (Ex.ret, spec_WorldOk_O9 false y1)) (some (Ex.nrm, spec_WorldOk_S9 x2 (IntKind.i64.wrap (x4 + 1)) y1))) (some (Ex.ext 2, spec_WorldOk_O9 x2 y1)) : Option (Ex × St)) := by kernel_rfl

theorem spec_WorldOk_round14 (n : Nat) (x2 : Bool) (x5 : Int) (y1 : WorldD) : roundK Tryz.prog cfg RN n 5 17 14 0 (spec_WorldOk_S14 x2 x5 y1) = (br (decide (x5 < (↑y1.told.length : Int))) (qb (idx y1.told x5) fun y => qb (spec_l1In_T y 0 1000000) fun x => br (!x) (some (Ex.ret, spec_WorldOk_O14 false y1)) (br (decide (x5 > 0)) (qb (idx y1.told (IntKind.i64.wrap (x5 - 1))) fun y => qb (idx y1.told x5) fun y_1 => br (decide (y ≥ y_1)) (some (Ex.ret, spec_WorldOk_O14 false y1)) (some (Ex.nrm, spec_WorldOk_S14 x2 (IntKind.i64.wrap (x5 + 1)) y1))) (some (Ex.nrm, spec_WorldOk_S14 x2 (IntKind.i64.wrap (x5 + 1)) y1)))) (some (Ex.ext 4, spec_WorldOk_O14 x2 y1)) : Option (Ex × St)) := by kernel_rfl

theorem spec_JudgeHeld_round4 (n : Nat) (x2 : Bool) (x3 : Int) (y1 : WorldD) : roundK Tryz.prog cfg RN n 5 21 4 0 (spec_JudgeHeld_S4 x2 x3 y1) = (br (decide (x3 < (↑y1.calls.length : Int))) (qb (idx y1.calls x3) fun y => br y.client.must (qb (spec_l1In_T y.client.step 5 9) fun x => br x (br y.client.tls (br (!y.client.proved) (some (Ex.ret, spec_JudgeHeld_O4 false)) (qb (idx y1.calls x3) fun y_1 => br y_1.good (br (!y.client.must) (some (Ex.ret, spec_JudgeHeld_O4 false)) (some (Ex.nrm, spec_JudgeHeld_S4 x2 (IntKind.i64.wrap (x3 + 1)) y1))) (some (Ex.nrm, spec_JudgeHeld_S4 x2 (IntKind.i64.wrap (x3 + 1)) y1)))) (some (Ex.ret, spec_JudgeHeld_O4 false))) (qb (idx y1.calls x3) fun y_1 => br y_1.good (br (!y.client.must) (some (Ex.ret, spec_JudgeHeld_O4 false)) (some (Ex.nrm, spec_JudgeHeld_S4 x2 (IntKind.i64.wrap (x3 + 1)) y1))) (some (Ex.nrm, spec_JudgeHeld_S4 x2 (IntKind.i64.wrap (x3 + 1)) y1)))) (qb (idx y1.calls x3) fun y_1 => br y_1.good (br (!y.client.must) (some (Ex.ret, spec_JudgeHeld_O4 false)) (some (Ex.nrm, spec_JudgeHeld_S4 x2 (IntKind.i64.wrap (x3 + 1)) y1))) (some (Ex.nrm, spec_JudgeHeld_S4 x2 (IntKind.i64.wrap (x3 + 1)) y1)))) (some (Ex.ext 0, spec_JudgeHeld_O4 x2)) : Option (Ex × St)) := by kernel_rfl

theorem spec_JudgeTaken_round4 (n : Nat) (x2 : Bool) (x3 : Int) (y1 : WorldD) : roundK Tryz.prog cfg RN n 5 23 4 0 (spec_JudgeTaken_S4 x2 x3 y1) = (br (decide (x3 < (↑y1.calls.length : Int))) (qb (idx y1.calls x3) fun y => br y.good (qb (idx y1.calls x3) fun y => br (y.client.step == 9) (qb (idx y1.calls x3) fun y => qb (spec_l15Got_T y1 y.client.body) fun x => br (!x) (some (Ex.ret, spec_JudgeTaken_O4 false)) (some (Ex.nrm, spec_JudgeTaken_S4 x2 (IntKind.i64.wrap (x3 + 1)) y1))) (some (Ex.nrm, spec_JudgeTaken_S4 x2 (IntKind.i64.wrap (x3 + 1)) y1))) (some (Ex.nrm, spec_JudgeTaken_S4 x2 (IntKind.i64.wrap (x3 + 1)) y1))) (some (Ex.ext 0, spec_JudgeTaken_O4 x2)) : Option (Ex × St)) := by kernel_rfl

theorem spec_JudgeSecret_round4 (n : Nat) (x2 : Bool) (x3 : Int) (y1 : WorldD) : roundK Tryz.prog cfg RN n 5 25 4 0 (spec_JudgeSecret_S4 x2 x3 y1) = (br (decide (x3 < (↑y1.letters.length : Int))) (qb (idx y1.letters x3) fun y => qb (spec_l15In_T y1.told y.body) fun x => br (!x) (qb (spec_Atom_T y.body) fun x => qb (spec_Made_T y1.known x) fun x => br x (some (Ex.ret, spec_JudgeSecret_O4 false)) (some (Ex.nrm, spec_JudgeSecret_S4 x2 (IntKind.i64.wrap (x3 + 1)) y1))) (some (Ex.nrm, spec_JudgeSecret_S4 x2 (IntKind.i64.wrap (x3 + 1)) y1))) (some (Ex.ext 0, spec_JudgeSecret_O4 x2)) : Option (Ex × St)) := by kernel_rfl

theorem laws_szStringS_round5 (n : Nat) (t0 : Bool) (x0 : List ByteArray) (x1 : Int) (x4 : Int) (x5 : Int) : roundK Tryz.prog cfg RN n 5 27 5 0 (laws_szStringS_S5 t0 x0 x1 x4 x5) = (br (decide (x5 < (↑x0.length : Int))) (qb (idx x0 x5) fun y => br (decide (IntKind.i64.wrap (x1 - (↑(ByteArray.size y) : Int)) < 0)) (some (Ex.ret, laws_szStringS_O5 (IntKind.i64.wrap (x1 - (↑(ByteArray.size y) : Int))) (-1))) (some (Ex.nrm, laws_szStringS_S5 t0 x0 (IntKind.i64.wrap (x1 - (↑(ByteArray.size y) : Int))) x4 (IntKind.i64.wrap (x5 + 1))))) (some (Ex.ext 0, laws_szStringS_O5 x1 x4)) : Option (Ex × St)) := by kernel_rfl

theorem laws_toStringS_round3 (n : Nat) (t0 : Bool) (x0 : List ByteArray) (x3 : List ByteArray) (x4 : Int) : roundK Tryz.prog cfg RN n 5 29 3 0 (laws_toStringS_S3 t0 x0 x3 x4) = (br (decide (x4 < (↑x0.length : Int))) (qb (idx x0 x4) fun y => qb (idx x3 x4) fun y_1 => qb x3[x4.toNat]? fun x => some (Ex.nrm, laws_toStringS_S3 t0 x0 (x3.set x4.toNat y) (IntKind.i64.wrap (x4 + 1)))) (some (Ex.ext 0, laws_toStringS_O3 x3)) : Option (Ex × St)) := by kernel_rfl

theorem laws_eqStringS_round4 (n : Nat) (t0 : Bool) (x0 : List ByteArray) (t1 : Bool) (x1 : List ByteArray) (x4 : Bool) (x5 : Int) : roundK Tryz.prog cfg RN n 5 31 4 0 (laws_eqStringS_S4 t0 x0 t1 x1 x4 x5) = (br (decide (x5 < (↑x0.length : Int))) (qb (idx x0 x5) fun y => qb (idx x1 x5) fun y_1 => br (!ByteArray.toList y == ByteArray.toList y_1) (some (Ex.ret, laws_eqStringS_O4 false)) (some (Ex.nrm, laws_eqStringS_S4 t0 x0 t1 x1 x4 (IntKind.i64.wrap (x5 + 1))))) (some (Ex.ext 0, laws_eqStringS_O4 x4)) : Option (Ex × St)) := by kernel_rfl

theorem spec_JudgeBook_round8 (n : Nat) (x2 : Bool) (t5 : Bool) (x5 : List Letter) (x6 : Int) (y1 : WorldD) : roundK Tryz.prog cfg RN n 5 35 8 0 (spec_JudgeBook_S8 x2 t5 x5 x6 y1) = (br (decide (x6 < (↑x5.length : Int))) (qb (idx x5 x6) fun y => qb (idx y1.letters x6) fun y_1 => br (!(y.domain == y_1.domain && (y.body == y_1.body && (y.state == y_1.state && (y.tries == y_1.tries && (y.next == y_1.next && true)))))) (some (Ex.ret, spec_JudgeBook_O8 false)) (some (Ex.nrm, spec_JudgeBook_S8 x2 t5 x5 (IntKind.i64.wrap (x6 + 1)) y1))) (some (Ex.ext 0, spec_JudgeBook_O8 x2)) : Option (Ex × St)) := by kernel_rfl

theorem spec_ServerOk_round2 (n : Nat) (x2 : Bool) (x3 : Int) (y1 : Server) : roundK Tryz.prog cfg RN n 5 42 2 0 (spec_ServerOk_S2 x2 x3 y1) = (br (decide (x3 < (↑y1.got.length : Int))) (qb (idx y1.got x3) fun y => qb (spec_l1In_T y 0 1000000) fun x => br (!x) (some (Ex.ret, spec_ServerOk_O2 false y1)) (some (Ex.nrm, spec_ServerOk_S2 x2 (IntKind.i64.wrap (x3 + 1)) y1))) (some (Ex.ext 0, spec_ServerOk_O2 x2 y1)) : Option (Ex × St)) := by kernel_rfl

theorem laws_eqIntS_round4 (n : Nat) (t0 : Bool) (x0 : List Int) (t1 : Bool) (x1 : List Int) (x4 : Bool) (x5 : Int) : roundK Tryz.prog cfg RN n 5 48 4 0 (laws_eqIntS_S4 t0 x0 t1 x1 x4 x5) = (br (decide (x5 < (↑x0.length : Int))) (qb (idx x0 x5) fun y => qb (idx x1 x5) fun y_1 => br (y != y_1) (some (Ex.ret, laws_eqIntS_O4 false)) (some (Ex.nrm, laws_eqIntS_S4 t0 x0 t1 x1 x4 (IntKind.i64.wrap (x5 + 1))))) (some (Ex.ext 0, laws_eqIntS_O4 x4)) : Option (Ex × St)) := by kernel_rfl

theorem laws_szTermS_round5 (n : Nat) (t0 : Bool) (x0 : List Term) (x1 : Int) (x4 : Int) (x5 : Int) : roundK Tryz.prog cfg RN n 5 53 5 0 (laws_szTermS_S5 t0 x0 x1 x4 x5) = (br (decide (x5 < (↑x0.length : Int))) (qb (idx x0 x5) fun y => qb (laws_szTerm_T y x1) fun x => br (decide (x < 0)) (some (Ex.ret, laws_szTermS_O5 x (-1))) (some (Ex.nrm, laws_szTermS_S5 t0 x0 x x4 (IntKind.i64.wrap (x5 + 1))))) (some (Ex.ext 0, laws_szTermS_O5 x1 x4)) : Option (Ex × St)) := by kernel_rfl

theorem laws_szPolicyS_round5 (n : Nat) (t0 : Bool) (x0 : List Policy) (x1 : Int) (x4 : Int) (x5 : Int) : roundK Tryz.prog cfg RN n 5 54 5 0 (laws_szPolicyS_S5 t0 x0 x1 x4 x5) = (br (decide (x5 < (↑x0.length : Int))) (qb (idx x0 x5) fun y => qb (laws_szPolicy_T y x1) fun x => br (decide (x < 0)) (some (Ex.ret, laws_szPolicyS_O5 x (-1))) (some (Ex.nrm, laws_szPolicyS_S5 t0 x0 x x4 (IntKind.i64.wrap (x5 + 1))))) (some (Ex.ext 0, laws_szPolicyS_O5 x1 x4)) : Option (Ex × St)) := by kernel_rfl

theorem laws_szHostS_round5 (n : Nat) (t0 : Bool) (x0 : List Host) (x1 : Int) (x4 : Int) (x5 : Int) : roundK Tryz.prog cfg RN n 5 55 5 0 (laws_szHostS_S5 t0 x0 x1 x4 x5) = (br (decide (x5 < (↑x0.length : Int))) (qb (idx x0 x5) fun y => qb (laws_szHost_T y x1) fun x => br (decide (x < 0)) (some (Ex.ret, laws_szHostS_O5 x (-1))) (some (Ex.nrm, laws_szHostS_S5 t0 x0 x x4 (IntKind.i64.wrap (x5 + 1))))) (some (Ex.ext 0, laws_szHostS_O5 x1 x4)) : Option (Ex × St)) := by kernel_rfl

theorem laws_szLetterS_round5 (n : Nat) (t0 : Bool) (x0 : List Letter) (x1 : Int) (x4 : Int) (x5 : Int) : roundK Tryz.prog cfg RN n 5 56 5 0 (laws_szLetterS_S5 t0 x0 x1 x4 x5) = (br (decide (x5 < (↑x0.length : Int))) (qb (idx x0 x5) fun y => qb (laws_szLetter_T y x1) fun x => br (decide (x < 0)) (some (Ex.ret, laws_szLetterS_O5 x (-1))) (some (Ex.nrm, laws_szLetterS_S5 t0 x0 x x4 (IntKind.i64.wrap (x5 + 1))))) (some (Ex.ext 0, laws_szLetterS_O5 x1 x4)) : Option (Ex × St)) := by kernel_rfl

theorem laws_szCallS_round5 (n : Nat) (t0 : Bool) (x0 : List CallD) (x1 : Int) (x4 : Int) (x5 : Int) : roundK Tryz.prog cfg RN n 5 57 5 0 (laws_szCallS_S5 t0 x0 x1 x4 x5) = (br (decide (x5 < (↑x0.length : Int))) (qb (idx x0 x5) fun y => qb (laws_szCall_T y x1) fun x => br (decide (x < 0)) (some (Ex.ret, laws_szCallS_O5 x (-1))) (some (Ex.nrm, laws_szCallS_S5 t0 x0 x x4 (IntKind.i64.wrap (x5 + 1))))) (some (Ex.ext 0, laws_szCallS_O5 x1 x4)) : Option (Ex × St)) := by kernel_rfl

theorem laws_szTalkS_round5 (n : Nat) (t0 : Bool) (x0 : List Talk) (x1 : Int) (x4 : Int) (x5 : Int) : roundK Tryz.prog cfg RN n 5 58 5 0 (laws_szTalkS_S5 t0 x0 x1 x4 x5) = (br (decide (x5 < (↑x0.length : Int))) (qb (idx x0 x5) fun y => qb (laws_szTalk_T y x1) fun x => br (decide (x < 0)) (some (Ex.ret, laws_szTalkS_O5 x (-1))) (some (Ex.nrm, laws_szTalkS_S5 t0 x0 x x4 (IntKind.i64.wrap (x5 + 1))))) (some (Ex.ext 0, laws_szTalkS_O5 x1 x4)) : Option (Ex × St)) := by kernel_rfl

theorem spec_CacheOk_round2 (n : Nat) (t0 : Bool) (x0 : List Policy) (x2 : Bool) (x3 : Int) : roundK Tryz.prog cfg RN n 5 61 2 0 (spec_CacheOk_S2 t0 x0 x2 x3) = (br (decide (x3 < (↑x0.length : Int))) (qb (idx x0 x3) fun y => qb (spec_PolicyOk_T y) fun x => br (!x) (some (Ex.ret, spec_CacheOk_O2 t0 x0 false)) (br (decide (x3 > 0)) (qb (idx x0 (IntKind.i64.wrap (x3 - 1))) fun y => qb (idx x0 x3) fun y_1 => br (!Op.bytesLess y.domain.toList y_1.domain.toList) (some (Ex.ret, spec_CacheOk_O2 t0 x0 false)) (some (Ex.nrm, spec_CacheOk_S2 t0 x0 x2 (IntKind.i64.wrap (x3 + 1))))) (some (Ex.nrm, spec_CacheOk_S2 t0 x0 x2 (IntKind.i64.wrap (x3 + 1)))))) (some (Ex.ext 0, spec_CacheOk_O2 t0 x0 x2)) : Option (Ex × St)) := by kernel_rfl

theorem spec_l13Hosts_round2 (n : Nat) (t0 : Bool) (x0 : List Host) (x2 : Bool) (x3 : Int) : roundK Tryz.prog cfg RN n 5 62 2 0 (spec_l13Hosts_S2 t0 x0 x2 x3) = (br (decide (x3 < (↑x0.length : Int))) (qb (idx x0 x3) fun y => qb (spec_HostOk_T y.name) fun x => br (!x) (some (Ex.ret, spec_l13Hosts_O2 t0 x0 false)) (qb (idx x0 x3) fun y => qb (spec_l1In_T y.key 0 999) fun x => br (!x) (some (Ex.ret, spec_l13Hosts_O2 t0 x0 false)) (qb (spec_l13Hosts_L7 n n t0 x0 x2 x3 0) fun x => br (isRetE x.fst) (some (Ex.ret, spec_l13Hosts_O2 false x.snd.fst.fst x.snd.fst.snd.fst)) (br (isExt 2 x.fst) (some (Ex.nrm, spec_l13Hosts_S2 false x.snd.fst.fst x.snd.fst.snd.fst (IntKind.i64.wrap (x.snd.fst.snd.snd.fst + 1)))) none)))) (some (Ex.ext 0, spec_l13Hosts_O2 t0 x0 x2)) : Option (Ex × St)) := by kernel_rfl

theorem spec_l13Hosts_round7 (n : Nat) (t0 : Bool) (x0 : List Host) (x2 : Bool) (x3 : Int) (x4 : Int) : roundK Tryz.prog cfg RN n 5 62 7 0 (spec_l13Hosts_S7 t0 x0 x2 x3 x4) = (br (decide (x4 < x3)) (qb (idx x0 x4) fun y => qb (idx x0 x3) fun y_1 => br (y.name.toList == y_1.name.toList) (some (Ex.ret, spec_l13Hosts_O7 t0 x0 false x3)) (some (Ex.nrm, spec_l13Hosts_S7 t0 x0 x2 x3 (IntKind.i64.wrap (x4 + 1))))) (some (Ex.ext 2, spec_l13Hosts_O7 t0 x0 x2 x3)) : Option (Ex × St)) := by kernel_rfl

theorem spec_l13Open_round2 (n : Nat) (x2 : Bool) (x3 : Int) (y1 : WorldD) : roundK Tryz.prog cfg RN n 5 65 2 0 (spec_l13Open_S2 x2 x3 y1) = (br (decide (x3 < (↑y1.calls.length : Int))) (qb (idx y1.calls x3) fun y => qb (spec_l1In_T y.letter 0 (IntKind.i64.wrap ((↑y1.letters.length : Int) - 1))) fun x => br (!x) (some (Ex.ret, spec_l13Open_O2 false y1)) (qb (idx y1.calls x3) fun y => qb (spec_ClientOk_T y.client) fun x => br (!x) (some (Ex.ret, spec_l13Open_O2 false y1)) (some (Ex.nrm, spec_l13Open_S2 x2 (IntKind.i64.wrap (x3 + 1)) y1)))) (some (Ex.ext 0, spec_l13Open_O2 x2 y1)) : Option (Ex × St)) := by kernel_rfl

theorem spec_l13Open_round7 (n : Nat) (x2 : Bool) (x4 : Int) (y1 : WorldD) : roundK Tryz.prog cfg RN n 5 65 7 0 (spec_l13Open_S7 x2 x4 y1) = (br (decide (x4 < (↑y1.talks.length : Int))) (qb (idx y1.talks x4) fun y => qb (spec_l1In_T y.host 0 (IntKind.i64.wrap ((↑y1.hosts.length : Int) - 1))) fun x => br (!x) (some (Ex.ret, spec_l13Open_O7 false y1)) (qb (idx y1.talks x4) fun y => qb (spec_ServerOk_T y.server) fun x => br (!x) (some (Ex.ret, spec_l13Open_O7 false y1)) (some (Ex.nrm, spec_l13Open_S7 x2 (IntKind.i64.wrap (x4 + 1)) y1)))) (some (Ex.ext 2, spec_l13Open_O7 x2 y1)) : Option (Ex × St)) := by kernel_rfl

theorem laws_toTermS_round3 (n : Nat) (t0 : Bool) (x0 : List Term) (x3 : List Term) (x4 : Int) : roundK Tryz.prog cfg RN n 5 66 3 0 (laws_toTermS_S3 t0 x0 x3 x4) = (br (decide (x4 < (↑x0.length : Int))) (qb (idx x0 x4) fun y => qb (laws_toTerm_T y) fun x => qb (idx x3 x4) fun y => qb x3[x4.toNat]? fun x_1 => some (Ex.nrm, laws_toTermS_S3 t0 x0 (x3.set x4.toNat (Term.mk x.op x.n x.s x.kids)) (IntKind.i64.wrap (x4 + 1)))) (some (Ex.ext 0, laws_toTermS_O3 x3)) : Option (Ex × St)) := by kernel_rfl

theorem laws_toPolicyS_round3 (n : Nat) (t0 : Bool) (x0 : List Policy) (x3 : List Policy) (x4 : Int) : roundK Tryz.prog cfg RN n 5 67 3 0 (laws_toPolicyS_S3 t0 x0 x3 x4) = (br (decide (x4 < (↑x0.length : Int))) (qb (idx x0 x4) fun y => qb (laws_toPolicy_T y) fun x => qb (idx x3 x4) fun y => qb x3[x4.toNat]? fun x_1 => some (Ex.nrm, laws_toPolicyS_S3 t0 x0 (x3.set x4.toNat x) (IntKind.i64.wrap (x4 + 1)))) (some (Ex.ext 0, laws_toPolicyS_O3 x3)) : Option (Ex × St)) := by kernel_rfl

theorem laws_toHostS_round3 (n : Nat) (t0 : Bool) (x0 : List Host) (x3 : List Host) (x4 : Int) : roundK Tryz.prog cfg RN n 5 68 3 0 (laws_toHostS_S3 t0 x0 x3 x4) = (br (decide (x4 < (↑x0.length : Int))) (qb (idx x0 x4) fun y => qb (laws_toHost_T y) fun x => qb (idx x3 x4) fun y => qb x3[x4.toNat]? fun x_1 => some (Ex.nrm, laws_toHostS_S3 t0 x0 (x3.set x4.toNat x) (IntKind.i64.wrap (x4 + 1)))) (some (Ex.ext 0, laws_toHostS_O3 x3)) : Option (Ex × St)) := by kernel_rfl

theorem laws_toLetterS_round3 (n : Nat) (t0 : Bool) (x0 : List Letter) (x3 : List Letter) (x4 : Int) : roundK Tryz.prog cfg RN n 5 69 3 0 (laws_toLetterS_S3 t0 x0 x3 x4) = (br (decide (x4 < (↑x0.length : Int))) (qb (idx x0 x4) fun y => qb (laws_toLetter_T y) fun x => qb (idx x3 x4) fun y => qb x3[x4.toNat]? fun x_1 => some (Ex.nrm, laws_toLetterS_S3 t0 x0 (x3.set x4.toNat x) (IntKind.i64.wrap (x4 + 1)))) (some (Ex.ext 0, laws_toLetterS_O3 x3)) : Option (Ex × St)) := by kernel_rfl

theorem laws_toCallS_round3 (n : Nat) (t0 : Bool) (x0 : List CallD) (x3 : List CallD) (x4 : Int) : roundK Tryz.prog cfg RN n 5 70 3 0 (laws_toCallS_S3 t0 x0 x3 x4) = (br (decide (x4 < (↑x0.length : Int))) (qb (idx x0 x4) fun y => qb (laws_toCall_T y) fun x => qb (idx x3 x4) fun y => qb x3[x4.toNat]? fun x_1 => some (Ex.nrm, laws_toCallS_S3 t0 x0 (x3.set x4.toNat (CallD.mk x.letter (Client.mk x.client.step x.client.host x.client.must x.client.eph x.client.body (Term.mk x.client.share.op x.client.share.n x.client.share.s x.client.share.kids) x.client.inn x.client.out x.client.tls x.client.proved) x.good)) (IntKind.i64.wrap (x4 + 1)))) (some (Ex.ext 0, laws_toCallS_O3 x3)) : Option (Ex × St)) := by kernel_rfl

theorem laws_toTalkS_round3 (n : Nat) (t0 : Bool) (x0 : List Talk) (x3 : List Talk) (x4 : Int) : roundK Tryz.prog cfg RN n 5 71 3 0 (laws_toTalkS_S3 t0 x0 x3 x4) = (br (decide (x4 < (↑x0.length : Int))) (qb (idx x0 x4) fun y => qb (laws_toTalk_T y) fun x => qb (idx x3 x4) fun y => qb x3[x4.toNat]? fun x_1 => some (Ex.nrm, laws_toTalkS_S3 t0 x0 (x3.set x4.toNat (Talk.mk x.host (Server.mk x.server.step x.server.host x.server.key x.server.eph (Term.mk x.server.cert.op x.server.cert.n x.server.cert.s x.server.cert.kids) (Term.mk x.server.share.op x.server.share.n x.server.share.s x.server.share.kids) x.server.inn x.server.out x.server.tls x.server.got))) (IntKind.i64.wrap (x4 + 1)))) (some (Ex.ext 0, laws_toTalkS_O3 x3)) : Option (Ex × St)) := by kernel_rfl

theorem laws_toIntS_round3 (n : Nat) (t0 : Bool) (x0 : List Int) (x3 : List Int) (x4 : Int) : roundK Tryz.prog cfg RN n 5 72 3 0 (laws_toIntS_S3 t0 x0 x3 x4) = (br (decide (x4 < (↑x0.length : Int))) (qb (idx x0 x4) fun y => qb (idx x3 x4) fun y_1 => qb x3[x4.toNat]? fun x => some (Ex.nrm, laws_toIntS_S3 t0 x0 (x3.set x4.toNat y) (IntKind.i64.wrap (x4 + 1)))) (some (Ex.ext 0, laws_toIntS_O3 x3)) : Option (Ex × St)) := by kernel_rfl

theorem impl_CacheOk_round2 (n : Nat) (t0 : Bool) (x0 : List Policy) (x2 : Bool) (t5 : Bool) (x5 : List Policy) (x6 : Int) (x7 : Int) : roundK Tryz.prog cfg RN n 5 78 2 0 (impl_CacheOk_S2 t0 x0 x2 t5 x5 x6 x7) = (br (decide (x7 < x6)) (qb (idx x5 x7) fun y => qb (impl_PolicyOk_T y) fun x => br (!x) (some (Ex.ret, impl_CacheOk_O2 t0 x0 false)) (br (decide (x7 > 0)) (qb (idx x0 (IntKind.i64.wrap (x7 - 1))) fun y_1 => br (!Op.bytesLess y_1.domain.toList y.domain.toList) (some (Ex.ret, impl_CacheOk_O2 t0 x0 false)) (some (Ex.nrm, impl_CacheOk_S2 t0 x0 x2 t5 x5 x6 (IntKind.i64.wrap (x7 + 1))))) (some (Ex.nrm, impl_CacheOk_S2 t0 x0 x2 t5 x5 x6 (IntKind.i64.wrap (x7 + 1)))))) (some (Ex.ext 0, impl_CacheOk_O2 t0 x0 x2)) : Option (Ex × St)) := by kernel_rfl

theorem impl_hostsOk_round2 (n : Nat) (t0 : Bool) (x0 : List Host) (x2 : Bool) (t5 : Bool) (x5 : List Host) (x6 : Int) (x7 : Int) : roundK Tryz.prog cfg RN n 5 79 2 0 (impl_hostsOk_S2 t0 x0 x2 t5 x5 x6 x7) = (br (decide (x7 < x6)) (qb (idx x5 x7) fun y => qb (impl_HostOk_T y.name) fun x => br (!x) (some (Ex.ret, impl_hostsOk_O2 t0 x0 false)) (qb (impl_in_T y.key 0 999) fun x => br (!x) (some (Ex.ret, impl_hostsOk_O2 t0 x0 false)) (qb (bnds x0.length none (some x7)) fun p => qb (slices_ContainsFunc_impl_Host_impl_Host_T (List.drop p.fst (List.take p.snd x0)) (V.c (C.fn 164 [C.f (F.ep Kind.host y 0)]))) fun x => br x (some (Ex.ret, impl_hostsOk_O2 t0 x0 false)) (some (Ex.nrm, impl_hostsOk_S2 t0 x0 x2 t5 x5 x6 (IntKind.i64.wrap (x7 + 1))))))) (some (Ex.ext 0, impl_hostsOk_O2 t0 x0 x2)) : Option (Ex × St)) := by kernel_rfl

theorem impl_linesOk_round2 (n : Nat) (x2 : Bool) (t8 : Bool) (x8 : List CallD) (x9 : Int) (x10 : Int) (y1 : WorldD) : roundK Tryz.prog cfg RN n 5 83 2 0 (impl_linesOk_S2 x2 t8 x8 x9 x10 y1) = (br (decide (x10 < x9)) (qb (idx x8 x10) fun y => qb (impl_in_T y.letter 0 (IntKind.i64.wrap ((↑y1.letters.length : Int) - 1))) fun x => br (!x) (some (Ex.ret, impl_linesOk_O2 false y1)) (qb (impl_ClientOk_T y.client) fun x => br (!x) (some (Ex.ret, impl_linesOk_O2 false y1)) (some (Ex.nrm, impl_linesOk_S2 x2 t8 x8 x9 (IntKind.i64.wrap (x10 + 1)) y1)))) (some (Ex.ext 0, impl_linesOk_O2 x2 y1)) : Option (Ex × St)) := by kernel_rfl

theorem impl_linesOk_round8 (n : Nat) (x2 : Bool) (t30 : Bool) (x30 : List Talk) (x31 : Int) (x32 : Int) (y1 : WorldD) : roundK Tryz.prog cfg RN n 5 83 8 0 (impl_linesOk_S8 x2 t30 x30 x31 x32 y1) = (br (decide (x32 < x31)) (qb (idx x30 x32) fun y => qb (impl_in_T y.host 0 (IntKind.i64.wrap ((↑y1.hosts.length : Int) - 1))) fun x => br (!x) (some (Ex.ret, impl_linesOk_O8 false y1)) (qb (impl_ServerOk_T y.server) fun x => br (!x) (some (Ex.ret, impl_linesOk_O8 false y1)) (some (Ex.nrm, impl_linesOk_S8 x2 t30 x30 x31 (IntKind.i64.wrap (x32 + 1)) y1)))) (some (Ex.ext 2, impl_linesOk_O8 x2 y1)) : Option (Ex × St)) := by kernel_rfl

theorem impl_toldOk_round2 (n : Nat) (t0 : Bool) (x0 : List Int) (x2 : Bool) (t5 : Bool) (x5 : List Int) (x6 : Int) (x7 : Int) : roundK Tryz.prog cfg RN n 5 84 2 0 (impl_toldOk_S2 t0 x0 x2 t5 x5 x6 x7) = (br (decide (x7 < x6)) (qb (idx x5 x7) fun y => qb (impl_isAtom_T y) fun x => br (!x) (some (Ex.ret, impl_toldOk_O2 false)) (br (decide (x7 > 0)) (qb (idx x0 (IntKind.i64.wrap (x7 - 1))) fun y_1 => br (decide (y_1 ≥ y)) (some (Ex.ret, impl_toldOk_O2 false)) (some (Ex.nrm, impl_toldOk_S2 t0 x0 x2 t5 x5 x6 (IntKind.i64.wrap (x7 + 1))))) (some (Ex.nrm, impl_toldOk_S2 t0 x0 x2 t5 x5 x6 (IntKind.i64.wrap (x7 + 1)))))) (some (Ex.ext 0, impl_toldOk_O2 x2)) : Option (Ex × St)) := by kernel_rfl

theorem laws_eqTermS_round4 (n : Nat) (t0 : Bool) (x0 : List Term) (t1 : Bool) (x1 : List Term) (x4 : Bool) (x5 : Int) : roundK Tryz.prog cfg RN n 5 85 4 0 (laws_eqTermS_S4 t0 x0 t1 x1 x4 x5) = (br (decide (x5 < (↑x0.length : Int))) (qb (idx x0 x5) fun y => qb (idx x1 x5) fun y_1 => qb (laws_eqTerm_T y y_1) fun x => br (!x) (some (Ex.ret, laws_eqTermS_O4 false)) (some (Ex.nrm, laws_eqTermS_S4 t0 x0 t1 x1 x4 (IntKind.i64.wrap (x5 + 1))))) (some (Ex.ext 0, laws_eqTermS_O4 x4)) : Option (Ex × St)) := by kernel_rfl

theorem laws_eqPolicyS_round4 (n : Nat) (t0 : Bool) (x0 : List Policy) (t1 : Bool) (x1 : List Policy) (x4 : Bool) (x5 : Int) : roundK Tryz.prog cfg RN n 5 86 4 0 (laws_eqPolicyS_S4 t0 x0 t1 x1 x4 x5) = (br (decide (x5 < (↑x0.length : Int))) (qb (idx x0 x5) fun y => qb (idx x1 x5) fun y_1 => qb (laws_eqPolicy_T y y_1) fun x => br (!x) (some (Ex.ret, laws_eqPolicyS_O4 false)) (some (Ex.nrm, laws_eqPolicyS_S4 t0 x0 t1 x1 x4 (IntKind.i64.wrap (x5 + 1))))) (some (Ex.ext 0, laws_eqPolicyS_O4 x4)) : Option (Ex × St)) := by kernel_rfl

theorem laws_eqHostS_round4 (n : Nat) (t0 : Bool) (x0 : List Host) (t1 : Bool) (x1 : List Host) (x4 : Bool) (x5 : Int) : roundK Tryz.prog cfg RN n 5 87 4 0 (laws_eqHostS_S4 t0 x0 t1 x1 x4 x5) = (br (decide (x5 < (↑x0.length : Int))) (qb (idx x0 x5) fun y => qb (idx x1 x5) fun y_1 => qb (laws_eqHost_T y y_1) fun x => br (!x) (some (Ex.ret, laws_eqHostS_O4 false)) (some (Ex.nrm, laws_eqHostS_S4 t0 x0 t1 x1 x4 (IntKind.i64.wrap (x5 + 1))))) (some (Ex.ext 0, laws_eqHostS_O4 x4)) : Option (Ex × St)) := by kernel_rfl

theorem laws_eqLetterS_round4 (n : Nat) (t0 : Bool) (x0 : List Letter) (t1 : Bool) (x1 : List Letter) (x4 : Bool) (x5 : Int) : roundK Tryz.prog cfg RN n 5 88 4 0 (laws_eqLetterS_S4 t0 x0 t1 x1 x4 x5) = (br (decide (x5 < (↑x0.length : Int))) (qb (idx x0 x5) fun y => qb (idx x1 x5) fun y_1 => qb (laws_eqLetter_T y y_1) fun x => br (!x) (some (Ex.ret, laws_eqLetterS_O4 false)) (some (Ex.nrm, laws_eqLetterS_S4 t0 x0 t1 x1 x4 (IntKind.i64.wrap (x5 + 1))))) (some (Ex.ext 0, laws_eqLetterS_O4 x4)) : Option (Ex × St)) := by kernel_rfl

theorem laws_eqCallS_round4 (n : Nat) (t0 : Bool) (x0 : List CallD) (t1 : Bool) (x1 : List CallD) (x4 : Bool) (x5 : Int) : roundK Tryz.prog cfg RN n 5 89 4 0 (laws_eqCallS_S4 t0 x0 t1 x1 x4 x5) = (br (decide (x5 < (↑x0.length : Int))) (qb (idx x0 x5) fun y => qb (idx x1 x5) fun y_1 => qb (laws_eqCall_T y y_1) fun x => br (!x) (some (Ex.ret, laws_eqCallS_O4 false)) (some (Ex.nrm, laws_eqCallS_S4 t0 x0 t1 x1 x4 (IntKind.i64.wrap (x5 + 1))))) (some (Ex.ext 0, laws_eqCallS_O4 x4)) : Option (Ex × St)) := by kernel_rfl

theorem laws_eqTalkS_round4 (n : Nat) (t0 : Bool) (x0 : List Talk) (t1 : Bool) (x1 : List Talk) (x4 : Bool) (x5 : Int) : roundK Tryz.prog cfg RN n 5 90 4 0 (laws_eqTalkS_S4 t0 x0 t1 x1 x4 x5) = (br (decide (x5 < (↑x0.length : Int))) (qb (idx x0 x5) fun y => qb (idx x1 x5) fun y_1 => qb (laws_eqTalk_T y y_1) fun x => br (!x) (some (Ex.ret, laws_eqTalkS_O4 false)) (some (Ex.nrm, laws_eqTalkS_S4 t0 x0 t1 x1 x4 (IntKind.i64.wrap (x5 + 1))))) (some (Ex.ext 0, laws_eqTalkS_O4 x4)) : Option (Ex × St)) := by kernel_rfl

theorem spec_l15Got_round2 (n : Nat) (x1 : Int) (x4 : Bool) (x5 : Int) (y2 : WorldD) : roundK Tryz.prog cfg RN n 5 93 2 0 (spec_l15Got_S2 x1 x4 x5 y2) = (br (decide (x5 < (↑y2.talks.length : Int))) (qb (idx y2.talks x5) fun y => qb (spec_l15In_T y.server.got x1) fun x => br x (some (Ex.ret, spec_l15Got_O2 true)) (some (Ex.nrm, spec_l15Got_S2 x1 x4 (IntKind.i64.wrap (x5 + 1)) y2))) (some (Ex.ext 0, spec_l15Got_O2 x4)) : Option (Ex × St)) := by kernel_rfl

theorem spec_l15In_round2 (n : Nat) (t0 : Bool) (x0 : List Int) (x1 : Int) (x4 : Bool) (x5 : Int) : roundK Tryz.prog cfg RN n 5 98 2 0 (spec_l15In_S2 t0 x0 x1 x4 x5) = (br (decide (x5 < (↑x0.length : Int))) (qb (idx x0 x5) fun y => br (y == x1) (some (Ex.ret, spec_l15In_O2 true)) (some (Ex.nrm, spec_l15In_S2 t0 x0 x1 x4 (IntKind.i64.wrap (x5 + 1))))) (some (Ex.ext 0, spec_l15In_O2 x4)) : Option (Ex × St)) := by kernel_rfl

theorem spec_Notes_round4 (n : Nat) (x0 : ByteArray) (x4 : List Note) (x5 : Int) (x6 : Int) : roundK Tryz.prog cfg RN n 5 118 4 0 (spec_Notes_S4 x0 x4 x5 x6) = (br (decide (x6 < (↑x0.size : Int))) (qb (byteAt x0 x6) fun b => br (b != 10) (some (Ex.nrm, spec_Notes_S4 x0 x4 x5 (IntKind.i64.wrap (x6 + 1)))) (qb (bnds x0.size (some x5) (some (IntKind.i64.wrap (x6 + 1)))) fun p => qb (spec_NoteOf_T (x0.extract p.fst p.snd)) fun x => br (!x.snd.fst) (some (Ex.ext 0, spec_Notes_O4 x4 x5)) (br (((x4).length + [x.fst].length).ble appMax) (some (Ex.nrm, spec_Notes_S4 x0 (x4 ++ [x.fst]) (IntKind.i64.wrap (x6 + 1)) (IntKind.i64.wrap (x6 + 1)))) none))) (some (Ex.ext 0, spec_Notes_O4 x4 x5)) : Option (Ex × St)) := by kernel_rfl

theorem spec_Play_round3 (n : Nat) (t0 : Bool) (x0 : List Note) (x3 : List Letter) (x4 : Int) : roundK Tryz.prog cfg RN n 5 119 3 0 (spec_Play_S3 t0 x0 x3 x4) = (br (decide (x4 < (↑x0.length : Int))) (qb (idx x0 x4) fun y => qb (spec_NoteOk_T y) fun x => br (!x) (some (Ex.nrm, spec_Play_S3 t0 x0 x3 (IntKind.i64.wrap (x4 + 1)))) (br (y.kind == 1) (br (y.who == (↑x3.length : Int)) (br (((x3).length + [Letter.mk y.domain y.body 1 0 0].length).ble appMax) (some (Ex.nrm, spec_Play_S3 t0 x0 (x3 ++ [Letter.mk y.domain y.body 1 0 0]) (IntKind.i64.wrap (x4 + 1)))) none) (some (Ex.nrm, spec_Play_S3 t0 x0 x3 (IntKind.i64.wrap (x4 + 1))))) (br (decide (y.who ≥ (↑x3.length : Int))) (some (Ex.nrm, spec_Play_S3 t0 x0 x3 (IntKind.i64.wrap (x4 + 1)))) (br (y.kind == 2) (qb (idx x3 y.who) fun y_1 => qb x3[y.who.toNat]? fun x => qb (spec_LetterTry_T x y.time) fun x => qb (idx x3 y.who) fun y_2 => qb x3[y.who.toNat]? fun x_1 => some (Ex.nrm, spec_Play_S3 t0 x0 (x3.set y.who.toNat x.fst) (IntKind.i64.wrap (x4 + 1)))) (qb (idx x3 y.who) fun y_1 => qb x3[y.who.toNat]? fun x => qb (spec_LetterEnd_T x (y.kind == 3)) fun x => qb (idx x3 y.who) fun y_2 => qb x3[y.who.toNat]? fun x_1 => some (Ex.nrm, spec_Play_S3 t0 x0 (x3.set y.who.toNat x) (IntKind.i64.wrap (x4 + 1)))))))) (some (Ex.ext 0, spec_Play_O3 x3)) : Option (Ex × St)) := by kernel_rfl

theorem impl_Notes_round3 (n : Nat) (x0 : ByteArray) (x2 : List Note) (x3 : Int) (x4 : List Note) (x5 : Int) : roundK Tryz.prog cfg RN n 5 120 3 0 (impl_Notes_S3 x0 x2 x3 x4 x5) = (qb (bnds x0.size (some x5) none) fun p => qb (strings_IndexByte_T (x0.extract p.fst p.snd) 10) fun x => br (decide (x < 0)) (some (Ex.ret, impl_Notes_O3 x4 x5)) (qb (bnds x0.size (some x5) (some (IntKind.i64.wrap (IntKind.i64.wrap (x5 + x) + 1)))) fun p => qb (impl_NoteOf_T (x0.extract p.fst p.snd)) fun x_1 => br (!x_1.snd.fst) (some (Ex.ret, impl_Notes_O3 x4 x5)) (br (((x4).length + [x_1.fst].length).ble appMax) (some (Ex.nrm, impl_Notes_S3 x0 x2 x3 (x4 ++ [x_1.fst]) (IntKind.i64.wrap (x5 + IntKind.i64.wrap (x + 1))))) none)) : Option (Ex × St)) := by kernel_rfl

theorem slices_Equal_impl_Letter_impl_Letter_round4 (n : Nat) (t0 : Bool) (x0 : List Letter) (t1 : Bool) (x1 : List Letter) (x4 : Bool) (x12 : Int) (x13 : Int) : roundK Tryz.prog cfg RN n 5 121 4 0 (slices_Equal_impl_Letter_impl_Letter_S4 t0 x0 t1 x1 x4 x12 x13) = (br (decide (x13 < x12)) (qb (idx x0 x13) fun y => qb (idx x1 x13) fun y_1 => br (!(y.domain == y_1.domain && (y.body == y_1.body && (y.state == y_1.state && (y.tries == y_1.tries && (y.next == y_1.next && true)))))) (some (Ex.ret, slices_Equal_impl_Letter_impl_Letter_O4 false)) (some (Ex.nrm, slices_Equal_impl_Letter_impl_Letter_S4 t0 x0 t1 x1 x4 x12 (IntKind.i64.wrap (x13 + 1))))) (some (Ex.ext 0, slices_Equal_impl_Letter_impl_Letter_O4 x4)) : Option (Ex × St)) := by kernel_rfl

theorem impl_Play_round3 (n : Nat) (x3 : List Letter) (t7 : Bool) (x7 : List Note) (x8 : Int) (x9 : Int) : roundK Tryz.prog cfg RN n 5 122 3 0 (impl_Play_S3 x3 t7 x7 x8 x9) = (br (decide (x9 < x8)) (qb (idx x7 x9) fun y => qb (impl_NoteOk_T y) fun x => br (!x) (some (Ex.nrm, impl_Play_S3 x3 t7 x7 x8 (IntKind.i64.wrap (x9 + 1)))) (br (y.kind == 1) (br (y.who == (↑x3.length : Int)) (br (((x3).length + [Letter.mk y.domain y.body 1 0 0].length).ble appMax) (some (Ex.nrm, impl_Play_S3 (x3 ++ [Letter.mk y.domain y.body 1 0 0]) t7 x7 x8 (IntKind.i64.wrap (x9 + 1)))) none) (some (Ex.nrm, impl_Play_S3 x3 t7 x7 x8 (IntKind.i64.wrap (x9 + 1))))) (br (decide (y.who ≥ (↑x3.length : Int))) (some (Ex.nrm, impl_Play_S3 x3 t7 x7 x8 (IntKind.i64.wrap (x9 + 1)))) (br (y.kind == 2) (qb (idx x3 y.who) fun y_1 => qb x3[y.who.toNat]? fun x => qb (impl_LetterTry_T x y.time) fun x => qb (idx x3 y.who) fun y_2 => qb x3[y.who.toNat]? fun x_1 => some (Ex.nrm, impl_Play_S3 (x3.set y.who.toNat x.fst) t7 x7 x8 (IntKind.i64.wrap (x9 + 1)))) (qb (idx x3 y.who) fun y_1 => qb x3[y.who.toNat]? fun x => qb (impl_LetterEnd_T x (y.kind == 3)) fun x => qb (idx x3 y.who) fun y_2 => qb x3[y.who.toNat]? fun x_1 => some (Ex.nrm, impl_Play_S3 (x3.set y.who.toNat x) t7 x7 x8 (IntKind.i64.wrap (x9 + 1)))))))) (some (Ex.ext 0, impl_Play_O3 x3)) : Option (Ex × St)) := by kernel_rfl

theorem spec_Same_round4 (n : Nat) (x4 : Bool) (x5 : Int) (y2 : Term) (y3 : Term) : roundK Tryz.prog cfg RN n 5 129 4 0 (spec_Same_S4 x4 x5 y2 y3) = (br (decide (x5 < (↑y2.kids.length : Int))) (qb (idx y2.kids x5) fun y => qb (idx y3.kids x5) fun y_1 => qb (spec_Same_T y y_1) fun x => br (!x) (some (Ex.ret, spec_Same_O4 false)) (some (Ex.nrm, spec_Same_S4 x4 (IntKind.i64.wrap (x5 + 1)) y2 y3))) (some (Ex.ext 0, spec_Same_O4 x4)) : Option (Ex × St)) := by kernel_rfl

theorem spec_PolicyOk_round2 (n : Nat) (x2 : Bool) (x3 : Int) (y1 : Policy) : roundK Tryz.prog cfg RN n 5 148 2 0 (spec_PolicyOk_S2 x2 x3 y1) = (br (decide (x3 < (↑y1.mx.length : Int))) (qb (idx y1.mx x3) fun y => qb (spec_PatternOk_T y) fun x => br (!x) (some (Ex.ret, spec_PolicyOk_O2 false y1)) (some (Ex.nrm, spec_PolicyOk_S2 x2 (IntKind.i64.wrap (x3 + 1)) y1))) (some (Ex.ext 0, spec_PolicyOk_O2 x2 y1)) : Option (Ex × St)) := by kernel_rfl

theorem spec_TermSize_round3 (n : Nat) (x3 : Int) (x4 : Int) (y1 : Term) : roundK Tryz.prog cfg RN n 5 149 3 0 (spec_TermSize_S3 x3 x4 y1) = (br (decide (x4 < (↑y1.kids.length : Int))) (qb (idx y1.kids x4) fun y => qb (spec_TermSize_T y) fun x => some (Ex.nrm, spec_TermSize_S3 (IntKind.i64.wrap (x3 + x)) (IntKind.i64.wrap (x4 + 1)) y1)) (some (Ex.ext 0, spec_TermSize_O3 x3)) : Option (Ex × St)) := by kernel_rfl

theorem spec_l1Right_round4 (n : Nat) (x2 : Bool) (x3 : Int) (y1 : Term) : roundK Tryz.prog cfg RN n 5 150 4 0 (spec_l1Right_S4 x2 x3 y1) = (br (decide (x3 < (↑y1.kids.length : Int))) (qb (idx y1.kids x3) fun y => qb (spec_l1Right_T y) fun x => br (!x) (some (Ex.ret, spec_l1Right_O4 false y1)) (some (Ex.nrm, spec_l1Right_S4 x2 (IntKind.i64.wrap (x3 + 1)) y1))) (some (Ex.ext 0, spec_l1Right_O4 x2 y1)) : Option (Ex × St)) := by kernel_rfl

theorem spec_l6Domain_round2 (n : Nat) (x0 : ByteArray) (x2 : Bool) (x3 : Int) : roundK Tryz.prog cfg RN n 5 151 2 0 (spec_l6Domain_S2 x0 x2 x3) = (br (decide (x3 < (↑x0.size : Int))) (qb (byteAt x0 x3) fun b => br (decide (b < 97)) (some (Ex.ret, spec_l6Domain_O2 x0 false)) (qb (byteAt x0 x3) fun b => br (decide (b > 122)) (some (Ex.ret, spec_l6Domain_O2 x0 false)) (some (Ex.nrm, spec_l6Domain_S2 x0 x2 (IntKind.i64.wrap (x3 + 1)))))) (some (Ex.ext 0, spec_l6Domain_O2 x0 x2)) : Option (Ex × St)) := by kernel_rfl

theorem IndexFunc_WorldOk_1_round2 (n : Nat) (t0 : Bool) (x0 : List Term) (x4 : Int) (x7 : Int) (x8 : Int) : roundK Tryz.prog cfg RN n 5 159 2 0 (IndexFunc_WorldOk_1_S2 t0 x0 x4 x7 x8) = (br (decide (x8 < x7)) (qb (idx x0 x8) fun y => qb (impl_TermOk_T y) fun x => br (!x) (some (Ex.ret, IndexFunc_WorldOk_1_O2 x8)) (some (Ex.nrm, IndexFunc_WorldOk_1_S2 t0 x0 x4 x7 (IntKind.i64.wrap (x8 + 1))))) (some (Ex.ext 0, IndexFunc_WorldOk_1_O2 x4)) : Option (Ex × St)) := by kernel_rfl

theorem IndexFunc_formOk_1_round2 (n : Nat) (t0 : Bool) (x0 : List Term) (x4 : Int) (x7 : Int) (x8 : Int) : roundK Tryz.prog cfg RN n 5 159 2 0 (IndexFunc_formOk_1_S2 t0 x0 x4 x7 x8) = (br (decide (x8 < x7)) (qb (idx x0 x8) fun y => qb (impl_formOk_T y) fun x => br (!x) (some (Ex.ret, IndexFunc_formOk_1_O2 x8)) (some (Ex.nrm, IndexFunc_formOk_1_S2 t0 x0 x4 x7 (IntKind.i64.wrap (x8 + 1))))) (some (Ex.ext 0, IndexFunc_formOk_1_O2 x4)) : Option (Ex × St)) := by kernel_rfl

theorem IndexFunc_made_1_round2 (n : Nat) (t0 : Bool) (x0 : List Term) (c0 : List Term) (x4 : Int) (x7 : Int) (x8 : Int) : roundK Tryz.prog cfg RN n 5 159 2 0 (IndexFunc_made_1_S2 t0 x0 c0 x4 x7 x8) = (br (decide (x8 < x7)) (qb (idx x0 x8) fun y => qb (impl_made_T c0 y) fun x => br (!x) (some (Ex.ret, IndexFunc_made_1_O2 x8)) (some (Ex.nrm, IndexFunc_made_1_S2 t0 x0 c0 x4 x7 (IntKind.i64.wrap (x8 + 1))))) (some (Ex.ext 0, IndexFunc_made_1_O2 x4)) : Option (Ex × St)) := by kernel_rfl

theorem IndexFunc_hasTerm_1_round2 (n : Nat) (t0 : Bool) (x0 : List Term) (c0 : Term) (x4 : Int) (x7 : Int) (x8 : Int) : roundK Tryz.prog cfg RN n 5 159 2 0 (IndexFunc_hasTerm_1_S2 t0 x0 c0 x4 x7 x8) = (br (decide (x8 < x7)) (qb (idx x0 x8) fun y => qb (impl_Same_T y c0) fun x => br x (some (Ex.ret, IndexFunc_hasTerm_1_O2 x8)) (some (Ex.nrm, IndexFunc_hasTerm_1_S2 t0 x0 c0 x4 x7 (IntKind.i64.wrap (x8 + 1))))) (some (Ex.ext 0, IndexFunc_hasTerm_1_O2 x4)) : Option (Ex × St)) := by kernel_rfl

theorem impl_TermSize_round3 (n : Nat) (x3 : Int) (t7 : Bool) (x7 : List Term) (x8 : Int) (x9 : Int) : roundK Tryz.prog cfg RN n 5 160 3 0 (impl_TermSize_S3 x3 t7 x7 x8 x9) = (br (decide (x9 < x8)) (qb (idx x7 x9) fun y => qb (impl_TermSize_T y) fun x => some (Ex.nrm, impl_TermSize_S3 (IntKind.i64.wrap (x3 + x)) t7 x7 x8 (IntKind.i64.wrap (x9 + 1)))) (some (Ex.ext 0, impl_TermSize_O3 x3)) : Option (Ex × St)) := by kernel_rfl

theorem IndexFunc_WorldOk_2_round2 (n : Nat) (t0 : Bool) (x0 : List Letter) (x4 : Int) (x7 : Int) (x8 : Int) : roundK Tryz.prog cfg RN n 5 165 2 0 (IndexFunc_WorldOk_2_S2 t0 x0 x4 x7 x8) = (br (decide (x8 < x7)) (qb (idx x0 x8) fun y => qb (impl_LetterOk_T y) fun x => br (!x) (some (Ex.ret, IndexFunc_WorldOk_2_O2 x8)) (some (Ex.nrm, IndexFunc_WorldOk_2_S2 t0 x0 x4 x7 (IntKind.i64.wrap (x8 + 1))))) (some (Ex.ext 0, IndexFunc_WorldOk_2_O2 x4)) : Option (Ex × St)) := by kernel_rfl

theorem IndexFunc_JudgeSecret_1_round2 (n : Nat) (t0 : Bool) (x0 : List Letter) (c0 : WorldD) (x4 : Int) (x7 : Int) (x8 : Int) : roundK Tryz.prog cfg RN n 5 165 2 0 (IndexFunc_JudgeSecret_1_S2 t0 x0 c0 x4 x7 x8) = (br (decide (x8 < x7)) (qb (idx x0 x8) fun y => qb (slices_Contains_int_int_T c0.told y.body) fun x => br (!x) (qb (impl_Atom_T y.body) fun x => qb (impl_Made_T c0.known x) fun x => br x (some (Ex.ret, IndexFunc_JudgeSecret_1_O2 x8)) (some (Ex.nrm, IndexFunc_JudgeSecret_1_S2 t0 x0 c0 x4 x7 (IntKind.i64.wrap (x8 + 1))))) (some (Ex.nrm, IndexFunc_JudgeSecret_1_S2 t0 x0 c0 x4 x7 (IntKind.i64.wrap (x8 + 1))))) (some (Ex.ext 0, IndexFunc_JudgeSecret_1_O2 x4)) : Option (Ex × St)) := by kernel_rfl

theorem impl_domainOk_round2 (n : Nat) (x0 : ByteArray) (x2 : Bool) (x5 : Int) (x6 : Int) : roundK Tryz.prog cfg RN n 5 166 2 0 (impl_domainOk_S2 x0 x2 x5 x6) = (br (decide (x6 < x5)) (qb (byteAt x0 x6) fun b => br (decide (b < 97)) (some (Ex.ret, impl_domainOk_O2 x0 false)) (qb (byteAt x0 x6) fun b => br (decide (b > 122)) (some (Ex.ret, impl_domainOk_O2 x0 false)) (some (Ex.nrm, impl_domainOk_S2 x0 x2 x5 (IntKind.i64.wrap (x6 + 1)))))) (some (Ex.ext 0, impl_domainOk_O2 x0 x2)) : Option (Ex × St)) := by kernel_rfl

theorem IndexFunc_JudgeHeld_1_round2 (n : Nat) (t0 : Bool) (x0 : List CallD) (x4 : Int) (x7 : Int) (x8 : Int) : roundK Tryz.prog cfg RN n 5 173 2 0 (IndexFunc_JudgeHeld_1_S2 t0 x0 x4 x7 x8) = (br (decide (x8 < x7)) (qb (idx x0 x8) fun y => br y.client.tls (br y.client.must (qb (impl_in_T y.client.step 5 9) fun x => br x (br (!y.client.proved) (some (Ex.ret, IndexFunc_JudgeHeld_1_O2 x8)) (br y.good (br (!y.client.must) (some (Ex.ret, IndexFunc_JudgeHeld_1_O2 x8)) (some (Ex.nrm, IndexFunc_JudgeHeld_1_S2 t0 x0 x4 x7 (IntKind.i64.wrap (x8 + 1))))) (some (Ex.nrm, IndexFunc_JudgeHeld_1_S2 t0 x0 x4 x7 (IntKind.i64.wrap (x8 + 1)))))) (br y.good (br (!y.client.must) (some (Ex.ret, IndexFunc_JudgeHeld_1_O2 x8)) (some (Ex.nrm, IndexFunc_JudgeHeld_1_S2 t0 x0 x4 x7 (IntKind.i64.wrap (x8 + 1))))) (some (Ex.nrm, IndexFunc_JudgeHeld_1_S2 t0 x0 x4 x7 (IntKind.i64.wrap (x8 + 1)))))) (br y.good (br (!y.client.must) (some (Ex.ret, IndexFunc_JudgeHeld_1_O2 x8)) (some (Ex.nrm, IndexFunc_JudgeHeld_1_S2 t0 x0 x4 x7 (IntKind.i64.wrap (x8 + 1))))) (some (Ex.nrm, IndexFunc_JudgeHeld_1_S2 t0 x0 x4 x7 (IntKind.i64.wrap (x8 + 1)))))) (br y.client.must (qb (impl_in_T y.client.step 5 9) fun x => br x (some (Ex.ret, IndexFunc_JudgeHeld_1_O2 x8)) (br y.good (br (!y.client.must) (some (Ex.ret, IndexFunc_JudgeHeld_1_O2 x8)) (some (Ex.nrm, IndexFunc_JudgeHeld_1_S2 t0 x0 x4 x7 (IntKind.i64.wrap (x8 + 1))))) (some (Ex.nrm, IndexFunc_JudgeHeld_1_S2 t0 x0 x4 x7 (IntKind.i64.wrap (x8 + 1)))))) (br y.good (br (!y.client.must) (some (Ex.ret, IndexFunc_JudgeHeld_1_O2 x8)) (some (Ex.nrm, IndexFunc_JudgeHeld_1_S2 t0 x0 x4 x7 (IntKind.i64.wrap (x8 + 1))))) (some (Ex.nrm, IndexFunc_JudgeHeld_1_S2 t0 x0 x4 x7 (IntKind.i64.wrap (x8 + 1))))))) (some (Ex.ext 0, IndexFunc_JudgeHeld_1_O2 x4)) : Option (Ex × St)) := by kernel_rfl

theorem IndexFunc_JudgeTaken_1_round2 (n : Nat) (t0 : Bool) (x0 : List CallD) (c0 : WorldD) (x4 : Int) (x7 : Int) (x8 : Int) : roundK Tryz.prog cfg RN n 5 173 2 0 (IndexFunc_JudgeTaken_1_S2 t0 x0 c0 x4 x7 x8) = (br (decide (x8 < x7)) (qb (idx x0 x8) fun y => br y.good (br (y.client.step == 9) (qb (slices_ContainsFunc_impl_Talk_impl_Talk_T c0.talks (V.c (C.fn 96 [C.f (F.ep Kind.call (CallD.mk y.letter (Client.mk y.client.step y.client.host y.client.must y.client.eph y.client.body (Term.mk y.client.share.op y.client.share.n y.client.share.s y.client.share.kids) y.client.inn y.client.out y.client.tls y.client.proved) y.good) 0)]))) fun x => br (!x) (some (Ex.ret, IndexFunc_JudgeTaken_1_O2 x8)) (some (Ex.nrm, IndexFunc_JudgeTaken_1_S2 t0 x0 c0 x4 x7 (IntKind.i64.wrap (x8 + 1))))) (some (Ex.nrm, IndexFunc_JudgeTaken_1_S2 t0 x0 c0 x4 x7 (IntKind.i64.wrap (x8 + 1))))) (some (Ex.nrm, IndexFunc_JudgeTaken_1_S2 t0 x0 c0 x4 x7 (IntKind.i64.wrap (x8 + 1))))) (some (Ex.ext 0, IndexFunc_JudgeTaken_1_O2 x4)) : Option (Ex × St)) := by kernel_rfl

theorem IndexFunc_JudgeTaken_1_1_round2 (n : Nat) (t0 : Bool) (x0 : List Talk) (c0 : CallD) (x4 : Int) (x7 : Int) (x8 : Int) : roundK Tryz.prog cfg RN n 5 174 2 0 (IndexFunc_JudgeTaken_1_1_S2 t0 x0 c0 x4 x7 x8) = (br (decide (x8 < x7)) (qb (idx x0 x8) fun y => qb (slices_Contains_int_int_T y.server.got c0.client.body) fun x => br x (some (Ex.ret, IndexFunc_JudgeTaken_1_1_O2 x8)) (some (Ex.nrm, IndexFunc_JudgeTaken_1_1_S2 t0 x0 c0 x4 x7 (IntKind.i64.wrap (x8 + 1))))) (some (Ex.ext 0, IndexFunc_JudgeTaken_1_1_O2 x4)) : Option (Ex × St)) := by kernel_rfl

theorem slices_Index_int_int_round2 (n : Nat) (t0 : Bool) (x0 : List Int) (x1 : Int) (x4 : Int) (x7 : Int) (x8 : Int) : roundK Tryz.prog cfg RN n 5 175 2 0 (slices_Index_int_int_S2 t0 x0 x1 x4 x7 x8) = (br (decide (x8 < x7)) (qb (idx x0 x8) fun y => br (x1 == y) (some (Ex.ret, slices_Index_int_int_O2 x8)) (some (Ex.nrm, slices_Index_int_int_S2 t0 x0 x1 x4 x7 (IntKind.i64.wrap (x8 + 1))))) (some (Ex.ext 0, slices_Index_int_int_O2 x4)) : Option (Ex × St)) := by kernel_rfl

theorem spec_l2Made_round9 (n : Nat) (t0 : Bool) (x0 : List Term) (x4 : Bool) (x7 : Int) (y3 : Term) : roundK Tryz.prog cfg RN n 5 176 9 0 (spec_l2Made_S9 t0 x0 x4 x7 y3) = (br (decide (x7 < (↑y3.kids.length : Int))) (qb (idx y3.kids x7) fun y => qb (spec_l2Made_T x0 y) fun x => br (!x) (some (Ex.ret, spec_l2Made_O9 false)) (some (Ex.nrm, spec_l2Made_S9 t0 x0 x4 (IntKind.i64.wrap (x7 + 1)) y3))) (some (Ex.ext 0, spec_l2Made_O9 x4)) : Option (Ex × St)) := by kernel_rfl

theorem spec_NoteOf_round7 (n : Nat) (x0 : ByteArray) (t4 : Bool) (x4 : List ByteArray) (t5 : Bool) (x5 : List ByteArray) (x7 : Int) (y2 : Note) (y6 : Note) : roundK Tryz.prog cfg RN n 5 182 7 0 (spec_NoteOf_S7 x0 t4 x4 t5 x5 x7 y2 y6) = (br (decide (x7 < (↑x5.length : Int))) (qb (idx x4 0) fun y => qb (idx x5 x7) fun y_1 => br (ByteArray.toList y == ByteArray.toList y_1) (some (Ex.nrm, spec_NoteOf_S7 x0 t4 x4 t5 x5 (IntKind.i64.wrap (x7 + 1)) y2 (Note.mk x7 y6.who y6.domain y6.body y6.time))) (some (Ex.nrm, spec_NoteOf_S7 x0 t4 x4 t5 x5 (IntKind.i64.wrap (x7 + 1)) y2 y6))) (some (Ex.ext 0, spec_NoteOf_O7 x0 t4 x4 y2 y6)) : Option (Ex × St)) := by kernel_rfl

theorem spec_l1Digits_round5 (n : Nat) (x0 : Int) (x3 : Bool) (x4 : ByteArray) : roundK Tryz.prog cfg RN n 5 192 5 0 (spec_l1Digits_S5 x0 x3 x4) = (br (x0 != 0) (qb (ne0 10) fun y => br (decide (x0.tmod 10 < 0)) (qb (u8of (IntKind.u8.wrap (IntKind.i64.wrap (48 + IntKind.i64.wrap (0 - x0.tmod 10))))) fun y => qb (catOk (ByteArray.mk #[y]) x4) fun y_1 => qb (ne0 10) fun y_2 => some (Ex.nrm, spec_l1Digits_S5 (IntKind.i64.wrap (x0.tdiv 10)) x3 (ByteArray.mk #[y] ++ x4))) (qb (u8of (IntKind.u8.wrap (IntKind.i64.wrap (48 + x0.tmod 10)))) fun y => qb (catOk (ByteArray.mk #[y]) x4) fun y_1 => qb (ne0 10) fun y_2 => some (Ex.nrm, spec_l1Digits_S5 (IntKind.i64.wrap (x0.tdiv 10)) x3 (ByteArray.mk #[y] ++ x4)))) (some (Ex.ext 0, spec_l1Digits_O5 x3 x4)) : Option (Ex × St)) := by kernel_rfl

theorem spec_l5Labels_round3 (n : Nat) (x0 : ByteArray) (x1 : Int) (x4 : Bool) (t5 : Bool) (x5 : List ByteArray) (x6 : Int) : roundK Tryz.prog cfg RN n 5 193 3 0 (spec_l5Labels_S3 x0 x1 x4 t5 x5 x6) = (br (decide (x6 < (↑x5.length : Int))) (qb (idx x5 x6) fun y => qb (spec_l5Label_T y) fun x => br (!x) (some (Ex.ret, spec_l5Labels_O3 x0 x1 false t5 x5)) (some (Ex.nrm, spec_l5Labels_S3 x0 x1 x4 t5 x5 (IntKind.i64.wrap (x6 + 1))))) (some (Ex.ext 0, spec_l5Labels_O3 x0 x1 x4 t5 x5)) : Option (Ex × St)) := by kernel_rfl

theorem IndexFunc_ServerOk_1_round2 (n : Nat) (t0 : Bool) (x0 : List Int) (x4 : Int) (x7 : Int) (x8 : Int) : roundK Tryz.prog cfg RN n 5 198 2 0 (IndexFunc_ServerOk_1_S2 t0 x0 x4 x7 x8) = (br (decide (x8 < x7)) (qb (idx x0 x8) fun y => qb (impl_isAtom_T y) fun x => br (!x) (some (Ex.ret, IndexFunc_ServerOk_1_O2 x8)) (some (Ex.nrm, IndexFunc_ServerOk_1_S2 t0 x0 x4 x7 (IntKind.i64.wrap (x8 + 1))))) (some (Ex.ext 0, IndexFunc_ServerOk_1_O2 x4)) : Option (Ex × St)) := by kernel_rfl

theorem spec_Before_round10 (n : Nat) (x4 : Bool) (x5 : Int) (y2 : Term) (y3 : Term) : roundK Tryz.prog cfg RN n 5 203 10 0 (spec_Before_S10 x4 x5 y2 y3) = (br (decide (x5 < (↑y2.kids.length : Int))) (qb (idx y2.kids x5) fun y => qb (idx y3.kids x5) fun y_1 => qb (spec_Same_T y y_1) fun x => br (!x) (qb (idx y2.kids x5) fun y => qb (idx y3.kids x5) fun y_2 => qb (spec_Before_T y y_2) fun x => some (Ex.ret, spec_Before_O10 x)) (some (Ex.nrm, spec_Before_S10 x4 (IntKind.i64.wrap (x5 + 1)) y2 y3))) (some (Ex.ext 1, spec_Before_O10 x4)) : Option (Ex × St)) := by kernel_rfl

theorem impl_Before_round10 (n : Nat) (x4 : Bool) (t56 : Bool) (x56 : List Term) (x57 : Int) (x58 : Int) (y3 : Term) : roundK Tryz.prog cfg RN n 5 208 10 0 (impl_Before_S10 x4 t56 x56 x57 x58 y3) = (br (decide (x58 < x57)) (qb (idx x56 x58) fun y => qb (idx y3.kids x58) fun y_1 => qb (impl_Same_T y y_1) fun x => br (!x) (qb (idx y3.kids x58) fun y_2 => qb (impl_Before_T y y_2) fun x => some (Ex.ret, impl_Before_O10 x)) (some (Ex.nrm, impl_Before_S10 x4 t56 x56 x57 (IntKind.i64.wrap (x58 + 1)) y3))) (some (Ex.ext 1, impl_Before_O10 x4)) : Option (Ex × St)) := by kernel_rfl

theorem IndexFunc_hostsOk_1_round2 (n : Nat) (t0 : Bool) (x0 : List Host) (c0 : Host) (x4 : Int) (x7 : Int) (x8 : Int) : roundK Tryz.prog cfg RN n 5 212 2 0 (IndexFunc_hostsOk_1_S2 t0 x0 c0 x4 x7 x8) = (br (decide (x8 < x7)) (qb (idx x0 x8) fun y => br (y.name.toList == c0.name.toList) (some (Ex.ret, IndexFunc_hostsOk_1_O2 x8)) (some (Ex.nrm, IndexFunc_hostsOk_1_S2 t0 x0 c0 x4 x7 (IntKind.i64.wrap (x8 + 1))))) (some (Ex.ext 0, IndexFunc_hostsOk_1_O2 x4)) : Option (Ex × St)) := by kernel_rfl

theorem spec_l2Has_round2 (n : Nat) (t0 : Bool) (x0 : List Term) (x4 : Bool) (x5 : Int) (y3 : Term) : roundK Tryz.prog cfg RN n 5 214 2 0 (spec_l2Has_S2 t0 x0 x4 x5 y3) = (br (decide (x5 < (↑x0.length : Int))) (qb (idx x0 x5) fun y => qb (spec_Same_T y y3) fun x => br x (some (Ex.ret, spec_l2Has_O2 true)) (some (Ex.nrm, spec_l2Has_S2 t0 x0 x4 (IntKind.i64.wrap (x5 + 1)) y3))) (some (Ex.ext 0, spec_l2Has_O2 x4)) : Option (Ex × St)) := by kernel_rfl

theorem spec_l12Words_round4 (n : Nat) (x0 : ByteArray) (x3 : List ByteArray) (x4 : Int) (x5 : Int) : roundK Tryz.prog cfg RN n 5 219 4 0 (spec_l12Words_S4 x0 x3 x4 x5) = (br (decide (x5 ≤ (↑x0.size : Int))) (br (x5 == (↑x0.size : Int)) (qb (bnds x0.size (some x4) (some x5)) fun p => br (((x3).length + [x0.extract p.fst p.snd].length).ble appMax) (some (Ex.nrm, spec_l12Words_S4 x0 (x3 ++ [x0.extract p.fst p.snd]) (IntKind.i64.wrap (x5 + 1)) (IntKind.i64.wrap (x5 + 1)))) none) (qb (byteAt x0 x5) fun b => br (b == 32) (qb (bnds x0.size (some x4) (some x5)) fun p => br (((x3).length + [x0.extract p.fst p.snd].length).ble appMax) (some (Ex.nrm, spec_l12Words_S4 x0 (x3 ++ [x0.extract p.fst p.snd]) (IntKind.i64.wrap (x5 + 1)) (IntKind.i64.wrap (x5 + 1)))) none) (some (Ex.nrm, spec_l12Words_S4 x0 x3 x4 (IntKind.i64.wrap (x5 + 1)))))) (some (Ex.ext 0, spec_l12Words_O4 x3)) : Option (Ex × St)) := by kernel_rfl

theorem spec_l12Num_round3 (n : Nat) (x0 : ByteArray) (x3 : Int) (x4 : Int) : roundK Tryz.prog cfg RN n 5 220 3 0 (spec_l12Num_S3 x0 x3 x4) = (br (decide (x4 < (↑x0.size : Int))) (br (decide (x4 < 7)) (qb (byteAt x0 x4) fun b => some (Ex.nrm, spec_l12Num_S3 x0 (IntKind.i64.wrap (IntKind.i64.wrap (IntKind.i64.wrap (10 * x3) + IntKind.i64.wrap b) - 48)) (IntKind.i64.wrap (x4 + 1)))) (some (Ex.ext 0, spec_l12Num_O3 x3))) (some (Ex.ext 0, spec_l12Num_O3 x3)) : Option (Ex × St)) := by kernel_rfl

theorem spec_Labels_round4 (n : Nat) (x0 : ByteArray) (x3 : List ByteArray) (x4 : Int) (x5 : Int) : roundK Tryz.prog cfg RN n 5 228 4 0 (spec_Labels_S4 x0 x3 x4 x5) = (br (decide (x5 ≤ (↑x0.size : Int))) (br (x5 == (↑x0.size : Int)) (qb (bnds x0.size (some x4) (some x5)) fun p => br (((x3).length + [x0.extract p.fst p.snd].length).ble appMax) (some (Ex.nrm, spec_Labels_S4 x0 (x3 ++ [x0.extract p.fst p.snd]) (IntKind.i64.wrap (x5 + 1)) (IntKind.i64.wrap (x5 + 1)))) none) (qb (byteAt x0 x5) fun b => br (b == 46) (qb (bnds x0.size (some x4) (some x5)) fun p => br (((x3).length + [x0.extract p.fst p.snd].length).ble appMax) (some (Ex.nrm, spec_Labels_S4 x0 (x3 ++ [x0.extract p.fst p.snd]) (IntKind.i64.wrap (x5 + 1)) (IntKind.i64.wrap (x5 + 1)))) none) (some (Ex.nrm, spec_Labels_S4 x0 x3 x4 (IntKind.i64.wrap (x5 + 1)))))) (some (Ex.ext 0, spec_Labels_O4 x3)) : Option (Ex × St)) := by kernel_rfl

theorem spec_l5Label_round2 (n : Nat) (x0 : ByteArray) (x2 : Bool) (x3 : Int) : roundK Tryz.prog cfg RN n 5 229 2 0 (spec_l5Label_S2 x0 x2 x3) = (br (decide (x3 < (↑x0.size : Int))) (qb (byteAt x0 x3) fun b => br (decide (b ≥ 97)) (br (decide (b ≤ 122)) (some (Ex.nrm, spec_l5Label_S2 x0 x2 (IntKind.i64.wrap (x3 + 1)))) (br (decide (b ≥ 48)) (br (decide (b ≤ 57)) (some (Ex.nrm, spec_l5Label_S2 x0 x2 (IntKind.i64.wrap (x3 + 1)))) (br (b == 45) (br (decide (x3 > 0)) (br (!decide (x3 < IntKind.i64.wrap ((↑x0.size : Int) - 1))) (some (Ex.ret, spec_l5Label_O2 x0 false)) (some (Ex.nrm, spec_l5Label_S2 x0 x2 (IntKind.i64.wrap (x3 + 1))))) (some (Ex.ret, spec_l5Label_O2 x0 false))) (some (Ex.ret, spec_l5Label_O2 x0 false)))) (br (b == 45) (br (decide (x3 > 0)) (br (!decide (x3 < IntKind.i64.wrap ((↑x0.size : Int) - 1))) (some (Ex.ret, spec_l5Label_O2 x0 false)) (some (Ex.nrm, spec_l5Label_S2 x0 x2 (IntKind.i64.wrap (x3 + 1))))) (some (Ex.ret, spec_l5Label_O2 x0 false))) (some (Ex.ret, spec_l5Label_O2 x0 false))))) (br (decide (b ≥ 48)) (br (decide (b ≤ 57)) (some (Ex.nrm, spec_l5Label_S2 x0 x2 (IntKind.i64.wrap (x3 + 1)))) (br (b == 45) (br (decide (x3 > 0)) (br (!decide (x3 < IntKind.i64.wrap ((↑x0.size : Int) - 1))) (some (Ex.ret, spec_l5Label_O2 x0 false)) (some (Ex.nrm, spec_l5Label_S2 x0 x2 (IntKind.i64.wrap (x3 + 1))))) (some (Ex.ret, spec_l5Label_O2 x0 false))) (some (Ex.ret, spec_l5Label_O2 x0 false)))) (br (b == 45) (br (decide (x3 > 0)) (br (!decide (x3 < IntKind.i64.wrap ((↑x0.size : Int) - 1))) (some (Ex.ret, spec_l5Label_O2 x0 false)) (some (Ex.nrm, spec_l5Label_S2 x0 x2 (IntKind.i64.wrap (x3 + 1))))) (some (Ex.ret, spec_l5Label_O2 x0 false))) (some (Ex.ret, spec_l5Label_O2 x0 false))))) (some (Ex.ext 0, spec_l5Label_O2 x0 x2)) : Option (Ex × St)) := by kernel_rfl

theorem impl_cloneAll_round3 (n : Nat) (x3 : List Term) (t6 : Bool) (x6 : List Term) (x7 : Int) (x8 : Int) : roundK Tryz.prog cfg RN n 5 231 3 0 (impl_cloneAll_S3 x3 t6 x6 x7 x8) = (br (decide (x8 < x7)) (qb (idx x6 x8) fun y => qb (impl_clone_T y) fun x => br (((x3).length + [Term.mk x.op x.n x.s x.kids].length).ble appMax) (some (Ex.nrm, impl_cloneAll_S3 (x3 ++ [Term.mk x.op x.n x.s x.kids]) t6 x6 x7 (IntKind.i64.wrap (x8 + 1)))) none) (some (Ex.ext 0, impl_cloneAll_O3 x3)) : Option (Ex × St)) := by kernel_rfl

theorem impl_labelOk_round2 (n : Nat) (x0 : ByteArray) (x2 : Bool) (x6 : Int) (x7 : Int) : roundK Tryz.prog cfg RN n 5 234 2 0 (impl_labelOk_S2 x0 x2 x6 x7) = (br (decide (x7 < x6)) (qb (byteAt x0 x7) fun b => br (decide (b < 97)) (br (decide (b < 48)) (br (b != 45) (some (Ex.ret, impl_labelOk_O2 x0 false)) (br (x7 == 0) (some (Ex.ret, impl_labelOk_O2 x0 false)) (br (x7 == IntKind.i64.wrap ((↑x0.size : Int) - 1)) (some (Ex.ret, impl_labelOk_O2 x0 false)) (some (Ex.nrm, impl_labelOk_S2 x0 x2 x6 (IntKind.i64.wrap (x7 + 1))))))) (br (decide (b > 57)) (br (b != 45) (some (Ex.ret, impl_labelOk_O2 x0 false)) (br (x7 == 0) (some (Ex.ret, impl_labelOk_O2 x0 false)) (br (x7 == IntKind.i64.wrap ((↑x0.size : Int) - 1)) (some (Ex.ret, impl_labelOk_O2 x0 false)) (some (Ex.nrm, impl_labelOk_S2 x0 x2 x6 (IntKind.i64.wrap (x7 + 1))))))) (some (Ex.nrm, impl_labelOk_S2 x0 x2 x6 (IntKind.i64.wrap (x7 + 1)))))) (br (decide (b > 122)) (br (decide (b < 48)) (br (b != 45) (some (Ex.ret, impl_labelOk_O2 x0 false)) (br (x7 == 0) (some (Ex.ret, impl_labelOk_O2 x0 false)) (br (x7 == IntKind.i64.wrap ((↑x0.size : Int) - 1)) (some (Ex.ret, impl_labelOk_O2 x0 false)) (some (Ex.nrm, impl_labelOk_S2 x0 x2 x6 (IntKind.i64.wrap (x7 + 1))))))) (br (decide (b > 57)) (br (b != 45) (some (Ex.ret, impl_labelOk_O2 x0 false)) (br (x7 == 0) (some (Ex.ret, impl_labelOk_O2 x0 false)) (br (x7 == IntKind.i64.wrap ((↑x0.size : Int) - 1)) (some (Ex.ret, impl_labelOk_O2 x0 false)) (some (Ex.nrm, impl_labelOk_S2 x0 x2 x6 (IntKind.i64.wrap (x7 + 1))))))) (some (Ex.nrm, impl_labelOk_S2 x0 x2 x6 (IntKind.i64.wrap (x7 + 1)))))) (some (Ex.nrm, impl_labelOk_S2 x0 x2 x6 (IntKind.i64.wrap (x7 + 1)))))) (some (Ex.ext 0, impl_labelOk_O2 x0 x2)) : Option (Ex × St)) := by kernel_rfl

theorem EqualFunc_Same_round4 (n : Nat) (t1 : Bool) (x1 : List Term) (x6 : Bool) (t15 : Bool) (x15 : List Term) (x16 : Int) (x17 : Int) : roundK Tryz.prog cfg RN n 5 235 4 0 (EqualFunc_Same_S4 t1 x1 x6 t15 x15 x16 x17) = (br (decide (x17 < x16)) (qb (idx x15 x17) fun y => qb (idx x1 x17) fun y_1 => qb (impl_Same_T y y_1) fun x => br (!x) (some (Ex.ret, EqualFunc_Same_O4 false)) (some (Ex.nrm, EqualFunc_Same_S4 t1 x1 x6 t15 x15 x16 (IntKind.i64.wrap (x17 + 1))))) (some (Ex.ext 0, EqualFunc_Same_O4 x6)) : Option (Ex × St)) := by kernel_rfl

theorem IndexFunc_PolicyOk_1_round2 (n : Nat) (t0 : Bool) (x0 : List ByteArray) (x4 : Int) (x7 : Int) (x8 : Int) : roundK Tryz.prog cfg RN n 5 237 2 0 (IndexFunc_PolicyOk_1_S2 t0 x0 x4 x7 x8) = (br (decide (x8 < x7)) (qb (idx x0 x8) fun y => qb (impl_PatternOk_T y) fun x => br (!x) (some (Ex.ret, IndexFunc_PolicyOk_1_O2 x8)) (some (Ex.nrm, IndexFunc_PolicyOk_1_S2 t0 x0 x4 x7 (IntKind.i64.wrap (x8 + 1))))) (some (Ex.ext 0, IndexFunc_PolicyOk_1_O2 x4)) : Option (Ex × St)) := by kernel_rfl

theorem IndexFunc_labelsOk_1_round2 (n : Nat) (t0 : Bool) (x0 : List ByteArray) (x4 : Int) (x7 : Int) (x8 : Int) : roundK Tryz.prog cfg RN n 5 237 2 0 (IndexFunc_labelsOk_1_S2 t0 x0 x4 x7 x8) = (br (decide (x8 < x7)) (qb (idx x0 x8) fun y => qb (impl_labelOk_T y) fun x => br (!x) (some (Ex.ret, IndexFunc_labelsOk_1_O2 x8)) (some (Ex.nrm, IndexFunc_labelsOk_1_S2 t0 x0 x4 x7 (IntKind.i64.wrap (x8 + 1))))) (some (Ex.ext 0, IndexFunc_labelsOk_1_O2 x4)) : Option (Ex × St)) := by kernel_rfl


end Go.Proofs.YtoebfbhcbpiheaaGreatDoor
