/-
  What each function comes to, over what the others answer, as plain data.
-/
import Derived.Test.YtepghohkfnmhmaaDoorWtResD
namespace Go.Proofs.YtepghohkfnmhmaaDoor
open Go.Vm
set_option linter.unusedVariables false

noncomputable def laws_FnExactWorldText_R (n : Nat) (a0 : WorldD) : Option (V × List Vm.Obj × List Vm.Obj) := qb (laws_szWorld_T a0 1048576) fun x => br (decide (x < 0)) (some (V.c (C.f (F.sc (Value.bool true))), [], [])) (qb (laws_toWorld_T a0) fun x => qb (spec_WorldText_T x) fun x => qb (laws_toWorld_T a0) fun x_1 => qb (impl_WorldText_T x_1) fun x_2 => br (!ByteArray.toList x_2 == ByteArray.toList x) (some (V.c (C.f (F.sc (Value.bool false))), [], [])) (qb (laws_toWorld_T a0) fun x => qb (laws_eqWorld_T x_1 x) fun x => br (!x) (some (V.c (C.f (F.sc (Value.bool false))), [], [])) (some (V.c (C.f (F.sc (Value.bool true))), [], []))))

theorem laws_FnExactWorldText_res (n : Nat) (a0 : WorldD) : resid Tryd.prog cfg RN n 7 [.ag (WorldD.cells a0)] [] = laws_FnExactWorldText_R n a0 := by kernel_rfl

noncomputable def laws_szClient_R (n : Nat) (a0 : Client) (a1 : Int) : Option Int := br (decide (IntKind.i64.wrap (a1 - (↑a0.host.size : Int)) < 0)) (some (-1)) (qb (laws_szTerm_T a0.share (IntKind.i64.wrap (a1 - (↑a0.host.size : Int)))) fun x => br (decide (x < 0)) (some (-1)) (some x))

theorem laws_szClient_res (n : Nat) (a0 : Client) (a1 : Int) : residT Tryd.prog cfg RN n 8 [.ag (Client.cells a0), .int a1] (.int) = laws_szClient_R n a0 a1 := by kernel_rfl

theorem laws_szClient_of (n : Nat) (a0 : Client) (a1 : Int) {y} (h : laws_szClient_R n a0 a1 = some y) : laws_szClient_T a0 a1 = some y := presT_of (((laws_szClient_res n a0 a1)).trans h)

noncomputable def laws_toClient_R (n : Nat) (a0 : Client) : Option Client := qb (laws_toTerm_T a0.share) fun x => some (Client.mk a0.step a0.host a0.must a0.eph a0.body (Term.mk x.op x.n x.s x.kids) a0.inn a0.out a0.tls a0.proved)

theorem laws_toClient_res (n : Nat) (a0 : Client) : residT Tryd.prog cfg RN n 10 [.ag (Client.cells a0)] (.client) = laws_toClient_R n a0 := by kernel_rfl

theorem laws_toClient_of (n : Nat) (a0 : Client) {y} (h : laws_toClient_R n a0 = some y) : laws_toClient_T a0 = some y := presT_of (((laws_toClient_res n a0)).trans h)

noncomputable def laws_eqClient_R (n : Nat) (a0 : Client) (a1 : Client) : Option Bool := br (a0.step != a1.step) (some false) (br (!a0.host.toList == a1.host.toList) (some false) (br (!a0.must == a1.must) (some false) (br (a0.eph != a1.eph) (some false) (br (a0.body != a1.body) (some false) (qb (laws_eqTerm_T a0.share a1.share) fun x => br (!x) (some false) (br (a0.inn != a1.inn) (some false) (br (a0.out != a1.out) (some false) (br (!a0.tls == a1.tls) (some false) (br (!a0.proved == a1.proved) (some false) (some true))))))))))

theorem laws_eqClient_res (n : Nat) (a0 : Client) (a1 : Client) : residT Tryd.prog cfg RN n 12 [.ag (Client.cells a0), .ag (Client.cells a1)] (.bool) = laws_eqClient_R n a0 a1 := by kernel_rfl

theorem laws_eqClient_of (n : Nat) (a0 : Client) (a1 : Client) {y} (h : laws_eqClient_R n a0 a1 = some y) : laws_eqClient_T a0 a1 = some y := presT_of (((laws_eqClient_res n a0 a1)).trans h)

noncomputable def laws_szServer_R (n : Nat) (a0 : Server) (a1 : Int) : Option Int := br (decide (IntKind.i64.wrap (a1 - (↑a0.host.size : Int)) < 0)) (some (-1)) (qb (laws_szTerm_T a0.cert (IntKind.i64.wrap (a1 - (↑a0.host.size : Int)))) fun x => br (decide (x < 0)) (some (-1)) (qb (laws_szTerm_T a0.share x) fun x => br (decide (x < 0)) (some (-1)) (qb (laws_szIntS_T a0.got x) fun x => br (decide (x < 0)) (some (-1)) (some x))))

theorem laws_szServer_res (n : Nat) (a0 : Server) (a1 : Int) : residT Tryd.prog cfg RN n 17 [.ag (Server.cells a0), .int a1] (.int) = laws_szServer_R n a0 a1 := by kernel_rfl

theorem laws_szServer_of (n : Nat) (a0 : Server) (a1 : Int) {y} (h : laws_szServer_R n a0 a1 = some y) : laws_szServer_T a0 a1 = some y := presT_of (((laws_szServer_res n a0 a1)).trans h)

noncomputable def laws_toServer_R (n : Nat) (a0 : Server) : Option Server := qb (laws_toTerm_T a0.cert) fun x => qb (laws_toTerm_T a0.share) fun x_1 => qb (laws_toIntS_T a0.got) fun x_2 => some (Server.mk a0.step a0.host a0.key a0.eph (Term.mk x.op x.n x.s x.kids) (Term.mk x_1.op x_1.n x_1.s x_1.kids) a0.inn a0.out a0.tls x_2)

theorem laws_toServer_res (n : Nat) (a0 : Server) : residT Tryd.prog cfg RN n 19 [.ag (Server.cells a0)] (.server) = laws_toServer_R n a0 := by kernel_rfl

theorem laws_toServer_of (n : Nat) (a0 : Server) {y} (h : laws_toServer_R n a0 = some y) : laws_toServer_T a0 = some y := presT_of (((laws_toServer_res n a0)).trans h)

noncomputable def laws_eqServer_R (n : Nat) (a0 : Server) (a1 : Server) : Option Bool := br (a0.step != a1.step) (some false) (br (!a0.host.toList == a1.host.toList) (some false) (br (a0.key != a1.key) (some false) (br (a0.eph != a1.eph) (some false) (qb (laws_eqTerm_T a0.cert a1.cert) fun x => br (!x) (some false) (qb (laws_eqTerm_T a0.share a1.share) fun x => br (!x) (some false) (br (a0.inn != a1.inn) (some false) (br (a0.out != a1.out) (some false) (br (!a0.tls == a1.tls) (some false) (qb (laws_eqIntS_T a0.got a1.got) fun x => br (!x) (some false) (some true))))))))))

theorem laws_eqServer_res (n : Nat) (a0 : Server) (a1 : Server) : residT Tryd.prog cfg RN n 21 [.ag (Server.cells a0), .ag (Server.cells a1)] (.bool) = laws_eqServer_R n a0 a1 := by kernel_rfl

theorem laws_eqServer_of (n : Nat) (a0 : Server) (a1 : Server) {y} (h : laws_eqServer_R n a0 a1 = some y) : laws_eqServer_T a0 a1 = some y := presT_of (((laws_eqServer_res n a0 a1)).trans h)

noncomputable def laws_szWorld_R (n : Nat) (a0 : WorldD) (a1 : Int) : Option Int := qb (laws_szTermS_T a0.known a1) fun x => br (decide (x < 0)) (some (-1)) (qb (laws_szPolicyS_T a0.cache x) fun x => br (decide (x < 0)) (some (-1)) (qb (laws_szHostS_T a0.hosts x) fun x => br (decide (x < 0)) (some (-1)) (qb (laws_szLetterS_T a0.letters x) fun x => br (decide (x < 0)) (some (-1)) (br (decide (IntKind.i64.wrap (x - (↑a0.book.size : Int)) < 0)) (some (-1)) (qb (laws_szCallS_T a0.calls (IntKind.i64.wrap (x - (↑a0.book.size : Int)))) fun x => br (decide (x < 0)) (some (-1)) (qb (laws_szTalkS_T a0.talks x) fun x => br (decide (x < 0)) (some (-1)) (qb (laws_szIntS_T a0.told x) fun x => br (decide (x < 0)) (some (-1)) (some x))))))))

theorem laws_szWorld_res (n : Nat) (a0 : WorldD) (a1 : Int) : residT Tryd.prog cfg RN n 25 [.ag (WorldD.cells a0), .int a1] (.int) = laws_szWorld_R n a0 a1 := by kernel_rfl

theorem laws_szWorld_of (n : Nat) (a0 : WorldD) (a1 : Int) {y} (h : laws_szWorld_R n a0 a1 = some y) : laws_szWorld_T a0 a1 = some y := presT_of (((laws_szWorld_res n a0 a1)).trans h)

noncomputable def spec_WorldText_R (n : Nat) (a0 : WorldD) : Option ByteArray := qb (spec_l1Digits_T a0.time) fun x => qb (catOk (ByteArray.mk #[116, 105, 109, 101, 32]) x) fun y => qb (catOk (ByteArray.mk #[116, 105, 109, 101, 32] ++ x) (ByteArray.mk #[32, 108, 101, 116, 116, 101, 114, 115, 32])) fun y => qb (spec_l1Digits_T (↑a0.letters.length : Int)) fun x_1 => qb (catOk (ByteArray.mk #[116, 105, 109, 101, 32] ++ x ++ ByteArray.mk #[32, 108, 101, 116, 116, 101, 114, 115, 32]) x_1) fun y => qb (catOk (ByteArray.mk #[116, 105, 109, 101, 32] ++ x ++ ByteArray.mk #[32, 108, 101, 116, 116, 101, 114, 115, 32] ++ x_1) (ByteArray.mk #[32, 99, 97, 108, 108, 115, 32])) fun y => qb (spec_l1Digits_T (↑a0.calls.length : Int)) fun x_2 => qb (catOk (ByteArray.mk #[116, 105, 109, 101, 32] ++ x ++ ByteArray.mk #[32, 108, 101, 116, 116, 101, 114, 115, 32] ++ x_1 ++ ByteArray.mk #[32, 99, 97, 108, 108, 115, 32]) x_2) fun y => qb (catOk (ByteArray.mk #[116, 105, 109, 101, 32] ++ x ++ ByteArray.mk #[32, 108, 101, 116, 116, 101, 114, 115, 32] ++ x_1 ++ ByteArray.mk #[32, 99, 97, 108, 108, 115, 32] ++ x_2) (ByteArray.mk #[32, 116, 97, 108, 107, 115, 32])) fun y => qb (spec_l1Digits_T (↑a0.talks.length : Int)) fun x_3 => qb (catOk (ByteArray.mk #[116, 105, 109, 101, 32] ++ x ++ ByteArray.mk #[32, 108, 101, 116, 116, 101, 114, 115, 32] ++ x_1 ++ ByteArray.mk #[32, 99, 97, 108, 108, 115, 32] ++ x_2 ++ ByteArray.mk #[32, 116, 97, 108, 107, 115, 32]) x_3) fun y => qb (catOk (ByteArray.mk #[116, 105, 109, 101, 32] ++ x ++ ByteArray.mk #[32, 108, 101, 116, 116, 101, 114, 115, 32] ++ x_1 ++ ByteArray.mk #[32, 99, 97, 108, 108, 115, 32] ++ x_2 ++ ByteArray.mk #[32, 116, 97, 108, 107, 115, 32] ++ x_3) (ByteArray.mk #[32, 116, 111, 108, 100, 32])) fun y => qb (spec_l1Digits_T (↑a0.told.length : Int)) fun x_4 => qb (catOk (ByteArray.mk #[116, 105, 109, 101, 32] ++ x ++ ByteArray.mk #[32, 108, 101, 116, 116, 101, 114, 115, 32] ++ x_1 ++ ByteArray.mk #[32, 99, 97, 108, 108, 115, 32] ++ x_2 ++ ByteArray.mk #[32, 116, 97, 108, 107, 115, 32] ++ x_3 ++ ByteArray.mk #[32, 116, 111, 108, 100, 32]) x_4) fun y => qb (catOk (ByteArray.mk #[116, 105, 109, 101, 32] ++ x ++ ByteArray.mk #[32, 108, 101, 116, 116, 101, 114, 115, 32] ++ x_1 ++ ByteArray.mk #[32, 99, 97, 108, 108, 115, 32] ++ x_2 ++ ByteArray.mk #[32, 116, 97, 108, 107, 115, 32] ++ x_3 ++ ByteArray.mk #[32, 116, 111, 108, 100, 32] ++ x_4) (ByteArray.mk #[10])) fun y => qb (spec_WorldText_L3 n n (ByteArray.mk #[116, 105, 109, 101, 32] ++ x ++ ByteArray.mk #[32, 108, 101, 116, 116, 101, 114, 115, 32] ++ x_1 ++ ByteArray.mk #[32, 99, 97, 108, 108, 115, 32] ++ x_2 ++ ByteArray.mk #[32, 116, 97, 108, 107, 115, 32] ++ x_3 ++ ByteArray.mk #[32, 116, 111, 108, 100, 32] ++ x_4 ++ ByteArray.mk #[10]) 0 a0) fun x => br (isRetE x.fst) none (br (isExt 0 x.fst) (qb (spec_WorldText_L7 n n x.snd.fst.snd.fst 0 x.snd.snd.fst) fun x => br (isRetE x.fst) none (br (isExt 2 x.fst) (some x.snd.fst.fst) none)) none)

theorem spec_WorldText_res (n : Nat) (a0 : WorldD) : residT Tryd.prog cfg RN n 26 [.ag (WorldD.cells a0)] (.str) = spec_WorldText_R n a0 := by kernel_rfl

theorem spec_WorldText_of (n : Nat) (a0 : WorldD) {y} (h : spec_WorldText_R n a0 = some y) : spec_WorldText_T a0 = some y := presT_of (((spec_WorldText_res n a0)).trans h)

noncomputable def laws_toWorld_R (n : Nat) (a0 : WorldD) : Option WorldD := qb (laws_toTermS_T a0.known) fun x => qb (laws_toPolicyS_T a0.cache) fun x_1 => qb (laws_toHostS_T a0.hosts) fun x_2 => qb (laws_toLetterS_T a0.letters) fun x_3 => qb (laws_toCallS_T a0.calls) fun x_4 => qb (laws_toTalkS_T a0.talks) fun x_5 => qb (laws_toIntS_T a0.told) fun x_6 => some (WorldD.mk a0.time a0.fresh x x_1 x_2 x_3 a0.book a0.sure x_4 x_5 x_6)

theorem laws_toWorld_res (n : Nat) (a0 : WorldD) : residT Tryd.prog cfg RN n 27 [.ag (WorldD.cells a0)] (.world) = laws_toWorld_R n a0 := by kernel_rfl

theorem laws_toWorld_of (n : Nat) (a0 : WorldD) {y} (h : laws_toWorld_R n a0 = some y) : laws_toWorld_T a0 = some y := presT_of (((laws_toWorld_res n a0)).trans h)

noncomputable def impl_WorldText_R (n : Nat) (a0 : WorldD) : Option ByteArray := qb (strconv_Itoa_T a0.time) fun x => qb (catOk (ByteArray.mk #[116, 105, 109, 101, 32]) x) fun y => qb (catOk (ByteArray.mk #[116, 105, 109, 101, 32] ++ x) (ByteArray.mk #[32, 108, 101, 116, 116, 101, 114, 115, 32])) fun y => qb (strconv_Itoa_T (↑a0.letters.length : Int)) fun x_1 => qb (catOk (ByteArray.mk #[116, 105, 109, 101, 32] ++ x ++ ByteArray.mk #[32, 108, 101, 116, 116, 101, 114, 115, 32]) x_1) fun y => qb (catOk (ByteArray.mk #[116, 105, 109, 101, 32] ++ x ++ ByteArray.mk #[32, 108, 101, 116, 116, 101, 114, 115, 32] ++ x_1) (ByteArray.mk #[32, 99, 97, 108, 108, 115, 32])) fun y => qb (strconv_Itoa_T (↑a0.calls.length : Int)) fun x_2 => qb (catOk (ByteArray.mk #[116, 105, 109, 101, 32] ++ x ++ ByteArray.mk #[32, 108, 101, 116, 116, 101, 114, 115, 32] ++ x_1 ++ ByteArray.mk #[32, 99, 97, 108, 108, 115, 32]) x_2) fun y => qb (catOk (ByteArray.mk #[116, 105, 109, 101, 32] ++ x ++ ByteArray.mk #[32, 108, 101, 116, 116, 101, 114, 115, 32] ++ x_1 ++ ByteArray.mk #[32, 99, 97, 108, 108, 115, 32] ++ x_2) (ByteArray.mk #[32, 116, 97, 108, 107, 115, 32])) fun y => qb (strconv_Itoa_T (↑a0.talks.length : Int)) fun x_3 => qb (catOk (ByteArray.mk #[116, 105, 109, 101, 32] ++ x ++ ByteArray.mk #[32, 108, 101, 116, 116, 101, 114, 115, 32] ++ x_1 ++ ByteArray.mk #[32, 99, 97, 108, 108, 115, 32] ++ x_2 ++ ByteArray.mk #[32, 116, 97, 108, 107, 115, 32]) x_3) fun y => qb (catOk (ByteArray.mk #[116, 105, 109, 101, 32] ++ x ++ ByteArray.mk #[32, 108, 101, 116, 116, 101, 114, 115, 32] ++ x_1 ++ ByteArray.mk #[32, 99, 97, 108, 108, 115, 32] ++ x_2 ++ ByteArray.mk #[32, 116, 97, 108, 107, 115, 32] ++ x_3) (ByteArray.mk #[32, 116, 111, 108, 100, 32])) fun y => qb (strconv_Itoa_T (↑a0.told.length : Int)) fun x_4 => qb (catOk (ByteArray.mk #[116, 105, 109, 101, 32] ++ x ++ ByteArray.mk #[32, 108, 101, 116, 116, 101, 114, 115, 32] ++ x_1 ++ ByteArray.mk #[32, 99, 97, 108, 108, 115, 32] ++ x_2 ++ ByteArray.mk #[32, 116, 97, 108, 107, 115, 32] ++ x_3 ++ ByteArray.mk #[32, 116, 111, 108, 100, 32]) x_4) fun y => qb (catOk (ByteArray.mk #[116, 105, 109, 101, 32] ++ x ++ ByteArray.mk #[32, 108, 101, 116, 116, 101, 114, 115, 32] ++ x_1 ++ ByteArray.mk #[32, 99, 97, 108, 108, 115, 32] ++ x_2 ++ ByteArray.mk #[32, 116, 97, 108, 107, 115, 32] ++ x_3 ++ ByteArray.mk #[32, 116, 111, 108, 100, 32] ++ x_4) (ByteArray.mk #[10])) fun y => qb (impl_WorldText_L3 n n (ByteArray.mk #[116, 105, 109, 101, 32] ++ x ++ ByteArray.mk #[32, 108, 101, 116, 116, 101, 114, 115, 32] ++ x_1 ++ ByteArray.mk #[32, 99, 97, 108, 108, 115, 32] ++ x_2 ++ ByteArray.mk #[32, 116, 97, 108, 107, 115, 32] ++ x_3 ++ ByteArray.mk #[32, 116, 111, 108, 100, 32] ++ x_4 ++ ByteArray.mk #[10]) false a0.letters (↑a0.letters.length : Int) 0 a0) fun x => br (isRetE x.fst) none (br (isExt 0 x.fst) (qb (impl_WorldText_L8 n n x.snd.fst.snd.fst false x.snd.snd.fst.calls (↑x.snd.snd.fst.calls.length : Int) 0) fun x => br (isRetE x.fst) none (br (isExt 2 x.fst) (some x.snd.fst.fst) none)) none)

theorem impl_WorldText_res (n : Nat) (a0 : WorldD) : residT Tryd.prog cfg RN n 28 [.ag (WorldD.cells a0)] (.str) = impl_WorldText_R n a0 := by kernel_rfl

theorem impl_WorldText_of (n : Nat) (a0 : WorldD) {y} (h : impl_WorldText_R n a0 = some y) : impl_WorldText_T a0 = some y := presT_of (((impl_WorldText_res n a0)).trans h)

noncomputable def laws_eqWorld_R (n : Nat) (a0 : WorldD) (a1 : WorldD) : Option Bool := br (a0.time != a1.time) (some false) (br (a0.fresh != a1.fresh) (some false) (qb (laws_eqTermS_T a0.known a1.known) fun x => br (!x) (some false) (qb (laws_eqPolicyS_T a0.cache a1.cache) fun x => br (!x) (some false) (qb (laws_eqHostS_T a0.hosts a1.hosts) fun x => br (!x) (some false) (qb (laws_eqLetterS_T a0.letters a1.letters) fun x => br (!x) (some false) (br (!a0.book.toList == a1.book.toList) (some false) (br (a0.sure != a1.sure) (some false) (qb (laws_eqCallS_T a0.calls a1.calls) fun x => br (!x) (some false) (qb (laws_eqTalkS_T a0.talks a1.talks) fun x => br (!x) (some false) (qb (laws_eqIntS_T a0.told a1.told) fun x => br (!x) (some false) (some true)))))))))))

theorem laws_eqWorld_res (n : Nat) (a0 : WorldD) (a1 : WorldD) : residT Tryd.prog cfg RN n 29 [.ag (WorldD.cells a0), .ag (WorldD.cells a1)] (.bool) = laws_eqWorld_R n a0 a1 := by kernel_rfl

theorem laws_eqWorld_of (n : Nat) (a0 : WorldD) (a1 : WorldD) {y} (h : laws_eqWorld_R n a0 a1 = some y) : laws_eqWorld_T a0 a1 = some y := presT_of (((laws_eqWorld_res n a0 a1)).trans h)

noncomputable def laws_szTerm_R (n : Nat) (a0 : Term) (a1 : Int) : Option Int := br (decide (IntKind.i64.wrap (a1 - (↑a0.s.size : Int)) < 0)) (some (-1)) (qb (laws_szTermS_T a0.kids (IntKind.i64.wrap (a1 - (↑a0.s.size : Int)))) fun x => br (decide (x < 0)) (some (-1)) (some x))

theorem laws_szTerm_res (n : Nat) (a0 : Term) (a1 : Int) : residT Tryd.prog cfg RN n 30 [.ag (Term.cells a0), .int a1] (.int) = laws_szTerm_R n a0 a1 := by kernel_rfl

theorem laws_szTerm_of (n : Nat) (a0 : Term) (a1 : Int) {y} (h : laws_szTerm_R n a0 a1 = some y) : laws_szTerm_T a0 a1 = some y := presT_of (((laws_szTerm_res n a0 a1)).trans h)

noncomputable def laws_toTerm_R (n : Nat) (a0 : Term) : Option Term := qb (laws_toTermS_T a0.kids) fun x => some (Term.mk a0.op a0.n a0.s x)

theorem laws_toTerm_res (n : Nat) (a0 : Term) : residT Tryd.prog cfg RN n 35 [.ag (Term.cells a0)] (.el .term) = laws_toTerm_R n a0 := by kernel_rfl

theorem laws_toTerm_of (n : Nat) (a0 : Term) {y} (h : laws_toTerm_R n a0 = some y) : laws_toTerm_T a0 = some y := presT_of (((laws_toTerm_res n a0)).trans h)

noncomputable def impl_in_R (n : Nat) (a0 : Int) (a1 : Int) (a2 : Int) : Option Bool := br (decide (a0 ≥ a1)) (some (decide (a0 ≤ a2))) (some false)

theorem impl_in_res (n : Nat) (a0 : Int) (a1 : Int) (a2 : Int) : residT Tryd.prog cfg RN n 36 [.int a0, .int a1, .int a2] (.bool) = impl_in_R n a0 a1 a2 := by kernel_rfl

theorem impl_in_of (n : Nat) (a0 : Int) (a1 : Int) (a2 : Int) {y} (h : impl_in_R n a0 a1 a2 = some y) : impl_in_T a0 a1 a2 = some y := presT_of (((impl_in_res n a0 a1 a2)).trans h)

noncomputable def laws_eqTerm_R (n : Nat) (a0 : Term) (a1 : Term) : Option Bool := br (a0.op != a1.op) (some false) (br (a0.n != a1.n) (some false) (br (!a0.s.toList == a1.s.toList) (some false) (qb (laws_eqTermS_T a0.kids a1.kids) fun x => br (!x) (some false) (some true))))

theorem laws_eqTerm_res (n : Nat) (a0 : Term) (a1 : Term) : residT Tryd.prog cfg RN n 41 [.ag (Term.cells a0), .ag (Term.cells a1)] (.bool) = laws_eqTerm_R n a0 a1 := by kernel_rfl

theorem laws_eqTerm_of (n : Nat) (a0 : Term) (a1 : Term) {y} (h : laws_eqTerm_R n a0 a1 = some y) : laws_eqTerm_T a0 a1 = some y := presT_of (((laws_eqTerm_res n a0 a1)).trans h)

noncomputable def laws_szIntS_R (n : Nat) (a0 : List Int) (a1 : Int) : Option Int := br (decide (IntKind.i64.wrap (a1 - (↑a0.length : Int)) < 0)) (some (-1)) (some (IntKind.i64.wrap (a1 - (↑a0.length : Int))))

theorem laws_szIntS_res (n : Nat) (a0 : List Int) (a1 : Int) : residT Tryd.prog cfg RN n 44 [.sl false .int a0, .int a1] (.int) = laws_szIntS_R n a0 a1 := by kernel_rfl

theorem laws_szIntS_of (n : Nat) (a0 : List Int) (a1 : Int) {y} (h : laws_szIntS_R n a0 a1 = some y) : laws_szIntS_T a0 a1 = some y := presT_of (((laws_szIntS_res n a0 a1)).trans h)

noncomputable def laws_toIntS_R (n : Nat) (a0 : List Int) : Option (List Int) := br (decide ((↑a0.length : Int) = (↑a0.length : Int)) && decide (0 ≤ (↑a0.length : Int)) && (↑a0.length : Int).toNat.ble appMax) (qb (laws_toIntS_L3 n n false a0 (List.replicate (↑a0.length : Int).toNat (zeroEl Kind.int)) 0) fun x => br (isRetE x.fst) none (br (isExt 0 x.fst) (some x.snd.snd.fst) none)) none

theorem laws_toIntS_res (n : Nat) (a0 : List Int) : residT Tryd.prog cfg RN n 45 [.sl false .int a0] (.sl .int) = laws_toIntS_R n a0 := by kernel_rfl

theorem laws_toIntS_of (n : Nat) (a0 : List Int) {y} (h : laws_toIntS_R n a0 = some y) : laws_toIntS_T a0 = some y := presT_of (((laws_toIntS_res n a0)).trans h)

noncomputable def laws_eqIntS_R (n : Nat) (a0 : List Int) (a1 : List Int) : Option Bool := br ((↑a0.length : Int) != (↑a1.length : Int)) (some false) (qb (laws_eqIntS_L4 n n false a0 false a1 false 0) fun x => br (isRetE x.fst) (some x.snd.fst.fst) (br (isExt 0 x.fst) (some true) none))

theorem laws_eqIntS_res (n : Nat) (a0 : List Int) (a1 : List Int) : residT Tryd.prog cfg RN n 48 [.sl false .int a0, .sl false .int a1] (.bool) = laws_eqIntS_R n a0 a1 := by kernel_rfl

theorem laws_eqIntS_of (n : Nat) (a0 : List Int) (a1 : List Int) {y} (h : laws_eqIntS_R n a0 a1 = some y) : laws_eqIntS_T a0 a1 = some y := presT_of (((laws_eqIntS_res n a0 a1)).trans h)

noncomputable def laws_szTermS_R (n : Nat) (a0 : List Term) (a1 : Int) : Option Int := br (decide (IntKind.i64.wrap (a1 - (↑a0.length : Int)) < 0)) (some (-1)) (qb (laws_szTermS_L5 n n false a0 (IntKind.i64.wrap (a1 - (↑a0.length : Int))) 0 0) fun x => br (isRetE x.fst) (some x.snd.fst.snd.fst) (br (isExt 0 x.fst) (some x.snd.fst.fst) none))

theorem laws_szTermS_res (n : Nat) (a0 : List Term) (a1 : Int) : residT Tryd.prog cfg RN n 56 [.sl false .term a0, .int a1] (.int) = laws_szTermS_R n a0 a1 := by kernel_rfl

theorem laws_szTermS_of (n : Nat) (a0 : List Term) (a1 : Int) {y} (h : laws_szTermS_R n a0 a1 = some y) : laws_szTermS_T a0 a1 = some y := presT_of (((laws_szTermS_res n a0 a1)).trans h)

noncomputable def laws_szPolicyS_R (n : Nat) (a0 : List Policy) (a1 : Int) : Option Int := br (decide (IntKind.i64.wrap (a1 - (↑a0.length : Int)) < 0)) (some (-1)) (qb (laws_szPolicyS_L5 n n false a0 (IntKind.i64.wrap (a1 - (↑a0.length : Int))) 0 0) fun x => br (isRetE x.fst) (some x.snd.fst.snd.fst) (br (isExt 0 x.fst) (some x.snd.fst.fst) none))

theorem laws_szPolicyS_res (n : Nat) (a0 : List Policy) (a1 : Int) : residT Tryd.prog cfg RN n 57 [.sl false .policy a0, .int a1] (.int) = laws_szPolicyS_R n a0 a1 := by kernel_rfl

theorem laws_szPolicyS_of (n : Nat) (a0 : List Policy) (a1 : Int) {y} (h : laws_szPolicyS_R n a0 a1 = some y) : laws_szPolicyS_T a0 a1 = some y := presT_of (((laws_szPolicyS_res n a0 a1)).trans h)

noncomputable def laws_szHostS_R (n : Nat) (a0 : List Host) (a1 : Int) : Option Int := br (decide (IntKind.i64.wrap (a1 - (↑a0.length : Int)) < 0)) (some (-1)) (qb (laws_szHostS_L5 n n false a0 (IntKind.i64.wrap (a1 - (↑a0.length : Int))) 0 0) fun x => br (isRetE x.fst) (some x.snd.fst.snd.fst) (br (isExt 0 x.fst) (some x.snd.fst.fst) none))

theorem laws_szHostS_res (n : Nat) (a0 : List Host) (a1 : Int) : residT Tryd.prog cfg RN n 58 [.sl false .host a0, .int a1] (.int) = laws_szHostS_R n a0 a1 := by kernel_rfl

theorem laws_szHostS_of (n : Nat) (a0 : List Host) (a1 : Int) {y} (h : laws_szHostS_R n a0 a1 = some y) : laws_szHostS_T a0 a1 = some y := presT_of (((laws_szHostS_res n a0 a1)).trans h)

noncomputable def laws_szLetterS_R (n : Nat) (a0 : List Letter) (a1 : Int) : Option Int := br (decide (IntKind.i64.wrap (a1 - (↑a0.length : Int)) < 0)) (some (-1)) (qb (laws_szLetterS_L5 n n false a0 (IntKind.i64.wrap (a1 - (↑a0.length : Int))) 0 0) fun x => br (isRetE x.fst) (some x.snd.fst.snd.fst) (br (isExt 0 x.fst) (some x.snd.fst.fst) none))

theorem laws_szLetterS_res (n : Nat) (a0 : List Letter) (a1 : Int) : residT Tryd.prog cfg RN n 59 [.sl false .letter a0, .int a1] (.int) = laws_szLetterS_R n a0 a1 := by kernel_rfl

theorem laws_szLetterS_of (n : Nat) (a0 : List Letter) (a1 : Int) {y} (h : laws_szLetterS_R n a0 a1 = some y) : laws_szLetterS_T a0 a1 = some y := presT_of (((laws_szLetterS_res n a0 a1)).trans h)

noncomputable def laws_szCallS_R (n : Nat) (a0 : List CallD) (a1 : Int) : Option Int := br (decide (IntKind.i64.wrap (a1 - (↑a0.length : Int)) < 0)) (some (-1)) (qb (laws_szCallS_L5 n n false a0 (IntKind.i64.wrap (a1 - (↑a0.length : Int))) 0 0) fun x => br (isRetE x.fst) (some x.snd.fst.snd.fst) (br (isExt 0 x.fst) (some x.snd.fst.fst) none))

theorem laws_szCallS_res (n : Nat) (a0 : List CallD) (a1 : Int) : residT Tryd.prog cfg RN n 60 [.sl false .call a0, .int a1] (.int) = laws_szCallS_R n a0 a1 := by kernel_rfl

theorem laws_szCallS_of (n : Nat) (a0 : List CallD) (a1 : Int) {y} (h : laws_szCallS_R n a0 a1 = some y) : laws_szCallS_T a0 a1 = some y := presT_of (((laws_szCallS_res n a0 a1)).trans h)

noncomputable def laws_szTalkS_R (n : Nat) (a0 : List Talk) (a1 : Int) : Option Int := br (decide (IntKind.i64.wrap (a1 - (↑a0.length : Int)) < 0)) (some (-1)) (qb (laws_szTalkS_L5 n n false a0 (IntKind.i64.wrap (a1 - (↑a0.length : Int))) 0 0) fun x => br (isRetE x.fst) (some x.snd.fst.snd.fst) (br (isExt 0 x.fst) (some x.snd.fst.fst) none))

theorem laws_szTalkS_res (n : Nat) (a0 : List Talk) (a1 : Int) : residT Tryd.prog cfg RN n 61 [.sl false .talk a0, .int a1] (.int) = laws_szTalkS_R n a0 a1 := by kernel_rfl

theorem laws_szTalkS_of (n : Nat) (a0 : List Talk) (a1 : Int) {y} (h : laws_szTalkS_R n a0 a1 = some y) : laws_szTalkS_T a0 a1 = some y := presT_of (((laws_szTalkS_res n a0 a1)).trans h)

noncomputable def spec_l1Digits_R (n : Nat) (a0 : Int) : Option ByteArray := br (a0 == 0) (some (ByteArray.mk #[48])) (qb (spec_l1Digits_L5 n n a0 (decide (a0 < 0)) (ByteArray.mk #[])) fun x => br (isRetE x.fst) none (br (isExt 0 x.fst) (br x.snd.fst.fst (qb (catOk (ByteArray.mk #[45]) x.snd.fst.snd.fst) fun y => some (ByteArray.mk #[45] ++ x.snd.fst.snd.fst)) (some x.snd.fst.snd.fst)) none))

theorem spec_l1Digits_res (n : Nat) (a0 : Int) : residT Tryd.prog cfg RN n 62 [.int a0] (.str) = spec_l1Digits_R n a0 := by kernel_rfl

theorem spec_l1Digits_of (n : Nat) (a0 : Int) {y} (h : spec_l1Digits_R n a0 = some y) : spec_l1Digits_T a0 = some y := presT_of (((spec_l1Digits_res n a0)).trans h)

noncomputable def spec_LetterText_R (n : Nat) (a0 : Letter) : Option ByteArray := qb (catOk a0.domain (ByteArray.mk #[32])) fun y => qb (spec_l17Name_T a0.state [ByteArray.mk #[119, 97, 105, 116, 115], ByteArray.mk #[103, 111, 110, 101], ByteArray.mk #[98, 97, 99, 107]]) fun x => qb (catOk (a0.domain ++ ByteArray.mk #[32]) x) fun y => qb (catOk (a0.domain ++ ByteArray.mk #[32] ++ x) (ByteArray.mk #[32])) fun y => qb (spec_l1Digits_T a0.tries) fun x_1 => qb (catOk (a0.domain ++ ByteArray.mk #[32] ++ x ++ ByteArray.mk #[32]) x_1) fun y => qb (catOk (a0.domain ++ ByteArray.mk #[32] ++ x ++ ByteArray.mk #[32] ++ x_1) (ByteArray.mk #[32])) fun y => qb (spec_l1Digits_T a0.next) fun x_2 => qb (catOk (a0.domain ++ ByteArray.mk #[32] ++ x ++ ByteArray.mk #[32] ++ x_1 ++ ByteArray.mk #[32]) x_2) fun y => some (a0.domain ++ ByteArray.mk #[32] ++ x ++ ByteArray.mk #[32] ++ x_1 ++ ByteArray.mk #[32] ++ x_2)

theorem spec_LetterText_res (n : Nat) (a0 : Letter) : residT Tryd.prog cfg RN n 63 [.ag (Letter.cells a0)] (.str) = spec_LetterText_R n a0 := by kernel_rfl

theorem spec_LetterText_of (n : Nat) (a0 : Letter) {y} (h : spec_LetterText_R n a0 = some y) : spec_LetterText_T a0 = some y := presT_of (((spec_LetterText_res n a0)).trans h)

noncomputable def spec_ClientText_R (n : Nat) (a0 : Client) : Option ByteArray := qb (spec_l17Name_T a0.step [ByteArray.mk #[103, 114, 101, 101, 116], ByteArray.mk #[101, 104, 108, 111], ByteArray.mk #[114, 101, 97, 100, 121], ByteArray.mk #[114, 101, 112, 108, 121], ByteArray.mk #[109, 97, 105, 108], ByteArray.mk #[114, 99, 112, 116], ByteArray.mk #[100, 97, 116, 97], ByteArray.mk #[98, 111, 100, 121], ByteArray.mk #[100, 111, 110, 101], ByteArray.mk #[102, 97, 105, 108]]) fun x => qb (catOk x (ByteArray.mk #[32])) fun y => qb (catOk (x ++ ByteArray.mk #[32]) a0.host) fun y => br a0.must (qb (catOk (x ++ ByteArray.mk #[32] ++ a0.host) (ByteArray.mk #[32, 109, 117, 115, 116])) fun y => br a0.tls (qb (catOk (x ++ ByteArray.mk #[32] ++ a0.host ++ ByteArray.mk #[32, 109, 117, 115, 116]) (ByteArray.mk #[32, 115, 101, 97, 108, 101, 100])) fun y => br a0.proved (qb (catOk (x ++ ByteArray.mk #[32] ++ a0.host ++ ByteArray.mk #[32, 109, 117, 115, 116] ++ ByteArray.mk #[32, 115, 101, 97, 108, 101, 100]) (ByteArray.mk #[32, 112, 114, 111, 118, 101, 100])) fun y => some (x ++ ByteArray.mk #[32] ++ a0.host ++ ByteArray.mk #[32, 109, 117, 115, 116] ++ ByteArray.mk #[32, 115, 101, 97, 108, 101, 100] ++ ByteArray.mk #[32, 112, 114, 111, 118, 101, 100])) (some (x ++ ByteArray.mk #[32] ++ a0.host ++ ByteArray.mk #[32, 109, 117, 115, 116] ++ ByteArray.mk #[32, 115, 101, 97, 108, 101, 100]))) (br a0.proved (qb (catOk (x ++ ByteArray.mk #[32] ++ a0.host ++ ByteArray.mk #[32, 109, 117, 115, 116]) (ByteArray.mk #[32, 112, 114, 111, 118, 101, 100])) fun y => some (x ++ ByteArray.mk #[32] ++ a0.host ++ ByteArray.mk #[32, 109, 117, 115, 116] ++ ByteArray.mk #[32, 112, 114, 111, 118, 101, 100])) (some (x ++ ByteArray.mk #[32] ++ a0.host ++ ByteArray.mk #[32, 109, 117, 115, 116])))) (br a0.tls (qb (catOk (x ++ ByteArray.mk #[32] ++ a0.host) (ByteArray.mk #[32, 115, 101, 97, 108, 101, 100])) fun y => br a0.proved (qb (catOk (x ++ ByteArray.mk #[32] ++ a0.host ++ ByteArray.mk #[32, 115, 101, 97, 108, 101, 100]) (ByteArray.mk #[32, 112, 114, 111, 118, 101, 100])) fun y => some (x ++ ByteArray.mk #[32] ++ a0.host ++ ByteArray.mk #[32, 115, 101, 97, 108, 101, 100] ++ ByteArray.mk #[32, 112, 114, 111, 118, 101, 100])) (some (x ++ ByteArray.mk #[32] ++ a0.host ++ ByteArray.mk #[32, 115, 101, 97, 108, 101, 100]))) (br a0.proved (qb (catOk (x ++ ByteArray.mk #[32] ++ a0.host) (ByteArray.mk #[32, 112, 114, 111, 118, 101, 100])) fun y => some (x ++ ByteArray.mk #[32] ++ a0.host ++ ByteArray.mk #[32, 112, 114, 111, 118, 101, 100])) (some (x ++ ByteArray.mk #[32] ++ a0.host))))

theorem spec_ClientText_res (n : Nat) (a0 : Client) : residT Tryd.prog cfg RN n 64 [.ag (Client.cells a0)] (.str) = spec_ClientText_R n a0 := by kernel_rfl

theorem spec_ClientText_of (n : Nat) (a0 : Client) {y} (h : spec_ClientText_R n a0 = some y) : spec_ClientText_T a0 = some y := presT_of (((spec_ClientText_res n a0)).trans h)

noncomputable def laws_toTermS_R (n : Nat) (a0 : List Term) : Option (List Term) := br (decide ((↑a0.length : Int) = (↑a0.length : Int)) && decide (0 ≤ (↑a0.length : Int)) && (↑a0.length : Int).toNat.ble appMax) (qb (laws_toTermS_L3 n n false a0 (List.replicate (↑a0.length : Int).toNat (zeroEl Kind.term)) 0) fun x => br (isRetE x.fst) none (br (isExt 0 x.fst) (some x.snd.snd.fst) none)) none

theorem laws_toTermS_res (n : Nat) (a0 : List Term) : residT Tryd.prog cfg RN n 65 [.sl false .term a0] (.sl .term) = laws_toTermS_R n a0 := by kernel_rfl

theorem laws_toTermS_of (n : Nat) (a0 : List Term) {y} (h : laws_toTermS_R n a0 = some y) : laws_toTermS_T a0 = some y := presT_of (((laws_toTermS_res n a0)).trans h)

noncomputable def laws_toPolicyS_R (n : Nat) (a0 : List Policy) : Option (List Policy) := br (decide ((↑a0.length : Int) = (↑a0.length : Int)) && decide (0 ≤ (↑a0.length : Int)) && (↑a0.length : Int).toNat.ble appMax) (qb (laws_toPolicyS_L3 n n false a0 (List.replicate (↑a0.length : Int).toNat (zeroEl Kind.policy)) 0) fun x => br (isRetE x.fst) none (br (isExt 0 x.fst) (some x.snd.snd.fst) none)) none

theorem laws_toPolicyS_res (n : Nat) (a0 : List Policy) : residT Tryd.prog cfg RN n 66 [.sl false .policy a0] (.sl .policy) = laws_toPolicyS_R n a0 := by kernel_rfl

theorem laws_toPolicyS_of (n : Nat) (a0 : List Policy) {y} (h : laws_toPolicyS_R n a0 = some y) : laws_toPolicyS_T a0 = some y := presT_of (((laws_toPolicyS_res n a0)).trans h)

noncomputable def laws_toHostS_R (n : Nat) (a0 : List Host) : Option (List Host) := br (decide ((↑a0.length : Int) = (↑a0.length : Int)) && decide (0 ≤ (↑a0.length : Int)) && (↑a0.length : Int).toNat.ble appMax) (qb (laws_toHostS_L3 n n false a0 (List.replicate (↑a0.length : Int).toNat (zeroEl Kind.host)) 0) fun x => br (isRetE x.fst) none (br (isExt 0 x.fst) (some x.snd.snd.fst) none)) none

theorem laws_toHostS_res (n : Nat) (a0 : List Host) : residT Tryd.prog cfg RN n 67 [.sl false .host a0] (.sl .host) = laws_toHostS_R n a0 := by kernel_rfl

theorem laws_toHostS_of (n : Nat) (a0 : List Host) {y} (h : laws_toHostS_R n a0 = some y) : laws_toHostS_T a0 = some y := presT_of (((laws_toHostS_res n a0)).trans h)

noncomputable def laws_toLetterS_R (n : Nat) (a0 : List Letter) : Option (List Letter) := br (decide ((↑a0.length : Int) = (↑a0.length : Int)) && decide (0 ≤ (↑a0.length : Int)) && (↑a0.length : Int).toNat.ble appMax) (qb (laws_toLetterS_L3 n n false a0 (List.replicate (↑a0.length : Int).toNat (zeroEl Kind.letter)) 0) fun x => br (isRetE x.fst) none (br (isExt 0 x.fst) (some x.snd.snd.fst) none)) none

theorem laws_toLetterS_res (n : Nat) (a0 : List Letter) : residT Tryd.prog cfg RN n 68 [.sl false .letter a0] (.sl .letter) = laws_toLetterS_R n a0 := by kernel_rfl

theorem laws_toLetterS_of (n : Nat) (a0 : List Letter) {y} (h : laws_toLetterS_R n a0 = some y) : laws_toLetterS_T a0 = some y := presT_of (((laws_toLetterS_res n a0)).trans h)

noncomputable def laws_toCallS_R (n : Nat) (a0 : List CallD) : Option (List CallD) := br (decide ((↑a0.length : Int) = (↑a0.length : Int)) && decide (0 ≤ (↑a0.length : Int)) && (↑a0.length : Int).toNat.ble appMax) (qb (laws_toCallS_L3 n n false a0 (List.replicate (↑a0.length : Int).toNat (zeroEl Kind.call)) 0) fun x => br (isRetE x.fst) none (br (isExt 0 x.fst) (some x.snd.snd.fst) none)) none

theorem laws_toCallS_res (n : Nat) (a0 : List CallD) : residT Tryd.prog cfg RN n 69 [.sl false .call a0] (.sl .call) = laws_toCallS_R n a0 := by kernel_rfl

theorem laws_toCallS_of (n : Nat) (a0 : List CallD) {y} (h : laws_toCallS_R n a0 = some y) : laws_toCallS_T a0 = some y := presT_of (((laws_toCallS_res n a0)).trans h)

noncomputable def laws_toTalkS_R (n : Nat) (a0 : List Talk) : Option (List Talk) := br (decide ((↑a0.length : Int) = (↑a0.length : Int)) && decide (0 ≤ (↑a0.length : Int)) && (↑a0.length : Int).toNat.ble appMax) (qb (laws_toTalkS_L3 n n false a0 (List.replicate (↑a0.length : Int).toNat (zeroEl Kind.talk)) 0) fun x => br (isRetE x.fst) none (br (isExt 0 x.fst) (some x.snd.snd.fst) none)) none

theorem laws_toTalkS_res (n : Nat) (a0 : List Talk) : residT Tryd.prog cfg RN n 70 [.sl false .talk a0] (.sl .talk) = laws_toTalkS_R n a0 := by kernel_rfl

theorem laws_toTalkS_of (n : Nat) (a0 : List Talk) {y} (h : laws_toTalkS_R n a0 = some y) : laws_toTalkS_T a0 = some y := presT_of (((laws_toTalkS_res n a0)).trans h)

noncomputable def impl_LetterText_R (n : Nat) (a0 : Letter) : Option ByteArray := qb (impl_named_T a0.state [ByteArray.mk #[119, 97, 105, 116, 115], ByteArray.mk #[103, 111, 110, 101], ByteArray.mk #[98, 97, 99, 107]]) fun x => qb (strconv_Itoa_T a0.tries) fun x_1 => qb (strconv_Itoa_T a0.next) fun x_2 => qb (strings_Join_T [a0.domain, x, x_1, x_2] (ByteArray.mk #[32])) fun x => some x

theorem impl_LetterText_res (n : Nat) (a0 : Letter) : residT Tryd.prog cfg RN n 72 [.ag (Letter.cells a0)] (.str) = impl_LetterText_R n a0 := by kernel_rfl

theorem impl_LetterText_of (n : Nat) (a0 : Letter) {y} (h : impl_LetterText_R n a0 = some y) : impl_LetterText_T a0 = some y := presT_of (((impl_LetterText_res n a0)).trans h)

noncomputable def impl_ClientText_R (n : Nat) (a0 : Client) : Option ByteArray := qb (impl_named_T a0.step [ByteArray.mk #[103, 114, 101, 101, 116], ByteArray.mk #[101, 104, 108, 111], ByteArray.mk #[114, 101, 97, 100, 121], ByteArray.mk #[114, 101, 112, 108, 121], ByteArray.mk #[109, 97, 105, 108], ByteArray.mk #[114, 99, 112, 116], ByteArray.mk #[100, 97, 116, 97], ByteArray.mk #[98, 111, 100, 121], ByteArray.mk #[100, 111, 110, 101], ByteArray.mk #[102, 97, 105, 108]]) fun x => qb (catOk x (ByteArray.mk #[32])) fun y => qb (catOk (x ++ ByteArray.mk #[32]) a0.host) fun y => br a0.must (qb (catOk (x ++ ByteArray.mk #[32] ++ a0.host) (ByteArray.mk #[32, 109, 117, 115, 116])) fun y => br a0.tls (qb (catOk (x ++ ByteArray.mk #[32] ++ a0.host ++ ByteArray.mk #[32, 109, 117, 115, 116]) (ByteArray.mk #[32, 115, 101, 97, 108, 101, 100])) fun y => br a0.proved (qb (catOk (x ++ ByteArray.mk #[32] ++ a0.host ++ ByteArray.mk #[32, 109, 117, 115, 116] ++ ByteArray.mk #[32, 115, 101, 97, 108, 101, 100]) (ByteArray.mk #[32, 112, 114, 111, 118, 101, 100])) fun y => some (x ++ ByteArray.mk #[32] ++ a0.host ++ ByteArray.mk #[32, 109, 117, 115, 116] ++ ByteArray.mk #[32, 115, 101, 97, 108, 101, 100] ++ ByteArray.mk #[32, 112, 114, 111, 118, 101, 100])) (some (x ++ ByteArray.mk #[32] ++ a0.host ++ ByteArray.mk #[32, 109, 117, 115, 116] ++ ByteArray.mk #[32, 115, 101, 97, 108, 101, 100]))) (br a0.proved (qb (catOk (x ++ ByteArray.mk #[32] ++ a0.host ++ ByteArray.mk #[32, 109, 117, 115, 116]) (ByteArray.mk #[32, 112, 114, 111, 118, 101, 100])) fun y => some (x ++ ByteArray.mk #[32] ++ a0.host ++ ByteArray.mk #[32, 109, 117, 115, 116] ++ ByteArray.mk #[32, 112, 114, 111, 118, 101, 100])) (some (x ++ ByteArray.mk #[32] ++ a0.host ++ ByteArray.mk #[32, 109, 117, 115, 116])))) (br a0.tls (qb (catOk (x ++ ByteArray.mk #[32] ++ a0.host) (ByteArray.mk #[32, 115, 101, 97, 108, 101, 100])) fun y => br a0.proved (qb (catOk (x ++ ByteArray.mk #[32] ++ a0.host ++ ByteArray.mk #[32, 115, 101, 97, 108, 101, 100]) (ByteArray.mk #[32, 112, 114, 111, 118, 101, 100])) fun y => some (x ++ ByteArray.mk #[32] ++ a0.host ++ ByteArray.mk #[32, 115, 101, 97, 108, 101, 100] ++ ByteArray.mk #[32, 112, 114, 111, 118, 101, 100])) (some (x ++ ByteArray.mk #[32] ++ a0.host ++ ByteArray.mk #[32, 115, 101, 97, 108, 101, 100]))) (br a0.proved (qb (catOk (x ++ ByteArray.mk #[32] ++ a0.host) (ByteArray.mk #[32, 112, 114, 111, 118, 101, 100])) fun y => some (x ++ ByteArray.mk #[32] ++ a0.host ++ ByteArray.mk #[32, 112, 114, 111, 118, 101, 100])) (some (x ++ ByteArray.mk #[32] ++ a0.host))))

theorem impl_ClientText_res (n : Nat) (a0 : Client) : residT Tryd.prog cfg RN n 73 [.ag (Client.cells a0)] (.str) = impl_ClientText_R n a0 := by kernel_rfl

theorem impl_ClientText_of (n : Nat) (a0 : Client) {y} (h : impl_ClientText_R n a0 = some y) : impl_ClientText_T a0 = some y := presT_of (((impl_ClientText_res n a0)).trans h)

noncomputable def laws_eqTermS_R (n : Nat) (a0 : List Term) (a1 : List Term) : Option Bool := br ((↑a0.length : Int) != (↑a1.length : Int)) (some false) (qb (laws_eqTermS_L4 n n false a0 false a1 false 0) fun x => br (isRetE x.fst) (some x.snd.fst.fst) (br (isExt 0 x.fst) (some true) none))

theorem laws_eqTermS_res (n : Nat) (a0 : List Term) (a1 : List Term) : residT Tryd.prog cfg RN n 74 [.sl false .term a0, .sl false .term a1] (.bool) = laws_eqTermS_R n a0 a1 := by kernel_rfl

theorem laws_eqTermS_of (n : Nat) (a0 : List Term) (a1 : List Term) {y} (h : laws_eqTermS_R n a0 a1 = some y) : laws_eqTermS_T a0 a1 = some y := presT_of (((laws_eqTermS_res n a0 a1)).trans h)

noncomputable def laws_eqPolicyS_R (n : Nat) (a0 : List Policy) (a1 : List Policy) : Option Bool := br ((↑a0.length : Int) != (↑a1.length : Int)) (some false) (qb (laws_eqPolicyS_L4 n n false a0 false a1 false 0) fun x => br (isRetE x.fst) (some x.snd.fst.fst) (br (isExt 0 x.fst) (some true) none))

theorem laws_eqPolicyS_res (n : Nat) (a0 : List Policy) (a1 : List Policy) : residT Tryd.prog cfg RN n 75 [.sl false .policy a0, .sl false .policy a1] (.bool) = laws_eqPolicyS_R n a0 a1 := by kernel_rfl

theorem laws_eqPolicyS_of (n : Nat) (a0 : List Policy) (a1 : List Policy) {y} (h : laws_eqPolicyS_R n a0 a1 = some y) : laws_eqPolicyS_T a0 a1 = some y := presT_of (((laws_eqPolicyS_res n a0 a1)).trans h)

noncomputable def laws_eqHostS_R (n : Nat) (a0 : List Host) (a1 : List Host) : Option Bool := br ((↑a0.length : Int) != (↑a1.length : Int)) (some false) (qb (laws_eqHostS_L4 n n false a0 false a1 false 0) fun x => br (isRetE x.fst) (some x.snd.fst.fst) (br (isExt 0 x.fst) (some true) none))

theorem laws_eqHostS_res (n : Nat) (a0 : List Host) (a1 : List Host) : residT Tryd.prog cfg RN n 76 [.sl false .host a0, .sl false .host a1] (.bool) = laws_eqHostS_R n a0 a1 := by kernel_rfl

theorem laws_eqHostS_of (n : Nat) (a0 : List Host) (a1 : List Host) {y} (h : laws_eqHostS_R n a0 a1 = some y) : laws_eqHostS_T a0 a1 = some y := presT_of (((laws_eqHostS_res n a0 a1)).trans h)

noncomputable def laws_eqLetterS_R (n : Nat) (a0 : List Letter) (a1 : List Letter) : Option Bool := br ((↑a0.length : Int) != (↑a1.length : Int)) (some false) (qb (laws_eqLetterS_L4 n n false a0 false a1 false 0) fun x => br (isRetE x.fst) (some x.snd.fst.fst) (br (isExt 0 x.fst) (some true) none))

theorem laws_eqLetterS_res (n : Nat) (a0 : List Letter) (a1 : List Letter) : residT Tryd.prog cfg RN n 77 [.sl false .letter a0, .sl false .letter a1] (.bool) = laws_eqLetterS_R n a0 a1 := by kernel_rfl

theorem laws_eqLetterS_of (n : Nat) (a0 : List Letter) (a1 : List Letter) {y} (h : laws_eqLetterS_R n a0 a1 = some y) : laws_eqLetterS_T a0 a1 = some y := presT_of (((laws_eqLetterS_res n a0 a1)).trans h)

noncomputable def laws_eqCallS_R (n : Nat) (a0 : List CallD) (a1 : List CallD) : Option Bool := br ((↑a0.length : Int) != (↑a1.length : Int)) (some false) (qb (laws_eqCallS_L4 n n false a0 false a1 false 0) fun x => br (isRetE x.fst) (some x.snd.fst.fst) (br (isExt 0 x.fst) (some true) none))

theorem laws_eqCallS_res (n : Nat) (a0 : List CallD) (a1 : List CallD) : residT Tryd.prog cfg RN n 78 [.sl false .call a0, .sl false .call a1] (.bool) = laws_eqCallS_R n a0 a1 := by kernel_rfl

theorem laws_eqCallS_of (n : Nat) (a0 : List CallD) (a1 : List CallD) {y} (h : laws_eqCallS_R n a0 a1 = some y) : laws_eqCallS_T a0 a1 = some y := presT_of (((laws_eqCallS_res n a0 a1)).trans h)

noncomputable def laws_eqTalkS_R (n : Nat) (a0 : List Talk) (a1 : List Talk) : Option Bool := br ((↑a0.length : Int) != (↑a1.length : Int)) (some false) (qb (laws_eqTalkS_L4 n n false a0 false a1 false 0) fun x => br (isRetE x.fst) (some x.snd.fst.fst) (br (isExt 0 x.fst) (some true) none))

theorem laws_eqTalkS_res (n : Nat) (a0 : List Talk) (a1 : List Talk) : residT Tryd.prog cfg RN n 79 [.sl false .talk a0, .sl false .talk a1] (.bool) = laws_eqTalkS_R n a0 a1 := by kernel_rfl

theorem laws_eqTalkS_of (n : Nat) (a0 : List Talk) (a1 : List Talk) {y} (h : laws_eqTalkS_R n a0 a1 = some y) : laws_eqTalkS_T a0 a1 = some y := presT_of (((laws_eqTalkS_res n a0 a1)).trans h)

noncomputable def laws_szPolicy_R (n : Nat) (a0 : Policy) (a1 : Int) : Option Int := br (decide (IntKind.i64.wrap (a1 - (↑a0.domain.size : Int)) < 0)) (some (-1)) (qb (laws_szStringS_T a0.mx (IntKind.i64.wrap (a1 - (↑a0.domain.size : Int)))) fun x => br (decide (x < 0)) (some (-1)) (some x))

theorem laws_szPolicy_res (n : Nat) (a0 : Policy) (a1 : Int) : residT Tryd.prog cfg RN n 95 [.ag (Policy.cells a0), .int a1] (.int) = laws_szPolicy_R n a0 a1 := by kernel_rfl

theorem laws_szPolicy_of (n : Nat) (a0 : Policy) (a1 : Int) {y} (h : laws_szPolicy_R n a0 a1 = some y) : laws_szPolicy_T a0 a1 = some y := presT_of (((laws_szPolicy_res n a0 a1)).trans h)

noncomputable def laws_szHost_R (n : Nat) (a0 : Host) (a1 : Int) : Option Int := br (decide (IntKind.i64.wrap (a1 - (↑a0.name.size : Int)) < 0)) (some (-1)) (some (IntKind.i64.wrap (a1 - (↑a0.name.size : Int))))

theorem laws_szHost_res (n : Nat) (a0 : Host) (a1 : Int) : residT Tryd.prog cfg RN n 96 [.ag (Host.cells a0), .int a1] (.int) = laws_szHost_R n a0 a1 := by kernel_rfl

theorem laws_szHost_of (n : Nat) (a0 : Host) (a1 : Int) {y} (h : laws_szHost_R n a0 a1 = some y) : laws_szHost_T a0 a1 = some y := presT_of (((laws_szHost_res n a0 a1)).trans h)

noncomputable def laws_szLetter_R (n : Nat) (a0 : Letter) (a1 : Int) : Option Int := br (decide (IntKind.i64.wrap (a1 - (↑a0.domain.size : Int)) < 0)) (some (-1)) (some (IntKind.i64.wrap (a1 - (↑a0.domain.size : Int))))

theorem laws_szLetter_res (n : Nat) (a0 : Letter) (a1 : Int) : residT Tryd.prog cfg RN n 97 [.ag (Letter.cells a0), .int a1] (.int) = laws_szLetter_R n a0 a1 := by kernel_rfl

theorem laws_szLetter_of (n : Nat) (a0 : Letter) (a1 : Int) {y} (h : laws_szLetter_R n a0 a1 = some y) : laws_szLetter_T a0 a1 = some y := presT_of (((laws_szLetter_res n a0 a1)).trans h)

noncomputable def laws_szCall_R (n : Nat) (a0 : CallD) (a1 : Int) : Option Int := qb (laws_szClient_T a0.client a1) fun x => br (decide (x < 0)) (some (-1)) (some x)

theorem laws_szCall_res (n : Nat) (a0 : CallD) (a1 : Int) : residT Tryd.prog cfg RN n 98 [.ag (CallD.cells a0), .int a1] (.int) = laws_szCall_R n a0 a1 := by kernel_rfl

theorem laws_szCall_of (n : Nat) (a0 : CallD) (a1 : Int) {y} (h : laws_szCall_R n a0 a1 = some y) : laws_szCall_T a0 a1 = some y := presT_of (((laws_szCall_res n a0 a1)).trans h)

noncomputable def laws_szTalk_R (n : Nat) (a0 : Talk) (a1 : Int) : Option Int := qb (laws_szServer_T a0.server a1) fun x => br (decide (x < 0)) (some (-1)) (some x)

theorem laws_szTalk_res (n : Nat) (a0 : Talk) (a1 : Int) : residT Tryd.prog cfg RN n 99 [.ag (Talk.cells a0), .int a1] (.int) = laws_szTalk_R n a0 a1 := by kernel_rfl

theorem laws_szTalk_of (n : Nat) (a0 : Talk) (a1 : Int) {y} (h : laws_szTalk_R n a0 a1 = some y) : laws_szTalk_T a0 a1 = some y := presT_of (((laws_szTalk_res n a0 a1)).trans h)

noncomputable def spec_l17Name_R (n : Nat) (a0 : Int) (a1 : List ByteArray) : Option ByteArray := br (decide (a0 < 1)) (some (ByteArray.mk #[110, 111, 110, 101])) (br (decide (a0 > (↑a1.length : Int))) (some (ByteArray.mk #[110, 111, 110, 101])) (qb (idx a1 (IntKind.i64.wrap (a0 - 1))) fun y => some y))

theorem spec_l17Name_res (n : Nat) (a0 : Int) (a1 : List ByteArray) : residT Tryd.prog cfg RN n 100 [.int a0, .sl false .str a1] (.str) = spec_l17Name_R n a0 a1 := by kernel_rfl

theorem spec_l17Name_of (n : Nat) (a0 : Int) (a1 : List ByteArray) {y} (h : spec_l17Name_R n a0 a1 = some y) : spec_l17Name_T a0 a1 = some y := presT_of (((spec_l17Name_res n a0 a1)).trans h)

noncomputable def laws_toPolicy_R (n : Nat) (a0 : Policy) : Option Policy := qb (laws_toStringS_T a0.mx) fun x => some (Policy.mk a0.domain a0.mode x a0.til)

theorem laws_toPolicy_res (n : Nat) (a0 : Policy) : residT Tryd.prog cfg RN n 101 [.ag (Policy.cells a0)] (.el .policy) = laws_toPolicy_R n a0 := by kernel_rfl

theorem laws_toPolicy_of (n : Nat) (a0 : Policy) {y} (h : laws_toPolicy_R n a0 = some y) : laws_toPolicy_T a0 = some y := presT_of (((laws_toPolicy_res n a0)).trans h)

noncomputable def laws_toHost_R (n : Nat) (a0 : Host) : Option Host := some a0

theorem laws_toHost_res (n : Nat) (a0 : Host) : residT Tryd.prog cfg RN n 102 [.ag (Host.cells a0)] (.el .host) = laws_toHost_R n a0 := by kernel_rfl

theorem laws_toHost_of (n : Nat) (a0 : Host) {y} (h : laws_toHost_R n a0 = some y) : laws_toHost_T a0 = some y := presT_of (((laws_toHost_res n a0)).trans h)

noncomputable def laws_toLetter_R (n : Nat) (a0 : Letter) : Option Letter := some a0

theorem laws_toLetter_res (n : Nat) (a0 : Letter) : residT Tryd.prog cfg RN n 103 [.ag (Letter.cells a0)] (.el .letter) = laws_toLetter_R n a0 := by kernel_rfl

theorem laws_toLetter_of (n : Nat) (a0 : Letter) {y} (h : laws_toLetter_R n a0 = some y) : laws_toLetter_T a0 = some y := presT_of (((laws_toLetter_res n a0)).trans h)

noncomputable def laws_toCall_R (n : Nat) (a0 : CallD) : Option CallD := qb (laws_toClient_T a0.client) fun x => some (CallD.mk a0.letter (Client.mk x.step x.host x.must x.eph x.body (Term.mk x.share.op x.share.n x.share.s x.share.kids) x.inn x.out x.tls x.proved) a0.good)

theorem laws_toCall_res (n : Nat) (a0 : CallD) : residT Tryd.prog cfg RN n 104 [.ag (CallD.cells a0)] (.el .call) = laws_toCall_R n a0 := by kernel_rfl

theorem laws_toCall_of (n : Nat) (a0 : CallD) {y} (h : laws_toCall_R n a0 = some y) : laws_toCall_T a0 = some y := presT_of (((laws_toCall_res n a0)).trans h)

noncomputable def laws_toTalk_R (n : Nat) (a0 : Talk) : Option Talk := qb (laws_toServer_T a0.server) fun x => some (Talk.mk a0.host (Server.mk x.step x.host x.key x.eph (Term.mk x.cert.op x.cert.n x.cert.s x.cert.kids) (Term.mk x.share.op x.share.n x.share.s x.share.kids) x.inn x.out x.tls x.got))

theorem laws_toTalk_res (n : Nat) (a0 : Talk) : residT Tryd.prog cfg RN n 105 [.ag (Talk.cells a0)] (.el .talk) = laws_toTalk_R n a0 := by kernel_rfl

theorem laws_toTalk_of (n : Nat) (a0 : Talk) {y} (h : laws_toTalk_R n a0 = some y) : laws_toTalk_T a0 = some y := presT_of (((laws_toTalk_res n a0)).trans h)

noncomputable def impl_named_R (n : Nat) (a0 : Int) (a1 : List ByteArray) : Option ByteArray := qb (impl_in_T a0 1 (↑a1.length : Int)) fun x => br (!x) (some (ByteArray.mk #[110, 111, 110, 101])) (qb (idx a1 (IntKind.i64.wrap (a0 - 1))) fun y => some y)

theorem impl_named_res (n : Nat) (a0 : Int) (a1 : List ByteArray) : residT Tryd.prog cfg RN n 108 [.int a0, .sl false .str a1] (.str) = impl_named_R n a0 a1 := by kernel_rfl

theorem impl_named_of (n : Nat) (a0 : Int) (a1 : List ByteArray) {y} (h : impl_named_R n a0 a1 = some y) : impl_named_T a0 a1 = some y := presT_of (((impl_named_res n a0 a1)).trans h)

noncomputable def laws_eqPolicy_R (n : Nat) (a0 : Policy) (a1 : Policy) : Option Bool := br (!a0.domain.toList == a1.domain.toList) (some false) (br (a0.mode != a1.mode) (some false) (qb (laws_eqStringS_T a0.mx a1.mx) fun x => br (!x) (some false) (br (a0.til != a1.til) (some false) (some true))))

theorem laws_eqPolicy_res (n : Nat) (a0 : Policy) (a1 : Policy) : residT Tryd.prog cfg RN n 109 [.ag (Policy.cells a0), .ag (Policy.cells a1)] (.bool) = laws_eqPolicy_R n a0 a1 := by kernel_rfl

theorem laws_eqPolicy_of (n : Nat) (a0 : Policy) (a1 : Policy) {y} (h : laws_eqPolicy_R n a0 a1 = some y) : laws_eqPolicy_T a0 a1 = some y := presT_of (((laws_eqPolicy_res n a0 a1)).trans h)

noncomputable def laws_eqHost_R (n : Nat) (a0 : Host) (a1 : Host) : Option Bool := br (!a0.name.toList == a1.name.toList) (some false) (br (a0.key != a1.key) (some false) (br (!a0.lost == a1.lost) (some false) (some true)))

theorem laws_eqHost_res (n : Nat) (a0 : Host) (a1 : Host) : residT Tryd.prog cfg RN n 110 [.ag (Host.cells a0), .ag (Host.cells a1)] (.bool) = laws_eqHost_R n a0 a1 := by kernel_rfl

theorem laws_eqHost_of (n : Nat) (a0 : Host) (a1 : Host) {y} (h : laws_eqHost_R n a0 a1 = some y) : laws_eqHost_T a0 a1 = some y := presT_of (((laws_eqHost_res n a0 a1)).trans h)

noncomputable def laws_eqLetter_R (n : Nat) (a0 : Letter) (a1 : Letter) : Option Bool := br (!a0.domain.toList == a1.domain.toList) (some false) (br (a0.body != a1.body) (some false) (br (a0.state != a1.state) (some false) (br (a0.tries != a1.tries) (some false) (br (a0.next != a1.next) (some false) (some true)))))

theorem laws_eqLetter_res (n : Nat) (a0 : Letter) (a1 : Letter) : residT Tryd.prog cfg RN n 111 [.ag (Letter.cells a0), .ag (Letter.cells a1)] (.bool) = laws_eqLetter_R n a0 a1 := by kernel_rfl

theorem laws_eqLetter_of (n : Nat) (a0 : Letter) (a1 : Letter) {y} (h : laws_eqLetter_R n a0 a1 = some y) : laws_eqLetter_T a0 a1 = some y := presT_of (((laws_eqLetter_res n a0 a1)).trans h)

noncomputable def laws_eqCall_R (n : Nat) (a0 : CallD) (a1 : CallD) : Option Bool := br (a0.letter != a1.letter) (some false) (qb (laws_eqClient_T a0.client a1.client) fun x => br (!x) (some false) (br (!a0.good == a1.good) (some false) (some true)))

theorem laws_eqCall_res (n : Nat) (a0 : CallD) (a1 : CallD) : residT Tryd.prog cfg RN n 112 [.ag (CallD.cells a0), .ag (CallD.cells a1)] (.bool) = laws_eqCall_R n a0 a1 := by kernel_rfl

theorem laws_eqCall_of (n : Nat) (a0 : CallD) (a1 : CallD) {y} (h : laws_eqCall_R n a0 a1 = some y) : laws_eqCall_T a0 a1 = some y := presT_of (((laws_eqCall_res n a0 a1)).trans h)

noncomputable def laws_eqTalk_R (n : Nat) (a0 : Talk) (a1 : Talk) : Option Bool := br (a0.host != a1.host) (some false) (qb (laws_eqServer_T a0.server a1.server) fun x => br (!x) (some false) (some true))

theorem laws_eqTalk_res (n : Nat) (a0 : Talk) (a1 : Talk) : residT Tryd.prog cfg RN n 113 [.ag (Talk.cells a0), .ag (Talk.cells a1)] (.bool) = laws_eqTalk_R n a0 a1 := by kernel_rfl

theorem laws_eqTalk_of (n : Nat) (a0 : Talk) (a1 : Talk) {y} (h : laws_eqTalk_R n a0 a1 = some y) : laws_eqTalk_T a0 a1 = some y := presT_of (((laws_eqTalk_res n a0 a1)).trans h)

noncomputable def laws_szStringS_R (n : Nat) (a0 : List ByteArray) (a1 : Int) : Option Int := br (decide (IntKind.i64.wrap (a1 - (↑a0.length : Int)) < 0)) (some (-1)) (qb (laws_szStringS_L5 n n false a0 (IntKind.i64.wrap (a1 - (↑a0.length : Int))) 0 0) fun x => br (isRetE x.fst) (some x.snd.fst.snd.fst) (br (isExt 0 x.fst) (some x.snd.fst.fst) none))

theorem laws_szStringS_res (n : Nat) (a0 : List ByteArray) (a1 : Int) : residT Tryd.prog cfg RN n 137 [.sl false .str a0, .int a1] (.int) = laws_szStringS_R n a0 a1 := by kernel_rfl

theorem laws_szStringS_of (n : Nat) (a0 : List ByteArray) (a1 : Int) {y} (h : laws_szStringS_R n a0 a1 = some y) : laws_szStringS_T a0 a1 = some y := presT_of (((laws_szStringS_res n a0 a1)).trans h)

noncomputable def laws_toStringS_R (n : Nat) (a0 : List ByteArray) : Option (List ByteArray) := br (decide ((↑a0.length : Int) = (↑a0.length : Int)) && decide (0 ≤ (↑a0.length : Int)) && (↑a0.length : Int).toNat.ble appMax) (qb (laws_toStringS_L3 n n false a0 (List.replicate (↑a0.length : Int).toNat (zeroEl Kind.str)) 0) fun x => br (isRetE x.fst) none (br (isExt 0 x.fst) (some x.snd.snd.fst) none)) none

theorem laws_toStringS_res (n : Nat) (a0 : List ByteArray) : residT Tryd.prog cfg RN n 138 [.sl false .str a0] (.sl .str) = laws_toStringS_R n a0 := by kernel_rfl

theorem laws_toStringS_of (n : Nat) (a0 : List ByteArray) {y} (h : laws_toStringS_R n a0 = some y) : laws_toStringS_T a0 = some y := presT_of (((laws_toStringS_res n a0)).trans h)

noncomputable def laws_eqStringS_R (n : Nat) (a0 : List ByteArray) (a1 : List ByteArray) : Option Bool := br ((↑a0.length : Int) != (↑a1.length : Int)) (some false) (qb (laws_eqStringS_L4 n n false a0 false a1 false 0) fun x => br (isRetE x.fst) (some x.snd.fst.fst) (br (isExt 0 x.fst) (some true) none))

theorem laws_eqStringS_res (n : Nat) (a0 : List ByteArray) (a1 : List ByteArray) : residT Tryd.prog cfg RN n 143 [.sl false .str a0, .sl false .str a1] (.bool) = laws_eqStringS_R n a0 a1 := by kernel_rfl

theorem laws_eqStringS_of (n : Nat) (a0 : List ByteArray) (a1 : List ByteArray) {y} (h : laws_eqStringS_R n a0 a1 = some y) : laws_eqStringS_T a0 a1 = some y := presT_of (((laws_eqStringS_res n a0 a1)).trans h)

theorem spec_WorldText_round3 (n : Nat) (x3 : ByteArray) (x4 : Int) (y1 : WorldD) : roundK Tryd.prog cfg RN n 5 26 3 0 (spec_WorldText_S3 x3 x4 y1) = (br (decide (x4 < (↑y1.letters.length : Int))) (qb (idx y1.letters x4) fun y => qb (spec_LetterText_T y) fun x => qb (catOk x3 x) fun y => qb (catOk (x3 ++ x) (ByteArray.mk #[10])) fun y => some (Ex.nrm, spec_WorldText_S3 (x3 ++ x ++ ByteArray.mk #[10]) (IntKind.i64.wrap (x4 + 1)) y1)) (some (Ex.ext 0, spec_WorldText_O3 x3 y1)) : Option (Ex × St)) := by kernel_rfl

theorem spec_WorldText_round7 (n : Nat) (x3 : ByteArray) (x5 : Int) (y1 : WorldD) : roundK Tryd.prog cfg RN n 5 26 7 0 (spec_WorldText_S7 x3 x5 y1) = (br (decide (x5 < (↑y1.calls.length : Int))) (qb (idx y1.calls x5) fun y => qb (spec_ClientText_T y.client) fun x => qb (catOk x3 x) fun y => qb (catOk (x3 ++ x) (ByteArray.mk #[10])) fun y => some (Ex.nrm, spec_WorldText_S7 (x3 ++ x ++ ByteArray.mk #[10]) (IntKind.i64.wrap (x5 + 1)) y1)) (some (Ex.ext 2, spec_WorldText_O7 x3)) : Option (Ex × St)) := by kernel_rfl

theorem impl_WorldText_round3 (n : Nat) (x3 : ByteArray) (t38 : Bool) (x38 : List Letter) (x39 : Int) (x40 : Int) (y1 : WorldD) : roundK Tryd.prog cfg RN n 5 28 3 0 (impl_WorldText_S3 x3 t38 x38 x39 x40 y1) = (br (decide (x40 < x39)) (qb (idx x38 x40) fun y => qb (impl_LetterText_T y) fun x => qb (catOk x (ByteArray.mk #[10])) fun y => qb (catOk x3 (x ++ ByteArray.mk #[10])) fun y => some (Ex.nrm, impl_WorldText_S3 (x3 ++ (x ++ ByteArray.mk #[10])) t38 x38 x39 (IntKind.i64.wrap (x40 + 1)) y1)) (some (Ex.ext 0, impl_WorldText_O3 x3 y1)) : Option (Ex × St)) := by kernel_rfl

theorem impl_WorldText_round8 (n : Nat) (x3 : ByteArray) (t51 : Bool) (x51 : List CallD) (x52 : Int) (x53 : Int) : roundK Tryd.prog cfg RN n 5 28 8 0 (impl_WorldText_S8 x3 t51 x51 x52 x53) = (br (decide (x53 < x52)) (qb (idx x51 x53) fun y => qb (impl_ClientText_T y.client) fun x => qb (catOk x (ByteArray.mk #[10])) fun y => qb (catOk x3 (x ++ ByteArray.mk #[10])) fun y => some (Ex.nrm, impl_WorldText_S8 (x3 ++ (x ++ ByteArray.mk #[10])) t51 x51 x52 (IntKind.i64.wrap (x53 + 1)))) (some (Ex.ext 2, impl_WorldText_O8 x3)) : Option (Ex × St)) := by kernel_rfl

theorem laws_toIntS_round3 (n : Nat) (t0 : Bool) (x0 : List Int) (x3 : List Int) (x4 : Int) : roundK Tryd.prog cfg RN n 5 45 3 0 (laws_toIntS_S3 t0 x0 x3 x4) = (br (decide (x4 < (↑x0.length : Int))) (qb (idx x0 x4) fun y => qb (idx x3 x4) fun y_1 => qb x3[x4.toNat]? fun x => some (Ex.nrm, laws_toIntS_S3 t0 x0 (x3.set x4.toNat y) (IntKind.i64.wrap (x4 + 1)))) (some (Ex.ext 0, laws_toIntS_O3 x3)) : Option (Ex × St)) := by kernel_rfl

theorem laws_eqIntS_round4 (n : Nat) (t0 : Bool) (x0 : List Int) (t1 : Bool) (x1 : List Int) (x4 : Bool) (x5 : Int) : roundK Tryd.prog cfg RN n 5 48 4 0 (laws_eqIntS_S4 t0 x0 t1 x1 x4 x5) = (br (decide (x5 < (↑x0.length : Int))) (qb (idx x0 x5) fun y => qb (idx x1 x5) fun y_1 => br (y != y_1) (some (Ex.ret, laws_eqIntS_O4 false)) (some (Ex.nrm, laws_eqIntS_S4 t0 x0 t1 x1 x4 (IntKind.i64.wrap (x5 + 1))))) (some (Ex.ext 0, laws_eqIntS_O4 x4)) : Option (Ex × St)) := by kernel_rfl

theorem laws_szTermS_round5 (n : Nat) (t0 : Bool) (x0 : List Term) (x1 : Int) (x4 : Int) (x5 : Int) : roundK Tryd.prog cfg RN n 5 56 5 0 (laws_szTermS_S5 t0 x0 x1 x4 x5) = (br (decide (x5 < (↑x0.length : Int))) (qb (idx x0 x5) fun y => qb (laws_szTerm_T y x1) fun x => br (decide (x < 0)) (some (Ex.ret, laws_szTermS_O5 x (-1))) (some (Ex.nrm, laws_szTermS_S5 t0 x0 x x4 (IntKind.i64.wrap (x5 + 1))))) (some (Ex.ext 0, laws_szTermS_O5 x1 x4)) : Option (Ex × St)) := by kernel_rfl

theorem laws_szPolicyS_round5 (n : Nat) (t0 : Bool) (x0 : List Policy) (x1 : Int) (x4 : Int) (x5 : Int) : roundK Tryd.prog cfg RN n 5 57 5 0 (laws_szPolicyS_S5 t0 x0 x1 x4 x5) = (br (decide (x5 < (↑x0.length : Int))) (qb (idx x0 x5) fun y => qb (laws_szPolicy_T y x1) fun x => br (decide (x < 0)) (some (Ex.ret, laws_szPolicyS_O5 x (-1))) (some (Ex.nrm, laws_szPolicyS_S5 t0 x0 x x4 (IntKind.i64.wrap (x5 + 1))))) (some (Ex.ext 0, laws_szPolicyS_O5 x1 x4)) : Option (Ex × St)) := by kernel_rfl

theorem laws_szHostS_round5 (n : Nat) (t0 : Bool) (x0 : List Host) (x1 : Int) (x4 : Int) (x5 : Int) : roundK Tryd.prog cfg RN n 5 58 5 0 (laws_szHostS_S5 t0 x0 x1 x4 x5) = (br (decide (x5 < (↑x0.length : Int))) (qb (idx x0 x5) fun y => qb (laws_szHost_T y x1) fun x => br (decide (x < 0)) (some (Ex.ret, laws_szHostS_O5 x (-1))) (some (Ex.nrm, laws_szHostS_S5 t0 x0 x x4 (IntKind.i64.wrap (x5 + 1))))) (some (Ex.ext 0, laws_szHostS_O5 x1 x4)) : Option (Ex × St)) := by kernel_rfl

theorem laws_szLetterS_round5 (n : Nat) (t0 : Bool) (x0 : List Letter) (x1 : Int) (x4 : Int) (x5 : Int) : roundK Tryd.prog cfg RN n 5 59 5 0 (laws_szLetterS_S5 t0 x0 x1 x4 x5) = (br (decide (x5 < (↑x0.length : Int))) (qb (idx x0 x5) fun y => qb (laws_szLetter_T y x1) fun x => br (decide (x < 0)) (some (Ex.ret, laws_szLetterS_O5 x (-1))) (some (Ex.nrm, laws_szLetterS_S5 t0 x0 x x4 (IntKind.i64.wrap (x5 + 1))))) (some (Ex.ext 0, laws_szLetterS_O5 x1 x4)) : Option (Ex × St)) := by kernel_rfl

theorem laws_szCallS_round5 (n : Nat) (t0 : Bool) (x0 : List CallD) (x1 : Int) (x4 : Int) (x5 : Int) : roundK Tryd.prog cfg RN n 5 60 5 0 (laws_szCallS_S5 t0 x0 x1 x4 x5) = (br (decide (x5 < (↑x0.length : Int))) (qb (idx x0 x5) fun y => qb (laws_szCall_T y x1) fun x => br (decide (x < 0)) (some (Ex.ret, laws_szCallS_O5 x (-1))) (some (Ex.nrm, laws_szCallS_S5 t0 x0 x x4 (IntKind.i64.wrap (x5 + 1))))) (some (Ex.ext 0, laws_szCallS_O5 x1 x4)) : Option (Ex × St)) := by kernel_rfl

theorem laws_szTalkS_round5 (n : Nat) (t0 : Bool) (x0 : List Talk) (x1 : Int) (x4 : Int) (x5 : Int) : roundK Tryd.prog cfg RN n 5 61 5 0 (laws_szTalkS_S5 t0 x0 x1 x4 x5) = (br (decide (x5 < (↑x0.length : Int))) (qb (idx x0 x5) fun y => qb (laws_szTalk_T y x1) fun x => br (decide (x < 0)) (some (Ex.ret, laws_szTalkS_O5 x (-1))) (some (Ex.nrm, laws_szTalkS_S5 t0 x0 x x4 (IntKind.i64.wrap (x5 + 1))))) (some (Ex.ext 0, laws_szTalkS_O5 x1 x4)) : Option (Ex × St)) := by kernel_rfl

theorem spec_l1Digits_round5 (n : Nat) (x0 : Int) (x3 : Bool) (x4 : ByteArray) : roundK Tryd.prog cfg RN n 5 62 5 0 (spec_l1Digits_S5 x0 x3 x4) = (br (x0 != 0) (qb (ne0 10) fun y => br (decide (x0.tmod 10 < 0)) (qb (u8of (IntKind.u8.wrap (IntKind.i64.wrap (48 + IntKind.i64.wrap (0 - x0.tmod 10))))) fun y => qb (catOk (ByteArray.mk #[y]) x4) fun y_1 => qb (ne0 10) fun y_2 => some (Ex.nrm, spec_l1Digits_S5 (IntKind.i64.wrap (x0.tdiv 10)) x3 (ByteArray.mk #[y] ++ x4))) (qb (u8of (IntKind.u8.wrap (IntKind.i64.wrap (48 + x0.tmod 10)))) fun y => qb (catOk (ByteArray.mk #[y]) x4) fun y_1 => qb (ne0 10) fun y_2 => some (Ex.nrm, spec_l1Digits_S5 (IntKind.i64.wrap (x0.tdiv 10)) x3 (ByteArray.mk #[y] ++ x4)))) (some (Ex.ext 0, spec_l1Digits_O5 x3 x4)) : Option (Ex × St)) := by kernel_rfl

theorem laws_toTermS_round3 (n : Nat) (t0 : Bool) (x0 : List Term) (x3 : List Term) (x4 : Int) : roundK Tryd.prog cfg RN n 5 65 3 0 (laws_toTermS_S3 t0 x0 x3 x4) = (br (decide (x4 < (↑x0.length : Int))) (qb (idx x0 x4) fun y => qb (laws_toTerm_T y) fun x => qb (idx x3 x4) fun y => qb x3[x4.toNat]? fun x_1 => some (Ex.nrm, laws_toTermS_S3 t0 x0 (x3.set x4.toNat (Term.mk x.op x.n x.s x.kids)) (IntKind.i64.wrap (x4 + 1)))) (some (Ex.ext 0, laws_toTermS_O3 x3)) : Option (Ex × St)) := by kernel_rfl

theorem laws_toPolicyS_round3 (n : Nat) (t0 : Bool) (x0 : List Policy) (x3 : List Policy) (x4 : Int) : roundK Tryd.prog cfg RN n 5 66 3 0 (laws_toPolicyS_S3 t0 x0 x3 x4) = (br (decide (x4 < (↑x0.length : Int))) (qb (idx x0 x4) fun y => qb (laws_toPolicy_T y) fun x => qb (idx x3 x4) fun y => qb x3[x4.toNat]? fun x_1 => some (Ex.nrm, laws_toPolicyS_S3 t0 x0 (x3.set x4.toNat x) (IntKind.i64.wrap (x4 + 1)))) (some (Ex.ext 0, laws_toPolicyS_O3 x3)) : Option (Ex × St)) := by kernel_rfl

theorem laws_toHostS_round3 (n : Nat) (t0 : Bool) (x0 : List Host) (x3 : List Host) (x4 : Int) : roundK Tryd.prog cfg RN n 5 67 3 0 (laws_toHostS_S3 t0 x0 x3 x4) = (br (decide (x4 < (↑x0.length : Int))) (qb (idx x0 x4) fun y => qb (laws_toHost_T y) fun x => qb (idx x3 x4) fun y => qb x3[x4.toNat]? fun x_1 => some (Ex.nrm, laws_toHostS_S3 t0 x0 (x3.set x4.toNat x) (IntKind.i64.wrap (x4 + 1)))) (some (Ex.ext 0, laws_toHostS_O3 x3)) : Option (Ex × St)) := by kernel_rfl

theorem laws_toLetterS_round3 (n : Nat) (t0 : Bool) (x0 : List Letter) (x3 : List Letter) (x4 : Int) : roundK Tryd.prog cfg RN n 5 68 3 0 (laws_toLetterS_S3 t0 x0 x3 x4) = (br (decide (x4 < (↑x0.length : Int))) (qb (idx x0 x4) fun y => qb (laws_toLetter_T y) fun x => qb (idx x3 x4) fun y => qb x3[x4.toNat]? fun x_1 => some (Ex.nrm, laws_toLetterS_S3 t0 x0 (x3.set x4.toNat x) (IntKind.i64.wrap (x4 + 1)))) (some (Ex.ext 0, laws_toLetterS_O3 x3)) : Option (Ex × St)) := by kernel_rfl

theorem laws_toCallS_round3 (n : Nat) (t0 : Bool) (x0 : List CallD) (x3 : List CallD) (x4 : Int) : roundK Tryd.prog cfg RN n 5 69 3 0 (laws_toCallS_S3 t0 x0 x3 x4) = (br (decide (x4 < (↑x0.length : Int))) (qb (idx x0 x4) fun y => qb (laws_toCall_T y) fun x => qb (idx x3 x4) fun y => qb x3[x4.toNat]? fun x_1 => some (Ex.nrm, laws_toCallS_S3 t0 x0 (x3.set x4.toNat (CallD.mk x.letter (Client.mk x.client.step x.client.host x.client.must x.client.eph x.client.body (Term.mk x.client.share.op x.client.share.n x.client.share.s x.client.share.kids) x.client.inn x.client.out x.client.tls x.client.proved) x.good)) (IntKind.i64.wrap (x4 + 1)))) (some (Ex.ext 0, laws_toCallS_O3 x3)) : Option (Ex × St)) := by kernel_rfl

theorem laws_toTalkS_round3 (n : Nat) (t0 : Bool) (x0 : List Talk) (x3 : List Talk) (x4 : Int) : roundK Tryd.prog cfg RN n 5 70 3 0 (laws_toTalkS_S3 t0 x0 x3 x4) = (br (decide (x4 < (↑x0.length : Int))) (qb (idx x0 x4) fun y => qb (laws_toTalk_T y) fun x => qb (idx x3 x4) fun y => qb x3[x4.toNat]? fun x_1 => some (Ex.nrm, laws_toTalkS_S3 t0 x0 (x3.set x4.toNat (Talk.mk x.host (Server.mk x.server.step x.server.host x.server.key x.server.eph (Term.mk x.server.cert.op x.server.cert.n x.server.cert.s x.server.cert.kids) (Term.mk x.server.share.op x.server.share.n x.server.share.s x.server.share.kids) x.server.inn x.server.out x.server.tls x.server.got))) (IntKind.i64.wrap (x4 + 1)))) (some (Ex.ext 0, laws_toTalkS_O3 x3)) : Option (Ex × St)) := by kernel_rfl

theorem laws_eqTermS_round4 (n : Nat) (t0 : Bool) (x0 : List Term) (t1 : Bool) (x1 : List Term) (x4 : Bool) (x5 : Int) : roundK Tryd.prog cfg RN n 5 74 4 0 (laws_eqTermS_S4 t0 x0 t1 x1 x4 x5) = (br (decide (x5 < (↑x0.length : Int))) (qb (idx x0 x5) fun y => qb (idx x1 x5) fun y_1 => qb (laws_eqTerm_T y y_1) fun x => br (!x) (some (Ex.ret, laws_eqTermS_O4 false)) (some (Ex.nrm, laws_eqTermS_S4 t0 x0 t1 x1 x4 (IntKind.i64.wrap (x5 + 1))))) (some (Ex.ext 0, laws_eqTermS_O4 x4)) : Option (Ex × St)) := by kernel_rfl

theorem laws_eqPolicyS_round4 (n : Nat) (t0 : Bool) (x0 : List Policy) (t1 : Bool) (x1 : List Policy) (x4 : Bool) (x5 : Int) : roundK Tryd.prog cfg RN n 5 75 4 0 (laws_eqPolicyS_S4 t0 x0 t1 x1 x4 x5) = (br (decide (x5 < (↑x0.length : Int))) (qb (idx x0 x5) fun y => qb (idx x1 x5) fun y_1 => qb (laws_eqPolicy_T y y_1) fun x => br (!x) (some (Ex.ret, laws_eqPolicyS_O4 false)) (some (Ex.nrm, laws_eqPolicyS_S4 t0 x0 t1 x1 x4 (IntKind.i64.wrap (x5 + 1))))) (some (Ex.ext 0, laws_eqPolicyS_O4 x4)) : Option (Ex × St)) := by kernel_rfl

theorem laws_eqHostS_round4 (n : Nat) (t0 : Bool) (x0 : List Host) (t1 : Bool) (x1 : List Host) (x4 : Bool) (x5 : Int) : roundK Tryd.prog cfg RN n 5 76 4 0 (laws_eqHostS_S4 t0 x0 t1 x1 x4 x5) = (br (decide (x5 < (↑x0.length : Int))) (qb (idx x0 x5) fun y => qb (idx x1 x5) fun y_1 => qb (laws_eqHost_T y y_1) fun x => br (!x) (some (Ex.ret, laws_eqHostS_O4 false)) (some (Ex.nrm, laws_eqHostS_S4 t0 x0 t1 x1 x4 (IntKind.i64.wrap (x5 + 1))))) (some (Ex.ext 0, laws_eqHostS_O4 x4)) : Option (Ex × St)) := by kernel_rfl

theorem laws_eqLetterS_round4 (n : Nat) (t0 : Bool) (x0 : List Letter) (t1 : Bool) (x1 : List Letter) (x4 : Bool) (x5 : Int) : roundK Tryd.prog cfg RN n 5 77 4 0 (laws_eqLetterS_S4 t0 x0 t1 x1 x4 x5) = (br (decide (x5 < (↑x0.length : Int))) (qb (idx x0 x5) fun y => qb (idx x1 x5) fun y_1 => qb (laws_eqLetter_T y y_1) fun x => br (!x) (some (Ex.ret, laws_eqLetterS_O4 false)) (some (Ex.nrm, laws_eqLetterS_S4 t0 x0 t1 x1 x4 (IntKind.i64.wrap (x5 + 1))))) (some (Ex.ext 0, laws_eqLetterS_O4 x4)) : Option (Ex × St)) := by kernel_rfl

theorem laws_eqCallS_round4 (n : Nat) (t0 : Bool) (x0 : List CallD) (t1 : Bool) (x1 : List CallD) (x4 : Bool) (x5 : Int) : roundK Tryd.prog cfg RN n 5 78 4 0 (laws_eqCallS_S4 t0 x0 t1 x1 x4 x5) = (br (decide (x5 < (↑x0.length : Int))) (qb (idx x0 x5) fun y => qb (idx x1 x5) fun y_1 => qb (laws_eqCall_T y y_1) fun x => br (!x) (some (Ex.ret, laws_eqCallS_O4 false)) (some (Ex.nrm, laws_eqCallS_S4 t0 x0 t1 x1 x4 (IntKind.i64.wrap (x5 + 1))))) (some (Ex.ext 0, laws_eqCallS_O4 x4)) : Option (Ex × St)) := by kernel_rfl

theorem laws_eqTalkS_round4 (n : Nat) (t0 : Bool) (x0 : List Talk) (t1 : Bool) (x1 : List Talk) (x4 : Bool) (x5 : Int) : roundK Tryd.prog cfg RN n 5 79 4 0 (laws_eqTalkS_S4 t0 x0 t1 x1 x4 x5) = (br (decide (x5 < (↑x0.length : Int))) (qb (idx x0 x5) fun y => qb (idx x1 x5) fun y_1 => qb (laws_eqTalk_T y y_1) fun x => br (!x) (some (Ex.ret, laws_eqTalkS_O4 false)) (some (Ex.nrm, laws_eqTalkS_S4 t0 x0 t1 x1 x4 (IntKind.i64.wrap (x5 + 1))))) (some (Ex.ext 0, laws_eqTalkS_O4 x4)) : Option (Ex × St)) := by kernel_rfl

theorem laws_szStringS_round5 (n : Nat) (t0 : Bool) (x0 : List ByteArray) (x1 : Int) (x4 : Int) (x5 : Int) : roundK Tryd.prog cfg RN n 5 137 5 0 (laws_szStringS_S5 t0 x0 x1 x4 x5) = (br (decide (x5 < (↑x0.length : Int))) (qb (idx x0 x5) fun y => br (decide (IntKind.i64.wrap (x1 - (↑(ByteArray.size y) : Int)) < 0)) (some (Ex.ret, laws_szStringS_O5 (IntKind.i64.wrap (x1 - (↑(ByteArray.size y) : Int))) (-1))) (some (Ex.nrm, laws_szStringS_S5 t0 x0 (IntKind.i64.wrap (x1 - (↑(ByteArray.size y) : Int))) x4 (IntKind.i64.wrap (x5 + 1))))) (some (Ex.ext 0, laws_szStringS_O5 x1 x4)) : Option (Ex × St)) := by kernel_rfl

theorem laws_toStringS_round3 (n : Nat) (t0 : Bool) (x0 : List ByteArray) (x3 : List ByteArray) (x4 : Int) : roundK Tryd.prog cfg RN n 5 138 3 0 (laws_toStringS_S3 t0 x0 x3 x4) = (br (decide (x4 < (↑x0.length : Int))) (qb (idx x0 x4) fun y => qb (idx x3 x4) fun y_1 => qb x3[x4.toNat]? fun x => some (Ex.nrm, laws_toStringS_S3 t0 x0 (x3.set x4.toNat y) (IntKind.i64.wrap (x4 + 1)))) (some (Ex.ext 0, laws_toStringS_O3 x3)) : Option (Ex × St)) := by kernel_rfl

theorem laws_eqStringS_round4 (n : Nat) (t0 : Bool) (x0 : List ByteArray) (t1 : Bool) (x1 : List ByteArray) (x4 : Bool) (x5 : Int) : roundK Tryd.prog cfg RN n 5 143 4 0 (laws_eqStringS_S4 t0 x0 t1 x1 x4 x5) = (br (decide (x5 < (↑x0.length : Int))) (qb (idx x0 x5) fun y => qb (idx x1 x5) fun y_1 => br (!ByteArray.toList y == ByteArray.toList y_1) (some (Ex.ret, laws_eqStringS_O4 false)) (some (Ex.nrm, laws_eqStringS_S4 t0 x0 t1 x1 x4 (IntKind.i64.wrap (x5 + 1))))) (some (Ex.ext 0, laws_eqStringS_O4 x4)) : Option (Ex × St)) := by kernel_rfl


end Go.Proofs.YtepghohkfnmhmaaDoor
