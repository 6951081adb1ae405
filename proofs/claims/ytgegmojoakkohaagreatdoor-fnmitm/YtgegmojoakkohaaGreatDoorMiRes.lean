/-
  What each function comes to, over what the others answer, as plain data.
-/
import Derived.Test.YtgegmojoakkohaaGreatDoorMiResD
namespace Go.Proofs.YtgegmojoakkohaaGreatDoor
open Go.Vm
set_option linter.unusedVariables false

noncomputable def laws_FnMitm_R (n : Nat) (a0 : List UInt8) : Option (V × List Vm.Obj × List Vm.Obj) := qb (laws_big_T a0) fun x => br x (some (V.c (C.f (F.sc (Value.bool true))), [], [])) (qb (impl_ClientNew_T (ByteArray.mk #[109, 120, 46, 97]) true 20 30) fun x => qb (spec_ClientNew_T (ByteArray.mk #[109, 120, 46, 97]) true 20 30) fun x_1 => br (!x.snd.fst == x_1.snd.fst) (some (V.c (C.f (F.sc (Value.bool false))), [], [])) (br (!x.snd.fst) (some (V.c (C.f (F.sc (Value.bool false))), [], [])) (qb (laws_FnMitm_L9 n n false a0 true [ByteArray.mk #[50, 50, 48], ByteArray.mk #[50, 53, 48, 32, 115, 116, 97, 114, 116, 116, 108, 115], ByteArray.mk #[50, 50, 48]] 0 x.fst) fun x => br (isRetE x.fst) (some (V.c C.hole, [], [])) (br (isExt 0 x.fst) (qb (laws_at_T x.snd.fst.fst 0) fun x_2 => qb (ne0 2) fun y => qb (laws_at_T x.snd.fst.fst 1) fun x_3 => qb (ne0 2) fun y => qb (idx [ByteArray.mk #[109, 120, 46, 97], ByteArray.mk #[101, 118, 105, 108, 46, 101]] (Int.tmod x_3 2)) fun y => qb (laws_at_T x.snd.fst.fst 1) fun x_4 => qb (ne0 2) fun y_1 => qb (impl_Atom_T (IntKind.i64.wrap (10 + IntKind.i64.wrap (491 * Int.tmod x_4 2)))) fun x_5 => qb (impl_Pub_T x_5) fun x_6 => qb (impl_CertTerm_T (Cert.mk y x_6 100000)) fun x_7 => qb (impl_Atom_T 500) fun x_8 => qb (impl_Atom_T 20) fun x_9 => qb (impl_Pub_T x_9) fun x_10 => qb (impl_Atom_T (IntKind.i64.wrap (500 + Int.tmod x_2 2))) fun x_11 => qb (impl_Reply_T x_8 x_10 x_11 x_7) fun x_12 => br (!x_12.snd.fst) (some (V.c (C.f (F.sc (Value.bool false))), [], [])) (br (x.snd.snd.fst.step != 4) (some (V.c (C.f (F.sc (Value.bool false))), [], [])) (qb (impl_ClientHear_T x.snd.snd.fst x_12.fst 0) fun x => br (x.fst.step == 10) (br ((↑(List.length x.snd.fst) : Int) == 0) (some (V.c (C.f (F.sc (Value.bool !x.fst.tls))), [], [])) (some (V.c (C.f (F.sc (Value.bool false))), [], []))) (some (V.c (C.f (F.sc (Value.bool false))), [], []))))) none))))

theorem laws_FnMitm_res (n : Nat) (a0 : List UInt8) : resid Tryz.prog cfg RN n 3 [.sl false .byte a0] [] = laws_FnMitm_R n a0 := by kernel_rfl

noncomputable def laws_big_R (n : Nat) (a0 : List UInt8) : Option Bool := some (decide ((↑a0.length : Int) > 1048576))

theorem laws_big_res (n : Nat) (a0 : List UInt8) : residT Tryz.prog cfg RN n 7 [.sl false .byte a0] (.bool) = laws_big_R n a0 := by kernel_rfl

theorem laws_big_of (n : Nat) (a0 : List UInt8) {y} (h : laws_big_R n a0 = some y) : laws_big_T a0 = some y := presT_of (((laws_big_res n a0)).trans h)

noncomputable def impl_ClientNew_R (n : Nat) (a0 : ByteArray) (a1 : Bool) (a2 : Int) (a3 : Int) : Option (Client × Bool × Unit) := qb (impl_ClientOk_T (Client.mk 1 a0 a1 a2 a3 (Term.mk 0 0 (ByteArray.mk #[]) []) 0 0 false false)) fun x => br (!x) (some (Client.mk 0 (ByteArray.mk #[]) false 0 0 (Term.mk 0 0 (ByteArray.mk #[]) []) 0 0 false false, false, PUnit.unit)) (some (Client.mk 1 a0 a1 a2 a3 (Term.mk 0 0 (ByteArray.mk #[]) []) 0 0 false false, true, PUnit.unit))

theorem impl_ClientNew_res (n : Nat) (a0 : ByteArray) (a1 : Bool) (a2 : Int) (a3 : Int) : residT Tryz.prog cfg RN n 8 [.str a0, .bool a1, .int a2, .int a3] (.tup [.client, .bool]) = impl_ClientNew_R n a0 a1 a2 a3 := by kernel_rfl

theorem impl_ClientNew_of (n : Nat) (a0 : ByteArray) (a1 : Bool) (a2 : Int) (a3 : Int) {y} (h : impl_ClientNew_R n a0 a1 a2 a3 = some y) : impl_ClientNew_T a0 a1 a2 a3 = some y := presT_of (((impl_ClientNew_res n a0 a1 a2 a3)).trans h)

noncomputable def spec_ClientNew_R (n : Nat) (a0 : ByteArray) (a1 : Bool) (a2 : Int) (a3 : Int) : Option (Client × Bool × Unit) := qb (spec_ClientOk_T (Client.mk 1 a0 a1 a2 a3 (Term.mk 0 0 (ByteArray.mk #[]) []) 0 0 false false)) fun x => br (!x) (some (Client.mk 0 (ByteArray.mk #[]) false 0 0 (Term.mk 0 0 (ByteArray.mk #[]) []) 0 0 false false, false, PUnit.unit)) (some (Client.mk 1 a0 a1 a2 a3 (Term.mk 0 0 (ByteArray.mk #[]) []) 0 0 false false, true, PUnit.unit))

theorem spec_ClientNew_res (n : Nat) (a0 : ByteArray) (a1 : Bool) (a2 : Int) (a3 : Int) : residT Tryz.prog cfg RN n 9 [.str a0, .bool a1, .int a2, .int a3] (.tup [.client, .bool]) = spec_ClientNew_R n a0 a1 a2 a3 := by kernel_rfl

theorem spec_ClientNew_of (n : Nat) (a0 : ByteArray) (a1 : Bool) (a2 : Int) (a3 : Int) {y} (h : spec_ClientNew_R n a0 a1 a2 a3 = some y) : spec_ClientNew_T a0 a1 a2 a3 = some y := presT_of (((spec_ClientNew_res n a0 a1 a2 a3)).trans h)

noncomputable def impl_ClientHear_R (n : Nat) (a0 : Client) (a1 : Term) (a2 : Int) : Option (Client × List Term × Unit) := qb (impl_ClientOk_T a0) fun x => br (!x) (qb (impl_cloneClient_T a0) fun x => some (Client.mk x.step x.host x.must x.eph x.body (Term.mk x.share.op x.share.n x.share.s x.share.kids) x.inn x.out x.tls x.proved, [], PUnit.unit)) (qb (impl_TermOk_T a1) fun x => br (!x) (qb (impl_cloneClient_T a0) fun x => some (Client.mk x.step x.host x.must x.eph x.body (Term.mk x.share.op x.share.n x.share.s x.share.kids) x.inn x.out x.tls x.proved, [], PUnit.unit)) (br (a0.step == 9) (qb (impl_cloneClient_T a0) fun x => some (Client.mk x.step x.host x.must x.eph x.body (Term.mk x.share.op x.share.n x.share.s x.share.kids) x.inn x.out x.tls x.proved, [], PUnit.unit)) (br (a0.step == 10) (qb (impl_cloneClient_T a0) fun x => some (Client.mk x.step x.host x.must x.eph x.body (Term.mk x.share.op x.share.n x.share.s x.share.kids) x.inn x.out x.tls x.proved, [], PUnit.unit)) (br (a0.step == 4) (qb (impl_heardReply_T a0 a1 a2) fun x => some (Client.mk x.fst.step x.fst.host x.fst.must x.fst.eph x.fst.body (Term.mk x.fst.share.op x.fst.share.n x.fst.share.s x.fst.share.kids) x.fst.inn x.fst.out x.fst.tls x.fst.proved, x.snd.fst, PUnit.unit)) (qb (impl_ClientLine_T a0 a1) fun x => br (!x.snd.fst) (qb (impl_failed_T a0) fun x => some (Client.mk x.fst.step x.fst.host x.fst.must x.fst.eph x.fst.body (Term.mk x.fst.share.op x.fst.share.n x.fst.share.s x.fst.share.kids) x.fst.inn x.fst.out x.fst.tls x.fst.proved, x.snd.fst, PUnit.unit)) (qb (impl_heardLine_T a0 x.fst) fun x => some (Client.mk x.fst.step x.fst.host x.fst.must x.fst.eph x.fst.body (Term.mk x.fst.share.op x.fst.share.n x.fst.share.s x.fst.share.kids) x.fst.inn x.fst.out x.fst.tls x.fst.proved, x.snd.fst, PUnit.unit)))))))

theorem impl_ClientHear_res (n : Nat) (a0 : Client) (a1 : Term) (a2 : Int) : residT Tryz.prog cfg RN n 10 [.ag (Client.cells a0), .ag (Term.cells a1), .int a2] (.tup [.client, .sl .term]) = impl_ClientHear_R n a0 a1 a2 := by kernel_rfl

theorem impl_ClientHear_of (n : Nat) (a0 : Client) (a1 : Term) (a2 : Int) {y} (h : impl_ClientHear_R n a0 a1 a2 = some y) : impl_ClientHear_T a0 a1 a2 = some y := presT_of (((impl_ClientHear_res n a0 a1 a2)).trans h)

noncomputable def laws_line_R (n : Nat) (a0 : ByteArray) : Option Term := some (Term.mk 2 0 a0 [])

theorem laws_line_res (n : Nat) (a0 : ByteArray) : residT Tryz.prog cfg RN n 11 [.str a0] (.el .term) = laws_line_R n a0 := by kernel_rfl

theorem laws_line_of (n : Nat) (a0 : ByteArray) {y} (h : laws_line_R n a0 = some y) : laws_line_T a0 = some y := presT_of (((laws_line_res n a0)).trans h)

noncomputable def laws_at_R (n : Nat) (a0 : List UInt8) (a1 : Int) : Option Int := br (decide (a1 < (↑a0.length : Int))) (qb (idx a0 a1) fun y => some (IntKind.i64.wrap (↑(UInt8.toNat y) : Int))) (qb (ne0 256) fun y => some ((IntKind.i64.wrap (IntKind.i64.wrap (a1 * 7) + (↑a0.length : Int))).tmod 256))

theorem laws_at_res (n : Nat) (a0 : List UInt8) (a1 : Int) : residT Tryz.prog cfg RN n 12 [.sl false .byte a0, .int a1] (.int) = laws_at_R n a0 a1 := by kernel_rfl

theorem laws_at_of (n : Nat) (a0 : List UInt8) (a1 : Int) {y} (h : laws_at_R n a0 a1 = some y) : laws_at_T a0 a1 = some y := presT_of (((laws_at_res n a0 a1)).trans h)

noncomputable def impl_CertTerm_R (n : Nat) (a0 : Cert) : Option Term := qb (impl_CertOk_T a0) fun x => br (!x) (some (Term.mk 0 0 (ByteArray.mk #[]) [])) (qb (impl_Atom_T 1) fun x => qb (impl_text_T a0.host) fun x_1 => qb (impl_digits_T a0.til) fun x_2 => qb (impl_Pair_T a0.pub x_2) fun x_3 => qb (impl_Pair_T x_1 x_3) fun x_4 => qb (impl_Sign_T x x_4) fun x => some (Term.mk x.op x.n x.s x.kids))

theorem impl_CertTerm_res (n : Nat) (a0 : Cert) : residT Tryz.prog cfg RN n 13 [.ag (Cert.cells a0)] (.el .term) = impl_CertTerm_R n a0 := by kernel_rfl

theorem impl_CertTerm_of (n : Nat) (a0 : Cert) {y} (h : impl_CertTerm_R n a0 = some y) : impl_CertTerm_T a0 = some y := presT_of (((impl_CertTerm_res n a0)).trans h)

noncomputable def impl_Pub_R (n : Nat) (a0 : Term) : Option Term := qb (impl_right_T (Term.mk 4 0 (ByteArray.mk #[]) [Term.mk a0.op a0.n a0.s a0.kids])) fun x => some (Term.mk x.op x.n x.s x.kids)

theorem impl_Pub_res (n : Nat) (a0 : Term) : residT Tryz.prog cfg RN n 14 [.ag (Term.cells a0)] (.el .term) = impl_Pub_R n a0 := by kernel_rfl

theorem impl_Pub_of (n : Nat) (a0 : Term) {y} (h : impl_Pub_R n a0 = some y) : impl_Pub_T a0 = some y := presT_of (((impl_Pub_res n a0)).trans h)

noncomputable def impl_Atom_R (n : Nat) (a0 : Int) : Option Term := qb (impl_right_T (Term.mk 1 a0 (ByteArray.mk #[]) [])) fun x => some (Term.mk x.op x.n x.s x.kids)

theorem impl_Atom_res (n : Nat) (a0 : Int) : residT Tryz.prog cfg RN n 15 [.int a0] (.el .term) = impl_Atom_R n a0 := by kernel_rfl

theorem impl_Atom_of (n : Nat) (a0 : Int) {y} (h : impl_Atom_R n a0 = some y) : impl_Atom_T a0 = some y := presT_of (((impl_Atom_res n a0)).trans h)

noncomputable def impl_Reply_R (n : Nat) (a0 : Term) (a1 : Term) (a2 : Term) (a3 : Term) : Option (Term × Bool × Unit) := qb (impl_Agree_T a0 a1) fun x => qb (impl_Pub_T a0) fun x_1 => qb (impl_Both_T a1 x_1) fun x_2 => qb (impl_Sign_T a2 x_2) fun x_3 => qb (impl_Pair_T a3 x_3) fun x_4 => qb (impl_text_T (ByteArray.mk #[114, 101, 112, 108, 121])) fun x_5 => qb (impl_KeyOf_T x.fst 0) fun x_6 => qb (impl_Seal_T x_6 0 x_4) fun x_7 => qb (impl_Pair_T x_1 x_7) fun x_8 => qb (impl_Pair_T x_5 x_8) fun x_9 => br (!x.snd.fst) (some (Term.mk 0 0 (ByteArray.mk #[]) [], false, PUnit.unit)) (br (x_9.op != 3) (some (Term.mk 0 0 (ByteArray.mk #[]) [], false, PUnit.unit)) (some (Term.mk x_9.op x_9.n x_9.s x_9.kids, true, PUnit.unit)))

theorem impl_Reply_res (n : Nat) (a0 : Term) (a1 : Term) (a2 : Term) (a3 : Term) : residT Tryz.prog cfg RN n 16 [.ag (Term.cells a0), .ag (Term.cells a1), .ag (Term.cells a2), .ag (Term.cells a3)] (.tup [.el .term, .bool]) = impl_Reply_R n a0 a1 a2 a3 := by kernel_rfl

theorem impl_Reply_of (n : Nat) (a0 : Term) (a1 : Term) (a2 : Term) (a3 : Term) {y} (h : impl_Reply_R n a0 a1 a2 a3 = some y) : impl_Reply_T a0 a1 a2 a3 = some y := presT_of (((impl_Reply_res n a0 a1 a2 a3)).trans h)

noncomputable def impl_ReplyOf_R (n : Nat) (a0 : Term) (a1 : Term) : Option (Term × Term × Term × Term × Bool × Unit) := qb (impl_twoOf_T a1) fun x => qb (impl_twoOf_T x.snd.fst) fun x_1 => qb (impl_Agree_T a0 x_1.fst) fun x_2 => qb (impl_KeyOf_T x_2.fst 0) fun x_3 => qb (impl_Open_T x_3 0 x_1.snd.fst) fun x_4 => qb (impl_twoOf_T x_4.fst) fun x_5 => br (!x.snd.snd.fst) (some (Term.mk 0 0 (ByteArray.mk #[]) [], Term.mk 0 0 (ByteArray.mk #[]) [], Term.mk 0 0 (ByteArray.mk #[]) [], Term.mk 0 0 (ByteArray.mk #[]) [], false, PUnit.unit)) (br (!x_1.snd.snd.fst) (some (Term.mk 0 0 (ByteArray.mk #[]) [], Term.mk 0 0 (ByteArray.mk #[]) [], Term.mk 0 0 (ByteArray.mk #[]) [], Term.mk 0 0 (ByteArray.mk #[]) [], false, PUnit.unit)) (br (!x_2.snd.fst) (some (Term.mk 0 0 (ByteArray.mk #[]) [], Term.mk 0 0 (ByteArray.mk #[]) [], Term.mk 0 0 (ByteArray.mk #[]) [], Term.mk 0 0 (ByteArray.mk #[]) [], false, PUnit.unit)) (br (!x_4.snd.fst) (some (Term.mk 0 0 (ByteArray.mk #[]) [], Term.mk 0 0 (ByteArray.mk #[]) [], Term.mk 0 0 (ByteArray.mk #[]) [], Term.mk 0 0 (ByteArray.mk #[]) [], false, PUnit.unit)) (br (!x_5.snd.snd.fst) (some (Term.mk 0 0 (ByteArray.mk #[]) [], Term.mk 0 0 (ByteArray.mk #[]) [], Term.mk 0 0 (ByteArray.mk #[]) [], Term.mk 0 0 (ByteArray.mk #[]) [], false, PUnit.unit)) (qb (impl_TermOk_T a1) fun x_6 => br (!x_6) (some (Term.mk 0 0 (ByteArray.mk #[]) [], Term.mk 0 0 (ByteArray.mk #[]) [], Term.mk 0 0 (ByteArray.mk #[]) [], Term.mk 0 0 (ByteArray.mk #[]) [], false, PUnit.unit)) (qb (impl_text_T (ByteArray.mk #[114, 101, 112, 108, 121])) fun x_7 => qb (impl_Same_T x.fst x_7) fun x => br (!x) (some (Term.mk 0 0 (ByteArray.mk #[]) [], Term.mk 0 0 (ByteArray.mk #[]) [], Term.mk 0 0 (ByteArray.mk #[]) [], Term.mk 0 0 (ByteArray.mk #[]) [], false, PUnit.unit)) (qb (impl_clone_T x_1.fst) fun x => qb (impl_clone_T x_5.fst) fun x_8 => qb (impl_clone_T x_5.snd.fst) fun x_9 => some (Term.mk x.op x.n x.s x.kids, Term.mk x_2.fst.op x_2.fst.n x_2.fst.s x_2.fst.kids, Term.mk x_8.op x_8.n x_8.s x_8.kids, Term.mk x_9.op x_9.n x_9.s x_9.kids, true, PUnit.unit))))))))

theorem impl_ReplyOf_res (n : Nat) (a0 : Term) (a1 : Term) : residT Tryz.prog cfg RN n 20 [.ag (Term.cells a0), .ag (Term.cells a1)] (.tup [.el .term, .el .term, .el .term, .el .term, .bool]) = impl_ReplyOf_R n a0 a1 := by kernel_rfl

theorem impl_ReplyOf_of (n : Nat) (a0 : Term) (a1 : Term) {y} (h : impl_ReplyOf_R n a0 a1 = some y) : impl_ReplyOf_T a0 a1 = some y := presT_of (((impl_ReplyOf_res n a0 a1)).trans h)

noncomputable def impl_Same_R (n : Nat) (a0 : Term) (a1 : Term) : Option Bool := br (a0.op == a1.op) (br (a0.n == a1.n) (br (a0.s.toList == a1.s.toList) (qb (slices_EqualFunc_impl_Term_impl_Term_impl_Term_impl_Term_T a0.kids a1.kids (V.c (C.fn 22 []))) fun x => some x) (some false)) (some false)) (some false)

theorem impl_Same_res (n : Nat) (a0 : Term) (a1 : Term) : residT Tryz.prog cfg RN n 22 [.ag (Term.cells a0), .ag (Term.cells a1)] (.bool) = impl_Same_R n a0 a1 := by kernel_rfl

theorem impl_Same_of (n : Nat) (a0 : Term) (a1 : Term) {y} (h : impl_Same_R n a0 a1 = some y) : impl_Same_T a0 a1 = some y := presT_of (((impl_Same_res n a0 a1)).trans h)

noncomputable def impl_Proved_R (n : Nat) (a0 : Term) (a1 : Term) (a2 : Term) (a3 : Term) (a4 : ByteArray) (a5 : Int) : Option Bool := qb (impl_CertGood_T a2 a4 a5) fun x => qb (impl_Signed_T x.fst a3) fun x_1 => qb (impl_Pub_T a0) fun x_2 => qb (impl_Both_T x_2 a1) fun x_3 => br x.snd.fst (br x_1.snd.fst (br (x_3.op == 6) (qb (impl_Same_T x_1.fst x_3) fun x => some x) (some false)) (some false)) (some false)

theorem impl_Proved_res (n : Nat) (a0 : Term) (a1 : Term) (a2 : Term) (a3 : Term) (a4 : ByteArray) (a5 : Int) : residT Tryz.prog cfg RN n 30 [.ag (Term.cells a0), .ag (Term.cells a1), .ag (Term.cells a2), .ag (Term.cells a3), .str a4, .int a5] (.bool) = impl_Proved_R n a0 a1 a2 a3 a4 a5 := by kernel_rfl

theorem impl_Proved_of (n : Nat) (a0 : Term) (a1 : Term) (a2 : Term) (a3 : Term) (a4 : ByteArray) (a5 : Int) {y} (h : impl_Proved_R n a0 a1 a2 a3 a4 a5 = some y) : impl_Proved_T a0 a1 a2 a3 a4 a5 = some y := presT_of (((impl_Proved_res n a0 a1 a2 a3 a4 a5)).trans h)

noncomputable def impl_Hello_R (n : Nat) (a0 : Term) : Option Term := qb (impl_text_T (ByteArray.mk #[104, 101, 108, 108, 111])) fun x => qb (impl_Pub_T a0) fun x_1 => qb (impl_Pair_T x x_1) fun x => some (Term.mk x.op x.n x.s x.kids)

theorem impl_Hello_res (n : Nat) (a0 : Term) : residT Tryz.prog cfg RN n 32 [.ag (Term.cells a0)] (.el .term) = impl_Hello_R n a0 := by kernel_rfl

theorem impl_Hello_of (n : Nat) (a0 : Term) {y} (h : impl_Hello_R n a0 = some y) : impl_Hello_T a0 = some y := presT_of (((impl_Hello_res n a0)).trans h)

noncomputable def impl_Done_R (n : Nat) (a0 : Term) : Option Term := qb (impl_KeyOf_T a0 1) fun x => qb (impl_text_T (ByteArray.mk #[100, 111, 110, 101])) fun x_1 => qb (impl_Seal_T x 0 x_1) fun x => some (Term.mk x.op x.n x.s x.kids)

theorem impl_Done_res (n : Nat) (a0 : Term) : residT Tryz.prog cfg RN n 34 [.ag (Term.cells a0)] (.el .term) = impl_Done_R n a0 := by kernel_rfl

theorem impl_Done_of (n : Nat) (a0 : Term) {y} (h : impl_Done_R n a0 = some y) : impl_Done_T a0 = some y := presT_of (((impl_Done_res n a0)).trans h)

noncomputable def impl_Both_R (n : Nat) (a0 : Term) (a1 : Term) : Option Term := qb (impl_Pair_T a0 a1) fun x => qb (impl_Hash_T x) fun x => some (Term.mk x.op x.n x.s x.kids)

theorem impl_Both_res (n : Nat) (a0 : Term) (a1 : Term) : residT Tryz.prog cfg RN n 36 [.ag (Term.cells a0), .ag (Term.cells a1)] (.el .term) = impl_Both_R n a0 a1 := by kernel_rfl

theorem impl_Both_of (n : Nat) (a0 : Term) (a1 : Term) {y} (h : impl_Both_R n a0 a1 = some y) : impl_Both_T a0 a1 = some y := presT_of (((impl_Both_res n a0 a1)).trans h)

noncomputable def impl_CertGood_R (n : Nat) (a0 : Term) (a1 : ByteArray) (a2 : Int) : Option (Term × Bool × Unit) := qb (impl_CertOf_T a0) fun x => br (!x.snd.fst) (some (Term.mk 0 0 (ByteArray.mk #[]) [], false, PUnit.unit)) (br (!x.fst.host.toList == a1.toList) (some (Term.mk 0 0 (ByteArray.mk #[]) [], false, PUnit.unit)) (br (decide (x.fst.til < a2)) (some (Term.mk 0 0 (ByteArray.mk #[]) [], false, PUnit.unit)) (some (Term.mk x.fst.pub.op x.fst.pub.n x.fst.pub.s x.fst.pub.kids, true, PUnit.unit))))

theorem impl_CertGood_res (n : Nat) (a0 : Term) (a1 : ByteArray) (a2 : Int) : residT Tryz.prog cfg RN n 38 [.ag (Term.cells a0), .str a1, .int a2] (.tup [.el .term, .bool]) = impl_CertGood_R n a0 a1 a2 := by kernel_rfl

theorem impl_CertGood_of (n : Nat) (a0 : Term) (a1 : ByteArray) (a2 : Int) {y} (h : impl_CertGood_R n a0 a1 a2 = some y) : impl_CertGood_T a0 a1 a2 = some y := presT_of (((impl_CertGood_res n a0 a1 a2)).trans h)

noncomputable def impl_TermOk_R (n : Nat) (a0 : Term) : Option Bool := qb (impl_TermSize_T a0) fun x => br (decide (x ≤ 200)) (qb (impl_formOk_T a0) fun x => some x) (some false)

theorem impl_TermOk_res (n : Nat) (a0 : Term) : residT Tryz.prog cfg RN n 39 [.ag (Term.cells a0)] (.bool) = impl_TermOk_R n a0 := by kernel_rfl

theorem impl_TermOk_of (n : Nat) (a0 : Term) {y} (h : impl_TermOk_R n a0 = some y) : impl_TermOk_T a0 = some y := presT_of (((impl_TermOk_res n a0)).trans h)

noncomputable def impl_Agree_R (n : Nat) (a0 : Term) (a1 : Term) : Option (Term × Bool × Unit) := br (a1.op != 4) (some (Term.mk 0 0 (ByteArray.mk #[]) [], false, PUnit.unit)) (qb (impl_TermOk_T a1) fun x => br (!x) (some (Term.mk 0 0 (ByteArray.mk #[]) [], false, PUnit.unit)) (qb (idx a1.kids 0) fun y => qb (impl_Before_T y a0) fun x => br x (qb (impl_right_T (Term.mk 5 0 (ByteArray.mk #[]) [Term.mk y.op y.n y.s y.kids, Term.mk a0.op a0.n a0.s a0.kids])) fun x => some (Term.mk x.op x.n x.s x.kids, x.op == 5, PUnit.unit)) (qb (impl_right_T (Term.mk 5 0 (ByteArray.mk #[]) [Term.mk a0.op a0.n a0.s a0.kids, Term.mk y.op y.n y.s y.kids])) fun x => some (Term.mk x.op x.n x.s x.kids, x.op == 5, PUnit.unit))))

theorem impl_Agree_res (n : Nat) (a0 : Term) (a1 : Term) : residT Tryz.prog cfg RN n 40 [.ag (Term.cells a0), .ag (Term.cells a1)] (.tup [.el .term, .bool]) = impl_Agree_R n a0 a1 := by kernel_rfl

theorem impl_Agree_of (n : Nat) (a0 : Term) (a1 : Term) {y} (h : impl_Agree_R n a0 a1 = some y) : impl_Agree_T a0 a1 = some y := presT_of (((impl_Agree_res n a0 a1)).trans h)

noncomputable def impl_Sign_R (n : Nat) (a0 : Term) (a1 : Term) : Option Term := qb (impl_right_T (Term.mk 8 0 (ByteArray.mk #[]) [Term.mk a0.op a0.n a0.s a0.kids, Term.mk a1.op a1.n a1.s a1.kids])) fun x => some (Term.mk x.op x.n x.s x.kids)

theorem impl_Sign_res (n : Nat) (a0 : Term) (a1 : Term) : residT Tryz.prog cfg RN n 41 [.ag (Term.cells a0), .ag (Term.cells a1)] (.el .term) = impl_Sign_R n a0 a1 := by kernel_rfl

theorem impl_Sign_of (n : Nat) (a0 : Term) (a1 : Term) {y} (h : impl_Sign_R n a0 a1 = some y) : impl_Sign_T a0 a1 = some y := presT_of (((impl_Sign_res n a0 a1)).trans h)

noncomputable def impl_ClientOk_R (n : Nat) (a0 : Client) : Option Bool := qb (impl_in_T a0.step 1 10) fun x => br (!x) (some false) (qb (impl_HostOk_T a0.host) fun x => br (!x) (some false) (qb (impl_isAtom_T a0.eph) fun x => br (!x) (some false) (qb (impl_isAtom_T a0.body) fun x => br (!x) (some false) (qb (impl_in_T a0.inn 0 100) fun x => br (!x) (some false) (qb (impl_in_T a0.out 0 100) fun x => br (!x) (some false) (br a0.tls (qb (impl_TermOk_T a0.share) fun x => br (!x) (some false) (br (!a0.tls) (qb (impl_noTerm_T a0.share) fun x => br (!x) (some false) (br a0.proved (some false) (br (!a0.must) (some true) (qb (impl_in_T a0.step 5 9) fun x => br (!x) (some true) (br a0.tls (some a0.proved) (some false)))))) (br (!a0.must) (some true) (qb (impl_in_T a0.step 5 9) fun x => br (!x) (some true) (br a0.tls (some a0.proved) (some false)))))) (br (!a0.tls) (qb (impl_noTerm_T a0.share) fun x => br (!x) (some false) (br a0.proved (some false) (br (!a0.must) (some true) (qb (impl_in_T a0.step 5 9) fun x => br (!x) (some true) (br a0.tls (some a0.proved) (some false)))))) (br (!a0.must) (some true) (qb (impl_in_T a0.step 5 9) fun x => br (!x) (some true) (br a0.tls (some a0.proved) (some false)))))))))))

theorem impl_ClientOk_res (n : Nat) (a0 : Client) : residT Tryz.prog cfg RN n 46 [.ag (Client.cells a0)] (.bool) = impl_ClientOk_R n a0 := by kernel_rfl

theorem impl_ClientOk_of (n : Nat) (a0 : Client) {y} (h : impl_ClientOk_R n a0 = some y) : impl_ClientOk_T a0 = some y := presT_of (((impl_ClientOk_res n a0)).trans h)

noncomputable def impl_Line_R (n : Nat) (a0 : Term) : Option (ByteArray × Bool × Unit) := br (a0.op != 2) (some (ByteArray.mk #[], false, PUnit.unit)) (some (a0.s, true, PUnit.unit))

theorem impl_Line_res (n : Nat) (a0 : Term) : residT Tryz.prog cfg RN n 47 [.ag (Term.cells a0)] (.tup [.str, .bool]) = impl_Line_R n a0 := by kernel_rfl

theorem impl_Line_of (n : Nat) (a0 : Term) {y} (h : impl_Line_R n a0 = some y) : impl_Line_T a0 = some y := presT_of (((impl_Line_res n a0)).trans h)

noncomputable def spec_ClientOk_R (n : Nat) (a0 : Client) : Option Bool := qb (spec_l1In_T a0.step 1 10) fun x => br (!x) (some false) (qb (spec_HostOk_T a0.host) fun x => br (!x) (some false) (qb (spec_l1In_T a0.eph 0 1000000) fun x => br (!x) (some false) (qb (spec_l1In_T a0.body 0 1000000) fun x => br (!x) (some false) (qb (spec_l1In_T a0.inn 0 100) fun x => br (!x) (some false) (qb (spec_l1In_T a0.out 0 100) fun x => br (!x) (some false) (qb (spec_Same_T a0.share (Term.mk 0 0 (ByteArray.mk #[]) [])) fun x => br a0.tls (qb (spec_TermOk_T a0.share) fun x_1 => br (!x_1) (some false) (br (!a0.tls) (br (!x) (some false) (br a0.proved (some false) (br (!a0.must) (some true) (qb (spec_l1In_T a0.step 5 9) fun x => br (!x) (some true) (br a0.tls (some a0.proved) (some false)))))) (br (!a0.must) (some true) (qb (spec_l1In_T a0.step 5 9) fun x => br (!x) (some true) (br a0.tls (some a0.proved) (some false)))))) (br (!a0.tls) (br (!x) (some false) (br a0.proved (some false) (br (!a0.must) (some true) (qb (spec_l1In_T a0.step 5 9) fun x => br (!x) (some true) (br a0.tls (some a0.proved) (some false)))))) (br (!a0.must) (some true) (qb (spec_l1In_T a0.step 5 9) fun x => br (!x) (some true) (br a0.tls (some a0.proved) (some false)))))))))))

theorem spec_ClientOk_res (n : Nat) (a0 : Client) : residT Tryz.prog cfg RN n 52 [.ag (Client.cells a0)] (.bool) = spec_ClientOk_R n a0 := by kernel_rfl

theorem spec_ClientOk_of (n : Nat) (a0 : Client) {y} (h : spec_ClientOk_R n a0 = some y) : spec_ClientOk_T a0 = some y := presT_of (((spec_ClientOk_res n a0)).trans h)

noncomputable def impl_cloneClient_R (n : Nat) (a0 : Client) : Option Client := qb (impl_clone_T a0.share) fun x => some (Client.mk a0.step a0.host a0.must a0.eph a0.body (Term.mk x.op x.n x.s x.kids) a0.inn a0.out a0.tls a0.proved)

theorem impl_cloneClient_res (n : Nat) (a0 : Client) : residT Tryz.prog cfg RN n 53 [.ag (Client.cells a0)] (.client) = impl_cloneClient_R n a0 := by kernel_rfl

theorem impl_cloneClient_of (n : Nat) (a0 : Client) {y} (h : impl_cloneClient_R n a0 = some y) : impl_cloneClient_T a0 = some y := presT_of (((impl_cloneClient_res n a0)).trans h)

noncomputable def impl_heardReply_R (n : Nat) (a0 : Client) (a1 : Term) (a2 : Int) : Option (Client × List Term × Unit) := qb (impl_Atom_T a0.eph) fun x => qb (impl_ReplyOf_T x a1) fun x_1 => br (!x_1.snd.snd.snd.snd.fst) (qb (impl_failed_T a0) fun x => some (Client.mk x.fst.step x.fst.host x.fst.must x.fst.eph x.fst.body (Term.mk x.fst.share.op x.fst.share.n x.fst.share.s x.fst.share.kids) x.fst.inn x.fst.out x.fst.tls x.fst.proved, x.snd.fst, PUnit.unit)) (qb (impl_Proved_T x x_1.fst x_1.snd.snd.fst x_1.snd.snd.snd.fst a0.host a2) fun x => br a0.must (br (!x) (qb (impl_failed_T a0) fun x => some (Client.mk x.fst.step x.fst.host x.fst.must x.fst.eph x.fst.body (Term.mk x.fst.share.op x.fst.share.n x.fst.share.s x.fst.share.kids) x.fst.inn x.fst.out x.fst.tls x.fst.proved, x.snd.fst, PUnit.unit)) (qb (impl_cloneClient_T a0) fun x_2 => qb (impl_text_T (ByteArray.mk #[109, 97, 105, 108])) fun x_3 => qb (impl_goes_T (Client.mk x_2.step x_2.host x_2.must x_2.eph x_2.body x_1.snd.fst x_2.inn 1 true x) x_3 5) fun x => qb (impl_Done_T x_1.snd.fst) fun x_4 => br (isNil x.snd.fst) (some (Client.mk x.fst.step x.fst.host x.fst.must x.fst.eph x.fst.body (Term.mk x.fst.share.op x.fst.share.n x.fst.share.s x.fst.share.kids) x.fst.inn x.fst.out x.fst.tls x.fst.proved, [Term.mk x_4.op x_4.n x_4.s x_4.kids], PUnit.unit)) (br (([Term.mk x_4.op x_4.n x_4.s x_4.kids].length + List.length x.snd.fst).ble appMax) (some (Client.mk x.fst.step x.fst.host x.fst.must x.fst.eph x.fst.body (Term.mk x.fst.share.op x.fst.share.n x.fst.share.s x.fst.share.kids) x.fst.inn x.fst.out x.fst.tls x.fst.proved, [Term.mk x_4.op x_4.n x_4.s x_4.kids] ++ x.snd.fst, PUnit.unit)) none))) (qb (impl_cloneClient_T a0) fun x_2 => qb (impl_text_T (ByteArray.mk #[109, 97, 105, 108])) fun x_3 => qb (impl_goes_T (Client.mk x_2.step x_2.host x_2.must x_2.eph x_2.body x_1.snd.fst x_2.inn 1 true x) x_3 5) fun x => qb (impl_Done_T x_1.snd.fst) fun x_4 => br (isNil x.snd.fst) (some (Client.mk x.fst.step x.fst.host x.fst.must x.fst.eph x.fst.body (Term.mk x.fst.share.op x.fst.share.n x.fst.share.s x.fst.share.kids) x.fst.inn x.fst.out x.fst.tls x.fst.proved, [Term.mk x_4.op x_4.n x_4.s x_4.kids], PUnit.unit)) (br (([Term.mk x_4.op x_4.n x_4.s x_4.kids].length + List.length x.snd.fst).ble appMax) (some (Client.mk x.fst.step x.fst.host x.fst.must x.fst.eph x.fst.body (Term.mk x.fst.share.op x.fst.share.n x.fst.share.s x.fst.share.kids) x.fst.inn x.fst.out x.fst.tls x.fst.proved, [Term.mk x_4.op x_4.n x_4.s x_4.kids] ++ x.snd.fst, PUnit.unit)) none)))

theorem impl_heardReply_res (n : Nat) (a0 : Client) (a1 : Term) (a2 : Int) : residT Tryz.prog cfg RN n 54 [.ag (Client.cells a0), .ag (Term.cells a1), .int a2] (.tup [.client, .sl .term]) = impl_heardReply_R n a0 a1 a2 := by kernel_rfl

theorem impl_heardReply_of (n : Nat) (a0 : Client) (a1 : Term) (a2 : Int) {y} (h : impl_heardReply_R n a0 a1 a2 = some y) : impl_heardReply_T a0 a1 a2 = some y := presT_of (((impl_heardReply_res n a0 a1 a2)).trans h)

noncomputable def impl_ClientLine_R (n : Nat) (a0 : Client) (a1 : Term) : Option (ByteArray × Bool × Unit) := br (!a0.tls) (qb (impl_Line_T a1) fun x => some (x.fst, x.snd.fst, PUnit.unit)) (qb (impl_KeyOf_T a0.share 2) fun x => qb (impl_Open_T x a0.inn a1) fun x => br (!x.snd.fst) (some (ByteArray.mk #[], false, PUnit.unit)) (qb (impl_Line_T x.fst) fun x => some (x.fst, x.snd.fst, PUnit.unit)))

theorem impl_ClientLine_res (n : Nat) (a0 : Client) (a1 : Term) : residT Tryz.prog cfg RN n 55 [.ag (Client.cells a0), .ag (Term.cells a1)] (.tup [.str, .bool]) = impl_ClientLine_R n a0 a1 := by kernel_rfl

theorem impl_ClientLine_of (n : Nat) (a0 : Client) (a1 : Term) {y} (h : impl_ClientLine_R n a0 a1 = some y) : impl_ClientLine_T a0 a1 = some y := presT_of (((impl_ClientLine_res n a0 a1)).trans h)

noncomputable def impl_failed_R (n : Nat) (a0 : Client) : Option (Client × List Term × Unit) := qb (impl_cloneClient_T (Client.mk 10 a0.host a0.must a0.eph a0.body a0.share a0.inn a0.out a0.tls a0.proved)) fun x => some (Client.mk x.step x.host x.must x.eph x.body (Term.mk x.share.op x.share.n x.share.s x.share.kids) x.inn x.out x.tls x.proved, [], PUnit.unit)

theorem impl_failed_res (n : Nat) (a0 : Client) : residT Tryz.prog cfg RN n 56 [.ag (Client.cells a0)] (.tup [.client, .sl .term]) = impl_failed_R n a0 := by kernel_rfl

theorem impl_failed_of (n : Nat) (a0 : Client) {y} (h : impl_failed_R n a0 = some y) : impl_failed_T a0 = some y := presT_of (((impl_failed_res n a0)).trans h)

noncomputable def impl_heardLine_c1_R (n : Nat) (host : ByteArray) (must : Bool) (eph : Int) (body : Int) (share : Term) (inn : Int) (out : Int) (tls : Bool) (prv : Bool) (line : ByteArray) : Option (Client × List Term × Unit) := qb (impl_cloneClient_T (Client.mk 1 host must eph body share inn out tls prv)) fun x => br (Client.mk 1 host must eph body share inn out tls prv).tls (br (line.toList == (ByteArray.mk #[50, 50, 48]).toList) (qb (impl_text_T (ByteArray.mk #[101, 104, 108, 111])) fun x_1 => qb (impl_goes_T (Client.mk x.step x.host x.must x.eph x.body x.share (bif false then if 100 < IntKind.i64.wrap ((Client.mk 1 host must eph body share inn out tls prv).inn + 1) then IntKind.i64.wrap ((Client.mk 1 host must eph body share inn out tls prv).inn + 1) else 100 else if IntKind.i64.wrap ((Client.mk 1 host must eph body share inn out tls prv).inn + 1) < 100 then IntKind.i64.wrap ((Client.mk 1 host must eph body share inn out tls prv).inn + 1) else 100) x.out x.tls x.proved) x_1 2) fun x => some (Client.mk x.fst.step x.fst.host x.fst.must x.fst.eph x.fst.body (Term.mk x.fst.share.op x.fst.share.n x.fst.share.s x.fst.share.kids) x.fst.inn x.fst.out x.fst.tls x.fst.proved, x.snd.fst, PUnit.unit)) (qb (impl_failed_T (Client.mk 1 host must eph body share inn out tls prv)) fun x => some (Client.mk x.fst.step x.fst.host x.fst.must x.fst.eph x.fst.body (Term.mk x.fst.share.op x.fst.share.n x.fst.share.s x.fst.share.kids) x.fst.inn x.fst.out x.fst.tls x.fst.proved, x.snd.fst, PUnit.unit))) (br (line.toList == (ByteArray.mk #[50, 50, 48]).toList) (qb (impl_text_T (ByteArray.mk #[101, 104, 108, 111])) fun x_1 => qb (impl_goes_T x x_1 2) fun x => some (Client.mk x.fst.step x.fst.host x.fst.must x.fst.eph x.fst.body (Term.mk x.fst.share.op x.fst.share.n x.fst.share.s x.fst.share.kids) x.fst.inn x.fst.out x.fst.tls x.fst.proved, x.snd.fst, PUnit.unit)) (qb (impl_failed_T (Client.mk 1 host must eph body share inn out tls prv)) fun x => some (Client.mk x.fst.step x.fst.host x.fst.must x.fst.eph x.fst.body (Term.mk x.fst.share.op x.fst.share.n x.fst.share.s x.fst.share.kids) x.fst.inn x.fst.out x.fst.tls x.fst.proved, x.snd.fst, PUnit.unit)))

theorem impl_heardLine_c1_res (n : Nat) (host : ByteArray) (must : Bool) (eph : Int) (body : Int) (share : Term) (inn : Int) (out : Int) (tls : Bool) (prv : Bool) (line : ByteArray) : residT Tryz.prog cfg RN n 57 [.ag (Client.cells (Client.mk 1 host must eph body share inn out tls prv)), .str line] (.tup [.client, .sl .term]) = impl_heardLine_c1_R n host must eph body share inn out tls prv line := by kernel_rfl

theorem impl_heardLine_c1_of (n : Nat) (host : ByteArray) (must : Bool) (eph : Int) (body : Int) (share : Term) (inn : Int) (out : Int) (tls : Bool) (prv : Bool) (line : ByteArray) {y} (h : impl_heardLine_c1_R n host must eph body share inn out tls prv line = some y) : impl_heardLine_T (Client.mk 1 host must eph body share inn out tls prv) line = some y := presT_of (((impl_heardLine_c1_res n host must eph body share inn out tls prv line)).trans h)

noncomputable def impl_heardLine_c2_R (n : Nat) (host : ByteArray) (must : Bool) (eph : Int) (body : Int) (share : Term) (inn : Int) (out : Int) (tls : Bool) (prv : Bool) (line : ByteArray) : Option (Client × List Term × Unit) := qb (impl_cloneClient_T (Client.mk 2 host must eph body share inn out tls prv)) fun x => br (Client.mk 2 host must eph body share inn out tls prv).tls (br (line.toList == (ByteArray.mk #[50, 53, 48, 32, 115, 116, 97, 114, 116, 116, 108, 115]).toList) (qb (impl_text_T (ByteArray.mk #[115, 116, 97, 114, 116, 116, 108, 115])) fun x_1 => qb (impl_goes_T (Client.mk x.step x.host x.must x.eph x.body x.share (bif false then if 100 < IntKind.i64.wrap ((Client.mk 2 host must eph body share inn out tls prv).inn + 1) then IntKind.i64.wrap ((Client.mk 2 host must eph body share inn out tls prv).inn + 1) else 100 else if IntKind.i64.wrap ((Client.mk 2 host must eph body share inn out tls prv).inn + 1) < 100 then IntKind.i64.wrap ((Client.mk 2 host must eph body share inn out tls prv).inn + 1) else 100) x.out x.tls x.proved) x_1 3) fun x => some (Client.mk x.fst.step x.fst.host x.fst.must x.fst.eph x.fst.body (Term.mk x.fst.share.op x.fst.share.n x.fst.share.s x.fst.share.kids) x.fst.inn x.fst.out x.fst.tls x.fst.proved, x.snd.fst, PUnit.unit)) (br (line.toList == (ByteArray.mk #[50, 53, 48]).toList) (br (!(Client.mk 2 host must eph body share inn out tls prv).must) (qb (impl_text_T (ByteArray.mk #[109, 97, 105, 108])) fun x_1 => qb (impl_goes_T (Client.mk x.step x.host x.must x.eph x.body x.share (bif false then if 100 < IntKind.i64.wrap ((Client.mk 2 host must eph body share inn out tls prv).inn + 1) then IntKind.i64.wrap ((Client.mk 2 host must eph body share inn out tls prv).inn + 1) else 100 else if IntKind.i64.wrap ((Client.mk 2 host must eph body share inn out tls prv).inn + 1) < 100 then IntKind.i64.wrap ((Client.mk 2 host must eph body share inn out tls prv).inn + 1) else 100) x.out x.tls x.proved) x_1 5) fun x => some (Client.mk x.fst.step x.fst.host x.fst.must x.fst.eph x.fst.body (Term.mk x.fst.share.op x.fst.share.n x.fst.share.s x.fst.share.kids) x.fst.inn x.fst.out x.fst.tls x.fst.proved, x.snd.fst, PUnit.unit)) (qb (impl_failed_T (Client.mk 2 host must eph body share inn out tls prv)) fun x => some (Client.mk x.fst.step x.fst.host x.fst.must x.fst.eph x.fst.body (Term.mk x.fst.share.op x.fst.share.n x.fst.share.s x.fst.share.kids) x.fst.inn x.fst.out x.fst.tls x.fst.proved, x.snd.fst, PUnit.unit))) (qb (impl_failed_T (Client.mk 2 host must eph body share inn out tls prv)) fun x => some (Client.mk x.fst.step x.fst.host x.fst.must x.fst.eph x.fst.body (Term.mk x.fst.share.op x.fst.share.n x.fst.share.s x.fst.share.kids) x.fst.inn x.fst.out x.fst.tls x.fst.proved, x.snd.fst, PUnit.unit)))) (br (line.toList == (ByteArray.mk #[50, 53, 48, 32, 115, 116, 97, 114, 116, 116, 108, 115]).toList) (qb (impl_text_T (ByteArray.mk #[115, 116, 97, 114, 116, 116, 108, 115])) fun x_1 => qb (impl_goes_T x x_1 3) fun x => some (Client.mk x.fst.step x.fst.host x.fst.must x.fst.eph x.fst.body (Term.mk x.fst.share.op x.fst.share.n x.fst.share.s x.fst.share.kids) x.fst.inn x.fst.out x.fst.tls x.fst.proved, x.snd.fst, PUnit.unit)) (br (line.toList == (ByteArray.mk #[50, 53, 48]).toList) (br (!(Client.mk 2 host must eph body share inn out tls prv).must) (qb (impl_text_T (ByteArray.mk #[109, 97, 105, 108])) fun x_1 => qb (impl_goes_T x x_1 5) fun x => some (Client.mk x.fst.step x.fst.host x.fst.must x.fst.eph x.fst.body (Term.mk x.fst.share.op x.fst.share.n x.fst.share.s x.fst.share.kids) x.fst.inn x.fst.out x.fst.tls x.fst.proved, x.snd.fst, PUnit.unit)) (qb (impl_failed_T (Client.mk 2 host must eph body share inn out tls prv)) fun x => some (Client.mk x.fst.step x.fst.host x.fst.must x.fst.eph x.fst.body (Term.mk x.fst.share.op x.fst.share.n x.fst.share.s x.fst.share.kids) x.fst.inn x.fst.out x.fst.tls x.fst.proved, x.snd.fst, PUnit.unit))) (qb (impl_failed_T (Client.mk 2 host must eph body share inn out tls prv)) fun x => some (Client.mk x.fst.step x.fst.host x.fst.must x.fst.eph x.fst.body (Term.mk x.fst.share.op x.fst.share.n x.fst.share.s x.fst.share.kids) x.fst.inn x.fst.out x.fst.tls x.fst.proved, x.snd.fst, PUnit.unit))))

theorem impl_heardLine_c2_res (n : Nat) (host : ByteArray) (must : Bool) (eph : Int) (body : Int) (share : Term) (inn : Int) (out : Int) (tls : Bool) (prv : Bool) (line : ByteArray) : residT Tryz.prog cfg RN n 57 [.ag (Client.cells (Client.mk 2 host must eph body share inn out tls prv)), .str line] (.tup [.client, .sl .term]) = impl_heardLine_c2_R n host must eph body share inn out tls prv line := by kernel_rfl

theorem impl_heardLine_c2_of (n : Nat) (host : ByteArray) (must : Bool) (eph : Int) (body : Int) (share : Term) (inn : Int) (out : Int) (tls : Bool) (prv : Bool) (line : ByteArray) {y} (h : impl_heardLine_c2_R n host must eph body share inn out tls prv line = some y) : impl_heardLine_T (Client.mk 2 host must eph body share inn out tls prv) line = some y := presT_of (((impl_heardLine_c2_res n host must eph body share inn out tls prv line)).trans h)

noncomputable def impl_heardLine_c3_R (n : Nat) (host : ByteArray) (must : Bool) (eph : Int) (body : Int) (share : Term) (inn : Int) (out : Int) (tls : Bool) (prv : Bool) (line : ByteArray) : Option (Client × List Term × Unit) := qb (impl_cloneClient_T (Client.mk 3 host must eph body share inn out tls prv)) fun x => br (Client.mk 3 host must eph body share inn out tls prv).tls (br (line.toList == (ByteArray.mk #[50, 50, 48]).toList) (qb (impl_Atom_T (Client.mk 3 host must eph body share inn out tls prv).eph) fun x_1 => qb (impl_Hello_T x_1) fun x_2 => some (Client.mk 4 x.host x.must x.eph x.body (Term.mk x.share.op x.share.n x.share.s x.share.kids) (bif false then if 100 < IntKind.i64.wrap ((Client.mk 3 host must eph body share inn out tls prv).inn + 1) then IntKind.i64.wrap ((Client.mk 3 host must eph body share inn out tls prv).inn + 1) else 100 else if IntKind.i64.wrap ((Client.mk 3 host must eph body share inn out tls prv).inn + 1) < 100 then IntKind.i64.wrap ((Client.mk 3 host must eph body share inn out tls prv).inn + 1) else 100) x.out x.tls x.proved, [Term.mk x_2.op x_2.n x_2.s x_2.kids], PUnit.unit)) (qb (impl_failed_T (Client.mk 3 host must eph body share inn out tls prv)) fun x => some (Client.mk x.fst.step x.fst.host x.fst.must x.fst.eph x.fst.body (Term.mk x.fst.share.op x.fst.share.n x.fst.share.s x.fst.share.kids) x.fst.inn x.fst.out x.fst.tls x.fst.proved, x.snd.fst, PUnit.unit))) (br (line.toList == (ByteArray.mk #[50, 50, 48]).toList) (qb (impl_Atom_T (Client.mk 3 host must eph body share inn out tls prv).eph) fun x_1 => qb (impl_Hello_T x_1) fun x_2 => some (Client.mk 4 x.host x.must x.eph x.body (Term.mk x.share.op x.share.n x.share.s x.share.kids) x.inn x.out x.tls x.proved, [Term.mk x_2.op x_2.n x_2.s x_2.kids], PUnit.unit)) (qb (impl_failed_T (Client.mk 3 host must eph body share inn out tls prv)) fun x => some (Client.mk x.fst.step x.fst.host x.fst.must x.fst.eph x.fst.body (Term.mk x.fst.share.op x.fst.share.n x.fst.share.s x.fst.share.kids) x.fst.inn x.fst.out x.fst.tls x.fst.proved, x.snd.fst, PUnit.unit)))

theorem impl_heardLine_c3_res (n : Nat) (host : ByteArray) (must : Bool) (eph : Int) (body : Int) (share : Term) (inn : Int) (out : Int) (tls : Bool) (prv : Bool) (line : ByteArray) : residT Tryz.prog cfg RN n 57 [.ag (Client.cells (Client.mk 3 host must eph body share inn out tls prv)), .str line] (.tup [.client, .sl .term]) = impl_heardLine_c3_R n host must eph body share inn out tls prv line := by kernel_rfl

theorem impl_heardLine_c3_of (n : Nat) (host : ByteArray) (must : Bool) (eph : Int) (body : Int) (share : Term) (inn : Int) (out : Int) (tls : Bool) (prv : Bool) (line : ByteArray) {y} (h : impl_heardLine_c3_R n host must eph body share inn out tls prv line = some y) : impl_heardLine_T (Client.mk 3 host must eph body share inn out tls prv) line = some y := presT_of (((impl_heardLine_c3_res n host must eph body share inn out tls prv line)).trans h)

noncomputable def impl_heardLine_c4_R (n : Nat) (host : ByteArray) (must : Bool) (eph : Int) (body : Int) (share : Term) (inn : Int) (out : Int) (tls : Bool) (prv : Bool) (line : ByteArray) : Option (Client × List Term × Unit) := qb (impl_cloneClient_T (Client.mk 4 host must eph body share inn out tls prv)) fun x => br (Client.mk 4 host must eph body share inn out tls prv).tls (qb (impl_failed_T (Client.mk 4 host must eph body share inn out tls prv)) fun x => some (Client.mk x.fst.step x.fst.host x.fst.must x.fst.eph x.fst.body (Term.mk x.fst.share.op x.fst.share.n x.fst.share.s x.fst.share.kids) x.fst.inn x.fst.out x.fst.tls x.fst.proved, x.snd.fst, PUnit.unit)) (qb (impl_failed_T (Client.mk 4 host must eph body share inn out tls prv)) fun x => some (Client.mk x.fst.step x.fst.host x.fst.must x.fst.eph x.fst.body (Term.mk x.fst.share.op x.fst.share.n x.fst.share.s x.fst.share.kids) x.fst.inn x.fst.out x.fst.tls x.fst.proved, x.snd.fst, PUnit.unit))

theorem impl_heardLine_c4_res (n : Nat) (host : ByteArray) (must : Bool) (eph : Int) (body : Int) (share : Term) (inn : Int) (out : Int) (tls : Bool) (prv : Bool) (line : ByteArray) : residT Tryz.prog cfg RN n 57 [.ag (Client.cells (Client.mk 4 host must eph body share inn out tls prv)), .str line] (.tup [.client, .sl .term]) = impl_heardLine_c4_R n host must eph body share inn out tls prv line := by kernel_rfl

theorem impl_heardLine_c4_of (n : Nat) (host : ByteArray) (must : Bool) (eph : Int) (body : Int) (share : Term) (inn : Int) (out : Int) (tls : Bool) (prv : Bool) (line : ByteArray) {y} (h : impl_heardLine_c4_R n host must eph body share inn out tls prv line = some y) : impl_heardLine_T (Client.mk 4 host must eph body share inn out tls prv) line = some y := presT_of (((impl_heardLine_c4_res n host must eph body share inn out tls prv line)).trans h)

noncomputable def impl_heardLine_c5_R (n : Nat) (host : ByteArray) (must : Bool) (eph : Int) (body : Int) (share : Term) (inn : Int) (out : Int) (tls : Bool) (prv : Bool) (line : ByteArray) : Option (Client × List Term × Unit) := qb (impl_cloneClient_T (Client.mk 5 host must eph body share inn out tls prv)) fun x => br (Client.mk 5 host must eph body share inn out tls prv).tls (br (line.toList == (ByteArray.mk #[50, 53, 48]).toList) (qb (impl_text_T (ByteArray.mk #[114, 99, 112, 116])) fun x_1 => qb (impl_goes_T (Client.mk x.step x.host x.must x.eph x.body x.share (bif false then if 100 < IntKind.i64.wrap ((Client.mk 5 host must eph body share inn out tls prv).inn + 1) then IntKind.i64.wrap ((Client.mk 5 host must eph body share inn out tls prv).inn + 1) else 100 else if IntKind.i64.wrap ((Client.mk 5 host must eph body share inn out tls prv).inn + 1) < 100 then IntKind.i64.wrap ((Client.mk 5 host must eph body share inn out tls prv).inn + 1) else 100) x.out x.tls x.proved) x_1 6) fun x => some (Client.mk x.fst.step x.fst.host x.fst.must x.fst.eph x.fst.body (Term.mk x.fst.share.op x.fst.share.n x.fst.share.s x.fst.share.kids) x.fst.inn x.fst.out x.fst.tls x.fst.proved, x.snd.fst, PUnit.unit)) (qb (impl_failed_T (Client.mk 5 host must eph body share inn out tls prv)) fun x => some (Client.mk x.fst.step x.fst.host x.fst.must x.fst.eph x.fst.body (Term.mk x.fst.share.op x.fst.share.n x.fst.share.s x.fst.share.kids) x.fst.inn x.fst.out x.fst.tls x.fst.proved, x.snd.fst, PUnit.unit))) (br (line.toList == (ByteArray.mk #[50, 53, 48]).toList) (qb (impl_text_T (ByteArray.mk #[114, 99, 112, 116])) fun x_1 => qb (impl_goes_T x x_1 6) fun x => some (Client.mk x.fst.step x.fst.host x.fst.must x.fst.eph x.fst.body (Term.mk x.fst.share.op x.fst.share.n x.fst.share.s x.fst.share.kids) x.fst.inn x.fst.out x.fst.tls x.fst.proved, x.snd.fst, PUnit.unit)) (qb (impl_failed_T (Client.mk 5 host must eph body share inn out tls prv)) fun x => some (Client.mk x.fst.step x.fst.host x.fst.must x.fst.eph x.fst.body (Term.mk x.fst.share.op x.fst.share.n x.fst.share.s x.fst.share.kids) x.fst.inn x.fst.out x.fst.tls x.fst.proved, x.snd.fst, PUnit.unit)))

theorem impl_heardLine_c5_res (n : Nat) (host : ByteArray) (must : Bool) (eph : Int) (body : Int) (share : Term) (inn : Int) (out : Int) (tls : Bool) (prv : Bool) (line : ByteArray) : residT Tryz.prog cfg RN n 57 [.ag (Client.cells (Client.mk 5 host must eph body share inn out tls prv)), .str line] (.tup [.client, .sl .term]) = impl_heardLine_c5_R n host must eph body share inn out tls prv line := by kernel_rfl

theorem impl_heardLine_c5_of (n : Nat) (host : ByteArray) (must : Bool) (eph : Int) (body : Int) (share : Term) (inn : Int) (out : Int) (tls : Bool) (prv : Bool) (line : ByteArray) {y} (h : impl_heardLine_c5_R n host must eph body share inn out tls prv line = some y) : impl_heardLine_T (Client.mk 5 host must eph body share inn out tls prv) line = some y := presT_of (((impl_heardLine_c5_res n host must eph body share inn out tls prv line)).trans h)

noncomputable def impl_heardLine_c6_R (n : Nat) (host : ByteArray) (must : Bool) (eph : Int) (body : Int) (share : Term) (inn : Int) (out : Int) (tls : Bool) (prv : Bool) (line : ByteArray) : Option (Client × List Term × Unit) := qb (impl_cloneClient_T (Client.mk 6 host must eph body share inn out tls prv)) fun x => br (Client.mk 6 host must eph body share inn out tls prv).tls (br (line.toList == (ByteArray.mk #[50, 53, 48]).toList) (qb (impl_text_T (ByteArray.mk #[100, 97, 116, 97])) fun x_1 => qb (impl_goes_T (Client.mk x.step x.host x.must x.eph x.body x.share (bif false then if 100 < IntKind.i64.wrap ((Client.mk 6 host must eph body share inn out tls prv).inn + 1) then IntKind.i64.wrap ((Client.mk 6 host must eph body share inn out tls prv).inn + 1) else 100 else if IntKind.i64.wrap ((Client.mk 6 host must eph body share inn out tls prv).inn + 1) < 100 then IntKind.i64.wrap ((Client.mk 6 host must eph body share inn out tls prv).inn + 1) else 100) x.out x.tls x.proved) x_1 7) fun x => some (Client.mk x.fst.step x.fst.host x.fst.must x.fst.eph x.fst.body (Term.mk x.fst.share.op x.fst.share.n x.fst.share.s x.fst.share.kids) x.fst.inn x.fst.out x.fst.tls x.fst.proved, x.snd.fst, PUnit.unit)) (qb (impl_failed_T (Client.mk 6 host must eph body share inn out tls prv)) fun x => some (Client.mk x.fst.step x.fst.host x.fst.must x.fst.eph x.fst.body (Term.mk x.fst.share.op x.fst.share.n x.fst.share.s x.fst.share.kids) x.fst.inn x.fst.out x.fst.tls x.fst.proved, x.snd.fst, PUnit.unit))) (br (line.toList == (ByteArray.mk #[50, 53, 48]).toList) (qb (impl_text_T (ByteArray.mk #[100, 97, 116, 97])) fun x_1 => qb (impl_goes_T x x_1 7) fun x => some (Client.mk x.fst.step x.fst.host x.fst.must x.fst.eph x.fst.body (Term.mk x.fst.share.op x.fst.share.n x.fst.share.s x.fst.share.kids) x.fst.inn x.fst.out x.fst.tls x.fst.proved, x.snd.fst, PUnit.unit)) (qb (impl_failed_T (Client.mk 6 host must eph body share inn out tls prv)) fun x => some (Client.mk x.fst.step x.fst.host x.fst.must x.fst.eph x.fst.body (Term.mk x.fst.share.op x.fst.share.n x.fst.share.s x.fst.share.kids) x.fst.inn x.fst.out x.fst.tls x.fst.proved, x.snd.fst, PUnit.unit)))

theorem impl_heardLine_c6_res (n : Nat) (host : ByteArray) (must : Bool) (eph : Int) (body : Int) (share : Term) (inn : Int) (out : Int) (tls : Bool) (prv : Bool) (line : ByteArray) : residT Tryz.prog cfg RN n 57 [.ag (Client.cells (Client.mk 6 host must eph body share inn out tls prv)), .str line] (.tup [.client, .sl .term]) = impl_heardLine_c6_R n host must eph body share inn out tls prv line := by kernel_rfl

theorem impl_heardLine_c6_of (n : Nat) (host : ByteArray) (must : Bool) (eph : Int) (body : Int) (share : Term) (inn : Int) (out : Int) (tls : Bool) (prv : Bool) (line : ByteArray) {y} (h : impl_heardLine_c6_R n host must eph body share inn out tls prv line = some y) : impl_heardLine_T (Client.mk 6 host must eph body share inn out tls prv) line = some y := presT_of (((impl_heardLine_c6_res n host must eph body share inn out tls prv line)).trans h)

noncomputable def impl_heardLine_c7_R (n : Nat) (host : ByteArray) (must : Bool) (eph : Int) (body : Int) (share : Term) (inn : Int) (out : Int) (tls : Bool) (prv : Bool) (line : ByteArray) : Option (Client × List Term × Unit) := qb (impl_cloneClient_T (Client.mk 7 host must eph body share inn out tls prv)) fun x => br (Client.mk 7 host must eph body share inn out tls prv).tls (br (line.toList == (ByteArray.mk #[51, 53, 52]).toList) (qb (impl_text_T (ByteArray.mk #[98, 111, 100, 121])) fun x_1 => qb (impl_Atom_T (Client.mk 7 host must eph body share inn out tls prv).body) fun x_2 => qb (impl_Pair_T x_1 x_2) fun x_3 => qb (impl_goes_T (Client.mk x.step x.host x.must x.eph x.body x.share (bif false then if 100 < IntKind.i64.wrap ((Client.mk 7 host must eph body share inn out tls prv).inn + 1) then IntKind.i64.wrap ((Client.mk 7 host must eph body share inn out tls prv).inn + 1) else 100 else if IntKind.i64.wrap ((Client.mk 7 host must eph body share inn out tls prv).inn + 1) < 100 then IntKind.i64.wrap ((Client.mk 7 host must eph body share inn out tls prv).inn + 1) else 100) x.out x.tls x.proved) x_3 8) fun x => some (Client.mk x.fst.step x.fst.host x.fst.must x.fst.eph x.fst.body (Term.mk x.fst.share.op x.fst.share.n x.fst.share.s x.fst.share.kids) x.fst.inn x.fst.out x.fst.tls x.fst.proved, x.snd.fst, PUnit.unit)) (qb (impl_failed_T (Client.mk 7 host must eph body share inn out tls prv)) fun x => some (Client.mk x.fst.step x.fst.host x.fst.must x.fst.eph x.fst.body (Term.mk x.fst.share.op x.fst.share.n x.fst.share.s x.fst.share.kids) x.fst.inn x.fst.out x.fst.tls x.fst.proved, x.snd.fst, PUnit.unit))) (br (line.toList == (ByteArray.mk #[51, 53, 52]).toList) (qb (impl_text_T (ByteArray.mk #[98, 111, 100, 121])) fun x_1 => qb (impl_Atom_T (Client.mk 7 host must eph body share inn out tls prv).body) fun x_2 => qb (impl_Pair_T x_1 x_2) fun x_3 => qb (impl_goes_T x x_3 8) fun x => some (Client.mk x.fst.step x.fst.host x.fst.must x.fst.eph x.fst.body (Term.mk x.fst.share.op x.fst.share.n x.fst.share.s x.fst.share.kids) x.fst.inn x.fst.out x.fst.tls x.fst.proved, x.snd.fst, PUnit.unit)) (qb (impl_failed_T (Client.mk 7 host must eph body share inn out tls prv)) fun x => some (Client.mk x.fst.step x.fst.host x.fst.must x.fst.eph x.fst.body (Term.mk x.fst.share.op x.fst.share.n x.fst.share.s x.fst.share.kids) x.fst.inn x.fst.out x.fst.tls x.fst.proved, x.snd.fst, PUnit.unit)))

theorem impl_heardLine_c7_res (n : Nat) (host : ByteArray) (must : Bool) (eph : Int) (body : Int) (share : Term) (inn : Int) (out : Int) (tls : Bool) (prv : Bool) (line : ByteArray) : residT Tryz.prog cfg RN n 57 [.ag (Client.cells (Client.mk 7 host must eph body share inn out tls prv)), .str line] (.tup [.client, .sl .term]) = impl_heardLine_c7_R n host must eph body share inn out tls prv line := by kernel_rfl

theorem impl_heardLine_c7_of (n : Nat) (host : ByteArray) (must : Bool) (eph : Int) (body : Int) (share : Term) (inn : Int) (out : Int) (tls : Bool) (prv : Bool) (line : ByteArray) {y} (h : impl_heardLine_c7_R n host must eph body share inn out tls prv line = some y) : impl_heardLine_T (Client.mk 7 host must eph body share inn out tls prv) line = some y := presT_of (((impl_heardLine_c7_res n host must eph body share inn out tls prv line)).trans h)

noncomputable def impl_heardLine_c8_R (n : Nat) (host : ByteArray) (must : Bool) (eph : Int) (body : Int) (share : Term) (inn : Int) (out : Int) (tls : Bool) (prv : Bool) (line : ByteArray) : Option (Client × List Term × Unit) := qb (impl_cloneClient_T (Client.mk 8 host must eph body share inn out tls prv)) fun x => br (Client.mk 8 host must eph body share inn out tls prv).tls (br (line.toList == (ByteArray.mk #[50, 53, 48]).toList) (some (Client.mk 9 x.host x.must x.eph x.body (Term.mk x.share.op x.share.n x.share.s x.share.kids) (bif false then if 100 < IntKind.i64.wrap ((Client.mk 8 host must eph body share inn out tls prv).inn + 1) then IntKind.i64.wrap ((Client.mk 8 host must eph body share inn out tls prv).inn + 1) else 100 else if IntKind.i64.wrap ((Client.mk 8 host must eph body share inn out tls prv).inn + 1) < 100 then IntKind.i64.wrap ((Client.mk 8 host must eph body share inn out tls prv).inn + 1) else 100) x.out x.tls x.proved, [], PUnit.unit)) (qb (impl_failed_T (Client.mk 8 host must eph body share inn out tls prv)) fun x => some (Client.mk x.fst.step x.fst.host x.fst.must x.fst.eph x.fst.body (Term.mk x.fst.share.op x.fst.share.n x.fst.share.s x.fst.share.kids) x.fst.inn x.fst.out x.fst.tls x.fst.proved, x.snd.fst, PUnit.unit))) (br (line.toList == (ByteArray.mk #[50, 53, 48]).toList) (some (Client.mk 9 x.host x.must x.eph x.body (Term.mk x.share.op x.share.n x.share.s x.share.kids) x.inn x.out x.tls x.proved, [], PUnit.unit)) (qb (impl_failed_T (Client.mk 8 host must eph body share inn out tls prv)) fun x => some (Client.mk x.fst.step x.fst.host x.fst.must x.fst.eph x.fst.body (Term.mk x.fst.share.op x.fst.share.n x.fst.share.s x.fst.share.kids) x.fst.inn x.fst.out x.fst.tls x.fst.proved, x.snd.fst, PUnit.unit)))

theorem impl_heardLine_c8_res (n : Nat) (host : ByteArray) (must : Bool) (eph : Int) (body : Int) (share : Term) (inn : Int) (out : Int) (tls : Bool) (prv : Bool) (line : ByteArray) : residT Tryz.prog cfg RN n 57 [.ag (Client.cells (Client.mk 8 host must eph body share inn out tls prv)), .str line] (.tup [.client, .sl .term]) = impl_heardLine_c8_R n host must eph body share inn out tls prv line := by kernel_rfl

theorem impl_heardLine_c8_of (n : Nat) (host : ByteArray) (must : Bool) (eph : Int) (body : Int) (share : Term) (inn : Int) (out : Int) (tls : Bool) (prv : Bool) (line : ByteArray) {y} (h : impl_heardLine_c8_R n host must eph body share inn out tls prv line = some y) : impl_heardLine_T (Client.mk 8 host must eph body share inn out tls prv) line = some y := presT_of (((impl_heardLine_c8_res n host must eph body share inn out tls prv line)).trans h)

noncomputable def impl_heardLine_c9_R (n : Nat) (host : ByteArray) (must : Bool) (eph : Int) (body : Int) (share : Term) (inn : Int) (out : Int) (tls : Bool) (prv : Bool) (line : ByteArray) : Option (Client × List Term × Unit) := qb (impl_cloneClient_T (Client.mk 9 host must eph body share inn out tls prv)) fun x => br (Client.mk 9 host must eph body share inn out tls prv).tls (qb (impl_failed_T (Client.mk 9 host must eph body share inn out tls prv)) fun x => some (Client.mk x.fst.step x.fst.host x.fst.must x.fst.eph x.fst.body (Term.mk x.fst.share.op x.fst.share.n x.fst.share.s x.fst.share.kids) x.fst.inn x.fst.out x.fst.tls x.fst.proved, x.snd.fst, PUnit.unit)) (qb (impl_failed_T (Client.mk 9 host must eph body share inn out tls prv)) fun x => some (Client.mk x.fst.step x.fst.host x.fst.must x.fst.eph x.fst.body (Term.mk x.fst.share.op x.fst.share.n x.fst.share.s x.fst.share.kids) x.fst.inn x.fst.out x.fst.tls x.fst.proved, x.snd.fst, PUnit.unit))

theorem impl_heardLine_c9_res (n : Nat) (host : ByteArray) (must : Bool) (eph : Int) (body : Int) (share : Term) (inn : Int) (out : Int) (tls : Bool) (prv : Bool) (line : ByteArray) : residT Tryz.prog cfg RN n 57 [.ag (Client.cells (Client.mk 9 host must eph body share inn out tls prv)), .str line] (.tup [.client, .sl .term]) = impl_heardLine_c9_R n host must eph body share inn out tls prv line := by kernel_rfl

theorem impl_heardLine_c9_of (n : Nat) (host : ByteArray) (must : Bool) (eph : Int) (body : Int) (share : Term) (inn : Int) (out : Int) (tls : Bool) (prv : Bool) (line : ByteArray) {y} (h : impl_heardLine_c9_R n host must eph body share inn out tls prv line = some y) : impl_heardLine_T (Client.mk 9 host must eph body share inn out tls prv) line = some y := presT_of (((impl_heardLine_c9_res n host must eph body share inn out tls prv line)).trans h)

noncomputable def impl_heardLine_c10_R (n : Nat) (host : ByteArray) (must : Bool) (eph : Int) (body : Int) (share : Term) (inn : Int) (out : Int) (tls : Bool) (prv : Bool) (line : ByteArray) : Option (Client × List Term × Unit) := qb (impl_cloneClient_T (Client.mk 10 host must eph body share inn out tls prv)) fun x => br (Client.mk 10 host must eph body share inn out tls prv).tls (qb (impl_failed_T (Client.mk 10 host must eph body share inn out tls prv)) fun x => some (Client.mk x.fst.step x.fst.host x.fst.must x.fst.eph x.fst.body (Term.mk x.fst.share.op x.fst.share.n x.fst.share.s x.fst.share.kids) x.fst.inn x.fst.out x.fst.tls x.fst.proved, x.snd.fst, PUnit.unit)) (qb (impl_failed_T (Client.mk 10 host must eph body share inn out tls prv)) fun x => some (Client.mk x.fst.step x.fst.host x.fst.must x.fst.eph x.fst.body (Term.mk x.fst.share.op x.fst.share.n x.fst.share.s x.fst.share.kids) x.fst.inn x.fst.out x.fst.tls x.fst.proved, x.snd.fst, PUnit.unit))

theorem impl_heardLine_c10_res (n : Nat) (host : ByteArray) (must : Bool) (eph : Int) (body : Int) (share : Term) (inn : Int) (out : Int) (tls : Bool) (prv : Bool) (line : ByteArray) : residT Tryz.prog cfg RN n 57 [.ag (Client.cells (Client.mk 10 host must eph body share inn out tls prv)), .str line] (.tup [.client, .sl .term]) = impl_heardLine_c10_R n host must eph body share inn out tls prv line := by kernel_rfl

theorem impl_heardLine_c10_of (n : Nat) (host : ByteArray) (must : Bool) (eph : Int) (body : Int) (share : Term) (inn : Int) (out : Int) (tls : Bool) (prv : Bool) (line : ByteArray) {y} (h : impl_heardLine_c10_R n host must eph body share inn out tls prv line = some y) : impl_heardLine_T (Client.mk 10 host must eph body share inn out tls prv) line = some y := presT_of (((impl_heardLine_c10_res n host must eph body share inn out tls prv line)).trans h)

noncomputable def impl_CertOk_R (n : Nat) (a0 : Cert) : Option Bool := qb (impl_HostOk_T a0.host) fun x => br x (br (a0.pub.op == 4) (qb (impl_TermOk_T a0.pub) fun x => br x (qb (impl_in_T a0.til 0 100000) fun x => some x) (some false)) (some false)) (some false)

theorem impl_CertOk_res (n : Nat) (a0 : Cert) : residT Tryz.prog cfg RN n 58 [.ag (Cert.cells a0)] (.bool) = impl_CertOk_R n a0 := by kernel_rfl

theorem impl_CertOk_of (n : Nat) (a0 : Cert) {y} (h : impl_CertOk_R n a0 = some y) : impl_CertOk_T a0 = some y := presT_of (((impl_CertOk_res n a0)).trans h)

noncomputable def impl_Pair_R (n : Nat) (a0 : Term) (a1 : Term) : Option Term := qb (impl_right_T (Term.mk 3 0 (ByteArray.mk #[]) [Term.mk a0.op a0.n a0.s a0.kids, Term.mk a1.op a1.n a1.s a1.kids])) fun x => some (Term.mk x.op x.n x.s x.kids)

theorem impl_Pair_res (n : Nat) (a0 : Term) (a1 : Term) : residT Tryz.prog cfg RN n 59 [.ag (Term.cells a0), .ag (Term.cells a1)] (.el .term) = impl_Pair_R n a0 a1 := by kernel_rfl

theorem impl_Pair_of (n : Nat) (a0 : Term) (a1 : Term) {y} (h : impl_Pair_R n a0 a1 = some y) : impl_Pair_T a0 a1 = some y := presT_of (((impl_Pair_res n a0 a1)).trans h)

noncomputable def impl_text_R (n : Nat) (a0 : ByteArray) : Option Term := some (Term.mk 2 0 a0 [])

theorem impl_text_res (n : Nat) (a0 : ByteArray) : residT Tryz.prog cfg RN n 60 [.str a0] (.el .term) = impl_text_R n a0 := by kernel_rfl

theorem impl_text_of (n : Nat) (a0 : ByteArray) {y} (h : impl_text_R n a0 = some y) : impl_text_T a0 = some y := presT_of (((impl_text_res n a0)).trans h)

noncomputable def impl_digits_R (n : Nat) (a0 : Int) : Option Term := qb (strconv_Itoa_T a0) fun x => qb (impl_text_T x) fun x => some (Term.mk x.op x.n x.s x.kids)

theorem impl_digits_res (n : Nat) (a0 : Int) : residT Tryz.prog cfg RN n 61 [.int a0] (.el .term) = impl_digits_R n a0 := by kernel_rfl

theorem impl_digits_of (n : Nat) (a0 : Int) {y} (h : impl_digits_R n a0 = some y) : impl_digits_T a0 = some y := presT_of (((impl_digits_res n a0)).trans h)

noncomputable def impl_right_R (n : Nat) (a0 : Term) : Option Term := qb (impl_TermOk_T a0) fun x => br (!x) (some (Term.mk 0 0 (ByteArray.mk #[]) [])) (qb (impl_clone_T a0) fun x => some (Term.mk x.op x.n x.s x.kids))

theorem impl_right_res (n : Nat) (a0 : Term) : residT Tryz.prog cfg RN n 62 [.ag (Term.cells a0)] (.el .term) = impl_right_R n a0 := by kernel_rfl

theorem impl_right_of (n : Nat) (a0 : Term) {y} (h : impl_right_R n a0 = some y) : impl_right_T a0 = some y := presT_of (((impl_right_res n a0)).trans h)

noncomputable def impl_Seal_R (n : Nat) (a0 : Term) (a1 : Int) (a2 : Term) : Option Term := qb (impl_digits_T a1) fun x => qb (impl_Pair_T x a2) fun x => qb (impl_right_T (Term.mk 7 0 (ByteArray.mk #[]) [Term.mk a0.op a0.n a0.s a0.kids, Term.mk x.op x.n x.s x.kids])) fun x => some (Term.mk x.op x.n x.s x.kids)

theorem impl_Seal_res (n : Nat) (a0 : Term) (a1 : Int) (a2 : Term) : residT Tryz.prog cfg RN n 63 [.ag (Term.cells a0), .int a1, .ag (Term.cells a2)] (.el .term) = impl_Seal_R n a0 a1 a2 := by kernel_rfl

theorem impl_Seal_of (n : Nat) (a0 : Term) (a1 : Int) (a2 : Term) {y} (h : impl_Seal_R n a0 a1 a2 = some y) : impl_Seal_T a0 a1 a2 = some y := presT_of (((impl_Seal_res n a0 a1 a2)).trans h)

noncomputable def impl_KeyOf_R (n : Nat) (a0 : Term) (a1 : Int) : Option Term := qb (impl_digits_T a1) fun x => qb (impl_Pair_T a0 x) fun x => qb (impl_Hash_T x) fun x => some (Term.mk x.op x.n x.s x.kids)

theorem impl_KeyOf_res (n : Nat) (a0 : Term) (a1 : Int) : residT Tryz.prog cfg RN n 64 [.ag (Term.cells a0), .int a1] (.el .term) = impl_KeyOf_R n a0 a1 := by kernel_rfl

theorem impl_KeyOf_of (n : Nat) (a0 : Term) (a1 : Int) {y} (h : impl_KeyOf_R n a0 a1 = some y) : impl_KeyOf_T a0 a1 = some y := presT_of (((impl_KeyOf_res n a0 a1)).trans h)

noncomputable def impl_twoOf_R (n : Nat) (a0 : Term) : Option (Term × Term × Bool × Unit) := br (a0.op != 3) (some (Term.mk 0 0 (ByteArray.mk #[]) [], Term.mk 0 0 (ByteArray.mk #[]) [], false, PUnit.unit)) (br ((↑a0.kids.length : Int) != 2) (some (Term.mk 0 0 (ByteArray.mk #[]) [], Term.mk 0 0 (ByteArray.mk #[]) [], false, PUnit.unit)) (qb (idx a0.kids 0) fun y => qb (idx a0.kids 1) fun y_1 => some (Term.mk y.op y.n y.s y.kids, Term.mk y_1.op y_1.n y_1.s y_1.kids, true, PUnit.unit)))

theorem impl_twoOf_res (n : Nat) (a0 : Term) : residT Tryz.prog cfg RN n 79 [.ag (Term.cells a0)] (.tup [.el .term, .el .term, .bool]) = impl_twoOf_R n a0 := by kernel_rfl

theorem impl_twoOf_of (n : Nat) (a0 : Term) {y} (h : impl_twoOf_R n a0 = some y) : impl_twoOf_T a0 = some y := presT_of (((impl_twoOf_res n a0)).trans h)

noncomputable def impl_Open_R (n : Nat) (a0 : Term) (a1 : Int) (a2 : Term) : Option (Term × Bool × Unit) := br (a2.op != 7) (some (Term.mk 0 0 (ByteArray.mk #[]) [], false, PUnit.unit)) (qb (impl_TermOk_T a2) fun x => br (!x) (some (Term.mk 0 0 (ByteArray.mk #[]) [], false, PUnit.unit)) (qb (idx a2.kids 0) fun y => qb (impl_Same_T y a0) fun x => br (!x) (some (Term.mk 0 0 (ByteArray.mk #[]) [], false, PUnit.unit)) (qb (idx a2.kids 1) fun y => br (y.op != 3) (some (Term.mk 0 0 (ByteArray.mk #[]) [], false, PUnit.unit)) (qb (idx y.kids 0) fun y_1 => qb (impl_digits_T a1) fun x => qb (impl_Same_T y_1 x) fun x => br (!x) (some (Term.mk 0 0 (ByteArray.mk #[]) [], false, PUnit.unit)) (qb (idx y.kids 1) fun y => qb (impl_clone_T y) fun x => some (Term.mk x.op x.n x.s x.kids, true, PUnit.unit))))))

theorem impl_Open_res (n : Nat) (a0 : Term) (a1 : Int) (a2 : Term) : residT Tryz.prog cfg RN n 80 [.ag (Term.cells a0), .int a1, .ag (Term.cells a2)] (.tup [.el .term, .bool]) = impl_Open_R n a0 a1 a2 := by kernel_rfl

theorem impl_Open_of (n : Nat) (a0 : Term) (a1 : Int) (a2 : Term) {y} (h : impl_Open_R n a0 a1 a2 = some y) : impl_Open_T a0 a1 a2 = some y := presT_of (((impl_Open_res n a0 a1 a2)).trans h)

noncomputable def impl_clone_R (n : Nat) (a0 : Term) : Option Term := qb (impl_cloneAll_T a0.kids) fun x => some (Term.mk a0.op a0.n a0.s x)

theorem impl_clone_res (n : Nat) (a0 : Term) : residT Tryz.prog cfg RN n 81 [.ag (Term.cells a0)] (.el .term) = impl_clone_R n a0 := by kernel_rfl

theorem impl_clone_of (n : Nat) (a0 : Term) {y} (h : impl_clone_R n a0 = some y) : impl_clone_T a0 = some y := presT_of (((impl_clone_res n a0)).trans h)

noncomputable def EqualFunc_Same_R (n : Nat) (a0 : List Term) (a1 : List Term) : Option Bool := br ((↑a0.length : Int) != (↑a1.length : Int)) (some false) (qb (EqualFunc_Same_L4 n n false a1 false false a0 (↑a0.length : Int) 0) fun x => br (isRetE x.fst) (some x.snd.fst.fst) (br (isExt 0 x.fst) (some true) none))

theorem EqualFunc_Same_res (n : Nat) (a0 : List Term) (a1 : List Term) : residT Tryz.prog cfg RN n 85 [.sl false .term a0, .sl false .term a1, .c (.fn 22 [])] (.bool) = EqualFunc_Same_R n a0 a1 := by kernel_rfl

theorem EqualFunc_Same_of (n : Nat) (a0 : List Term) (a1 : List Term) {y} (h : EqualFunc_Same_R n a0 a1 = some y) : slices_EqualFunc_impl_Term_impl_Term_impl_Term_impl_Term_T a0 a1 (.c (.fn 22 [])) = some y := presT_of (((EqualFunc_Same_res n a0 a1)).trans h)

noncomputable def impl_Signed_R (n : Nat) (a0 : Term) (a1 : Term) : Option (Term × Bool × Unit) := br (a0.op != 4) (some (Term.mk 0 0 (ByteArray.mk #[]) [], false, PUnit.unit)) (qb (impl_TermOk_T a0) fun x => br (!x) (some (Term.mk 0 0 (ByteArray.mk #[]) [], false, PUnit.unit)) (br (a1.op != 8) (some (Term.mk 0 0 (ByteArray.mk #[]) [], false, PUnit.unit)) (qb (impl_TermOk_T a1) fun x => br (!x) (some (Term.mk 0 0 (ByteArray.mk #[]) [], false, PUnit.unit)) (qb (idx a1.kids 0) fun y => qb (idx a0.kids 0) fun y_1 => qb (impl_Same_T y y_1) fun x => br (!x) (some (Term.mk 0 0 (ByteArray.mk #[]) [], false, PUnit.unit)) (qb (idx a1.kids 1) fun y => qb (impl_clone_T y) fun x => some (Term.mk x.op x.n x.s x.kids, true, PUnit.unit))))))

theorem impl_Signed_res (n : Nat) (a0 : Term) (a1 : Term) : residT Tryz.prog cfg RN n 91 [.ag (Term.cells a0), .ag (Term.cells a1)] (.tup [.el .term, .bool]) = impl_Signed_R n a0 a1 := by kernel_rfl

theorem impl_Signed_of (n : Nat) (a0 : Term) (a1 : Term) {y} (h : impl_Signed_R n a0 a1 = some y) : impl_Signed_T a0 a1 = some y := presT_of (((impl_Signed_res n a0 a1)).trans h)

noncomputable def spec_Same_R (n : Nat) (a0 : Term) (a1 : Term) : Option Bool := br (a0.op != a1.op) (some false) (br (a0.n != a1.n) (some false) (br (!a0.s.toList == a1.s.toList) (some false) (br ((↑a0.kids.length : Int) != (↑a1.kids.length : Int)) (some false) (qb (spec_Same_L4 n n false 0 a0 a1) fun x => br (isRetE x.fst) (some x.snd.fst.fst) (br (isExt 0 x.fst) (some true) none)))))

theorem spec_Same_res (n : Nat) (a0 : Term) (a1 : Term) : residT Tryz.prog cfg RN n 94 [.ag (Term.cells a0), .ag (Term.cells a1)] (.bool) = spec_Same_R n a0 a1 := by kernel_rfl

theorem spec_Same_of (n : Nat) (a0 : Term) (a1 : Term) {y} (h : spec_Same_R n a0 a1 = some y) : spec_Same_T a0 a1 = some y := presT_of (((spec_Same_res n a0 a1)).trans h)

noncomputable def impl_Hash_R (n : Nat) (a0 : Term) : Option Term := qb (impl_right_T (Term.mk 6 0 (ByteArray.mk #[]) [Term.mk a0.op a0.n a0.s a0.kids])) fun x => some (Term.mk x.op x.n x.s x.kids)

theorem impl_Hash_res (n : Nat) (a0 : Term) : residT Tryz.prog cfg RN n 95 [.ag (Term.cells a0)] (.el .term) = impl_Hash_R n a0 := by kernel_rfl

theorem impl_Hash_of (n : Nat) (a0 : Term) {y} (h : impl_Hash_R n a0 = some y) : impl_Hash_T a0 = some y := presT_of (((impl_Hash_res n a0)).trans h)

noncomputable def impl_CertOf_R (n : Nat) (a0 : Term) : Option (Cert × Bool × Unit) := qb (impl_Atom_T 1) fun x => qb (impl_Pub_T x) fun x => qb (impl_Signed_T x a0) fun x => qb (impl_twoOf_T x.fst) fun x_1 => qb (impl_twoOf_T x_1.snd.fst) fun x_2 => qb (strconv_Atoi_T x_2.snd.fst.s) fun x_3 => br x_3.snd.fst (br (!x.snd.fst) (some (Cert.mk (ByteArray.mk #[]) (Term.mk 0 0 (ByteArray.mk #[]) []) 0, false, PUnit.unit)) (br (!x_1.snd.snd.fst) (some (Cert.mk (ByteArray.mk #[]) (Term.mk 0 0 (ByteArray.mk #[]) []) 0, false, PUnit.unit)) (br (!x_2.snd.snd.fst) (some (Cert.mk (ByteArray.mk #[]) (Term.mk 0 0 (ByteArray.mk #[]) []) 0, false, PUnit.unit)) (some (Cert.mk (ByteArray.mk #[]) (Term.mk 0 0 (ByteArray.mk #[]) []) 0, false, PUnit.unit))))) (br (!x.snd.fst) (some (Cert.mk (ByteArray.mk #[]) (Term.mk 0 0 (ByteArray.mk #[]) []) 0, false, PUnit.unit)) (br (!x_1.snd.snd.fst) (some (Cert.mk (ByteArray.mk #[]) (Term.mk 0 0 (ByteArray.mk #[]) []) 0, false, PUnit.unit)) (br (!x_2.snd.snd.fst) (some (Cert.mk (ByteArray.mk #[]) (Term.mk 0 0 (ByteArray.mk #[]) []) 0, false, PUnit.unit)) (qb (impl_clone_T x_2.fst) fun x => qb (impl_CertTerm_T (Cert.mk x_1.fst.s x x_3.fst)) fun x_4 => br (x_4.op != 8) (some (Cert.mk (ByteArray.mk #[]) (Term.mk 0 0 (ByteArray.mk #[]) []) 0, false, PUnit.unit)) (qb (impl_Same_T x_4 a0) fun x_5 => br (!x_5) (some (Cert.mk (ByteArray.mk #[]) (Term.mk 0 0 (ByteArray.mk #[]) []) 0, false, PUnit.unit)) (some (Cert.mk x_1.fst.s (Term.mk x.op x.n x.s x.kids) x_3.fst, true, PUnit.unit)))))))

theorem impl_CertOf_res (n : Nat) (a0 : Term) : residT Tryz.prog cfg RN n 97 [.ag (Term.cells a0)] (.tup [.cert, .bool]) = impl_CertOf_R n a0 := by kernel_rfl

theorem impl_CertOf_of (n : Nat) (a0 : Term) {y} (h : impl_CertOf_R n a0 = some y) : impl_CertOf_T a0 = some y := presT_of (((impl_CertOf_res n a0)).trans h)

noncomputable def impl_TermSize_R (n : Nat) (a0 : Term) : Option Int := qb (impl_TermSize_L3 n n 1 false a0.kids (↑a0.kids.length : Int) 0) fun x => br (isRetE x.fst) none (br (isExt 0 x.fst) (some x.snd.fst.fst) none)

theorem impl_TermSize_res (n : Nat) (a0 : Term) : residT Tryz.prog cfg RN n 98 [.ag (Term.cells a0)] (.int) = impl_TermSize_R n a0 := by kernel_rfl

theorem impl_TermSize_of (n : Nat) (a0 : Term) {y} (h : impl_TermSize_R n a0 = some y) : impl_TermSize_T a0 = some y := presT_of (((impl_TermSize_res n a0)).trans h)

noncomputable def impl_formOk_R (n : Nat) (a0 : Term) : Option Bool := qb (impl_arity_T a0.op) fun x => br ((↑a0.kids.length : Int) != x) (some false) (qb (slices_ContainsFunc_impl_Term_impl_Term_T a0.kids (V.c (C.fn 140 []))) fun x => br x (some false) (br (a0.op == 1) (qb (impl_in_T a0.n 0 1000000) fun x => br x (some (a0.s.toList == (ByteArray.mk #[]).toList)) (some false)) (br (a0.op == 2) (br (a0.n == 0) (some (decide ((↑a0.s.size : Int) ≤ 300))) (some false)) (br (a0.op == 5) (br (a0.n == 0) (br (a0.s.toList == (ByteArray.mk #[]).toList) (qb (idx a0.kids 1) fun y => qb (idx a0.kids 0) fun y_1 => qb (impl_Before_T y y_1) fun x => some !x) (some false)) (some false)) (br (a0.n == 0) (some (a0.s.toList == (ByteArray.mk #[]).toList)) (some false))))))

theorem impl_formOk_res (n : Nat) (a0 : Term) : residT Tryz.prog cfg RN n 99 [.ag (Term.cells a0)] (.bool) = impl_formOk_R n a0 := by kernel_rfl

theorem impl_formOk_of (n : Nat) (a0 : Term) {y} (h : impl_formOk_R n a0 = some y) : impl_formOk_T a0 = some y := presT_of (((impl_formOk_res n a0)).trans h)

noncomputable def impl_Before_R (n : Nat) (a0 : Term) (a1 : Term) : Option Bool := br (a0.op != a1.op) (some (decide (a0.op < a1.op))) (br (a0.n != a1.n) (some (decide (a0.n < a1.n))) (br (!a0.s.toList == a1.s.toList) (some (Op.bytesLess a0.s.toList a1.s.toList)) (br ((↑a0.kids.length : Int) != (↑a1.kids.length : Int)) (some (decide ((↑a0.kids.length : Int) < (↑a1.kids.length : Int)))) (qb (impl_Before_L10 n n false false a0.kids (↑a0.kids.length : Int) 0 a1) fun x => br (isRetE x.fst) (some x.snd.fst.fst) (br (isExt 1 x.fst) (some false) none)))))

theorem impl_Before_res (n : Nat) (a0 : Term) (a1 : Term) : residT Tryz.prog cfg RN n 100 [.ag (Term.cells a0), .ag (Term.cells a1)] (.bool) = impl_Before_R n a0 a1 := by kernel_rfl

theorem impl_Before_of (n : Nat) (a0 : Term) (a1 : Term) {y} (h : impl_Before_R n a0 a1 = some y) : impl_Before_T a0 a1 = some y := presT_of (((impl_Before_res n a0 a1)).trans h)

noncomputable def spec_TermOk_R (n : Nat) (a0 : Term) : Option Bool := qb (spec_TermSize_T a0) fun x => br (decide (x ≤ 200)) (qb (spec_l1Right_T a0) fun x => some x) (some false)

theorem spec_TermOk_res (n : Nat) (a0 : Term) : residT Tryz.prog cfg RN n 104 [.ag (Term.cells a0)] (.bool) = spec_TermOk_R n a0 := by kernel_rfl

theorem spec_TermOk_of (n : Nat) (a0 : Term) {y} (h : spec_TermOk_R n a0 = some y) : spec_TermOk_T a0 = some y := presT_of (((spec_TermOk_res n a0)).trans h)

noncomputable def impl_in_R (n : Nat) (a0 : Int) (a1 : Int) (a2 : Int) : Option Bool := br (decide (a0 ≥ a1)) (some (decide (a0 ≤ a2))) (some false)

theorem impl_in_res (n : Nat) (a0 : Int) (a1 : Int) (a2 : Int) : residT Tryz.prog cfg RN n 110 [.int a0, .int a1, .int a2] (.bool) = impl_in_R n a0 a1 a2 := by kernel_rfl

theorem impl_in_of (n : Nat) (a0 : Int) (a1 : Int) (a2 : Int) {y} (h : impl_in_R n a0 a1 a2 = some y) : impl_in_T a0 a1 a2 = some y := presT_of (((impl_in_res n a0 a1 a2)).trans h)

noncomputable def impl_HostOk_R (n : Nat) (a0 : ByteArray) : Option Bool := qb (impl_labelsOk_T a0 2) fun x => some x

theorem impl_HostOk_res (n : Nat) (a0 : ByteArray) : residT Tryz.prog cfg RN n 111 [.str a0] (.bool) = impl_HostOk_R n a0 := by kernel_rfl

theorem impl_HostOk_of (n : Nat) (a0 : ByteArray) {y} (h : impl_HostOk_R n a0 = some y) : impl_HostOk_T a0 = some y := presT_of (((impl_HostOk_res n a0)).trans h)

noncomputable def impl_isAtom_R (n : Nat) (a0 : Int) : Option Bool := qb (impl_in_T a0 0 1000000) fun x => some x

theorem impl_isAtom_res (n : Nat) (a0 : Int) : residT Tryz.prog cfg RN n 112 [.int a0] (.bool) = impl_isAtom_R n a0 := by kernel_rfl

theorem impl_isAtom_of (n : Nat) (a0 : Int) {y} (h : impl_isAtom_R n a0 = some y) : impl_isAtom_T a0 = some y := presT_of (((impl_isAtom_res n a0)).trans h)

noncomputable def impl_noTerm_R (n : Nat) (a0 : Term) : Option Bool := qb (impl_Same_T a0 (Term.mk 0 0 (ByteArray.mk #[]) [])) fun x => some x

theorem impl_noTerm_res (n : Nat) (a0 : Term) : residT Tryz.prog cfg RN n 113 [.ag (Term.cells a0)] (.bool) = impl_noTerm_R n a0 := by kernel_rfl

theorem impl_noTerm_of (n : Nat) (a0 : Term) {y} (h : impl_noTerm_R n a0 = some y) : impl_noTerm_T a0 = some y := presT_of (((impl_noTerm_res n a0)).trans h)

noncomputable def spec_l1In_R (n : Nat) (a0 : Int) (a1 : Int) (a2 : Int) : Option Bool := br (decide (a0 ≥ a1)) (some (decide (a0 ≤ a2))) (some false)

theorem spec_l1In_res (n : Nat) (a0 : Int) (a1 : Int) (a2 : Int) : residT Tryz.prog cfg RN n 121 [.int a0, .int a1, .int a2] (.bool) = spec_l1In_R n a0 a1 a2 := by kernel_rfl

theorem spec_l1In_of (n : Nat) (a0 : Int) (a1 : Int) (a2 : Int) {y} (h : spec_l1In_R n a0 a1 a2 = some y) : spec_l1In_T a0 a1 a2 = some y := presT_of (((spec_l1In_res n a0 a1 a2)).trans h)

noncomputable def spec_HostOk_R (n : Nat) (a0 : ByteArray) : Option Bool := qb (spec_l5Labels_T a0 2) fun x => some x

theorem spec_HostOk_res (n : Nat) (a0 : ByteArray) : residT Tryz.prog cfg RN n 122 [.str a0] (.bool) = spec_HostOk_R n a0 := by kernel_rfl

theorem spec_HostOk_of (n : Nat) (a0 : ByteArray) {y} (h : spec_HostOk_R n a0 = some y) : spec_HostOk_T a0 = some y := presT_of (((spec_HostOk_res n a0)).trans h)

noncomputable def impl_goes_R (n : Nat) (a0 : Client) (a1 : Term) (a2 : Int) : Option (Client × List Term × Unit) := qb (impl_ClientSay_T a0 a1) fun x => br (decide (x.fst.out > 100)) (qb (impl_failed_T a0) fun x => some (Client.mk x.fst.step x.fst.host x.fst.must x.fst.eph x.fst.body (Term.mk x.fst.share.op x.fst.share.n x.fst.share.s x.fst.share.kids) x.fst.inn x.fst.out x.fst.tls x.fst.proved, x.snd.fst, PUnit.unit)) (some (Client.mk a2 x.fst.host x.fst.must x.fst.eph x.fst.body (Term.mk x.fst.share.op x.fst.share.n x.fst.share.s x.fst.share.kids) x.fst.inn x.fst.out x.fst.tls x.fst.proved, [Term.mk x.snd.fst.op x.snd.fst.n x.snd.fst.s x.snd.fst.kids], PUnit.unit))

theorem impl_goes_res (n : Nat) (a0 : Client) (a1 : Term) (a2 : Int) : residT Tryz.prog cfg RN n 123 [.ag (Client.cells a0), .ag (Term.cells a1), .int a2] (.tup [.client, .sl .term]) = impl_goes_R n a0 a1 a2 := by kernel_rfl

theorem impl_goes_of (n : Nat) (a0 : Client) (a1 : Term) (a2 : Int) {y} (h : impl_goes_R n a0 a1 a2 = some y) : impl_goes_T a0 a1 a2 = some y := presT_of (((impl_goes_res n a0 a1 a2)).trans h)

noncomputable def spec_Before_R (n : Nat) (a0 : Term) (a1 : Term) : Option Bool := br (a0.op != a1.op) (some (decide (a0.op < a1.op))) (br (a0.n != a1.n) (some (decide (a0.n < a1.n))) (br (!a0.s.toList == a1.s.toList) (some (Op.bytesLess a0.s.toList a1.s.toList)) (br ((↑a0.kids.length : Int) != (↑a1.kids.length : Int)) (some (decide ((↑a0.kids.length : Int) < (↑a1.kids.length : Int)))) (qb (spec_Before_L10 n n false 0 a0 a1) fun x => br (isRetE x.fst) (some x.snd.fst.fst) (br (isExt 1 x.fst) (some false) none)))))

theorem spec_Before_res (n : Nat) (a0 : Term) (a1 : Term) : residT Tryz.prog cfg RN n 129 [.ag (Term.cells a0), .ag (Term.cells a1)] (.bool) = spec_Before_R n a0 a1 := by kernel_rfl

theorem spec_Before_of (n : Nat) (a0 : Term) (a1 : Term) {y} (h : spec_Before_R n a0 a1 = some y) : spec_Before_T a0 a1 = some y := presT_of (((spec_Before_res n a0 a1)).trans h)

noncomputable def impl_cloneAll_R (n : Nat) (a0 : List Term) : Option (List Term) := qb (impl_cloneAll_L3 n n [] false a0 (↑a0.length : Int) 0) fun x => br (isRetE x.fst) none (br (isExt 0 x.fst) (some x.snd.snd.fst) none)

theorem impl_cloneAll_res (n : Nat) (a0 : List Term) : residT Tryz.prog cfg RN n 132 [.sl false .term a0] (.sl .term) = impl_cloneAll_R n a0 := by kernel_rfl

theorem impl_cloneAll_of (n : Nat) (a0 : List Term) {y} (h : impl_cloneAll_R n a0 = some y) : impl_cloneAll_T a0 = some y := presT_of (((impl_cloneAll_res n a0)).trans h)

noncomputable def impl_arity_R (n : Nat) (a0 : Int) : Option Int := br (a0 == 1) (some 0) (br (a0 == 2) (some 0) (br (a0 == 4) (some 1) (br (a0 == 6) (some 1) (br (a0 == 3) (some 2) (br (a0 == 5) (some 2) (br (a0 == 7) (some 2) (br (a0 == 8) (some 2) (some (-1)))))))))

theorem impl_arity_res (n : Nat) (a0 : Int) : residT Tryz.prog cfg RN n 138 [.int a0] (.int) = impl_arity_R n a0 := by kernel_rfl

theorem impl_arity_of (n : Nat) (a0 : Int) {y} (h : impl_arity_R n a0 = some y) : impl_arity_T a0 = some y := presT_of (((impl_arity_res n a0)).trans h)

noncomputable def ContainsFunc_formOk_1_R (n : Nat) (a0 : List Term) : Option Bool := qb (slices_IndexFunc_impl_Term_impl_Term_T a0 (V.c (C.fn 140 []))) fun x => some (decide (x ≥ 0))

theorem ContainsFunc_formOk_1_res (n : Nat) (a0 : List Term) : residT Tryz.prog cfg RN n 139 [.sl false .term a0, .c (.fn 140 [])] (.bool) = ContainsFunc_formOk_1_R n a0 := by kernel_rfl

theorem ContainsFunc_formOk_1_of (n : Nat) (a0 : List Term) {y} (h : ContainsFunc_formOk_1_R n a0 = some y) : slices_ContainsFunc_impl_Term_impl_Term_T a0 (.c (.fn 140 [])) = some y := presT_of (((ContainsFunc_formOk_1_res n a0)).trans h)

noncomputable def spec_TermSize_R (n : Nat) (a0 : Term) : Option Int := qb (spec_TermSize_L3 n n 1 0 a0) fun x => br (isRetE x.fst) none (br (isExt 0 x.fst) (some x.snd.fst.fst) none)

theorem spec_TermSize_res (n : Nat) (a0 : Term) : residT Tryz.prog cfg RN n 142 [.ag (Term.cells a0)] (.int) = spec_TermSize_R n a0 := by kernel_rfl

theorem spec_TermSize_of (n : Nat) (a0 : Term) {y} (h : spec_TermSize_R n a0 = some y) : spec_TermSize_T a0 = some y := presT_of (((spec_TermSize_res n a0)).trans h)

noncomputable def spec_l1Right_R (n : Nat) (a0 : Term) : Option Bool := qb (spec_l1Kids_T a0.op) fun x => br (x != (↑a0.kids.length : Int)) (some false) (br (a0.op != 1) (br (a0.n != 0) (some false) (br (a0.op != 2) (br (!a0.s.toList == (ByteArray.mk #[]).toList) (some false) (qb (spec_l1In_T a0.n 0 1000000) fun x => br (!x) (some false) (br (decide ((↑a0.s.size : Int) > 300)) (some false) (qb (spec_l1Right_L4 n n false 0 a0) fun x => br (isRetE x.fst) (some x.snd.fst.snd.fst) (br (isExt 0 x.fst) (br (x.snd.snd.fst.op != 5) (some true) (qb (idx x.snd.snd.fst.kids 1) fun y => qb (idx x.snd.snd.fst.kids 0) fun y_1 => qb (spec_Before_T y y_1) fun x => some !x)) none))))) (qb (spec_l1In_T a0.n 0 1000000) fun x => br (!x) (some false) (br (decide ((↑a0.s.size : Int) > 300)) (some false) (qb (spec_l1Right_L4 n n false 0 a0) fun x => br (isRetE x.fst) (some x.snd.fst.snd.fst) (br (isExt 0 x.fst) (br (x.snd.snd.fst.op != 5) (some true) (qb (idx x.snd.snd.fst.kids 1) fun y => qb (idx x.snd.snd.fst.kids 0) fun y_1 => qb (spec_Before_T y y_1) fun x => some !x)) none)))))) (br (a0.op != 2) (br (!a0.s.toList == (ByteArray.mk #[]).toList) (some false) (qb (spec_l1In_T a0.n 0 1000000) fun x => br (!x) (some false) (br (decide ((↑a0.s.size : Int) > 300)) (some false) (qb (spec_l1Right_L4 n n false 0 a0) fun x => br (isRetE x.fst) (some x.snd.fst.snd.fst) (br (isExt 0 x.fst) (br (x.snd.snd.fst.op != 5) (some true) (qb (idx x.snd.snd.fst.kids 1) fun y => qb (idx x.snd.snd.fst.kids 0) fun y_1 => qb (spec_Before_T y y_1) fun x => some !x)) none))))) (qb (spec_l1In_T a0.n 0 1000000) fun x => br (!x) (some false) (br (decide ((↑a0.s.size : Int) > 300)) (some false) (qb (spec_l1Right_L4 n n false 0 a0) fun x => br (isRetE x.fst) (some x.snd.fst.snd.fst) (br (isExt 0 x.fst) (br (x.snd.snd.fst.op != 5) (some true) (qb (idx x.snd.snd.fst.kids 1) fun y => qb (idx x.snd.snd.fst.kids 0) fun y_1 => qb (spec_Before_T y y_1) fun x => some !x)) none))))))

theorem spec_l1Right_res (n : Nat) (a0 : Term) : residT Tryz.prog cfg RN n 143 [.ag (Term.cells a0)] (.bool) = spec_l1Right_R n a0 := by kernel_rfl

theorem spec_l1Right_of (n : Nat) (a0 : Term) {y} (h : spec_l1Right_R n a0 = some y) : spec_l1Right_T a0 = some y := presT_of (((spec_l1Right_res n a0)).trans h)

noncomputable def impl_labelsOk_R (n : Nat) (a0 : ByteArray) (a1 : Int) : Option Bool := qb (impl_Labels_T a0) fun x => br (decide ((↑a0.size : Int) ≤ 60)) (br (decide ((↑(List.length x) : Int) ≥ a1)) (qb (slices_ContainsFunc_string_string_T x (V.c (C.fn 163 []))) fun x => some !x) (some false)) (some false)

theorem impl_labelsOk_res (n : Nat) (a0 : ByteArray) (a1 : Int) : residT Tryz.prog cfg RN n 147 [.str a0, .int a1] (.bool) = impl_labelsOk_R n a0 a1 := by kernel_rfl

theorem impl_labelsOk_of (n : Nat) (a0 : ByteArray) (a1 : Int) {y} (h : impl_labelsOk_R n a0 a1 = some y) : impl_labelsOk_T a0 a1 = some y := presT_of (((impl_labelsOk_res n a0 a1)).trans h)

noncomputable def spec_l5Labels_R (n : Nat) (a0 : ByteArray) (a1 : Int) : Option Bool := qb (spec_Labels_T a0) fun x => qb (spec_l5Labels_L3 n n a0 a1 false false x 0) fun x => br (isRetE x.fst) (some x.snd.fst.snd.snd.fst) (br (isExt 0 x.fst) (br (decide ((↑(List.length x.snd.fst.snd.snd.snd.fst) : Int) ≥ x.snd.fst.snd.fst)) (some (decide ((↑(ByteArray.size x.snd.fst.fst) : Int) ≤ 60))) (some false)) none)

theorem spec_l5Labels_res (n : Nat) (a0 : ByteArray) (a1 : Int) : residT Tryz.prog cfg RN n 153 [.str a0, .int a1] (.bool) = spec_l5Labels_R n a0 a1 := by kernel_rfl

theorem spec_l5Labels_of (n : Nat) (a0 : ByteArray) (a1 : Int) {y} (h : spec_l5Labels_R n a0 a1 = some y) : spec_l5Labels_T a0 a1 = some y := presT_of (((spec_l5Labels_res n a0 a1)).trans h)

noncomputable def impl_ClientSay_R (n : Nat) (a0 : Client) (a1 : Term) : Option (Client × Term × Unit) := qb (impl_cloneClient_T a0) fun x => br (!a0.tls) (qb (impl_clone_T a1) fun x_1 => some (Client.mk x.step x.host x.must x.eph x.body (Term.mk x.share.op x.share.n x.share.s x.share.kids) x.inn x.out x.tls x.proved, Term.mk x_1.op x_1.n x_1.s x_1.kids, PUnit.unit)) (qb (impl_KeyOf_T a0.share 1) fun x_1 => qb (impl_Seal_T x_1 a0.out a1) fun x_2 => some (Client.mk x.step x.host x.must x.eph x.body (Term.mk x.share.op x.share.n x.share.s x.share.kids) x.inn (IntKind.i64.wrap (x.out + 1)) x.tls x.proved, Term.mk x_2.op x_2.n x_2.s x_2.kids, PUnit.unit))

theorem impl_ClientSay_res (n : Nat) (a0 : Client) (a1 : Term) : residT Tryz.prog cfg RN n 154 [.ag (Client.cells a0), .ag (Term.cells a1)] (.tup [.client, .el .term]) = impl_ClientSay_R n a0 a1 := by kernel_rfl

theorem impl_ClientSay_of (n : Nat) (a0 : Client) (a1 : Term) {y} (h : impl_ClientSay_R n a0 a1 = some y) : impl_ClientSay_T a0 a1 = some y := presT_of (((impl_ClientSay_res n a0 a1)).trans h)

noncomputable def IndexFunc_formOk_1_R (n : Nat) (a0 : List Term) : Option Int := qb (IndexFunc_formOk_1_L2 n n false a0 0 (↑a0.length : Int) 0) fun x => br (isRetE x.fst) (some x.snd.fst.fst) (br (isExt 0 x.fst) (some (-1)) none)

theorem IndexFunc_formOk_1_res (n : Nat) (a0 : List Term) : residT Tryz.prog cfg RN n 159 [.sl false .term a0, .c (.fn 140 [])] (.int) = IndexFunc_formOk_1_R n a0 := by kernel_rfl

theorem IndexFunc_formOk_1_of (n : Nat) (a0 : List Term) {y} (h : IndexFunc_formOk_1_R n a0 = some y) : slices_IndexFunc_impl_Term_impl_Term_T a0 (.c (.fn 140 [])) = some y := presT_of (((IndexFunc_formOk_1_res n a0)).trans h)

noncomputable def spec_l1Kids_R (n : Nat) (a0 : Int) : Option Int := br (a0 == 1) (some 0) (br (a0 == 2) (some 0) (br (a0 == 4) (some 1) (br (a0 == 6) (some 1) (br (a0 == 3) (some 2) (br (a0 == 5) (some 2) (br (a0 == 7) (some 2) (br (a0 == 8) (some 2) (some (-1)))))))))

theorem spec_l1Kids_res (n : Nat) (a0 : Int) : residT Tryz.prog cfg RN n 160 [.int a0] (.int) = spec_l1Kids_R n a0 := by kernel_rfl

theorem spec_l1Kids_of (n : Nat) (a0 : Int) {y} (h : spec_l1Kids_R n a0 = some y) : spec_l1Kids_T a0 = some y := presT_of (((spec_l1Kids_res n a0)).trans h)

noncomputable def impl_Labels_R (n : Nat) (a0 : ByteArray) : Option (List ByteArray) := qb (strings_Split_T a0 (ByteArray.mk #[46])) fun x => some x

theorem impl_Labels_res (n : Nat) (a0 : ByteArray) : residT Tryz.prog cfg RN n 161 [.str a0] (.sl .str) = impl_Labels_R n a0 := by kernel_rfl

theorem impl_Labels_of (n : Nat) (a0 : ByteArray) {y} (h : impl_Labels_R n a0 = some y) : impl_Labels_T a0 = some y := presT_of (((impl_Labels_res n a0)).trans h)

noncomputable def ContainsFunc_labelsOk_1_R (n : Nat) (a0 : List ByteArray) : Option Bool := qb (slices_IndexFunc_string_string_T a0 (V.c (C.fn 163 []))) fun x => some (decide (x ≥ 0))

theorem ContainsFunc_labelsOk_1_res (n : Nat) (a0 : List ByteArray) : residT Tryz.prog cfg RN n 162 [.sl false .str a0, .c (.fn 163 [])] (.bool) = ContainsFunc_labelsOk_1_R n a0 := by kernel_rfl

theorem ContainsFunc_labelsOk_1_of (n : Nat) (a0 : List ByteArray) {y} (h : ContainsFunc_labelsOk_1_R n a0 = some y) : slices_ContainsFunc_string_string_T a0 (.c (.fn 163 [])) = some y := presT_of (((ContainsFunc_labelsOk_1_res n a0)).trans h)

noncomputable def impl_labelOk_R (n : Nat) (a0 : ByteArray) : Option Bool := qb (impl_labelOk_L2 n n a0 false (↑a0.size : Int) 0) fun x => br (isRetE x.fst) (some x.snd.fst.snd.fst) (br (isExt 0 x.fst) (qb (impl_in_T (↑(ByteArray.size x.snd.fst.fst) : Int) 1 10) fun x => some x) none)

theorem impl_labelOk_res (n : Nat) (a0 : ByteArray) : residT Tryz.prog cfg RN n 164 [.str a0] (.bool) = impl_labelOk_R n a0 := by kernel_rfl

theorem impl_labelOk_of (n : Nat) (a0 : ByteArray) {y} (h : impl_labelOk_R n a0 = some y) : impl_labelOk_T a0 = some y := presT_of (((impl_labelOk_res n a0)).trans h)

noncomputable def spec_Labels_R (n : Nat) (a0 : ByteArray) : Option (List ByteArray) := qb (spec_Labels_L4 n n a0 [] 0 0) fun x => br (isRetE x.fst) none (br (isExt 0 x.fst) (some x.snd.snd.fst) none)

theorem spec_Labels_res (n : Nat) (a0 : ByteArray) : residT Tryz.prog cfg RN n 167 [.str a0] (.sl .str) = spec_Labels_R n a0 := by kernel_rfl

theorem spec_Labels_of (n : Nat) (a0 : ByteArray) {y} (h : spec_Labels_R n a0 = some y) : spec_Labels_T a0 = some y := presT_of (((spec_Labels_res n a0)).trans h)

noncomputable def spec_l5Label_R (n : Nat) (a0 : ByteArray) : Option Bool := qb (spec_l5Label_L2 n n a0 false 0) fun x => br (isRetE x.fst) (some x.snd.fst.snd.fst) (br (isExt 0 x.fst) (qb (spec_l1In_T (↑(ByteArray.size x.snd.fst.fst) : Int) 1 10) fun x => some x) none)

theorem spec_l5Label_res (n : Nat) (a0 : ByteArray) : residT Tryz.prog cfg RN n 168 [.str a0] (.bool) = spec_l5Label_R n a0 := by kernel_rfl

theorem spec_l5Label_of (n : Nat) (a0 : ByteArray) {y} (h : spec_l5Label_R n a0 = some y) : spec_l5Label_T a0 = some y := presT_of (((spec_l5Label_res n a0)).trans h)

noncomputable def IndexFunc_labelsOk_1_R (n : Nat) (a0 : List ByteArray) : Option Int := qb (IndexFunc_labelsOk_1_L2 n n false a0 0 (↑a0.length : Int) 0) fun x => br (isRetE x.fst) (some x.snd.fst.fst) (br (isExt 0 x.fst) (some (-1)) none)

theorem IndexFunc_labelsOk_1_res (n : Nat) (a0 : List ByteArray) : residT Tryz.prog cfg RN n 176 [.sl false .str a0, .c (.fn 163 [])] (.int) = IndexFunc_labelsOk_1_R n a0 := by kernel_rfl

theorem IndexFunc_labelsOk_1_of (n : Nat) (a0 : List ByteArray) {y} (h : IndexFunc_labelsOk_1_R n a0 = some y) : slices_IndexFunc_string_string_T a0 (.c (.fn 163 [])) = some y := presT_of (((IndexFunc_labelsOk_1_res n a0)).trans h)

theorem laws_FnMitm_round9 (n : Nat) (t0 : Bool) (x0 : List UInt8) (t7 : Bool) (x7 : List ByteArray) (x8 : Int) (y3 : Client) : roundK Tryz.prog cfg RN n 5 3 9 0 (laws_FnMitm_S9 t0 x0 t7 x7 x8 y3) = (br (decide (x8 < 3)) (qb (idx x7 x8) fun y => qb (laws_line_T y) fun x => qb (impl_ClientHear_T y3 x 0) fun x => some (Ex.nrm, laws_FnMitm_S9 t0 x0 t7 x7 (IntKind.i64.wrap (x8 + 1)) x.fst)) (some (Ex.ext 0, laws_FnMitm_O9 t0 x0 y3)) : Option (Ex × St)) := by kernel_rfl

theorem EqualFunc_Same_round4 (n : Nat) (t1 : Bool) (x1 : List Term) (x6 : Bool) (t15 : Bool) (x15 : List Term) (x16 : Int) (x17 : Int) : roundK Tryz.prog cfg RN n 5 85 4 0 (EqualFunc_Same_S4 t1 x1 x6 t15 x15 x16 x17) = (br (decide (x17 < x16)) (qb (idx x15 x17) fun y => qb (idx x1 x17) fun y_1 => qb (impl_Same_T y y_1) fun x => br (!x) (some (Ex.ret, EqualFunc_Same_O4 false)) (some (Ex.nrm, EqualFunc_Same_S4 t1 x1 x6 t15 x15 x16 (IntKind.i64.wrap (x17 + 1))))) (some (Ex.ext 0, EqualFunc_Same_O4 x6)) : Option (Ex × St)) := by kernel_rfl

theorem spec_Same_round4 (n : Nat) (x4 : Bool) (x5 : Int) (y2 : Term) (y3 : Term) : roundK Tryz.prog cfg RN n 5 94 4 0 (spec_Same_S4 x4 x5 y2 y3) = (br (decide (x5 < (↑y2.kids.length : Int))) (qb (idx y2.kids x5) fun y => qb (idx y3.kids x5) fun y_1 => qb (spec_Same_T y y_1) fun x => br (!x) (some (Ex.ret, spec_Same_O4 false)) (some (Ex.nrm, spec_Same_S4 x4 (IntKind.i64.wrap (x5 + 1)) y2 y3))) (some (Ex.ext 0, spec_Same_O4 x4)) : Option (Ex × St)) := by kernel_rfl

theorem impl_TermSize_round3 (n : Nat) (x3 : Int) (t7 : Bool) (x7 : List Term) (x8 : Int) (x9 : Int) : roundK Tryz.prog cfg RN n 5 98 3 0 (impl_TermSize_S3 x3 t7 x7 x8 x9) = (br (decide (x9 < x8)) (qb (idx x7 x9) fun y => qb (impl_TermSize_T y) fun x => some (Ex.nrm, impl_TermSize_S3 (IntKind.i64.wrap (x3 + x)) t7 x7 x8 (IntKind.i64.wrap (x9 + 1)))) (some (Ex.ext 0, impl_TermSize_O3 x3)) : Option (Ex × St)) := by kernel_rfl

theorem impl_Before_round10 (n : Nat) (x4 : Bool) (t56 : Bool) (x56 : List Term) (x57 : Int) (x58 : Int) (y3 : Term) : roundK Tryz.prog cfg RN n 5 100 10 0 (impl_Before_S10 x4 t56 x56 x57 x58 y3) = (br (decide (x58 < x57)) (qb (idx x56 x58) fun y => qb (idx y3.kids x58) fun y_1 => qb (impl_Same_T y y_1) fun x => br (!x) (qb (idx y3.kids x58) fun y_2 => qb (impl_Before_T y y_2) fun x => some (Ex.ret, impl_Before_O10 x)) (some (Ex.nrm, impl_Before_S10 x4 t56 x56 x57 (IntKind.i64.wrap (x58 + 1)) y3))) (some (Ex.ext 1, impl_Before_O10 x4)) : Option (Ex × St)) := by kernel_rfl

theorem spec_Before_round10 (n : Nat) (x4 : Bool) (x5 : Int) (y2 : Term) (y3 : Term) : roundK Tryz.prog cfg RN n 5 129 10 0 (spec_Before_S10 x4 x5 y2 y3) = (br (decide (x5 < (↑y2.kids.length : Int))) (qb (idx y2.kids x5) fun y => qb (idx y3.kids x5) fun y_1 => qb (spec_Same_T y y_1) fun x => br (!x) (qb (idx y2.kids x5) fun y => qb (idx y3.kids x5) fun y_2 => qb (spec_Before_T y y_2) fun x => some (Ex.ret, spec_Before_O10 x)) (some (Ex.nrm, spec_Before_S10 x4 (IntKind.i64.wrap (x5 + 1)) y2 y3))) (some (Ex.ext 1, spec_Before_O10 x4)) : Option (Ex × St)) := by kernel_rfl

theorem impl_cloneAll_round3 (n : Nat) (x3 : List Term) (t6 : Bool) (x6 : List Term) (x7 : Int) (x8 : Int) : roundK Tryz.prog cfg RN n 5 132 3 0 (impl_cloneAll_S3 x3 t6 x6 x7 x8) = (br (decide (x8 < x7)) (qb (idx x6 x8) fun y => qb (impl_clone_T y) fun x => br (((x3).length + [Term.mk x.op x.n x.s x.kids].length).ble appMax) (some (Ex.nrm, impl_cloneAll_S3 (x3 ++ [Term.mk x.op x.n x.s x.kids]) t6 x6 x7 (IntKind.i64.wrap (x8 + 1)))) none) (some (Ex.ext 0, impl_cloneAll_O3 x3)) : Option (Ex × St)) := by kernel_rfl

theorem spec_TermSize_round3 (n : Nat) (x3 : Int) (x4 : Int) (y1 : Term) : roundK Tryz.prog cfg RN n 5 142 3 0 (spec_TermSize_S3 x3 x4 y1) = (br (decide (x4 < (↑y1.kids.length : Int))) (qb (idx y1.kids x4) fun y => qb (spec_TermSize_T y) fun x => some (Ex.nrm, spec_TermSize_S3 (IntKind.i64.wrap (x3 + x)) (IntKind.i64.wrap (x4 + 1)) y1)) (some (Ex.ext 0, spec_TermSize_O3 x3)) : Option (Ex × St)) := by kernel_rfl

theorem spec_l1Right_round4 (n : Nat) (x2 : Bool) (x3 : Int) (y1 : Term) : roundK Tryz.prog cfg RN n 5 143 4 0 (spec_l1Right_S4 x2 x3 y1) = (br (decide (x3 < (↑y1.kids.length : Int))) (qb (idx y1.kids x3) fun y => qb (spec_l1Right_T y) fun x => br (!x) (some (Ex.ret, spec_l1Right_O4 false y1)) (some (Ex.nrm, spec_l1Right_S4 x2 (IntKind.i64.wrap (x3 + 1)) y1))) (some (Ex.ext 0, spec_l1Right_O4 x2 y1)) : Option (Ex × St)) := by kernel_rfl

theorem spec_l5Labels_round3 (n : Nat) (x0 : ByteArray) (x1 : Int) (x4 : Bool) (t5 : Bool) (x5 : List ByteArray) (x6 : Int) : roundK Tryz.prog cfg RN n 5 153 3 0 (spec_l5Labels_S3 x0 x1 x4 t5 x5 x6) = (br (decide (x6 < (↑x5.length : Int))) (qb (idx x5 x6) fun y => qb (spec_l5Label_T y) fun x => br (!x) (some (Ex.ret, spec_l5Labels_O3 x0 x1 false t5 x5)) (some (Ex.nrm, spec_l5Labels_S3 x0 x1 x4 t5 x5 (IntKind.i64.wrap (x6 + 1))))) (some (Ex.ext 0, spec_l5Labels_O3 x0 x1 x4 t5 x5)) : Option (Ex × St)) := by kernel_rfl

theorem IndexFunc_formOk_1_round2 (n : Nat) (t0 : Bool) (x0 : List Term) (x4 : Int) (x7 : Int) (x8 : Int) : roundK Tryz.prog cfg RN n 5 159 2 0 (IndexFunc_formOk_1_S2 t0 x0 x4 x7 x8) = (br (decide (x8 < x7)) (qb (idx x0 x8) fun y => qb (impl_formOk_T y) fun x => br (!x) (some (Ex.ret, IndexFunc_formOk_1_O2 x8)) (some (Ex.nrm, IndexFunc_formOk_1_S2 t0 x0 x4 x7 (IntKind.i64.wrap (x8 + 1))))) (some (Ex.ext 0, IndexFunc_formOk_1_O2 x4)) : Option (Ex × St)) := by kernel_rfl

theorem impl_labelOk_round2 (n : Nat) (x0 : ByteArray) (x2 : Bool) (x6 : Int) (x7 : Int) : roundK Tryz.prog cfg RN n 5 164 2 0 (impl_labelOk_S2 x0 x2 x6 x7) = (br (decide (x7 < x6)) (qb (byteAt x0 x7) fun b => br (decide (b < 97)) (br (decide (b < 48)) (br (b != 45) (some (Ex.ret, impl_labelOk_O2 x0 false)) (br (x7 == 0) (some (Ex.ret, impl_labelOk_O2 x0 false)) (br (x7 == IntKind.i64.wrap ((↑x0.size : Int) - 1)) (some (Ex.ret, impl_labelOk_O2 x0 false)) (some (Ex.nrm, impl_labelOk_S2 x0 x2 x6 (IntKind.i64.wrap (x7 + 1))))))) (br (decide (b > 57)) (br (b != 45) (some (Ex.ret, impl_labelOk_O2 x0 false)) (br (x7 == 0) (some (Ex.ret, impl_labelOk_O2 x0 false)) (br (x7 == IntKind.i64.wrap ((↑x0.size : Int) - 1)) (some (Ex.ret, impl_labelOk_O2 x0 false)) (some (Ex.nrm, impl_labelOk_S2 x0 x2 x6 (IntKind.i64.wrap (x7 + 1))))))) (some (Ex.nrm, impl_labelOk_S2 x0 x2 x6 (IntKind.i64.wrap (x7 + 1)))))) (br (decide (b > 122)) (br (decide (b < 48)) (br (b != 45) (some (Ex.ret, impl_labelOk_O2 x0 false)) (br (x7 == 0) (some (Ex.ret, impl_labelOk_O2 x0 false)) (br (x7 == IntKind.i64.wrap ((↑x0.size : Int) - 1)) (some (Ex.ret, impl_labelOk_O2 x0 false)) (some (Ex.nrm, impl_labelOk_S2 x0 x2 x6 (IntKind.i64.wrap (x7 + 1))))))) (br (decide (b > 57)) (br (b != 45) (some (Ex.ret, impl_labelOk_O2 x0 false)) (br (x7 == 0) (some (Ex.ret, impl_labelOk_O2 x0 false)) (br (x7 == IntKind.i64.wrap ((↑x0.size : Int) - 1)) (some (Ex.ret, impl_labelOk_O2 x0 false)) (some (Ex.nrm, impl_labelOk_S2 x0 x2 x6 (IntKind.i64.wrap (x7 + 1))))))) (some (Ex.nrm, impl_labelOk_S2 x0 x2 x6 (IntKind.i64.wrap (x7 + 1)))))) (some (Ex.nrm, impl_labelOk_S2 x0 x2 x6 (IntKind.i64.wrap (x7 + 1)))))) (some (Ex.ext 0, impl_labelOk_O2 x0 x2)) : Option (Ex × St)) := by kernel_rfl

theorem spec_Labels_round4 (n : Nat) (x0 : ByteArray) (x3 : List ByteArray) (x4 : Int) (x5 : Int) : roundK Tryz.prog cfg RN n 5 167 4 0 (spec_Labels_S4 x0 x3 x4 x5) = (br (decide (x5 ≤ (↑x0.size : Int))) (br (x5 == (↑x0.size : Int)) (qb (bnds x0.size (some x4) (some x5)) fun p => br (((x3).length + [x0.extract p.fst p.snd].length).ble appMax) (some (Ex.nrm, spec_Labels_S4 x0 (x3 ++ [x0.extract p.fst p.snd]) (IntKind.i64.wrap (x5 + 1)) (IntKind.i64.wrap (x5 + 1)))) none) (qb (byteAt x0 x5) fun b => br (b == 46) (qb (bnds x0.size (some x4) (some x5)) fun p => br (((x3).length + [x0.extract p.fst p.snd].length).ble appMax) (some (Ex.nrm, spec_Labels_S4 x0 (x3 ++ [x0.extract p.fst p.snd]) (IntKind.i64.wrap (x5 + 1)) (IntKind.i64.wrap (x5 + 1)))) none) (some (Ex.nrm, spec_Labels_S4 x0 x3 x4 (IntKind.i64.wrap (x5 + 1)))))) (some (Ex.ext 0, spec_Labels_O4 x3)) : Option (Ex × St)) := by kernel_rfl

theorem spec_l5Label_round2 (n : Nat) (x0 : ByteArray) (x2 : Bool) (x3 : Int) : roundK Tryz.prog cfg RN n 5 168 2 0 (spec_l5Label_S2 x0 x2 x3) = (br (decide (x3 < (↑x0.size : Int))) (qb (byteAt x0 x3) fun b => br (decide (b ≥ 97)) (br (decide (b ≤ 122)) (some (Ex.nrm, spec_l5Label_S2 x0 x2 (IntKind.i64.wrap (x3 + 1)))) (br (decide (b ≥ 48)) (br (decide (b ≤ 57)) (some (Ex.nrm, spec_l5Label_S2 x0 x2 (IntKind.i64.wrap (x3 + 1)))) (br (b == 45) (br (decide (x3 > 0)) (br (!decide (x3 < IntKind.i64.wrap ((↑x0.size : Int) - 1))) (some (Ex.ret, spec_l5Label_O2 x0 false)) (some (Ex.nrm, spec_l5Label_S2 x0 x2 (IntKind.i64.wrap (x3 + 1))))) (some (Ex.ret, spec_l5Label_O2 x0 false))) (some (Ex.ret, spec_l5Label_O2 x0 false)))) (br (b == 45) (br (decide (x3 > 0)) (br (!decide (x3 < IntKind.i64.wrap ((↑x0.size : Int) - 1))) (some (Ex.ret, spec_l5Label_O2 x0 false)) (some (Ex.nrm, spec_l5Label_S2 x0 x2 (IntKind.i64.wrap (x3 + 1))))) (some (Ex.ret, spec_l5Label_O2 x0 false))) (some (Ex.ret, spec_l5Label_O2 x0 false))))) (br (decide (b ≥ 48)) (br (decide (b ≤ 57)) (some (Ex.nrm, spec_l5Label_S2 x0 x2 (IntKind.i64.wrap (x3 + 1)))) (br (b == 45) (br (decide (x3 > 0)) (br (!decide (x3 < IntKind.i64.wrap ((↑x0.size : Int) - 1))) (some (Ex.ret, spec_l5Label_O2 x0 false)) (some (Ex.nrm, spec_l5Label_S2 x0 x2 (IntKind.i64.wrap (x3 + 1))))) (some (Ex.ret, spec_l5Label_O2 x0 false))) (some (Ex.ret, spec_l5Label_O2 x0 false)))) (br (b == 45) (br (decide (x3 > 0)) (br (!decide (x3 < IntKind.i64.wrap ((↑x0.size : Int) - 1))) (some (Ex.ret, spec_l5Label_O2 x0 false)) (some (Ex.nrm, spec_l5Label_S2 x0 x2 (IntKind.i64.wrap (x3 + 1))))) (some (Ex.ret, spec_l5Label_O2 x0 false))) (some (Ex.ret, spec_l5Label_O2 x0 false))))) (some (Ex.ext 0, spec_l5Label_O2 x0 x2)) : Option (Ex × St)) := by kernel_rfl

theorem IndexFunc_labelsOk_1_round2 (n : Nat) (t0 : Bool) (x0 : List ByteArray) (x4 : Int) (x7 : Int) (x8 : Int) : roundK Tryz.prog cfg RN n 5 176 2 0 (IndexFunc_labelsOk_1_S2 t0 x0 x4 x7 x8) = (br (decide (x8 < x7)) (qb (idx x0 x8) fun y => qb (impl_labelOk_T y) fun x => br (!x) (some (Ex.ret, IndexFunc_labelsOk_1_O2 x8)) (some (Ex.nrm, IndexFunc_labelsOk_1_S2 t0 x0 x4 x7 (IntKind.i64.wrap (x8 + 1))))) (some (Ex.ext 0, IndexFunc_labelsOk_1_O2 x4)) : Option (Ex × St)) := by kernel_rfl


end Go.Proofs.YtgegmojoakkohaaGreatDoor
