/-
  What each function comes to, over what the others answer, as plain data.
-/
import Derived.Test.YtgegmojoakkohaaGreatDoorRpResD
namespace Go.Proofs.YtgegmojoakkohaaGreatDoor
open Go.Vm
set_option linter.unusedVariables false

noncomputable def laws_FnReplies_R (n : Nat) (a0 : List UInt8) : Option (V × List Vm.Obj × List Vm.Obj) := qb (laws_big_T a0) fun x => br x (some (V.c (C.f (F.sc (Value.bool true))), [], [])) (qb (spec_DrawReply_T a0) fun x => qb (impl_Reply_T x.fst x.snd.fst x.snd.snd.fst x.snd.snd.snd.fst) fun x_1 => qb (spec_Reply_T x.fst x.snd.fst x.snd.snd.fst x.snd.snd.snd.fst) fun x_2 => qb (spec_DrawReplyOf_T a0) fun x_3 => qb (impl_ReplyOf_T x_3.fst x_3.snd.fst) fun x_4 => qb (spec_ReplyOf_T x_3.fst x_3.snd.fst) fun x_5 => br (!x_1.snd.fst == x_2.snd.fst) (some (V.c (C.f (F.sc (Value.bool false))), [], [])) (qb (impl_Same_T x_1.fst x_2.fst) fun x_6 => br (!x_6) (some (V.c (C.f (F.sc (Value.bool false))), [], [])) (br (!x_4.snd.snd.snd.snd.fst == x_5.snd.snd.snd.snd.fst) (some (V.c (C.f (F.sc (Value.bool false))), [], [])) (qb (impl_Same_T x_4.fst x_5.fst) fun x_7 => br (!x_7) (some (V.c (C.f (F.sc (Value.bool false))), [], [])) (qb (impl_Same_T x_4.snd.fst x_5.snd.fst) fun x_8 => br (!x_8) (some (V.c (C.f (F.sc (Value.bool false))), [], [])) (qb (impl_Same_T x_4.snd.snd.fst x_5.snd.snd.fst) fun x_9 => br (!x_9) (some (V.c (C.f (F.sc (Value.bool false))), [], [])) (qb (impl_Same_T x_4.snd.snd.snd.fst x_5.snd.snd.snd.fst) fun x_10 => br (!x_10) (some (V.c (C.f (F.sc (Value.bool false))), [], [])) (qb (spec_DrawProved_T a0) fun x_11 => qb (spec_DrawHelloOf_T a0) fun x_12 => qb (impl_HelloOf_T x_12) fun x_13 => qb (spec_HelloOf_T x_12) fun x_14 => qb (spec_DrawHello_T a0) fun x_15 => qb (spec_DrawDone_T a0) fun x_16 => qb (spec_DrawBoth_T a0) fun x_17 => qb (impl_Proved_T x_11.fst x_11.snd.fst x_11.snd.snd.fst x_11.snd.snd.snd.fst x_11.snd.snd.snd.snd.fst x_11.snd.snd.snd.snd.snd.fst) fun x_18 => qb (spec_Proved_T x_11.fst x_11.snd.fst x_11.snd.snd.fst x_11.snd.snd.snd.fst x_11.snd.snd.snd.snd.fst x_11.snd.snd.snd.snd.snd.fst) fun x_19 => br (!x_18 == x_19) (some (V.c (C.f (F.sc (Value.bool false))), [], [])) (br (!x_13.snd.fst == x_14.snd.fst) (some (V.c (C.f (F.sc (Value.bool false))), [], [])) (qb (impl_Same_T x_13.fst x_14.fst) fun x_20 => br (!x_20) (some (V.c (C.f (F.sc (Value.bool false))), [], [])) (qb (impl_Hello_T x_15) fun x_21 => qb (spec_Hello_T x_15) fun x_22 => qb (impl_Same_T x_21 x_22) fun x_23 => br (!x_23) (some (V.c (C.f (F.sc (Value.bool false))), [], [])) (qb (impl_Done_T x_16) fun x_24 => qb (spec_Done_T x_16) fun x_25 => qb (impl_Same_T x_24 x_25) fun x_26 => br (!x_26) (some (V.c (C.f (F.sc (Value.bool false))), [], [])) (qb (impl_Both_T x_17.fst x_17.snd.fst) fun x_27 => qb (spec_Both_T x_17.fst x_17.snd.fst) fun x_28 => qb (impl_Same_T x_27 x_28) fun x_29 => br (!x_29) (some (V.c (C.f (F.sc (Value.bool false))), [], [])) (qb (impl_Proved_T x_11.fst x_11.snd.fst x_11.snd.snd.fst x_11.snd.snd.snd.fst x_11.snd.snd.snd.snd.fst x_11.snd.snd.snd.snd.snd.fst) fun x_30 => br x_30 (qb (impl_CertGood_T x_11.snd.snd.fst x_11.snd.snd.snd.snd.fst x_11.snd.snd.snd.snd.snd.fst) fun x_31 => br (!x_31.snd.fst) (some (V.c (C.f (F.sc (Value.bool false))), [], [])) (br (!x_1.snd.fst) (some (V.c (C.f (F.sc (Value.bool true))), [], [])) (qb (impl_TermOk_T x.snd.snd.snd.fst) fun x_32 => br (!x_32) (some (V.c (C.f (F.sc (Value.bool true))), [], [])) (qb (impl_TermOk_T x.snd.snd.fst) fun x_33 => br (!x_33) (some (V.c (C.f (F.sc (Value.bool true))), [], [])) (qb (idx x.snd.fst.kids 0) fun y => qb (impl_ReplyOf_T y x_1.fst) fun x_34 => qb (impl_Agree_T x.fst x.snd.fst) fun x_35 => br x_34.snd.snd.snd.snd.fst (qb (impl_Pub_T x.fst) fun x_36 => qb (impl_Same_T x_34.fst x_36) fun x_37 => br x_37 (qb (impl_Same_T x_34.snd.fst x_35.fst) fun x_38 => br x_38 (qb (impl_Same_T x_34.snd.snd.fst x.snd.snd.snd.fst) fun x_39 => br x_39 (qb (impl_Pub_T x.fst) fun x_40 => qb (impl_Both_T x.snd.fst x_40) fun x_41 => qb (impl_Sign_T x.snd.snd.fst x_41) fun x => qb (impl_Same_T x_34.snd.snd.snd.fst x) fun x => some (V.c (C.f (F.sc (Value.bool x))), [], [])) (some (V.c (C.f (F.sc (Value.bool false))), [], []))) (some (V.c (C.f (F.sc (Value.bool false))), [], []))) (some (V.c (C.f (F.sc (Value.bool false))), [], []))) (some (V.c (C.f (F.sc (Value.bool false))), [], []))))))) (br (!x_1.snd.fst) (some (V.c (C.f (F.sc (Value.bool true))), [], [])) (qb (impl_TermOk_T x.snd.snd.snd.fst) fun x_31 => br (!x_31) (some (V.c (C.f (F.sc (Value.bool true))), [], [])) (qb (impl_TermOk_T x.snd.snd.fst) fun x_32 => br (!x_32) (some (V.c (C.f (F.sc (Value.bool true))), [], [])) (qb (idx x.snd.fst.kids 0) fun y => qb (impl_ReplyOf_T y x_1.fst) fun x_33 => qb (impl_Agree_T x.fst x.snd.fst) fun x_34 => br x_33.snd.snd.snd.snd.fst (qb (impl_Pub_T x.fst) fun x_35 => qb (impl_Same_T x_33.fst x_35) fun x_36 => br x_36 (qb (impl_Same_T x_33.snd.fst x_34.fst) fun x_37 => br x_37 (qb (impl_Same_T x_33.snd.snd.fst x.snd.snd.snd.fst) fun x_38 => br x_38 (qb (impl_Pub_T x.fst) fun x_39 => qb (impl_Both_T x.snd.fst x_39) fun x_40 => qb (impl_Sign_T x.snd.snd.fst x_40) fun x => qb (impl_Same_T x_33.snd.snd.snd.fst x) fun x => some (V.c (C.f (F.sc (Value.bool x))), [], [])) (some (V.c (C.f (F.sc (Value.bool false))), [], []))) (some (V.c (C.f (F.sc (Value.bool false))), [], []))) (some (V.c (C.f (F.sc (Value.bool false))), [], []))) (some (V.c (C.f (F.sc (Value.bool false))), [], []))))))))))))))))))))

theorem laws_FnReplies_res (n : Nat) (a0 : List UInt8) : resid Tryz.prog cfg RN n 4 [.sl false .byte a0] [] = laws_FnReplies_R n a0 := by kernel_rfl

noncomputable def laws_big_R (n : Nat) (a0 : List UInt8) : Option Bool := some (decide ((↑a0.length : Int) > 1048576))

theorem laws_big_res (n : Nat) (a0 : List UInt8) : residT Tryz.prog cfg RN n 7 [.sl false .byte a0] (.bool) = laws_big_R n a0 := by kernel_rfl

theorem laws_big_of (n : Nat) (a0 : List UInt8) {y} (h : laws_big_R n a0 = some y) : laws_big_T a0 = some y := presT_of (((laws_big_res n a0)).trans h)

noncomputable def impl_CertTerm_R (n : Nat) (a0 : Cert) : Option Term := qb (impl_CertOk_T a0) fun x => br (!x) (some (Term.mk 0 0 (ByteArray.mk #[]) [])) (qb (impl_Atom_T 1) fun x => qb (impl_text_T a0.host) fun x_1 => qb (impl_digits_T a0.til) fun x_2 => qb (impl_Pair_T a0.pub x_2) fun x_3 => qb (impl_Pair_T x_1 x_3) fun x_4 => qb (impl_Sign_T x x_4) fun x => some (Term.mk x.op x.n x.s x.kids))

theorem impl_CertTerm_res (n : Nat) (a0 : Cert) : residT Tryz.prog cfg RN n 13 [.ag (Cert.cells a0)] (.el .term) = impl_CertTerm_R n a0 := by kernel_rfl

theorem impl_CertTerm_of (n : Nat) (a0 : Cert) {y} (h : impl_CertTerm_R n a0 = some y) : impl_CertTerm_T a0 = some y := presT_of (((impl_CertTerm_res n a0)).trans h)

noncomputable def impl_Pub_R (n : Nat) (a0 : Term) : Option Term := qb (impl_right_T (Term.mk 4 0 (ByteArray.mk #[]) [Term.mk a0.op a0.n a0.s a0.kids])) fun x => some (Term.mk x.op x.n x.s x.kids)

theorem impl_Pub_res (n : Nat) (a0 : Term) : residT Tryz.prog cfg RN n 14 [.ag (Term.cells a0)] (.el .term) = impl_Pub_R n a0 := by kernel_rfl

theorem impl_Pub_of (n : Nat) (a0 : Term) {y} (h : impl_Pub_R n a0 = some y) : impl_Pub_T a0 = some y := presT_of (((impl_Pub_res n a0)).trans h)

noncomputable def impl_Atom_R (n : Nat) (a0 : Int) : Option Term := qb (impl_right_T (Term.mk 1 a0 (ByteArray.mk #[]) [])) fun x => some (Term.mk x.op x.n x.s x.kids)

theorem impl_Atom_res (n : Nat) (a0 : Int) : residT Tryz.prog cfg RN n 15 [.int a0] (.el .term) = impl_Atom_R n a0 := by kernel_rfl

theorem impl_Atom_of (n : Nat) (a0 : Int) {y} (h : impl_Atom_R n a0 = some y) : impl_Atom_T a0 = some y := presT_of (((impl_Atom_res n a0)).trans h)

noncomputable def impl_Reply_R (n : Nat) (a0 : Term) (a1 : Term) (a2 : Term) (a3 : Term) : Option (Term × Bool × Unit) := qb (impl_Agree_T a0 a1) fun x => qb (impl_Pub_T a0) fun x_1 => qb (impl_Both_T a1 x_1) fun x_2 => qb (impl_Sign_T a2 x_2) fun x_3 => qb (impl_Pair_T a3 x_3) fun x_4 => qb (impl_text_T (ByteArray.mk #[114, 101, 112, 108, 121])) fun x_5 => qb (impl_KeyOf_T x.fst 0) fun x_6 => qb (impl_Seal_T x_6 0 x_4) fun x_7 => qb (impl_Pair_T x_1 x_7) fun x_8 => qb (impl_Pair_T x_5 x_8) fun x_9 => br (!x.snd.fst) (some (Term.mk 0 0 (ByteArray.mk #[]) [], false, PUnit.unit)) (br (x_9.op != 3) (some (Term.mk 0 0 (ByteArray.mk #[]) [], false, PUnit.unit)) (some (Term.mk x_9.op x_9.n x_9.s x_9.kids, true, PUnit.unit)))

theorem impl_Reply_res (n : Nat) (a0 : Term) (a1 : Term) (a2 : Term) (a3 : Term) : residT Tryz.prog cfg RN n 16 [.ag (Term.cells a0), .ag (Term.cells a1), .ag (Term.cells a2), .ag (Term.cells a3)] (.tup [.el .term, .bool]) = impl_Reply_R n a0 a1 a2 a3 := by kernel_rfl

theorem impl_Reply_of (n : Nat) (a0 : Term) (a1 : Term) (a2 : Term) (a3 : Term) {y} (h : impl_Reply_R n a0 a1 a2 a3 = some y) : impl_Reply_T a0 a1 a2 a3 = some y := presT_of (((impl_Reply_res n a0 a1 a2 a3)).trans h)

noncomputable def spec_DrawReply_R (n : Nat) (a0 : List UInt8) : Option (Term × Term × Term × Term × Unit) := qb (spec_l1New_L3 n n false a0 (IntKind.i64.wrap (22143 + (↑a0.length : Int))) 0) fun x => br (isRetE x.fst) (qb (hqT RN 66 [V.c C.hole] [] (Sh.el Kind.term) : Option ((Term) × Unit)) fun r => qb (hqT RN 66 [V.c C.hole] [] (Sh.el Kind.term) : Option ((Term) × Unit)) fun r_1 => qb (spec_Pub_T r_1.fst) fun x => qb (hqT RN 69 [V.c C.hole, V.c (C.f (F.sc (Value.int IntKind.i64 3)))] [] Sh.int : Option ((Int) × Unit)) fun r_2 => qb (spec_Atom_T (IntKind.i64.wrap (10 + r_2.fst))) fun x_1 => qb (hqT RN 70 [V.c C.hole] [] (Sh.el Kind.term) : Option ((Term) × Unit)) fun r_3 => qb (hqT RN 69 [V.c C.hole, V.c (C.f (F.sc (Value.int IntKind.i64 8)))] [] Sh.int : Option ((Int) × Unit)) fun r_4 => br (r_4.fst == 0) (qb (hqT RN 71 [V.c C.hole] [] (Sh.el Kind.term) : Option ((Term) × Unit)) fun r_5 => some (Term.mk r.fst.op r.fst.n r.fst.s r.fst.kids, Term.mk r_5.fst.op r_5.fst.n r_5.fst.s r_5.fst.kids, Term.mk x_1.op x_1.n x_1.s x_1.kids, Term.mk r_3.fst.op r_3.fst.n r_3.fst.s r_3.fst.kids, PUnit.unit)) (br (r_4.fst == 1) (qb (hqT RN 71 [V.c C.hole] [] (Sh.el Kind.term) : Option ((Term) × Unit)) fun r => some (Term.mk r.fst.op r.fst.n r.fst.s r.fst.kids, Term.mk x.op x.n x.s x.kids, Term.mk x_1.op x_1.n x_1.s x_1.kids, Term.mk r_3.fst.op r_3.fst.n r_3.fst.s r_3.fst.kids, PUnit.unit)) (some (Term.mk r.fst.op r.fst.n r.fst.s r.fst.kids, Term.mk x.op x.n x.s x.kids, Term.mk x_1.op x_1.n x_1.s x_1.kids, Term.mk r_3.fst.op r_3.fst.n r_3.fst.s r_3.fst.kids, PUnit.unit)))) (br (isExt 0 x.fst) (qb (spec_l8DrawAtom_H x.snd.fst.fst 0 x.snd.fst.snd.fst) fun r => qb (spec_l8DrawAtom_H r.snd.fst.fst r.snd.fst.snd.fst r.snd.fst.snd.snd.fst) fun r_1 => qb (spec_Pub_T r_1.fst) fun x => qb (spec_l1Below_H 3 r_1.snd.fst.fst r_1.snd.fst.snd.fst r_1.snd.fst.snd.snd.fst) fun r_2 => qb (spec_Atom_T (IntKind.i64.wrap (10 + r_2.fst))) fun x_1 => qb (spec_l4DrawTerm_H r_2.snd.fst.fst r_2.snd.fst.snd.fst r_2.snd.fst.snd.snd.fst) fun r_3 => qb (spec_l1Below_H 8 r_3.snd.fst.fst r_3.snd.fst.snd.fst r_3.snd.fst.snd.snd.fst) fun r_4 => br (r_4.fst == 0) (qb (spec_l1Draw_H r_4.snd.fst.fst r_4.snd.fst.snd.fst r_4.snd.fst.snd.snd.fst) fun r_5 => some (Term.mk r.fst.op r.fst.n r.fst.s r.fst.kids, Term.mk r_5.fst.op r_5.fst.n r_5.fst.s r_5.fst.kids, Term.mk x_1.op x_1.n x_1.s x_1.kids, Term.mk r_3.fst.op r_3.fst.n r_3.fst.s r_3.fst.kids, PUnit.unit)) (br (r_4.fst == 1) (qb (spec_l1Draw_H r_4.snd.fst.fst r_4.snd.fst.snd.fst r_4.snd.fst.snd.snd.fst) fun r => some (Term.mk r.fst.op r.fst.n r.fst.s r.fst.kids, Term.mk x.op x.n x.s x.kids, Term.mk x_1.op x_1.n x_1.s x_1.kids, Term.mk r_3.fst.op r_3.fst.n r_3.fst.s r_3.fst.kids, PUnit.unit)) (some (Term.mk r.fst.op r.fst.n r.fst.s r.fst.kids, Term.mk x.op x.n x.s x.kids, Term.mk x_1.op x_1.n x_1.s x_1.kids, Term.mk r_3.fst.op r_3.fst.n r_3.fst.s r_3.fst.kids, PUnit.unit)))) none)

theorem spec_DrawReply_res (n : Nat) (a0 : List UInt8) : residT Tryz.prog cfg RN n 17 [.sl false .byte a0] (.tup [.el .term, .el .term, .el .term, .el .term]) = spec_DrawReply_R n a0 := by kernel_rfl

theorem spec_DrawReply_of (n : Nat) (a0 : List UInt8) {y} (h : spec_DrawReply_R n a0 = some y) : spec_DrawReply_T a0 = some y := presT_of (((spec_DrawReply_res n a0)).trans h)

noncomputable def spec_Reply_R (n : Nat) (a0 : Term) (a1 : Term) (a2 : Term) (a3 : Term) : Option (Term × Bool × Unit) := qb (spec_Agree_T a0 a1) fun x => br (!x.snd.fst) (some (Term.mk 0 0 (ByteArray.mk #[]) [], false, PUnit.unit)) (qb (spec_l8Text_T (ByteArray.mk #[114, 101, 112, 108, 121])) fun x_1 => qb (spec_Pub_T a0) fun x_2 => qb (spec_KeyOf_T x.fst 0) fun x => qb (spec_Pub_T a0) fun x_3 => qb (spec_Both_T a1 x_3) fun x_4 => qb (spec_Sign_T a2 x_4) fun x_5 => qb (spec_Pair_T a3 x_5) fun x_6 => qb (spec_Seal_T x 0 x_6) fun x => qb (spec_Pair_T x_2 x) fun x => qb (spec_Pair_T x_1 x) fun x => some (Term.mk x.op x.n x.s x.kids, x.op == 3, PUnit.unit))

theorem spec_Reply_res (n : Nat) (a0 : Term) (a1 : Term) (a2 : Term) (a3 : Term) : residT Tryz.prog cfg RN n 18 [.ag (Term.cells a0), .ag (Term.cells a1), .ag (Term.cells a2), .ag (Term.cells a3)] (.tup [.el .term, .bool]) = spec_Reply_R n a0 a1 a2 a3 := by kernel_rfl

theorem spec_Reply_of (n : Nat) (a0 : Term) (a1 : Term) (a2 : Term) (a3 : Term) {y} (h : spec_Reply_R n a0 a1 a2 a3 = some y) : spec_Reply_T a0 a1 a2 a3 = some y := presT_of (((spec_Reply_res n a0 a1 a2 a3)).trans h)

noncomputable def spec_DrawReplyOf_R (n : Nat) (a0 : List UInt8) : Option (Term × Term × Unit) := qb (spec_l1New_L3 n n false a0 (IntKind.i64.wrap (22143 + (↑a0.length : Int))) 0) fun x => br (isRetE x.fst) (qb (hqT RN 78 [V.c C.hole] [] (Sh.tup [Sh.el Kind.term, Sh.el Kind.term])) fun r => some (Term.mk r.fst.fst.op r.fst.fst.n r.fst.fst.s r.fst.fst.kids, Term.mk r.fst.snd.fst.op r.fst.snd.fst.n r.fst.snd.fst.s r.fst.snd.fst.kids, PUnit.unit)) (br (isExt 0 x.fst) (qb (spec_l8DrawReply_H x.snd.fst.fst 0 x.snd.fst.snd.fst) fun r => some (Term.mk r.fst.fst.op r.fst.fst.n r.fst.fst.s r.fst.fst.kids, Term.mk r.fst.snd.fst.op r.fst.snd.fst.n r.fst.snd.fst.s r.fst.snd.fst.kids, PUnit.unit)) none)

theorem spec_DrawReplyOf_res (n : Nat) (a0 : List UInt8) : residT Tryz.prog cfg RN n 19 [.sl false .byte a0] (.tup [.el .term, .el .term]) = spec_DrawReplyOf_R n a0 := by kernel_rfl

theorem spec_DrawReplyOf_of (n : Nat) (a0 : List UInt8) {y} (h : spec_DrawReplyOf_R n a0 = some y) : spec_DrawReplyOf_T a0 = some y := presT_of (((spec_DrawReplyOf_res n a0)).trans h)

noncomputable def impl_ReplyOf_R (n : Nat) (a0 : Term) (a1 : Term) : Option (Term × Term × Term × Term × Bool × Unit) := qb (impl_twoOf_T a1) fun x => qb (impl_twoOf_T x.snd.fst) fun x_1 => qb (impl_Agree_T a0 x_1.fst) fun x_2 => qb (impl_KeyOf_T x_2.fst 0) fun x_3 => qb (impl_Open_T x_3 0 x_1.snd.fst) fun x_4 => qb (impl_twoOf_T x_4.fst) fun x_5 => br (!x.snd.snd.fst) (some (Term.mk 0 0 (ByteArray.mk #[]) [], Term.mk 0 0 (ByteArray.mk #[]) [], Term.mk 0 0 (ByteArray.mk #[]) [], Term.mk 0 0 (ByteArray.mk #[]) [], false, PUnit.unit)) (br (!x_1.snd.snd.fst) (some (Term.mk 0 0 (ByteArray.mk #[]) [], Term.mk 0 0 (ByteArray.mk #[]) [], Term.mk 0 0 (ByteArray.mk #[]) [], Term.mk 0 0 (ByteArray.mk #[]) [], false, PUnit.unit)) (br (!x_2.snd.fst) (some (Term.mk 0 0 (ByteArray.mk #[]) [], Term.mk 0 0 (ByteArray.mk #[]) [], Term.mk 0 0 (ByteArray.mk #[]) [], Term.mk 0 0 (ByteArray.mk #[]) [], false, PUnit.unit)) (br (!x_4.snd.fst) (some (Term.mk 0 0 (ByteArray.mk #[]) [], Term.mk 0 0 (ByteArray.mk #[]) [], Term.mk 0 0 (ByteArray.mk #[]) [], Term.mk 0 0 (ByteArray.mk #[]) [], false, PUnit.unit)) (br (!x_5.snd.snd.fst) (some (Term.mk 0 0 (ByteArray.mk #[]) [], Term.mk 0 0 (ByteArray.mk #[]) [], Term.mk 0 0 (ByteArray.mk #[]) [], Term.mk 0 0 (ByteArray.mk #[]) [], false, PUnit.unit)) (qb (impl_TermOk_T a1) fun x_6 => br (!x_6) (some (Term.mk 0 0 (ByteArray.mk #[]) [], Term.mk 0 0 (ByteArray.mk #[]) [], Term.mk 0 0 (ByteArray.mk #[]) [], Term.mk 0 0 (ByteArray.mk #[]) [], false, PUnit.unit)) (qb (impl_text_T (ByteArray.mk #[114, 101, 112, 108, 121])) fun x_7 => qb (impl_Same_T x.fst x_7) fun x => br (!x) (some (Term.mk 0 0 (ByteArray.mk #[]) [], Term.mk 0 0 (ByteArray.mk #[]) [], Term.mk 0 0 (ByteArray.mk #[]) [], Term.mk 0 0 (ByteArray.mk #[]) [], false, PUnit.unit)) (qb (impl_clone_T x_1.fst) fun x => qb (impl_clone_T x_5.fst) fun x_8 => qb (impl_clone_T x_5.snd.fst) fun x_9 => some (Term.mk x.op x.n x.s x.kids, Term.mk x_2.fst.op x_2.fst.n x_2.fst.s x_2.fst.kids, Term.mk x_8.op x_8.n x_8.s x_8.kids, Term.mk x_9.op x_9.n x_9.s x_9.kids, true, PUnit.unit))))))))

theorem impl_ReplyOf_res (n : Nat) (a0 : Term) (a1 : Term) : residT Tryz.prog cfg RN n 20 [.ag (Term.cells a0), .ag (Term.cells a1)] (.tup [.el .term, .el .term, .el .term, .el .term, .bool]) = impl_ReplyOf_R n a0 a1 := by kernel_rfl

theorem impl_ReplyOf_of (n : Nat) (a0 : Term) (a1 : Term) {y} (h : impl_ReplyOf_R n a0 a1 = some y) : impl_ReplyOf_T a0 a1 = some y := presT_of (((impl_ReplyOf_res n a0 a1)).trans h)

noncomputable def spec_ReplyOf_R (n : Nat) (a0 : Term) (a1 : Term) : Option (Term × Term × Term × Term × Bool × Unit) := qb (spec_l8Named_T a1 (ByteArray.mk #[114, 101, 112, 108, 121])) fun x => br (!x.snd.fst) (some (Term.mk 0 0 (ByteArray.mk #[]) [], Term.mk 0 0 (ByteArray.mk #[]) [], Term.mk 0 0 (ByteArray.mk #[]) [], Term.mk 0 0 (ByteArray.mk #[]) [], false, PUnit.unit)) (br (x.fst.op != 3) (some (Term.mk 0 0 (ByteArray.mk #[]) [], Term.mk 0 0 (ByteArray.mk #[]) [], Term.mk 0 0 (ByteArray.mk #[]) [], Term.mk 0 0 (ByteArray.mk #[]) [], false, PUnit.unit)) (qb (idx x.fst.kids 0) fun y => qb (spec_Agree_T a0 y) fun x_1 => qb (spec_KeyOf_T x_1.fst 0) fun x_2 => qb (idx x.fst.kids 1) fun y_1 => qb (spec_Open_T x_2 0 y_1) fun x => br (!x_1.snd.fst) (some (Term.mk 0 0 (ByteArray.mk #[]) [], Term.mk 0 0 (ByteArray.mk #[]) [], Term.mk 0 0 (ByteArray.mk #[]) [], Term.mk 0 0 (ByteArray.mk #[]) [], false, PUnit.unit)) (br (!x.snd.fst) (some (Term.mk 0 0 (ByteArray.mk #[]) [], Term.mk 0 0 (ByteArray.mk #[]) [], Term.mk 0 0 (ByteArray.mk #[]) [], Term.mk 0 0 (ByteArray.mk #[]) [], false, PUnit.unit)) (br (x.fst.op != 3) (some (Term.mk 0 0 (ByteArray.mk #[]) [], Term.mk 0 0 (ByteArray.mk #[]) [], Term.mk 0 0 (ByteArray.mk #[]) [], Term.mk 0 0 (ByteArray.mk #[]) [], false, PUnit.unit)) (qb (spec_l1Copy_T y) fun x_3 => qb (idx x.fst.kids 0) fun y => qb (spec_l1Copy_T y) fun x_4 => qb (idx x.fst.kids 1) fun y => qb (spec_l1Copy_T y) fun x => some (Term.mk x_3.op x_3.n x_3.s x_3.kids, Term.mk x_1.fst.op x_1.fst.n x_1.fst.s x_1.fst.kids, Term.mk x_4.op x_4.n x_4.s x_4.kids, Term.mk x.op x.n x.s x.kids, true, PUnit.unit))))))

theorem spec_ReplyOf_res (n : Nat) (a0 : Term) (a1 : Term) : residT Tryz.prog cfg RN n 21 [.ag (Term.cells a0), .ag (Term.cells a1)] (.tup [.el .term, .el .term, .el .term, .el .term, .bool]) = spec_ReplyOf_R n a0 a1 := by kernel_rfl

theorem spec_ReplyOf_of (n : Nat) (a0 : Term) (a1 : Term) {y} (h : spec_ReplyOf_R n a0 a1 = some y) : spec_ReplyOf_T a0 a1 = some y := presT_of (((spec_ReplyOf_res n a0 a1)).trans h)

noncomputable def impl_Same_R (n : Nat) (a0 : Term) (a1 : Term) : Option Bool := br (a0.op == a1.op) (br (a0.n == a1.n) (br (a0.s.toList == a1.s.toList) (qb (slices_EqualFunc_impl_Term_impl_Term_impl_Term_impl_Term_T a0.kids a1.kids (V.c (C.fn 22 []))) fun x => some x) (some false)) (some false)) (some false)

theorem impl_Same_res (n : Nat) (a0 : Term) (a1 : Term) : residT Tryz.prog cfg RN n 22 [.ag (Term.cells a0), .ag (Term.cells a1)] (.bool) = impl_Same_R n a0 a1 := by kernel_rfl

theorem impl_Same_of (n : Nat) (a0 : Term) (a1 : Term) {y} (h : impl_Same_R n a0 a1 = some y) : impl_Same_T a0 a1 = some y := presT_of (((impl_Same_res n a0 a1)).trans h)

noncomputable def spec_DrawProved_R (n : Nat) (a0 : List UInt8) : Option (Term × Term × Term × Term × ByteArray × Int × Unit) := qb (spec_l1New_L3 n n false a0 (IntKind.i64.wrap (22143 + (↑a0.length : Int))) 0) fun x => br (isRetE x.fst) (qb (hqT RN 78 [V.c C.hole] [] (Sh.tup [Sh.el Kind.term, Sh.el Kind.term])) fun r => qb (spec_ReplyOf_T r.fst.fst r.fst.snd.fst) fun x => qb (hqT RN 86 [V.c C.hole] [] Sh.str : Option ((ByteArray) × Unit)) fun r_1 => qb (spec_CertOf_T x.snd.snd.fst) fun x_1 => br x_1.snd.fst (qb (hqT RN 88 [V.c C.hole, V.c (C.f (F.sc (Value.int IntKind.i64 4)))] [] Sh.bool : Option ((Bool) × Unit)) fun r_2 => br (!r_2.fst) (qb (hqT RN 89 [V.c C.hole, V.c (C.f (F.sl true Kind.int [0, 5, 6]))] [] Sh.int : Option ((Int) × Unit)) fun r_3 => some (Term.mk r.fst.fst.op r.fst.fst.n r.fst.fst.s r.fst.fst.kids, Term.mk x.fst.op x.fst.n x.fst.s x.fst.kids, Term.mk x.snd.snd.fst.op x.snd.snd.fst.n x.snd.snd.fst.s x.snd.snd.fst.kids, Term.mk x.snd.snd.snd.fst.op x.snd.snd.snd.fst.n x.snd.snd.snd.fst.s x.snd.snd.snd.fst.kids, x_1.fst.host, r_3.fst, PUnit.unit)) (qb (hqT RN 89 [V.c C.hole, V.c (C.f (F.sl true Kind.int [0, 5, 6]))] [] Sh.int : Option ((Int) × Unit)) fun r_3 => some (Term.mk r.fst.fst.op r.fst.fst.n r.fst.fst.s r.fst.fst.kids, Term.mk x.fst.op x.fst.n x.fst.s x.fst.kids, Term.mk x.snd.snd.fst.op x.snd.snd.fst.n x.snd.snd.fst.s x.snd.snd.fst.kids, Term.mk x.snd.snd.snd.fst.op x.snd.snd.snd.fst.n x.snd.snd.snd.fst.s x.snd.snd.snd.fst.kids, r_1.fst, r_3.fst, PUnit.unit))) (qb (hqT RN 89 [V.c C.hole, V.c (C.f (F.sl true Kind.int [0, 5, 6]))] [] Sh.int : Option ((Int) × Unit)) fun r_2 => some (Term.mk r.fst.fst.op r.fst.fst.n r.fst.fst.s r.fst.fst.kids, Term.mk x.fst.op x.fst.n x.fst.s x.fst.kids, Term.mk x.snd.snd.fst.op x.snd.snd.fst.n x.snd.snd.fst.s x.snd.snd.fst.kids, Term.mk x.snd.snd.snd.fst.op x.snd.snd.snd.fst.n x.snd.snd.snd.fst.s x.snd.snd.snd.fst.kids, r_1.fst, r_2.fst, PUnit.unit))) (br (isExt 0 x.fst) (qb (spec_l8DrawReply_H x.snd.fst.fst 0 x.snd.fst.snd.fst) fun r => qb (spec_ReplyOf_T r.fst.fst r.fst.snd.fst) fun x => qb (spec_l5DrawHost_H r.snd.fst.fst r.snd.fst.snd.fst r.snd.fst.snd.snd.fst) fun r_1 => qb (spec_CertOf_T x.snd.snd.fst) fun x_1 => br x_1.snd.fst (qb (spec_l1Once_H 4 r_1.snd.fst.fst r_1.snd.fst.snd.fst r_1.snd.fst.snd.snd.fst) fun r_2 => br (!r_2.fst) (qb (spec_l1PickInt_H true [0, 5, 6] r_2.snd.fst.fst r_2.snd.fst.snd.fst r_2.snd.fst.snd.snd.fst) fun r_3 => some (Term.mk r.fst.fst.op r.fst.fst.n r.fst.fst.s r.fst.fst.kids, Term.mk x.fst.op x.fst.n x.fst.s x.fst.kids, Term.mk x.snd.snd.fst.op x.snd.snd.fst.n x.snd.snd.fst.s x.snd.snd.fst.kids, Term.mk x.snd.snd.snd.fst.op x.snd.snd.snd.fst.n x.snd.snd.snd.fst.s x.snd.snd.snd.fst.kids, x_1.fst.host, r_3.fst, PUnit.unit)) (qb (spec_l1PickInt_H true [0, 5, 6] r_2.snd.fst.fst r_2.snd.fst.snd.fst r_2.snd.fst.snd.snd.fst) fun r_3 => some (Term.mk r.fst.fst.op r.fst.fst.n r.fst.fst.s r.fst.fst.kids, Term.mk x.fst.op x.fst.n x.fst.s x.fst.kids, Term.mk x.snd.snd.fst.op x.snd.snd.fst.n x.snd.snd.fst.s x.snd.snd.fst.kids, Term.mk x.snd.snd.snd.fst.op x.snd.snd.snd.fst.n x.snd.snd.snd.fst.s x.snd.snd.snd.fst.kids, r_1.fst, r_3.fst, PUnit.unit))) (qb (spec_l1PickInt_H true [0, 5, 6] r_1.snd.fst.fst r_1.snd.fst.snd.fst r_1.snd.fst.snd.snd.fst) fun r_2 => some (Term.mk r.fst.fst.op r.fst.fst.n r.fst.fst.s r.fst.fst.kids, Term.mk x.fst.op x.fst.n x.fst.s x.fst.kids, Term.mk x.snd.snd.fst.op x.snd.snd.fst.n x.snd.snd.fst.s x.snd.snd.fst.kids, Term.mk x.snd.snd.snd.fst.op x.snd.snd.snd.fst.n x.snd.snd.snd.fst.s x.snd.snd.snd.fst.kids, r_1.fst, r_2.fst, PUnit.unit))) none)

theorem spec_DrawProved_res (n : Nat) (a0 : List UInt8) : residT Tryz.prog cfg RN n 23 [.sl false .byte a0] (.tup [.el .term, .el .term, .el .term, .el .term, .str, .int]) = spec_DrawProved_R n a0 := by kernel_rfl

theorem spec_DrawProved_of (n : Nat) (a0 : List UInt8) {y} (h : spec_DrawProved_R n a0 = some y) : spec_DrawProved_T a0 = some y := presT_of (((spec_DrawProved_res n a0)).trans h)

noncomputable def spec_DrawHelloOf_R (n : Nat) (a0 : List UInt8) : Option Term := qb (spec_l1New_L3 n n false a0 (IntKind.i64.wrap (22143 + (↑a0.length : Int))) 0) fun x => br (isRetE x.fst) (qb (hqT RN 88 [V.c C.hole, V.c (C.f (F.sc (Value.int IntKind.i64 3)))] [] Sh.bool : Option ((Bool) × Unit)) fun r => br r.fst (qb (hqT RN 71 [V.c C.hole] [] (Sh.el Kind.term) : Option ((Term) × Unit)) fun r => some (Term.mk r.fst.op r.fst.n r.fst.s r.fst.kids)) (qb (hqT RN 66 [V.c C.hole] [] (Sh.el Kind.term) : Option ((Term) × Unit)) fun r => qb (spec_Hello_T r.fst) fun x => some (Term.mk x.op x.n x.s x.kids))) (br (isExt 0 x.fst) (qb (spec_l1Once_H 3 x.snd.fst.fst 0 x.snd.fst.snd.fst) fun r => br r.fst (qb (spec_l1Draw_H r.snd.fst.fst r.snd.fst.snd.fst r.snd.fst.snd.snd.fst) fun r => some (Term.mk r.fst.op r.fst.n r.fst.s r.fst.kids)) (qb (spec_l8DrawAtom_H r.snd.fst.fst r.snd.fst.snd.fst r.snd.fst.snd.snd.fst) fun r => qb (spec_Hello_T r.fst) fun x => some (Term.mk x.op x.n x.s x.kids))) none)

theorem spec_DrawHelloOf_res (n : Nat) (a0 : List UInt8) : residT Tryz.prog cfg RN n 24 [.sl false .byte a0] (.el .term) = spec_DrawHelloOf_R n a0 := by kernel_rfl

theorem spec_DrawHelloOf_of (n : Nat) (a0 : List UInt8) {y} (h : spec_DrawHelloOf_R n a0 = some y) : spec_DrawHelloOf_T a0 = some y := presT_of (((spec_DrawHelloOf_res n a0)).trans h)

noncomputable def impl_HelloOf_R (n : Nat) (a0 : Term) : Option (Term × Bool × Unit) := qb (impl_twoOf_T a0) fun x => br (!x.snd.snd.fst) (some (Term.mk 0 0 (ByteArray.mk #[]) [], false, PUnit.unit)) (qb (impl_TermOk_T a0) fun x_1 => br (!x_1) (some (Term.mk 0 0 (ByteArray.mk #[]) [], false, PUnit.unit)) (qb (impl_text_T (ByteArray.mk #[104, 101, 108, 108, 111])) fun x_2 => qb (impl_Same_T x.fst x_2) fun x_3 => br (!x_3) (some (Term.mk 0 0 (ByteArray.mk #[]) [], false, PUnit.unit)) (br (x.snd.fst.op != 4) (some (Term.mk 0 0 (ByteArray.mk #[]) [], false, PUnit.unit)) (qb (impl_clone_T x.snd.fst) fun x => some (Term.mk x.op x.n x.s x.kids, true, PUnit.unit)))))

theorem impl_HelloOf_res (n : Nat) (a0 : Term) : residT Tryz.prog cfg RN n 25 [.ag (Term.cells a0)] (.tup [.el .term, .bool]) = impl_HelloOf_R n a0 := by kernel_rfl

theorem impl_HelloOf_of (n : Nat) (a0 : Term) {y} (h : impl_HelloOf_R n a0 = some y) : impl_HelloOf_T a0 = some y := presT_of (((impl_HelloOf_res n a0)).trans h)

noncomputable def spec_HelloOf_R (n : Nat) (a0 : Term) : Option (Term × Bool × Unit) := qb (spec_l8Named_T a0 (ByteArray.mk #[104, 101, 108, 108, 111])) fun x => br (!x.snd.fst) (some (Term.mk 0 0 (ByteArray.mk #[]) [], false, PUnit.unit)) (br (x.fst.op != 4) (some (Term.mk 0 0 (ByteArray.mk #[]) [], false, PUnit.unit)) (qb (spec_l1Copy_T x.fst) fun x => some (Term.mk x.op x.n x.s x.kids, true, PUnit.unit)))

theorem spec_HelloOf_res (n : Nat) (a0 : Term) : residT Tryz.prog cfg RN n 26 [.ag (Term.cells a0)] (.tup [.el .term, .bool]) = spec_HelloOf_R n a0 := by kernel_rfl

theorem spec_HelloOf_of (n : Nat) (a0 : Term) {y} (h : spec_HelloOf_R n a0 = some y) : spec_HelloOf_T a0 = some y := presT_of (((spec_HelloOf_res n a0)).trans h)

noncomputable def spec_DrawHello_R (n : Nat) (a0 : List UInt8) : Option Term := qb (spec_l1New_L3 n n false a0 (IntKind.i64.wrap (22143 + (↑a0.length : Int))) 0) fun x => br (isRetE x.fst) (qb (hqT RN 71 [V.c C.hole] [] (Sh.el Kind.term) : Option ((Term) × Unit)) fun r => some (Term.mk r.fst.op r.fst.n r.fst.s r.fst.kids)) (br (isExt 0 x.fst) (qb (spec_l1Draw_H x.snd.fst.fst 0 x.snd.fst.snd.fst) fun r => some (Term.mk r.fst.op r.fst.n r.fst.s r.fst.kids)) none)

theorem spec_DrawHello_res (n : Nat) (a0 : List UInt8) : residT Tryz.prog cfg RN n 27 [.sl false .byte a0] (.el .term) = spec_DrawHello_R n a0 := by kernel_rfl

theorem spec_DrawHello_of (n : Nat) (a0 : List UInt8) {y} (h : spec_DrawHello_R n a0 = some y) : spec_DrawHello_T a0 = some y := presT_of (((spec_DrawHello_res n a0)).trans h)

noncomputable def spec_DrawDone_R (n : Nat) (a0 : List UInt8) : Option Term := qb (spec_l1New_L3 n n false a0 (IntKind.i64.wrap (22143 + (↑a0.length : Int))) 0) fun x => br (isRetE x.fst) (qb (hqT RN 71 [V.c C.hole] [] (Sh.el Kind.term) : Option ((Term) × Unit)) fun r => some (Term.mk r.fst.op r.fst.n r.fst.s r.fst.kids)) (br (isExt 0 x.fst) (qb (spec_l1Draw_H x.snd.fst.fst 0 x.snd.fst.snd.fst) fun r => some (Term.mk r.fst.op r.fst.n r.fst.s r.fst.kids)) none)

theorem spec_DrawDone_res (n : Nat) (a0 : List UInt8) : residT Tryz.prog cfg RN n 28 [.sl false .byte a0] (.el .term) = spec_DrawDone_R n a0 := by kernel_rfl

theorem spec_DrawDone_of (n : Nat) (a0 : List UInt8) {y} (h : spec_DrawDone_R n a0 = some y) : spec_DrawDone_T a0 = some y := presT_of (((spec_DrawDone_res n a0)).trans h)

noncomputable def spec_DrawBoth_R (n : Nat) (a0 : List UInt8) : Option (Term × Term × Unit) := qb (spec_l1DrawTwo_T a0) fun x => some (Term.mk x.fst.op x.fst.n x.fst.s x.fst.kids, Term.mk x.snd.fst.op x.snd.fst.n x.snd.fst.s x.snd.fst.kids, PUnit.unit)

theorem spec_DrawBoth_res (n : Nat) (a0 : List UInt8) : residT Tryz.prog cfg RN n 29 [.sl false .byte a0] (.tup [.el .term, .el .term]) = spec_DrawBoth_R n a0 := by kernel_rfl

theorem spec_DrawBoth_of (n : Nat) (a0 : List UInt8) {y} (h : spec_DrawBoth_R n a0 = some y) : spec_DrawBoth_T a0 = some y := presT_of (((spec_DrawBoth_res n a0)).trans h)

noncomputable def impl_Proved_R (n : Nat) (a0 : Term) (a1 : Term) (a2 : Term) (a3 : Term) (a4 : ByteArray) (a5 : Int) : Option Bool := qb (impl_CertGood_T a2 a4 a5) fun x => qb (impl_Signed_T x.fst a3) fun x_1 => qb (impl_Pub_T a0) fun x_2 => qb (impl_Both_T x_2 a1) fun x_3 => br x.snd.fst (br x_1.snd.fst (br (x_3.op == 6) (qb (impl_Same_T x_1.fst x_3) fun x => some x) (some false)) (some false)) (some false)

theorem impl_Proved_res (n : Nat) (a0 : Term) (a1 : Term) (a2 : Term) (a3 : Term) (a4 : ByteArray) (a5 : Int) : residT Tryz.prog cfg RN n 30 [.ag (Term.cells a0), .ag (Term.cells a1), .ag (Term.cells a2), .ag (Term.cells a3), .str a4, .int a5] (.bool) = impl_Proved_R n a0 a1 a2 a3 a4 a5 := by kernel_rfl

theorem impl_Proved_of (n : Nat) (a0 : Term) (a1 : Term) (a2 : Term) (a3 : Term) (a4 : ByteArray) (a5 : Int) {y} (h : impl_Proved_R n a0 a1 a2 a3 a4 a5 = some y) : impl_Proved_T a0 a1 a2 a3 a4 a5 = some y := presT_of (((impl_Proved_res n a0 a1 a2 a3 a4 a5)).trans h)

noncomputable def spec_Proved_R (n : Nat) (a0 : Term) (a1 : Term) (a2 : Term) (a3 : Term) (a4 : ByteArray) (a5 : Int) : Option Bool := qb (spec_CertGood_T a2 a4 a5) fun x => br (!x.snd.fst) (some false) (qb (spec_Signed_T x.fst a3) fun x => br x.snd.fst (br (x.fst.op == 6) (qb (spec_Pub_T a0) fun x_1 => qb (spec_Both_T x_1 a1) fun x_2 => qb (spec_Same_T x.fst x_2) fun x => some x) (some false)) (some false))

theorem spec_Proved_res (n : Nat) (a0 : Term) (a1 : Term) (a2 : Term) (a3 : Term) (a4 : ByteArray) (a5 : Int) : residT Tryz.prog cfg RN n 31 [.ag (Term.cells a0), .ag (Term.cells a1), .ag (Term.cells a2), .ag (Term.cells a3), .str a4, .int a5] (.bool) = spec_Proved_R n a0 a1 a2 a3 a4 a5 := by kernel_rfl

theorem spec_Proved_of (n : Nat) (a0 : Term) (a1 : Term) (a2 : Term) (a3 : Term) (a4 : ByteArray) (a5 : Int) {y} (h : spec_Proved_R n a0 a1 a2 a3 a4 a5 = some y) : spec_Proved_T a0 a1 a2 a3 a4 a5 = some y := presT_of (((spec_Proved_res n a0 a1 a2 a3 a4 a5)).trans h)

noncomputable def impl_Hello_R (n : Nat) (a0 : Term) : Option Term := qb (impl_text_T (ByteArray.mk #[104, 101, 108, 108, 111])) fun x => qb (impl_Pub_T a0) fun x_1 => qb (impl_Pair_T x x_1) fun x => some (Term.mk x.op x.n x.s x.kids)

theorem impl_Hello_res (n : Nat) (a0 : Term) : residT Tryz.prog cfg RN n 32 [.ag (Term.cells a0)] (.el .term) = impl_Hello_R n a0 := by kernel_rfl

theorem impl_Hello_of (n : Nat) (a0 : Term) {y} (h : impl_Hello_R n a0 = some y) : impl_Hello_T a0 = some y := presT_of (((impl_Hello_res n a0)).trans h)

noncomputable def spec_Hello_R (n : Nat) (a0 : Term) : Option Term := qb (spec_l8Text_T (ByteArray.mk #[104, 101, 108, 108, 111])) fun x => qb (spec_Pub_T a0) fun x_1 => qb (spec_Pair_T x x_1) fun x => some (Term.mk x.op x.n x.s x.kids)

theorem spec_Hello_res (n : Nat) (a0 : Term) : residT Tryz.prog cfg RN n 33 [.ag (Term.cells a0)] (.el .term) = spec_Hello_R n a0 := by kernel_rfl

theorem spec_Hello_of (n : Nat) (a0 : Term) {y} (h : spec_Hello_R n a0 = some y) : spec_Hello_T a0 = some y := presT_of (((spec_Hello_res n a0)).trans h)

noncomputable def impl_Done_R (n : Nat) (a0 : Term) : Option Term := qb (impl_KeyOf_T a0 1) fun x => qb (impl_text_T (ByteArray.mk #[100, 111, 110, 101])) fun x_1 => qb (impl_Seal_T x 0 x_1) fun x => some (Term.mk x.op x.n x.s x.kids)

theorem impl_Done_res (n : Nat) (a0 : Term) : residT Tryz.prog cfg RN n 34 [.ag (Term.cells a0)] (.el .term) = impl_Done_R n a0 := by kernel_rfl

theorem impl_Done_of (n : Nat) (a0 : Term) {y} (h : impl_Done_R n a0 = some y) : impl_Done_T a0 = some y := presT_of (((impl_Done_res n a0)).trans h)

noncomputable def spec_Done_R (n : Nat) (a0 : Term) : Option Term := qb (spec_KeyOf_T a0 1) fun x => qb (spec_l8Text_T (ByteArray.mk #[100, 111, 110, 101])) fun x_1 => qb (spec_Seal_T x 0 x_1) fun x => some (Term.mk x.op x.n x.s x.kids)

theorem spec_Done_res (n : Nat) (a0 : Term) : residT Tryz.prog cfg RN n 35 [.ag (Term.cells a0)] (.el .term) = spec_Done_R n a0 := by kernel_rfl

theorem spec_Done_of (n : Nat) (a0 : Term) {y} (h : spec_Done_R n a0 = some y) : spec_Done_T a0 = some y := presT_of (((spec_Done_res n a0)).trans h)

noncomputable def impl_Both_R (n : Nat) (a0 : Term) (a1 : Term) : Option Term := qb (impl_Pair_T a0 a1) fun x => qb (impl_Hash_T x) fun x => some (Term.mk x.op x.n x.s x.kids)

theorem impl_Both_res (n : Nat) (a0 : Term) (a1 : Term) : residT Tryz.prog cfg RN n 36 [.ag (Term.cells a0), .ag (Term.cells a1)] (.el .term) = impl_Both_R n a0 a1 := by kernel_rfl

theorem impl_Both_of (n : Nat) (a0 : Term) (a1 : Term) {y} (h : impl_Both_R n a0 a1 = some y) : impl_Both_T a0 a1 = some y := presT_of (((impl_Both_res n a0 a1)).trans h)

noncomputable def spec_Both_R (n : Nat) (a0 : Term) (a1 : Term) : Option Term := qb (spec_Pair_T a0 a1) fun x => qb (spec_Hash_T x) fun x => some (Term.mk x.op x.n x.s x.kids)

theorem spec_Both_res (n : Nat) (a0 : Term) (a1 : Term) : residT Tryz.prog cfg RN n 37 [.ag (Term.cells a0), .ag (Term.cells a1)] (.el .term) = spec_Both_R n a0 a1 := by kernel_rfl

theorem spec_Both_of (n : Nat) (a0 : Term) (a1 : Term) {y} (h : spec_Both_R n a0 a1 = some y) : spec_Both_T a0 a1 = some y := presT_of (((spec_Both_res n a0 a1)).trans h)

noncomputable def impl_CertGood_R (n : Nat) (a0 : Term) (a1 : ByteArray) (a2 : Int) : Option (Term × Bool × Unit) := qb (impl_CertOf_T a0) fun x => br (!x.snd.fst) (some (Term.mk 0 0 (ByteArray.mk #[]) [], false, PUnit.unit)) (br (!x.fst.host.toList == a1.toList) (some (Term.mk 0 0 (ByteArray.mk #[]) [], false, PUnit.unit)) (br (decide (x.fst.til < a2)) (some (Term.mk 0 0 (ByteArray.mk #[]) [], false, PUnit.unit)) (some (Term.mk x.fst.pub.op x.fst.pub.n x.fst.pub.s x.fst.pub.kids, true, PUnit.unit))))

theorem impl_CertGood_res (n : Nat) (a0 : Term) (a1 : ByteArray) (a2 : Int) : residT Tryz.prog cfg RN n 38 [.ag (Term.cells a0), .str a1, .int a2] (.tup [.el .term, .bool]) = impl_CertGood_R n a0 a1 a2 := by kernel_rfl

theorem impl_CertGood_of (n : Nat) (a0 : Term) (a1 : ByteArray) (a2 : Int) {y} (h : impl_CertGood_R n a0 a1 a2 = some y) : impl_CertGood_T a0 a1 a2 = some y := presT_of (((impl_CertGood_res n a0 a1 a2)).trans h)

noncomputable def impl_TermOk_R (n : Nat) (a0 : Term) : Option Bool := qb (impl_TermSize_T a0) fun x => br (decide (x ≤ 200)) (qb (impl_formOk_T a0) fun x => some x) (some false)

theorem impl_TermOk_res (n : Nat) (a0 : Term) : residT Tryz.prog cfg RN n 39 [.ag (Term.cells a0)] (.bool) = impl_TermOk_R n a0 := by kernel_rfl

theorem impl_TermOk_of (n : Nat) (a0 : Term) {y} (h : impl_TermOk_R n a0 = some y) : impl_TermOk_T a0 = some y := presT_of (((impl_TermOk_res n a0)).trans h)

noncomputable def impl_Agree_R (n : Nat) (a0 : Term) (a1 : Term) : Option (Term × Bool × Unit) := br (a1.op != 4) (some (Term.mk 0 0 (ByteArray.mk #[]) [], false, PUnit.unit)) (qb (impl_TermOk_T a1) fun x => br (!x) (some (Term.mk 0 0 (ByteArray.mk #[]) [], false, PUnit.unit)) (qb (idx a1.kids 0) fun y => qb (impl_Before_T y a0) fun x => br x (qb (impl_right_T (Term.mk 5 0 (ByteArray.mk #[]) [Term.mk y.op y.n y.s y.kids, Term.mk a0.op a0.n a0.s a0.kids])) fun x => some (Term.mk x.op x.n x.s x.kids, x.op == 5, PUnit.unit)) (qb (impl_right_T (Term.mk 5 0 (ByteArray.mk #[]) [Term.mk a0.op a0.n a0.s a0.kids, Term.mk y.op y.n y.s y.kids])) fun x => some (Term.mk x.op x.n x.s x.kids, x.op == 5, PUnit.unit))))

theorem impl_Agree_res (n : Nat) (a0 : Term) (a1 : Term) : residT Tryz.prog cfg RN n 40 [.ag (Term.cells a0), .ag (Term.cells a1)] (.tup [.el .term, .bool]) = impl_Agree_R n a0 a1 := by kernel_rfl

theorem impl_Agree_of (n : Nat) (a0 : Term) (a1 : Term) {y} (h : impl_Agree_R n a0 a1 = some y) : impl_Agree_T a0 a1 = some y := presT_of (((impl_Agree_res n a0 a1)).trans h)

noncomputable def impl_Sign_R (n : Nat) (a0 : Term) (a1 : Term) : Option Term := qb (impl_right_T (Term.mk 8 0 (ByteArray.mk #[]) [Term.mk a0.op a0.n a0.s a0.kids, Term.mk a1.op a1.n a1.s a1.kids])) fun x => some (Term.mk x.op x.n x.s x.kids)

theorem impl_Sign_res (n : Nat) (a0 : Term) (a1 : Term) : residT Tryz.prog cfg RN n 41 [.ag (Term.cells a0), .ag (Term.cells a1)] (.el .term) = impl_Sign_R n a0 a1 := by kernel_rfl

theorem impl_Sign_of (n : Nat) (a0 : Term) (a1 : Term) {y} (h : impl_Sign_R n a0 a1 = some y) : impl_Sign_T a0 a1 = some y := presT_of (((impl_Sign_res n a0 a1)).trans h)

noncomputable def impl_CertOk_R (n : Nat) (a0 : Cert) : Option Bool := qb (impl_HostOk_T a0.host) fun x => br x (br (a0.pub.op == 4) (qb (impl_TermOk_T a0.pub) fun x => br x (qb (impl_in_T a0.til 0 100000) fun x => some x) (some false)) (some false)) (some false)

theorem impl_CertOk_res (n : Nat) (a0 : Cert) : residT Tryz.prog cfg RN n 58 [.ag (Cert.cells a0)] (.bool) = impl_CertOk_R n a0 := by kernel_rfl

theorem impl_CertOk_of (n : Nat) (a0 : Cert) {y} (h : impl_CertOk_R n a0 = some y) : impl_CertOk_T a0 = some y := presT_of (((impl_CertOk_res n a0)).trans h)

noncomputable def impl_Pair_R (n : Nat) (a0 : Term) (a1 : Term) : Option Term := qb (impl_right_T (Term.mk 3 0 (ByteArray.mk #[]) [Term.mk a0.op a0.n a0.s a0.kids, Term.mk a1.op a1.n a1.s a1.kids])) fun x => some (Term.mk x.op x.n x.s x.kids)

theorem impl_Pair_res (n : Nat) (a0 : Term) (a1 : Term) : residT Tryz.prog cfg RN n 59 [.ag (Term.cells a0), .ag (Term.cells a1)] (.el .term) = impl_Pair_R n a0 a1 := by kernel_rfl

theorem impl_Pair_of (n : Nat) (a0 : Term) (a1 : Term) {y} (h : impl_Pair_R n a0 a1 = some y) : impl_Pair_T a0 a1 = some y := presT_of (((impl_Pair_res n a0 a1)).trans h)

noncomputable def impl_text_R (n : Nat) (a0 : ByteArray) : Option Term := some (Term.mk 2 0 a0 [])

theorem impl_text_res (n : Nat) (a0 : ByteArray) : residT Tryz.prog cfg RN n 60 [.str a0] (.el .term) = impl_text_R n a0 := by kernel_rfl

theorem impl_text_of (n : Nat) (a0 : ByteArray) {y} (h : impl_text_R n a0 = some y) : impl_text_T a0 = some y := presT_of (((impl_text_res n a0)).trans h)

noncomputable def impl_digits_R (n : Nat) (a0 : Int) : Option Term := qb (strconv_Itoa_T a0) fun x => qb (impl_text_T x) fun x => some (Term.mk x.op x.n x.s x.kids)

theorem impl_digits_res (n : Nat) (a0 : Int) : residT Tryz.prog cfg RN n 61 [.int a0] (.el .term) = impl_digits_R n a0 := by kernel_rfl

theorem impl_digits_of (n : Nat) (a0 : Int) {y} (h : impl_digits_R n a0 = some y) : impl_digits_T a0 = some y := presT_of (((impl_digits_res n a0)).trans h)

noncomputable def impl_right_R (n : Nat) (a0 : Term) : Option Term := qb (impl_TermOk_T a0) fun x => br (!x) (some (Term.mk 0 0 (ByteArray.mk #[]) [])) (qb (impl_clone_T a0) fun x => some (Term.mk x.op x.n x.s x.kids))

theorem impl_right_res (n : Nat) (a0 : Term) : residT Tryz.prog cfg RN n 62 [.ag (Term.cells a0)] (.el .term) = impl_right_R n a0 := by kernel_rfl

theorem impl_right_of (n : Nat) (a0 : Term) {y} (h : impl_right_R n a0 = some y) : impl_right_T a0 = some y := presT_of (((impl_right_res n a0)).trans h)

noncomputable def impl_Seal_R (n : Nat) (a0 : Term) (a1 : Int) (a2 : Term) : Option Term := qb (impl_digits_T a1) fun x => qb (impl_Pair_T x a2) fun x => qb (impl_right_T (Term.mk 7 0 (ByteArray.mk #[]) [Term.mk a0.op a0.n a0.s a0.kids, Term.mk x.op x.n x.s x.kids])) fun x => some (Term.mk x.op x.n x.s x.kids)

theorem impl_Seal_res (n : Nat) (a0 : Term) (a1 : Int) (a2 : Term) : residT Tryz.prog cfg RN n 63 [.ag (Term.cells a0), .int a1, .ag (Term.cells a2)] (.el .term) = impl_Seal_R n a0 a1 a2 := by kernel_rfl

theorem impl_Seal_of (n : Nat) (a0 : Term) (a1 : Int) (a2 : Term) {y} (h : impl_Seal_R n a0 a1 a2 = some y) : impl_Seal_T a0 a1 a2 = some y := presT_of (((impl_Seal_res n a0 a1 a2)).trans h)

noncomputable def impl_KeyOf_R (n : Nat) (a0 : Term) (a1 : Int) : Option Term := qb (impl_digits_T a1) fun x => qb (impl_Pair_T a0 x) fun x => qb (impl_Hash_T x) fun x => some (Term.mk x.op x.n x.s x.kids)

theorem impl_KeyOf_res (n : Nat) (a0 : Term) (a1 : Int) : residT Tryz.prog cfg RN n 64 [.ag (Term.cells a0), .int a1] (.el .term) = impl_KeyOf_R n a0 a1 := by kernel_rfl

theorem impl_KeyOf_of (n : Nat) (a0 : Term) (a1 : Int) {y} (h : impl_KeyOf_R n a0 a1 = some y) : impl_KeyOf_T a0 a1 = some y := presT_of (((impl_KeyOf_res n a0 a1)).trans h)

noncomputable def spec_l8DrawAtom_R (n : Nat) (a0_b : List UInt8) (a0_i : Int) (a0_h : Int) : Option ((Term) × (List UInt8 × Int × Int × Unit) × Unit) := qb (spec_l1Below_H 3 a0_b a0_i a0_h) fun r => qb (spec_Atom_T (IntKind.i64.wrap (20 + r.fst))) fun x => some (Term.mk x.op x.n x.s x.kids, (r.snd.fst.fst, r.snd.fst.snd.fst, r.snd.fst.snd.snd.fst, PUnit.unit), PUnit.unit)

theorem spec_l8DrawAtom_res (n : Nat) (a0_b : List UInt8) (a0_i : Int) (a0_h : Int) : residH Tryz.prog cfg RN n 66 [.c (.bx (.arg 0) 0)] [.box [.f (.sl false .byte a0_b), .f (.int a0_i), .f (.int a0_h)]] (.el .term) = spec_l8DrawAtom_R n a0_b a0_i a0_h := by kernel_rfl

theorem spec_l8DrawAtom_of (n : Nat) (a0_b : List UInt8) (a0_i : Int) (a0_h : Int) {y} (h : spec_l8DrawAtom_R n a0_b a0_i a0_h = some y) : spec_l8DrawAtom_H a0_b a0_i a0_h = some y := hqT_of (((spec_l8DrawAtom_res n a0_b a0_i a0_h)).trans h)

noncomputable def spec_Pub_R (n : Nat) (a0 : Term) : Option Term := qb (spec_l1Copy_T a0) fun x => qb (spec_TermOk_T (Term.mk 4 0 (ByteArray.mk #[]) [Term.mk x.op x.n x.s x.kids])) fun x_1 => br (!x_1) (some (Term.mk 0 0 (ByteArray.mk #[]) [])) (some (Term.mk 4 0 (ByteArray.mk #[]) [Term.mk x.op x.n x.s x.kids]))

theorem spec_Pub_res (n : Nat) (a0 : Term) : residT Tryz.prog cfg RN n 67 [.ag (Term.cells a0)] (.tt) = spec_Pub_R n a0 := by kernel_rfl

theorem spec_Pub_of (n : Nat) (a0 : Term) {y} (h : spec_Pub_R n a0 = some y) : spec_Pub_T a0 = some y := presT_of (((spec_Pub_res n a0)).trans h)

noncomputable def spec_Atom_R (n : Nat) (a0 : Int) : Option Term := qb (spec_TermOk_T (Term.mk 1 a0 (ByteArray.mk #[]) [])) fun x => br (!x) (some (Term.mk 0 0 (ByteArray.mk #[]) [])) (some (Term.mk 1 a0 (ByteArray.mk #[]) []))

theorem spec_Atom_res (n : Nat) (a0 : Int) : residT Tryz.prog cfg RN n 68 [.int a0] (.el .term) = spec_Atom_R n a0 := by kernel_rfl

theorem spec_Atom_of (n : Nat) (a0 : Int) {y} (h : spec_Atom_R n a0 = some y) : spec_Atom_T a0 = some y := presT_of (((spec_Atom_res n a0)).trans h)

noncomputable def spec_l1Below_R (n : Nat) (a1 : Int) (a0_b : List UInt8) (a0_i : Int) (a0_h : Int) : Option ((Int) × (List UInt8 × Int × Int × Unit) × Unit) := br (decide (a1 ≤ 0)) (some (0, (a0_b, a0_i, a0_h, PUnit.unit), PUnit.unit)) (br (decide (a1 ≤ 256)) (qb (spec_l1Byte_H a0_b a0_i a0_h) fun r => qb (ne0 a1) fun y => some (r.fst.tmod a1, (r.snd.fst.fst, r.snd.fst.snd.fst, r.snd.fst.snd.snd.fst, PUnit.unit), PUnit.unit)) (qb (spec_l1Byte_H a0_b a0_i a0_h) fun r => qb (spec_l1Byte_H r.snd.fst.fst r.snd.fst.snd.fst r.snd.fst.snd.snd.fst) fun r_1 => qb (spec_l1Byte_H r_1.snd.fst.fst r_1.snd.fst.snd.fst r_1.snd.fst.snd.snd.fst) fun r_2 => qb (spec_l1Byte_H r_2.snd.fst.fst r_2.snd.fst.snd.fst r_2.snd.fst.snd.snd.fst) fun r_3 => qb (ne0 a1) fun y => some ((IntKind.i64.wrap (IntKind.i64.wrap (IntKind.i64.wrap (IntKind.i64.wrap (r.fst * 16777216) + IntKind.i64.wrap (r_1.fst * 65536)) + IntKind.i64.wrap (r_2.fst * 256)) + r_3.fst)).tmod a1, (r_3.snd.fst.fst, r_3.snd.fst.snd.fst, r_3.snd.fst.snd.snd.fst, PUnit.unit), PUnit.unit)))

theorem spec_l1Below_res (n : Nat) (a1 : Int) (a0_b : List UInt8) (a0_i : Int) (a0_h : Int) : residH Tryz.prog cfg RN n 69 [.c (.bx (.arg 0) 0), .int a1] [.box [.f (.sl false .byte a0_b), .f (.int a0_i), .f (.int a0_h)]] (.int) = spec_l1Below_R n a1 a0_b a0_i a0_h := by kernel_rfl

theorem spec_l1Below_of (n : Nat) (a1 : Int) (a0_b : List UInt8) (a0_i : Int) (a0_h : Int) {y} (h : spec_l1Below_R n a1 a0_b a0_i a0_h = some y) : spec_l1Below_H a1 a0_b a0_i a0_h = some y := hqT_of (((spec_l1Below_res n a1 a0_b a0_i a0_h)).trans h)

noncomputable def spec_l4DrawTerm_R (n : Nat) (a0_b : List UInt8) (a0_i : Int) (a0_h : Int) : Option ((Term) × (List UInt8 × Int × Int × Unit) × Unit) := qb (spec_l4DrawRight_H a0_b a0_i a0_h) fun r => qb (spec_CertTerm_T r.fst) fun x => qb (spec_l1Below_H 8 r.snd.fst.fst r.snd.fst.snd.fst r.snd.fst.snd.snd.fst) fun r => br (r.fst == 0) (qb (spec_l1Draw_H r.snd.fst.fst r.snd.fst.snd.fst r.snd.fst.snd.snd.fst) fun r => some (Term.mk r.fst.op r.fst.n r.fst.s r.fst.kids, (r.snd.fst.fst, r.snd.fst.snd.fst, r.snd.fst.snd.snd.fst, PUnit.unit), PUnit.unit)) (br (r.fst == 1) (qb (spec_Atom_T 2) fun x_1 => qb (idx x.kids 1) fun y => qb (spec_Sign_T x_1 y) fun x => some (Term.mk x.op x.n x.s x.kids, (r.snd.fst.fst, r.snd.fst.snd.fst, r.snd.fst.snd.snd.fst, PUnit.unit), PUnit.unit)) (br (r.fst == 2) (qb (spec_Atom_T 1) fun x => qb (spec_l1DrawRight_H 2 r.snd.fst.fst r.snd.fst.snd.fst r.snd.fst.snd.snd.fst) fun r => qb (spec_Sign_T x r.fst) fun x => some (Term.mk x.op x.n x.s x.kids, (r.snd.fst.fst, r.snd.fst.snd.fst, r.snd.fst.snd.snd.fst, PUnit.unit), PUnit.unit)) (some (Term.mk x.op x.n x.s x.kids, (r.snd.fst.fst, r.snd.fst.snd.fst, r.snd.fst.snd.snd.fst, PUnit.unit), PUnit.unit))))

theorem spec_l4DrawTerm_res (n : Nat) (a0_b : List UInt8) (a0_i : Int) (a0_h : Int) : residH Tryz.prog cfg RN n 70 [.c (.bx (.arg 0) 0)] [.box [.f (.sl false .byte a0_b), .f (.int a0_i), .f (.int a0_h)]] (.el .term) = spec_l4DrawTerm_R n a0_b a0_i a0_h := by kernel_rfl

theorem spec_l4DrawTerm_of (n : Nat) (a0_b : List UInt8) (a0_i : Int) (a0_h : Int) {y} (h : spec_l4DrawTerm_R n a0_b a0_i a0_h = some y) : spec_l4DrawTerm_H a0_b a0_i a0_h = some y := hqT_of (((spec_l4DrawTerm_res n a0_b a0_i a0_h)).trans h)

noncomputable def spec_l1Draw_R (n : Nat) (a0_b : List UInt8) (a0_i : Int) (a0_h : Int) : Option ((Term) × (List UInt8 × Int × Int × Unit) × Unit) := qb (spec_l1DrawRight_H 3 a0_b a0_i a0_h) fun r => qb (spec_l1Below_H 14 r.snd.fst.fst r.snd.fst.snd.fst r.snd.fst.snd.snd.fst) fun r_1 => br (r_1.fst == 0) (qb (spec_l1Below_H 11 r_1.snd.fst.fst r_1.snd.fst.snd.fst r_1.snd.fst.snd.snd.fst) fun r_2 => some (Term.mk (IntKind.i64.wrap (r_2.fst - 1)) r.fst.n r.fst.s r.fst.kids, (r_2.snd.fst.fst, r_2.snd.fst.snd.fst, r_2.snd.fst.snd.snd.fst, PUnit.unit), PUnit.unit)) (br (r_1.fst == 1) (qb (spec_l1PickInt_H true [-1, 1, 1000000, 1000001, -9223372036854775808] r_1.snd.fst.fst r_1.snd.fst.snd.fst r_1.snd.fst.snd.snd.fst) fun r_2 => some (Term.mk r.fst.op r_2.fst r.fst.s r.fst.kids, (r_2.snd.fst.fst, r_2.snd.fst.snd.fst, r_2.snd.fst.snd.snd.fst, PUnit.unit), PUnit.unit)) (br (r_1.fst == 2) (some (Term.mk r.fst.op r.fst.n (ByteArray.mk #[120]) r.fst.kids, (r_1.snd.fst.fst, r_1.snd.fst.snd.fst, r_1.snd.fst.snd.snd.fst, PUnit.unit), PUnit.unit)) (br (r_1.fst == 3) (br (((r.fst.kids).length + [Term.mk 1 0 (ByteArray.mk #[]) []].length).ble appMax) (some (Term.mk r.fst.op r.fst.n r.fst.s (r.fst.kids ++ [Term.mk 1 0 (ByteArray.mk #[]) []]), (r_1.snd.fst.fst, r_1.snd.fst.snd.fst, r_1.snd.fst.snd.snd.fst, PUnit.unit), PUnit.unit)) none) (some (Term.mk r.fst.op r.fst.n r.fst.s r.fst.kids, (r_1.snd.fst.fst, r_1.snd.fst.snd.fst, r_1.snd.fst.snd.snd.fst, PUnit.unit), PUnit.unit)))))

theorem spec_l1Draw_res (n : Nat) (a0_b : List UInt8) (a0_i : Int) (a0_h : Int) : residH Tryz.prog cfg RN n 71 [.c (.bx (.arg 0) 0)] [.box [.f (.sl false .byte a0_b), .f (.int a0_i), .f (.int a0_h)]] (.el .term) = spec_l1Draw_R n a0_b a0_i a0_h := by kernel_rfl

theorem spec_l1Draw_of (n : Nat) (a0_b : List UInt8) (a0_i : Int) (a0_h : Int) {y} (h : spec_l1Draw_R n a0_b a0_i a0_h = some y) : spec_l1Draw_H a0_b a0_i a0_h = some y := hqT_of (((spec_l1Draw_res n a0_b a0_i a0_h)).trans h)

noncomputable def spec_Agree_R (n : Nat) (a0 : Term) (a1 : Term) : Option (Term × Bool × Unit) := br (a1.op != 4) (some (Term.mk 0 0 (ByteArray.mk #[]) [], false, PUnit.unit)) (br ((↑a1.kids.length : Int) != 1) (some (Term.mk 0 0 (ByteArray.mk #[]) [], false, PUnit.unit)) (qb (spec_TermOk_T a1) fun x => br (!x) (some (Term.mk 0 0 (ByteArray.mk #[]) [], false, PUnit.unit)) (qb (idx a1.kids 0) fun y => qb (spec_Before_T y a0) fun x => br x (qb (spec_l3Two_T 5 y a0) fun x => some (Term.mk x.op x.n x.s x.kids, x.op == 5, PUnit.unit)) (qb (spec_l3Two_T 5 a0 y) fun x => some (Term.mk x.op x.n x.s x.kids, x.op == 5, PUnit.unit)))))

theorem spec_Agree_res (n : Nat) (a0 : Term) (a1 : Term) : residT Tryz.prog cfg RN n 72 [.ag (Term.cells a0), .ag (Term.cells a1)] (.tup [.tt, .bool]) = spec_Agree_R n a0 a1 := by kernel_rfl

theorem spec_Agree_of (n : Nat) (a0 : Term) (a1 : Term) {y} (h : spec_Agree_R n a0 a1 = some y) : spec_Agree_T a0 a1 = some y := presT_of (((spec_Agree_res n a0 a1)).trans h)

noncomputable def spec_Pair_R (n : Nat) (a0 : Term) (a1 : Term) : Option Term := qb (spec_l3Two_T 3 a0 a1) fun x => some (Term.mk x.op x.n x.s x.kids)

theorem spec_Pair_res (n : Nat) (a0 : Term) (a1 : Term) : residT Tryz.prog cfg RN n 73 [.ag (Term.cells a0), .ag (Term.cells a1)] (.tt) = spec_Pair_R n a0 a1 := by kernel_rfl

theorem spec_Pair_of (n : Nat) (a0 : Term) (a1 : Term) {y} (h : spec_Pair_R n a0 a1 = some y) : spec_Pair_T a0 a1 = some y := presT_of (((spec_Pair_res n a0 a1)).trans h)

noncomputable def spec_l8Text_R (n : Nat) (a0 : ByteArray) : Option Term := some (Term.mk 2 0 a0 [])

theorem spec_l8Text_res (n : Nat) (a0 : ByteArray) : residT Tryz.prog cfg RN n 74 [.str a0] (.el .term) = spec_l8Text_R n a0 := by kernel_rfl

theorem spec_l8Text_of (n : Nat) (a0 : ByteArray) {y} (h : spec_l8Text_R n a0 = some y) : spec_l8Text_T a0 = some y := presT_of (((spec_l8Text_res n a0)).trans h)

noncomputable def spec_Seal_R (n : Nat) (a0 : Term) (a1 : Int) (a2 : Term) : Option Term := qb (spec_l3Num_T a1) fun x => qb (spec_Pair_T x a2) fun x => qb (spec_l3Two_T 7 a0 x) fun x => some (Term.mk x.op x.n x.s x.kids)

theorem spec_Seal_res (n : Nat) (a0 : Term) (a1 : Int) (a2 : Term) : residT Tryz.prog cfg RN n 75 [.ag (Term.cells a0), .int a1, .ag (Term.cells a2)] (.tt) = spec_Seal_R n a0 a1 a2 := by kernel_rfl

theorem spec_Seal_of (n : Nat) (a0 : Term) (a1 : Int) (a2 : Term) {y} (h : spec_Seal_R n a0 a1 a2 = some y) : spec_Seal_T a0 a1 a2 = some y := presT_of (((spec_Seal_res n a0 a1 a2)).trans h)

noncomputable def spec_KeyOf_R (n : Nat) (a0 : Term) (a1 : Int) : Option Term := qb (spec_l3Num_T a1) fun x => qb (spec_Pair_T a0 x) fun x => qb (spec_Hash_T x) fun x => some (Term.mk x.op x.n x.s x.kids)

theorem spec_KeyOf_res (n : Nat) (a0 : Term) (a1 : Int) : residT Tryz.prog cfg RN n 76 [.ag (Term.cells a0), .int a1] (.el .term) = spec_KeyOf_R n a0 a1 := by kernel_rfl

theorem spec_KeyOf_of (n : Nat) (a0 : Term) (a1 : Int) {y} (h : spec_KeyOf_R n a0 a1 = some y) : spec_KeyOf_T a0 a1 = some y := presT_of (((spec_KeyOf_res n a0 a1)).trans h)

noncomputable def spec_Sign_R (n : Nat) (a0 : Term) (a1 : Term) : Option Term := qb (spec_l3Two_T 8 a0 a1) fun x => some (Term.mk x.op x.n x.s x.kids)

theorem spec_Sign_res (n : Nat) (a0 : Term) (a1 : Term) : residT Tryz.prog cfg RN n 77 [.ag (Term.cells a0), .ag (Term.cells a1)] (.tt) = spec_Sign_R n a0 a1 := by kernel_rfl

theorem spec_Sign_of (n : Nat) (a0 : Term) (a1 : Term) {y} (h : spec_Sign_R n a0 a1 = some y) : spec_Sign_T a0 a1 = some y := presT_of (((spec_Sign_res n a0 a1)).trans h)

noncomputable def spec_l8DrawReply_R (n : Nat) (a0_b : List UInt8) (a0_i : Int) (a0_h : Int) : Option ((Term × Term × Unit) × (List UInt8 × Int × Int × Unit) × Unit) := qb (spec_l8DrawAtom_H a0_b a0_i a0_h) fun r => qb (spec_l4DrawTerm_H r.snd.fst.fst r.snd.fst.snd.fst r.snd.fst.snd.snd.fst) fun r_1 => qb (spec_l8DrawAtom_H r_1.snd.fst.fst r_1.snd.fst.snd.fst r_1.snd.fst.snd.snd.fst) fun r_2 => qb (spec_Pub_T r.fst) fun x => qb (spec_l1Below_H 3 r_2.snd.fst.fst r_2.snd.fst.snd.fst r_2.snd.fst.snd.snd.fst) fun r_3 => qb (spec_Atom_T (IntKind.i64.wrap (10 + r_3.fst))) fun x_1 => qb (spec_Reply_T r_2.fst x x_1 r_1.fst) fun x => qb (spec_l1Below_H 6 r_3.snd.fst.fst r_3.snd.fst.snd.fst r_3.snd.fst.snd.snd.fst) fun r_4 => br (r_4.fst == 0) (qb (spec_l8DrawAtom_H r_4.snd.fst.fst r_4.snd.fst.snd.fst r_4.snd.fst.snd.snd.fst) fun r => some ((Term.mk r.fst.op r.fst.n r.fst.s r.fst.kids, Term.mk x.fst.op x.fst.n x.fst.s x.fst.kids, PUnit.unit), (r.snd.fst.fst, r.snd.fst.snd.fst, r.snd.fst.snd.snd.fst, PUnit.unit), PUnit.unit)) (br (r_4.fst == 1) (qb (spec_l1Draw_H r_4.snd.fst.fst r_4.snd.fst.snd.fst r_4.snd.fst.snd.snd.fst) fun r_5 => some ((Term.mk r.fst.op r.fst.n r.fst.s r.fst.kids, Term.mk r_5.fst.op r_5.fst.n r_5.fst.s r_5.fst.kids, PUnit.unit), (r_5.snd.fst.fst, r_5.snd.fst.snd.fst, r_5.snd.fst.snd.snd.fst, PUnit.unit), PUnit.unit)) (some ((Term.mk r.fst.op r.fst.n r.fst.s r.fst.kids, Term.mk x.fst.op x.fst.n x.fst.s x.fst.kids, PUnit.unit), (r_4.snd.fst.fst, r_4.snd.fst.snd.fst, r_4.snd.fst.snd.snd.fst, PUnit.unit), PUnit.unit)))

theorem spec_l8DrawReply_res (n : Nat) (a0_b : List UInt8) (a0_i : Int) (a0_h : Int) : residH Tryz.prog cfg RN n 78 [.c (.bx (.arg 0) 0)] [.box [.f (.sl false .byte a0_b), .f (.int a0_i), .f (.int a0_h)]] (.tup [.el .term, .el .term]) = spec_l8DrawReply_R n a0_b a0_i a0_h := by kernel_rfl

theorem spec_l8DrawReply_of (n : Nat) (a0_b : List UInt8) (a0_i : Int) (a0_h : Int) {y} (h : spec_l8DrawReply_R n a0_b a0_i a0_h = some y) : spec_l8DrawReply_H a0_b a0_i a0_h = some y := hqT_of (((spec_l8DrawReply_res n a0_b a0_i a0_h)).trans h)

noncomputable def impl_twoOf_R (n : Nat) (a0 : Term) : Option (Term × Term × Bool × Unit) := br (a0.op != 3) (some (Term.mk 0 0 (ByteArray.mk #[]) [], Term.mk 0 0 (ByteArray.mk #[]) [], false, PUnit.unit)) (br ((↑a0.kids.length : Int) != 2) (some (Term.mk 0 0 (ByteArray.mk #[]) [], Term.mk 0 0 (ByteArray.mk #[]) [], false, PUnit.unit)) (qb (idx a0.kids 0) fun y => qb (idx a0.kids 1) fun y_1 => some (Term.mk y.op y.n y.s y.kids, Term.mk y_1.op y_1.n y_1.s y_1.kids, true, PUnit.unit)))

theorem impl_twoOf_res (n : Nat) (a0 : Term) : residT Tryz.prog cfg RN n 79 [.ag (Term.cells a0)] (.tup [.el .term, .el .term, .bool]) = impl_twoOf_R n a0 := by kernel_rfl

theorem impl_twoOf_of (n : Nat) (a0 : Term) {y} (h : impl_twoOf_R n a0 = some y) : impl_twoOf_T a0 = some y := presT_of (((impl_twoOf_res n a0)).trans h)

noncomputable def impl_Open_R (n : Nat) (a0 : Term) (a1 : Int) (a2 : Term) : Option (Term × Bool × Unit) := br (a2.op != 7) (some (Term.mk 0 0 (ByteArray.mk #[]) [], false, PUnit.unit)) (qb (impl_TermOk_T a2) fun x => br (!x) (some (Term.mk 0 0 (ByteArray.mk #[]) [], false, PUnit.unit)) (qb (idx a2.kids 0) fun y => qb (impl_Same_T y a0) fun x => br (!x) (some (Term.mk 0 0 (ByteArray.mk #[]) [], false, PUnit.unit)) (qb (idx a2.kids 1) fun y => br (y.op != 3) (some (Term.mk 0 0 (ByteArray.mk #[]) [], false, PUnit.unit)) (qb (idx y.kids 0) fun y_1 => qb (impl_digits_T a1) fun x => qb (impl_Same_T y_1 x) fun x => br (!x) (some (Term.mk 0 0 (ByteArray.mk #[]) [], false, PUnit.unit)) (qb (idx y.kids 1) fun y => qb (impl_clone_T y) fun x => some (Term.mk x.op x.n x.s x.kids, true, PUnit.unit))))))

theorem impl_Open_res (n : Nat) (a0 : Term) (a1 : Int) (a2 : Term) : residT Tryz.prog cfg RN n 80 [.ag (Term.cells a0), .int a1, .ag (Term.cells a2)] (.tup [.el .term, .bool]) = impl_Open_R n a0 a1 a2 := by kernel_rfl

theorem impl_Open_of (n : Nat) (a0 : Term) (a1 : Int) (a2 : Term) {y} (h : impl_Open_R n a0 a1 a2 = some y) : impl_Open_T a0 a1 a2 = some y := presT_of (((impl_Open_res n a0 a1 a2)).trans h)

noncomputable def impl_clone_R (n : Nat) (a0 : Term) : Option Term := qb (impl_cloneAll_T a0.kids) fun x => some (Term.mk a0.op a0.n a0.s x)

theorem impl_clone_res (n : Nat) (a0 : Term) : residT Tryz.prog cfg RN n 81 [.ag (Term.cells a0)] (.el .term) = impl_clone_R n a0 := by kernel_rfl

theorem impl_clone_of (n : Nat) (a0 : Term) {y} (h : impl_clone_R n a0 = some y) : impl_clone_T a0 = some y := presT_of (((impl_clone_res n a0)).trans h)

noncomputable def spec_l8Named_R (n : Nat) (a0 : Term) (a1 : ByteArray) : Option (Term × Bool × Unit) := qb (spec_TermOk_T a0) fun x => br (!x) (some (Term.mk 0 0 (ByteArray.mk #[]) [], false, PUnit.unit)) (br (a0.op != 3) (some (Term.mk 0 0 (ByteArray.mk #[]) [], false, PUnit.unit)) (qb (idx a0.kids 0) fun y => qb (spec_l8Text_T a1) fun x => qb (spec_Same_T y x) fun x => br (!x) (some (Term.mk 0 0 (ByteArray.mk #[]) [], false, PUnit.unit)) (qb (idx a0.kids 1) fun y => some (Term.mk y.op y.n y.s y.kids, true, PUnit.unit))))

theorem spec_l8Named_res (n : Nat) (a0 : Term) (a1 : ByteArray) : residT Tryz.prog cfg RN n 82 [.ag (Term.cells a0), .str a1] (.tup [.el .term, .bool]) = spec_l8Named_R n a0 a1 := by kernel_rfl

theorem spec_l8Named_of (n : Nat) (a0 : Term) (a1 : ByteArray) {y} (h : spec_l8Named_R n a0 a1 = some y) : spec_l8Named_T a0 a1 = some y := presT_of (((spec_l8Named_res n a0 a1)).trans h)

noncomputable def spec_Open_R (n : Nat) (a0 : Term) (a1 : Int) (a2 : Term) : Option (Term × Bool × Unit) := qb (spec_TermOk_T a2) fun x => br (!x) (some (Term.mk 0 0 (ByteArray.mk #[]) [], false, PUnit.unit)) (br (a2.op != 7) (some (Term.mk 0 0 (ByteArray.mk #[]) [], false, PUnit.unit)) (qb (idx a2.kids 0) fun y => qb (spec_Same_T y a0) fun x => br (!x) (some (Term.mk 0 0 (ByteArray.mk #[]) [], false, PUnit.unit)) (qb (idx a2.kids 1) fun y => br (y.op != 3) (some (Term.mk 0 0 (ByteArray.mk #[]) [], false, PUnit.unit)) (qb (idx y.kids 0) fun y_1 => qb (spec_l3Num_T a1) fun x => qb (spec_Same_T y_1 x) fun x => br (!x) (some (Term.mk 0 0 (ByteArray.mk #[]) [], false, PUnit.unit)) (qb (idx y.kids 1) fun y => qb (spec_l1Copy_T y) fun x => some (Term.mk x.op x.n x.s x.kids, true, PUnit.unit))))))

theorem spec_Open_res (n : Nat) (a0 : Term) (a1 : Int) (a2 : Term) : residT Tryz.prog cfg RN n 83 [.ag (Term.cells a0), .int a1, .ag (Term.cells a2)] (.tup [.el .term, .bool]) = spec_Open_R n a0 a1 a2 := by kernel_rfl

theorem spec_Open_of (n : Nat) (a0 : Term) (a1 : Int) (a2 : Term) {y} (h : spec_Open_R n a0 a1 a2 = some y) : spec_Open_T a0 a1 a2 = some y := presT_of (((spec_Open_res n a0 a1 a2)).trans h)

noncomputable def spec_l1Copy_R (n : Nat) (a0 : Term) : Option Term := qb (spec_l1Copy_L3 n n 0 a0 0 0 (ByteArray.mk #[]) [] a0.op a0.n a0.s []) fun x => br (isRetE x.fst) (some (Term.mk x.snd.snd.fst.fst x.snd.snd.fst.snd.fst x.snd.snd.fst.snd.snd.fst x.snd.snd.fst.snd.snd.snd.fst)) (br (isExt 0 x.fst) (some (Term.mk x.snd.snd.snd.fst.fst x.snd.snd.snd.fst.snd.fst x.snd.snd.snd.fst.snd.snd.fst x.snd.snd.snd.snd.fst)) none)

theorem spec_l1Copy_res (n : Nat) (a0 : Term) : residT Tryz.prog cfg RN n 84 [.ag (Term.cells a0)] (.el .term) = spec_l1Copy_R n a0 := by kernel_rfl

theorem spec_l1Copy_of (n : Nat) (a0 : Term) {y} (h : spec_l1Copy_R n a0 = some y) : spec_l1Copy_T a0 = some y := presT_of (((spec_l1Copy_res n a0)).trans h)

noncomputable def EqualFunc_Same_R (n : Nat) (a0 : List Term) (a1 : List Term) : Option Bool := br ((↑a0.length : Int) != (↑a1.length : Int)) (some false) (qb (EqualFunc_Same_L4 n n false a1 false false a0 (↑a0.length : Int) 0) fun x => br (isRetE x.fst) (some x.snd.fst.fst) (br (isExt 0 x.fst) (some true) none))

theorem EqualFunc_Same_res (n : Nat) (a0 : List Term) (a1 : List Term) : residT Tryz.prog cfg RN n 85 [.sl false .term a0, .sl false .term a1, .c (.fn 22 [])] (.bool) = EqualFunc_Same_R n a0 a1 := by kernel_rfl

theorem EqualFunc_Same_of (n : Nat) (a0 : List Term) (a1 : List Term) {y} (h : EqualFunc_Same_R n a0 a1 = some y) : slices_EqualFunc_impl_Term_impl_Term_impl_Term_impl_Term_T a0 a1 (.c (.fn 22 [])) = some y := presT_of (((EqualFunc_Same_res n a0 a1)).trans h)

noncomputable def spec_l5DrawHost_R (n : Nat) (a0_b : List UInt8) (a0_i : Int) (a0_h : Int) : Option ((ByteArray) × (List UInt8 × Int × Int × Unit) × Unit) := qb (spec_l1Pick_H true [ByteArray.mk #[109, 120, 46, 97], ByteArray.mk #[109, 50, 46, 97], ByteArray.mk #[109, 120, 46, 98], ByteArray.mk #[120, 46, 109, 120, 46, 97], ByteArray.mk #[101, 118, 105, 108, 46, 101], ByteArray.mk #[97, 46, 98]] a0_b a0_i a0_h) fun r => some (r.fst, (r.snd.fst.fst, r.snd.fst.snd.fst, r.snd.fst.snd.snd.fst, PUnit.unit), PUnit.unit)

theorem spec_l5DrawHost_res (n : Nat) (a0_b : List UInt8) (a0_i : Int) (a0_h : Int) : residH Tryz.prog cfg RN n 86 [.c (.bx (.arg 0) 0)] [.box [.f (.sl false .byte a0_b), .f (.int a0_i), .f (.int a0_h)]] (.str) = spec_l5DrawHost_R n a0_b a0_i a0_h := by kernel_rfl

theorem spec_l5DrawHost_of (n : Nat) (a0_b : List UInt8) (a0_i : Int) (a0_h : Int) {y} (h : spec_l5DrawHost_R n a0_b a0_i a0_h = some y) : spec_l5DrawHost_H a0_b a0_i a0_h = some y := hqT_of (((spec_l5DrawHost_res n a0_b a0_i a0_h)).trans h)

noncomputable def spec_CertOf_R (n : Nat) (a0 : Term) : Option (Cert × Bool × Unit) := qb (spec_Atom_T 1) fun x => qb (spec_Pub_T x) fun x => qb (spec_Signed_T x a0) fun x => br (!x.snd.fst) (some (Cert.mk (ByteArray.mk #[]) (Term.mk 0 0 (ByteArray.mk #[]) []) 0, false, PUnit.unit)) (br (x.fst.op != 3) (some (Cert.mk (ByteArray.mk #[]) (Term.mk 0 0 (ByteArray.mk #[]) []) 0, false, PUnit.unit)) (qb (idx x.fst.kids 1) fun y => br (y.op != 3) (some (Cert.mk (ByteArray.mk #[]) (Term.mk 0 0 (ByteArray.mk #[]) []) 0, false, PUnit.unit)) (qb (idx x.fst.kids 0) fun y => qb (idx x.fst.kids 1) fun y_1 => qb (idx y_1.kids 0) fun y_2 => qb (idx y_1.kids 1) fun y_3 => qb (spec_l6Number_T y_3.s) fun x => qb (spec_CertOk_T (Cert.mk y.s y_2 x)) fun x_1 => br (!x_1) (some (Cert.mk (ByteArray.mk #[]) (Term.mk 0 0 (ByteArray.mk #[]) []) 0, false, PUnit.unit)) (qb (spec_CertTerm_T (Cert.mk y.s y_2 x)) fun x_2 => qb (spec_Same_T x_2 a0) fun x_3 => br (!x_3) (some (Cert.mk (ByteArray.mk #[]) (Term.mk 0 0 (ByteArray.mk #[]) []) 0, false, PUnit.unit)) (some (Cert.mk y.s (Term.mk y_2.op y_2.n y_2.s y_2.kids) x, true, PUnit.unit))))))

theorem spec_CertOf_res (n : Nat) (a0 : Term) : residT Tryz.prog cfg RN n 87 [.ag (Term.cells a0)] (.tup [.cert, .bool]) = spec_CertOf_R n a0 := by kernel_rfl

theorem spec_CertOf_of (n : Nat) (a0 : Term) {y} (h : spec_CertOf_R n a0 = some y) : spec_CertOf_T a0 = some y := presT_of (((spec_CertOf_res n a0)).trans h)

noncomputable def spec_l1Once_R (n : Nat) (a1 : Int) (a0_b : List UInt8) (a0_i : Int) (a0_h : Int) : Option ((Bool) × (List UInt8 × Int × Int × Unit) × Unit) := qb (spec_l1Below_H a1 a0_b a0_i a0_h) fun r => some (r.fst == 0, (r.snd.fst.fst, r.snd.fst.snd.fst, r.snd.fst.snd.snd.fst, PUnit.unit), PUnit.unit)

theorem spec_l1Once_res (n : Nat) (a1 : Int) (a0_b : List UInt8) (a0_i : Int) (a0_h : Int) : residH Tryz.prog cfg RN n 88 [.c (.bx (.arg 0) 0), .int a1] [.box [.f (.sl false .byte a0_b), .f (.int a0_i), .f (.int a0_h)]] (.bool) = spec_l1Once_R n a1 a0_b a0_i a0_h := by kernel_rfl

theorem spec_l1Once_of (n : Nat) (a1 : Int) (a0_b : List UInt8) (a0_i : Int) (a0_h : Int) {y} (h : spec_l1Once_R n a1 a0_b a0_i a0_h = some y) : spec_l1Once_H a1 a0_b a0_i a0_h = some y := hqT_of (((spec_l1Once_res n a1 a0_b a0_i a0_h)).trans h)

noncomputable def spec_l1PickInt_R (n : Nat) (t_a1 : Bool) (a1 : List Int) (a0_b : List UInt8) (a0_i : Int) (a0_h : Int) : Option ((Int) × (List UInt8 × Int × Int × Unit) × Unit) := qb (spec_l1Below_H (↑a1.length : Int) a0_b a0_i a0_h) fun r => qb (idx a1 r.fst) fun y => some (y, (r.snd.fst.fst, r.snd.fst.snd.fst, r.snd.fst.snd.snd.fst, PUnit.unit), PUnit.unit)

theorem spec_l1PickInt_res (n : Nat) (t_a1 : Bool) (a1 : List Int) (a0_b : List UInt8) (a0_i : Int) (a0_h : Int) : residH Tryz.prog cfg RN n 89 [.c (.bx (.arg 0) 0), .sl t_a1 .int a1] [.box [.f (.sl false .byte a0_b), .f (.int a0_i), .f (.int a0_h)]] (.int) = spec_l1PickInt_R n t_a1 a1 a0_b a0_i a0_h := by kernel_rfl

theorem spec_l1PickInt_of (n : Nat) (t_a1 : Bool) (a1 : List Int) (a0_b : List UInt8) (a0_i : Int) (a0_h : Int) {y} (h : spec_l1PickInt_R n t_a1 a1 a0_b a0_i a0_h = some y) : spec_l1PickInt_H t_a1 a1 a0_b a0_i a0_h = some y := hqT_of (((spec_l1PickInt_res n t_a1 a1 a0_b a0_i a0_h)).trans h)

noncomputable def spec_l1DrawTwo_R (n : Nat) (a0 : List UInt8) : Option (Term × Term × Unit) := qb (spec_l1New_L3 n n false a0 (IntKind.i64.wrap (22143 + (↑a0.length : Int))) 0) fun x => br (isRetE x.fst) (qb (hqT RN 71 [V.c C.hole] [] (Sh.el Kind.term) : Option ((Term) × Unit)) fun r => qb (hqT RN 88 [V.c C.hole, V.c (C.f (F.sc (Value.int IntKind.i64 3)))] [] Sh.bool : Option ((Bool) × Unit)) fun r_1 => br r_1.fst (qb (spec_l1Copy_T r.fst) fun x => some (Term.mk r.fst.op r.fst.n r.fst.s r.fst.kids, Term.mk x.op x.n x.s x.kids, PUnit.unit)) (qb (hqT RN 71 [V.c C.hole] [] (Sh.el Kind.term) : Option ((Term) × Unit)) fun r_2 => some (Term.mk r.fst.op r.fst.n r.fst.s r.fst.kids, Term.mk r_2.fst.op r_2.fst.n r_2.fst.s r_2.fst.kids, PUnit.unit))) (br (isExt 0 x.fst) (qb (spec_l1Draw_H x.snd.fst.fst 0 x.snd.fst.snd.fst) fun r => qb (spec_l1Once_H 3 r.snd.fst.fst r.snd.fst.snd.fst r.snd.fst.snd.snd.fst) fun r_1 => br r_1.fst (qb (spec_l1Copy_T r.fst) fun x => some (Term.mk r.fst.op r.fst.n r.fst.s r.fst.kids, Term.mk x.op x.n x.s x.kids, PUnit.unit)) (qb (spec_l1Draw_H r_1.snd.fst.fst r_1.snd.fst.snd.fst r_1.snd.fst.snd.snd.fst) fun r_2 => some (Term.mk r.fst.op r.fst.n r.fst.s r.fst.kids, Term.mk r_2.fst.op r_2.fst.n r_2.fst.s r_2.fst.kids, PUnit.unit))) none)

theorem spec_l1DrawTwo_res (n : Nat) (a0 : List UInt8) : residT Tryz.prog cfg RN n 90 [.sl false .byte a0] (.tup [.el .term, .el .term]) = spec_l1DrawTwo_R n a0 := by kernel_rfl

theorem spec_l1DrawTwo_of (n : Nat) (a0 : List UInt8) {y} (h : spec_l1DrawTwo_R n a0 = some y) : spec_l1DrawTwo_T a0 = some y := presT_of (((spec_l1DrawTwo_res n a0)).trans h)

noncomputable def impl_Signed_R (n : Nat) (a0 : Term) (a1 : Term) : Option (Term × Bool × Unit) := br (a0.op != 4) (some (Term.mk 0 0 (ByteArray.mk #[]) [], false, PUnit.unit)) (qb (impl_TermOk_T a0) fun x => br (!x) (some (Term.mk 0 0 (ByteArray.mk #[]) [], false, PUnit.unit)) (br (a1.op != 8) (some (Term.mk 0 0 (ByteArray.mk #[]) [], false, PUnit.unit)) (qb (impl_TermOk_T a1) fun x => br (!x) (some (Term.mk 0 0 (ByteArray.mk #[]) [], false, PUnit.unit)) (qb (idx a1.kids 0) fun y => qb (idx a0.kids 0) fun y_1 => qb (impl_Same_T y y_1) fun x => br (!x) (some (Term.mk 0 0 (ByteArray.mk #[]) [], false, PUnit.unit)) (qb (idx a1.kids 1) fun y => qb (impl_clone_T y) fun x => some (Term.mk x.op x.n x.s x.kids, true, PUnit.unit))))))

theorem impl_Signed_res (n : Nat) (a0 : Term) (a1 : Term) : residT Tryz.prog cfg RN n 91 [.ag (Term.cells a0), .ag (Term.cells a1)] (.tup [.el .term, .bool]) = impl_Signed_R n a0 a1 := by kernel_rfl

theorem impl_Signed_of (n : Nat) (a0 : Term) (a1 : Term) {y} (h : impl_Signed_R n a0 a1 = some y) : impl_Signed_T a0 a1 = some y := presT_of (((impl_Signed_res n a0 a1)).trans h)

noncomputable def spec_CertGood_R (n : Nat) (a0 : Term) (a1 : ByteArray) (a2 : Int) : Option (Term × Bool × Unit) := qb (spec_CertOf_T a0) fun x => br (!x.snd.fst) (some (Term.mk 0 0 (ByteArray.mk #[]) [], false, PUnit.unit)) (br (!x.fst.host.toList == a1.toList) (some (Term.mk 0 0 (ByteArray.mk #[]) [], false, PUnit.unit)) (br (decide (x.fst.til < a2)) (some (Term.mk 0 0 (ByteArray.mk #[]) [], false, PUnit.unit)) (some (Term.mk x.fst.pub.op x.fst.pub.n x.fst.pub.s x.fst.pub.kids, true, PUnit.unit))))

theorem spec_CertGood_res (n : Nat) (a0 : Term) (a1 : ByteArray) (a2 : Int) : residT Tryz.prog cfg RN n 92 [.ag (Term.cells a0), .str a1, .int a2] (.tup [.el .term, .bool]) = spec_CertGood_R n a0 a1 a2 := by kernel_rfl

theorem spec_CertGood_of (n : Nat) (a0 : Term) (a1 : ByteArray) (a2 : Int) {y} (h : spec_CertGood_R n a0 a1 a2 = some y) : spec_CertGood_T a0 a1 a2 = some y := presT_of (((spec_CertGood_res n a0 a1 a2)).trans h)

noncomputable def spec_Signed_R (n : Nat) (a0 : Term) (a1 : Term) : Option (Term × Bool × Unit) := qb (spec_TermOk_T a1) fun x => br (!x) (some (Term.mk 0 0 (ByteArray.mk #[]) [], false, PUnit.unit)) (br (a1.op != 8) (some (Term.mk 0 0 (ByteArray.mk #[]) [], false, PUnit.unit)) (qb (idx a1.kids 0) fun y => qb (spec_l2Pub_T y) fun x => qb (spec_Same_T a0 x) fun x => br (!x) (some (Term.mk 0 0 (ByteArray.mk #[]) [], false, PUnit.unit)) (qb (idx a1.kids 1) fun y => qb (spec_l1Copy_T y) fun x => some (Term.mk x.op x.n x.s x.kids, true, PUnit.unit))))

theorem spec_Signed_res (n : Nat) (a0 : Term) (a1 : Term) : residT Tryz.prog cfg RN n 93 [.ag (Term.cells a0), .ag (Term.cells a1)] (.tup [.el .term, .bool]) = spec_Signed_R n a0 a1 := by kernel_rfl

theorem spec_Signed_of (n : Nat) (a0 : Term) (a1 : Term) {y} (h : spec_Signed_R n a0 a1 = some y) : spec_Signed_T a0 a1 = some y := presT_of (((spec_Signed_res n a0 a1)).trans h)

noncomputable def spec_Same_R (n : Nat) (a0 : Term) (a1 : Term) : Option Bool := br (a0.op != a1.op) (some false) (br (a0.n != a1.n) (some false) (br (!a0.s.toList == a1.s.toList) (some false) (br ((↑a0.kids.length : Int) != (↑a1.kids.length : Int)) (some false) (qb (spec_Same_L4 n n false 0 a0 a1) fun x => br (isRetE x.fst) (some x.snd.fst.fst) (br (isExt 0 x.fst) (some true) none)))))

theorem spec_Same_res (n : Nat) (a0 : Term) (a1 : Term) : residT Tryz.prog cfg RN n 94 [.ag (Term.cells a0), .ag (Term.cells a1)] (.bool) = spec_Same_R n a0 a1 := by kernel_rfl

theorem spec_Same_of (n : Nat) (a0 : Term) (a1 : Term) {y} (h : spec_Same_R n a0 a1 = some y) : spec_Same_T a0 a1 = some y := presT_of (((spec_Same_res n a0 a1)).trans h)

noncomputable def impl_Hash_R (n : Nat) (a0 : Term) : Option Term := qb (impl_right_T (Term.mk 6 0 (ByteArray.mk #[]) [Term.mk a0.op a0.n a0.s a0.kids])) fun x => some (Term.mk x.op x.n x.s x.kids)

theorem impl_Hash_res (n : Nat) (a0 : Term) : residT Tryz.prog cfg RN n 95 [.ag (Term.cells a0)] (.el .term) = impl_Hash_R n a0 := by kernel_rfl

theorem impl_Hash_of (n : Nat) (a0 : Term) {y} (h : impl_Hash_R n a0 = some y) : impl_Hash_T a0 = some y := presT_of (((impl_Hash_res n a0)).trans h)

noncomputable def spec_Hash_R (n : Nat) (a0 : Term) : Option Term := qb (spec_l1Copy_T a0) fun x => qb (spec_TermOk_T (Term.mk 6 0 (ByteArray.mk #[]) [Term.mk x.op x.n x.s x.kids])) fun x_1 => br (!x_1) (some (Term.mk 0 0 (ByteArray.mk #[]) [])) (some (Term.mk 6 0 (ByteArray.mk #[]) [Term.mk x.op x.n x.s x.kids]))

theorem spec_Hash_res (n : Nat) (a0 : Term) : residT Tryz.prog cfg RN n 96 [.ag (Term.cells a0)] (.tt) = spec_Hash_R n a0 := by kernel_rfl

theorem spec_Hash_of (n : Nat) (a0 : Term) {y} (h : spec_Hash_R n a0 = some y) : spec_Hash_T a0 = some y := presT_of (((spec_Hash_res n a0)).trans h)

noncomputable def impl_CertOf_R (n : Nat) (a0 : Term) : Option (Cert × Bool × Unit) := qb (impl_Atom_T 1) fun x => qb (impl_Pub_T x) fun x => qb (impl_Signed_T x a0) fun x => qb (impl_twoOf_T x.fst) fun x_1 => qb (impl_twoOf_T x_1.snd.fst) fun x_2 => qb (strconv_Atoi_T x_2.snd.fst.s) fun x_3 => br x_3.snd.fst (br (!x.snd.fst) (some (Cert.mk (ByteArray.mk #[]) (Term.mk 0 0 (ByteArray.mk #[]) []) 0, false, PUnit.unit)) (br (!x_1.snd.snd.fst) (some (Cert.mk (ByteArray.mk #[]) (Term.mk 0 0 (ByteArray.mk #[]) []) 0, false, PUnit.unit)) (br (!x_2.snd.snd.fst) (some (Cert.mk (ByteArray.mk #[]) (Term.mk 0 0 (ByteArray.mk #[]) []) 0, false, PUnit.unit)) (some (Cert.mk (ByteArray.mk #[]) (Term.mk 0 0 (ByteArray.mk #[]) []) 0, false, PUnit.unit))))) (br (!x.snd.fst) (some (Cert.mk (ByteArray.mk #[]) (Term.mk 0 0 (ByteArray.mk #[]) []) 0, false, PUnit.unit)) (br (!x_1.snd.snd.fst) (some (Cert.mk (ByteArray.mk #[]) (Term.mk 0 0 (ByteArray.mk #[]) []) 0, false, PUnit.unit)) (br (!x_2.snd.snd.fst) (some (Cert.mk (ByteArray.mk #[]) (Term.mk 0 0 (ByteArray.mk #[]) []) 0, false, PUnit.unit)) (qb (impl_clone_T x_2.fst) fun x => qb (impl_CertTerm_T (Cert.mk x_1.fst.s x x_3.fst)) fun x_4 => br (x_4.op != 8) (some (Cert.mk (ByteArray.mk #[]) (Term.mk 0 0 (ByteArray.mk #[]) []) 0, false, PUnit.unit)) (qb (impl_Same_T x_4 a0) fun x_5 => br (!x_5) (some (Cert.mk (ByteArray.mk #[]) (Term.mk 0 0 (ByteArray.mk #[]) []) 0, false, PUnit.unit)) (some (Cert.mk x_1.fst.s (Term.mk x.op x.n x.s x.kids) x_3.fst, true, PUnit.unit)))))))

theorem impl_CertOf_res (n : Nat) (a0 : Term) : residT Tryz.prog cfg RN n 97 [.ag (Term.cells a0)] (.tup [.cert, .bool]) = impl_CertOf_R n a0 := by kernel_rfl

theorem impl_CertOf_of (n : Nat) (a0 : Term) {y} (h : impl_CertOf_R n a0 = some y) : impl_CertOf_T a0 = some y := presT_of (((impl_CertOf_res n a0)).trans h)

noncomputable def impl_TermSize_R (n : Nat) (a0 : Term) : Option Int := qb (impl_TermSize_L3 n n 1 false a0.kids (↑a0.kids.length : Int) 0) fun x => br (isRetE x.fst) none (br (isExt 0 x.fst) (some x.snd.fst.fst) none)

theorem impl_TermSize_res (n : Nat) (a0 : Term) : residT Tryz.prog cfg RN n 98 [.ag (Term.cells a0)] (.int) = impl_TermSize_R n a0 := by kernel_rfl

theorem impl_TermSize_of (n : Nat) (a0 : Term) {y} (h : impl_TermSize_R n a0 = some y) : impl_TermSize_T a0 = some y := presT_of (((impl_TermSize_res n a0)).trans h)

noncomputable def impl_formOk_R (n : Nat) (a0 : Term) : Option Bool := qb (impl_arity_T a0.op) fun x => br ((↑a0.kids.length : Int) != x) (some false) (qb (slices_ContainsFunc_impl_Term_impl_Term_T a0.kids (V.c (C.fn 140 []))) fun x => br x (some false) (br (a0.op == 1) (qb (impl_in_T a0.n 0 1000000) fun x => br x (some (a0.s.toList == (ByteArray.mk #[]).toList)) (some false)) (br (a0.op == 2) (br (a0.n == 0) (some (decide ((↑a0.s.size : Int) ≤ 300))) (some false)) (br (a0.op == 5) (br (a0.n == 0) (br (a0.s.toList == (ByteArray.mk #[]).toList) (qb (idx a0.kids 1) fun y => qb (idx a0.kids 0) fun y_1 => qb (impl_Before_T y y_1) fun x => some !x) (some false)) (some false)) (br (a0.n == 0) (some (a0.s.toList == (ByteArray.mk #[]).toList)) (some false))))))

theorem impl_formOk_res (n : Nat) (a0 : Term) : residT Tryz.prog cfg RN n 99 [.ag (Term.cells a0)] (.bool) = impl_formOk_R n a0 := by kernel_rfl

theorem impl_formOk_of (n : Nat) (a0 : Term) {y} (h : impl_formOk_R n a0 = some y) : impl_formOk_T a0 = some y := presT_of (((impl_formOk_res n a0)).trans h)

noncomputable def impl_Before_R (n : Nat) (a0 : Term) (a1 : Term) : Option Bool := br (a0.op != a1.op) (some (decide (a0.op < a1.op))) (br (a0.n != a1.n) (some (decide (a0.n < a1.n))) (br (!a0.s.toList == a1.s.toList) (some (Op.bytesLess a0.s.toList a1.s.toList)) (br ((↑a0.kids.length : Int) != (↑a1.kids.length : Int)) (some (decide ((↑a0.kids.length : Int) < (↑a1.kids.length : Int)))) (qb (impl_Before_L10 n n false false a0.kids (↑a0.kids.length : Int) 0 a1) fun x => br (isRetE x.fst) (some x.snd.fst.fst) (br (isExt 1 x.fst) (some false) none)))))

theorem impl_Before_res (n : Nat) (a0 : Term) (a1 : Term) : residT Tryz.prog cfg RN n 100 [.ag (Term.cells a0), .ag (Term.cells a1)] (.bool) = impl_Before_R n a0 a1 := by kernel_rfl

theorem impl_Before_of (n : Nat) (a0 : Term) (a1 : Term) {y} (h : impl_Before_R n a0 a1 = some y) : impl_Before_T a0 a1 = some y := presT_of (((impl_Before_res n a0 a1)).trans h)

noncomputable def spec_TermOk_R (n : Nat) (a0 : Term) : Option Bool := qb (spec_TermSize_T a0) fun x => br (decide (x ≤ 200)) (qb (spec_l1Right_T a0) fun x => some x) (some false)

theorem spec_TermOk_res (n : Nat) (a0 : Term) : residT Tryz.prog cfg RN n 104 [.ag (Term.cells a0)] (.bool) = spec_TermOk_R n a0 := by kernel_rfl

theorem spec_TermOk_of (n : Nat) (a0 : Term) {y} (h : spec_TermOk_R n a0 = some y) : spec_TermOk_T a0 = some y := presT_of (((spec_TermOk_res n a0)).trans h)

noncomputable def impl_in_R (n : Nat) (a0 : Int) (a1 : Int) (a2 : Int) : Option Bool := br (decide (a0 ≥ a1)) (some (decide (a0 ≤ a2))) (some false)

theorem impl_in_res (n : Nat) (a0 : Int) (a1 : Int) (a2 : Int) : residT Tryz.prog cfg RN n 110 [.int a0, .int a1, .int a2] (.bool) = impl_in_R n a0 a1 a2 := by kernel_rfl

theorem impl_in_of (n : Nat) (a0 : Int) (a1 : Int) (a2 : Int) {y} (h : impl_in_R n a0 a1 a2 = some y) : impl_in_T a0 a1 a2 = some y := presT_of (((impl_in_res n a0 a1 a2)).trans h)

noncomputable def impl_HostOk_R (n : Nat) (a0 : ByteArray) : Option Bool := qb (impl_labelsOk_T a0 2) fun x => some x

theorem impl_HostOk_res (n : Nat) (a0 : ByteArray) : residT Tryz.prog cfg RN n 111 [.str a0] (.bool) = impl_HostOk_R n a0 := by kernel_rfl

theorem impl_HostOk_of (n : Nat) (a0 : ByteArray) {y} (h : impl_HostOk_R n a0 = some y) : impl_HostOk_T a0 = some y := presT_of (((impl_HostOk_res n a0)).trans h)

noncomputable def spec_CertTerm_R (n : Nat) (a0 : Cert) : Option Term := qb (spec_CertOk_T a0) fun x => br (!x) (some (Term.mk 0 0 (ByteArray.mk #[]) [])) (qb (spec_Atom_T 1) fun x => qb (spec_l3Num_T a0.til) fun x_1 => qb (spec_Pair_T a0.pub x_1) fun x_2 => qb (spec_Pair_T (Term.mk 2 0 a0.host []) x_2) fun x_3 => qb (spec_Sign_T x x_3) fun x => some (Term.mk x.op x.n x.s x.kids))

theorem spec_CertTerm_res (n : Nat) (a0 : Cert) : residT Tryz.prog cfg RN n 115 [.ag (Cert.cells a0)] (.el .term) = spec_CertTerm_R n a0 := by kernel_rfl

theorem spec_CertTerm_of (n : Nat) (a0 : Cert) {y} (h : spec_CertTerm_R n a0 = some y) : spec_CertTerm_T a0 = some y := presT_of (((spec_CertTerm_res n a0)).trans h)

noncomputable def spec_l1In_R (n : Nat) (a0 : Int) (a1 : Int) (a2 : Int) : Option Bool := br (decide (a0 ≥ a1)) (some (decide (a0 ≤ a2))) (some false)

theorem spec_l1In_res (n : Nat) (a0 : Int) (a1 : Int) (a2 : Int) : residT Tryz.prog cfg RN n 121 [.int a0, .int a1, .int a2] (.bool) = spec_l1In_R n a0 a1 a2 := by kernel_rfl

theorem spec_l1In_of (n : Nat) (a0 : Int) (a1 : Int) (a2 : Int) {y} (h : spec_l1In_R n a0 a1 a2 = some y) : spec_l1In_T a0 a1 a2 = some y := presT_of (((spec_l1In_res n a0 a1 a2)).trans h)

noncomputable def spec_HostOk_R (n : Nat) (a0 : ByteArray) : Option Bool := qb (spec_l5Labels_T a0 2) fun x => some x

theorem spec_HostOk_res (n : Nat) (a0 : ByteArray) : residT Tryz.prog cfg RN n 122 [.str a0] (.bool) = spec_HostOk_R n a0 := by kernel_rfl

theorem spec_HostOk_of (n : Nat) (a0 : ByteArray) {y} (h : spec_HostOk_R n a0 = some y) : spec_HostOk_T a0 = some y := presT_of (((spec_HostOk_res n a0)).trans h)

noncomputable def spec_l1Byte_R (n : Nat) (a0_b : List UInt8) (a0_i : Int) (a0_h : Int) : Option ((Int) × (List UInt8 × Int × Int × Unit) × Unit) := qb (ge0 33) fun y => qb (ge0 45) fun y => br (decide (a0_i < (↑a0_b.length : Int))) (qb (idx a0_b a0_i) fun y => some (IntKind.i64.wrap (↑(BitVec.ofInt IntKind.i64.bits (IntKind.i64.wrap (IntKind.i64.wrap (↑(BitVec.ofInt IntKind.i64.bits (IntKind.i64.wrap (↑(BitVec.ofInt IntKind.i64.bits ((IntKind.i64.wrap (IntKind.i64.wrap (a0_h * 6364136223846793005) + 1442695040888963407)).fdiv (2 ^ min (Int.toNat 33) IntKind.i64.bits)) ^^^ BitVec.ofInt IntKind.i64.bits ((IntKind.i64.wrap (IntKind.i64.wrap (a0_h * 6364136223846793005) + 1442695040888963407)).fdiv (2 ^ min (Int.toNat 45) IntKind.i64.bits))).toNat : Int)) &&& BitVec.ofInt IntKind.i64.bits 255).toNat : Int) + IntKind.i64.wrap (↑y.toNat : Int))) &&& BitVec.ofInt IntKind.i64.bits 255).toNat : Int), (a0_b, IntKind.i64.wrap (a0_i + 1), IntKind.i64.wrap (IntKind.i64.wrap (a0_h * 6364136223846793005) + 1442695040888963407), PUnit.unit), PUnit.unit)) (some (IntKind.i64.wrap (↑(BitVec.ofInt IntKind.i64.bits (IntKind.i64.wrap (↑(BitVec.ofInt IntKind.i64.bits ((IntKind.i64.wrap (IntKind.i64.wrap (a0_h * 6364136223846793005) + 1442695040888963407)).fdiv (2 ^ min (Int.toNat 33) IntKind.i64.bits)) ^^^ BitVec.ofInt IntKind.i64.bits ((IntKind.i64.wrap (IntKind.i64.wrap (a0_h * 6364136223846793005) + 1442695040888963407)).fdiv (2 ^ min (Int.toNat 45) IntKind.i64.bits))).toNat : Int)) &&& BitVec.ofInt IntKind.i64.bits 255).toNat : Int), (a0_b, a0_i, IntKind.i64.wrap (IntKind.i64.wrap (a0_h * 6364136223846793005) + 1442695040888963407), PUnit.unit), PUnit.unit))

theorem spec_l1Byte_res (n : Nat) (a0_b : List UInt8) (a0_i : Int) (a0_h : Int) : residH Tryz.prog cfg RN n 126 [.c (.bx (.arg 0) 0)] [.box [.f (.sl false .byte a0_b), .f (.int a0_i), .f (.int a0_h)]] (.int) = spec_l1Byte_R n a0_b a0_i a0_h := by kernel_rfl

theorem spec_l1Byte_of (n : Nat) (a0_b : List UInt8) (a0_i : Int) (a0_h : Int) {y} (h : spec_l1Byte_R n a0_b a0_i a0_h = some y) : spec_l1Byte_H a0_b a0_i a0_h = some y := hqT_of (((spec_l1Byte_res n a0_b a0_i a0_h)).trans h)

noncomputable def spec_l4DrawRight_R (n : Nat) (a0_b : List UInt8) (a0_i : Int) (a0_h : Int) : Option ((Cert) × (List UInt8 × Int × Int × Unit) × Unit) := qb (spec_l5DrawHost_H a0_b a0_i a0_h) fun r => qb (spec_l1Below_H 3 r.snd.fst.fst r.snd.fst.snd.fst r.snd.fst.snd.snd.fst) fun r_1 => qb (spec_Atom_T (IntKind.i64.wrap (10 + r_1.fst))) fun x => qb (spec_Pub_T x) fun x => qb (spec_l1PickInt_H true [0, 5, 50, 100000] r_1.snd.fst.fst r_1.snd.fst.snd.fst r_1.snd.fst.snd.snd.fst) fun r_2 => some (Cert.mk r.fst (Term.mk x.op x.n x.s x.kids) r_2.fst, (r_2.snd.fst.fst, r_2.snd.fst.snd.fst, r_2.snd.fst.snd.snd.fst, PUnit.unit), PUnit.unit)

theorem spec_l4DrawRight_res (n : Nat) (a0_b : List UInt8) (a0_i : Int) (a0_h : Int) : residH Tryz.prog cfg RN n 127 [.c (.bx (.arg 0) 0)] [.box [.f (.sl false .byte a0_b), .f (.int a0_i), .f (.int a0_h)]] (.cert) = spec_l4DrawRight_R n a0_b a0_i a0_h := by kernel_rfl

theorem spec_l4DrawRight_of (n : Nat) (a0_b : List UInt8) (a0_i : Int) (a0_h : Int) {y} (h : spec_l4DrawRight_R n a0_b a0_i a0_h = some y) : spec_l4DrawRight_H a0_b a0_i a0_h = some y := hqT_of (((spec_l4DrawRight_res n a0_b a0_i a0_h)).trans h)

noncomputable def spec_l1DrawRight_R (n : Nat) (a1 : Int) (a0_b : List UInt8) (a0_i : Int) (a0_h : Int) : Option ((Term) × (List UInt8 × Int × Int × Unit) × Unit) := br (a1 == 0) (qb (spec_l1Once_H 3 a0_b a0_i a0_h) fun r => br r.fst (qb (spec_l1Pick_H true [ByteArray.mk #[], ByteArray.mk #[97], ByteArray.mk #[109, 120, 46, 97], ByteArray.mk #[50, 53, 48]] r.snd.fst.fst r.snd.fst.snd.fst r.snd.fst.snd.snd.fst) fun r => some (Term.mk 2 0 r.fst [], (r.snd.fst.fst, r.snd.fst.snd.fst, r.snd.fst.snd.snd.fst, PUnit.unit), PUnit.unit)) (qb (spec_l1Below_H 9 r.snd.fst.fst r.snd.fst.snd.fst r.snd.fst.snd.snd.fst) fun r => some (Term.mk 1 r.fst (ByteArray.mk #[]) [], (r.snd.fst.fst, r.snd.fst.snd.fst, r.snd.fst.snd.snd.fst, PUnit.unit), PUnit.unit))) (qb (spec_l1Once_H 4 a0_b a0_i a0_h) fun r => br r.fst (qb (spec_l1Once_H 3 r.snd.fst.fst r.snd.fst.snd.fst r.snd.fst.snd.snd.fst) fun r => br r.fst (qb (spec_l1Pick_H true [ByteArray.mk #[], ByteArray.mk #[97], ByteArray.mk #[109, 120, 46, 97], ByteArray.mk #[50, 53, 48]] r.snd.fst.fst r.snd.fst.snd.fst r.snd.fst.snd.snd.fst) fun r => some (Term.mk 2 0 r.fst [], (r.snd.fst.fst, r.snd.fst.snd.fst, r.snd.fst.snd.snd.fst, PUnit.unit), PUnit.unit)) (qb (spec_l1Below_H 9 r.snd.fst.fst r.snd.fst.snd.fst r.snd.fst.snd.snd.fst) fun r => some (Term.mk 1 r.fst (ByteArray.mk #[]) [], (r.snd.fst.fst, r.snd.fst.snd.fst, r.snd.fst.snd.snd.fst, PUnit.unit), PUnit.unit))) (qb (spec_l1DrawRight_H (IntKind.i64.wrap (a1 - 1)) r.snd.fst.fst r.snd.fst.snd.fst r.snd.fst.snd.snd.fst) fun r => qb (spec_l1Below_H 7 r.snd.fst.fst r.snd.fst.snd.fst r.snd.fst.snd.snd.fst) fun r_1 => br (r_1.fst == 0) (qb (spec_Pub_T r.fst) fun x => some (Term.mk x.op x.n x.s x.kids, (r_1.snd.fst.fst, r_1.snd.fst.snd.fst, r_1.snd.fst.snd.snd.fst, PUnit.unit), PUnit.unit)) (br (r_1.fst == 1) (qb (spec_Hash_T r.fst) fun x => some (Term.mk x.op x.n x.s x.kids, (r_1.snd.fst.fst, r_1.snd.fst.snd.fst, r_1.snd.fst.snd.snd.fst, PUnit.unit), PUnit.unit)) (br (r_1.fst == 2) (qb (spec_l1DrawRight_H (IntKind.i64.wrap (a1 - 1)) r_1.snd.fst.fst r_1.snd.fst.snd.fst r_1.snd.fst.snd.snd.fst) fun r_2 => qb (spec_Pub_T r_2.fst) fun x => qb (spec_Agree_T r.fst x) fun x => br x.snd.fst (some (Term.mk x.fst.op x.fst.n x.fst.s x.fst.kids, (r_2.snd.fst.fst, r_2.snd.fst.snd.fst, r_2.snd.fst.snd.snd.fst, PUnit.unit), PUnit.unit)) (some (Term.mk r.fst.op r.fst.n r.fst.s r.fst.kids, (r_2.snd.fst.fst, r_2.snd.fst.snd.fst, r_2.snd.fst.snd.snd.fst, PUnit.unit), PUnit.unit))) (br (r_1.fst == 3) (qb (spec_l1Below_H 3 r_1.snd.fst.fst r_1.snd.fst.snd.fst r_1.snd.fst.snd.snd.fst) fun r_2 => qb (spec_l1DrawRight_H (IntKind.i64.wrap (a1 - 1)) r_2.snd.fst.fst r_2.snd.fst.snd.fst r_2.snd.fst.snd.snd.fst) fun r_3 => qb (spec_Seal_T r.fst r_2.fst r_3.fst) fun x => some (Term.mk x.op x.n x.s x.kids, (r_3.snd.fst.fst, r_3.snd.fst.snd.fst, r_3.snd.fst.snd.snd.fst, PUnit.unit), PUnit.unit)) (br (r_1.fst == 4) (qb (spec_l1DrawRight_H (IntKind.i64.wrap (a1 - 1)) r_1.snd.fst.fst r_1.snd.fst.snd.fst r_1.snd.fst.snd.snd.fst) fun r_2 => qb (spec_Sign_T r.fst r_2.fst) fun x => some (Term.mk x.op x.n x.s x.kids, (r_2.snd.fst.fst, r_2.snd.fst.snd.fst, r_2.snd.fst.snd.snd.fst, PUnit.unit), PUnit.unit)) (qb (spec_l1DrawRight_H (IntKind.i64.wrap (a1 - 1)) r_1.snd.fst.fst r_1.snd.fst.snd.fst r_1.snd.fst.snd.snd.fst) fun r_2 => qb (spec_Pair_T r.fst r_2.fst) fun x => some (Term.mk x.op x.n x.s x.kids, (r_2.snd.fst.fst, r_2.snd.fst.snd.fst, r_2.snd.fst.snd.snd.fst, PUnit.unit), PUnit.unit))))))))

theorem spec_l1DrawRight_res (n : Nat) (a1 : Int) (a0_b : List UInt8) (a0_i : Int) (a0_h : Int) : residH Tryz.prog cfg RN n 128 [.c (.bx (.arg 0) 0), .int a1] [.box [.f (.sl false .byte a0_b), .f (.int a0_i), .f (.int a0_h)]] (.tt) = spec_l1DrawRight_R n a1 a0_b a0_i a0_h := by kernel_rfl

theorem spec_l1DrawRight_of (n : Nat) (a1 : Int) (a0_b : List UInt8) (a0_i : Int) (a0_h : Int) {y} (h : spec_l1DrawRight_R n a1 a0_b a0_i a0_h = some y) : spec_l1DrawRight_H a1 a0_b a0_i a0_h = some y := hqT_of (((spec_l1DrawRight_res n a1 a0_b a0_i a0_h)).trans h)

noncomputable def spec_Before_R (n : Nat) (a0 : Term) (a1 : Term) : Option Bool := br (a0.op != a1.op) (some (decide (a0.op < a1.op))) (br (a0.n != a1.n) (some (decide (a0.n < a1.n))) (br (!a0.s.toList == a1.s.toList) (some (Op.bytesLess a0.s.toList a1.s.toList)) (br ((↑a0.kids.length : Int) != (↑a1.kids.length : Int)) (some (decide ((↑a0.kids.length : Int) < (↑a1.kids.length : Int)))) (qb (spec_Before_L10 n n false 0 a0 a1) fun x => br (isRetE x.fst) (some x.snd.fst.fst) (br (isExt 1 x.fst) (some false) none)))))

theorem spec_Before_res (n : Nat) (a0 : Term) (a1 : Term) : residT Tryz.prog cfg RN n 129 [.ag (Term.cells a0), .ag (Term.cells a1)] (.bool) = spec_Before_R n a0 a1 := by kernel_rfl

theorem spec_Before_of (n : Nat) (a0 : Term) (a1 : Term) {y} (h : spec_Before_R n a0 a1 = some y) : spec_Before_T a0 a1 = some y := presT_of (((spec_Before_res n a0 a1)).trans h)

noncomputable def spec_l3Two_R (n : Nat) (a0 : Int) (a1 : Term) (a2 : Term) : Option Term := qb (spec_l1Copy_T a1) fun x => qb (spec_l1Copy_T a2) fun x_1 => qb (spec_TermOk_T (Term.mk a0 0 (ByteArray.mk #[]) [Term.mk x.op x.n x.s x.kids, Term.mk x_1.op x_1.n x_1.s x_1.kids])) fun x_2 => br (!x_2) (some (Term.mk 0 0 (ByteArray.mk #[]) [])) (some (Term.mk a0 0 (ByteArray.mk #[]) [Term.mk x.op x.n x.s x.kids, Term.mk x_1.op x_1.n x_1.s x_1.kids]))

theorem spec_l3Two_res (n : Nat) (a0 : Int) (a1 : Term) (a2 : Term) : residT Tryz.prog cfg RN n 130 [.int a0, .ag (Term.cells a1), .ag (Term.cells a2)] (.tt) = spec_l3Two_R n a0 a1 a2 := by kernel_rfl

theorem spec_l3Two_of (n : Nat) (a0 : Int) (a1 : Term) (a2 : Term) {y} (h : spec_l3Two_R n a0 a1 a2 = some y) : spec_l3Two_T a0 a1 a2 = some y := presT_of (((spec_l3Two_res n a0 a1 a2)).trans h)

noncomputable def spec_l3Num_R (n : Nat) (a0 : Int) : Option Term := qb (spec_l1Digits_T a0) fun x => some (Term.mk 2 0 x [])

theorem spec_l3Num_res (n : Nat) (a0 : Int) : residT Tryz.prog cfg RN n 131 [.int a0] (.el .term) = spec_l3Num_R n a0 := by kernel_rfl

theorem spec_l3Num_of (n : Nat) (a0 : Int) {y} (h : spec_l3Num_R n a0 = some y) : spec_l3Num_T a0 = some y := presT_of (((spec_l3Num_res n a0)).trans h)

noncomputable def impl_cloneAll_R (n : Nat) (a0 : List Term) : Option (List Term) := qb (impl_cloneAll_L3 n n [] false a0 (↑a0.length : Int) 0) fun x => br (isRetE x.fst) none (br (isExt 0 x.fst) (some x.snd.snd.fst) none)

theorem impl_cloneAll_res (n : Nat) (a0 : List Term) : residT Tryz.prog cfg RN n 132 [.sl false .term a0] (.sl .term) = impl_cloneAll_R n a0 := by kernel_rfl

theorem impl_cloneAll_of (n : Nat) (a0 : List Term) {y} (h : impl_cloneAll_R n a0 = some y) : impl_cloneAll_T a0 = some y := presT_of (((impl_cloneAll_res n a0)).trans h)

noncomputable def spec_l1Pick_R (n : Nat) (t_a1 : Bool) (a1 : List ByteArray) (a0_b : List UInt8) (a0_i : Int) (a0_h : Int) : Option ((ByteArray) × (List UInt8 × Int × Int × Unit) × Unit) := qb (spec_l1Below_H (↑a1.length : Int) a0_b a0_i a0_h) fun r => qb (idx a1 r.fst) fun y => some (y, (r.snd.fst.fst, r.snd.fst.snd.fst, r.snd.fst.snd.snd.fst, PUnit.unit), PUnit.unit)

theorem spec_l1Pick_res (n : Nat) (t_a1 : Bool) (a1 : List ByteArray) (a0_b : List UInt8) (a0_i : Int) (a0_h : Int) : residH Tryz.prog cfg RN n 133 [.c (.bx (.arg 0) 0), .sl t_a1 .str a1] [.box [.f (.sl false .byte a0_b), .f (.int a0_i), .f (.int a0_h)]] (.str) = spec_l1Pick_R n t_a1 a1 a0_b a0_i a0_h := by kernel_rfl

theorem spec_l1Pick_of (n : Nat) (t_a1 : Bool) (a1 : List ByteArray) (a0_b : List UInt8) (a0_i : Int) (a0_h : Int) {y} (h : spec_l1Pick_R n t_a1 a1 a0_b a0_i a0_h = some y) : spec_l1Pick_H t_a1 a1 a0_b a0_i a0_h = some y := hqT_of (((spec_l1Pick_res n t_a1 a1 a0_b a0_i a0_h)).trans h)

noncomputable def spec_l6Number_R (n : Nat) (a0 : ByteArray) : Option Int := br (decide ((↑a0.size : Int) < 1)) (some (-1)) (br (decide ((↑a0.size : Int) > 6)) (some (-1)) (qb (spec_l6Number_L5 n n a0 0 0 0) fun x => br (isRetE x.fst) (some x.snd.fst.snd.fst) (br (isExt 0 x.fst) (qb (spec_l1Digits_T x.snd.fst.snd.snd.fst) fun x_1 => br (!x_1.toList == x.snd.fst.fst.toList) (some (-1)) (br (decide (x.snd.fst.snd.snd.fst > 100000)) (some (-1)) (some x.snd.fst.snd.snd.fst))) none)))

theorem spec_l6Number_res (n : Nat) (a0 : ByteArray) : residT Tryz.prog cfg RN n 134 [.str a0] (.int) = spec_l6Number_R n a0 := by kernel_rfl

theorem spec_l6Number_of (n : Nat) (a0 : ByteArray) {y} (h : spec_l6Number_R n a0 = some y) : spec_l6Number_T a0 = some y := presT_of (((spec_l6Number_res n a0)).trans h)

noncomputable def spec_CertOk_R (n : Nat) (a0 : Cert) : Option Bool := qb (spec_HostOk_T a0.host) fun x => br x (br (a0.pub.op == 4) (qb (spec_TermOk_T a0.pub) fun x => br x (qb (spec_l1In_T a0.til 0 100000) fun x => some x) (some false)) (some false)) (some false)

theorem spec_CertOk_res (n : Nat) (a0 : Cert) : residT Tryz.prog cfg RN n 135 [.ag (Cert.cells a0)] (.bool) = spec_CertOk_R n a0 := by kernel_rfl

theorem spec_CertOk_of (n : Nat) (a0 : Cert) {y} (h : spec_CertOk_R n a0 = some y) : spec_CertOk_T a0 = some y := presT_of (((spec_CertOk_res n a0)).trans h)

noncomputable def spec_l2Pub_R (n : Nat) (a0 : Term) : Option Term := some (Term.mk 4 0 (ByteArray.mk #[]) [Term.mk a0.op a0.n a0.s a0.kids])

theorem spec_l2Pub_res (n : Nat) (a0 : Term) : residT Tryz.prog cfg RN n 136 [.ag (Term.cells a0)] (.el .term) = spec_l2Pub_R n a0 := by kernel_rfl

theorem spec_l2Pub_of (n : Nat) (a0 : Term) {y} (h : spec_l2Pub_R n a0 = some y) : spec_l2Pub_T a0 = some y := presT_of (((spec_l2Pub_res n a0)).trans h)

noncomputable def impl_arity_R (n : Nat) (a0 : Int) : Option Int := br (a0 == 1) (some 0) (br (a0 == 2) (some 0) (br (a0 == 4) (some 1) (br (a0 == 6) (some 1) (br (a0 == 3) (some 2) (br (a0 == 5) (some 2) (br (a0 == 7) (some 2) (br (a0 == 8) (some 2) (some (-1)))))))))

theorem impl_arity_res (n : Nat) (a0 : Int) : residT Tryz.prog cfg RN n 138 [.int a0] (.int) = impl_arity_R n a0 := by kernel_rfl

theorem impl_arity_of (n : Nat) (a0 : Int) {y} (h : impl_arity_R n a0 = some y) : impl_arity_T a0 = some y := presT_of (((impl_arity_res n a0)).trans h)

noncomputable def ContainsFunc_formOk_1_R (n : Nat) (a0 : List Term) : Option Bool := qb (slices_IndexFunc_impl_Term_impl_Term_T a0 (V.c (C.fn 140 []))) fun x => some (decide (x ≥ 0))

theorem ContainsFunc_formOk_1_res (n : Nat) (a0 : List Term) : residT Tryz.prog cfg RN n 139 [.sl false .term a0, .c (.fn 140 [])] (.bool) = ContainsFunc_formOk_1_R n a0 := by kernel_rfl

theorem ContainsFunc_formOk_1_of (n : Nat) (a0 : List Term) {y} (h : ContainsFunc_formOk_1_R n a0 = some y) : slices_ContainsFunc_impl_Term_impl_Term_T a0 (.c (.fn 140 [])) = some y := presT_of (((ContainsFunc_formOk_1_res n a0)).trans h)

noncomputable def spec_TermSize_R (n : Nat) (a0 : Term) : Option Int := qb (spec_TermSize_L3 n n 1 0 a0) fun x => br (isRetE x.fst) none (br (isExt 0 x.fst) (some x.snd.fst.fst) none)

theorem spec_TermSize_res (n : Nat) (a0 : Term) : residT Tryz.prog cfg RN n 142 [.ag (Term.cells a0)] (.int) = spec_TermSize_R n a0 := by kernel_rfl

theorem spec_TermSize_of (n : Nat) (a0 : Term) {y} (h : spec_TermSize_R n a0 = some y) : spec_TermSize_T a0 = some y := presT_of (((spec_TermSize_res n a0)).trans h)

noncomputable def spec_l1Right_R (n : Nat) (a0 : Term) : Option Bool := qb (spec_l1Kids_T a0.op) fun x => br (x != (↑a0.kids.length : Int)) (some false) (br (a0.op != 1) (br (a0.n != 0) (some false) (br (a0.op != 2) (br (!a0.s.toList == (ByteArray.mk #[]).toList) (some false) (qb (spec_l1In_T a0.n 0 1000000) fun x => br (!x) (some false) (br (decide ((↑a0.s.size : Int) > 300)) (some false) (qb (spec_l1Right_L4 n n false 0 a0) fun x => br (isRetE x.fst) (some x.snd.fst.snd.fst) (br (isExt 0 x.fst) (br (x.snd.snd.fst.op != 5) (some true) (qb (idx x.snd.snd.fst.kids 1) fun y => qb (idx x.snd.snd.fst.kids 0) fun y_1 => qb (spec_Before_T y y_1) fun x => some !x)) none))))) (qb (spec_l1In_T a0.n 0 1000000) fun x => br (!x) (some false) (br (decide ((↑a0.s.size : Int) > 300)) (some false) (qb (spec_l1Right_L4 n n false 0 a0) fun x => br (isRetE x.fst) (some x.snd.fst.snd.fst) (br (isExt 0 x.fst) (br (x.snd.snd.fst.op != 5) (some true) (qb (idx x.snd.snd.fst.kids 1) fun y => qb (idx x.snd.snd.fst.kids 0) fun y_1 => qb (spec_Before_T y y_1) fun x => some !x)) none)))))) (br (a0.op != 2) (br (!a0.s.toList == (ByteArray.mk #[]).toList) (some false) (qb (spec_l1In_T a0.n 0 1000000) fun x => br (!x) (some false) (br (decide ((↑a0.s.size : Int) > 300)) (some false) (qb (spec_l1Right_L4 n n false 0 a0) fun x => br (isRetE x.fst) (some x.snd.fst.snd.fst) (br (isExt 0 x.fst) (br (x.snd.snd.fst.op != 5) (some true) (qb (idx x.snd.snd.fst.kids 1) fun y => qb (idx x.snd.snd.fst.kids 0) fun y_1 => qb (spec_Before_T y y_1) fun x => some !x)) none))))) (qb (spec_l1In_T a0.n 0 1000000) fun x => br (!x) (some false) (br (decide ((↑a0.s.size : Int) > 300)) (some false) (qb (spec_l1Right_L4 n n false 0 a0) fun x => br (isRetE x.fst) (some x.snd.fst.snd.fst) (br (isExt 0 x.fst) (br (x.snd.snd.fst.op != 5) (some true) (qb (idx x.snd.snd.fst.kids 1) fun y => qb (idx x.snd.snd.fst.kids 0) fun y_1 => qb (spec_Before_T y y_1) fun x => some !x)) none))))))

theorem spec_l1Right_res (n : Nat) (a0 : Term) : residT Tryz.prog cfg RN n 143 [.ag (Term.cells a0)] (.bool) = spec_l1Right_R n a0 := by kernel_rfl

theorem spec_l1Right_of (n : Nat) (a0 : Term) {y} (h : spec_l1Right_R n a0 = some y) : spec_l1Right_T a0 = some y := presT_of (((spec_l1Right_res n a0)).trans h)

noncomputable def impl_labelsOk_R (n : Nat) (a0 : ByteArray) (a1 : Int) : Option Bool := qb (impl_Labels_T a0) fun x => br (decide ((↑a0.size : Int) ≤ 60)) (br (decide ((↑x.length : Int) ≥ a1)) (qb (slices_ContainsFunc_string_string_T x (V.c (C.fn 163 []))) fun x => some !x) (some false)) (some false)

theorem impl_labelsOk_res (n : Nat) (a0 : ByteArray) (a1 : Int) : residT Tryz.prog cfg RN n 147 [.str a0, .int a1] (.bool) = impl_labelsOk_R n a0 a1 := by kernel_rfl

theorem impl_labelsOk_of (n : Nat) (a0 : ByteArray) (a1 : Int) {y} (h : impl_labelsOk_R n a0 a1 = some y) : impl_labelsOk_T a0 a1 = some y := presT_of (((impl_labelsOk_res n a0 a1)).trans h)

noncomputable def spec_l5Labels_R (n : Nat) (a0 : ByteArray) (a1 : Int) : Option Bool := qb (spec_Labels_T a0) fun x => qb (spec_l5Labels_L3 n n a0 a1 false false x 0) fun x => br (isRetE x.fst) (some x.snd.fst.snd.snd.fst) (br (isExt 0 x.fst) (br (decide ((↑x.snd.fst.snd.snd.snd.fst.length : Int) ≥ x.snd.fst.snd.fst)) (some (decide ((↑x.snd.fst.fst.size : Int) ≤ 60))) (some false)) none)

theorem spec_l5Labels_res (n : Nat) (a0 : ByteArray) (a1 : Int) : residT Tryz.prog cfg RN n 153 [.str a0, .int a1] (.bool) = spec_l5Labels_R n a0 a1 := by kernel_rfl

theorem spec_l5Labels_of (n : Nat) (a0 : ByteArray) (a1 : Int) {y} (h : spec_l5Labels_R n a0 a1 = some y) : spec_l5Labels_T a0 a1 = some y := presT_of (((spec_l5Labels_res n a0 a1)).trans h)

noncomputable def spec_l1Digits_R (n : Nat) (a0 : Int) : Option ByteArray := br (a0 == 0) (some (ByteArray.mk #[48])) (qb (spec_l1Digits_L5 n n a0 (decide (a0 < 0)) (ByteArray.mk #[])) fun x => br (isRetE x.fst) none (br (isExt 0 x.fst) (br x.snd.fst.fst (qb (catOk (ByteArray.mk #[45]) x.snd.fst.snd.fst) fun y => some (ByteArray.mk #[45] ++ x.snd.fst.snd.fst)) (some x.snd.fst.snd.fst)) none))

theorem spec_l1Digits_res (n : Nat) (a0 : Int) : residT Tryz.prog cfg RN n 156 [.int a0] (.str) = spec_l1Digits_R n a0 := by kernel_rfl

theorem spec_l1Digits_of (n : Nat) (a0 : Int) {y} (h : spec_l1Digits_R n a0 = some y) : spec_l1Digits_T a0 = some y := presT_of (((spec_l1Digits_res n a0)).trans h)

noncomputable def IndexFunc_formOk_1_R (n : Nat) (a0 : List Term) : Option Int := qb (IndexFunc_formOk_1_L2 n n false a0 0 (↑a0.length : Int) 0) fun x => br (isRetE x.fst) (some x.snd.fst.fst) (br (isExt 0 x.fst) (some (-1)) none)

theorem IndexFunc_formOk_1_res (n : Nat) (a0 : List Term) : residT Tryz.prog cfg RN n 159 [.sl false .term a0, .c (.fn 140 [])] (.int) = IndexFunc_formOk_1_R n a0 := by kernel_rfl

theorem IndexFunc_formOk_1_of (n : Nat) (a0 : List Term) {y} (h : IndexFunc_formOk_1_R n a0 = some y) : slices_IndexFunc_impl_Term_impl_Term_T a0 (.c (.fn 140 [])) = some y := presT_of (((IndexFunc_formOk_1_res n a0)).trans h)

noncomputable def spec_l1Kids_R (n : Nat) (a0 : Int) : Option Int := br (a0 == 1) (some 0) (br (a0 == 2) (some 0) (br (a0 == 4) (some 1) (br (a0 == 6) (some 1) (br (a0 == 3) (some 2) (br (a0 == 5) (some 2) (br (a0 == 7) (some 2) (br (a0 == 8) (some 2) (some (-1)))))))))

theorem spec_l1Kids_res (n : Nat) (a0 : Int) : residT Tryz.prog cfg RN n 160 [.int a0] (.int) = spec_l1Kids_R n a0 := by kernel_rfl

theorem spec_l1Kids_of (n : Nat) (a0 : Int) {y} (h : spec_l1Kids_R n a0 = some y) : spec_l1Kids_T a0 = some y := presT_of (((spec_l1Kids_res n a0)).trans h)

noncomputable def impl_Labels_R (n : Nat) (a0 : ByteArray) : Option (List ByteArray) := qb (strings_Split_T a0 (ByteArray.mk #[46])) fun x => some (x)

theorem impl_Labels_res (n : Nat) (a0 : ByteArray) : residT Tryz.prog cfg RN n 161 [.str a0] (.sl .str) = impl_Labels_R n a0 := by kernel_rfl

theorem impl_Labels_of (n : Nat) (a0 : ByteArray) {y} (h : impl_Labels_R n a0 = some y) : impl_Labels_T a0 = some y := presT_of (((impl_Labels_res n a0)).trans h)

noncomputable def ContainsFunc_labelsOk_1_R (n : Nat) (a0 : List ByteArray) : Option Bool := qb (slices_IndexFunc_string_string_T a0 (V.c (C.fn 163 []))) fun x => some (decide (x ≥ 0))

theorem ContainsFunc_labelsOk_1_res (n : Nat) (a0 : List ByteArray) : residT Tryz.prog cfg RN n 162 [.sl false .str a0, .c (.fn 163 [])] (.bool) = ContainsFunc_labelsOk_1_R n a0 := by kernel_rfl

theorem ContainsFunc_labelsOk_1_of (n : Nat) (a0 : List ByteArray) {y} (h : ContainsFunc_labelsOk_1_R n a0 = some y) : slices_ContainsFunc_string_string_T a0 (.c (.fn 163 [])) = some y := presT_of (((ContainsFunc_labelsOk_1_res n a0)).trans h)

noncomputable def impl_labelOk_R (n : Nat) (a0 : ByteArray) : Option Bool := qb (impl_labelOk_L2 n n a0 false (↑a0.size : Int) 0) fun x => br (isRetE x.fst) (some x.snd.fst.snd.fst) (br (isExt 0 x.fst) (qb (impl_in_T (↑x.snd.fst.fst.size : Int) 1 10) fun x => some x) none)

theorem impl_labelOk_res (n : Nat) (a0 : ByteArray) : residT Tryz.prog cfg RN n 164 [.str a0] (.bool) = impl_labelOk_R n a0 := by kernel_rfl

theorem impl_labelOk_of (n : Nat) (a0 : ByteArray) {y} (h : impl_labelOk_R n a0 = some y) : impl_labelOk_T a0 = some y := presT_of (((impl_labelOk_res n a0)).trans h)

noncomputable def spec_Labels_R (n : Nat) (a0 : ByteArray) : Option (List ByteArray) := qb (spec_Labels_L4 n n a0 [] 0 0) fun x => br (isRetE x.fst) none (br (isExt 0 x.fst) (some x.snd.snd.fst) none)

theorem spec_Labels_res (n : Nat) (a0 : ByteArray) : residT Tryz.prog cfg RN n 167 [.str a0] (.sl .str) = spec_Labels_R n a0 := by kernel_rfl

theorem spec_Labels_of (n : Nat) (a0 : ByteArray) {y} (h : spec_Labels_R n a0 = some y) : spec_Labels_T a0 = some y := presT_of (((spec_Labels_res n a0)).trans h)

noncomputable def spec_l5Label_R (n : Nat) (a0 : ByteArray) : Option Bool := qb (spec_l5Label_L2 n n a0 false 0) fun x => br (isRetE x.fst) (some x.snd.fst.snd.fst) (br (isExt 0 x.fst) (qb (spec_l1In_T (↑x.snd.fst.fst.size : Int) 1 10) fun x => some x) none)

theorem spec_l5Label_res (n : Nat) (a0 : ByteArray) : residT Tryz.prog cfg RN n 168 [.str a0] (.bool) = spec_l5Label_R n a0 := by kernel_rfl

theorem spec_l5Label_of (n : Nat) (a0 : ByteArray) {y} (h : spec_l5Label_R n a0 = some y) : spec_l5Label_T a0 = some y := presT_of (((spec_l5Label_res n a0)).trans h)

noncomputable def IndexFunc_labelsOk_1_R (n : Nat) (a0 : List ByteArray) : Option Int := qb (IndexFunc_labelsOk_1_L2 n n false a0 0 (↑a0.length : Int) 0) fun x => br (isRetE x.fst) (some x.snd.fst.fst) (br (isExt 0 x.fst) (some (-1)) none)

theorem IndexFunc_labelsOk_1_res (n : Nat) (a0 : List ByteArray) : residT Tryz.prog cfg RN n 176 [.sl false .str a0, .c (.fn 163 [])] (.int) = IndexFunc_labelsOk_1_R n a0 := by kernel_rfl

theorem IndexFunc_labelsOk_1_of (n : Nat) (a0 : List ByteArray) {y} (h : IndexFunc_labelsOk_1_R n a0 = some y) : slices_IndexFunc_string_string_T a0 (.c (.fn 163 [])) = some y := presT_of (((IndexFunc_labelsOk_1_res n a0)).trans h)

theorem spec_l1New_round3 (n : Nat) (t0 : Bool) (x0 : List UInt8) (x3 : Int) (x4 : Int) : roundK Tryz.prog cfg RN n 4 65 3 0 (spec_l1New_S3 t0 x0 x3 x4) = (br (decide (x4 < (↑x0.length : Int))) (br (decide (x4 < 4000)) (qb (idx x0 x4) fun y => some (Ex.nrm, spec_l1New_S3 t0 x0 (IntKind.i64.wrap (↑(BitVec.ofInt IntKind.i64.bits (IntKind.i64.wrap (IntKind.i64.wrap (IntKind.i64.wrap (x3 * 131) + IntKind.i64.wrap (↑y.toNat : Int)) + 7)) &&& BitVec.ofInt IntKind.i64.bits 1073741823).toNat : Int)) (IntKind.i64.wrap (x4 + 1)))) (some (Ex.ext 0, spec_l1New_O3 t0 x0 x3))) (some (Ex.ext 0, spec_l1New_O3 t0 x0 x3)) : Option (Ex × St)) := by kernel_rfl

theorem spec_l1Copy_round3 (n : Nat) (x4 : Int) (y1 : Term) (y2_Op : Int) (y2_N : Int) (y2_S : ByteArray) (y2_Kids : List Term) (y3_Op : Int) (y3_N : Int) (y3_S : ByteArray) (y3_Kids : List Term) : roundK Tryz.prog cfg RN n 5 84 3 0 (spec_l1Copy_S3 x4 y1 y2_Op y2_N y2_S y2_Kids y3_Op y3_N y3_S y3_Kids) = (br (decide (x4 < (↑y1.kids.length : Int))) (qb (idx y1.kids x4) fun y => qb (spec_l1Copy_T y) fun x => br (((y3_Kids).length + [Term.mk x.op x.n x.s x.kids].length).ble appMax) (some (Ex.nrm, spec_l1Copy_S3 (IntKind.i64.wrap (x4 + 1)) y1 y2_Op y2_N y2_S y2_Kids y3_Op y3_N y3_S (y3_Kids ++ [Term.mk x.op x.n x.s x.kids]))) none) (some (Ex.ext 0, spec_l1Copy_O3 y2_Op y2_N y2_S y2_Kids y3_Op y3_N y3_S y3_Kids)) : Option (Ex × St)) := by kernel_rfl

theorem EqualFunc_Same_round4 (n : Nat) (t1 : Bool) (x1 : List Term) (x6 : Bool) (t15 : Bool) (x15 : List Term) (x16 : Int) (x17 : Int) : roundK Tryz.prog cfg RN n 5 85 4 0 (EqualFunc_Same_S4 t1 x1 x6 t15 x15 x16 x17) = (br (decide (x17 < x16)) (qb (idx x15 x17) fun y => qb (idx x1 x17) fun y_1 => qb (impl_Same_T y y_1) fun x => br (!x) (some (Ex.ret, EqualFunc_Same_O4 false)) (some (Ex.nrm, EqualFunc_Same_S4 t1 x1 x6 t15 x15 x16 (IntKind.i64.wrap (x17 + 1))))) (some (Ex.ext 0, EqualFunc_Same_O4 x6)) : Option (Ex × St)) := by kernel_rfl

theorem spec_Same_round4 (n : Nat) (x4 : Bool) (x5 : Int) (y2 : Term) (y3 : Term) : roundK Tryz.prog cfg RN n 5 94 4 0 (spec_Same_S4 x4 x5 y2 y3) = (br (decide (x5 < (↑y2.kids.length : Int))) (qb (idx y2.kids x5) fun y => qb (idx y3.kids x5) fun y_1 => qb (spec_Same_T y y_1) fun x => br (!x) (some (Ex.ret, spec_Same_O4 false)) (some (Ex.nrm, spec_Same_S4 x4 (IntKind.i64.wrap (x5 + 1)) y2 y3))) (some (Ex.ext 0, spec_Same_O4 x4)) : Option (Ex × St)) := by kernel_rfl

theorem impl_TermSize_round3 (n : Nat) (x3 : Int) (t7 : Bool) (x7 : List Term) (x8 : Int) (x9 : Int) : roundK Tryz.prog cfg RN n 5 98 3 0 (impl_TermSize_S3 x3 t7 x7 x8 x9) = (br (decide (x9 < x8)) (qb (idx x7 x9) fun y => qb (impl_TermSize_T y) fun x => some (Ex.nrm, impl_TermSize_S3 (IntKind.i64.wrap (x3 + x)) t7 x7 x8 (IntKind.i64.wrap (x9 + 1)))) (some (Ex.ext 0, impl_TermSize_O3 x3)) : Option (Ex × St)) := by kernel_rfl

theorem impl_Before_round10 (n : Nat) (x4 : Bool) (t56 : Bool) (x56 : List Term) (x57 : Int) (x58 : Int) (y3 : Term) : roundK Tryz.prog cfg RN n 5 100 10 0 (impl_Before_S10 x4 t56 x56 x57 x58 y3) = (br (decide (x58 < x57)) (qb (idx x56 x58) fun y => qb (idx y3.kids x58) fun y_1 => qb (impl_Same_T y y_1) fun x => br (!x) (qb (idx y3.kids x58) fun y_2 => qb (impl_Before_T y y_2) fun x => some (Ex.ret, impl_Before_O10 x)) (some (Ex.nrm, impl_Before_S10 x4 t56 x56 x57 (IntKind.i64.wrap (x58 + 1)) y3))) (some (Ex.ext 1, impl_Before_O10 x4)) : Option (Ex × St)) := by kernel_rfl

theorem spec_Before_round10 (n : Nat) (x4 : Bool) (x5 : Int) (y2 : Term) (y3 : Term) : roundK Tryz.prog cfg RN n 5 129 10 0 (spec_Before_S10 x4 x5 y2 y3) = (br (decide (x5 < (↑y2.kids.length : Int))) (qb (idx y2.kids x5) fun y => qb (idx y3.kids x5) fun y_1 => qb (spec_Same_T y y_1) fun x => br (!x) (qb (idx y2.kids x5) fun y => qb (idx y3.kids x5) fun y_2 => qb (spec_Before_T y y_2) fun x => some (Ex.ret, spec_Before_O10 x)) (some (Ex.nrm, spec_Before_S10 x4 (IntKind.i64.wrap (x5 + 1)) y2 y3))) (some (Ex.ext 1, spec_Before_O10 x4)) : Option (Ex × St)) := by kernel_rfl

theorem impl_cloneAll_round3 (n : Nat) (x3 : List Term) (t6 : Bool) (x6 : List Term) (x7 : Int) (x8 : Int) : roundK Tryz.prog cfg RN n 5 132 3 0 (impl_cloneAll_S3 x3 t6 x6 x7 x8) = (br (decide (x8 < x7)) (qb (idx x6 x8) fun y => qb (impl_clone_T y) fun x => br (((x3).length + [Term.mk x.op x.n x.s x.kids].length).ble appMax) (some (Ex.nrm, impl_cloneAll_S3 (x3 ++ [Term.mk x.op x.n x.s x.kids]) t6 x6 x7 (IntKind.i64.wrap (x8 + 1)))) none) (some (Ex.ext 0, impl_cloneAll_O3 x3)) : Option (Ex × St)) := by kernel_rfl

theorem spec_l6Number_round5 (n : Nat) (x0 : ByteArray) (x2 : Int) (x3 : Int) (x4 : Int) : roundK Tryz.prog cfg RN n 5 134 5 0 (spec_l6Number_S5 x0 x2 x3 x4) = (br (decide (x4 < (↑x0.size : Int))) (qb (byteAt x0 x4) fun b => br (decide (b < 48)) (some (Ex.ret, spec_l6Number_O5 x0 (-1) x3)) (qb (byteAt x0 x4) fun b => br (decide (b > 57)) (some (Ex.ret, spec_l6Number_O5 x0 (-1) x3)) (qb (byteAt x0 x4) fun b => some (Ex.nrm, spec_l6Number_S5 x0 x2 (IntKind.i64.wrap (IntKind.i64.wrap (IntKind.i64.wrap (10 * x3) + IntKind.i64.wrap b) - 48)) (IntKind.i64.wrap (x4 + 1)))))) (some (Ex.ext 0, spec_l6Number_O5 x0 x2 x3)) : Option (Ex × St)) := by kernel_rfl

theorem spec_TermSize_round3 (n : Nat) (x3 : Int) (x4 : Int) (y1 : Term) : roundK Tryz.prog cfg RN n 5 142 3 0 (spec_TermSize_S3 x3 x4 y1) = (br (decide (x4 < (↑y1.kids.length : Int))) (qb (idx y1.kids x4) fun y => qb (spec_TermSize_T y) fun x => some (Ex.nrm, spec_TermSize_S3 (IntKind.i64.wrap (x3 + x)) (IntKind.i64.wrap (x4 + 1)) y1)) (some (Ex.ext 0, spec_TermSize_O3 x3)) : Option (Ex × St)) := by kernel_rfl

theorem spec_l1Right_round4 (n : Nat) (x2 : Bool) (x3 : Int) (y1 : Term) : roundK Tryz.prog cfg RN n 5 143 4 0 (spec_l1Right_S4 x2 x3 y1) = (br (decide (x3 < (↑y1.kids.length : Int))) (qb (idx y1.kids x3) fun y => qb (spec_l1Right_T y) fun x => br (!x) (some (Ex.ret, spec_l1Right_O4 false y1)) (some (Ex.nrm, spec_l1Right_S4 x2 (IntKind.i64.wrap (x3 + 1)) y1))) (some (Ex.ext 0, spec_l1Right_O4 x2 y1)) : Option (Ex × St)) := by kernel_rfl

theorem spec_l5Labels_round3 (n : Nat) (x0 : ByteArray) (x1 : Int) (x4 : Bool) (t5 : Bool) (x5 : List ByteArray) (x6 : Int) : roundK Tryz.prog cfg RN n 5 153 3 0 (spec_l5Labels_S3 x0 x1 x4 t5 x5 x6) = (br (decide (x6 < (↑x5.length : Int))) (qb (idx x5 x6) fun y => qb (spec_l5Label_T y) fun x => br (!x) (some (Ex.ret, spec_l5Labels_O3 x0 x1 false t5 x5)) (some (Ex.nrm, spec_l5Labels_S3 x0 x1 x4 t5 x5 (IntKind.i64.wrap (x6 + 1))))) (some (Ex.ext 0, spec_l5Labels_O3 x0 x1 x4 t5 x5)) : Option (Ex × St)) := by kernel_rfl

theorem spec_l1Digits_round5 (n : Nat) (x0 : Int) (x3 : Bool) (x4 : ByteArray) : roundK Tryz.prog cfg RN n 5 156 5 0 (spec_l1Digits_S5 x0 x3 x4) = (br (x0 != 0) (qb (ne0 10) fun y => br (decide (x0.tmod 10 < 0)) (qb (u8of (IntKind.u8.wrap (IntKind.i64.wrap (48 + IntKind.i64.wrap (0 - x0.tmod 10))))) fun y => qb (catOk (ByteArray.mk #[y]) x4) fun y_1 => qb (ne0 10) fun y_2 => some (Ex.nrm, spec_l1Digits_S5 (IntKind.i64.wrap (x0.tdiv 10)) x3 (ByteArray.mk #[y] ++ x4))) (qb (u8of (IntKind.u8.wrap (IntKind.i64.wrap (48 + x0.tmod 10)))) fun y => qb (catOk (ByteArray.mk #[y]) x4) fun y_1 => qb (ne0 10) fun y_2 => some (Ex.nrm, spec_l1Digits_S5 (IntKind.i64.wrap (x0.tdiv 10)) x3 (ByteArray.mk #[y] ++ x4)))) (some (Ex.ext 0, spec_l1Digits_O5 x3 x4)) : Option (Ex × St)) := by kernel_rfl

theorem IndexFunc_formOk_1_round2 (n : Nat) (t0 : Bool) (x0 : List Term) (x4 : Int) (x7 : Int) (x8 : Int) : roundK Tryz.prog cfg RN n 5 159 2 0 (IndexFunc_formOk_1_S2 t0 x0 x4 x7 x8) = (br (decide (x8 < x7)) (qb (idx x0 x8) fun y => qb (impl_formOk_T y) fun x => br (!x) (some (Ex.ret, IndexFunc_formOk_1_O2 x8)) (some (Ex.nrm, IndexFunc_formOk_1_S2 t0 x0 x4 x7 (IntKind.i64.wrap (x8 + 1))))) (some (Ex.ext 0, IndexFunc_formOk_1_O2 x4)) : Option (Ex × St)) := by kernel_rfl

theorem impl_labelOk_round2 (n : Nat) (x0 : ByteArray) (x2 : Bool) (x6 : Int) (x7 : Int) : roundK Tryz.prog cfg RN n 5 164 2 0 (impl_labelOk_S2 x0 x2 x6 x7) = (br (decide (x7 < x6)) (qb (byteAt x0 x7) fun b => br (decide (b < 97)) (br (decide (b < 48)) (br (b != 45) (some (Ex.ret, impl_labelOk_O2 x0 false)) (br (x7 == 0) (some (Ex.ret, impl_labelOk_O2 x0 false)) (br (x7 == IntKind.i64.wrap ((↑x0.size : Int) - 1)) (some (Ex.ret, impl_labelOk_O2 x0 false)) (some (Ex.nrm, impl_labelOk_S2 x0 x2 x6 (IntKind.i64.wrap (x7 + 1))))))) (br (decide (b > 57)) (br (b != 45) (some (Ex.ret, impl_labelOk_O2 x0 false)) (br (x7 == 0) (some (Ex.ret, impl_labelOk_O2 x0 false)) (br (x7 == IntKind.i64.wrap ((↑x0.size : Int) - 1)) (some (Ex.ret, impl_labelOk_O2 x0 false)) (some (Ex.nrm, impl_labelOk_S2 x0 x2 x6 (IntKind.i64.wrap (x7 + 1))))))) (some (Ex.nrm, impl_labelOk_S2 x0 x2 x6 (IntKind.i64.wrap (x7 + 1)))))) (br (decide (b > 122)) (br (decide (b < 48)) (br (b != 45) (some (Ex.ret, impl_labelOk_O2 x0 false)) (br (x7 == 0) (some (Ex.ret, impl_labelOk_O2 x0 false)) (br (x7 == IntKind.i64.wrap ((↑x0.size : Int) - 1)) (some (Ex.ret, impl_labelOk_O2 x0 false)) (some (Ex.nrm, impl_labelOk_S2 x0 x2 x6 (IntKind.i64.wrap (x7 + 1))))))) (br (decide (b > 57)) (br (b != 45) (some (Ex.ret, impl_labelOk_O2 x0 false)) (br (x7 == 0) (some (Ex.ret, impl_labelOk_O2 x0 false)) (br (x7 == IntKind.i64.wrap ((↑x0.size : Int) - 1)) (some (Ex.ret, impl_labelOk_O2 x0 false)) (some (Ex.nrm, impl_labelOk_S2 x0 x2 x6 (IntKind.i64.wrap (x7 + 1))))))) (some (Ex.nrm, impl_labelOk_S2 x0 x2 x6 (IntKind.i64.wrap (x7 + 1)))))) (some (Ex.nrm, impl_labelOk_S2 x0 x2 x6 (IntKind.i64.wrap (x7 + 1)))))) (some (Ex.ext 0, impl_labelOk_O2 x0 x2)) : Option (Ex × St)) := by kernel_rfl

theorem spec_Labels_round4 (n : Nat) (x0 : ByteArray) (x3 : List ByteArray) (x4 : Int) (x5 : Int) : roundK Tryz.prog cfg RN n 5 167 4 0 (spec_Labels_S4 x0 x3 x4 x5) = (br (decide (x5 ≤ (↑x0.size : Int))) (br (x5 == (↑x0.size : Int)) (qb (bnds x0.size (some x4) (some x5)) fun p => br (((x3).length + [x0.extract p.fst p.snd].length).ble appMax) (some (Ex.nrm, spec_Labels_S4 x0 (x3 ++ [x0.extract p.fst p.snd]) (IntKind.i64.wrap (x5 + 1)) (IntKind.i64.wrap (x5 + 1)))) none) (qb (byteAt x0 x5) fun b => br (b == 46) (qb (bnds x0.size (some x4) (some x5)) fun p => br (((x3).length + [x0.extract p.fst p.snd].length).ble appMax) (some (Ex.nrm, spec_Labels_S4 x0 (x3 ++ [x0.extract p.fst p.snd]) (IntKind.i64.wrap (x5 + 1)) (IntKind.i64.wrap (x5 + 1)))) none) (some (Ex.nrm, spec_Labels_S4 x0 x3 x4 (IntKind.i64.wrap (x5 + 1)))))) (some (Ex.ext 0, spec_Labels_O4 x3)) : Option (Ex × St)) := by kernel_rfl

theorem spec_l5Label_round2 (n : Nat) (x0 : ByteArray) (x2 : Bool) (x3 : Int) : roundK Tryz.prog cfg RN n 5 168 2 0 (spec_l5Label_S2 x0 x2 x3) = (br (decide (x3 < (↑x0.size : Int))) (qb (byteAt x0 x3) fun b => br (decide (b ≥ 97)) (br (decide (b ≤ 122)) (some (Ex.nrm, spec_l5Label_S2 x0 x2 (IntKind.i64.wrap (x3 + 1)))) (br (decide (b ≥ 48)) (br (decide (b ≤ 57)) (some (Ex.nrm, spec_l5Label_S2 x0 x2 (IntKind.i64.wrap (x3 + 1)))) (br (b == 45) (br (decide (x3 > 0)) (br (!decide (x3 < IntKind.i64.wrap ((↑x0.size : Int) - 1))) (some (Ex.ret, spec_l5Label_O2 x0 false)) (some (Ex.nrm, spec_l5Label_S2 x0 x2 (IntKind.i64.wrap (x3 + 1))))) (some (Ex.ret, spec_l5Label_O2 x0 false))) (some (Ex.ret, spec_l5Label_O2 x0 false)))) (br (b == 45) (br (decide (x3 > 0)) (br (!decide (x3 < IntKind.i64.wrap ((↑x0.size : Int) - 1))) (some (Ex.ret, spec_l5Label_O2 x0 false)) (some (Ex.nrm, spec_l5Label_S2 x0 x2 (IntKind.i64.wrap (x3 + 1))))) (some (Ex.ret, spec_l5Label_O2 x0 false))) (some (Ex.ret, spec_l5Label_O2 x0 false))))) (br (decide (b ≥ 48)) (br (decide (b ≤ 57)) (some (Ex.nrm, spec_l5Label_S2 x0 x2 (IntKind.i64.wrap (x3 + 1)))) (br (b == 45) (br (decide (x3 > 0)) (br (!decide (x3 < IntKind.i64.wrap ((↑x0.size : Int) - 1))) (some (Ex.ret, spec_l5Label_O2 x0 false)) (some (Ex.nrm, spec_l5Label_S2 x0 x2 (IntKind.i64.wrap (x3 + 1))))) (some (Ex.ret, spec_l5Label_O2 x0 false))) (some (Ex.ret, spec_l5Label_O2 x0 false)))) (br (b == 45) (br (decide (x3 > 0)) (br (!decide (x3 < IntKind.i64.wrap ((↑x0.size : Int) - 1))) (some (Ex.ret, spec_l5Label_O2 x0 false)) (some (Ex.nrm, spec_l5Label_S2 x0 x2 (IntKind.i64.wrap (x3 + 1))))) (some (Ex.ret, spec_l5Label_O2 x0 false))) (some (Ex.ret, spec_l5Label_O2 x0 false))))) (some (Ex.ext 0, spec_l5Label_O2 x0 x2)) : Option (Ex × St)) := by kernel_rfl

theorem IndexFunc_labelsOk_1_round2 (n : Nat) (t0 : Bool) (x0 : List ByteArray) (x4 : Int) (x7 : Int) (x8 : Int) : roundK Tryz.prog cfg RN n 5 176 2 0 (IndexFunc_labelsOk_1_S2 t0 x0 x4 x7 x8) = (br (decide (x8 < x7)) (qb (idx x0 x8) fun y => qb (impl_labelOk_T y) fun x => br (!x) (some (Ex.ret, IndexFunc_labelsOk_1_O2 x8)) (some (Ex.nrm, IndexFunc_labelsOk_1_S2 t0 x0 x4 x7 (IntKind.i64.wrap (x8 + 1))))) (some (Ex.ext 0, IndexFunc_labelsOk_1_O2 x4)) : Option (Ex × St)) := by kernel_rfl


end Go.Proofs.YtgegmojoakkohaaGreatDoor
