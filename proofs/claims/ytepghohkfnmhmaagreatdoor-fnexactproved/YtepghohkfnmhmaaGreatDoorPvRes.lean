/-
  What each function comes to, over what the others answer, as plain data.
-/
import Derived.Test.YtepghohkfnmhmaaGreatDoorPvResD
namespace Go.Proofs.YtepghohkfnmhmaaGreatDoor
open Go.Vm
set_option linter.unusedVariables false

noncomputable def laws_FnExactProved_R (n : Nat) (a0 : Term) (a1 : Term) (a2 : Term) (a3 : Term) (a4 : ByteArray) (a5 : Int) : Option (V × List Vm.Obj × List Vm.Obj) := br (decide ((↑a4.size : Int) > 1048576)) (some (V.c (C.f (F.sc (Value.bool true))), [], [])) (qb (laws_szTerm_T a0 1048576) fun x => br (decide (x < 0)) (some (V.c (C.f (F.sc (Value.bool true))), [], [])) (qb (laws_szTerm_T a1 x) fun x => br (decide (x < 0)) (some (V.c (C.f (F.sc (Value.bool true))), [], [])) (qb (laws_szTerm_T a2 x) fun x => br (decide (x < 0)) (some (V.c (C.f (F.sc (Value.bool true))), [], [])) (qb (laws_szTerm_T a3 x) fun x => br (decide (x < 0)) (some (V.c (C.f (F.sc (Value.bool true))), [], [])) (qb (laws_toTerm_T a0) fun x => qb (laws_toTerm_T a1) fun x_1 => qb (laws_toTerm_T a2) fun x_2 => qb (laws_toTerm_T a3) fun x_3 => qb (spec_Proved_T x x_1 x_2 x_3 a4 a5) fun x => qb (laws_toTerm_T a0) fun x_4 => qb (laws_toTerm_T a1) fun x_5 => qb (laws_toTerm_T a2) fun x_6 => qb (laws_toTerm_T a3) fun x_7 => qb (impl_Proved_T x_4 x_5 x_6 x_7 a4 a5) fun x_8 => br (!x_8 == x) (some (V.c (C.f (F.sc (Value.bool false))), [], [])) (qb (laws_toTerm_T a0) fun x => qb (laws_eqTerm_T x_4 x) fun x => br (!x) (some (V.c (C.f (F.sc (Value.bool false))), [], [])) (qb (laws_toTerm_T a1) fun x => qb (laws_eqTerm_T x_5 x) fun x => br (!x) (some (V.c (C.f (F.sc (Value.bool false))), [], [])) (qb (laws_toTerm_T a2) fun x => qb (laws_eqTerm_T x_6 x) fun x => br (!x) (some (V.c (C.f (F.sc (Value.bool false))), [], [])) (qb (laws_toTerm_T a3) fun x => qb (laws_eqTerm_T x_7 x) fun x => br (!x) (some (V.c (C.f (F.sc (Value.bool false))), [], [])) (some (V.c (C.f (F.sc (Value.bool true))), [], [])))))))))))

theorem laws_FnExactProved_res (n : Nat) (a0 : Term) (a1 : Term) (a2 : Term) (a3 : Term) (a4 : ByteArray) (a5 : Int) : resid Tryz.prog cfg RN n 3 [.ag (Term.cells a0), .ag (Term.cells a1), .ag (Term.cells a2), .ag (Term.cells a3), .str a4, .int a5] [] = laws_FnExactProved_R n a0 a1 a2 a3 a4 a5 := by kernel_rfl

noncomputable def laws_szTerm_R (n : Nat) (a0 : Term) (a1 : Int) : Option Int := br (decide (IntKind.i64.wrap (a1 - (↑a0.s.size : Int)) < 0)) (some (-1)) (qb (laws_szTermS_T a0.kids (IntKind.i64.wrap (a1 - (↑a0.s.size : Int)))) fun x => br (decide (x < 0)) (some (-1)) (some x))

theorem laws_szTerm_res (n : Nat) (a0 : Term) (a1 : Int) : residT Tryz.prog cfg RN n 4 [.ag (Term.cells a0), .int a1] (.int) = laws_szTerm_R n a0 a1 := by kernel_rfl

theorem laws_szTerm_of (n : Nat) (a0 : Term) (a1 : Int) {y} (h : laws_szTerm_R n a0 a1 = some y) : laws_szTerm_T a0 a1 = some y := presT_of (((laws_szTerm_res n a0 a1)).trans h)

noncomputable def spec_Proved_R (n : Nat) (a0 : Term) (a1 : Term) (a2 : Term) (a3 : Term) (a4 : ByteArray) (a5 : Int) : Option Bool := qb (spec_CertGood_T a2 a4 a5) fun x => br (!x.snd.fst) (some false) (qb (spec_Signed_T x.fst a3) fun x => br x.snd.fst (br (x.fst.op == 6) (qb (spec_Pub_T a0) fun x_1 => qb (spec_Both_T x_1 a1) fun x_2 => qb (spec_Same_T x.fst x_2) fun x => some x) (some false)) (some false))

theorem spec_Proved_res (n : Nat) (a0 : Term) (a1 : Term) (a2 : Term) (a3 : Term) (a4 : ByteArray) (a5 : Int) : residT Tryz.prog cfg RN n 5 [.ag (Term.cells a0), .ag (Term.cells a1), .ag (Term.cells a2), .ag (Term.cells a3), .str a4, .int a5] (.bool) = spec_Proved_R n a0 a1 a2 a3 a4 a5 := by kernel_rfl

theorem spec_Proved_of (n : Nat) (a0 : Term) (a1 : Term) (a2 : Term) (a3 : Term) (a4 : ByteArray) (a5 : Int) {y} (h : spec_Proved_R n a0 a1 a2 a3 a4 a5 = some y) : spec_Proved_T a0 a1 a2 a3 a4 a5 = some y := presT_of (((spec_Proved_res n a0 a1 a2 a3 a4 a5)).trans h)

noncomputable def laws_toTerm_R (n : Nat) (a0 : Term) : Option Term := qb (laws_toTermS_T a0.kids) fun x => some (Term.mk a0.op a0.n a0.s x)

theorem laws_toTerm_res (n : Nat) (a0 : Term) : residT Tryz.prog cfg RN n 6 [.ag (Term.cells a0)] (.el .term) = laws_toTerm_R n a0 := by kernel_rfl

theorem laws_toTerm_of (n : Nat) (a0 : Term) {y} (h : laws_toTerm_R n a0 = some y) : laws_toTerm_T a0 = some y := presT_of (((laws_toTerm_res n a0)).trans h)

noncomputable def impl_Proved_R (n : Nat) (a0 : Term) (a1 : Term) (a2 : Term) (a3 : Term) (a4 : ByteArray) (a5 : Int) : Option Bool := qb (impl_CertGood_T a2 a4 a5) fun x => qb (impl_Signed_T x.fst a3) fun x_1 => qb (impl_Pub_T a0) fun x_2 => qb (impl_Both_T x_2 a1) fun x_3 => br x.snd.fst (br x_1.snd.fst (br (x_3.op == 6) (qb (impl_Same_T x_1.fst x_3) fun x => some x) (some false)) (some false)) (some false)

theorem impl_Proved_res (n : Nat) (a0 : Term) (a1 : Term) (a2 : Term) (a3 : Term) (a4 : ByteArray) (a5 : Int) : residT Tryz.prog cfg RN n 7 [.ag (Term.cells a0), .ag (Term.cells a1), .ag (Term.cells a2), .ag (Term.cells a3), .str a4, .int a5] (.bool) = impl_Proved_R n a0 a1 a2 a3 a4 a5 := by kernel_rfl

theorem impl_Proved_of (n : Nat) (a0 : Term) (a1 : Term) (a2 : Term) (a3 : Term) (a4 : ByteArray) (a5 : Int) {y} (h : impl_Proved_R n a0 a1 a2 a3 a4 a5 = some y) : impl_Proved_T a0 a1 a2 a3 a4 a5 = some y := presT_of (((impl_Proved_res n a0 a1 a2 a3 a4 a5)).trans h)

noncomputable def laws_eqTerm_R (n : Nat) (a0 : Term) (a1 : Term) : Option Bool := br (a0.op != a1.op) (some false) (br (a0.n != a1.n) (some false) (br (!a0.s.toList == a1.s.toList) (some false) (qb (laws_eqTermS_T a0.kids a1.kids) fun x => br (!x) (some false) (some true))))

theorem laws_eqTerm_res (n : Nat) (a0 : Term) (a1 : Term) : residT Tryz.prog cfg RN n 8 [.ag (Term.cells a0), .ag (Term.cells a1)] (.bool) = laws_eqTerm_R n a0 a1 := by kernel_rfl

theorem laws_eqTerm_of (n : Nat) (a0 : Term) (a1 : Term) {y} (h : laws_eqTerm_R n a0 a1 = some y) : laws_eqTerm_T a0 a1 = some y := presT_of (((laws_eqTerm_res n a0 a1)).trans h)

noncomputable def laws_szTermS_R (n : Nat) (a0 : List Term) (a1 : Int) : Option Int := br (decide (IntKind.i64.wrap (a1 - (↑a0.length : Int)) < 0)) (some (-1)) (qb (laws_szTermS_L5 n n false a0 (IntKind.i64.wrap (a1 - (↑a0.length : Int))) 0 0) fun x => br (isRetE x.fst) (some x.snd.fst.snd.fst) (br (isExt 0 x.fst) (some x.snd.fst.fst) none))

theorem laws_szTermS_res (n : Nat) (a0 : List Term) (a1 : Int) : residT Tryz.prog cfg RN n 9 [.sl false .term a0, .int a1] (.int) = laws_szTermS_R n a0 a1 := by kernel_rfl

theorem laws_szTermS_of (n : Nat) (a0 : List Term) (a1 : Int) {y} (h : laws_szTermS_R n a0 a1 = some y) : laws_szTermS_T a0 a1 = some y := presT_of (((laws_szTermS_res n a0 a1)).trans h)

noncomputable def spec_CertGood_R (n : Nat) (a0 : Term) (a1 : ByteArray) (a2 : Int) : Option (Term × Bool × Unit) := qb (spec_CertOf_T a0) fun x => br (!x.snd.fst) (some (Term.mk 0 0 (ByteArray.mk #[]) [], false, PUnit.unit)) (br (!x.fst.host.toList == a1.toList) (some (Term.mk 0 0 (ByteArray.mk #[]) [], false, PUnit.unit)) (br (decide (x.fst.til < a2)) (some (Term.mk 0 0 (ByteArray.mk #[]) [], false, PUnit.unit)) (some (Term.mk x.fst.pub.op x.fst.pub.n x.fst.pub.s x.fst.pub.kids, true, PUnit.unit))))

theorem spec_CertGood_res (n : Nat) (a0 : Term) (a1 : ByteArray) (a2 : Int) : residT Tryz.prog cfg RN n 10 [.ag (Term.cells a0), .str a1, .int a2] (.tup [.el .term, .bool]) = spec_CertGood_R n a0 a1 a2 := by kernel_rfl

theorem spec_CertGood_of (n : Nat) (a0 : Term) (a1 : ByteArray) (a2 : Int) {y} (h : spec_CertGood_R n a0 a1 a2 = some y) : spec_CertGood_T a0 a1 a2 = some y := presT_of (((spec_CertGood_res n a0 a1 a2)).trans h)

noncomputable def spec_Signed_R (n : Nat) (a0 : Term) (a1 : Term) : Option (Term × Bool × Unit) := qb (spec_TermOk_T a1) fun x => br (!x) (some (Term.mk 0 0 (ByteArray.mk #[]) [], false, PUnit.unit)) (br (a1.op != 8) (some (Term.mk 0 0 (ByteArray.mk #[]) [], false, PUnit.unit)) (qb (idx a1.kids 0) fun y => qb (spec_l2Pub_T y) fun x => qb (spec_Same_T a0 x) fun x => br (!x) (some (Term.mk 0 0 (ByteArray.mk #[]) [], false, PUnit.unit)) (qb (idx a1.kids 1) fun y => qb (spec_l1Copy_T y) fun x => some (Term.mk x.op x.n x.s x.kids, true, PUnit.unit))))

theorem spec_Signed_res (n : Nat) (a0 : Term) (a1 : Term) : residT Tryz.prog cfg RN n 11 [.ag (Term.cells a0), .ag (Term.cells a1)] (.tup [.el .term, .bool]) = spec_Signed_R n a0 a1 := by kernel_rfl

theorem spec_Signed_of (n : Nat) (a0 : Term) (a1 : Term) {y} (h : spec_Signed_R n a0 a1 = some y) : spec_Signed_T a0 a1 = some y := presT_of (((spec_Signed_res n a0 a1)).trans h)

noncomputable def spec_Same_R (n : Nat) (a0 : Term) (a1 : Term) : Option Bool := br (a0.op != a1.op) (some false) (br (a0.n != a1.n) (some false) (br (!a0.s.toList == a1.s.toList) (some false) (br ((↑a0.kids.length : Int) != (↑a1.kids.length : Int)) (some false) (qb (spec_Same_L4 n n false 0 a0 a1) fun x => br (isRetE x.fst) (some x.snd.fst.fst) (br (isExt 0 x.fst) (some true) none)))))

theorem spec_Same_res (n : Nat) (a0 : Term) (a1 : Term) : residT Tryz.prog cfg RN n 12 [.ag (Term.cells a0), .ag (Term.cells a1)] (.bool) = spec_Same_R n a0 a1 := by kernel_rfl

theorem spec_Same_of (n : Nat) (a0 : Term) (a1 : Term) {y} (h : spec_Same_R n a0 a1 = some y) : spec_Same_T a0 a1 = some y := presT_of (((spec_Same_res n a0 a1)).trans h)

noncomputable def spec_Both_R (n : Nat) (a0 : Term) (a1 : Term) : Option Term := qb (spec_Pair_T a0 a1) fun x => qb (spec_Hash_T x) fun x => some (Term.mk x.op x.n x.s x.kids)

theorem spec_Both_res (n : Nat) (a0 : Term) (a1 : Term) : residT Tryz.prog cfg RN n 13 [.ag (Term.cells a0), .ag (Term.cells a1)] (.el .term) = spec_Both_R n a0 a1 := by kernel_rfl

theorem spec_Both_of (n : Nat) (a0 : Term) (a1 : Term) {y} (h : spec_Both_R n a0 a1 = some y) : spec_Both_T a0 a1 = some y := presT_of (((spec_Both_res n a0 a1)).trans h)

noncomputable def spec_Pub_R (n : Nat) (a0 : Term) : Option Term := qb (spec_l1Copy_T a0) fun x => qb (spec_l3Ok_T (Term.mk 4 0 (ByteArray.mk #[]) [Term.mk x.op x.n x.s x.kids])) fun x => some (Term.mk x.op x.n x.s x.kids)

theorem spec_Pub_res (n : Nat) (a0 : Term) : residT Tryz.prog cfg RN n 14 [.ag (Term.cells a0)] (.el .term) = spec_Pub_R n a0 := by kernel_rfl

theorem spec_Pub_of (n : Nat) (a0 : Term) {y} (h : spec_Pub_R n a0 = some y) : spec_Pub_T a0 = some y := presT_of (((spec_Pub_res n a0)).trans h)

noncomputable def laws_toTermS_R (n : Nat) (a0 : List Term) : Option (List Term) := br (decide ((↑a0.length : Int) = (↑a0.length : Int)) && decide (0 ≤ (↑a0.length : Int)) && (↑a0.length : Int).toNat.ble appMax) (qb (laws_toTermS_L3 n n false a0 (List.replicate (↑a0.length : Int).toNat (zeroEl Kind.term)) 0) fun x => br (isRetE x.fst) none (br (isExt 0 x.fst) (some x.snd.snd.fst) none)) none

theorem laws_toTermS_res (n : Nat) (a0 : List Term) : residT Tryz.prog cfg RN n 15 [.sl false .term a0] (.sl .term) = laws_toTermS_R n a0 := by kernel_rfl

theorem laws_toTermS_of (n : Nat) (a0 : List Term) {y} (h : laws_toTermS_R n a0 = some y) : laws_toTermS_T a0 = some y := presT_of (((laws_toTermS_res n a0)).trans h)

noncomputable def impl_CertGood_R (n : Nat) (a0 : Term) (a1 : ByteArray) (a2 : Int) : Option (Term × Bool × Unit) := qb (impl_CertOf_T a0) fun x => br (!x.snd.fst) (some (Term.mk 0 0 (ByteArray.mk #[]) [], false, PUnit.unit)) (br (!x.fst.host.toList == a1.toList) (some (Term.mk 0 0 (ByteArray.mk #[]) [], false, PUnit.unit)) (br (decide (x.fst.til < a2)) (some (Term.mk 0 0 (ByteArray.mk #[]) [], false, PUnit.unit)) (some (Term.mk x.fst.pub.op x.fst.pub.n x.fst.pub.s x.fst.pub.kids, true, PUnit.unit))))

theorem impl_CertGood_res (n : Nat) (a0 : Term) (a1 : ByteArray) (a2 : Int) : residT Tryz.prog cfg RN n 16 [.ag (Term.cells a0), .str a1, .int a2] (.tup [.el .term, .bool]) = impl_CertGood_R n a0 a1 a2 := by kernel_rfl

theorem impl_CertGood_of (n : Nat) (a0 : Term) (a1 : ByteArray) (a2 : Int) {y} (h : impl_CertGood_R n a0 a1 a2 = some y) : impl_CertGood_T a0 a1 a2 = some y := presT_of (((impl_CertGood_res n a0 a1 a2)).trans h)

noncomputable def impl_Signed_R (n : Nat) (a0 : Term) (a1 : Term) : Option (Term × Bool × Unit) := br (a0.op != 4) (some (Term.mk 0 0 (ByteArray.mk #[]) [], false, PUnit.unit)) (qb (impl_TermOk_T a0) fun x => br (!x) (some (Term.mk 0 0 (ByteArray.mk #[]) [], false, PUnit.unit)) (br (a1.op != 8) (some (Term.mk 0 0 (ByteArray.mk #[]) [], false, PUnit.unit)) (qb (impl_TermOk_T a1) fun x => br (!x) (some (Term.mk 0 0 (ByteArray.mk #[]) [], false, PUnit.unit)) (qb (idx a1.kids 0) fun y => qb (idx a0.kids 0) fun y_1 => qb (impl_Same_T y y_1) fun x => br (!x) (some (Term.mk 0 0 (ByteArray.mk #[]) [], false, PUnit.unit)) (qb (idx a1.kids 1) fun y => qb (impl_clone_T y) fun x => some (Term.mk x.op x.n x.s x.kids, true, PUnit.unit))))))

theorem impl_Signed_res (n : Nat) (a0 : Term) (a1 : Term) : residT Tryz.prog cfg RN n 17 [.ag (Term.cells a0), .ag (Term.cells a1)] (.tup [.el .term, .bool]) = impl_Signed_R n a0 a1 := by kernel_rfl

theorem impl_Signed_of (n : Nat) (a0 : Term) (a1 : Term) {y} (h : impl_Signed_R n a0 a1 = some y) : impl_Signed_T a0 a1 = some y := presT_of (((impl_Signed_res n a0 a1)).trans h)

noncomputable def impl_Both_R (n : Nat) (a0 : Term) (a1 : Term) : Option Term := qb (impl_Pair_T a0 a1) fun x => qb (impl_Hash_T x) fun x => some (Term.mk x.op x.n x.s x.kids)

theorem impl_Both_res (n : Nat) (a0 : Term) (a1 : Term) : residT Tryz.prog cfg RN n 18 [.ag (Term.cells a0), .ag (Term.cells a1)] (.el .term) = impl_Both_R n a0 a1 := by kernel_rfl

theorem impl_Both_of (n : Nat) (a0 : Term) (a1 : Term) {y} (h : impl_Both_R n a0 a1 = some y) : impl_Both_T a0 a1 = some y := presT_of (((impl_Both_res n a0 a1)).trans h)

noncomputable def impl_Pub_R (n : Nat) (a0 : Term) : Option Term := qb (impl_right_T (Term.mk 4 0 (ByteArray.mk #[]) [Term.mk a0.op a0.n a0.s a0.kids])) fun x => some (Term.mk x.op x.n x.s x.kids)

theorem impl_Pub_res (n : Nat) (a0 : Term) : residT Tryz.prog cfg RN n 19 [.ag (Term.cells a0)] (.el .term) = impl_Pub_R n a0 := by kernel_rfl

theorem impl_Pub_of (n : Nat) (a0 : Term) {y} (h : impl_Pub_R n a0 = some y) : impl_Pub_T a0 = some y := presT_of (((impl_Pub_res n a0)).trans h)

noncomputable def impl_Same_R (n : Nat) (a0 : Term) (a1 : Term) : Option Bool := br (a0.op == a1.op) (br (a0.n == a1.n) (br (a0.s.toList == a1.s.toList) (qb (slices_EqualFunc_impl_Term_impl_Term_impl_Term_impl_Term_T a0.kids a1.kids (V.c (C.fn 20 []))) fun x => some x) (some false)) (some false)) (some false)

theorem impl_Same_res (n : Nat) (a0 : Term) (a1 : Term) : residT Tryz.prog cfg RN n 20 [.ag (Term.cells a0), .ag (Term.cells a1)] (.bool) = impl_Same_R n a0 a1 := by kernel_rfl

theorem impl_Same_of (n : Nat) (a0 : Term) (a1 : Term) {y} (h : impl_Same_R n a0 a1 = some y) : impl_Same_T a0 a1 = some y := presT_of (((impl_Same_res n a0 a1)).trans h)

noncomputable def laws_eqTermS_R (n : Nat) (a0 : List Term) (a1 : List Term) : Option Bool := br ((↑a0.length : Int) != (↑a1.length : Int)) (some false) (qb (laws_eqTermS_L4 n n false a0 false a1 false 0) fun x => br (isRetE x.fst) (some x.snd.fst.fst) (br (isExt 0 x.fst) (some true) none))

theorem laws_eqTermS_res (n : Nat) (a0 : List Term) (a1 : List Term) : residT Tryz.prog cfg RN n 21 [.sl false .term a0, .sl false .term a1] (.bool) = laws_eqTermS_R n a0 a1 := by kernel_rfl

theorem laws_eqTermS_of (n : Nat) (a0 : List Term) (a1 : List Term) {y} (h : laws_eqTermS_R n a0 a1 = some y) : laws_eqTermS_T a0 a1 = some y := presT_of (((laws_eqTermS_res n a0 a1)).trans h)

noncomputable def spec_CertOf_R (n : Nat) (a0 : Term) : Option (Cert × Bool × Unit) := qb (spec_Atom_T 1) fun x => qb (spec_Pub_T x) fun x => qb (spec_Signed_T x a0) fun x => br (!x.snd.fst) (some (Cert.mk (ByteArray.mk #[]) (Term.mk 0 0 (ByteArray.mk #[]) []) 0, false, PUnit.unit)) (br (x.fst.op != 3) (some (Cert.mk (ByteArray.mk #[]) (Term.mk 0 0 (ByteArray.mk #[]) []) 0, false, PUnit.unit)) (qb (idx x.fst.kids 1) fun y => br (y.op != 3) (some (Cert.mk (ByteArray.mk #[]) (Term.mk 0 0 (ByteArray.mk #[]) []) 0, false, PUnit.unit)) (qb (idx x.fst.kids 0) fun y => qb (idx x.fst.kids 1) fun y_1 => qb (idx y_1.kids 0) fun y_2 => qb (idx y_1.kids 1) fun y_3 => qb (spec_l6Number_T y_3.s) fun x => qb (spec_CertOk_T (Cert.mk y.s y_2 x)) fun x_1 => br (!x_1) (some (Cert.mk (ByteArray.mk #[]) (Term.mk 0 0 (ByteArray.mk #[]) []) 0, false, PUnit.unit)) (qb (spec_CertTerm_T (Cert.mk y.s y_2 x)) fun x_2 => qb (spec_Same_T x_2 a0) fun x_3 => br (!x_3) (some (Cert.mk (ByteArray.mk #[]) (Term.mk 0 0 (ByteArray.mk #[]) []) 0, false, PUnit.unit)) (some (Cert.mk y.s (Term.mk y_2.op y_2.n y_2.s y_2.kids) x, true, PUnit.unit))))))

theorem spec_CertOf_res (n : Nat) (a0 : Term) : residT Tryz.prog cfg RN n 22 [.ag (Term.cells a0)] (.tup [.cert, .bool]) = spec_CertOf_R n a0 := by kernel_rfl

theorem spec_CertOf_of (n : Nat) (a0 : Term) {y} (h : spec_CertOf_R n a0 = some y) : spec_CertOf_T a0 = some y := presT_of (((spec_CertOf_res n a0)).trans h)

noncomputable def spec_TermOk_R (n : Nat) (a0 : Term) : Option Bool := qb (spec_TermSize_T a0) fun x => br (decide (x ≤ 200)) (qb (spec_l1Right_T a0) fun x => some x) (some false)

theorem spec_TermOk_res (n : Nat) (a0 : Term) : residT Tryz.prog cfg RN n 23 [.ag (Term.cells a0)] (.bool) = spec_TermOk_R n a0 := by kernel_rfl

theorem spec_TermOk_of (n : Nat) (a0 : Term) {y} (h : spec_TermOk_R n a0 = some y) : spec_TermOk_T a0 = some y := presT_of (((spec_TermOk_res n a0)).trans h)

noncomputable def spec_l2Pub_R (n : Nat) (a0 : Term) : Option Term := some (Term.mk 4 0 (ByteArray.mk #[]) [Term.mk a0.op a0.n a0.s a0.kids])

theorem spec_l2Pub_res (n : Nat) (a0 : Term) : residT Tryz.prog cfg RN n 24 [.ag (Term.cells a0)] (.el .term) = spec_l2Pub_R n a0 := by kernel_rfl

theorem spec_l2Pub_of (n : Nat) (a0 : Term) {y} (h : spec_l2Pub_R n a0 = some y) : spec_l2Pub_T a0 = some y := presT_of (((spec_l2Pub_res n a0)).trans h)

noncomputable def spec_l1Copy_R (n : Nat) (a0 : Term) : Option Term := qb (spec_l1Copy_L3 n n 0 a0 0 0 (ByteArray.mk #[]) [] a0.op a0.n a0.s []) fun x => br (isRetE x.fst) (some (Term.mk x.snd.snd.fst.fst x.snd.snd.fst.snd.fst x.snd.snd.fst.snd.snd.fst x.snd.snd.fst.snd.snd.snd.fst)) (br (isExt 0 x.fst) (some (Term.mk x.snd.snd.snd.fst.fst x.snd.snd.snd.fst.snd.fst x.snd.snd.snd.fst.snd.snd.fst x.snd.snd.snd.snd.fst)) none)

theorem spec_l1Copy_res (n : Nat) (a0 : Term) : residT Tryz.prog cfg RN n 25 [.ag (Term.cells a0)] (.el .term) = spec_l1Copy_R n a0 := by kernel_rfl

theorem spec_l1Copy_of (n : Nat) (a0 : Term) {y} (h : spec_l1Copy_R n a0 = some y) : spec_l1Copy_T a0 = some y := presT_of (((spec_l1Copy_res n a0)).trans h)

noncomputable def spec_Hash_R (n : Nat) (a0 : Term) : Option Term := qb (spec_l1Copy_T a0) fun x => qb (spec_l3Ok_T (Term.mk 6 0 (ByteArray.mk #[]) [Term.mk x.op x.n x.s x.kids])) fun x => some (Term.mk x.op x.n x.s x.kids)

theorem spec_Hash_res (n : Nat) (a0 : Term) : residT Tryz.prog cfg RN n 26 [.ag (Term.cells a0)] (.el .term) = spec_Hash_R n a0 := by kernel_rfl

theorem spec_Hash_of (n : Nat) (a0 : Term) {y} (h : spec_Hash_R n a0 = some y) : spec_Hash_T a0 = some y := presT_of (((spec_Hash_res n a0)).trans h)

noncomputable def spec_Pair_R (n : Nat) (a0 : Term) (a1 : Term) : Option Term := qb (spec_l3Two_T 3 a0 a1) fun x => some (Term.mk x.op x.n x.s x.kids)

theorem spec_Pair_res (n : Nat) (a0 : Term) (a1 : Term) : residT Tryz.prog cfg RN n 27 [.ag (Term.cells a0), .ag (Term.cells a1)] (.el .term) = spec_Pair_R n a0 a1 := by kernel_rfl

theorem spec_Pair_of (n : Nat) (a0 : Term) (a1 : Term) {y} (h : spec_Pair_R n a0 a1 = some y) : spec_Pair_T a0 a1 = some y := presT_of (((spec_Pair_res n a0 a1)).trans h)

noncomputable def spec_l3Ok_R (n : Nat) (a0 : Term) : Option Term := qb (spec_TermOk_T a0) fun x => br (!x) (some (Term.mk 0 0 (ByteArray.mk #[]) [])) (some (Term.mk a0.op a0.n a0.s a0.kids))

theorem spec_l3Ok_res (n : Nat) (a0 : Term) : residT Tryz.prog cfg RN n 28 [.ag (Term.cells a0)] (.el .term) = spec_l3Ok_R n a0 := by kernel_rfl

theorem spec_l3Ok_of (n : Nat) (a0 : Term) {y} (h : spec_l3Ok_R n a0 = some y) : spec_l3Ok_T a0 = some y := presT_of (((spec_l3Ok_res n a0)).trans h)

noncomputable def impl_CertOf_R (n : Nat) (a0 : Term) : Option (Cert × Bool × Unit) := qb (impl_Atom_T 1) fun x => qb (impl_Pub_T x) fun x => qb (impl_Signed_T x a0) fun x => qb (impl_twoOf_T x.fst) fun x_1 => qb (impl_twoOf_T x_1.snd.fst) fun x_2 => qb (strconv_Atoi_T x_2.snd.fst.s) fun x_3 => br x_3.snd.fst (br (!x.snd.fst) (some (Cert.mk (ByteArray.mk #[]) (Term.mk 0 0 (ByteArray.mk #[]) []) 0, false, PUnit.unit)) (br (!x_1.snd.snd.fst) (some (Cert.mk (ByteArray.mk #[]) (Term.mk 0 0 (ByteArray.mk #[]) []) 0, false, PUnit.unit)) (br (!x_2.snd.snd.fst) (some (Cert.mk (ByteArray.mk #[]) (Term.mk 0 0 (ByteArray.mk #[]) []) 0, false, PUnit.unit)) (some (Cert.mk (ByteArray.mk #[]) (Term.mk 0 0 (ByteArray.mk #[]) []) 0, false, PUnit.unit))))) (br (!x.snd.fst) (some (Cert.mk (ByteArray.mk #[]) (Term.mk 0 0 (ByteArray.mk #[]) []) 0, false, PUnit.unit)) (br (!x_1.snd.snd.fst) (some (Cert.mk (ByteArray.mk #[]) (Term.mk 0 0 (ByteArray.mk #[]) []) 0, false, PUnit.unit)) (br (!x_2.snd.snd.fst) (some (Cert.mk (ByteArray.mk #[]) (Term.mk 0 0 (ByteArray.mk #[]) []) 0, false, PUnit.unit)) (qb (impl_clone_T x_2.fst) fun x => qb (impl_CertTerm_T (Cert.mk x_1.fst.s x x_3.fst)) fun x_4 => br (x_4.op != 8) (some (Cert.mk (ByteArray.mk #[]) (Term.mk 0 0 (ByteArray.mk #[]) []) 0, false, PUnit.unit)) (qb (impl_Same_T x_4 a0) fun x_5 => br (!x_5) (some (Cert.mk (ByteArray.mk #[]) (Term.mk 0 0 (ByteArray.mk #[]) []) 0, false, PUnit.unit)) (some (Cert.mk x_1.fst.s (Term.mk x.op x.n x.s x.kids) x_3.fst, true, PUnit.unit)))))))

theorem impl_CertOf_res (n : Nat) (a0 : Term) : residT Tryz.prog cfg RN n 29 [.ag (Term.cells a0)] (.tup [.cert, .bool]) = impl_CertOf_R n a0 := by kernel_rfl

theorem impl_CertOf_of (n : Nat) (a0 : Term) {y} (h : impl_CertOf_R n a0 = some y) : impl_CertOf_T a0 = some y := presT_of (((impl_CertOf_res n a0)).trans h)

noncomputable def impl_TermOk_R (n : Nat) (a0 : Term) : Option Bool := qb (impl_TermSize_T a0) fun x => br (decide (x ≤ 200)) (qb (impl_formOk_T a0) fun x => some x) (some false)

theorem impl_TermOk_res (n : Nat) (a0 : Term) : residT Tryz.prog cfg RN n 30 [.ag (Term.cells a0)] (.bool) = impl_TermOk_R n a0 := by kernel_rfl

theorem impl_TermOk_of (n : Nat) (a0 : Term) {y} (h : impl_TermOk_R n a0 = some y) : impl_TermOk_T a0 = some y := presT_of (((impl_TermOk_res n a0)).trans h)

noncomputable def impl_clone_R (n : Nat) (a0 : Term) : Option Term := qb (impl_cloneAll_T a0.kids) fun x => some (Term.mk a0.op a0.n a0.s x)

theorem impl_clone_res (n : Nat) (a0 : Term) : residT Tryz.prog cfg RN n 31 [.ag (Term.cells a0)] (.el .term) = impl_clone_R n a0 := by kernel_rfl

theorem impl_clone_of (n : Nat) (a0 : Term) {y} (h : impl_clone_R n a0 = some y) : impl_clone_T a0 = some y := presT_of (((impl_clone_res n a0)).trans h)

noncomputable def impl_Hash_R (n : Nat) (a0 : Term) : Option Term := qb (impl_right_T (Term.mk 6 0 (ByteArray.mk #[]) [Term.mk a0.op a0.n a0.s a0.kids])) fun x => some (Term.mk x.op x.n x.s x.kids)

theorem impl_Hash_res (n : Nat) (a0 : Term) : residT Tryz.prog cfg RN n 32 [.ag (Term.cells a0)] (.el .term) = impl_Hash_R n a0 := by kernel_rfl

theorem impl_Hash_of (n : Nat) (a0 : Term) {y} (h : impl_Hash_R n a0 = some y) : impl_Hash_T a0 = some y := presT_of (((impl_Hash_res n a0)).trans h)

noncomputable def impl_Pair_R (n : Nat) (a0 : Term) (a1 : Term) : Option Term := qb (impl_right_T (Term.mk 3 0 (ByteArray.mk #[]) [Term.mk a0.op a0.n a0.s a0.kids, Term.mk a1.op a1.n a1.s a1.kids])) fun x => some (Term.mk x.op x.n x.s x.kids)

theorem impl_Pair_res (n : Nat) (a0 : Term) (a1 : Term) : residT Tryz.prog cfg RN n 33 [.ag (Term.cells a0), .ag (Term.cells a1)] (.el .term) = impl_Pair_R n a0 a1 := by kernel_rfl

theorem impl_Pair_of (n : Nat) (a0 : Term) (a1 : Term) {y} (h : impl_Pair_R n a0 a1 = some y) : impl_Pair_T a0 a1 = some y := presT_of (((impl_Pair_res n a0 a1)).trans h)

noncomputable def impl_right_R (n : Nat) (a0 : Term) : Option Term := qb (impl_TermOk_T a0) fun x => br (!x) (some (Term.mk 0 0 (ByteArray.mk #[]) [])) (qb (impl_clone_T a0) fun x => some (Term.mk x.op x.n x.s x.kids))

theorem impl_right_res (n : Nat) (a0 : Term) : residT Tryz.prog cfg RN n 34 [.ag (Term.cells a0)] (.el .term) = impl_right_R n a0 := by kernel_rfl

theorem impl_right_of (n : Nat) (a0 : Term) {y} (h : impl_right_R n a0 = some y) : impl_right_T a0 = some y := presT_of (((impl_right_res n a0)).trans h)

noncomputable def EqualFunc_Same_R (n : Nat) (a0 : List Term) (a1 : List Term) : Option Bool := br ((↑a0.length : Int) != (↑a1.length : Int)) (some false) (qb (EqualFunc_Same_L4 n n false a1 false false a0 (↑a0.length : Int) 0) fun x => br (isRetE x.fst) (some x.snd.fst.fst) (br (isExt 0 x.fst) (some true) none))

theorem EqualFunc_Same_res (n : Nat) (a0 : List Term) (a1 : List Term) : residT Tryz.prog cfg RN n 35 [.sl false .term a0, .sl false .term a1, .c (.fn 20 [])] (.bool) = EqualFunc_Same_R n a0 a1 := by kernel_rfl

theorem EqualFunc_Same_of (n : Nat) (a0 : List Term) (a1 : List Term) {y} (h : EqualFunc_Same_R n a0 a1 = some y) : slices_EqualFunc_impl_Term_impl_Term_impl_Term_impl_Term_T a0 a1 (.c (.fn 20 [])) = some y := presT_of (((EqualFunc_Same_res n a0 a1)).trans h)

noncomputable def spec_Atom_R (n : Nat) (a0 : Int) : Option Term := qb (spec_l3Ok_T (Term.mk 1 a0 (ByteArray.mk #[]) [])) fun x => some (Term.mk x.op x.n x.s x.kids)

theorem spec_Atom_res (n : Nat) (a0 : Int) : residT Tryz.prog cfg RN n 36 [.int a0] (.el .term) = spec_Atom_R n a0 := by kernel_rfl

theorem spec_Atom_of (n : Nat) (a0 : Int) {y} (h : spec_Atom_R n a0 = some y) : spec_Atom_T a0 = some y := presT_of (((spec_Atom_res n a0)).trans h)

noncomputable def spec_l6Number_R (n : Nat) (a0 : ByteArray) : Option Int := br (decide ((↑a0.size : Int) < 1)) (some (-1)) (br (decide ((↑a0.size : Int) > 6)) (some (-1)) (qb (spec_l6Number_L5 n n a0 0 0 0) fun x => br (isRetE x.fst) (some x.snd.fst.snd.fst) (br (isExt 0 x.fst) (qb (spec_l1Digits_T x.snd.fst.snd.snd.fst) fun x_1 => br (!ByteArray.toList x_1 == ByteArray.toList x.snd.fst.fst) (some (-1)) (br (decide (x.snd.fst.snd.snd.fst > 100000)) (some (-1)) (some x.snd.fst.snd.snd.fst))) none)))

theorem spec_l6Number_res (n : Nat) (a0 : ByteArray) : residT Tryz.prog cfg RN n 37 [.str a0] (.int) = spec_l6Number_R n a0 := by kernel_rfl

theorem spec_l6Number_of (n : Nat) (a0 : ByteArray) {y} (h : spec_l6Number_R n a0 = some y) : spec_l6Number_T a0 = some y := presT_of (((spec_l6Number_res n a0)).trans h)

noncomputable def spec_CertOk_R (n : Nat) (a0 : Cert) : Option Bool := qb (spec_HostOk_T a0.host) fun x => br x (br (a0.pub.op == 4) (qb (spec_TermOk_T a0.pub) fun x => br x (qb (spec_l1In_T a0.til 0 100000) fun x => some x) (some false)) (some false)) (some false)

theorem spec_CertOk_res (n : Nat) (a0 : Cert) : residT Tryz.prog cfg RN n 38 [.ag (Cert.cells a0)] (.bool) = spec_CertOk_R n a0 := by kernel_rfl

theorem spec_CertOk_of (n : Nat) (a0 : Cert) {y} (h : spec_CertOk_R n a0 = some y) : spec_CertOk_T a0 = some y := presT_of (((spec_CertOk_res n a0)).trans h)

noncomputable def spec_CertTerm_R (n : Nat) (a0 : Cert) : Option Term := qb (spec_CertOk_T a0) fun x => br (!x) (some (Term.mk 0 0 (ByteArray.mk #[]) [])) (qb (spec_Atom_T 1) fun x => qb (spec_l3Num_T a0.til) fun x_1 => qb (spec_Pair_T a0.pub x_1) fun x_2 => qb (spec_Pair_T (Term.mk 2 0 a0.host []) x_2) fun x_3 => qb (spec_Sign_T x x_3) fun x => some (Term.mk x.op x.n x.s x.kids))

theorem spec_CertTerm_res (n : Nat) (a0 : Cert) : residT Tryz.prog cfg RN n 39 [.ag (Cert.cells a0)] (.el .term) = spec_CertTerm_R n a0 := by kernel_rfl

theorem spec_CertTerm_of (n : Nat) (a0 : Cert) {y} (h : spec_CertTerm_R n a0 = some y) : spec_CertTerm_T a0 = some y := presT_of (((spec_CertTerm_res n a0)).trans h)

noncomputable def spec_TermSize_R (n : Nat) (a0 : Term) : Option Int := qb (spec_TermSize_L3 n n 1 0 a0) fun x => br (isRetE x.fst) none (br (isExt 0 x.fst) (some x.snd.fst.fst) none)

theorem spec_TermSize_res (n : Nat) (a0 : Term) : residT Tryz.prog cfg RN n 40 [.ag (Term.cells a0)] (.int) = spec_TermSize_R n a0 := by kernel_rfl

theorem spec_TermSize_of (n : Nat) (a0 : Term) {y} (h : spec_TermSize_R n a0 = some y) : spec_TermSize_T a0 = some y := presT_of (((spec_TermSize_res n a0)).trans h)

noncomputable def spec_l1Right_R (n : Nat) (a0 : Term) : Option Bool := qb (spec_l1Kids_T a0.op) fun x => br (x != (↑a0.kids.length : Int)) (some false) (br (a0.op != 1) (br (a0.n != 0) (some false) (br (a0.op != 2) (br (!a0.s.toList == (ByteArray.mk #[]).toList) (some false) (qb (spec_l1In_T a0.n 0 1000000) fun x => br (!x) (some false) (br (decide ((↑a0.s.size : Int) > 300)) (some false) (qb (spec_l1Right_L4 n n false 0 a0) fun x => br (isRetE x.fst) (some x.snd.fst.snd.fst) (br (isExt 0 x.fst) (br (x.snd.snd.fst.op != 5) (some true) (qb (idx x.snd.snd.fst.kids 1) fun y => qb (idx x.snd.snd.fst.kids 0) fun y_1 => qb (spec_Before_T y y_1) fun x => some !x)) none))))) (qb (spec_l1In_T a0.n 0 1000000) fun x => br (!x) (some false) (br (decide ((↑a0.s.size : Int) > 300)) (some false) (qb (spec_l1Right_L4 n n false 0 a0) fun x => br (isRetE x.fst) (some x.snd.fst.snd.fst) (br (isExt 0 x.fst) (br (x.snd.snd.fst.op != 5) (some true) (qb (idx x.snd.snd.fst.kids 1) fun y => qb (idx x.snd.snd.fst.kids 0) fun y_1 => qb (spec_Before_T y y_1) fun x => some !x)) none)))))) (br (a0.op != 2) (br (!a0.s.toList == (ByteArray.mk #[]).toList) (some false) (qb (spec_l1In_T a0.n 0 1000000) fun x => br (!x) (some false) (br (decide ((↑a0.s.size : Int) > 300)) (some false) (qb (spec_l1Right_L4 n n false 0 a0) fun x => br (isRetE x.fst) (some x.snd.fst.snd.fst) (br (isExt 0 x.fst) (br (x.snd.snd.fst.op != 5) (some true) (qb (idx x.snd.snd.fst.kids 1) fun y => qb (idx x.snd.snd.fst.kids 0) fun y_1 => qb (spec_Before_T y y_1) fun x => some !x)) none))))) (qb (spec_l1In_T a0.n 0 1000000) fun x => br (!x) (some false) (br (decide ((↑a0.s.size : Int) > 300)) (some false) (qb (spec_l1Right_L4 n n false 0 a0) fun x => br (isRetE x.fst) (some x.snd.fst.snd.fst) (br (isExt 0 x.fst) (br (x.snd.snd.fst.op != 5) (some true) (qb (idx x.snd.snd.fst.kids 1) fun y => qb (idx x.snd.snd.fst.kids 0) fun y_1 => qb (spec_Before_T y y_1) fun x => some !x)) none))))))

theorem spec_l1Right_res (n : Nat) (a0 : Term) : residT Tryz.prog cfg RN n 41 [.ag (Term.cells a0)] (.bool) = spec_l1Right_R n a0 := by kernel_rfl

theorem spec_l1Right_of (n : Nat) (a0 : Term) {y} (h : spec_l1Right_R n a0 = some y) : spec_l1Right_T a0 = some y := presT_of (((spec_l1Right_res n a0)).trans h)

noncomputable def spec_l3Two_R (n : Nat) (a0 : Int) (a1 : Term) (a2 : Term) : Option Term := qb (spec_l1Copy_T a1) fun x => qb (spec_l1Copy_T a2) fun x_1 => qb (spec_l3Ok_T (Term.mk a0 0 (ByteArray.mk #[]) [Term.mk x.op x.n x.s x.kids, Term.mk x_1.op x_1.n x_1.s x_1.kids])) fun x => some (Term.mk x.op x.n x.s x.kids)

theorem spec_l3Two_res (n : Nat) (a0 : Int) (a1 : Term) (a2 : Term) : residT Tryz.prog cfg RN n 42 [.int a0, .ag (Term.cells a1), .ag (Term.cells a2)] (.el .term) = spec_l3Two_R n a0 a1 a2 := by kernel_rfl

theorem spec_l3Two_of (n : Nat) (a0 : Int) (a1 : Term) (a2 : Term) {y} (h : spec_l3Two_R n a0 a1 a2 = some y) : spec_l3Two_T a0 a1 a2 = some y := presT_of (((spec_l3Two_res n a0 a1 a2)).trans h)

noncomputable def impl_Atom_R (n : Nat) (a0 : Int) : Option Term := qb (impl_right_T (Term.mk 1 a0 (ByteArray.mk #[]) [])) fun x => some (Term.mk x.op x.n x.s x.kids)

theorem impl_Atom_res (n : Nat) (a0 : Int) : residT Tryz.prog cfg RN n 43 [.int a0] (.el .term) = impl_Atom_R n a0 := by kernel_rfl

theorem impl_Atom_of (n : Nat) (a0 : Int) {y} (h : impl_Atom_R n a0 = some y) : impl_Atom_T a0 = some y := presT_of (((impl_Atom_res n a0)).trans h)

noncomputable def impl_twoOf_R (n : Nat) (a0 : Term) : Option (Term × Term × Bool × Unit) := br (a0.op != 3) (some (Term.mk 0 0 (ByteArray.mk #[]) [], Term.mk 0 0 (ByteArray.mk #[]) [], false, PUnit.unit)) (br ((↑a0.kids.length : Int) != 2) (some (Term.mk 0 0 (ByteArray.mk #[]) [], Term.mk 0 0 (ByteArray.mk #[]) [], false, PUnit.unit)) (qb (idx a0.kids 0) fun y => qb (idx a0.kids 1) fun y_1 => some (Term.mk y.op y.n y.s y.kids, Term.mk y_1.op y_1.n y_1.s y_1.kids, true, PUnit.unit)))

theorem impl_twoOf_res (n : Nat) (a0 : Term) : residT Tryz.prog cfg RN n 44 [.ag (Term.cells a0)] (.tup [.el .term, .el .term, .bool]) = impl_twoOf_R n a0 := by kernel_rfl

theorem impl_twoOf_of (n : Nat) (a0 : Term) {y} (h : impl_twoOf_R n a0 = some y) : impl_twoOf_T a0 = some y := presT_of (((impl_twoOf_res n a0)).trans h)

noncomputable def impl_CertTerm_R (n : Nat) (a0 : Cert) : Option Term := qb (impl_CertOk_T a0) fun x => br (!x) (some (Term.mk 0 0 (ByteArray.mk #[]) [])) (qb (impl_Atom_T 1) fun x => qb (impl_text_T a0.host) fun x_1 => qb (impl_digits_T a0.til) fun x_2 => qb (impl_Pair_T a0.pub x_2) fun x_3 => qb (impl_Pair_T x_1 x_3) fun x_4 => qb (impl_Sign_T x x_4) fun x => some (Term.mk x.op x.n x.s x.kids))

theorem impl_CertTerm_res (n : Nat) (a0 : Cert) : residT Tryz.prog cfg RN n 46 [.ag (Cert.cells a0)] (.el .term) = impl_CertTerm_R n a0 := by kernel_rfl

theorem impl_CertTerm_of (n : Nat) (a0 : Cert) {y} (h : impl_CertTerm_R n a0 = some y) : impl_CertTerm_T a0 = some y := presT_of (((impl_CertTerm_res n a0)).trans h)

noncomputable def impl_TermSize_R (n : Nat) (a0 : Term) : Option Int := qb (impl_TermSize_L3 n n 1 false a0.kids (↑a0.kids.length : Int) 0) fun x => br (isRetE x.fst) none (br (isExt 0 x.fst) (some x.snd.fst.fst) none)

theorem impl_TermSize_res (n : Nat) (a0 : Term) : residT Tryz.prog cfg RN n 47 [.ag (Term.cells a0)] (.int) = impl_TermSize_R n a0 := by kernel_rfl

theorem impl_TermSize_of (n : Nat) (a0 : Term) {y} (h : impl_TermSize_R n a0 = some y) : impl_TermSize_T a0 = some y := presT_of (((impl_TermSize_res n a0)).trans h)

noncomputable def impl_formOk_R (n : Nat) (a0 : Term) : Option Bool := qb (impl_arity_T a0.op) fun x => br ((↑a0.kids.length : Int) != x) (some false) (qb (slices_ContainsFunc_impl_Term_impl_Term_T a0.kids (V.c (C.fn 65 []))) fun x => br x (some false) (br (a0.op == 1) (qb (impl_in_T a0.n 0 1000000) fun x => br x (some (a0.s.toList == (ByteArray.mk #[]).toList)) (some false)) (br (a0.op == 2) (br (a0.n == 0) (some (decide ((↑a0.s.size : Int) ≤ 300))) (some false)) (br (a0.op == 5) (br (a0.n == 0) (br (a0.s.toList == (ByteArray.mk #[]).toList) (qb (idx a0.kids 1) fun y => qb (idx a0.kids 0) fun y_1 => qb (impl_Before_T y y_1) fun x => some !x) (some false)) (some false)) (br (a0.n == 0) (some (a0.s.toList == (ByteArray.mk #[]).toList)) (some false))))))

theorem impl_formOk_res (n : Nat) (a0 : Term) : residT Tryz.prog cfg RN n 48 [.ag (Term.cells a0)] (.bool) = impl_formOk_R n a0 := by kernel_rfl

theorem impl_formOk_of (n : Nat) (a0 : Term) {y} (h : impl_formOk_R n a0 = some y) : impl_formOk_T a0 = some y := presT_of (((impl_formOk_res n a0)).trans h)

noncomputable def impl_cloneAll_R (n : Nat) (a0 : List Term) : Option (List Term) := qb (impl_cloneAll_L3 n n [] false a0 (↑a0.length : Int) 0) fun x => br (isRetE x.fst) none (br (isExt 0 x.fst) (some x.snd.snd.fst) none)

theorem impl_cloneAll_res (n : Nat) (a0 : List Term) : residT Tryz.prog cfg RN n 49 [.sl false .term a0] (.sl .term) = impl_cloneAll_R n a0 := by kernel_rfl

theorem impl_cloneAll_of (n : Nat) (a0 : List Term) {y} (h : impl_cloneAll_R n a0 = some y) : impl_cloneAll_T a0 = some y := presT_of (((impl_cloneAll_res n a0)).trans h)

noncomputable def spec_l1Digits_R (n : Nat) (a0 : Int) : Option ByteArray := br (a0 == 0) (some (ByteArray.mk #[48])) (qb (spec_l1Digits_L5 n n a0 (decide (a0 < 0)) (ByteArray.mk #[])) fun x => br (isRetE x.fst) none (br (isExt 0 x.fst) (br x.snd.fst.fst (qb (catOk (ByteArray.mk #[45]) x.snd.fst.snd.fst) fun y => some (ByteArray.mk #[45] ++ x.snd.fst.snd.fst)) (some x.snd.fst.snd.fst)) none))

theorem spec_l1Digits_res (n : Nat) (a0 : Int) : residT Tryz.prog cfg RN n 50 [.int a0] (.str) = spec_l1Digits_R n a0 := by kernel_rfl

theorem spec_l1Digits_of (n : Nat) (a0 : Int) {y} (h : spec_l1Digits_R n a0 = some y) : spec_l1Digits_T a0 = some y := presT_of (((spec_l1Digits_res n a0)).trans h)

noncomputable def spec_HostOk_R (n : Nat) (a0 : ByteArray) : Option Bool := qb (spec_l5Labels_T a0 2) fun x => some x

theorem spec_HostOk_res (n : Nat) (a0 : ByteArray) : residT Tryz.prog cfg RN n 51 [.str a0] (.bool) = spec_HostOk_R n a0 := by kernel_rfl

theorem spec_HostOk_of (n : Nat) (a0 : ByteArray) {y} (h : spec_HostOk_R n a0 = some y) : spec_HostOk_T a0 = some y := presT_of (((spec_HostOk_res n a0)).trans h)

noncomputable def spec_l1In_R (n : Nat) (a0 : Int) (a1 : Int) (a2 : Int) : Option Bool := br (decide (a0 ≥ a1)) (some (decide (a0 ≤ a2))) (some false)

theorem spec_l1In_res (n : Nat) (a0 : Int) (a1 : Int) (a2 : Int) : residT Tryz.prog cfg RN n 52 [.int a0, .int a1, .int a2] (.bool) = spec_l1In_R n a0 a1 a2 := by kernel_rfl

theorem spec_l1In_of (n : Nat) (a0 : Int) (a1 : Int) (a2 : Int) {y} (h : spec_l1In_R n a0 a1 a2 = some y) : spec_l1In_T a0 a1 a2 = some y := presT_of (((spec_l1In_res n a0 a1 a2)).trans h)

noncomputable def spec_Sign_R (n : Nat) (a0 : Term) (a1 : Term) : Option Term := qb (spec_l3Two_T 8 a0 a1) fun x => some (Term.mk x.op x.n x.s x.kids)

theorem spec_Sign_res (n : Nat) (a0 : Term) (a1 : Term) : residT Tryz.prog cfg RN n 53 [.ag (Term.cells a0), .ag (Term.cells a1)] (.el .term) = spec_Sign_R n a0 a1 := by kernel_rfl

theorem spec_Sign_of (n : Nat) (a0 : Term) (a1 : Term) {y} (h : spec_Sign_R n a0 a1 = some y) : spec_Sign_T a0 a1 = some y := presT_of (((spec_Sign_res n a0 a1)).trans h)

noncomputable def spec_l3Num_R (n : Nat) (a0 : Int) : Option Term := qb (spec_l1Digits_T a0) fun x => some (Term.mk 2 0 x [])

theorem spec_l3Num_res (n : Nat) (a0 : Int) : residT Tryz.prog cfg RN n 54 [.int a0] (.el .term) = spec_l3Num_R n a0 := by kernel_rfl

theorem spec_l3Num_of (n : Nat) (a0 : Int) {y} (h : spec_l3Num_R n a0 = some y) : spec_l3Num_T a0 = some y := presT_of (((spec_l3Num_res n a0)).trans h)

noncomputable def spec_l1Kids_R (n : Nat) (a0 : Int) : Option Int := br (a0 == 1) (some 0) (br (a0 == 2) (some 0) (br (a0 == 4) (some 1) (br (a0 == 6) (some 1) (br (a0 == 3) (some 2) (br (a0 == 5) (some 2) (br (a0 == 7) (some 2) (br (a0 == 8) (some 2) (some (-1)))))))))

theorem spec_l1Kids_res (n : Nat) (a0 : Int) : residT Tryz.prog cfg RN n 55 [.int a0] (.int) = spec_l1Kids_R n a0 := by kernel_rfl

theorem spec_l1Kids_of (n : Nat) (a0 : Int) {y} (h : spec_l1Kids_R n a0 = some y) : spec_l1Kids_T a0 = some y := presT_of (((spec_l1Kids_res n a0)).trans h)

noncomputable def spec_Before_R (n : Nat) (a0 : Term) (a1 : Term) : Option Bool := br (a0.op != a1.op) (some (decide (a0.op < a1.op))) (br (a0.n != a1.n) (some (decide (a0.n < a1.n))) (br (!a0.s.toList == a1.s.toList) (some (Op.bytesLess a0.s.toList a1.s.toList)) (br ((↑a0.kids.length : Int) != (↑a1.kids.length : Int)) (some (decide ((↑a0.kids.length : Int) < (↑a1.kids.length : Int)))) (qb (spec_Before_L10 n n false 0 a0 a1) fun x => br (isRetE x.fst) (some x.snd.fst.fst) (br (isExt 1 x.fst) (some false) none)))))

theorem spec_Before_res (n : Nat) (a0 : Term) (a1 : Term) : residT Tryz.prog cfg RN n 56 [.ag (Term.cells a0), .ag (Term.cells a1)] (.bool) = spec_Before_R n a0 a1 := by kernel_rfl

theorem spec_Before_of (n : Nat) (a0 : Term) (a1 : Term) {y} (h : spec_Before_R n a0 a1 = some y) : spec_Before_T a0 a1 = some y := presT_of (((spec_Before_res n a0 a1)).trans h)

noncomputable def impl_CertOk_R (n : Nat) (a0 : Cert) : Option Bool := qb (impl_HostOk_T a0.host) fun x => br x (br (a0.pub.op == 4) (qb (impl_TermOk_T a0.pub) fun x => br x (qb (impl_in_T a0.til 0 100000) fun x => some x) (some false)) (some false)) (some false)

theorem impl_CertOk_res (n : Nat) (a0 : Cert) : residT Tryz.prog cfg RN n 59 [.ag (Cert.cells a0)] (.bool) = impl_CertOk_R n a0 := by kernel_rfl

theorem impl_CertOk_of (n : Nat) (a0 : Cert) {y} (h : impl_CertOk_R n a0 = some y) : impl_CertOk_T a0 = some y := presT_of (((impl_CertOk_res n a0)).trans h)

noncomputable def impl_Sign_R (n : Nat) (a0 : Term) (a1 : Term) : Option Term := qb (impl_right_T (Term.mk 8 0 (ByteArray.mk #[]) [Term.mk a0.op a0.n a0.s a0.kids, Term.mk a1.op a1.n a1.s a1.kids])) fun x => some (Term.mk x.op x.n x.s x.kids)

theorem impl_Sign_res (n : Nat) (a0 : Term) (a1 : Term) : residT Tryz.prog cfg RN n 60 [.ag (Term.cells a0), .ag (Term.cells a1)] (.el .term) = impl_Sign_R n a0 a1 := by kernel_rfl

theorem impl_Sign_of (n : Nat) (a0 : Term) (a1 : Term) {y} (h : impl_Sign_R n a0 a1 = some y) : impl_Sign_T a0 a1 = some y := presT_of (((impl_Sign_res n a0 a1)).trans h)

noncomputable def impl_text_R (n : Nat) (a0 : ByteArray) : Option Term := some (Term.mk 2 0 a0 [])

theorem impl_text_res (n : Nat) (a0 : ByteArray) : residT Tryz.prog cfg RN n 61 [.str a0] (.el .term) = impl_text_R n a0 := by kernel_rfl

theorem impl_text_of (n : Nat) (a0 : ByteArray) {y} (h : impl_text_R n a0 = some y) : impl_text_T a0 = some y := presT_of (((impl_text_res n a0)).trans h)

noncomputable def impl_digits_R (n : Nat) (a0 : Int) : Option Term := qb (strconv_Itoa_T a0) fun x => qb (impl_text_T x) fun x => some (Term.mk x.op x.n x.s x.kids)

theorem impl_digits_res (n : Nat) (a0 : Int) : residT Tryz.prog cfg RN n 62 [.int a0] (.el .term) = impl_digits_R n a0 := by kernel_rfl

theorem impl_digits_of (n : Nat) (a0 : Int) {y} (h : impl_digits_R n a0 = some y) : impl_digits_T a0 = some y := presT_of (((impl_digits_res n a0)).trans h)

noncomputable def impl_arity_R (n : Nat) (a0 : Int) : Option Int := br (a0 == 1) (some 0) (br (a0 == 2) (some 0) (br (a0 == 4) (some 1) (br (a0 == 6) (some 1) (br (a0 == 3) (some 2) (br (a0 == 5) (some 2) (br (a0 == 7) (some 2) (br (a0 == 8) (some 2) (some (-1)))))))))

theorem impl_arity_res (n : Nat) (a0 : Int) : residT Tryz.prog cfg RN n 63 [.int a0] (.int) = impl_arity_R n a0 := by kernel_rfl

theorem impl_arity_of (n : Nat) (a0 : Int) {y} (h : impl_arity_R n a0 = some y) : impl_arity_T a0 = some y := presT_of (((impl_arity_res n a0)).trans h)

noncomputable def ContainsFunc_formOk_1_R (n : Nat) (a0 : List Term) : Option Bool := qb (slices_IndexFunc_impl_Term_impl_Term_T a0 (V.c (C.fn 65 []))) fun x => some (decide (x ≥ 0))

theorem ContainsFunc_formOk_1_res (n : Nat) (a0 : List Term) : residT Tryz.prog cfg RN n 64 [.sl false .term a0, .c (.fn 65 [])] (.bool) = ContainsFunc_formOk_1_R n a0 := by kernel_rfl

theorem ContainsFunc_formOk_1_of (n : Nat) (a0 : List Term) {y} (h : ContainsFunc_formOk_1_R n a0 = some y) : slices_ContainsFunc_impl_Term_impl_Term_T a0 (.c (.fn 65 [])) = some y := presT_of (((ContainsFunc_formOk_1_res n a0)).trans h)

noncomputable def impl_in_R (n : Nat) (a0 : Int) (a1 : Int) (a2 : Int) : Option Bool := br (decide (a0 ≥ a1)) (some (decide (a0 ≤ a2))) (some false)

theorem impl_in_res (n : Nat) (a0 : Int) (a1 : Int) (a2 : Int) : residT Tryz.prog cfg RN n 66 [.int a0, .int a1, .int a2] (.bool) = impl_in_R n a0 a1 a2 := by kernel_rfl

theorem impl_in_of (n : Nat) (a0 : Int) (a1 : Int) (a2 : Int) {y} (h : impl_in_R n a0 a1 a2 = some y) : impl_in_T a0 a1 a2 = some y := presT_of (((impl_in_res n a0 a1 a2)).trans h)

noncomputable def impl_Before_R (n : Nat) (a0 : Term) (a1 : Term) : Option Bool := br (a0.op != a1.op) (some (decide (a0.op < a1.op))) (br (a0.n != a1.n) (some (decide (a0.n < a1.n))) (br (!a0.s.toList == a1.s.toList) (some (Op.bytesLess a0.s.toList a1.s.toList)) (br ((↑a0.kids.length : Int) != (↑a1.kids.length : Int)) (some (decide ((↑a0.kids.length : Int) < (↑a1.kids.length : Int)))) (qb (impl_Before_L10 n n false false a0.kids (↑a0.kids.length : Int) 0 a1) fun x => br (isRetE x.fst) (some x.snd.fst.fst) (br (isExt 1 x.fst) (some false) none)))))

theorem impl_Before_res (n : Nat) (a0 : Term) (a1 : Term) : residT Tryz.prog cfg RN n 67 [.ag (Term.cells a0), .ag (Term.cells a1)] (.bool) = impl_Before_R n a0 a1 := by kernel_rfl

theorem impl_Before_of (n : Nat) (a0 : Term) (a1 : Term) {y} (h : impl_Before_R n a0 a1 = some y) : impl_Before_T a0 a1 = some y := presT_of (((impl_Before_res n a0 a1)).trans h)

noncomputable def spec_l5Labels_R (n : Nat) (a0 : ByteArray) (a1 : Int) : Option Bool := qb (spec_Labels_T a0) fun x => qb (spec_l5Labels_L3 n n a0 a1 false false x 0) fun x => br (isRetE x.fst) (some x.snd.fst.snd.snd.fst) (br (isExt 0 x.fst) (br (decide ((↑(List.length x.snd.fst.snd.snd.snd.fst) : Int) ≥ x.snd.fst.snd.fst)) (some (decide ((↑(ByteArray.size x.snd.fst.fst) : Int) ≤ 60))) (some false)) none)

theorem spec_l5Labels_res (n : Nat) (a0 : ByteArray) (a1 : Int) : residT Tryz.prog cfg RN n 68 [.str a0, .int a1] (.bool) = spec_l5Labels_R n a0 a1 := by kernel_rfl

theorem spec_l5Labels_of (n : Nat) (a0 : ByteArray) (a1 : Int) {y} (h : spec_l5Labels_R n a0 a1 = some y) : spec_l5Labels_T a0 a1 = some y := presT_of (((spec_l5Labels_res n a0 a1)).trans h)

noncomputable def impl_HostOk_R (n : Nat) (a0 : ByteArray) : Option Bool := qb (impl_labelsOk_T a0 2) fun x => some x

theorem impl_HostOk_res (n : Nat) (a0 : ByteArray) : residT Tryz.prog cfg RN n 74 [.str a0] (.bool) = impl_HostOk_R n a0 := by kernel_rfl

theorem impl_HostOk_of (n : Nat) (a0 : ByteArray) {y} (h : impl_HostOk_R n a0 = some y) : impl_HostOk_T a0 = some y := presT_of (((impl_HostOk_res n a0)).trans h)

noncomputable def IndexFunc_formOk_1_R (n : Nat) (a0 : List Term) : Option Int := qb (IndexFunc_formOk_1_L2 n n false a0 0 (↑a0.length : Int) 0) fun x => br (isRetE x.fst) (some x.snd.fst.fst) (br (isExt 0 x.fst) (some (-1)) none)

theorem IndexFunc_formOk_1_res (n : Nat) (a0 : List Term) : residT Tryz.prog cfg RN n 76 [.sl false .term a0, .c (.fn 65 [])] (.int) = IndexFunc_formOk_1_R n a0 := by kernel_rfl

theorem IndexFunc_formOk_1_of (n : Nat) (a0 : List Term) {y} (h : IndexFunc_formOk_1_R n a0 = some y) : slices_IndexFunc_impl_Term_impl_Term_T a0 (.c (.fn 65 [])) = some y := presT_of (((IndexFunc_formOk_1_res n a0)).trans h)

noncomputable def spec_Labels_R (n : Nat) (a0 : ByteArray) : Option (List ByteArray) := qb (spec_Labels_L4 n n a0 [] 0 0) fun x => br (isRetE x.fst) none (br (isExt 0 x.fst) (some x.snd.snd.fst) none)

theorem spec_Labels_res (n : Nat) (a0 : ByteArray) : residT Tryz.prog cfg RN n 77 [.str a0] (.sl .str) = spec_Labels_R n a0 := by kernel_rfl

theorem spec_Labels_of (n : Nat) (a0 : ByteArray) {y} (h : spec_Labels_R n a0 = some y) : spec_Labels_T a0 = some y := presT_of (((spec_Labels_res n a0)).trans h)

noncomputable def spec_l5Label_R (n : Nat) (a0 : ByteArray) : Option Bool := qb (spec_l5Label_L2 n n a0 false 0) fun x => br (isRetE x.fst) (some x.snd.fst.snd.fst) (br (isExt 0 x.fst) (qb (spec_l1In_T (↑(ByteArray.size x.snd.fst.fst) : Int) 1 10) fun x => some x) none)

theorem spec_l5Label_res (n : Nat) (a0 : ByteArray) : residT Tryz.prog cfg RN n 78 [.str a0] (.bool) = spec_l5Label_R n a0 := by kernel_rfl

theorem spec_l5Label_of (n : Nat) (a0 : ByteArray) {y} (h : spec_l5Label_R n a0 = some y) : spec_l5Label_T a0 = some y := presT_of (((spec_l5Label_res n a0)).trans h)

noncomputable def impl_labelsOk_R (n : Nat) (a0 : ByteArray) (a1 : Int) : Option Bool := qb (impl_Labels_T a0) fun x => br (decide ((↑a0.size : Int) ≤ 60)) (br (decide ((↑(List.length x) : Int) ≥ a1)) (qb (slices_ContainsFunc_string_string_T x (V.c (C.fn 88 []))) fun x => some !x) (some false)) (some false)

theorem impl_labelsOk_res (n : Nat) (a0 : ByteArray) (a1 : Int) : residT Tryz.prog cfg RN n 82 [.str a0, .int a1] (.bool) = impl_labelsOk_R n a0 a1 := by kernel_rfl

theorem impl_labelsOk_of (n : Nat) (a0 : ByteArray) (a1 : Int) {y} (h : impl_labelsOk_R n a0 a1 = some y) : impl_labelsOk_T a0 a1 = some y := presT_of (((impl_labelsOk_res n a0 a1)).trans h)

noncomputable def impl_Labels_R (n : Nat) (a0 : ByteArray) : Option (List ByteArray) := qb (strings_Split_T a0 (ByteArray.mk #[46])) fun x => some x

theorem impl_Labels_res (n : Nat) (a0 : ByteArray) : residT Tryz.prog cfg RN n 86 [.str a0] (.sl .str) = impl_Labels_R n a0 := by kernel_rfl

theorem impl_Labels_of (n : Nat) (a0 : ByteArray) {y} (h : impl_Labels_R n a0 = some y) : impl_Labels_T a0 = some y := presT_of (((impl_Labels_res n a0)).trans h)

noncomputable def ContainsFunc_labelsOk_1_R (n : Nat) (a0 : List ByteArray) : Option Bool := qb (slices_IndexFunc_string_string_T a0 (V.c (C.fn 88 []))) fun x => some (decide (x ≥ 0))

theorem ContainsFunc_labelsOk_1_res (n : Nat) (a0 : List ByteArray) : residT Tryz.prog cfg RN n 87 [.sl false .str a0, .c (.fn 88 [])] (.bool) = ContainsFunc_labelsOk_1_R n a0 := by kernel_rfl

theorem ContainsFunc_labelsOk_1_of (n : Nat) (a0 : List ByteArray) {y} (h : ContainsFunc_labelsOk_1_R n a0 = some y) : slices_ContainsFunc_string_string_T a0 (.c (.fn 88 [])) = some y := presT_of (((ContainsFunc_labelsOk_1_res n a0)).trans h)

noncomputable def impl_labelOk_R (n : Nat) (a0 : ByteArray) : Option Bool := qb (impl_labelOk_L2 n n a0 false (↑a0.size : Int) 0) fun x => br (isRetE x.fst) (some x.snd.fst.snd.fst) (br (isExt 0 x.fst) (qb (impl_in_T (↑(ByteArray.size x.snd.fst.fst) : Int) 1 10) fun x => some x) none)

theorem impl_labelOk_res (n : Nat) (a0 : ByteArray) : residT Tryz.prog cfg RN n 89 [.str a0] (.bool) = impl_labelOk_R n a0 := by kernel_rfl

theorem impl_labelOk_of (n : Nat) (a0 : ByteArray) {y} (h : impl_labelOk_R n a0 = some y) : impl_labelOk_T a0 = some y := presT_of (((impl_labelOk_res n a0)).trans h)

noncomputable def IndexFunc_labelsOk_1_R (n : Nat) (a0 : List ByteArray) : Option Int := qb (IndexFunc_labelsOk_1_L2 n n false a0 0 (↑a0.length : Int) 0) fun x => br (isRetE x.fst) (some x.snd.fst.fst) (br (isExt 0 x.fst) (some (-1)) none)

theorem IndexFunc_labelsOk_1_res (n : Nat) (a0 : List ByteArray) : residT Tryz.prog cfg RN n 92 [.sl false .str a0, .c (.fn 88 [])] (.int) = IndexFunc_labelsOk_1_R n a0 := by kernel_rfl

theorem IndexFunc_labelsOk_1_of (n : Nat) (a0 : List ByteArray) {y} (h : IndexFunc_labelsOk_1_R n a0 = some y) : slices_IndexFunc_string_string_T a0 (.c (.fn 88 [])) = some y := presT_of (((IndexFunc_labelsOk_1_res n a0)).trans h)

theorem laws_szTermS_round5 (n : Nat) (t0 : Bool) (x0 : List Term) (x1 : Int) (x4 : Int) (x5 : Int) : roundK Tryz.prog cfg RN n 5 9 5 0 (laws_szTermS_S5 t0 x0 x1 x4 x5) = (br (decide (x5 < (↑x0.length : Int))) (qb (idx x0 x5) fun y => qb (laws_szTerm_T y x1) fun x => br (decide (x < 0)) (some (Ex.ret, laws_szTermS_O5 x (-1))) (some (Ex.nrm, laws_szTermS_S5 t0 x0 x x4 (IntKind.i64.wrap (x5 + 1))))) (some (Ex.ext 0, laws_szTermS_O5 x1 x4)) : Option (Ex × St)) := by kernel_rfl

theorem spec_Same_round4 (n : Nat) (x4 : Bool) (x5 : Int) (y2 : Term) (y3 : Term) : roundK Tryz.prog cfg RN n 5 12 4 0 (spec_Same_S4 x4 x5 y2 y3) = (br (decide (x5 < (↑y2.kids.length : Int))) (qb (idx y2.kids x5) fun y => qb (idx y3.kids x5) fun y_1 => qb (spec_Same_T y y_1) fun x => br (!x) (some (Ex.ret, spec_Same_O4 false)) (some (Ex.nrm, spec_Same_S4 x4 (IntKind.i64.wrap (x5 + 1)) y2 y3))) (some (Ex.ext 0, spec_Same_O4 x4)) : Option (Ex × St)) := by kernel_rfl

theorem laws_toTermS_round3 (n : Nat) (t0 : Bool) (x0 : List Term) (x3 : List Term) (x4 : Int) : roundK Tryz.prog cfg RN n 5 15 3 0 (laws_toTermS_S3 t0 x0 x3 x4) = (br (decide (x4 < (↑x0.length : Int))) (qb (idx x0 x4) fun y => qb (laws_toTerm_T y) fun x => qb (idx x3 x4) fun y => qb x3[x4.toNat]? fun x_1 => some (Ex.nrm, laws_toTermS_S3 t0 x0 (x3.set x4.toNat (Term.mk x.op x.n x.s x.kids)) (IntKind.i64.wrap (x4 + 1)))) (some (Ex.ext 0, laws_toTermS_O3 x3)) : Option (Ex × St)) := by kernel_rfl

theorem laws_eqTermS_round4 (n : Nat) (t0 : Bool) (x0 : List Term) (t1 : Bool) (x1 : List Term) (x4 : Bool) (x5 : Int) : roundK Tryz.prog cfg RN n 5 21 4 0 (laws_eqTermS_S4 t0 x0 t1 x1 x4 x5) = (br (decide (x5 < (↑x0.length : Int))) (qb (idx x0 x5) fun y => qb (idx x1 x5) fun y_1 => qb (laws_eqTerm_T y y_1) fun x => br (!x) (some (Ex.ret, laws_eqTermS_O4 false)) (some (Ex.nrm, laws_eqTermS_S4 t0 x0 t1 x1 x4 (IntKind.i64.wrap (x5 + 1))))) (some (Ex.ext 0, laws_eqTermS_O4 x4)) : Option (Ex × St)) := by kernel_rfl

theorem spec_l1Copy_round3 (n : Nat) (x4 : Int) (y1 : Term) (y2_Op : Int) (y2_N : Int) (y2_S : ByteArray) (y2_Kids : List Term) (y3_Op : Int) (y3_N : Int) (y3_S : ByteArray) (y3_Kids : List Term) : roundK Tryz.prog cfg RN n 5 25 3 0 (spec_l1Copy_S3 x4 y1 y2_Op y2_N y2_S y2_Kids y3_Op y3_N y3_S y3_Kids) = (br (decide (x4 < (↑y1.kids.length : Int))) (qb (idx y1.kids x4) fun y => qb (spec_l1Copy_T y) fun x => br (((y3_Kids).length + [Term.mk x.op x.n x.s x.kids].length).ble appMax) (some (Ex.nrm, spec_l1Copy_S3 (IntKind.i64.wrap (x4 + 1)) y1 y2_Op y2_N y2_S y2_Kids y3_Op y3_N y3_S (y3_Kids ++ [Term.mk x.op x.n x.s x.kids]))) none) (some (Ex.ext 0, spec_l1Copy_O3 y2_Op y2_N y2_S y2_Kids y3_Op y3_N y3_S y3_Kids)) : Option (Ex × St)) := by kernel_rfl

theorem EqualFunc_Same_round4 (n : Nat) (t1 : Bool) (x1 : List Term) (x6 : Bool) (t15 : Bool) (x15 : List Term) (x16 : Int) (x17 : Int) : roundK Tryz.prog cfg RN n 5 35 4 0 (EqualFunc_Same_S4 t1 x1 x6 t15 x15 x16 x17) = (br (decide (x17 < x16)) (qb (idx x15 x17) fun y => qb (idx x1 x17) fun y_1 => qb (impl_Same_T y y_1) fun x => br (!x) (some (Ex.ret, EqualFunc_Same_O4 false)) (some (Ex.nrm, EqualFunc_Same_S4 t1 x1 x6 t15 x15 x16 (IntKind.i64.wrap (x17 + 1))))) (some (Ex.ext 0, EqualFunc_Same_O4 x6)) : Option (Ex × St)) := by kernel_rfl

theorem spec_l6Number_round5 (n : Nat) (x0 : ByteArray) (x2 : Int) (x3 : Int) (x4 : Int) : roundK Tryz.prog cfg RN n 5 37 5 0 (spec_l6Number_S5 x0 x2 x3 x4) = (br (decide (x4 < (↑x0.size : Int))) (qb (byteAt x0 x4) fun b => br (decide (b < 48)) (some (Ex.ret, spec_l6Number_O5 x0 (-1) x3)) (qb (byteAt x0 x4) fun b => br (decide (b > 57)) (some (Ex.ret, spec_l6Number_O5 x0 (-1) x3)) (qb (byteAt x0 x4) fun b => some (Ex.nrm, spec_l6Number_S5 x0 x2 (IntKind.i64.wrap (IntKind.i64.wrap (IntKind.i64.wrap (10 * x3) + IntKind.i64.wrap b) - 48)) (IntKind.i64.wrap (x4 + 1)))))) (some (Ex.ext 0, spec_l6Number_O5 x0 x2 x3)) : Option (Ex × St)) := by kernel_rfl

theorem spec_TermSize_round3 (n : Nat) (x3 : Int) (x4 : Int) (y1 : Term) : roundK Tryz.prog cfg RN n 5 40 3 0 (spec_TermSize_S3 x3 x4 y1) = (br (decide (x4 < (↑y1.kids.length : Int))) (qb (idx y1.kids x4) fun y => qb (spec_TermSize_T y) fun x => some (Ex.nrm, spec_TermSize_S3 (IntKind.i64.wrap (x3 + x)) (IntKind.i64.wrap (x4 + 1)) y1)) (some (Ex.ext 0, spec_TermSize_O3 x3)) : Option (Ex × St)) := by kernel_rfl

theorem spec_l1Right_round4 (n : Nat) (x2 : Bool) (x3 : Int) (y1 : Term) : roundK Tryz.prog cfg RN n 5 41 4 0 (spec_l1Right_S4 x2 x3 y1) = (br (decide (x3 < (↑y1.kids.length : Int))) (qb (idx y1.kids x3) fun y => qb (spec_l1Right_T y) fun x => br (!x) (some (Ex.ret, spec_l1Right_O4 false y1)) (some (Ex.nrm, spec_l1Right_S4 x2 (IntKind.i64.wrap (x3 + 1)) y1))) (some (Ex.ext 0, spec_l1Right_O4 x2 y1)) : Option (Ex × St)) := by kernel_rfl

theorem impl_TermSize_round3 (n : Nat) (x3 : Int) (t7 : Bool) (x7 : List Term) (x8 : Int) (x9 : Int) : roundK Tryz.prog cfg RN n 5 47 3 0 (impl_TermSize_S3 x3 t7 x7 x8 x9) = (br (decide (x9 < x8)) (qb (idx x7 x9) fun y => qb (impl_TermSize_T y) fun x => some (Ex.nrm, impl_TermSize_S3 (IntKind.i64.wrap (x3 + x)) t7 x7 x8 (IntKind.i64.wrap (x9 + 1)))) (some (Ex.ext 0, impl_TermSize_O3 x3)) : Option (Ex × St)) := by kernel_rfl

theorem impl_cloneAll_round3 (n : Nat) (x3 : List Term) (t6 : Bool) (x6 : List Term) (x7 : Int) (x8 : Int) : roundK Tryz.prog cfg RN n 5 49 3 0 (impl_cloneAll_S3 x3 t6 x6 x7 x8) = (br (decide (x8 < x7)) (qb (idx x6 x8) fun y => qb (impl_clone_T y) fun x => br (((x3).length + [Term.mk x.op x.n x.s x.kids].length).ble appMax) (some (Ex.nrm, impl_cloneAll_S3 (x3 ++ [Term.mk x.op x.n x.s x.kids]) t6 x6 x7 (IntKind.i64.wrap (x8 + 1)))) none) (some (Ex.ext 0, impl_cloneAll_O3 x3)) : Option (Ex × St)) := by kernel_rfl

theorem spec_l1Digits_round5 (n : Nat) (x0 : Int) (x3 : Bool) (x4 : ByteArray) : roundK Tryz.prog cfg RN n 5 50 5 0 (spec_l1Digits_S5 x0 x3 x4) = (br (x0 != 0) (qb (ne0 10) fun y => br (decide (x0.tmod 10 < 0)) (qb (u8of (IntKind.u8.wrap (IntKind.i64.wrap (48 + IntKind.i64.wrap (0 - x0.tmod 10))))) fun y => qb (catOk (ByteArray.mk #[y]) x4) fun y_1 => qb (ne0 10) fun y_2 => some (Ex.nrm, spec_l1Digits_S5 (IntKind.i64.wrap (x0.tdiv 10)) x3 (ByteArray.mk #[y] ++ x4))) (qb (u8of (IntKind.u8.wrap (IntKind.i64.wrap (48 + x0.tmod 10)))) fun y => qb (catOk (ByteArray.mk #[y]) x4) fun y_1 => qb (ne0 10) fun y_2 => some (Ex.nrm, spec_l1Digits_S5 (IntKind.i64.wrap (x0.tdiv 10)) x3 (ByteArray.mk #[y] ++ x4)))) (some (Ex.ext 0, spec_l1Digits_O5 x3 x4)) : Option (Ex × St)) := by kernel_rfl

theorem spec_Before_round10 (n : Nat) (x4 : Bool) (x5 : Int) (y2 : Term) (y3 : Term) : roundK Tryz.prog cfg RN n 5 56 10 0 (spec_Before_S10 x4 x5 y2 y3) = (br (decide (x5 < (↑y2.kids.length : Int))) (qb (idx y2.kids x5) fun y => qb (idx y3.kids x5) fun y_1 => qb (spec_Same_T y y_1) fun x => br (!x) (qb (idx y2.kids x5) fun y => qb (idx y3.kids x5) fun y_2 => qb (spec_Before_T y y_2) fun x => some (Ex.ret, spec_Before_O10 x)) (some (Ex.nrm, spec_Before_S10 x4 (IntKind.i64.wrap (x5 + 1)) y2 y3))) (some (Ex.ext 1, spec_Before_O10 x4)) : Option (Ex × St)) := by kernel_rfl

theorem impl_Before_round10 (n : Nat) (x4 : Bool) (t56 : Bool) (x56 : List Term) (x57 : Int) (x58 : Int) (y3 : Term) : roundK Tryz.prog cfg RN n 5 67 10 0 (impl_Before_S10 x4 t56 x56 x57 x58 y3) = (br (decide (x58 < x57)) (qb (idx x56 x58) fun y => qb (idx y3.kids x58) fun y_1 => qb (impl_Same_T y y_1) fun x => br (!x) (qb (idx y3.kids x58) fun y_2 => qb (impl_Before_T y y_2) fun x => some (Ex.ret, impl_Before_O10 x)) (some (Ex.nrm, impl_Before_S10 x4 t56 x56 x57 (IntKind.i64.wrap (x58 + 1)) y3))) (some (Ex.ext 1, impl_Before_O10 x4)) : Option (Ex × St)) := by kernel_rfl

theorem spec_l5Labels_round3 (n : Nat) (x0 : ByteArray) (x1 : Int) (x4 : Bool) (t5 : Bool) (x5 : List ByteArray) (x6 : Int) : roundK Tryz.prog cfg RN n 5 68 3 0 (spec_l5Labels_S3 x0 x1 x4 t5 x5 x6) = (br (decide (x6 < (↑x5.length : Int))) (qb (idx x5 x6) fun y => qb (spec_l5Label_T y) fun x => br (!x) (some (Ex.ret, spec_l5Labels_O3 x0 x1 false t5 x5)) (some (Ex.nrm, spec_l5Labels_S3 x0 x1 x4 t5 x5 (IntKind.i64.wrap (x6 + 1))))) (some (Ex.ext 0, spec_l5Labels_O3 x0 x1 x4 t5 x5)) : Option (Ex × St)) := by kernel_rfl

theorem IndexFunc_formOk_1_round2 (n : Nat) (t0 : Bool) (x0 : List Term) (x4 : Int) (x7 : Int) (x8 : Int) : roundK Tryz.prog cfg RN n 5 76 2 0 (IndexFunc_formOk_1_S2 t0 x0 x4 x7 x8) = (br (decide (x8 < x7)) (qb (idx x0 x8) fun y => qb (impl_formOk_T y) fun x => br (!x) (some (Ex.ret, IndexFunc_formOk_1_O2 x8)) (some (Ex.nrm, IndexFunc_formOk_1_S2 t0 x0 x4 x7 (IntKind.i64.wrap (x8 + 1))))) (some (Ex.ext 0, IndexFunc_formOk_1_O2 x4)) : Option (Ex × St)) := by kernel_rfl

theorem spec_Labels_round4 (n : Nat) (x0 : ByteArray) (x3 : List ByteArray) (x4 : Int) (x5 : Int) : roundK Tryz.prog cfg RN n 5 77 4 0 (spec_Labels_S4 x0 x3 x4 x5) = (br (decide (x5 ≤ (↑x0.size : Int))) (br (x5 == (↑x0.size : Int)) (qb (bnds x0.size (some x4) (some x5)) fun p => br (((x3).length + [x0.extract p.fst p.snd].length).ble appMax) (some (Ex.nrm, spec_Labels_S4 x0 (x3 ++ [x0.extract p.fst p.snd]) (IntKind.i64.wrap (x5 + 1)) (IntKind.i64.wrap (x5 + 1)))) none) (qb (byteAt x0 x5) fun b => br (b == 46) (qb (bnds x0.size (some x4) (some x5)) fun p => br (((x3).length + [x0.extract p.fst p.snd].length).ble appMax) (some (Ex.nrm, spec_Labels_S4 x0 (x3 ++ [x0.extract p.fst p.snd]) (IntKind.i64.wrap (x5 + 1)) (IntKind.i64.wrap (x5 + 1)))) none) (some (Ex.nrm, spec_Labels_S4 x0 x3 x4 (IntKind.i64.wrap (x5 + 1)))))) (some (Ex.ext 0, spec_Labels_O4 x3)) : Option (Ex × St)) := by kernel_rfl

theorem spec_l5Label_round2 (n : Nat) (x0 : ByteArray) (x2 : Bool) (x3 : Int) : roundK Tryz.prog cfg RN n 5 78 2 0 (spec_l5Label_S2 x0 x2 x3) = (br (decide (x3 < (↑x0.size : Int))) (qb (byteAt x0 x3) fun b => br (decide (b ≥ 97)) (br (decide (b ≤ 122)) (some (Ex.nrm, spec_l5Label_S2 x0 x2 (IntKind.i64.wrap (x3 + 1)))) (br (decide (b ≥ 48)) (br (decide (b ≤ 57)) (some (Ex.nrm, spec_l5Label_S2 x0 x2 (IntKind.i64.wrap (x3 + 1)))) (br (b == 45) (br (decide (x3 > 0)) (br (!decide (x3 < IntKind.i64.wrap ((↑x0.size : Int) - 1))) (some (Ex.ret, spec_l5Label_O2 x0 false)) (some (Ex.nrm, spec_l5Label_S2 x0 x2 (IntKind.i64.wrap (x3 + 1))))) (some (Ex.ret, spec_l5Label_O2 x0 false))) (some (Ex.ret, spec_l5Label_O2 x0 false)))) (br (b == 45) (br (decide (x3 > 0)) (br (!decide (x3 < IntKind.i64.wrap ((↑x0.size : Int) - 1))) (some (Ex.ret, spec_l5Label_O2 x0 false)) (some (Ex.nrm, spec_l5Label_S2 x0 x2 (IntKind.i64.wrap (x3 + 1))))) (some (Ex.ret, spec_l5Label_O2 x0 false))) (some (Ex.ret, spec_l5Label_O2 x0 false))))) (br (decide (b ≥ 48)) (br (decide (b ≤ 57)) (some (Ex.nrm, spec_l5Label_S2 x0 x2 (IntKind.i64.wrap (x3 + 1)))) (br (b == 45) (br (decide (x3 > 0)) (br (!decide (x3 < IntKind.i64.wrap ((↑x0.size : Int) - 1))) (some (Ex.ret, spec_l5Label_O2 x0 false)) (some (Ex.nrm, spec_l5Label_S2 x0 x2 (IntKind.i64.wrap (x3 + 1))))) (some (Ex.ret, spec_l5Label_O2 x0 false))) (some (Ex.ret, spec_l5Label_O2 x0 false)))) (br (b == 45) (br (decide (x3 > 0)) (br (!decide (x3 < IntKind.i64.wrap ((↑x0.size : Int) - 1))) (some (Ex.ret, spec_l5Label_O2 x0 false)) (some (Ex.nrm, spec_l5Label_S2 x0 x2 (IntKind.i64.wrap (x3 + 1))))) (some (Ex.ret, spec_l5Label_O2 x0 false))) (some (Ex.ret, spec_l5Label_O2 x0 false))))) (some (Ex.ext 0, spec_l5Label_O2 x0 x2)) : Option (Ex × St)) := by kernel_rfl

theorem impl_labelOk_round2 (n : Nat) (x0 : ByteArray) (x2 : Bool) (x6 : Int) (x7 : Int) : roundK Tryz.prog cfg RN n 5 89 2 0 (impl_labelOk_S2 x0 x2 x6 x7) = (br (decide (x7 < x6)) (qb (byteAt x0 x7) fun b => br (decide (b < 97)) (br (decide (b < 48)) (br (b != 45) (some (Ex.ret, impl_labelOk_O2 x0 false)) (br (x7 == 0) (some (Ex.ret, impl_labelOk_O2 x0 false)) (br (x7 == IntKind.i64.wrap ((↑x0.size : Int) - 1)) (some (Ex.ret, impl_labelOk_O2 x0 false)) (some (Ex.nrm, impl_labelOk_S2 x0 x2 x6 (IntKind.i64.wrap (x7 + 1))))))) (br (decide (b > 57)) (br (b != 45) (some (Ex.ret, impl_labelOk_O2 x0 false)) (br (x7 == 0) (some (Ex.ret, impl_labelOk_O2 x0 false)) (br (x7 == IntKind.i64.wrap ((↑x0.size : Int) - 1)) (some (Ex.ret, impl_labelOk_O2 x0 false)) (some (Ex.nrm, impl_labelOk_S2 x0 x2 x6 (IntKind.i64.wrap (x7 + 1))))))) (some (Ex.nrm, impl_labelOk_S2 x0 x2 x6 (IntKind.i64.wrap (x7 + 1)))))) (br (decide (b > 122)) (br (decide (b < 48)) (br (b != 45) (some (Ex.ret, impl_labelOk_O2 x0 false)) (br (x7 == 0) (some (Ex.ret, impl_labelOk_O2 x0 false)) (br (x7 == IntKind.i64.wrap ((↑x0.size : Int) - 1)) (some (Ex.ret, impl_labelOk_O2 x0 false)) (some (Ex.nrm, impl_labelOk_S2 x0 x2 x6 (IntKind.i64.wrap (x7 + 1))))))) (br (decide (b > 57)) (br (b != 45) (some (Ex.ret, impl_labelOk_O2 x0 false)) (br (x7 == 0) (some (Ex.ret, impl_labelOk_O2 x0 false)) (br (x7 == IntKind.i64.wrap ((↑x0.size : Int) - 1)) (some (Ex.ret, impl_labelOk_O2 x0 false)) (some (Ex.nrm, impl_labelOk_S2 x0 x2 x6 (IntKind.i64.wrap (x7 + 1))))))) (some (Ex.nrm, impl_labelOk_S2 x0 x2 x6 (IntKind.i64.wrap (x7 + 1)))))) (some (Ex.nrm, impl_labelOk_S2 x0 x2 x6 (IntKind.i64.wrap (x7 + 1)))))) (some (Ex.ext 0, impl_labelOk_O2 x0 x2)) : Option (Ex × St)) := by kernel_rfl

theorem IndexFunc_labelsOk_1_round2 (n : Nat) (t0 : Bool) (x0 : List ByteArray) (x4 : Int) (x7 : Int) (x8 : Int) : roundK Tryz.prog cfg RN n 5 92 2 0 (IndexFunc_labelsOk_1_S2 t0 x0 x4 x7 x8) = (br (decide (x8 < x7)) (qb (idx x0 x8) fun y => qb (impl_labelOk_T y) fun x => br (!x) (some (Ex.ret, IndexFunc_labelsOk_1_O2 x8)) (some (Ex.nrm, IndexFunc_labelsOk_1_S2 t0 x0 x4 x7 (IntKind.i64.wrap (x8 + 1))))) (some (Ex.ext 0, IndexFunc_labelsOk_1_O2 x4)) : Option (Ex × St)) := by kernel_rfl


end Go.Proofs.YtepghohkfnmhmaaGreatDoor
