/-
  What each function comes to, over what the others answer, as plain data.
-/
import Derived.Test.YtepghohkfnmhmaaFlResD
namespace Go.Proofs.Ytepghohkfnmhmaa
open Go.Vm
set_option linter.unusedVariables false

noncomputable def laws_FnLetters_R (n : Nat) (a0 : List UInt8) : Option (V × List Vm.Obj × List Vm.Obj) := qb (laws_big_T a0) fun x => br x (some (V.c (C.f (F.sc (Value.bool true))), [], [])) (qb (spec_DrawLetterTry_T a0) fun x => qb (impl_LetterTry_T x.fst x.snd.fst) fun x_1 => qb (spec_LetterTry_T x.fst x.snd.fst) fun x_2 => qb (spec_DrawLetterEnd_T a0) fun x_3 => qb (impl_LetterEnd_T x_3.fst x_3.snd.fst) fun x_4 => qb (spec_DrawSpent_T a0) fun x_5 => qb (spec_DrawLetterOk_T a0) fun x_6 => br (!x_1.snd.fst == x_2.snd.fst) (some (V.c (C.f (F.sc (Value.bool false))), [], [])) (br (!(x_1.fst.domain == x_2.fst.domain && (x_1.fst.body == x_2.fst.body && (x_1.fst.state == x_2.fst.state && (x_1.fst.tries == x_2.fst.tries && (x_1.fst.next == x_2.fst.next && true)))))) (some (V.c (C.f (F.sc (Value.bool false))), [], [])) (qb (spec_LetterEnd_T x_3.fst x_3.snd.fst) fun x_7 => br (!(x_4.domain == x_7.domain && (x_4.body == x_7.body && (x_4.state == x_7.state && (x_4.tries == x_7.tries && (x_4.next == x_7.next && true)))))) (some (V.c (C.f (F.sc (Value.bool false))), [], [])) (qb (impl_Spent_T x_5.fst x_5.snd.fst) fun x_8 => qb (spec_Spent_T x_5.fst x_5.snd.fst) fun x_9 => br (!x_8 == x_9) (some (V.c (C.f (F.sc (Value.bool false))), [], [])) (qb (impl_LetterOk_T x_6) fun x_10 => qb (spec_LetterOk_T x_6) fun x_11 => br (!x_10 == x_11) (some (V.c (C.f (F.sc (Value.bool false))), [], [])) (qb (impl_LetterEnd_T x_4 !x_3.snd.fst) fun x_12 => br (!(x_12.domain == x_4.domain && (x_12.body == x_4.body && (x_12.state == x_4.state && (x_12.tries == x_4.tries && (x_12.next == x_4.next && true)))))) (some (V.c (C.f (F.sc (Value.bool false))), [], [])) (br (!x_1.snd.fst) (some (V.c (C.f (F.sc (Value.bool (x_1.fst.domain == x.fst.domain && (x_1.fst.body == x.fst.body && (x_1.fst.state == x.fst.state && (x_1.fst.tries == x.fst.tries && (x_1.fst.next == x.fst.next && true)))))))), [], [])) (qb (impl_LetterOk_T x_1.fst) fun x_13 => br x_13 (br (x_1.fst.tries == IntKind.i64.wrap (x.fst.tries + 1)) (br (decide (x_1.fst.next ≥ x.fst.next)) (br (decide (x_1.fst.next > x.snd.fst)) (some (V.c (C.f (F.sc (Value.bool (x_1.fst.state == 1)))), [], [])) (br (x.snd.fst == 100000) (some (V.c (C.f (F.sc (Value.bool (x_1.fst.state == 1)))), [], [])) (some (V.c (C.f (F.sc (Value.bool false))), [], [])))) (some (V.c (C.f (F.sc (Value.bool false))), [], []))) (some (V.c (C.f (F.sc (Value.bool false))), [], []))) (some (V.c (C.f (F.sc (Value.bool false))), [], []))))))))))

theorem laws_FnLetters_res (n : Nat) (a0 : List UInt8) : resid Try.prog cfg RN n 3 [.sl false .byte a0] [] = laws_FnLetters_R n a0 := by kernel_rfl

noncomputable def laws_big_R (n : Nat) (a0 : List UInt8) : Option Bool := some (decide ((↑a0.length : Int) > 1048576))

theorem laws_big_res (n : Nat) (a0 : List UInt8) : residT Try.prog cfg RN n 5 [.sl false .byte a0] (.bool) = laws_big_R n a0 := by kernel_rfl

theorem laws_big_of (n : Nat) (a0 : List UInt8) {y} (h : laws_big_R n a0 = some y) : laws_big_T a0 = some y := presT_of (((laws_big_res n a0)).trans h)

noncomputable def spec_DrawLetterTry_R (n : Nat) (a0 : List UInt8) : Option (Letter × Int × Unit) := qb (spec_l1New_L3 n n false a0 (IntKind.i64.wrap (22143 + (↑a0.length : Int))) 0) fun x => br (isRetE x.fst) (qb (hqT RN 24 [V.c C.hole] [] (Sh.el Kind.letter)) fun r => qb (hqT RN 25 [V.c C.hole, V.c (C.f (F.sl true Kind.int [0, r.fst.next, 500, 100000, 100001, -1]))] [] Sh.int) fun r_1 => some (r.fst, r_1.fst, PUnit.unit)) (br (isExt 0 x.fst) (qb (spec_l11Draw_H x.snd.fst.fst 0 x.snd.fst.snd.fst) fun r => qb (spec_l1PickInt_H true [0, r.fst.next, 500, 100000, 100001, -1] r.snd.fst.fst r.snd.fst.snd.fst r.snd.fst.snd.snd.fst) fun r_1 => some (r.fst, r_1.fst, PUnit.unit)) none)

theorem spec_DrawLetterTry_res (n : Nat) (a0 : List UInt8) : residT Try.prog cfg RN n 6 [.sl false .byte a0] (.tup [.el .letter, .int]) = spec_DrawLetterTry_R n a0 := by kernel_rfl

theorem spec_DrawLetterTry_of (n : Nat) (a0 : List UInt8) {y} (h : spec_DrawLetterTry_R n a0 = some y) : spec_DrawLetterTry_T a0 = some y := presT_of (((spec_DrawLetterTry_res n a0)).trans h)

noncomputable def impl_LetterTry_R (n : Nat) (a0 : Letter) (a1 : Int) : Option (Letter × Bool × Unit) := qb (impl_LetterOk_T a0) fun x => br (!x) (some (a0, false, PUnit.unit)) (br (a0.state != 1) (some (a0, false, PUnit.unit)) (qb (impl_isTime_T a1) fun x => br (!x) (some (a0, false, PUnit.unit)) (br (decide (a0.next > a1)) (some (a0, false, PUnit.unit)) (br (a0.tries == 4) (some (a0, false, PUnit.unit)) (qb (ge0 (IntKind.i64.wrap (a0.tries + 1))) fun y => some (Letter.mk a0.domain a0.body a0.state (IntKind.i64.wrap (a0.tries + 1)) (bif false then if 100000 < IntKind.i64.wrap (a1 + IntKind.i64.wrap (10 * 2 ^ min (IntKind.i64.wrap (a0.tries + 1)).toNat IntKind.i64.bits)) then IntKind.i64.wrap (a1 + IntKind.i64.wrap (10 * 2 ^ min (IntKind.i64.wrap (a0.tries + 1)).toNat IntKind.i64.bits)) else 100000 else if IntKind.i64.wrap (a1 + IntKind.i64.wrap (10 * 2 ^ min (IntKind.i64.wrap (a0.tries + 1)).toNat IntKind.i64.bits)) < 100000 then IntKind.i64.wrap (a1 + IntKind.i64.wrap (10 * 2 ^ min (IntKind.i64.wrap (a0.tries + 1)).toNat IntKind.i64.bits)) else 100000), true, PUnit.unit))))))

theorem impl_LetterTry_res (n : Nat) (a0 : Letter) (a1 : Int) : residT Try.prog cfg RN n 7 [.ag (Letter.cells a0), .int a1] (.tup [.el .letter, .bool]) = impl_LetterTry_R n a0 a1 := by kernel_rfl

theorem impl_LetterTry_of (n : Nat) (a0 : Letter) (a1 : Int) {y} (h : impl_LetterTry_R n a0 a1 = some y) : impl_LetterTry_T a0 a1 = some y := presT_of (((impl_LetterTry_res n a0 a1)).trans h)

noncomputable def spec_LetterTry_R (n : Nat) (a0 : Letter) (a1 : Int) : Option (Letter × Bool × Unit) := qb (spec_LetterOk_T a0) fun x => br (!x) (some (a0, false, PUnit.unit)) (br (a0.state != 1) (some (a0, false, PUnit.unit)) (qb (spec_l1In_T a1 a0.next 100000) fun x => br (!x) (some (a0, false, PUnit.unit)) (br (a0.tries == 4) (some (a0, false, PUnit.unit)) (qb (ge0 (IntKind.i64.wrap (a0.tries + 1))) fun y => qb (spec_l1Min_T 100000 (IntKind.i64.wrap (a1 + IntKind.i64.wrap (10 * 2 ^ min (IntKind.i64.wrap (a0.tries + 1)).toNat IntKind.i64.bits)))) fun x => some (Letter.mk a0.domain a0.body a0.state (IntKind.i64.wrap (a0.tries + 1)) x, true, PUnit.unit)))))

theorem spec_LetterTry_res (n : Nat) (a0 : Letter) (a1 : Int) : residT Try.prog cfg RN n 8 [.ag (Letter.cells a0), .int a1] (.tup [.el .letter, .bool]) = spec_LetterTry_R n a0 a1 := by kernel_rfl

theorem spec_LetterTry_of (n : Nat) (a0 : Letter) (a1 : Int) {y} (h : spec_LetterTry_R n a0 a1 = some y) : spec_LetterTry_T a0 a1 = some y := presT_of (((spec_LetterTry_res n a0 a1)).trans h)

noncomputable def spec_DrawLetterEnd_R (n : Nat) (a0 : List UInt8) : Option (Letter × Bool × Unit) := qb (spec_l1New_L3 n n false a0 (IntKind.i64.wrap (22143 + (↑a0.length : Int))) 0) fun x => br (isRetE x.fst) (qb (hqT RN 24 [V.c C.hole] [] (Sh.el Kind.letter)) fun r => qb (hqT RN 29 [V.c C.hole, V.c (C.f (F.sc (Value.int IntKind.i64 2)))] [] Sh.bool) fun r_1 => some (r.fst, r_1.fst, PUnit.unit)) (br (isExt 0 x.fst) (qb (spec_l11Draw_H x.snd.fst.fst 0 x.snd.fst.snd.fst) fun r => qb (spec_l1Once_H 2 r.snd.fst.fst r.snd.fst.snd.fst r.snd.fst.snd.snd.fst) fun r_1 => some (r.fst, r_1.fst, PUnit.unit)) none)

theorem spec_DrawLetterEnd_res (n : Nat) (a0 : List UInt8) : residT Try.prog cfg RN n 9 [.sl false .byte a0] (.tup [.el .letter, .bool]) = spec_DrawLetterEnd_R n a0 := by kernel_rfl

theorem spec_DrawLetterEnd_of (n : Nat) (a0 : List UInt8) {y} (h : spec_DrawLetterEnd_R n a0 = some y) : spec_DrawLetterEnd_T a0 = some y := presT_of (((spec_DrawLetterEnd_res n a0)).trans h)

noncomputable def impl_LetterEnd_R (n : Nat) (a0 : Letter) (a1 : Bool) : Option Letter := br (a0.state != 1) (some a0) (br a1 (some (Letter.mk a0.domain a0.body 2 a0.tries a0.next)) (some (Letter.mk a0.domain a0.body 3 a0.tries a0.next)))

theorem impl_LetterEnd_res (n : Nat) (a0 : Letter) (a1 : Bool) : residT Try.prog cfg RN n 10 [.ag (Letter.cells a0), .bool a1] (.el .letter) = impl_LetterEnd_R n a0 a1 := by kernel_rfl

theorem impl_LetterEnd_of (n : Nat) (a0 : Letter) (a1 : Bool) {y} (h : impl_LetterEnd_R n a0 a1 = some y) : impl_LetterEnd_T a0 a1 = some y := presT_of (((impl_LetterEnd_res n a0 a1)).trans h)

noncomputable def spec_DrawSpent_R (n : Nat) (a0 : List UInt8) : Option (Letter × Int × Unit) := qb (spec_DrawLetterTry_T a0) fun x => some (x.fst, x.snd.fst, PUnit.unit)

theorem spec_DrawSpent_res (n : Nat) (a0 : List UInt8) : residT Try.prog cfg RN n 11 [.sl false .byte a0] (.tup [.el .letter, .int]) = spec_DrawSpent_R n a0 := by kernel_rfl

theorem spec_DrawSpent_of (n : Nat) (a0 : List UInt8) {y} (h : spec_DrawSpent_R n a0 = some y) : spec_DrawSpent_T a0 = some y := presT_of (((spec_DrawSpent_res n a0)).trans h)

noncomputable def spec_DrawLetterOk_R (n : Nat) (a0 : List UInt8) : Option Letter := qb (spec_l1New_L3 n n false a0 (IntKind.i64.wrap (22143 + (↑a0.length : Int))) 0) fun x => br (isRetE x.fst) (qb (hqT RN 24 [V.c C.hole] [] (Sh.el Kind.letter)) fun r => some r.fst) (br (isExt 0 x.fst) (qb (spec_l11Draw_H x.snd.fst.fst 0 x.snd.fst.snd.fst) fun r => some r.fst) none)

theorem spec_DrawLetterOk_res (n : Nat) (a0 : List UInt8) : residT Try.prog cfg RN n 12 [.sl false .byte a0] (.el .letter) = spec_DrawLetterOk_R n a0 := by kernel_rfl

theorem spec_DrawLetterOk_of (n : Nat) (a0 : List UInt8) {y} (h : spec_DrawLetterOk_R n a0 = some y) : spec_DrawLetterOk_T a0 = some y := presT_of (((spec_DrawLetterOk_res n a0)).trans h)

noncomputable def spec_LetterEnd_R (n : Nat) (a0 : Letter) (a1 : Bool) : Option Letter := br (a0.state != 1) (some a0) (br a1 (some (Letter.mk a0.domain a0.body 2 a0.tries a0.next)) (some (Letter.mk a0.domain a0.body 3 a0.tries a0.next)))

theorem spec_LetterEnd_res (n : Nat) (a0 : Letter) (a1 : Bool) : residT Try.prog cfg RN n 13 [.ag (Letter.cells a0), .bool a1] (.el .letter) = spec_LetterEnd_R n a0 a1 := by kernel_rfl

theorem spec_LetterEnd_of (n : Nat) (a0 : Letter) (a1 : Bool) {y} (h : spec_LetterEnd_R n a0 a1 = some y) : spec_LetterEnd_T a0 a1 = some y := presT_of (((spec_LetterEnd_res n a0 a1)).trans h)

noncomputable def impl_Spent_R (n : Nat) (a0 : Letter) (a1 : Int) : Option Bool := br (a0.state == 1) (br (a0.tries == 4) (some (decide (a0.next ≤ a1))) (some false)) (some false)

theorem impl_Spent_res (n : Nat) (a0 : Letter) (a1 : Int) : residT Try.prog cfg RN n 14 [.ag (Letter.cells a0), .int a1] (.bool) = impl_Spent_R n a0 a1 := by kernel_rfl

theorem impl_Spent_of (n : Nat) (a0 : Letter) (a1 : Int) {y} (h : impl_Spent_R n a0 a1 = some y) : impl_Spent_T a0 a1 = some y := presT_of (((impl_Spent_res n a0 a1)).trans h)

noncomputable def spec_Spent_R (n : Nat) (a0 : Letter) (a1 : Int) : Option Bool := br (a0.state == 1) (br (a0.tries == 4) (some (decide (a0.next ≤ a1))) (some false)) (some false)

theorem spec_Spent_res (n : Nat) (a0 : Letter) (a1 : Int) : residT Try.prog cfg RN n 15 [.ag (Letter.cells a0), .int a1] (.bool) = spec_Spent_R n a0 a1 := by kernel_rfl

theorem spec_Spent_of (n : Nat) (a0 : Letter) (a1 : Int) {y} (h : spec_Spent_R n a0 a1 = some y) : spec_Spent_T a0 a1 = some y := presT_of (((spec_Spent_res n a0 a1)).trans h)

noncomputable def impl_LetterOk_R (n : Nat) (a0 : Letter) : Option Bool := qb (impl_domainOk_T a0.domain) fun x => br x (qb (impl_isAtom_T a0.body) fun x => br x (qb (impl_in_T a0.state 1 3) fun x => br x (qb (impl_in_T a0.tries 0 4) fun x => br x (qb (impl_isTime_T a0.next) fun x => some x) (some false)) (some false)) (some false)) (some false)

theorem impl_LetterOk_res (n : Nat) (a0 : Letter) : residT Try.prog cfg RN n 16 [.ag (Letter.cells a0)] (.bool) = impl_LetterOk_R n a0 := by kernel_rfl

theorem impl_LetterOk_of (n : Nat) (a0 : Letter) {y} (h : impl_LetterOk_R n a0 = some y) : impl_LetterOk_T a0 = some y := presT_of (((impl_LetterOk_res n a0)).trans h)

noncomputable def spec_LetterOk_R (n : Nat) (a0 : Letter) : Option Bool := qb (spec_l6Domain_T a0.domain) fun x => br x (qb (spec_l1In_T a0.body 0 1000000) fun x => br x (qb (spec_l1In_T a0.state 1 3) fun x => br x (qb (spec_l1In_T a0.tries 0 4) fun x => br x (qb (spec_l1In_T a0.next 0 100000) fun x => some x) (some false)) (some false)) (some false)) (some false)

theorem spec_LetterOk_res (n : Nat) (a0 : Letter) : residT Try.prog cfg RN n 17 [.ag (Letter.cells a0)] (.bool) = spec_LetterOk_R n a0 := by kernel_rfl

theorem spec_LetterOk_of (n : Nat) (a0 : Letter) {y} (h : spec_LetterOk_R n a0 = some y) : spec_LetterOk_T a0 = some y := presT_of (((spec_LetterOk_res n a0)).trans h)

noncomputable def spec_l11Draw_R (n : Nat) (a0_b : List UInt8) (a0_i : Int) (a0_h : Int) : Option ((Letter) × (List UInt8 × Int × Int × Unit) × Unit) := qb (spec_l11DrawRight_H a0_b a0_i a0_h) fun r => qb (spec_l1Below_H 12 r.snd.fst.fst r.snd.fst.snd.fst r.snd.fst.snd.snd.fst) fun r_1 => br (r_1.fst == 0) (qb (spec_l1Below_H 5 r_1.snd.fst.fst r_1.snd.fst.snd.fst r_1.snd.fst.snd.snd.fst) fun r_2 => some (Letter.mk r.fst.domain r.fst.body r_2.fst r.fst.tries r.fst.next, (r_2.snd.fst.fst, r_2.snd.fst.snd.fst, r_2.snd.fst.snd.snd.fst, PUnit.unit), PUnit.unit)) (br (r_1.fst == 1) (qb (spec_l1PickInt_H true [-1, 4, 5] r_1.snd.fst.fst r_1.snd.fst.snd.fst r_1.snd.fst.snd.snd.fst) fun r_2 => some (Letter.mk r.fst.domain r.fst.body r.fst.state r_2.fst r.fst.next, (r_2.snd.fst.fst, r_2.snd.fst.snd.fst, r_2.snd.fst.snd.snd.fst, PUnit.unit), PUnit.unit)) (br (r_1.fst == 2) (qb (spec_l1PickInt_H true [-1, 100000, 100001] r_1.snd.fst.fst r_1.snd.fst.snd.fst r_1.snd.fst.snd.snd.fst) fun r_2 => some (Letter.mk r.fst.domain r.fst.body r.fst.state r.fst.tries r_2.fst, (r_2.snd.fst.fst, r_2.snd.fst.snd.fst, r_2.snd.fst.snd.snd.fst, PUnit.unit), PUnit.unit)) (some (r.fst, (r_1.snd.fst.fst, r_1.snd.fst.snd.fst, r_1.snd.fst.snd.snd.fst, PUnit.unit), PUnit.unit))))

theorem spec_l11Draw_res (n : Nat) (a0_b : List UInt8) (a0_i : Int) (a0_h : Int) : residH Try.prog cfg RN n 24 [.c (.bx (.arg 0) 0)] [.box [.f (.sl false .byte a0_b), .f (.int a0_i), .f (.int a0_h)]] (.el .letter) = spec_l11Draw_R n a0_b a0_i a0_h := by kernel_rfl

theorem spec_l11Draw_of (n : Nat) (a0_b : List UInt8) (a0_i : Int) (a0_h : Int) {y} (h : spec_l11Draw_R n a0_b a0_i a0_h = some y) : spec_l11Draw_H a0_b a0_i a0_h = some y := hqT_of (((spec_l11Draw_res n a0_b a0_i a0_h)).trans h)

noncomputable def spec_l1PickInt_R (n : Nat) (t_a1 : Bool) (a1 : List Int) (a0_b : List UInt8) (a0_i : Int) (a0_h : Int) : Option ((Int) × (List UInt8 × Int × Int × Unit) × Unit) := qb (spec_l1Below_H (↑a1.length : Int) a0_b a0_i a0_h) fun r => qb (idx a1 r.fst) fun y => some (y, (r.snd.fst.fst, r.snd.fst.snd.fst, r.snd.fst.snd.snd.fst, PUnit.unit), PUnit.unit)

theorem spec_l1PickInt_res (n : Nat) (t_a1 : Bool) (a1 : List Int) (a0_b : List UInt8) (a0_i : Int) (a0_h : Int) : residH Try.prog cfg RN n 25 [.c (.bx (.arg 0) 0), .sl t_a1 .int a1] [.box [.f (.sl false .byte a0_b), .f (.int a0_i), .f (.int a0_h)]] (.int) = spec_l1PickInt_R n t_a1 a1 a0_b a0_i a0_h := by kernel_rfl

theorem spec_l1PickInt_of (n : Nat) (t_a1 : Bool) (a1 : List Int) (a0_b : List UInt8) (a0_i : Int) (a0_h : Int) {y} (h : spec_l1PickInt_R n t_a1 a1 a0_b a0_i a0_h = some y) : spec_l1PickInt_H t_a1 a1 a0_b a0_i a0_h = some y := hqT_of (((spec_l1PickInt_res n t_a1 a1 a0_b a0_i a0_h)).trans h)

noncomputable def impl_isTime_R (n : Nat) (a0 : Int) : Option Bool := qb (impl_in_T a0 0 100000) fun x => some x

theorem impl_isTime_res (n : Nat) (a0 : Int) : residT Try.prog cfg RN n 26 [.int a0] (.bool) = impl_isTime_R n a0 := by kernel_rfl

theorem impl_isTime_of (n : Nat) (a0 : Int) {y} (h : impl_isTime_R n a0 = some y) : impl_isTime_T a0 = some y := presT_of (((impl_isTime_res n a0)).trans h)

noncomputable def spec_l1In_R (n : Nat) (a0 : Int) (a1 : Int) (a2 : Int) : Option Bool := br (decide (a0 ≥ a1)) (some (decide (a0 ≤ a2))) (some false)

theorem spec_l1In_res (n : Nat) (a0 : Int) (a1 : Int) (a2 : Int) : residT Try.prog cfg RN n 27 [.int a0, .int a1, .int a2] (.bool) = spec_l1In_R n a0 a1 a2 := by kernel_rfl

theorem spec_l1In_of (n : Nat) (a0 : Int) (a1 : Int) (a2 : Int) {y} (h : spec_l1In_R n a0 a1 a2 = some y) : spec_l1In_T a0 a1 a2 = some y := presT_of (((spec_l1In_res n a0 a1 a2)).trans h)

noncomputable def spec_l1Min_R (n : Nat) (a0 : Int) (a1 : Int) : Option Int := br (decide (a0 < a1)) (some a0) (some a1)

theorem spec_l1Min_res (n : Nat) (a0 : Int) (a1 : Int) : residT Try.prog cfg RN n 28 [.int a0, .int a1] (.int) = spec_l1Min_R n a0 a1 := by kernel_rfl

theorem spec_l1Min_of (n : Nat) (a0 : Int) (a1 : Int) {y} (h : spec_l1Min_R n a0 a1 = some y) : spec_l1Min_T a0 a1 = some y := presT_of (((spec_l1Min_res n a0 a1)).trans h)

noncomputable def spec_l1Once_R (n : Nat) (a1 : Int) (a0_b : List UInt8) (a0_i : Int) (a0_h : Int) : Option ((Bool) × (List UInt8 × Int × Int × Unit) × Unit) := qb (spec_l1Below_H a1 a0_b a0_i a0_h) fun r => some (r.fst == 0, (r.snd.fst.fst, r.snd.fst.snd.fst, r.snd.fst.snd.snd.fst, PUnit.unit), PUnit.unit)

theorem spec_l1Once_res (n : Nat) (a1 : Int) (a0_b : List UInt8) (a0_i : Int) (a0_h : Int) : residH Try.prog cfg RN n 29 [.c (.bx (.arg 0) 0), .int a1] [.box [.f (.sl false .byte a0_b), .f (.int a0_i), .f (.int a0_h)]] (.bool) = spec_l1Once_R n a1 a0_b a0_i a0_h := by kernel_rfl

theorem spec_l1Once_of (n : Nat) (a1 : Int) (a0_b : List UInt8) (a0_i : Int) (a0_h : Int) {y} (h : spec_l1Once_R n a1 a0_b a0_i a0_h = some y) : spec_l1Once_H a1 a0_b a0_i a0_h = some y := hqT_of (((spec_l1Once_res n a1 a0_b a0_i a0_h)).trans h)

noncomputable def impl_domainOk_R (n : Nat) (a0 : ByteArray) : Option Bool := qb (impl_domainOk_L2 n n a0 false (↑a0.size : Int) 0) fun x => br (isRetE x.fst) (some x.snd.fst.snd.fst) (br (isExt 0 x.fst) (qb (impl_in_T (↑x.snd.fst.fst.size : Int) 1 10) fun x => some x) none)

theorem impl_domainOk_res (n : Nat) (a0 : ByteArray) : residT Try.prog cfg RN n 30 [.str a0] (.bool) = impl_domainOk_R n a0 := by kernel_rfl

theorem impl_domainOk_of (n : Nat) (a0 : ByteArray) {y} (h : impl_domainOk_R n a0 = some y) : impl_domainOk_T a0 = some y := presT_of (((impl_domainOk_res n a0)).trans h)

noncomputable def impl_isAtom_R (n : Nat) (a0 : Int) : Option Bool := qb (impl_in_T a0 0 1000000) fun x => some x

theorem impl_isAtom_res (n : Nat) (a0 : Int) : residT Try.prog cfg RN n 31 [.int a0] (.bool) = impl_isAtom_R n a0 := by kernel_rfl

theorem impl_isAtom_of (n : Nat) (a0 : Int) {y} (h : impl_isAtom_R n a0 = some y) : impl_isAtom_T a0 = some y := presT_of (((impl_isAtom_res n a0)).trans h)

noncomputable def impl_in_R (n : Nat) (a0 : Int) (a1 : Int) (a2 : Int) : Option Bool := br (decide (a0 ≥ a1)) (some (decide (a0 ≤ a2))) (some false)

theorem impl_in_res (n : Nat) (a0 : Int) (a1 : Int) (a2 : Int) : residT Try.prog cfg RN n 32 [.int a0, .int a1, .int a2] (.bool) = impl_in_R n a0 a1 a2 := by kernel_rfl

theorem impl_in_of (n : Nat) (a0 : Int) (a1 : Int) (a2 : Int) {y} (h : impl_in_R n a0 a1 a2 = some y) : impl_in_T a0 a1 a2 = some y := presT_of (((impl_in_res n a0 a1 a2)).trans h)

noncomputable def spec_l6Domain_R (n : Nat) (a0 : ByteArray) : Option Bool := qb (spec_l6Domain_L2 n n a0 false 0) fun x => br (isRetE x.fst) (some x.snd.fst.snd.fst) (br (isExt 0 x.fst) (qb (spec_l1In_T (↑x.snd.fst.fst.size : Int) 1 10) fun x => some x) none)

theorem spec_l6Domain_res (n : Nat) (a0 : ByteArray) : residT Try.prog cfg RN n 33 [.str a0] (.bool) = spec_l6Domain_R n a0 := by kernel_rfl

theorem spec_l6Domain_of (n : Nat) (a0 : ByteArray) {y} (h : spec_l6Domain_R n a0 = some y) : spec_l6Domain_T a0 = some y := presT_of (((spec_l6Domain_res n a0)).trans h)

noncomputable def spec_l11DrawRight_R (n : Nat) (a0_b : List UInt8) (a0_i : Int) (a0_h : Int) : Option ((Letter) × (List UInt8 × Int × Int × Unit) × Unit) := qb (spec_l6DrawDomain_H a0_b a0_i a0_h) fun r => qb (spec_l1Below_H 3 r.snd.fst.fst r.snd.fst.snd.fst r.snd.fst.snd.snd.fst) fun r_1 => qb (spec_l11DrawRight_L3 n n 0 r_1.snd.fst.fst r_1.snd.fst.snd.fst r_1.snd.fst.snd.snd.fst (Letter.mk (ByteArray.mk #[]) 0 0 0 0) (Letter.mk r.fst (IntKind.i64.wrap (30 + r_1.fst)) 1 0 0)) fun x => br (isRetE x.fst) (some (x.snd.snd.snd.fst, (x.snd.snd.fst.fst, x.snd.snd.fst.snd.fst, x.snd.snd.fst.snd.snd.fst, PUnit.unit), PUnit.unit)) (br (isExt 0 x.fst) (qb (spec_l1Once_H 4 x.snd.snd.fst.fst x.snd.snd.fst.snd.fst x.snd.snd.fst.snd.snd.fst) fun r => br r.fst (qb (spec_l1Once_H 2 r.snd.fst.fst r.snd.fst.snd.fst r.snd.fst.snd.snd.fst) fun r => qb (spec_LetterEnd_T x.snd.snd.snd.snd.fst r.fst) fun x => some (x, (r.snd.fst.fst, r.snd.fst.snd.fst, r.snd.fst.snd.snd.fst, PUnit.unit), PUnit.unit)) (some (x.snd.snd.snd.snd.fst, (r.snd.fst.fst, r.snd.fst.snd.fst, r.snd.fst.snd.snd.fst, PUnit.unit), PUnit.unit))) none)

theorem spec_l11DrawRight_res (n : Nat) (a0_b : List UInt8) (a0_i : Int) (a0_h : Int) : residH Try.prog cfg RN n 57 [.c (.bx (.arg 0) 0)] [.box [.f (.sl false .byte a0_b), .f (.int a0_i), .f (.int a0_h)]] (.el .letter) = spec_l11DrawRight_R n a0_b a0_i a0_h := by kernel_rfl

theorem spec_l11DrawRight_of (n : Nat) (a0_b : List UInt8) (a0_i : Int) (a0_h : Int) {y} (h : spec_l11DrawRight_R n a0_b a0_i a0_h = some y) : spec_l11DrawRight_H a0_b a0_i a0_h = some y := hqT_of (((spec_l11DrawRight_res n a0_b a0_i a0_h)).trans h)

noncomputable def spec_l1Below_R (n : Nat) (a1 : Int) (a0_b : List UInt8) (a0_i : Int) (a0_h : Int) : Option ((Int) × (List UInt8 × Int × Int × Unit) × Unit) := br (decide (a1 ≤ 0)) (some (0, (a0_b, a0_i, a0_h, PUnit.unit), PUnit.unit)) (br (decide (a1 ≤ 256)) (qb (spec_l1Byte_H a0_b a0_i a0_h) fun r => qb (ne0 a1) fun y => some (r.fst.tmod a1, (r.snd.fst.fst, r.snd.fst.snd.fst, r.snd.fst.snd.snd.fst, PUnit.unit), PUnit.unit)) (qb (spec_l1Byte_H a0_b a0_i a0_h) fun r => qb (spec_l1Byte_H r.snd.fst.fst r.snd.fst.snd.fst r.snd.fst.snd.snd.fst) fun r_1 => qb (spec_l1Byte_H r_1.snd.fst.fst r_1.snd.fst.snd.fst r_1.snd.fst.snd.snd.fst) fun r_2 => qb (spec_l1Byte_H r_2.snd.fst.fst r_2.snd.fst.snd.fst r_2.snd.fst.snd.snd.fst) fun r_3 => qb (ne0 a1) fun y => some ((IntKind.i64.wrap (IntKind.i64.wrap (IntKind.i64.wrap (IntKind.i64.wrap (r.fst * 16777216) + IntKind.i64.wrap (r_1.fst * 65536)) + IntKind.i64.wrap (r_2.fst * 256)) + r_3.fst)).tmod a1, (r_3.snd.fst.fst, r_3.snd.fst.snd.fst, r_3.snd.fst.snd.snd.fst, PUnit.unit), PUnit.unit)))

theorem spec_l1Below_res (n : Nat) (a1 : Int) (a0_b : List UInt8) (a0_i : Int) (a0_h : Int) : residH Try.prog cfg RN n 58 [.c (.bx (.arg 0) 0), .int a1] [.box [.f (.sl false .byte a0_b), .f (.int a0_i), .f (.int a0_h)]] (.int) = spec_l1Below_R n a1 a0_b a0_i a0_h := by kernel_rfl

theorem spec_l1Below_of (n : Nat) (a1 : Int) (a0_b : List UInt8) (a0_i : Int) (a0_h : Int) {y} (h : spec_l1Below_R n a1 a0_b a0_i a0_h = some y) : spec_l1Below_H a1 a0_b a0_i a0_h = some y := hqT_of (((spec_l1Below_res n a1 a0_b a0_i a0_h)).trans h)

noncomputable def spec_l6DrawDomain_R (n : Nat) (a0_b : List UInt8) (a0_i : Int) (a0_h : Int) : Option ((ByteArray) × (List UInt8 × Int × Int × Unit) × Unit) := qb (spec_l1Pick_H true [ByteArray.mk #[97], ByteArray.mk #[98], ByteArray.mk #[101]] a0_b a0_i a0_h) fun r => some (r.fst, (r.snd.fst.fst, r.snd.fst.snd.fst, r.snd.fst.snd.snd.fst, PUnit.unit), PUnit.unit)

theorem spec_l6DrawDomain_res (n : Nat) (a0_b : List UInt8) (a0_i : Int) (a0_h : Int) : residH Try.prog cfg RN n 77 [.c (.bx (.arg 0) 0)] [.box [.f (.sl false .byte a0_b), .f (.int a0_i), .f (.int a0_h)]] (.str) = spec_l6DrawDomain_R n a0_b a0_i a0_h := by kernel_rfl

theorem spec_l6DrawDomain_of (n : Nat) (a0_b : List UInt8) (a0_i : Int) (a0_h : Int) {y} (h : spec_l6DrawDomain_R n a0_b a0_i a0_h = some y) : spec_l6DrawDomain_H a0_b a0_i a0_h = some y := hqT_of (((spec_l6DrawDomain_res n a0_b a0_i a0_h)).trans h)

noncomputable def spec_l1Byte_R (n : Nat) (a0_b : List UInt8) (a0_i : Int) (a0_h : Int) : Option ((Int) × (List UInt8 × Int × Int × Unit) × Unit) := qb (ge0 33) fun y => qb (ge0 45) fun y => br (decide (a0_i < (↑a0_b.length : Int))) (qb (idx a0_b a0_i) fun y => some (IntKind.i64.wrap (↑(BitVec.ofInt IntKind.i64.bits (IntKind.i64.wrap (IntKind.i64.wrap (↑(BitVec.ofInt IntKind.i64.bits (IntKind.i64.wrap (↑(BitVec.ofInt IntKind.i64.bits ((IntKind.i64.wrap (IntKind.i64.wrap (a0_h * 6364136223846793005) + 1442695040888963407)).fdiv (2 ^ min (Int.toNat 33) IntKind.i64.bits)) ^^^ BitVec.ofInt IntKind.i64.bits ((IntKind.i64.wrap (IntKind.i64.wrap (a0_h * 6364136223846793005) + 1442695040888963407)).fdiv (2 ^ min (Int.toNat 45) IntKind.i64.bits))).toNat : Int)) &&& BitVec.ofInt IntKind.i64.bits 255).toNat : Int) + IntKind.i64.wrap (↑y.toNat : Int))) &&& BitVec.ofInt IntKind.i64.bits 255).toNat : Int), (a0_b, IntKind.i64.wrap (a0_i + 1), IntKind.i64.wrap (IntKind.i64.wrap (a0_h * 6364136223846793005) + 1442695040888963407), PUnit.unit), PUnit.unit)) (some (IntKind.i64.wrap (↑(BitVec.ofInt IntKind.i64.bits (IntKind.i64.wrap (↑(BitVec.ofInt IntKind.i64.bits ((IntKind.i64.wrap (IntKind.i64.wrap (a0_h * 6364136223846793005) + 1442695040888963407)).fdiv (2 ^ min (Int.toNat 33) IntKind.i64.bits)) ^^^ BitVec.ofInt IntKind.i64.bits ((IntKind.i64.wrap (IntKind.i64.wrap (a0_h * 6364136223846793005) + 1442695040888963407)).fdiv (2 ^ min (Int.toNat 45) IntKind.i64.bits))).toNat : Int)) &&& BitVec.ofInt IntKind.i64.bits 255).toNat : Int), (a0_b, a0_i, IntKind.i64.wrap (IntKind.i64.wrap (a0_h * 6364136223846793005) + 1442695040888963407), PUnit.unit), PUnit.unit))

theorem spec_l1Byte_res (n : Nat) (a0_b : List UInt8) (a0_i : Int) (a0_h : Int) : residH Try.prog cfg RN n 78 [.c (.bx (.arg 0) 0)] [.box [.f (.sl false .byte a0_b), .f (.int a0_i), .f (.int a0_h)]] (.int) = spec_l1Byte_R n a0_b a0_i a0_h := by kernel_rfl

theorem spec_l1Byte_of (n : Nat) (a0_b : List UInt8) (a0_i : Int) (a0_h : Int) {y} (h : spec_l1Byte_R n a0_b a0_i a0_h = some y) : spec_l1Byte_H a0_b a0_i a0_h = some y := hqT_of (((spec_l1Byte_res n a0_b a0_i a0_h)).trans h)

noncomputable def spec_l1Pick_R (n : Nat) (t_a1 : Bool) (a1 : List ByteArray) (a0_b : List UInt8) (a0_i : Int) (a0_h : Int) : Option ((ByteArray) × (List UInt8 × Int × Int × Unit) × Unit) := qb (spec_l1Below_H (↑a1.length : Int) a0_b a0_i a0_h) fun r => qb (idx a1 r.fst) fun y => some (y, (r.snd.fst.fst, r.snd.fst.snd.fst, r.snd.fst.snd.snd.fst, PUnit.unit), PUnit.unit)

theorem spec_l1Pick_res (n : Nat) (t_a1 : Bool) (a1 : List ByteArray) (a0_b : List UInt8) (a0_i : Int) (a0_h : Int) : residH Try.prog cfg RN n 88 [.c (.bx (.arg 0) 0), .sl t_a1 .str a1] [.box [.f (.sl false .byte a0_b), .f (.int a0_i), .f (.int a0_h)]] (.str) = spec_l1Pick_R n t_a1 a1 a0_b a0_i a0_h := by kernel_rfl

theorem spec_l1Pick_of (n : Nat) (t_a1 : Bool) (a1 : List ByteArray) (a0_b : List UInt8) (a0_i : Int) (a0_h : Int) {y} (h : spec_l1Pick_R n t_a1 a1 a0_b a0_i a0_h = some y) : spec_l1Pick_H t_a1 a1 a0_b a0_i a0_h = some y := hqT_of (((spec_l1Pick_res n t_a1 a1 a0_b a0_i a0_h)).trans h)

theorem spec_l1New_round3 (n : Nat) (t0 : Bool) (x0 : List UInt8) (x3 : Int) (x4 : Int) : roundK Try.prog cfg RN n 4 23 3 0 (spec_l1New_S3 t0 x0 x3 x4) = (br (decide (x4 < (↑x0.length : Int))) (br (decide (x4 < 4000)) (qb (idx x0 x4) fun y => some (Ex.nrm, spec_l1New_S3 t0 x0 (IntKind.i64.wrap (↑(BitVec.ofInt IntKind.i64.bits (IntKind.i64.wrap (IntKind.i64.wrap (IntKind.i64.wrap (x3 * 131) + IntKind.i64.wrap (↑y.toNat : Int)) + 7)) &&& BitVec.ofInt IntKind.i64.bits 1073741823).toNat : Int)) (IntKind.i64.wrap (x4 + 1)))) (some (Ex.ext 0, spec_l1New_O3 t0 x0 x3))) (some (Ex.ext 0, spec_l1New_O3 t0 x0 x3)) : Option (Ex × St)) := by kernel_rfl

theorem impl_domainOk_round2 (n : Nat) (x0 : ByteArray) (x2 : Bool) (x5 : Int) (x6 : Int) : roundK Try.prog cfg RN n 5 30 2 0 (impl_domainOk_S2 x0 x2 x5 x6) = (br (decide (x6 < x5)) (qb (byteAt x0 x6) fun b => br (decide (b < 97)) (some (Ex.ret, impl_domainOk_O2 x0 false)) (qb (byteAt x0 x6) fun b => br (decide (b > 122)) (some (Ex.ret, impl_domainOk_O2 x0 false)) (some (Ex.nrm, impl_domainOk_S2 x0 x2 x5 (IntKind.i64.wrap (x6 + 1)))))) (some (Ex.ext 0, impl_domainOk_O2 x0 x2)) : Option (Ex × St)) := by kernel_rfl

theorem spec_l6Domain_round2 (n : Nat) (x0 : ByteArray) (x2 : Bool) (x3 : Int) : roundK Try.prog cfg RN n 5 33 2 0 (spec_l6Domain_S2 x0 x2 x3) = (br (decide (x3 < (↑x0.size : Int))) (qb (byteAt x0 x3) fun b => br (decide (b < 97)) (some (Ex.ret, spec_l6Domain_O2 x0 false)) (qb (byteAt x0 x3) fun b => br (decide (b > 122)) (some (Ex.ret, spec_l6Domain_O2 x0 false)) (some (Ex.nrm, spec_l6Domain_S2 x0 x2 (IntKind.i64.wrap (x3 + 1)))))) (some (Ex.ext 0, spec_l6Domain_O2 x0 x2)) : Option (Ex × St)) := by kernel_rfl

theorem spec_l11DrawRight_round3 (n : Nat) (x4 : Int) (z0_b : List UInt8) (z0_i : Int) (z0_h : Int) (y2 : Letter) (y3 : Letter) : roundK Try.prog cfg RN n 5 57 3 1 (spec_l11DrawRight_S3 x4 z0_b z0_i z0_h y2 y3) = (qb (spec_l1Below_H 6 z0_b z0_i z0_h) fun r => br (decide (x4 < r.fst)) (qb (spec_l1Below_H 2 r.snd.fst.fst r.snd.fst.snd.fst r.snd.fst.snd.snd.fst) fun r => qb (spec_LetterTry_T y3 (IntKind.i64.wrap (y3.next + r.fst))) fun x => some (Ex.nrm, spec_l11DrawRight_S3 (IntKind.i64.wrap (x4 + 1)) r.snd.fst.fst r.snd.fst.snd.fst r.snd.fst.snd.snd.fst y2 x.fst)) (some (Ex.ext 0, spec_l11DrawRight_O3 r.snd.fst.fst r.snd.fst.snd.fst r.snd.fst.snd.snd.fst y2 y3)) : Option (Ex × St)) := by kernel_rfl


end Go.Proofs.Ytepghohkfnmhmaa
