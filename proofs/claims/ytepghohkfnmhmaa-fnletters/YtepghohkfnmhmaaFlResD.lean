/-
  What calls and loops answer, as plain data.
-/
import Derived.Test.YtepghohkfnmhmaaFlCfg
namespace Go.Proofs.Ytepghohkfnmhmaa
open Go.Vm
set_option linter.unusedVariables false

noncomputable def laws_big_T (a0 : List UInt8) : Option Bool := presT RN 5 [.sl false .byte a0] (.bool)

noncomputable def spec_DrawLetterTry_T (a0 : List UInt8) : Option (Letter × Int × Unit) := presT RN 6 [.sl false .byte a0] (.tup [.el .letter, .int])

noncomputable def impl_LetterTry_T (a0 : Letter) (a1 : Int) : Option (Letter × Bool × Unit) := presT RN 7 [.ag (Letter.cells a0), .int a1] (.tup [.el .letter, .bool])

noncomputable def spec_LetterTry_T (a0 : Letter) (a1 : Int) : Option (Letter × Bool × Unit) := presT RN 8 [.ag (Letter.cells a0), .int a1] (.tup [.el .letter, .bool])

noncomputable def spec_DrawLetterEnd_T (a0 : List UInt8) : Option (Letter × Bool × Unit) := presT RN 9 [.sl false .byte a0] (.tup [.el .letter, .bool])

noncomputable def impl_LetterEnd_T (a0 : Letter) (a1 : Bool) : Option Letter := presT RN 10 [.ag (Letter.cells a0), .bool a1] (.el .letter)

noncomputable def spec_DrawSpent_T (a0 : List UInt8) : Option (Letter × Int × Unit) := presT RN 11 [.sl false .byte a0] (.tup [.el .letter, .int])

noncomputable def spec_DrawLetterOk_T (a0 : List UInt8) : Option Letter := presT RN 12 [.sl false .byte a0] (.el .letter)

noncomputable def spec_LetterEnd_T (a0 : Letter) (a1 : Bool) : Option Letter := presT RN 13 [.ag (Letter.cells a0), .bool a1] (.el .letter)

noncomputable def impl_Spent_T (a0 : Letter) (a1 : Int) : Option Bool := presT RN 14 [.ag (Letter.cells a0), .int a1] (.bool)

noncomputable def spec_Spent_T (a0 : Letter) (a1 : Int) : Option Bool := presT RN 15 [.ag (Letter.cells a0), .int a1] (.bool)

noncomputable def impl_LetterOk_T (a0 : Letter) : Option Bool := presT RN 16 [.ag (Letter.cells a0)] (.bool)

noncomputable def spec_LetterOk_T (a0 : Letter) : Option Bool := presT RN 17 [.ag (Letter.cells a0)] (.bool)

noncomputable def impl_isTime_T (a0 : Int) : Option Bool := presT RN 26 [.int a0] (.bool)

noncomputable def spec_l1In_T (a0 : Int) (a1 : Int) (a2 : Int) : Option Bool := presT RN 27 [.int a0, .int a1, .int a2] (.bool)

noncomputable def spec_l1Min_T (a0 : Int) (a1 : Int) : Option Int := presT RN 28 [.int a0, .int a1] (.int)

noncomputable def impl_domainOk_T (a0 : ByteArray) : Option Bool := presT RN 30 [.str a0] (.bool)

noncomputable def impl_isAtom_T (a0 : Int) : Option Bool := presT RN 31 [.int a0] (.bool)

noncomputable def impl_in_T (a0 : Int) (a1 : Int) (a2 : Int) : Option Bool := presT RN 32 [.int a0, .int a1, .int a2] (.bool)

noncomputable def spec_l6Domain_T (a0 : ByteArray) : Option Bool := presT RN 33 [.str a0] (.bool)

noncomputable def spec_l11Draw_H (a0_b : List UInt8) (a0_i : Int) (a0_h : Int) : Option ((Letter) × (List UInt8 × Int × Int × Unit) × Unit) := hqT RN 24 [.c (.bx (.arg 0) 0)] [.box [.f (.sl false .byte a0_b), .f (.int a0_i), .f (.int a0_h)]] (.el .letter)

noncomputable def spec_l1PickInt_H (t_a1 : Bool) (a1 : List Int) (a0_b : List UInt8) (a0_i : Int) (a0_h : Int) : Option ((Int) × (List UInt8 × Int × Int × Unit) × Unit) := hqT RN 25 [.c (.bx (.arg 0) 0), .sl t_a1 .int a1] [.box [.f (.sl false .byte a0_b), .f (.int a0_i), .f (.int a0_h)]] (.int)

noncomputable def spec_l1Once_H (a1 : Int) (a0_b : List UInt8) (a0_i : Int) (a0_h : Int) : Option ((Bool) × (List UInt8 × Int × Int × Unit) × Unit) := hqT RN 29 [.c (.bx (.arg 0) 0), .int a1] [.box [.f (.sl false .byte a0_b), .f (.int a0_i), .f (.int a0_h)]] (.bool)

noncomputable def spec_l11DrawRight_H (a0_b : List UInt8) (a0_i : Int) (a0_h : Int) : Option ((Letter) × (List UInt8 × Int × Int × Unit) × Unit) := hqT RN 57 [.c (.bx (.arg 0) 0)] [.box [.f (.sl false .byte a0_b), .f (.int a0_i), .f (.int a0_h)]] (.el .letter)

noncomputable def spec_l1Below_H (a1 : Int) (a0_b : List UInt8) (a0_i : Int) (a0_h : Int) : Option ((Int) × (List UInt8 × Int × Int × Unit) × Unit) := hqT RN 58 [.c (.bx (.arg 0) 0), .int a1] [.box [.f (.sl false .byte a0_b), .f (.int a0_i), .f (.int a0_h)]] (.int)

noncomputable def spec_l6DrawDomain_H (a0_b : List UInt8) (a0_i : Int) (a0_h : Int) : Option ((ByteArray) × (List UInt8 × Int × Int × Unit) × Unit) := hqT RN 77 [.c (.bx (.arg 0) 0)] [.box [.f (.sl false .byte a0_b), .f (.int a0_i), .f (.int a0_h)]] (.str)

noncomputable def spec_l1Byte_H (a0_b : List UInt8) (a0_i : Int) (a0_h : Int) : Option ((Int) × (List UInt8 × Int × Int × Unit) × Unit) := hqT RN 78 [.c (.bx (.arg 0) 0)] [.box [.f (.sl false .byte a0_b), .f (.int a0_i), .f (.int a0_h)]] (.int)

noncomputable def spec_l1Pick_H (t_a1 : Bool) (a1 : List ByteArray) (a0_b : List UInt8) (a0_i : Int) (a0_h : Int) : Option ((ByteArray) × (List UInt8 × Int × Int × Unit) × Unit) := hqT RN 88 [.c (.bx (.arg 0) 0), .sl t_a1 .str a1] [.box [.f (.sl false .byte a0_b), .f (.int a0_i), .f (.int a0_h)]] (.str)

@[reducible] def spec_l1New_S3 (t0 : Bool) (x0 : List UInt8) (x3 : Int) (x4 : Int) : St := ⟨frOf [(0, .sl t0 .byte x0), (3, .int x3), (4, .int x4)], hpIds []⟩

@[reducible] def spec_l1New_O3 (t0 : Bool) (x0 : List UInt8) (x3 : Int) : St := ⟨frOf [(0, .sl t0 .byte x0), (3, .int x3)], hpIds []⟩

noncomputable def spec_l1New_L3 (n q : Nat) (t0 : Bool) (x0 : List UInt8) (x3 : Int) (x4 : Int) : Option (Ex × (List UInt8 × Int × Unit) × Unit) := lpT Try.prog cfg RN n 4 23 3 0 q (spec_l1New_S3 t0 x0 x3 x4)

theorem spec_l1New_L3_of {n q : Nat} {t0 : Bool} {x0 : List UInt8} {x3 : Int} {x4 : Int} {e : Ex} {t0O : Bool} {x0O : List UInt8} {x3O : Int} (h : lp Try.prog cfg RN n 4 23 3 0 q (spec_l1New_S3 t0 x0 x3 x4) = some (e, spec_l1New_O3 t0O x0O x3O)) : spec_l1New_L3 n q t0 x0 x3 x4 = some (e, (x0O, x3O, ()), ()) := by
  unfold spec_l1New_L3 lpT
  rw [h]
  kernel_rfl

theorem spec_l1New_L3_if {n q : Nat} {t0 : Bool} {x0 : List UInt8} {x3 : Int} {x4 : Int} {c : Prop} [Decidable c] {e e' : Ex} {t0O : Bool} {x0O : List UInt8} {x3O : Int} {t0P : Bool} {x0P : List UInt8} {x3P : Int} (h : lp Try.prog cfg RN n 4 23 3 0 q (spec_l1New_S3 t0 x0 x3 x4) = some (if c then (e, spec_l1New_O3 t0O x0O x3O) else (e', spec_l1New_O3 t0P x0P x3P))) : spec_l1New_L3 n q t0 x0 x3 x4 = some (if c then (e, (x0O, x3O, ()), ()) else (e', (x0P, x3P, ()), ())) := by
  by_cases hc : c
  · rw [if_pos hc] at h ⊢; exact spec_l1New_L3_of h
  · rw [if_neg hc] at h ⊢; exact spec_l1New_L3_of h

@[reducible] def impl_domainOk_S2 (x0 : ByteArray) (x2 : Bool) (x5 : Int) (x6 : Int) : St := ⟨frOf [(0, .str x0), (2, .bool x2), (5, .int x5), (6, .int x6)], hpIds []⟩

@[reducible] def impl_domainOk_O2 (x0 : ByteArray) (x2 : Bool) : St := ⟨frOf [(0, .str x0), (2, .bool x2)], hpIds []⟩

noncomputable def impl_domainOk_L2 (n q : Nat) (x0 : ByteArray) (x2 : Bool) (x5 : Int) (x6 : Int) : Option (Ex × (ByteArray × Bool × Unit) × Unit) := lpT Try.prog cfg RN n 5 30 2 0 q (impl_domainOk_S2 x0 x2 x5 x6)

theorem impl_domainOk_L2_of {n q : Nat} {x0 : ByteArray} {x2 : Bool} {x5 : Int} {x6 : Int} {e : Ex} {x0O : ByteArray} {x2O : Bool} (h : lp Try.prog cfg RN n 5 30 2 0 q (impl_domainOk_S2 x0 x2 x5 x6) = some (e, impl_domainOk_O2 x0O x2O)) : impl_domainOk_L2 n q x0 x2 x5 x6 = some (e, (x0O, x2O, ()), ()) := by
  unfold impl_domainOk_L2 lpT
  rw [h]
  kernel_rfl

theorem impl_domainOk_L2_if {n q : Nat} {x0 : ByteArray} {x2 : Bool} {x5 : Int} {x6 : Int} {c : Prop} [Decidable c] {e e' : Ex} {x0O : ByteArray} {x2O : Bool} {x0P : ByteArray} {x2P : Bool} (h : lp Try.prog cfg RN n 5 30 2 0 q (impl_domainOk_S2 x0 x2 x5 x6) = some (if c then (e, impl_domainOk_O2 x0O x2O) else (e', impl_domainOk_O2 x0P x2P))) : impl_domainOk_L2 n q x0 x2 x5 x6 = some (if c then (e, (x0O, x2O, ()), ()) else (e', (x0P, x2P, ()), ())) := by
  by_cases hc : c
  · rw [if_pos hc] at h ⊢; exact impl_domainOk_L2_of h
  · rw [if_neg hc] at h ⊢; exact impl_domainOk_L2_of h

@[reducible] def spec_l6Domain_S2 (x0 : ByteArray) (x2 : Bool) (x3 : Int) : St := ⟨frOf [(0, .str x0), (2, .bool x2), (3, .int x3)], hpIds []⟩

@[reducible] def spec_l6Domain_O2 (x0 : ByteArray) (x2 : Bool) : St := ⟨frOf [(0, .str x0), (2, .bool x2)], hpIds []⟩

noncomputable def spec_l6Domain_L2 (n q : Nat) (x0 : ByteArray) (x2 : Bool) (x3 : Int) : Option (Ex × (ByteArray × Bool × Unit) × Unit) := lpT Try.prog cfg RN n 5 33 2 0 q (spec_l6Domain_S2 x0 x2 x3)

theorem spec_l6Domain_L2_of {n q : Nat} {x0 : ByteArray} {x2 : Bool} {x3 : Int} {e : Ex} {x0O : ByteArray} {x2O : Bool} (h : lp Try.prog cfg RN n 5 33 2 0 q (spec_l6Domain_S2 x0 x2 x3) = some (e, spec_l6Domain_O2 x0O x2O)) : spec_l6Domain_L2 n q x0 x2 x3 = some (e, (x0O, x2O, ()), ()) := by
  unfold spec_l6Domain_L2 lpT
  rw [h]
  kernel_rfl

theorem spec_l6Domain_L2_if {n q : Nat} {x0 : ByteArray} {x2 : Bool} {x3 : Int} {c : Prop} [Decidable c] {e e' : Ex} {x0O : ByteArray} {x2O : Bool} {x0P : ByteArray} {x2P : Bool} (h : lp Try.prog cfg RN n 5 33 2 0 q (spec_l6Domain_S2 x0 x2 x3) = some (if c then (e, spec_l6Domain_O2 x0O x2O) else (e', spec_l6Domain_O2 x0P x2P))) : spec_l6Domain_L2 n q x0 x2 x3 = some (if c then (e, (x0O, x2O, ()), ()) else (e', (x0P, x2P, ()), ())) := by
  by_cases hc : c
  · rw [if_pos hc] at h ⊢; exact spec_l6Domain_L2_of h
  · rw [if_neg hc] at h ⊢; exact spec_l6Domain_L2_of h

@[reducible] def spec_l11DrawRight_S3 (x4 : Int) (z0_b : List UInt8) (z0_i : Int) (z0_h : Int) (y2 : Letter) (y3 : Letter) : St := ⟨frOf [(0, .c (.bx (.arg 0) 0)), (2, .c (.bx (.own 2) 0)), (3, .c (.bx (.own 3) 0)), (4, .int x4)], hpIds [(.arg 0, .box [.f (.sl false .byte z0_b), .f (.int z0_i), .f (.int z0_h)]), (.own 2, .box ((Letter.cells y2).map C.f)), (.own 3, .box ((Letter.cells y3).map C.f))]⟩

@[reducible] def spec_l11DrawRight_O3 (z0_b : List UInt8) (z0_i : Int) (z0_h : Int) (y2 : Letter) (y3 : Letter) : St := ⟨frOf [(0, .c (.bx (.arg 0) 0)), (2, .c (.bx (.own 2) 0)), (3, .c (.bx (.own 3) 0))], hpIds [(.arg 0, .box [.f (.sl false .byte z0_b), .f (.int z0_i), .f (.int z0_h)]), (.own 2, .box ((Letter.cells y2).map C.f)), (.own 3, .box ((Letter.cells y3).map C.f))]⟩

noncomputable def spec_l11DrawRight_L3 (n q : Nat) (x4 : Int) (z0_b : List UInt8) (z0_i : Int) (z0_h : Int) (y2 : Letter) (y3 : Letter) : Option (Ex × (Unit × Unit × Unit × Unit) × (List UInt8 × Int × Int × Unit) × Letter × Letter × Unit) := lpT Try.prog cfg RN n 5 57 3 1 q (spec_l11DrawRight_S3 x4 z0_b z0_i z0_h y2 y3)

theorem spec_l11DrawRight_L3_of {n q : Nat} {x4 : Int} {z0_b : List UInt8} {z0_i : Int} {z0_h : Int} {y2 : Letter} {y3 : Letter} {e : Ex} {z0_bO : List UInt8} {z0_iO : Int} {z0_hO : Int} {y2O : Letter} {y3O : Letter} (h : lp Try.prog cfg RN n 5 57 3 1 q (spec_l11DrawRight_S3 x4 z0_b z0_i z0_h y2 y3) = some (e, spec_l11DrawRight_O3 z0_bO z0_iO z0_hO y2O y3O)) : spec_l11DrawRight_L3 n q x4 z0_b z0_i z0_h y2 y3 = some (e, ((), (), (), ()), (z0_bO, z0_iO, z0_hO, ()), y2O, y3O, ()) := by
  unfold spec_l11DrawRight_L3 lpT
  rw [h]
  kernel_rfl

theorem spec_l11DrawRight_L3_if {n q : Nat} {x4 : Int} {z0_b : List UInt8} {z0_i : Int} {z0_h : Int} {y2 : Letter} {y3 : Letter} {c : Prop} [Decidable c] {e e' : Ex} {z0_bO : List UInt8} {z0_iO : Int} {z0_hO : Int} {y2O : Letter} {y3O : Letter} {z0_bP : List UInt8} {z0_iP : Int} {z0_hP : Int} {y2P : Letter} {y3P : Letter} (h : lp Try.prog cfg RN n 5 57 3 1 q (spec_l11DrawRight_S3 x4 z0_b z0_i z0_h y2 y3) = some (if c then (e, spec_l11DrawRight_O3 z0_bO z0_iO z0_hO y2O y3O) else (e', spec_l11DrawRight_O3 z0_bP z0_iP z0_hP y2P y3P))) : spec_l11DrawRight_L3 n q x4 z0_b z0_i z0_h y2 y3 = some (if c then (e, ((), (), (), ()), (z0_bO, z0_iO, z0_hO, ()), y2O, y3O, ()) else (e', ((), (), (), ()), (z0_bP, z0_iP, z0_hP, ()), y2P, y3P, ())) := by
  by_cases hc : c
  · rw [if_pos hc] at h ⊢; exact spec_l11DrawRight_L3_of h
  · rw [if_neg hc] at h ⊢; exact spec_l11DrawRight_L3_of h

end Go.Proofs.Ytepghohkfnmhmaa
