/-
  What calls and loops answer, as plain data.
-/
import Derived.Test.YtepghohkfnmhmaaDoorNoCfg
namespace Go.Proofs.YtepghohkfnmhmaaDoor
open Go.Vm
set_option linter.unusedVariables false

noncomputable def spec_NoteOf_T (a0 : ByteArray) : Option (Note × Bool × Unit) := presT RN 22 [.str a0] (.tup [.el .note, .bool])

noncomputable def impl_NoteOf_T (a0 : ByteArray) : Option (Note × Bool × Unit) := presT RN 23 [.str a0] (.tup [.el .note, .bool])

noncomputable def laws_eqNote_T (a0 : Note) (a1 : Note) : Option Bool := presT RN 24 [.ag (Note.cells a0), .ag (Note.cells a1)] (.bool)

noncomputable def spec_l1In_T (a0 : Int) (a1 : Int) (a2 : Int) : Option Bool := presT RN 31 [.int a0, .int a1, .int a2] (.bool)

noncomputable def impl_in_T (a0 : Int) (a1 : Int) (a2 : Int) : Option Bool := presT RN 36 [.int a0, .int a1, .int a2] (.bool)

noncomputable def impl_isAtom_T (a0 : Int) : Option Bool := presT RN 38 [.int a0] (.bool)

noncomputable def spec_l12Words_T (a0 : ByteArray) : Option (List ByteArray) := presT RN 49 [.str a0] (.sl .str)

noncomputable def spec_l12Num_T (a0 : ByteArray) : Option Int := presT RN 50 [.str a0] (.int)

noncomputable def spec_NoteText_T (a0 : Note) : Option ByteArray := presT RN 51 [.ag (Note.cells a0)] (.str)

noncomputable def strings_Split_T (a0 : ByteArray) (a1 : ByteArray) : Option (List ByteArray) := presT RN 52 [.str a0, .str a1] (.sl .str)

noncomputable def strings_TrimSuffix_T (a0 : ByteArray) (a1 : ByteArray) : Option ByteArray := presT RN 53 [.str a0, .str a1] (.str)

noncomputable def impl_noteNumber_T (a0 : List ByteArray) (a1 : Int) : Option Int := presT RN 54 [.sl false .str a0, .int a1] (.int)

noncomputable def impl_NoteText_T (a0 : Note) : Option ByteArray := presT RN 55 [.ag (Note.cells a0)] (.str)

noncomputable def spec_l1Digits_T (a0 : Int) : Option ByteArray := presT RN 62 [.int a0] (.str)

noncomputable def strconv_Itoa_T (a0 : Int) : Option ByteArray := presT RN 71 [.int a0] (.str)

noncomputable def spec_NoteOk_T (a0 : Note) : Option Bool := presT RN 90 [.ag (Note.cells a0)] (.bool)

noncomputable def internal_stringslite_TrimSuffix_T (a0 : ByteArray) (a1 : ByteArray) : Option ByteArray := presT RN 92 [.str a0, .str a1] (.str)

noncomputable def strconv_Atoi_T (a0 : ByteArray) : Option (Int × Bool × Unit) := presT RN 93 [.str a0] (.tup [.int, .err])

noncomputable def impl_NoteOk_T (a0 : Note) : Option Bool := presT RN 94 [.ag (Note.cells a0)] (.bool)

noncomputable def spec_l6Domain_T (a0 : ByteArray) : Option Bool := presT RN 128 [.str a0] (.bool)

noncomputable def internal_stringslite_HasSuffix_T (a0 : ByteArray) (a1 : ByteArray) : Option Bool := presT RN 132 [.str a0, .str a1] (.bool)

noncomputable def impl_domainOk_T (a0 : ByteArray) : Option Bool := presT RN 135 [.str a0] (.bool)

noncomputable def impl_isTime_T (a0 : Int) : Option Bool := presT RN 136 [.int a0] (.bool)

@[reducible] def spec_NoteOf_S7 (x0 : ByteArray) (t4 : Bool) (x4 : List ByteArray) (t5 : Bool) (x5 : List ByteArray) (x7 : Int) (y2 : Note) (y6 : Note) : St := ⟨frOf [(0, .str x0), (2, .c (.bx (.own 2) 0)), (4, .sl t4 .str x4), (5, .sl t5 .str x5), (6, .c (.bx (.own 6) 0)), (7, .int x7)], hpIds [(.own 2, .box ((Note.cells y2).map C.f)), (.own 6, .box ((Note.cells y6).map C.f))]⟩

@[reducible] def spec_NoteOf_O7 (x0 : ByteArray) (t4 : Bool) (x4 : List ByteArray) (y2 : Note) (y6 : Note) : St := ⟨frOf [(0, .str x0), (2, .c (.bx (.own 2) 0)), (4, .sl t4 .str x4), (6, .c (.bx (.own 6) 0))], hpIds [(.own 2, .box ((Note.cells y2).map C.f)), (.own 6, .box ((Note.cells y6).map C.f))]⟩

noncomputable def spec_NoteOf_L7 (n q : Nat) (x0 : ByteArray) (t4 : Bool) (x4 : List ByteArray) (t5 : Bool) (x5 : List ByteArray) (x7 : Int) (y2 : Note) (y6 : Note) : Option (Ex × (ByteArray × Unit × List ByteArray × Unit × Unit) × Note × Note × Unit) := lpT Tryd.prog cfg RN n 5 22 7 0 q (spec_NoteOf_S7 x0 t4 x4 t5 x5 x7 y2 y6)

theorem spec_NoteOf_L7_of {n q : Nat} {x0 : ByteArray} {t4 : Bool} {x4 : List ByteArray} {t5 : Bool} {x5 : List ByteArray} {x7 : Int} {y2 : Note} {y6 : Note} {e : Ex} {x0O : ByteArray} {t4O : Bool} {x4O : List ByteArray} {y2O : Note} {y6O : Note} (h : lp Tryd.prog cfg RN n 5 22 7 0 q (spec_NoteOf_S7 x0 t4 x4 t5 x5 x7 y2 y6) = some (e, spec_NoteOf_O7 x0O t4O x4O y2O y6O)) : spec_NoteOf_L7 n q x0 t4 x4 t5 x5 x7 y2 y6 = some (e, (x0O, (), x4O, (), ()), y2O, y6O, ()) := by
  unfold spec_NoteOf_L7 lpT
  rw [h]
  kernel_rfl

theorem spec_NoteOf_L7_if {n q : Nat} {x0 : ByteArray} {t4 : Bool} {x4 : List ByteArray} {t5 : Bool} {x5 : List ByteArray} {x7 : Int} {y2 : Note} {y6 : Note} {c : Prop} [Decidable c] {e e' : Ex} {x0O : ByteArray} {t4O : Bool} {x4O : List ByteArray} {y2O : Note} {y6O : Note} {x0P : ByteArray} {t4P : Bool} {x4P : List ByteArray} {y2P : Note} {y6P : Note} (h : lp Tryd.prog cfg RN n 5 22 7 0 q (spec_NoteOf_S7 x0 t4 x4 t5 x5 x7 y2 y6) = some (if c then (e, spec_NoteOf_O7 x0O t4O x4O y2O y6O) else (e', spec_NoteOf_O7 x0P t4P x4P y2P y6P))) : spec_NoteOf_L7 n q x0 t4 x4 t5 x5 x7 y2 y6 = some (if c then (e, (x0O, (), x4O, (), ()), y2O, y6O, ()) else (e', (x0P, (), x4P, (), ()), y2P, y6P, ())) := by
  by_cases hc : c
  · rw [if_pos hc] at h ⊢; exact spec_NoteOf_L7_of h
  · rw [if_neg hc] at h ⊢; exact spec_NoteOf_L7_of h

@[reducible] def spec_l12Words_S4 (x0 : ByteArray) (x3 : List ByteArray) (x4 : Int) (x5 : Int) : St := ⟨frOf [(0, .str x0), (3, .c (.row (.own 3) .str)), (4, .int x4), (5, .int x5)], hpIds [(.own 3, .row true .str x3)]⟩

@[reducible] def spec_l12Words_O4 (x3 : List ByteArray) : St := ⟨frOf [(3, .c (.row (.own 3) .str))], hpIds [(.own 3, .row true .str x3)]⟩

noncomputable def spec_l12Words_L4 (n q : Nat) (x0 : ByteArray) (x3 : List ByteArray) (x4 : Int) (x5 : Int) : Option (Ex × (Unit × Unit) × List ByteArray × Unit) := lpT Tryd.prog cfg RN n 5 49 4 0 q (spec_l12Words_S4 x0 x3 x4 x5)

theorem spec_l12Words_L4_of {n q : Nat} {x0 : ByteArray} {x3 : List ByteArray} {x4 : Int} {x5 : Int} {e : Ex} {x3O : List ByteArray} (h : lp Tryd.prog cfg RN n 5 49 4 0 q (spec_l12Words_S4 x0 x3 x4 x5) = some (e, spec_l12Words_O4 x3O)) : spec_l12Words_L4 n q x0 x3 x4 x5 = some (e, ((), ()), x3O, ()) := by
  unfold spec_l12Words_L4 lpT
  rw [h]
  kernel_rfl

theorem spec_l12Words_L4_if {n q : Nat} {x0 : ByteArray} {x3 : List ByteArray} {x4 : Int} {x5 : Int} {c : Prop} [Decidable c] {e e' : Ex} {x3O : List ByteArray} {x3P : List ByteArray} (h : lp Tryd.prog cfg RN n 5 49 4 0 q (spec_l12Words_S4 x0 x3 x4 x5) = some (if c then (e, spec_l12Words_O4 x3O) else (e', spec_l12Words_O4 x3P))) : spec_l12Words_L4 n q x0 x3 x4 x5 = some (if c then (e, ((), ()), x3O, ()) else (e', ((), ()), x3P, ())) := by
  by_cases hc : c
  · rw [if_pos hc] at h ⊢; exact spec_l12Words_L4_of h
  · rw [if_neg hc] at h ⊢; exact spec_l12Words_L4_of h

@[reducible] def spec_l12Num_S3 (x0 : ByteArray) (x3 : Int) (x4 : Int) : St := ⟨frOf [(0, .str x0), (3, .int x3), (4, .int x4)], hpIds []⟩

@[reducible] def spec_l12Num_O3 (x3 : Int) : St := ⟨frOf [(3, .int x3)], hpIds []⟩

noncomputable def spec_l12Num_L3 (n q : Nat) (x0 : ByteArray) (x3 : Int) (x4 : Int) : Option (Ex × (Int × Unit) × Unit) := lpT Tryd.prog cfg RN n 5 50 3 0 q (spec_l12Num_S3 x0 x3 x4)

theorem spec_l12Num_L3_of {n q : Nat} {x0 : ByteArray} {x3 : Int} {x4 : Int} {e : Ex} {x3O : Int} (h : lp Tryd.prog cfg RN n 5 50 3 0 q (spec_l12Num_S3 x0 x3 x4) = some (e, spec_l12Num_O3 x3O)) : spec_l12Num_L3 n q x0 x3 x4 = some (e, (x3O, ()), ()) := by
  unfold spec_l12Num_L3 lpT
  rw [h]
  kernel_rfl

theorem spec_l12Num_L3_if {n q : Nat} {x0 : ByteArray} {x3 : Int} {x4 : Int} {c : Prop} [Decidable c] {e e' : Ex} {x3O : Int} {x3P : Int} (h : lp Tryd.prog cfg RN n 5 50 3 0 q (spec_l12Num_S3 x0 x3 x4) = some (if c then (e, spec_l12Num_O3 x3O) else (e', spec_l12Num_O3 x3P))) : spec_l12Num_L3 n q x0 x3 x4 = some (if c then (e, (x3O, ()), ()) else (e', (x3P, ()), ())) := by
  by_cases hc : c
  · rw [if_pos hc] at h ⊢; exact spec_l12Num_L3_of h
  · rw [if_neg hc] at h ⊢; exact spec_l12Num_L3_of h

@[reducible] def spec_l1Digits_S5 (x0 : Int) (x3 : Bool) (x4 : ByteArray) : St := ⟨frOf [(0, .int x0), (3, .bool x3), (4, .str x4)], hpIds []⟩

@[reducible] def spec_l1Digits_O5 (x3 : Bool) (x4 : ByteArray) : St := ⟨frOf [(3, .bool x3), (4, .str x4)], hpIds []⟩

noncomputable def spec_l1Digits_L5 (n q : Nat) (x0 : Int) (x3 : Bool) (x4 : ByteArray) : Option (Ex × (Bool × ByteArray × Unit) × Unit) := lpT Tryd.prog cfg RN n 5 62 5 0 q (spec_l1Digits_S5 x0 x3 x4)

theorem spec_l1Digits_L5_of {n q : Nat} {x0 : Int} {x3 : Bool} {x4 : ByteArray} {e : Ex} {x3O : Bool} {x4O : ByteArray} (h : lp Tryd.prog cfg RN n 5 62 5 0 q (spec_l1Digits_S5 x0 x3 x4) = some (e, spec_l1Digits_O5 x3O x4O)) : spec_l1Digits_L5 n q x0 x3 x4 = some (e, (x3O, x4O, ()), ()) := by
  unfold spec_l1Digits_L5 lpT
  rw [h]
  kernel_rfl

theorem spec_l1Digits_L5_if {n q : Nat} {x0 : Int} {x3 : Bool} {x4 : ByteArray} {c : Prop} [Decidable c] {e e' : Ex} {x3O : Bool} {x4O : ByteArray} {x3P : Bool} {x4P : ByteArray} (h : lp Tryd.prog cfg RN n 5 62 5 0 q (spec_l1Digits_S5 x0 x3 x4) = some (if c then (e, spec_l1Digits_O5 x3O x4O) else (e', spec_l1Digits_O5 x3P x4P))) : spec_l1Digits_L5 n q x0 x3 x4 = some (if c then (e, (x3O, x4O, ()), ()) else (e', (x3P, x4P, ()), ())) := by
  by_cases hc : c
  · rw [if_pos hc] at h ⊢; exact spec_l1Digits_L5_of h
  · rw [if_neg hc] at h ⊢; exact spec_l1Digits_L5_of h

@[reducible] def spec_l6Domain_S2 (x0 : ByteArray) (x2 : Bool) (x3 : Int) : St := ⟨frOf [(0, .str x0), (2, .bool x2), (3, .int x3)], hpIds []⟩

@[reducible] def spec_l6Domain_O2 (x0 : ByteArray) (x2 : Bool) : St := ⟨frOf [(0, .str x0), (2, .bool x2)], hpIds []⟩

noncomputable def spec_l6Domain_L2 (n q : Nat) (x0 : ByteArray) (x2 : Bool) (x3 : Int) : Option (Ex × (ByteArray × Bool × Unit) × Unit) := lpT Tryd.prog cfg RN n 5 128 2 0 q (spec_l6Domain_S2 x0 x2 x3)

theorem spec_l6Domain_L2_of {n q : Nat} {x0 : ByteArray} {x2 : Bool} {x3 : Int} {e : Ex} {x0O : ByteArray} {x2O : Bool} (h : lp Tryd.prog cfg RN n 5 128 2 0 q (spec_l6Domain_S2 x0 x2 x3) = some (e, spec_l6Domain_O2 x0O x2O)) : spec_l6Domain_L2 n q x0 x2 x3 = some (e, (x0O, x2O, ()), ()) := by
  unfold spec_l6Domain_L2 lpT
  rw [h]
  kernel_rfl

theorem spec_l6Domain_L2_if {n q : Nat} {x0 : ByteArray} {x2 : Bool} {x3 : Int} {c : Prop} [Decidable c] {e e' : Ex} {x0O : ByteArray} {x2O : Bool} {x0P : ByteArray} {x2P : Bool} (h : lp Tryd.prog cfg RN n 5 128 2 0 q (spec_l6Domain_S2 x0 x2 x3) = some (if c then (e, spec_l6Domain_O2 x0O x2O) else (e', spec_l6Domain_O2 x0P x2P))) : spec_l6Domain_L2 n q x0 x2 x3 = some (if c then (e, (x0O, x2O, ()), ()) else (e', (x0P, x2P, ()), ())) := by
  by_cases hc : c
  · rw [if_pos hc] at h ⊢; exact spec_l6Domain_L2_of h
  · rw [if_neg hc] at h ⊢; exact spec_l6Domain_L2_of h

@[reducible] def impl_domainOk_S2 (x0 : ByteArray) (x2 : Bool) (x5 : Int) (x6 : Int) : St := ⟨frOf [(0, .str x0), (2, .bool x2), (5, .int x5), (6, .int x6)], hpIds []⟩

@[reducible] def impl_domainOk_O2 (x0 : ByteArray) (x2 : Bool) : St := ⟨frOf [(0, .str x0), (2, .bool x2)], hpIds []⟩

noncomputable def impl_domainOk_L2 (n q : Nat) (x0 : ByteArray) (x2 : Bool) (x5 : Int) (x6 : Int) : Option (Ex × (ByteArray × Bool × Unit) × Unit) := lpT Tryd.prog cfg RN n 5 135 2 0 q (impl_domainOk_S2 x0 x2 x5 x6)

theorem impl_domainOk_L2_of {n q : Nat} {x0 : ByteArray} {x2 : Bool} {x5 : Int} {x6 : Int} {e : Ex} {x0O : ByteArray} {x2O : Bool} (h : lp Tryd.prog cfg RN n 5 135 2 0 q (impl_domainOk_S2 x0 x2 x5 x6) = some (e, impl_domainOk_O2 x0O x2O)) : impl_domainOk_L2 n q x0 x2 x5 x6 = some (e, (x0O, x2O, ()), ()) := by
  unfold impl_domainOk_L2 lpT
  rw [h]
  kernel_rfl

theorem impl_domainOk_L2_if {n q : Nat} {x0 : ByteArray} {x2 : Bool} {x5 : Int} {x6 : Int} {c : Prop} [Decidable c] {e e' : Ex} {x0O : ByteArray} {x2O : Bool} {x0P : ByteArray} {x2P : Bool} (h : lp Tryd.prog cfg RN n 5 135 2 0 q (impl_domainOk_S2 x0 x2 x5 x6) = some (if c then (e, impl_domainOk_O2 x0O x2O) else (e', impl_domainOk_O2 x0P x2P))) : impl_domainOk_L2 n q x0 x2 x5 x6 = some (if c then (e, (x0O, x2O, ()), ()) else (e', (x0P, x2P, ()), ())) := by
  by_cases hc : c
  · rw [if_pos hc] at h ⊢; exact impl_domainOk_L2_of h
  · rw [if_neg hc] at h ⊢; exact impl_domainOk_L2_of h

end Go.Proofs.YtepghohkfnmhmaaDoor
