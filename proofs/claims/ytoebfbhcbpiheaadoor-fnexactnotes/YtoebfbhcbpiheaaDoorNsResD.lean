/-
  What calls and loops answer, as plain data.
-/
import Derived.Test.YtoebfbhcbpiheaaDoorNsCfg
namespace Go.Proofs.YtoebfbhcbpiheaaDoor
open Go.Vm
set_option linter.unusedVariables false

noncomputable def spec_Notes_T (a0 : ByteArray) : Option (List Note × Int × Unit) := presT RN 12 [.str a0] (.tup [.sl .note, .int])

noncomputable def laws_eqNoteS_T (a0 : List Note) (a1 : List Note) : Option Bool := presT RN 14 [.sl false .note a0, .sl false .note a1] (.bool)

noncomputable def laws_heldNoteS_T (a0 : List Note) (a1 : Int) : Option Int := presT RN 16 [.sl false .note a0, .int a1] (.int)

noncomputable def spec_NoteOf_T (a0 : ByteArray) : Option (Note × Bool × Unit) := presT RN 35 [.str a0] (.tup [.el .note, .bool])

noncomputable def strings_IndexByte_T (a0 : ByteArray) (a1 : Int) : Option Int := presT RN 36 [.str a0, .u8 a1] (.int)

noncomputable def impl_NoteOf_T (a0 : ByteArray) : Option (Note × Bool × Unit) := presT RN 37 [.str a0] (.tup [.el .note, .bool])

noncomputable def laws_eqNote_T (a0 : Note) (a1 : Note) : Option Bool := presT RN 38 [.ag (Note.cells a0), .ag (Note.cells a1)] (.bool)

noncomputable def laws_markText_T (a0 : Int) : Option ByteArray := presT RN 39 [.int a0] (.str)

noncomputable def spec_l12Words_T (a0 : ByteArray) : Option (List ByteArray) := presT RN 57 [.str a0] (.sl .str)

noncomputable def spec_l12Num_T (a0 : ByteArray) : Option Int := presT RN 58 [.str a0] (.int)

noncomputable def spec_NoteText_T (a0 : Note) : Option ByteArray := presT RN 59 [.ag (Note.cells a0)] (.str)

noncomputable def strings_Split_T (a0 : ByteArray) (a1 : ByteArray) : Option (List ByteArray) := presT RN 61 [.str a0, .str a1] (.sl .str)

noncomputable def strings_TrimSuffix_T (a0 : ByteArray) (a1 : ByteArray) : Option ByteArray := presT RN 62 [.str a0, .str a1] (.str)

noncomputable def impl_noteNumber_T (a0 : List ByteArray) (a1 : Int) : Option Int := presT RN 63 [.sl false .str a0, .int a1] (.int)

noncomputable def impl_NoteText_T (a0 : Note) : Option ByteArray := presT RN 64 [.ag (Note.cells a0)] (.str)

noncomputable def spec_l1Digits_T (a0 : Int) : Option ByteArray := presT RN 68 [.int a0] (.str)

noncomputable def strconv_Itoa_T (a0 : Int) : Option ByteArray := presT RN 69 [.int a0] (.str)

noncomputable def impl_in_T (a0 : Int) (a1 : Int) (a2 : Int) : Option Bool := presT RN 73 [.int a0, .int a1, .int a2] (.bool)

noncomputable def spec_NoteOk_T (a0 : Note) : Option Bool := presT RN 74 [.ag (Note.cells a0)] (.bool)

noncomputable def internal_stringslite_TrimSuffix_T (a0 : ByteArray) (a1 : ByteArray) : Option ByteArray := presT RN 77 [.str a0, .str a1] (.str)

noncomputable def strconv_Atoi_T (a0 : ByteArray) : Option (Int × Bool × Unit) := presT RN 78 [.str a0] (.tup [.int, .err])

noncomputable def impl_NoteOk_T (a0 : Note) : Option Bool := presT RN 79 [.ag (Note.cells a0)] (.bool)

noncomputable def spec_l1In_T (a0 : Int) (a1 : Int) (a2 : Int) : Option Bool := presT RN 81 [.int a0, .int a1, .int a2] (.bool)

noncomputable def spec_l6Domain_T (a0 : ByteArray) : Option Bool := presT RN 84 [.str a0] (.bool)

noncomputable def internal_stringslite_HasSuffix_T (a0 : ByteArray) (a1 : ByteArray) : Option Bool := presT RN 88 [.str a0, .str a1] (.bool)

noncomputable def impl_domainOk_T (a0 : ByteArray) : Option Bool := presT RN 91 [.str a0] (.bool)

noncomputable def impl_isAtom_T (a0 : Int) : Option Bool := presT RN 92 [.int a0] (.bool)

noncomputable def impl_isTime_T (a0 : Int) : Option Bool := presT RN 93 [.int a0] (.bool)

@[reducible] def spec_Notes_S4 (x0 : ByteArray) (x4 : List Note) (x5 : Int) (x6 : Int) : St := ⟨frOf [(0, .str x0), (4, .c (.row (.own 4) .note)), (5, .int x5), (6, .int x6)], hpIds [(.own 4, .row true .note x4)]⟩

@[reducible] def spec_Notes_O4 (x4 : List Note) (x5 : Int) : St := ⟨frOf [(4, .c (.row (.own 4) .note)), (5, .int x5)], hpIds [(.own 4, .row true .note x4)]⟩

noncomputable def spec_Notes_L4 (n q : Nat) (x0 : ByteArray) (x4 : List Note) (x5 : Int) (x6 : Int) : Option (Ex × (Unit × Int × Unit) × List Note × Unit) := lpT Tryd.prog cfg RN n 5 12 4 0 q (spec_Notes_S4 x0 x4 x5 x6)

theorem spec_Notes_L4_of {n q : Nat} {x0 : ByteArray} {x4 : List Note} {x5 : Int} {x6 : Int} {e : Ex} {x4O : List Note} {x5O : Int} (h : lp Tryd.prog cfg RN n 5 12 4 0 q (spec_Notes_S4 x0 x4 x5 x6) = some (e, spec_Notes_O4 x4O x5O)) : spec_Notes_L4 n q x0 x4 x5 x6 = some (e, ((), x5O, ()), x4O, ()) := by
  unfold spec_Notes_L4 lpT
  rw [h]
  kernel_rfl

theorem spec_Notes_L4_if {n q : Nat} {x0 : ByteArray} {x4 : List Note} {x5 : Int} {x6 : Int} {c : Prop} [Decidable c] {e e' : Ex} {x4O : List Note} {x5O : Int} {x4P : List Note} {x5P : Int} (h : lp Tryd.prog cfg RN n 5 12 4 0 q (spec_Notes_S4 x0 x4 x5 x6) = some (if c then (e, spec_Notes_O4 x4O x5O) else (e', spec_Notes_O4 x4P x5P))) : spec_Notes_L4 n q x0 x4 x5 x6 = some (if c then (e, ((), x5O, ()), x4O, ()) else (e', ((), x5P, ()), x4P, ())) := by
  by_cases hc : c
  · rw [if_pos hc] at h ⊢; exact spec_Notes_L4_of h
  · rw [if_neg hc] at h ⊢; exact spec_Notes_L4_of h

@[reducible] def impl_Notes_S3 (x0 : ByteArray) (x2 : List Note) (x3 : Int) (x4 : List Note) (x5 : Int) : St := ⟨frOf [(0, .str x0), (2, .c (.row (.own 2) .note)), (3, .int x3), (4, .c (.row (.own 4) .note)), (5, .int x5)], hpIds [(.own 2, .row true .note x2), (.own 4, .row true .note x4)]⟩

@[reducible] def impl_Notes_O3 (x2 : List Note) (x3 : Int) : St := ⟨frOf [(2, .c (.row (.own 2) .note)), (3, .int x3)], hpIds [(.own 2, .row true .note x2)]⟩

noncomputable def impl_Notes_L3 (n q : Nat) (x0 : ByteArray) (x2 : List Note) (x3 : Int) (x4 : List Note) (x5 : Int) : Option (Ex × (Unit × Int × Unit) × List Note × Unit) := lpT Tryd.prog cfg RN n 4 13 3 0 q (impl_Notes_S3 x0 x2 x3 x4 x5)

theorem impl_Notes_L3_of {n q : Nat} {x0 : ByteArray} {x2 : List Note} {x3 : Int} {x4 : List Note} {x5 : Int} {e : Ex} {x2O : List Note} {x3O : Int} (h : lp Tryd.prog cfg RN n 4 13 3 0 q (impl_Notes_S3 x0 x2 x3 x4 x5) = some (e, impl_Notes_O3 x2O x3O)) : impl_Notes_L3 n q x0 x2 x3 x4 x5 = some (e, ((), x3O, ()), x2O, ()) := by
  unfold impl_Notes_L3 lpT
  rw [h]
  kernel_rfl

theorem impl_Notes_L3_if {n q : Nat} {x0 : ByteArray} {x2 : List Note} {x3 : Int} {x4 : List Note} {x5 : Int} {c : Prop} [Decidable c] {e e' : Ex} {x2O : List Note} {x3O : Int} {x2P : List Note} {x3P : Int} (h : lp Tryd.prog cfg RN n 4 13 3 0 q (impl_Notes_S3 x0 x2 x3 x4 x5) = some (if c then (e, impl_Notes_O3 x2O x3O) else (e', impl_Notes_O3 x2P x3P))) : impl_Notes_L3 n q x0 x2 x3 x4 x5 = some (if c then (e, ((), x3O, ()), x2O, ()) else (e', ((), x3P, ()), x2P, ())) := by
  by_cases hc : c
  · rw [if_pos hc] at h ⊢; exact impl_Notes_L3_of h
  · rw [if_neg hc] at h ⊢; exact impl_Notes_L3_of h

@[reducible] def laws_eqNoteS_S4 (t0 : Bool) (x0 : List Note) (t1 : Bool) (x1 : List Note) (x4 : Bool) (x5 : Int) : St := ⟨frOf [(0, .sl t0 .note x0), (1, .sl t1 .note x1), (4, .bool x4), (5, .int x5)], hpIds []⟩

@[reducible] def laws_eqNoteS_O4 (x4 : Bool) : St := ⟨frOf [(4, .bool x4)], hpIds []⟩

noncomputable def laws_eqNoteS_L4 (n q : Nat) (t0 : Bool) (x0 : List Note) (t1 : Bool) (x1 : List Note) (x4 : Bool) (x5 : Int) : Option (Ex × (Bool × Unit) × Unit) := lpT Tryd.prog cfg RN n 5 14 4 0 q (laws_eqNoteS_S4 t0 x0 t1 x1 x4 x5)

theorem laws_eqNoteS_L4_of {n q : Nat} {t0 : Bool} {x0 : List Note} {t1 : Bool} {x1 : List Note} {x4 : Bool} {x5 : Int} {e : Ex} {x4O : Bool} (h : lp Tryd.prog cfg RN n 5 14 4 0 q (laws_eqNoteS_S4 t0 x0 t1 x1 x4 x5) = some (e, laws_eqNoteS_O4 x4O)) : laws_eqNoteS_L4 n q t0 x0 t1 x1 x4 x5 = some (e, (x4O, ()), ()) := by
  unfold laws_eqNoteS_L4 lpT
  rw [h]
  kernel_rfl

theorem laws_eqNoteS_L4_if {n q : Nat} {t0 : Bool} {x0 : List Note} {t1 : Bool} {x1 : List Note} {x4 : Bool} {x5 : Int} {c : Prop} [Decidable c] {e e' : Ex} {x4O : Bool} {x4P : Bool} (h : lp Tryd.prog cfg RN n 5 14 4 0 q (laws_eqNoteS_S4 t0 x0 t1 x1 x4 x5) = some (if c then (e, laws_eqNoteS_O4 x4O) else (e', laws_eqNoteS_O4 x4P))) : laws_eqNoteS_L4 n q t0 x0 t1 x1 x4 x5 = some (if c then (e, (x4O, ()), ()) else (e', (x4P, ()), ())) := by
  by_cases hc : c
  · rw [if_pos hc] at h ⊢; exact laws_eqNoteS_L4_of h
  · rw [if_neg hc] at h ⊢; exact laws_eqNoteS_L4_of h

@[reducible] def laws_markNoteS_S2 (y0 : List Note) (x1 : Int) (x5 : Int) : St := ⟨frOf [(0, .c (.row (.arg 0) .note)), (1, .int x1), (5, .int x5)], hpIds [(.arg 0, .row true .note y0)]⟩

@[reducible] def laws_markNoteS_O2 (x1 : Int) (y0 : List Note) : St := ⟨frOf [(1, .int x1)], hpIds [(.arg 0, .row true .note y0)]⟩

noncomputable def laws_markNoteS_L2 (n q : Nat) (y0 : List Note) (x1 : Int) (x5 : Int) : Option (Ex × (Int × Unit) × List Note × Unit) := lpT Tryd.prog cfg RN n 4 15 2 1 q (laws_markNoteS_S2 y0 x1 x5)

theorem laws_markNoteS_L2_of {n q : Nat} {y0 : List Note} {x1 : Int} {x5 : Int} {e : Ex} {x1O : Int} {y0O : List Note} (h : lp Tryd.prog cfg RN n 4 15 2 1 q (laws_markNoteS_S2 y0 x1 x5) = some (e, laws_markNoteS_O2 x1O y0O)) : laws_markNoteS_L2 n q y0 x1 x5 = some (e, (x1O, ()), y0O, ()) := by
  unfold laws_markNoteS_L2 lpT
  rw [h]
  kernel_rfl

theorem laws_markNoteS_L2_if {n q : Nat} {y0 : List Note} {x1 : Int} {x5 : Int} {c : Prop} [Decidable c] {e e' : Ex} {x1O : Int} {y0O : List Note} {x1P : Int} {y0P : List Note} (h : lp Tryd.prog cfg RN n 4 15 2 1 q (laws_markNoteS_S2 y0 x1 x5) = some (if c then (e, laws_markNoteS_O2 x1O y0O) else (e', laws_markNoteS_O2 x1P y0P))) : laws_markNoteS_L2 n q y0 x1 x5 = some (if c then (e, (x1O, ()), y0O, ()) else (e', (x1P, ()), y0P, ())) := by
  by_cases hc : c
  · rw [if_pos hc] at h ⊢; exact laws_markNoteS_L2_of h
  · rw [if_neg hc] at h ⊢; exact laws_markNoteS_L2_of h

@[reducible] def laws_heldNoteS_S2 (t0 : Bool) (x0 : List Note) (x1 : Int) (x4 : Int) (x5 : Int) : St := ⟨frOf [(0, .sl t0 .note x0), (1, .int x1), (4, .int x4), (5, .int x5)], hpIds []⟩

@[reducible] def laws_heldNoteS_O2 (x1 : Int) (x4 : Int) : St := ⟨frOf [(1, .int x1), (4, .int x4)], hpIds []⟩

noncomputable def laws_heldNoteS_L2 (n q : Nat) (t0 : Bool) (x0 : List Note) (x1 : Int) (x4 : Int) (x5 : Int) : Option (Ex × (Int × Int × Unit) × Unit) := lpT Tryd.prog cfg RN n 5 16 2 0 q (laws_heldNoteS_S2 t0 x0 x1 x4 x5)

theorem laws_heldNoteS_L2_of {n q : Nat} {t0 : Bool} {x0 : List Note} {x1 : Int} {x4 : Int} {x5 : Int} {e : Ex} {x1O : Int} {x4O : Int} (h : lp Tryd.prog cfg RN n 5 16 2 0 q (laws_heldNoteS_S2 t0 x0 x1 x4 x5) = some (e, laws_heldNoteS_O2 x1O x4O)) : laws_heldNoteS_L2 n q t0 x0 x1 x4 x5 = some (e, (x1O, x4O, ()), ()) := by
  unfold laws_heldNoteS_L2 lpT
  rw [h]
  kernel_rfl

theorem laws_heldNoteS_L2_if {n q : Nat} {t0 : Bool} {x0 : List Note} {x1 : Int} {x4 : Int} {x5 : Int} {c : Prop} [Decidable c] {e e' : Ex} {x1O : Int} {x4O : Int} {x1P : Int} {x4P : Int} (h : lp Tryd.prog cfg RN n 5 16 2 0 q (laws_heldNoteS_S2 t0 x0 x1 x4 x5) = some (if c then (e, laws_heldNoteS_O2 x1O x4O) else (e', laws_heldNoteS_O2 x1P x4P))) : laws_heldNoteS_L2 n q t0 x0 x1 x4 x5 = some (if c then (e, (x1O, x4O, ()), ()) else (e', (x1P, x4P, ()), ())) := by
  by_cases hc : c
  · rw [if_pos hc] at h ⊢; exact laws_heldNoteS_L2_of h
  · rw [if_neg hc] at h ⊢; exact laws_heldNoteS_L2_of h

@[reducible] def spec_NoteOf_S7 (x0 : ByteArray) (t4 : Bool) (x4 : List ByteArray) (t5 : Bool) (x5 : List ByteArray) (x7 : Int) (y2 : Note) (y6 : Note) : St := ⟨frOf [(0, .str x0), (2, .c (.bx (.own 2) 0)), (4, .sl t4 .str x4), (5, .sl t5 .str x5), (6, .c (.bx (.own 6) 0)), (7, .int x7)], hpIds [(.own 2, .box ((Note.cells y2).map C.f)), (.own 6, .box ((Note.cells y6).map C.f))]⟩

@[reducible] def spec_NoteOf_O7 (x0 : ByteArray) (t4 : Bool) (x4 : List ByteArray) (y2 : Note) (y6 : Note) : St := ⟨frOf [(0, .str x0), (2, .c (.bx (.own 2) 0)), (4, .sl t4 .str x4), (6, .c (.bx (.own 6) 0))], hpIds [(.own 2, .box ((Note.cells y2).map C.f)), (.own 6, .box ((Note.cells y6).map C.f))]⟩

noncomputable def spec_NoteOf_L7 (n q : Nat) (x0 : ByteArray) (t4 : Bool) (x4 : List ByteArray) (t5 : Bool) (x5 : List ByteArray) (x7 : Int) (y2 : Note) (y6 : Note) : Option (Ex × (ByteArray × Unit × List ByteArray × Unit × Unit) × Note × Note × Unit) := lpT Tryd.prog cfg RN n 5 35 7 0 q (spec_NoteOf_S7 x0 t4 x4 t5 x5 x7 y2 y6)

theorem spec_NoteOf_L7_of {n q : Nat} {x0 : ByteArray} {t4 : Bool} {x4 : List ByteArray} {t5 : Bool} {x5 : List ByteArray} {x7 : Int} {y2 : Note} {y6 : Note} {e : Ex} {x0O : ByteArray} {t4O : Bool} {x4O : List ByteArray} {y2O : Note} {y6O : Note} (h : lp Tryd.prog cfg RN n 5 35 7 0 q (spec_NoteOf_S7 x0 t4 x4 t5 x5 x7 y2 y6) = some (e, spec_NoteOf_O7 x0O t4O x4O y2O y6O)) : spec_NoteOf_L7 n q x0 t4 x4 t5 x5 x7 y2 y6 = some (e, (x0O, (), x4O, (), ()), y2O, y6O, ()) := by
  unfold spec_NoteOf_L7 lpT
  rw [h]
  kernel_rfl

theorem spec_NoteOf_L7_if {n q : Nat} {x0 : ByteArray} {t4 : Bool} {x4 : List ByteArray} {t5 : Bool} {x5 : List ByteArray} {x7 : Int} {y2 : Note} {y6 : Note} {c : Prop} [Decidable c] {e e' : Ex} {x0O : ByteArray} {t4O : Bool} {x4O : List ByteArray} {y2O : Note} {y6O : Note} {x0P : ByteArray} {t4P : Bool} {x4P : List ByteArray} {y2P : Note} {y6P : Note} (h : lp Tryd.prog cfg RN n 5 35 7 0 q (spec_NoteOf_S7 x0 t4 x4 t5 x5 x7 y2 y6) = some (if c then (e, spec_NoteOf_O7 x0O t4O x4O y2O y6O) else (e', spec_NoteOf_O7 x0P t4P x4P y2P y6P))) : spec_NoteOf_L7 n q x0 t4 x4 t5 x5 x7 y2 y6 = some (if c then (e, (x0O, (), x4O, (), ()), y2O, y6O, ()) else (e', (x0P, (), x4P, (), ()), y2P, y6P, ())) := by
  by_cases hc : c
  · rw [if_pos hc] at h ⊢; exact spec_NoteOf_L7_of h
  · rw [if_neg hc] at h ⊢; exact spec_NoteOf_L7_of h

@[reducible] def laws_markText_S4 (x0 : Int) (x3 : ByteArray) : St := ⟨frOf [(0, .int x0), (3, .str x3)], hpIds []⟩

@[reducible] def laws_markText_O4 (x3 : ByteArray) : St := ⟨frOf [(3, .str x3)], hpIds []⟩

noncomputable def laws_markText_L4 (n q : Nat) (x0 : Int) (x3 : ByteArray) : Option (Ex × (ByteArray × Unit) × Unit) := lpT Tryd.prog cfg RN n 5 39 4 0 q (laws_markText_S4 x0 x3)

theorem laws_markText_L4_of {n q : Nat} {x0 : Int} {x3 : ByteArray} {e : Ex} {x3O : ByteArray} (h : lp Tryd.prog cfg RN n 5 39 4 0 q (laws_markText_S4 x0 x3) = some (e, laws_markText_O4 x3O)) : laws_markText_L4 n q x0 x3 = some (e, (x3O, ()), ()) := by
  unfold laws_markText_L4 lpT
  rw [h]
  kernel_rfl

theorem laws_markText_L4_if {n q : Nat} {x0 : Int} {x3 : ByteArray} {c : Prop} [Decidable c] {e e' : Ex} {x3O : ByteArray} {x3P : ByteArray} (h : lp Tryd.prog cfg RN n 5 39 4 0 q (laws_markText_S4 x0 x3) = some (if c then (e, laws_markText_O4 x3O) else (e', laws_markText_O4 x3P))) : laws_markText_L4 n q x0 x3 = some (if c then (e, (x3O, ()), ()) else (e', (x3P, ()), ())) := by
  by_cases hc : c
  · rw [if_pos hc] at h ⊢; exact laws_markText_L4_of h
  · rw [if_neg hc] at h ⊢; exact laws_markText_L4_of h

@[reducible] def spec_l12Words_S4 (x0 : ByteArray) (x3 : List ByteArray) (x4 : Int) (x5 : Int) : St := ⟨frOf [(0, .str x0), (3, .c (.row (.own 3) .str)), (4, .int x4), (5, .int x5)], hpIds [(.own 3, .row true .str x3)]⟩

@[reducible] def spec_l12Words_O4 (x3 : List ByteArray) : St := ⟨frOf [(3, .c (.row (.own 3) .str))], hpIds [(.own 3, .row true .str x3)]⟩

noncomputable def spec_l12Words_L4 (n q : Nat) (x0 : ByteArray) (x3 : List ByteArray) (x4 : Int) (x5 : Int) : Option (Ex × (Unit × Unit) × List ByteArray × Unit) := lpT Tryd.prog cfg RN n 5 57 4 0 q (spec_l12Words_S4 x0 x3 x4 x5)

theorem spec_l12Words_L4_of {n q : Nat} {x0 : ByteArray} {x3 : List ByteArray} {x4 : Int} {x5 : Int} {e : Ex} {x3O : List ByteArray} (h : lp Tryd.prog cfg RN n 5 57 4 0 q (spec_l12Words_S4 x0 x3 x4 x5) = some (e, spec_l12Words_O4 x3O)) : spec_l12Words_L4 n q x0 x3 x4 x5 = some (e, ((), ()), x3O, ()) := by
  unfold spec_l12Words_L4 lpT
  rw [h]
  kernel_rfl

theorem spec_l12Words_L4_if {n q : Nat} {x0 : ByteArray} {x3 : List ByteArray} {x4 : Int} {x5 : Int} {c : Prop} [Decidable c] {e e' : Ex} {x3O : List ByteArray} {x3P : List ByteArray} (h : lp Tryd.prog cfg RN n 5 57 4 0 q (spec_l12Words_S4 x0 x3 x4 x5) = some (if c then (e, spec_l12Words_O4 x3O) else (e', spec_l12Words_O4 x3P))) : spec_l12Words_L4 n q x0 x3 x4 x5 = some (if c then (e, ((), ()), x3O, ()) else (e', ((), ()), x3P, ())) := by
  by_cases hc : c
  · rw [if_pos hc] at h ⊢; exact spec_l12Words_L4_of h
  · rw [if_neg hc] at h ⊢; exact spec_l12Words_L4_of h

@[reducible] def spec_l12Num_S3 (x0 : ByteArray) (x3 : Int) (x4 : Int) : St := ⟨frOf [(0, .str x0), (3, .int x3), (4, .int x4)], hpIds []⟩

@[reducible] def spec_l12Num_O3 (x3 : Int) : St := ⟨frOf [(3, .int x3)], hpIds []⟩

noncomputable def spec_l12Num_L3 (n q : Nat) (x0 : ByteArray) (x3 : Int) (x4 : Int) : Option (Ex × (Int × Unit) × Unit) := lpT Tryd.prog cfg RN n 5 58 3 0 q (spec_l12Num_S3 x0 x3 x4)

theorem spec_l12Num_L3_of {n q : Nat} {x0 : ByteArray} {x3 : Int} {x4 : Int} {e : Ex} {x3O : Int} (h : lp Tryd.prog cfg RN n 5 58 3 0 q (spec_l12Num_S3 x0 x3 x4) = some (e, spec_l12Num_O3 x3O)) : spec_l12Num_L3 n q x0 x3 x4 = some (e, (x3O, ()), ()) := by
  unfold spec_l12Num_L3 lpT
  rw [h]
  kernel_rfl

theorem spec_l12Num_L3_if {n q : Nat} {x0 : ByteArray} {x3 : Int} {x4 : Int} {c : Prop} [Decidable c] {e e' : Ex} {x3O : Int} {x3P : Int} (h : lp Tryd.prog cfg RN n 5 58 3 0 q (spec_l12Num_S3 x0 x3 x4) = some (if c then (e, spec_l12Num_O3 x3O) else (e', spec_l12Num_O3 x3P))) : spec_l12Num_L3 n q x0 x3 x4 = some (if c then (e, (x3O, ()), ()) else (e', (x3P, ()), ())) := by
  by_cases hc : c
  · rw [if_pos hc] at h ⊢; exact spec_l12Num_L3_of h
  · rw [if_neg hc] at h ⊢; exact spec_l12Num_L3_of h

@[reducible] def spec_l1Digits_S5 (x0 : Int) (x3 : Bool) (x4 : ByteArray) : St := ⟨frOf [(0, .int x0), (3, .bool x3), (4, .str x4)], hpIds []⟩

@[reducible] def spec_l1Digits_O5 (x3 : Bool) (x4 : ByteArray) : St := ⟨frOf [(3, .bool x3), (4, .str x4)], hpIds []⟩

noncomputable def spec_l1Digits_L5 (n q : Nat) (x0 : Int) (x3 : Bool) (x4 : ByteArray) : Option (Ex × (Bool × ByteArray × Unit) × Unit) := lpT Tryd.prog cfg RN n 5 68 5 0 q (spec_l1Digits_S5 x0 x3 x4)

theorem spec_l1Digits_L5_of {n q : Nat} {x0 : Int} {x3 : Bool} {x4 : ByteArray} {e : Ex} {x3O : Bool} {x4O : ByteArray} (h : lp Tryd.prog cfg RN n 5 68 5 0 q (spec_l1Digits_S5 x0 x3 x4) = some (e, spec_l1Digits_O5 x3O x4O)) : spec_l1Digits_L5 n q x0 x3 x4 = some (e, (x3O, x4O, ()), ()) := by
  unfold spec_l1Digits_L5 lpT
  rw [h]
  kernel_rfl

theorem spec_l1Digits_L5_if {n q : Nat} {x0 : Int} {x3 : Bool} {x4 : ByteArray} {c : Prop} [Decidable c] {e e' : Ex} {x3O : Bool} {x4O : ByteArray} {x3P : Bool} {x4P : ByteArray} (h : lp Tryd.prog cfg RN n 5 68 5 0 q (spec_l1Digits_S5 x0 x3 x4) = some (if c then (e, spec_l1Digits_O5 x3O x4O) else (e', spec_l1Digits_O5 x3P x4P))) : spec_l1Digits_L5 n q x0 x3 x4 = some (if c then (e, (x3O, x4O, ()), ()) else (e', (x3P, x4P, ()), ())) := by
  by_cases hc : c
  · rw [if_pos hc] at h ⊢; exact spec_l1Digits_L5_of h
  · rw [if_neg hc] at h ⊢; exact spec_l1Digits_L5_of h

@[reducible] def spec_l6Domain_S2 (x0 : ByteArray) (x2 : Bool) (x3 : Int) : St := ⟨frOf [(0, .str x0), (2, .bool x2), (3, .int x3)], hpIds []⟩

@[reducible] def spec_l6Domain_O2 (x0 : ByteArray) (x2 : Bool) : St := ⟨frOf [(0, .str x0), (2, .bool x2)], hpIds []⟩

noncomputable def spec_l6Domain_L2 (n q : Nat) (x0 : ByteArray) (x2 : Bool) (x3 : Int) : Option (Ex × (ByteArray × Bool × Unit) × Unit) := lpT Tryd.prog cfg RN n 5 84 2 0 q (spec_l6Domain_S2 x0 x2 x3)

theorem spec_l6Domain_L2_of {n q : Nat} {x0 : ByteArray} {x2 : Bool} {x3 : Int} {e : Ex} {x0O : ByteArray} {x2O : Bool} (h : lp Tryd.prog cfg RN n 5 84 2 0 q (spec_l6Domain_S2 x0 x2 x3) = some (e, spec_l6Domain_O2 x0O x2O)) : spec_l6Domain_L2 n q x0 x2 x3 = some (e, (x0O, x2O, ()), ()) := by
  unfold spec_l6Domain_L2 lpT
  rw [h]
  kernel_rfl

theorem spec_l6Domain_L2_if {n q : Nat} {x0 : ByteArray} {x2 : Bool} {x3 : Int} {c : Prop} [Decidable c] {e e' : Ex} {x0O : ByteArray} {x2O : Bool} {x0P : ByteArray} {x2P : Bool} (h : lp Tryd.prog cfg RN n 5 84 2 0 q (spec_l6Domain_S2 x0 x2 x3) = some (if c then (e, spec_l6Domain_O2 x0O x2O) else (e', spec_l6Domain_O2 x0P x2P))) : spec_l6Domain_L2 n q x0 x2 x3 = some (if c then (e, (x0O, x2O, ()), ()) else (e', (x0P, x2P, ()), ())) := by
  by_cases hc : c
  · rw [if_pos hc] at h ⊢; exact spec_l6Domain_L2_of h
  · rw [if_neg hc] at h ⊢; exact spec_l6Domain_L2_of h

@[reducible] def impl_domainOk_S2 (x0 : ByteArray) (x2 : Bool) (x5 : Int) (x6 : Int) : St := ⟨frOf [(0, .str x0), (2, .bool x2), (5, .int x5), (6, .int x6)], hpIds []⟩

@[reducible] def impl_domainOk_O2 (x0 : ByteArray) (x2 : Bool) : St := ⟨frOf [(0, .str x0), (2, .bool x2)], hpIds []⟩

noncomputable def impl_domainOk_L2 (n q : Nat) (x0 : ByteArray) (x2 : Bool) (x5 : Int) (x6 : Int) : Option (Ex × (ByteArray × Bool × Unit) × Unit) := lpT Tryd.prog cfg RN n 5 91 2 0 q (impl_domainOk_S2 x0 x2 x5 x6)

theorem impl_domainOk_L2_of {n q : Nat} {x0 : ByteArray} {x2 : Bool} {x5 : Int} {x6 : Int} {e : Ex} {x0O : ByteArray} {x2O : Bool} (h : lp Tryd.prog cfg RN n 5 91 2 0 q (impl_domainOk_S2 x0 x2 x5 x6) = some (e, impl_domainOk_O2 x0O x2O)) : impl_domainOk_L2 n q x0 x2 x5 x6 = some (e, (x0O, x2O, ()), ()) := by
  unfold impl_domainOk_L2 lpT
  rw [h]
  kernel_rfl

theorem impl_domainOk_L2_if {n q : Nat} {x0 : ByteArray} {x2 : Bool} {x5 : Int} {x6 : Int} {c : Prop} [Decidable c] {e e' : Ex} {x0O : ByteArray} {x2O : Bool} {x0P : ByteArray} {x2P : Bool} (h : lp Tryd.prog cfg RN n 5 91 2 0 q (impl_domainOk_S2 x0 x2 x5 x6) = some (if c then (e, impl_domainOk_O2 x0O x2O) else (e', impl_domainOk_O2 x0P x2P))) : impl_domainOk_L2 n q x0 x2 x5 x6 = some (if c then (e, (x0O, x2O, ()), ()) else (e', (x0P, x2P, ()), ())) := by
  by_cases hc : c
  · rw [if_pos hc] at h ⊢; exact impl_domainOk_L2_of h
  · rw [if_neg hc] at h ⊢; exact impl_domainOk_L2_of h

end Go.Proofs.YtoebfbhcbpiheaaDoor
