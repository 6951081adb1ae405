/-
  What each function comes to, over what the others answer, as plain data.
-/
import Derived.Test.YtepghohkfnmhmaaDoorSoCfg
namespace Go.Proofs.YtepghohkfnmhmaaDoor
open Go.Vm
set_option linter.unusedVariables false

noncomputable def laws_szServer_T (a0 : Server) (a1 : Int) : Option Int := presT RN 17 [.ag (Server.cells a0), .int a1] (.int)

noncomputable def spec_ServerOk_T (a0 : Server) : Option Bool := presT RN 18 [.ag (Server.cells a0)] (.bool)

noncomputable def laws_toServer_T (a0 : Server) : Option Server := presT RN 19 [.ag (Server.cells a0)] (.server)

noncomputable def impl_ServerOk_T (a0 : Server) : Option Bool := presT RN 20 [.ag (Server.cells a0)] (.bool)

noncomputable def laws_eqServer_T (a0 : Server) (a1 : Server) : Option Bool := presT RN 21 [.ag (Server.cells a0), .ag (Server.cells a1)] (.bool)

noncomputable def laws_szTerm_T (a0 : Term) (a1 : Int) : Option Int := presT RN 30 [.ag (Term.cells a0), .int a1] (.int)

noncomputable def spec_l1In_T (a0 : Int) (a1 : Int) (a2 : Int) : Option Bool := presT RN 31 [.int a0, .int a1, .int a2] (.bool)

noncomputable def spec_HostOk_T (a0 : ByteArray) : Option Bool := presT RN 32 [.str a0] (.bool)

noncomputable def spec_Same_T (a0 : Term) (a1 : Term) : Option Bool := presT RN 33 [.ag (Term.cells a0), .ag (Term.cells a1)] (.bool)

noncomputable def spec_TermOk_T (a0 : Term) : Option Bool := presT RN 34 [.ag (Term.cells a0)] (.bool)

noncomputable def laws_toTerm_T (a0 : Term) : Option Term := presT RN 35 [.ag (Term.cells a0)] (.el .term)

noncomputable def impl_in_T (a0 : Int) (a1 : Int) (a2 : Int) : Option Bool := presT RN 36 [.int a0, .int a1, .int a2] (.bool)

noncomputable def impl_HostOk_T (a0 : ByteArray) : Option Bool := presT RN 37 [.str a0] (.bool)

noncomputable def impl_isAtom_T (a0 : Int) : Option Bool := presT RN 38 [.int a0] (.bool)

noncomputable def impl_TermOk_T (a0 : Term) : Option Bool := presT RN 39 [.ag (Term.cells a0)] (.bool)

noncomputable def impl_noTerm_T (a0 : Term) : Option Bool := presT RN 40 [.ag (Term.cells a0)] (.bool)

noncomputable def laws_eqTerm_T (a0 : Term) (a1 : Term) : Option Bool := presT RN 41 [.ag (Term.cells a0), .ag (Term.cells a1)] (.bool)

noncomputable def laws_szIntS_T (a0 : List Int) (a1 : Int) : Option Int := presT RN 44 [.sl false .int a0, .int a1] (.int)

noncomputable def laws_toIntS_T (a0 : List Int) : Option (List Int) := presT RN 45 [.sl false .int a0] (.sl .int)

noncomputable def slices_ContainsFunc_int_int_T (a0 : List Int) (a1 : V) : Option Bool := presT RN 46 [.sl false .int a0, a1] (.bool)

noncomputable def laws_eqIntS_T (a0 : List Int) (a1 : List Int) : Option Bool := presT RN 48 [.sl false .int a0, .sl false .int a1] (.bool)

noncomputable def strings_Split_T (a0 : ByteArray) (a1 : ByteArray) : Option (List ByteArray) := presT RN 52 [.str a0, .str a1] (.sl .str)

noncomputable def laws_szTermS_T (a0 : List Term) (a1 : Int) : Option Int := presT RN 56 [.sl false .term a0, .int a1] (.int)

noncomputable def laws_toTermS_T (a0 : List Term) : Option (List Term) := presT RN 65 [.sl false .term a0] (.sl .term)

noncomputable def laws_eqTermS_T (a0 : List Term) (a1 : List Term) : Option Bool := presT RN 74 [.sl false .term a0, .sl false .term a1] (.bool)

noncomputable def spec_l5Labels_T (a0 : ByteArray) (a1 : Int) : Option Bool := presT RN 80 [.str a0, .int a1] (.bool)

noncomputable def spec_TermSize_T (a0 : Term) : Option Int := presT RN 81 [.ag (Term.cells a0)] (.int)

noncomputable def spec_l1Right_T (a0 : Term) : Option Bool := presT RN 82 [.ag (Term.cells a0)] (.bool)

noncomputable def impl_labelsOk_T (a0 : ByteArray) (a1 : Int) : Option Bool := presT RN 83 [.str a0, .int a1] (.bool)

noncomputable def impl_TermSize_T (a0 : Term) : Option Int := presT RN 84 [.ag (Term.cells a0)] (.int)

noncomputable def impl_formOk_T (a0 : Term) : Option Bool := presT RN 85 [.ag (Term.cells a0)] (.bool)

noncomputable def impl_Same_T (a0 : Term) (a1 : Term) : Option Bool := presT RN 86 [.ag (Term.cells a0), .ag (Term.cells a1)] (.bool)

noncomputable def slices_IndexFunc_int_int_T (a0 : List Int) (a1 : V) : Option Int := presT RN 89 [.sl false .int a0, a1] (.int)

noncomputable def spec_Labels_T (a0 : ByteArray) : Option (List ByteArray) := presT RN 114 [.str a0] (.sl .str)

noncomputable def spec_l5Label_T (a0 : ByteArray) : Option Bool := presT RN 115 [.str a0] (.bool)

noncomputable def spec_l1Kids_T (a0 : Int) : Option Int := presT RN 116 [.int a0] (.int)

noncomputable def spec_Before_T (a0 : Term) (a1 : Term) : Option Bool := presT RN 117 [.ag (Term.cells a0), .ag (Term.cells a1)] (.bool)

noncomputable def impl_Labels_T (a0 : ByteArray) : Option (List ByteArray) := presT RN 118 [.str a0] (.sl .str)

noncomputable def slices_ContainsFunc_string_string_T (a0 : List ByteArray) (a1 : V) : Option Bool := presT RN 119 [.sl false .str a0, a1] (.bool)

noncomputable def impl_labelOk_T (a0 : ByteArray) : Option Bool := presT RN 121 [.str a0] (.bool)

noncomputable def impl_arity_T (a0 : Int) : Option Int := presT RN 122 [.int a0] (.int)

noncomputable def slices_ContainsFunc_impl_Term_impl_Term_T (a0 : List Term) (a1 : V) : Option Bool := presT RN 123 [.sl false .term a0, a1] (.bool)

noncomputable def impl_Before_T (a0 : Term) (a1 : Term) : Option Bool := presT RN 125 [.ag (Term.cells a0), .ag (Term.cells a1)] (.bool)

noncomputable def slices_EqualFunc_impl_Term_impl_Term_impl_Term_impl_Term_T (a0 : List Term) (a1 : List Term) (a2 : V) : Option Bool := presT RN 126 [.sl false .term a0, .sl false .term a1, a2] (.bool)

noncomputable def slices_IndexFunc_string_string_T (a0 : List ByteArray) (a1 : V) : Option Int := presT RN 144 [.sl false .str a0, a1] (.int)

noncomputable def slices_IndexFunc_impl_Term_impl_Term_T (a0 : List Term) (a1 : V) : Option Int := presT RN 145 [.sl false .term a0, a1] (.int)

@[reducible] def spec_ServerOk_S2 (x2 : Bool) (x3 : Int) (y1 : Server) : St := ⟨frOf [(1, .c (.bx (.own 1) 0)), (2, .bool x2), (3, .int x3)], hpIds [(.own 1, .box ((Server.cells y1).map C.f))]⟩

@[reducible] def spec_ServerOk_O2 (x2 : Bool) (y1 : Server) : St := ⟨frOf [(1, .c (.bx (.own 1) 0)), (2, .bool x2)], hpIds [(.own 1, .box ((Server.cells y1).map C.f))]⟩

noncomputable def spec_ServerOk_L2 (n q : Nat) (x2 : Bool) (x3 : Int) (y1 : Server) : Option (Ex × (Unit × Bool × Unit) × Server × Unit) := lpT Tryd.prog cfg RN n 5 18 2 0 q (spec_ServerOk_S2 x2 x3 y1)

theorem spec_ServerOk_L2_of {n q : Nat} {x2 : Bool} {x3 : Int} {y1 : Server} {e : Ex} {x2O : Bool} {y1O : Server} (h : lp Tryd.prog cfg RN n 5 18 2 0 q (spec_ServerOk_S2 x2 x3 y1) = some (e, spec_ServerOk_O2 x2O y1O)) : spec_ServerOk_L2 n q x2 x3 y1 = some (e, ((), x2O, ()), y1O, ()) := by
  unfold spec_ServerOk_L2 lpT
  rw [h]
  exact Eq.trans (b := some (e, ((), x2O, ()), (⟨y1O.step, y1O.host, y1O.key, y1O.eph, ⟨y1O.cert.op, y1O.cert.n, y1O.cert.s, y1O.cert.kids⟩, ⟨y1O.share.op, y1O.share.n, y1O.share.s, y1O.share.kids⟩, y1O.inn, y1O.out, y1O.tls, y1O.got⟩ : Server), ())) (by kernel_rfl) (by simp only [Term.eta])

theorem spec_ServerOk_L2_if {n q : Nat} {x2 : Bool} {x3 : Int} {y1 : Server} {c : Prop} [Decidable c] {e e' : Ex} {x2O : Bool} {y1O : Server} {x2P : Bool} {y1P : Server} (h : lp Tryd.prog cfg RN n 5 18 2 0 q (spec_ServerOk_S2 x2 x3 y1) = some (if c then (e, spec_ServerOk_O2 x2O y1O) else (e', spec_ServerOk_O2 x2P y1P))) : spec_ServerOk_L2 n q x2 x3 y1 = some (if c then (e, ((), x2O, ()), y1O, ()) else (e', ((), x2P, ()), y1P, ())) := by
  by_cases hc : c
  · rw [if_pos hc] at h ⊢; exact spec_ServerOk_L2_of h
  · rw [if_neg hc] at h ⊢; exact spec_ServerOk_L2_of h

@[reducible] def spec_Same_S4 (x4 : Bool) (x5 : Int) (y2 : Term) (y3 : Term) : St := ⟨frOf [(2, .c (.bx (.own 2) 0)), (3, .c (.bx (.own 3) 0)), (4, .bool x4), (5, .int x5)], hpIds [(.own 2, .box ((Term.cells y2).map C.f)), (.own 3, .box ((Term.cells y3).map C.f))]⟩

@[reducible] def spec_Same_O4 (x4 : Bool) : St := ⟨frOf [(4, .bool x4)], hpIds []⟩

noncomputable def spec_Same_L4 (n q : Nat) (x4 : Bool) (x5 : Int) (y2 : Term) (y3 : Term) : Option (Ex × (Bool × Unit) × Unit) := lpT Tryd.prog cfg RN n 5 33 4 0 q (spec_Same_S4 x4 x5 y2 y3)

theorem spec_Same_L4_of {n q : Nat} {x4 : Bool} {x5 : Int} {y2 : Term} {y3 : Term} {e : Ex} {x4O : Bool} (h : lp Tryd.prog cfg RN n 5 33 4 0 q (spec_Same_S4 x4 x5 y2 y3) = some (e, spec_Same_O4 x4O)) : spec_Same_L4 n q x4 x5 y2 y3 = some (e, (x4O, ()), ()) := by
  unfold spec_Same_L4 lpT
  rw [h]
  kernel_rfl

theorem spec_Same_L4_if {n q : Nat} {x4 : Bool} {x5 : Int} {y2 : Term} {y3 : Term} {c : Prop} [Decidable c] {e e' : Ex} {x4O : Bool} {x4P : Bool} (h : lp Tryd.prog cfg RN n 5 33 4 0 q (spec_Same_S4 x4 x5 y2 y3) = some (if c then (e, spec_Same_O4 x4O) else (e', spec_Same_O4 x4P))) : spec_Same_L4 n q x4 x5 y2 y3 = some (if c then (e, (x4O, ()), ()) else (e', (x4P, ()), ())) := by
  by_cases hc : c
  · rw [if_pos hc] at h ⊢; exact spec_Same_L4_of h
  · rw [if_neg hc] at h ⊢; exact spec_Same_L4_of h

@[reducible] def laws_toIntS_S3 (t0 : Bool) (x0 : List Int) (x3 : List Int) (x4 : Int) : St := ⟨frOf [(0, .sl t0 .int x0), (3, .c (.row (.own 3) .int)), (4, .int x4)], hpIds [(.own 3, .row true .int x3)]⟩

@[reducible] def laws_toIntS_O3 (x3 : List Int) : St := ⟨frOf [(3, .c (.row (.own 3) .int))], hpIds [(.own 3, .row true .int x3)]⟩

noncomputable def laws_toIntS_L3 (n q : Nat) (t0 : Bool) (x0 : List Int) (x3 : List Int) (x4 : Int) : Option (Ex × (Unit × Unit) × List Int × Unit) := lpT Tryd.prog cfg RN n 5 45 3 0 q (laws_toIntS_S3 t0 x0 x3 x4)

theorem laws_toIntS_L3_of {n q : Nat} {t0 : Bool} {x0 : List Int} {x3 : List Int} {x4 : Int} {e : Ex} {x3O : List Int} (h : lp Tryd.prog cfg RN n 5 45 3 0 q (laws_toIntS_S3 t0 x0 x3 x4) = some (e, laws_toIntS_O3 x3O)) : laws_toIntS_L3 n q t0 x0 x3 x4 = some (e, ((), ()), x3O, ()) := by
  unfold laws_toIntS_L3 lpT
  rw [h]
  kernel_rfl

theorem laws_toIntS_L3_if {n q : Nat} {t0 : Bool} {x0 : List Int} {x3 : List Int} {x4 : Int} {c : Prop} [Decidable c] {e e' : Ex} {x3O : List Int} {x3P : List Int} (h : lp Tryd.prog cfg RN n 5 45 3 0 q (laws_toIntS_S3 t0 x0 x3 x4) = some (if c then (e, laws_toIntS_O3 x3O) else (e', laws_toIntS_O3 x3P))) : laws_toIntS_L3 n q t0 x0 x3 x4 = some (if c then (e, ((), ()), x3O, ()) else (e', ((), ()), x3P, ())) := by
  by_cases hc : c
  · rw [if_pos hc] at h ⊢; exact laws_toIntS_L3_of h
  · rw [if_neg hc] at h ⊢; exact laws_toIntS_L3_of h

@[reducible] def laws_eqIntS_S4 (t0 : Bool) (x0 : List Int) (t1 : Bool) (x1 : List Int) (x4 : Bool) (x5 : Int) : St := ⟨frOf [(0, .sl t0 .int x0), (1, .sl t1 .int x1), (4, .bool x4), (5, .int x5)], hpIds []⟩

@[reducible] def laws_eqIntS_O4 (x4 : Bool) : St := ⟨frOf [(4, .bool x4)], hpIds []⟩

noncomputable def laws_eqIntS_L4 (n q : Nat) (t0 : Bool) (x0 : List Int) (t1 : Bool) (x1 : List Int) (x4 : Bool) (x5 : Int) : Option (Ex × (Bool × Unit) × Unit) := lpT Tryd.prog cfg RN n 5 48 4 0 q (laws_eqIntS_S4 t0 x0 t1 x1 x4 x5)

theorem laws_eqIntS_L4_of {n q : Nat} {t0 : Bool} {x0 : List Int} {t1 : Bool} {x1 : List Int} {x4 : Bool} {x5 : Int} {e : Ex} {x4O : Bool} (h : lp Tryd.prog cfg RN n 5 48 4 0 q (laws_eqIntS_S4 t0 x0 t1 x1 x4 x5) = some (e, laws_eqIntS_O4 x4O)) : laws_eqIntS_L4 n q t0 x0 t1 x1 x4 x5 = some (e, (x4O, ()), ()) := by
  unfold laws_eqIntS_L4 lpT
  rw [h]
  kernel_rfl

theorem laws_eqIntS_L4_if {n q : Nat} {t0 : Bool} {x0 : List Int} {t1 : Bool} {x1 : List Int} {x4 : Bool} {x5 : Int} {c : Prop} [Decidable c] {e e' : Ex} {x4O : Bool} {x4P : Bool} (h : lp Tryd.prog cfg RN n 5 48 4 0 q (laws_eqIntS_S4 t0 x0 t1 x1 x4 x5) = some (if c then (e, laws_eqIntS_O4 x4O) else (e', laws_eqIntS_O4 x4P))) : laws_eqIntS_L4 n q t0 x0 t1 x1 x4 x5 = some (if c then (e, (x4O, ()), ()) else (e', (x4P, ()), ())) := by
  by_cases hc : c
  · rw [if_pos hc] at h ⊢; exact laws_eqIntS_L4_of h
  · rw [if_neg hc] at h ⊢; exact laws_eqIntS_L4_of h

@[reducible] def laws_szTermS_S5 (t0 : Bool) (x0 : List Term) (x1 : Int) (x4 : Int) (x5 : Int) : St := ⟨frOf [(0, .sl t0 .term x0), (1, .int x1), (4, .int x4), (5, .int x5)], hpIds []⟩

@[reducible] def laws_szTermS_O5 (x1 : Int) (x4 : Int) : St := ⟨frOf [(1, .int x1), (4, .int x4)], hpIds []⟩

noncomputable def laws_szTermS_L5 (n q : Nat) (t0 : Bool) (x0 : List Term) (x1 : Int) (x4 : Int) (x5 : Int) : Option (Ex × (Int × Int × Unit) × Unit) := lpT Tryd.prog cfg RN n 5 56 5 0 q (laws_szTermS_S5 t0 x0 x1 x4 x5)

theorem laws_szTermS_L5_of {n q : Nat} {t0 : Bool} {x0 : List Term} {x1 : Int} {x4 : Int} {x5 : Int} {e : Ex} {x1O : Int} {x4O : Int} (h : lp Tryd.prog cfg RN n 5 56 5 0 q (laws_szTermS_S5 t0 x0 x1 x4 x5) = some (e, laws_szTermS_O5 x1O x4O)) : laws_szTermS_L5 n q t0 x0 x1 x4 x5 = some (e, (x1O, x4O, ()), ()) := by
  unfold laws_szTermS_L5 lpT
  rw [h]
  kernel_rfl

theorem laws_szTermS_L5_if {n q : Nat} {t0 : Bool} {x0 : List Term} {x1 : Int} {x4 : Int} {x5 : Int} {c : Prop} [Decidable c] {e e' : Ex} {x1O : Int} {x4O : Int} {x1P : Int} {x4P : Int} (h : lp Tryd.prog cfg RN n 5 56 5 0 q (laws_szTermS_S5 t0 x0 x1 x4 x5) = some (if c then (e, laws_szTermS_O5 x1O x4O) else (e', laws_szTermS_O5 x1P x4P))) : laws_szTermS_L5 n q t0 x0 x1 x4 x5 = some (if c then (e, (x1O, x4O, ()), ()) else (e', (x1P, x4P, ()), ())) := by
  by_cases hc : c
  · rw [if_pos hc] at h ⊢; exact laws_szTermS_L5_of h
  · rw [if_neg hc] at h ⊢; exact laws_szTermS_L5_of h

@[reducible] def laws_toTermS_S3 (t0 : Bool) (x0 : List Term) (x3 : List Term) (x4 : Int) : St := ⟨frOf [(0, .sl t0 .term x0), (3, .c (.row (.own 3) .term)), (4, .int x4)], hpIds [(.own 3, .row true .term x3)]⟩

@[reducible] def laws_toTermS_O3 (x3 : List Term) : St := ⟨frOf [(3, .c (.row (.own 3) .term))], hpIds [(.own 3, .row true .term x3)]⟩

noncomputable def laws_toTermS_L3 (n q : Nat) (t0 : Bool) (x0 : List Term) (x3 : List Term) (x4 : Int) : Option (Ex × (Unit × Unit) × List Term × Unit) := lpT Tryd.prog cfg RN n 5 65 3 0 q (laws_toTermS_S3 t0 x0 x3 x4)

theorem laws_toTermS_L3_of {n q : Nat} {t0 : Bool} {x0 : List Term} {x3 : List Term} {x4 : Int} {e : Ex} {x3O : List Term} (h : lp Tryd.prog cfg RN n 5 65 3 0 q (laws_toTermS_S3 t0 x0 x3 x4) = some (e, laws_toTermS_O3 x3O)) : laws_toTermS_L3 n q t0 x0 x3 x4 = some (e, ((), ()), x3O, ()) := by
  unfold laws_toTermS_L3 lpT
  rw [h]
  kernel_rfl

theorem laws_toTermS_L3_if {n q : Nat} {t0 : Bool} {x0 : List Term} {x3 : List Term} {x4 : Int} {c : Prop} [Decidable c] {e e' : Ex} {x3O : List Term} {x3P : List Term} (h : lp Tryd.prog cfg RN n 5 65 3 0 q (laws_toTermS_S3 t0 x0 x3 x4) = some (if c then (e, laws_toTermS_O3 x3O) else (e', laws_toTermS_O3 x3P))) : laws_toTermS_L3 n q t0 x0 x3 x4 = some (if c then (e, ((), ()), x3O, ()) else (e', ((), ()), x3P, ())) := by
  by_cases hc : c
  · rw [if_pos hc] at h ⊢; exact laws_toTermS_L3_of h
  · rw [if_neg hc] at h ⊢; exact laws_toTermS_L3_of h

@[reducible] def laws_eqTermS_S4 (t0 : Bool) (x0 : List Term) (t1 : Bool) (x1 : List Term) (x4 : Bool) (x5 : Int) : St := ⟨frOf [(0, .sl t0 .term x0), (1, .sl t1 .term x1), (4, .bool x4), (5, .int x5)], hpIds []⟩

@[reducible] def laws_eqTermS_O4 (x4 : Bool) : St := ⟨frOf [(4, .bool x4)], hpIds []⟩

noncomputable def laws_eqTermS_L4 (n q : Nat) (t0 : Bool) (x0 : List Term) (t1 : Bool) (x1 : List Term) (x4 : Bool) (x5 : Int) : Option (Ex × (Bool × Unit) × Unit) := lpT Tryd.prog cfg RN n 5 74 4 0 q (laws_eqTermS_S4 t0 x0 t1 x1 x4 x5)

theorem laws_eqTermS_L4_of {n q : Nat} {t0 : Bool} {x0 : List Term} {t1 : Bool} {x1 : List Term} {x4 : Bool} {x5 : Int} {e : Ex} {x4O : Bool} (h : lp Tryd.prog cfg RN n 5 74 4 0 q (laws_eqTermS_S4 t0 x0 t1 x1 x4 x5) = some (e, laws_eqTermS_O4 x4O)) : laws_eqTermS_L4 n q t0 x0 t1 x1 x4 x5 = some (e, (x4O, ()), ()) := by
  unfold laws_eqTermS_L4 lpT
  rw [h]
  kernel_rfl

theorem laws_eqTermS_L4_if {n q : Nat} {t0 : Bool} {x0 : List Term} {t1 : Bool} {x1 : List Term} {x4 : Bool} {x5 : Int} {c : Prop} [Decidable c] {e e' : Ex} {x4O : Bool} {x4P : Bool} (h : lp Tryd.prog cfg RN n 5 74 4 0 q (laws_eqTermS_S4 t0 x0 t1 x1 x4 x5) = some (if c then (e, laws_eqTermS_O4 x4O) else (e', laws_eqTermS_O4 x4P))) : laws_eqTermS_L4 n q t0 x0 t1 x1 x4 x5 = some (if c then (e, (x4O, ()), ()) else (e', (x4P, ()), ())) := by
  by_cases hc : c
  · rw [if_pos hc] at h ⊢; exact laws_eqTermS_L4_of h
  · rw [if_neg hc] at h ⊢; exact laws_eqTermS_L4_of h

@[reducible] def spec_l5Labels_S3 (x0 : ByteArray) (x1 : Int) (x4 : Bool) (t5 : Bool) (x5 : List ByteArray) (x6 : Int) : St := ⟨frOf [(0, .str x0), (1, .int x1), (4, .bool x4), (5, .sl t5 .str x5), (6, .int x6)], hpIds []⟩

@[reducible] def spec_l5Labels_O3 (x0 : ByteArray) (x1 : Int) (x4 : Bool) (t5 : Bool) (x5 : List ByteArray) : St := ⟨frOf [(0, .str x0), (1, .int x1), (4, .bool x4), (5, .sl t5 .str x5)], hpIds []⟩

noncomputable def spec_l5Labels_L3 (n q : Nat) (x0 : ByteArray) (x1 : Int) (x4 : Bool) (t5 : Bool) (x5 : List ByteArray) (x6 : Int) : Option (Ex × (ByteArray × Int × Bool × List ByteArray × Unit) × Unit) := lpT Tryd.prog cfg RN n 5 80 3 0 q (spec_l5Labels_S3 x0 x1 x4 t5 x5 x6)

theorem spec_l5Labels_L3_of {n q : Nat} {x0 : ByteArray} {x1 : Int} {x4 : Bool} {t5 : Bool} {x5 : List ByteArray} {x6 : Int} {e : Ex} {x0O : ByteArray} {x1O : Int} {x4O : Bool} {t5O : Bool} {x5O : List ByteArray} (h : lp Tryd.prog cfg RN n 5 80 3 0 q (spec_l5Labels_S3 x0 x1 x4 t5 x5 x6) = some (e, spec_l5Labels_O3 x0O x1O x4O t5O x5O)) : spec_l5Labels_L3 n q x0 x1 x4 t5 x5 x6 = some (e, (x0O, x1O, x4O, x5O, ()), ()) := by
  unfold spec_l5Labels_L3 lpT
  rw [h]
  kernel_rfl

theorem spec_l5Labels_L3_if {n q : Nat} {x0 : ByteArray} {x1 : Int} {x4 : Bool} {t5 : Bool} {x5 : List ByteArray} {x6 : Int} {c : Prop} [Decidable c] {e e' : Ex} {x0O : ByteArray} {x1O : Int} {x4O : Bool} {t5O : Bool} {x5O : List ByteArray} {x0P : ByteArray} {x1P : Int} {x4P : Bool} {t5P : Bool} {x5P : List ByteArray} (h : lp Tryd.prog cfg RN n 5 80 3 0 q (spec_l5Labels_S3 x0 x1 x4 t5 x5 x6) = some (if c then (e, spec_l5Labels_O3 x0O x1O x4O t5O x5O) else (e', spec_l5Labels_O3 x0P x1P x4P t5P x5P))) : spec_l5Labels_L3 n q x0 x1 x4 t5 x5 x6 = some (if c then (e, (x0O, x1O, x4O, x5O, ()), ()) else (e', (x0P, x1P, x4P, x5P, ()), ())) := by
  by_cases hc : c
  · rw [if_pos hc] at h ⊢; exact spec_l5Labels_L3_of h
  · rw [if_neg hc] at h ⊢; exact spec_l5Labels_L3_of h

@[reducible] def spec_TermSize_S3 (x3 : Int) (x4 : Int) (y1 : Term) : St := ⟨frOf [(1, .c (.bx (.own 1) 0)), (3, .int x3), (4, .int x4)], hpIds [(.own 1, .box ((Term.cells y1).map C.f))]⟩

@[reducible] def spec_TermSize_O3 (x3 : Int) : St := ⟨frOf [(3, .int x3)], hpIds []⟩

noncomputable def spec_TermSize_L3 (n q : Nat) (x3 : Int) (x4 : Int) (y1 : Term) : Option (Ex × (Int × Unit) × Unit) := lpT Tryd.prog cfg RN n 5 81 3 0 q (spec_TermSize_S3 x3 x4 y1)

theorem spec_TermSize_L3_of {n q : Nat} {x3 : Int} {x4 : Int} {y1 : Term} {e : Ex} {x3O : Int} (h : lp Tryd.prog cfg RN n 5 81 3 0 q (spec_TermSize_S3 x3 x4 y1) = some (e, spec_TermSize_O3 x3O)) : spec_TermSize_L3 n q x3 x4 y1 = some (e, (x3O, ()), ()) := by
  unfold spec_TermSize_L3 lpT
  rw [h]
  kernel_rfl

theorem spec_TermSize_L3_if {n q : Nat} {x3 : Int} {x4 : Int} {y1 : Term} {c : Prop} [Decidable c] {e e' : Ex} {x3O : Int} {x3P : Int} (h : lp Tryd.prog cfg RN n 5 81 3 0 q (spec_TermSize_S3 x3 x4 y1) = some (if c then (e, spec_TermSize_O3 x3O) else (e', spec_TermSize_O3 x3P))) : spec_TermSize_L3 n q x3 x4 y1 = some (if c then (e, (x3O, ()), ()) else (e', (x3P, ()), ())) := by
  by_cases hc : c
  · rw [if_pos hc] at h ⊢; exact spec_TermSize_L3_of h
  · rw [if_neg hc] at h ⊢; exact spec_TermSize_L3_of h

@[reducible] def spec_l1Right_S4 (x2 : Bool) (x3 : Int) (y1 : Term) : St := ⟨frOf [(1, .c (.bx (.own 1) 0)), (2, .bool x2), (3, .int x3)], hpIds [(.own 1, .box ((Term.cells y1).map C.f))]⟩

@[reducible] def spec_l1Right_O4 (x2 : Bool) (y1 : Term) : St := ⟨frOf [(1, .c (.bx (.own 1) 0)), (2, .bool x2)], hpIds [(.own 1, .box ((Term.cells y1).map C.f))]⟩

noncomputable def spec_l1Right_L4 (n q : Nat) (x2 : Bool) (x3 : Int) (y1 : Term) : Option (Ex × (Unit × Bool × Unit) × Term × Unit) := lpT Tryd.prog cfg RN n 5 82 4 0 q (spec_l1Right_S4 x2 x3 y1)

theorem spec_l1Right_L4_of {n q : Nat} {x2 : Bool} {x3 : Int} {y1 : Term} {e : Ex} {x2O : Bool} {y1O : Term} (h : lp Tryd.prog cfg RN n 5 82 4 0 q (spec_l1Right_S4 x2 x3 y1) = some (e, spec_l1Right_O4 x2O y1O)) : spec_l1Right_L4 n q x2 x3 y1 = some (e, ((), x2O, ()), y1O, ()) := by
  unfold spec_l1Right_L4 lpT
  rw [h]
  exact Eq.trans (b := some (e, ((), x2O, ()), (⟨y1O.op, y1O.n, y1O.s, y1O.kids⟩ : Term), ())) (by kernel_rfl) (by simp only [Term.eta])

theorem spec_l1Right_L4_if {n q : Nat} {x2 : Bool} {x3 : Int} {y1 : Term} {c : Prop} [Decidable c] {e e' : Ex} {x2O : Bool} {y1O : Term} {x2P : Bool} {y1P : Term} (h : lp Tryd.prog cfg RN n 5 82 4 0 q (spec_l1Right_S4 x2 x3 y1) = some (if c then (e, spec_l1Right_O4 x2O y1O) else (e', spec_l1Right_O4 x2P y1P))) : spec_l1Right_L4 n q x2 x3 y1 = some (if c then (e, ((), x2O, ()), y1O, ()) else (e', ((), x2P, ()), y1P, ())) := by
  by_cases hc : c
  · rw [if_pos hc] at h ⊢; exact spec_l1Right_L4_of h
  · rw [if_neg hc] at h ⊢; exact spec_l1Right_L4_of h

@[reducible] def impl_TermSize_S3 (x3 : Int) (t7 : Bool) (x7 : List Term) (x8 : Int) (x9 : Int) : St := ⟨frOf [(3, .int x3), (7, .sl t7 .term x7), (8, .int x8), (9, .int x9)], hpIds []⟩

@[reducible] def impl_TermSize_O3 (x3 : Int) : St := ⟨frOf [(3, .int x3)], hpIds []⟩

noncomputable def impl_TermSize_L3 (n q : Nat) (x3 : Int) (t7 : Bool) (x7 : List Term) (x8 : Int) (x9 : Int) : Option (Ex × (Int × Unit) × Unit) := lpT Tryd.prog cfg RN n 5 84 3 0 q (impl_TermSize_S3 x3 t7 x7 x8 x9)

theorem impl_TermSize_L3_of {n q : Nat} {x3 : Int} {t7 : Bool} {x7 : List Term} {x8 : Int} {x9 : Int} {e : Ex} {x3O : Int} (h : lp Tryd.prog cfg RN n 5 84 3 0 q (impl_TermSize_S3 x3 t7 x7 x8 x9) = some (e, impl_TermSize_O3 x3O)) : impl_TermSize_L3 n q x3 t7 x7 x8 x9 = some (e, (x3O, ()), ()) := by
  unfold impl_TermSize_L3 lpT
  rw [h]
  kernel_rfl

theorem impl_TermSize_L3_if {n q : Nat} {x3 : Int} {t7 : Bool} {x7 : List Term} {x8 : Int} {x9 : Int} {c : Prop} [Decidable c] {e e' : Ex} {x3O : Int} {x3P : Int} (h : lp Tryd.prog cfg RN n 5 84 3 0 q (impl_TermSize_S3 x3 t7 x7 x8 x9) = some (if c then (e, impl_TermSize_O3 x3O) else (e', impl_TermSize_O3 x3P))) : impl_TermSize_L3 n q x3 t7 x7 x8 x9 = some (if c then (e, (x3O, ()), ()) else (e', (x3P, ()), ())) := by
  by_cases hc : c
  · rw [if_pos hc] at h ⊢; exact impl_TermSize_L3_of h
  · rw [if_neg hc] at h ⊢; exact impl_TermSize_L3_of h

@[reducible] def IndexFunc_ServerOk_1_S2 (t0 : Bool) (x0 : List Int) (x4 : Int) (x7 : Int) (x8 : Int) : St := ⟨frOf [(0, .sl t0 .int x0), (1, .c (.fn 47 [])), (4, .int x4), (7, .int x7), (8, .int x8)], hpIds []⟩

@[reducible] def IndexFunc_ServerOk_1_O2 (x4 : Int) : St := ⟨frOf [(4, .int x4)], hpIds []⟩

noncomputable def IndexFunc_ServerOk_1_L2 (n q : Nat) (t0 : Bool) (x0 : List Int) (x4 : Int) (x7 : Int) (x8 : Int) : Option (Ex × (Int × Unit) × Unit) := lpT Tryd.prog cfg RN n 5 89 2 0 q (IndexFunc_ServerOk_1_S2 t0 x0 x4 x7 x8)

theorem IndexFunc_ServerOk_1_L2_of {n q : Nat} {t0 : Bool} {x0 : List Int} {x4 : Int} {x7 : Int} {x8 : Int} {e : Ex} {x4O : Int} (h : lp Tryd.prog cfg RN n 5 89 2 0 q (IndexFunc_ServerOk_1_S2 t0 x0 x4 x7 x8) = some (e, IndexFunc_ServerOk_1_O2 x4O)) : IndexFunc_ServerOk_1_L2 n q t0 x0 x4 x7 x8 = some (e, (x4O, ()), ()) := by
  unfold IndexFunc_ServerOk_1_L2 lpT
  rw [h]
  kernel_rfl

theorem IndexFunc_ServerOk_1_L2_if {n q : Nat} {t0 : Bool} {x0 : List Int} {x4 : Int} {x7 : Int} {x8 : Int} {c : Prop} [Decidable c] {e e' : Ex} {x4O : Int} {x4P : Int} (h : lp Tryd.prog cfg RN n 5 89 2 0 q (IndexFunc_ServerOk_1_S2 t0 x0 x4 x7 x8) = some (if c then (e, IndexFunc_ServerOk_1_O2 x4O) else (e', IndexFunc_ServerOk_1_O2 x4P))) : IndexFunc_ServerOk_1_L2 n q t0 x0 x4 x7 x8 = some (if c then (e, (x4O, ()), ()) else (e', (x4P, ()), ())) := by
  by_cases hc : c
  · rw [if_pos hc] at h ⊢; exact IndexFunc_ServerOk_1_L2_of h
  · rw [if_neg hc] at h ⊢; exact IndexFunc_ServerOk_1_L2_of h

@[reducible] def spec_Labels_S4 (x0 : ByteArray) (x3 : List ByteArray) (x4 : Int) (x5 : Int) : St := ⟨frOf [(0, .str x0), (3, .c (.row (.own 3) .str)), (4, .int x4), (5, .int x5)], hpIds [(.own 3, .row true .str x3)]⟩

@[reducible] def spec_Labels_O4 (x3 : List ByteArray) : St := ⟨frOf [(3, .c (.row (.own 3) .str))], hpIds [(.own 3, .row true .str x3)]⟩

noncomputable def spec_Labels_L4 (n q : Nat) (x0 : ByteArray) (x3 : List ByteArray) (x4 : Int) (x5 : Int) : Option (Ex × (Unit × Unit) × List ByteArray × Unit) := lpT Tryd.prog cfg RN n 5 114 4 0 q (spec_Labels_S4 x0 x3 x4 x5)

theorem spec_Labels_L4_of {n q : Nat} {x0 : ByteArray} {x3 : List ByteArray} {x4 : Int} {x5 : Int} {e : Ex} {x3O : List ByteArray} (h : lp Tryd.prog cfg RN n 5 114 4 0 q (spec_Labels_S4 x0 x3 x4 x5) = some (e, spec_Labels_O4 x3O)) : spec_Labels_L4 n q x0 x3 x4 x5 = some (e, ((), ()), x3O, ()) := by
  unfold spec_Labels_L4 lpT
  rw [h]
  kernel_rfl

theorem spec_Labels_L4_if {n q : Nat} {x0 : ByteArray} {x3 : List ByteArray} {x4 : Int} {x5 : Int} {c : Prop} [Decidable c] {e e' : Ex} {x3O : List ByteArray} {x3P : List ByteArray} (h : lp Tryd.prog cfg RN n 5 114 4 0 q (spec_Labels_S4 x0 x3 x4 x5) = some (if c then (e, spec_Labels_O4 x3O) else (e', spec_Labels_O4 x3P))) : spec_Labels_L4 n q x0 x3 x4 x5 = some (if c then (e, ((), ()), x3O, ()) else (e', ((), ()), x3P, ())) := by
  by_cases hc : c
  · rw [if_pos hc] at h ⊢; exact spec_Labels_L4_of h
  · rw [if_neg hc] at h ⊢; exact spec_Labels_L4_of h

@[reducible] def spec_l5Label_S2 (x0 : ByteArray) (x2 : Bool) (x3 : Int) : St := ⟨frOf [(0, .str x0), (2, .bool x2), (3, .int x3)], hpIds []⟩

@[reducible] def spec_l5Label_O2 (x0 : ByteArray) (x2 : Bool) : St := ⟨frOf [(0, .str x0), (2, .bool x2)], hpIds []⟩

noncomputable def spec_l5Label_L2 (n q : Nat) (x0 : ByteArray) (x2 : Bool) (x3 : Int) : Option (Ex × (ByteArray × Bool × Unit) × Unit) := lpT Tryd.prog cfg RN n 5 115 2 0 q (spec_l5Label_S2 x0 x2 x3)

theorem spec_l5Label_L2_of {n q : Nat} {x0 : ByteArray} {x2 : Bool} {x3 : Int} {e : Ex} {x0O : ByteArray} {x2O : Bool} (h : lp Tryd.prog cfg RN n 5 115 2 0 q (spec_l5Label_S2 x0 x2 x3) = some (e, spec_l5Label_O2 x0O x2O)) : spec_l5Label_L2 n q x0 x2 x3 = some (e, (x0O, x2O, ()), ()) := by
  unfold spec_l5Label_L2 lpT
  rw [h]
  kernel_rfl

theorem spec_l5Label_L2_if {n q : Nat} {x0 : ByteArray} {x2 : Bool} {x3 : Int} {c : Prop} [Decidable c] {e e' : Ex} {x0O : ByteArray} {x2O : Bool} {x0P : ByteArray} {x2P : Bool} (h : lp Tryd.prog cfg RN n 5 115 2 0 q (spec_l5Label_S2 x0 x2 x3) = some (if c then (e, spec_l5Label_O2 x0O x2O) else (e', spec_l5Label_O2 x0P x2P))) : spec_l5Label_L2 n q x0 x2 x3 = some (if c then (e, (x0O, x2O, ()), ()) else (e', (x0P, x2P, ()), ())) := by
  by_cases hc : c
  · rw [if_pos hc] at h ⊢; exact spec_l5Label_L2_of h
  · rw [if_neg hc] at h ⊢; exact spec_l5Label_L2_of h

@[reducible] def spec_Before_S10 (x4 : Bool) (x5 : Int) (y2 : Term) (y3 : Term) : St := ⟨frOf [(2, .c (.bx (.own 2) 0)), (3, .c (.bx (.own 3) 0)), (4, .bool x4), (5, .int x5)], hpIds [(.own 2, .box ((Term.cells y2).map C.f)), (.own 3, .box ((Term.cells y3).map C.f))]⟩

@[reducible] def spec_Before_O10 (x4 : Bool) : St := ⟨frOf [(4, .bool x4)], hpIds []⟩

noncomputable def spec_Before_L10 (n q : Nat) (x4 : Bool) (x5 : Int) (y2 : Term) (y3 : Term) : Option (Ex × (Bool × Unit) × Unit) := lpT Tryd.prog cfg RN n 5 117 10 0 q (spec_Before_S10 x4 x5 y2 y3)

theorem spec_Before_L10_of {n q : Nat} {x4 : Bool} {x5 : Int} {y2 : Term} {y3 : Term} {e : Ex} {x4O : Bool} (h : lp Tryd.prog cfg RN n 5 117 10 0 q (spec_Before_S10 x4 x5 y2 y3) = some (e, spec_Before_O10 x4O)) : spec_Before_L10 n q x4 x5 y2 y3 = some (e, (x4O, ()), ()) := by
  unfold spec_Before_L10 lpT
  rw [h]
  kernel_rfl

theorem spec_Before_L10_if {n q : Nat} {x4 : Bool} {x5 : Int} {y2 : Term} {y3 : Term} {c : Prop} [Decidable c] {e e' : Ex} {x4O : Bool} {x4P : Bool} (h : lp Tryd.prog cfg RN n 5 117 10 0 q (spec_Before_S10 x4 x5 y2 y3) = some (if c then (e, spec_Before_O10 x4O) else (e', spec_Before_O10 x4P))) : spec_Before_L10 n q x4 x5 y2 y3 = some (if c then (e, (x4O, ()), ()) else (e', (x4P, ()), ())) := by
  by_cases hc : c
  · rw [if_pos hc] at h ⊢; exact spec_Before_L10_of h
  · rw [if_neg hc] at h ⊢; exact spec_Before_L10_of h

@[reducible] def impl_labelOk_S2 (x0 : ByteArray) (x2 : Bool) (x6 : Int) (x7 : Int) : St := ⟨frOf [(0, .str x0), (2, .bool x2), (6, .int x6), (7, .int x7)], hpIds []⟩

@[reducible] def impl_labelOk_O2 (x0 : ByteArray) (x2 : Bool) : St := ⟨frOf [(0, .str x0), (2, .bool x2)], hpIds []⟩

noncomputable def impl_labelOk_L2 (n q : Nat) (x0 : ByteArray) (x2 : Bool) (x6 : Int) (x7 : Int) : Option (Ex × (ByteArray × Bool × Unit) × Unit) := lpT Tryd.prog cfg RN n 5 121 2 0 q (impl_labelOk_S2 x0 x2 x6 x7)

theorem impl_labelOk_L2_of {n q : Nat} {x0 : ByteArray} {x2 : Bool} {x6 : Int} {x7 : Int} {e : Ex} {x0O : ByteArray} {x2O : Bool} (h : lp Tryd.prog cfg RN n 5 121 2 0 q (impl_labelOk_S2 x0 x2 x6 x7) = some (e, impl_labelOk_O2 x0O x2O)) : impl_labelOk_L2 n q x0 x2 x6 x7 = some (e, (x0O, x2O, ()), ()) := by
  unfold impl_labelOk_L2 lpT
  rw [h]
  kernel_rfl

theorem impl_labelOk_L2_if {n q : Nat} {x0 : ByteArray} {x2 : Bool} {x6 : Int} {x7 : Int} {c : Prop} [Decidable c] {e e' : Ex} {x0O : ByteArray} {x2O : Bool} {x0P : ByteArray} {x2P : Bool} (h : lp Tryd.prog cfg RN n 5 121 2 0 q (impl_labelOk_S2 x0 x2 x6 x7) = some (if c then (e, impl_labelOk_O2 x0O x2O) else (e', impl_labelOk_O2 x0P x2P))) : impl_labelOk_L2 n q x0 x2 x6 x7 = some (if c then (e, (x0O, x2O, ()), ()) else (e', (x0P, x2P, ()), ())) := by
  by_cases hc : c
  · rw [if_pos hc] at h ⊢; exact impl_labelOk_L2_of h
  · rw [if_neg hc] at h ⊢; exact impl_labelOk_L2_of h

@[reducible] def impl_Before_S10 (x4 : Bool) (t56 : Bool) (x56 : List Term) (x57 : Int) (x58 : Int) (y3 : Term) : St := ⟨frOf [(3, .c (.bx (.own 3) 0)), (4, .bool x4), (56, .sl t56 .term x56), (57, .int x57), (58, .int x58)], hpIds [(.own 3, .box ((Term.cells y3).map C.f))]⟩

@[reducible] def impl_Before_O10 (x4 : Bool) : St := ⟨frOf [(4, .bool x4)], hpIds []⟩

noncomputable def impl_Before_L10 (n q : Nat) (x4 : Bool) (t56 : Bool) (x56 : List Term) (x57 : Int) (x58 : Int) (y3 : Term) : Option (Ex × (Bool × Unit) × Unit) := lpT Tryd.prog cfg RN n 5 125 10 0 q (impl_Before_S10 x4 t56 x56 x57 x58 y3)

theorem impl_Before_L10_of {n q : Nat} {x4 : Bool} {t56 : Bool} {x56 : List Term} {x57 : Int} {x58 : Int} {y3 : Term} {e : Ex} {x4O : Bool} (h : lp Tryd.prog cfg RN n 5 125 10 0 q (impl_Before_S10 x4 t56 x56 x57 x58 y3) = some (e, impl_Before_O10 x4O)) : impl_Before_L10 n q x4 t56 x56 x57 x58 y3 = some (e, (x4O, ()), ()) := by
  unfold impl_Before_L10 lpT
  rw [h]
  kernel_rfl

theorem impl_Before_L10_if {n q : Nat} {x4 : Bool} {t56 : Bool} {x56 : List Term} {x57 : Int} {x58 : Int} {y3 : Term} {c : Prop} [Decidable c] {e e' : Ex} {x4O : Bool} {x4P : Bool} (h : lp Tryd.prog cfg RN n 5 125 10 0 q (impl_Before_S10 x4 t56 x56 x57 x58 y3) = some (if c then (e, impl_Before_O10 x4O) else (e', impl_Before_O10 x4P))) : impl_Before_L10 n q x4 t56 x56 x57 x58 y3 = some (if c then (e, (x4O, ()), ()) else (e', (x4P, ()), ())) := by
  by_cases hc : c
  · rw [if_pos hc] at h ⊢; exact impl_Before_L10_of h
  · rw [if_neg hc] at h ⊢; exact impl_Before_L10_of h

@[reducible] def EqualFunc_Same_S4 (t1 : Bool) (x1 : List Term) (x6 : Bool) (t15 : Bool) (x15 : List Term) (x16 : Int) (x17 : Int) : St := ⟨frOf [(1, .sl t1 .term x1), (2, .c (.fn 86 [])), (6, .bool x6), (15, .sl t15 .term x15), (16, .int x16), (17, .int x17)], hpIds []⟩

@[reducible] def EqualFunc_Same_O4 (x6 : Bool) : St := ⟨frOf [(6, .bool x6)], hpIds []⟩

noncomputable def EqualFunc_Same_L4 (n q : Nat) (t1 : Bool) (x1 : List Term) (x6 : Bool) (t15 : Bool) (x15 : List Term) (x16 : Int) (x17 : Int) : Option (Ex × (Bool × Unit) × Unit) := lpT Tryd.prog cfg RN n 5 126 4 0 q (EqualFunc_Same_S4 t1 x1 x6 t15 x15 x16 x17)

theorem EqualFunc_Same_L4_of {n q : Nat} {t1 : Bool} {x1 : List Term} {x6 : Bool} {t15 : Bool} {x15 : List Term} {x16 : Int} {x17 : Int} {e : Ex} {x6O : Bool} (h : lp Tryd.prog cfg RN n 5 126 4 0 q (EqualFunc_Same_S4 t1 x1 x6 t15 x15 x16 x17) = some (e, EqualFunc_Same_O4 x6O)) : EqualFunc_Same_L4 n q t1 x1 x6 t15 x15 x16 x17 = some (e, (x6O, ()), ()) := by
  unfold EqualFunc_Same_L4 lpT
  rw [h]
  kernel_rfl

theorem EqualFunc_Same_L4_if {n q : Nat} {t1 : Bool} {x1 : List Term} {x6 : Bool} {t15 : Bool} {x15 : List Term} {x16 : Int} {x17 : Int} {c : Prop} [Decidable c] {e e' : Ex} {x6O : Bool} {x6P : Bool} (h : lp Tryd.prog cfg RN n 5 126 4 0 q (EqualFunc_Same_S4 t1 x1 x6 t15 x15 x16 x17) = some (if c then (e, EqualFunc_Same_O4 x6O) else (e', EqualFunc_Same_O4 x6P))) : EqualFunc_Same_L4 n q t1 x1 x6 t15 x15 x16 x17 = some (if c then (e, (x6O, ()), ()) else (e', (x6P, ()), ())) := by
  by_cases hc : c
  · rw [if_pos hc] at h ⊢; exact EqualFunc_Same_L4_of h
  · rw [if_neg hc] at h ⊢; exact EqualFunc_Same_L4_of h

@[reducible] def IndexFunc_labelsOk_1_S2 (t0 : Bool) (x0 : List ByteArray) (x4 : Int) (x7 : Int) (x8 : Int) : St := ⟨frOf [(0, .sl t0 .str x0), (1, .c (.fn 120 [])), (4, .int x4), (7, .int x7), (8, .int x8)], hpIds []⟩

@[reducible] def IndexFunc_labelsOk_1_O2 (x4 : Int) : St := ⟨frOf [(4, .int x4)], hpIds []⟩

noncomputable def IndexFunc_labelsOk_1_L2 (n q : Nat) (t0 : Bool) (x0 : List ByteArray) (x4 : Int) (x7 : Int) (x8 : Int) : Option (Ex × (Int × Unit) × Unit) := lpT Tryd.prog cfg RN n 5 144 2 0 q (IndexFunc_labelsOk_1_S2 t0 x0 x4 x7 x8)

theorem IndexFunc_labelsOk_1_L2_of {n q : Nat} {t0 : Bool} {x0 : List ByteArray} {x4 : Int} {x7 : Int} {x8 : Int} {e : Ex} {x4O : Int} (h : lp Tryd.prog cfg RN n 5 144 2 0 q (IndexFunc_labelsOk_1_S2 t0 x0 x4 x7 x8) = some (e, IndexFunc_labelsOk_1_O2 x4O)) : IndexFunc_labelsOk_1_L2 n q t0 x0 x4 x7 x8 = some (e, (x4O, ()), ()) := by
  unfold IndexFunc_labelsOk_1_L2 lpT
  rw [h]
  kernel_rfl

theorem IndexFunc_labelsOk_1_L2_if {n q : Nat} {t0 : Bool} {x0 : List ByteArray} {x4 : Int} {x7 : Int} {x8 : Int} {c : Prop} [Decidable c] {e e' : Ex} {x4O : Int} {x4P : Int} (h : lp Tryd.prog cfg RN n 5 144 2 0 q (IndexFunc_labelsOk_1_S2 t0 x0 x4 x7 x8) = some (if c then (e, IndexFunc_labelsOk_1_O2 x4O) else (e', IndexFunc_labelsOk_1_O2 x4P))) : IndexFunc_labelsOk_1_L2 n q t0 x0 x4 x7 x8 = some (if c then (e, (x4O, ()), ()) else (e', (x4P, ()), ())) := by
  by_cases hc : c
  · rw [if_pos hc] at h ⊢; exact IndexFunc_labelsOk_1_L2_of h
  · rw [if_neg hc] at h ⊢; exact IndexFunc_labelsOk_1_L2_of h

@[reducible] def IndexFunc_formOk_1_S2 (t0 : Bool) (x0 : List Term) (x4 : Int) (x7 : Int) (x8 : Int) : St := ⟨frOf [(0, .sl t0 .term x0), (1, .c (.fn 124 [])), (4, .int x4), (7, .int x7), (8, .int x8)], hpIds []⟩

@[reducible] def IndexFunc_formOk_1_O2 (x4 : Int) : St := ⟨frOf [(4, .int x4)], hpIds []⟩

noncomputable def IndexFunc_formOk_1_L2 (n q : Nat) (t0 : Bool) (x0 : List Term) (x4 : Int) (x7 : Int) (x8 : Int) : Option (Ex × (Int × Unit) × Unit) := lpT Tryd.prog cfg RN n 5 145 2 0 q (IndexFunc_formOk_1_S2 t0 x0 x4 x7 x8)

theorem IndexFunc_formOk_1_L2_of {n q : Nat} {t0 : Bool} {x0 : List Term} {x4 : Int} {x7 : Int} {x8 : Int} {e : Ex} {x4O : Int} (h : lp Tryd.prog cfg RN n 5 145 2 0 q (IndexFunc_formOk_1_S2 t0 x0 x4 x7 x8) = some (e, IndexFunc_formOk_1_O2 x4O)) : IndexFunc_formOk_1_L2 n q t0 x0 x4 x7 x8 = some (e, (x4O, ()), ()) := by
  unfold IndexFunc_formOk_1_L2 lpT
  rw [h]
  kernel_rfl

theorem IndexFunc_formOk_1_L2_if {n q : Nat} {t0 : Bool} {x0 : List Term} {x4 : Int} {x7 : Int} {x8 : Int} {c : Prop} [Decidable c] {e e' : Ex} {x4O : Int} {x4P : Int} (h : lp Tryd.prog cfg RN n 5 145 2 0 q (IndexFunc_formOk_1_S2 t0 x0 x4 x7 x8) = some (if c then (e, IndexFunc_formOk_1_O2 x4O) else (e', IndexFunc_formOk_1_O2 x4P))) : IndexFunc_formOk_1_L2 n q t0 x0 x4 x7 x8 = some (if c then (e, (x4O, ()), ()) else (e', (x4P, ()), ())) := by
  by_cases hc : c
  · rw [if_pos hc] at h ⊢; exact IndexFunc_formOk_1_L2_of h
  · rw [if_neg hc] at h ⊢; exact IndexFunc_formOk_1_L2_of h

noncomputable def laws_FnExactServerOk_R (n : Nat) (a0 : Server) : Option (V × List Vm.Obj × List Vm.Obj) := qb (laws_szServer_T a0 1048576) fun x => br (decide (x < 0)) (some (V.c (C.f (F.sc (Value.bool true))), [], [])) (qb (laws_toServer_T a0) fun x => qb (spec_ServerOk_T x) fun x => qb (laws_toServer_T a0) fun x_1 => qb (impl_ServerOk_T x_1) fun x_2 => br (!x_2 == x) (some (V.c (C.f (F.sc (Value.bool false))), [], [])) (qb (laws_toServer_T a0) fun x => qb (laws_eqServer_T x_1 x) fun x => br (!x) (some (V.c (C.f (F.sc (Value.bool false))), [], [])) (some (V.c (C.f (F.sc (Value.bool true))), [], []))))

theorem laws_FnExactServerOk_res (n : Nat) (a0 : Server) : resid Tryd.prog cfg RN n 5 [.ag (Server.cells a0)] [] = laws_FnExactServerOk_R n a0 := by kernel_rfl

noncomputable def laws_szServer_R (n : Nat) (a0 : Server) (a1 : Int) : Option Int := br (decide (IntKind.i64.wrap (a1 - (↑a0.host.size : Int)) < 0)) (some (-1)) (qb (laws_szTerm_T a0.cert (IntKind.i64.wrap (a1 - (↑a0.host.size : Int)))) fun x => br (decide (x < 0)) (some (-1)) (qb (laws_szTerm_T a0.share x) fun x => br (decide (x < 0)) (some (-1)) (qb (laws_szIntS_T a0.got x) fun x => br (decide (x < 0)) (some (-1)) (some x))))

theorem laws_szServer_res (n : Nat) (a0 : Server) (a1 : Int) : residT Tryd.prog cfg RN n 17 [.ag (Server.cells a0), .int a1] (.int) = laws_szServer_R n a0 a1 := by kernel_rfl

theorem laws_szServer_of (n : Nat) (a0 : Server) (a1 : Int) {y} (h : laws_szServer_R n a0 a1 = some y) : laws_szServer_T a0 a1 = some y := presT_of (((laws_szServer_res n a0 a1)).trans h)

noncomputable def spec_ServerOk_R (n : Nat) (a0 : Server) : Option Bool := qb (spec_ServerOk_L2 n n false 0 a0) fun x => br (isRetE x.fst) (some x.snd.fst.snd.fst) (br (isExt 0 x.fst) (br x.snd.snd.fst.tls (qb (spec_TermOk_T x.snd.snd.fst.share) fun x_1 => br (!x_1) (some false) (qb (spec_l1In_T x.snd.snd.fst.step 1 5) fun x_2 => br x_2 (qb (spec_HostOk_T x.snd.snd.fst.host) fun x_3 => br x_3 (qb (spec_l1In_T x.snd.snd.fst.key 0 1000000) fun x_4 => br x_4 (qb (spec_l1In_T x.snd.snd.fst.eph 0 1000000) fun x_5 => br x_5 (qb (spec_TermOk_T x.snd.snd.fst.cert) fun x_6 => br x_6 (qb (spec_l1In_T x.snd.snd.fst.inn 0 100) fun x_7 => br x_7 (qb (spec_l1In_T x.snd.snd.fst.out 0 100) fun x_8 => br x_8 (some (decide ((↑x.snd.snd.fst.got.length : Int) ≤ 20))) (some false)) (some false)) (some false)) (some false)) (some false)) (some false)) (some false))) (br (x.snd.snd.fst.step == 3) (qb (spec_TermOk_T x.snd.snd.fst.share) fun x_1 => br (!x_1) (some false) (br (!x.snd.snd.fst.step == 3) (qb (spec_Same_T x.snd.snd.fst.share (Term.mk 0 0 (ByteArray.mk #[]) [])) fun x_2 => br (!x_2) (some false) (qb (spec_l1In_T x.snd.snd.fst.step 1 5) fun x_3 => br x_3 (qb (spec_HostOk_T x.snd.snd.fst.host) fun x_4 => br x_4 (qb (spec_l1In_T x.snd.snd.fst.key 0 1000000) fun x_5 => br x_5 (qb (spec_l1In_T x.snd.snd.fst.eph 0 1000000) fun x_6 => br x_6 (qb (spec_TermOk_T x.snd.snd.fst.cert) fun x_7 => br x_7 (qb (spec_l1In_T x.snd.snd.fst.inn 0 100) fun x_8 => br x_8 (qb (spec_l1In_T x.snd.snd.fst.out 0 100) fun x_9 => br x_9 (some (decide ((↑x.snd.snd.fst.got.length : Int) ≤ 20))) (some false)) (some false)) (some false)) (some false)) (some false)) (some false)) (some false))) (qb (spec_l1In_T x.snd.snd.fst.step 1 5) fun x_2 => br x_2 (qb (spec_HostOk_T x.snd.snd.fst.host) fun x_3 => br x_3 (qb (spec_l1In_T x.snd.snd.fst.key 0 1000000) fun x_4 => br x_4 (qb (spec_l1In_T x.snd.snd.fst.eph 0 1000000) fun x_5 => br x_5 (qb (spec_TermOk_T x.snd.snd.fst.cert) fun x_6 => br x_6 (qb (spec_l1In_T x.snd.snd.fst.inn 0 100) fun x_7 => br x_7 (qb (spec_l1In_T x.snd.snd.fst.out 0 100) fun x_8 => br x_8 (some (decide ((↑x.snd.snd.fst.got.length : Int) ≤ 20))) (some false)) (some false)) (some false)) (some false)) (some false)) (some false)) (some false)))) (br (!x.snd.snd.fst.step == 3) (qb (spec_Same_T x.snd.snd.fst.share (Term.mk 0 0 (ByteArray.mk #[]) [])) fun x_1 => br (!x_1) (some false) (qb (spec_l1In_T x.snd.snd.fst.step 1 5) fun x_2 => br x_2 (qb (spec_HostOk_T x.snd.snd.fst.host) fun x_3 => br x_3 (qb (spec_l1In_T x.snd.snd.fst.key 0 1000000) fun x_4 => br x_4 (qb (spec_l1In_T x.snd.snd.fst.eph 0 1000000) fun x_5 => br x_5 (qb (spec_TermOk_T x.snd.snd.fst.cert) fun x_6 => br x_6 (qb (spec_l1In_T x.snd.snd.fst.inn 0 100) fun x_7 => br x_7 (qb (spec_l1In_T x.snd.snd.fst.out 0 100) fun x_8 => br x_8 (some (decide ((↑x.snd.snd.fst.got.length : Int) ≤ 20))) (some false)) (some false)) (some false)) (some false)) (some false)) (some false)) (some false))) (qb (spec_l1In_T x.snd.snd.fst.step 1 5) fun x_1 => br x_1 (qb (spec_HostOk_T x.snd.snd.fst.host) fun x_2 => br x_2 (qb (spec_l1In_T x.snd.snd.fst.key 0 1000000) fun x_3 => br x_3 (qb (spec_l1In_T x.snd.snd.fst.eph 0 1000000) fun x_4 => br x_4 (qb (spec_TermOk_T x.snd.snd.fst.cert) fun x_5 => br x_5 (qb (spec_l1In_T x.snd.snd.fst.inn 0 100) fun x_6 => br x_6 (qb (spec_l1In_T x.snd.snd.fst.out 0 100) fun x_7 => br x_7 (some (decide ((↑x.snd.snd.fst.got.length : Int) ≤ 20))) (some false)) (some false)) (some false)) (some false)) (some false)) (some false)) (some false))))) none)

theorem spec_ServerOk_res (n : Nat) (a0 : Server) : residT Tryd.prog cfg RN n 18 [.ag (Server.cells a0)] (.bool) = spec_ServerOk_R n a0 := by kernel_rfl

theorem spec_ServerOk_of (n : Nat) (a0 : Server) {y} (h : spec_ServerOk_R n a0 = some y) : spec_ServerOk_T a0 = some y := presT_of (((spec_ServerOk_res n a0)).trans h)

noncomputable def laws_toServer_R (n : Nat) (a0 : Server) : Option Server := qb (laws_toTerm_T a0.cert) fun x => qb (laws_toTerm_T a0.share) fun x_1 => qb (laws_toIntS_T a0.got) fun x_2 => some (Server.mk a0.step a0.host a0.key a0.eph (Term.mk x.op x.n x.s x.kids) (Term.mk x_1.op x_1.n x_1.s x_1.kids) a0.inn a0.out a0.tls x_2)

theorem laws_toServer_res (n : Nat) (a0 : Server) : residT Tryd.prog cfg RN n 19 [.ag (Server.cells a0)] (.server) = laws_toServer_R n a0 := by kernel_rfl

theorem laws_toServer_of (n : Nat) (a0 : Server) {y} (h : laws_toServer_R n a0 = some y) : laws_toServer_T a0 = some y := presT_of (((laws_toServer_res n a0)).trans h)

noncomputable def impl_ServerOk_R (n : Nat) (a0 : Server) : Option Bool := qb (impl_in_T a0.step 1 5) fun x => br (!x) (some false) (qb (impl_HostOk_T a0.host) fun x => br (!x) (some false) (qb (impl_isAtom_T a0.key) fun x => br (!x) (some false) (qb (impl_isAtom_T a0.eph) fun x => br (!x) (some false) (qb (impl_TermOk_T a0.cert) fun x => br (!x) (some false) (qb (impl_in_T a0.inn 0 100) fun x => br (!x) (some false) (qb (impl_in_T a0.out 0 100) fun x => br (!x) (some false) (br a0.tls (qb (impl_TermOk_T a0.share) fun x => br (!x) (some false) (br (decide ((↑a0.got.length : Int) ≤ 20)) (qb (slices_ContainsFunc_int_int_T a0.got (V.c (C.fn 47 []))) fun x => some !x) (some false))) (br (a0.step == 3) (qb (impl_TermOk_T a0.share) fun x => br (!x) (some false) (br (!a0.step == 3) (qb (impl_noTerm_T a0.share) fun x => br (!x) (some false) (br (decide ((↑a0.got.length : Int) ≤ 20)) (qb (slices_ContainsFunc_int_int_T a0.got (V.c (C.fn 47 []))) fun x => some !x) (some false))) (br (decide ((↑a0.got.length : Int) ≤ 20)) (qb (slices_ContainsFunc_int_int_T a0.got (V.c (C.fn 47 []))) fun x => some !x) (some false)))) (br (!a0.step == 3) (qb (impl_noTerm_T a0.share) fun x => br (!x) (some false) (br (decide ((↑a0.got.length : Int) ≤ 20)) (qb (slices_ContainsFunc_int_int_T a0.got (V.c (C.fn 47 []))) fun x => some !x) (some false))) (br (decide ((↑a0.got.length : Int) ≤ 20)) (qb (slices_ContainsFunc_int_int_T a0.got (V.c (C.fn 47 []))) fun x => some !x) (some false)))))))))))

theorem impl_ServerOk_res (n : Nat) (a0 : Server) : residT Tryd.prog cfg RN n 20 [.ag (Server.cells a0)] (.bool) = impl_ServerOk_R n a0 := by kernel_rfl

theorem impl_ServerOk_of (n : Nat) (a0 : Server) {y} (h : impl_ServerOk_R n a0 = some y) : impl_ServerOk_T a0 = some y := presT_of (((impl_ServerOk_res n a0)).trans h)

noncomputable def laws_eqServer_R (n : Nat) (a0 : Server) (a1 : Server) : Option Bool := br (a0.step != a1.step) (some false) (br (!a0.host.toList == a1.host.toList) (some false) (br (a0.key != a1.key) (some false) (br (a0.eph != a1.eph) (some false) (qb (laws_eqTerm_T a0.cert a1.cert) fun x => br (!x) (some false) (qb (laws_eqTerm_T a0.share a1.share) fun x => br (!x) (some false) (br (a0.inn != a1.inn) (some false) (br (a0.out != a1.out) (some false) (br (!a0.tls == a1.tls) (some false) (qb (laws_eqIntS_T a0.got a1.got) fun x => br (!x) (some false) (some true))))))))))

theorem laws_eqServer_res (n : Nat) (a0 : Server) (a1 : Server) : residT Tryd.prog cfg RN n 21 [.ag (Server.cells a0), .ag (Server.cells a1)] (.bool) = laws_eqServer_R n a0 a1 := by kernel_rfl

theorem laws_eqServer_of (n : Nat) (a0 : Server) (a1 : Server) {y} (h : laws_eqServer_R n a0 a1 = some y) : laws_eqServer_T a0 a1 = some y := presT_of (((laws_eqServer_res n a0 a1)).trans h)

noncomputable def laws_szTerm_R (n : Nat) (a0 : Term) (a1 : Int) : Option Int := br (decide (IntKind.i64.wrap (a1 - (↑a0.s.size : Int)) < 0)) (some (-1)) (qb (laws_szTermS_T a0.kids (IntKind.i64.wrap (a1 - (↑a0.s.size : Int)))) fun x => br (decide (x < 0)) (some (-1)) (some x))

theorem laws_szTerm_res (n : Nat) (a0 : Term) (a1 : Int) : residT Tryd.prog cfg RN n 30 [.ag (Term.cells a0), .int a1] (.int) = laws_szTerm_R n a0 a1 := by kernel_rfl

theorem laws_szTerm_of (n : Nat) (a0 : Term) (a1 : Int) {y} (h : laws_szTerm_R n a0 a1 = some y) : laws_szTerm_T a0 a1 = some y := presT_of (((laws_szTerm_res n a0 a1)).trans h)

noncomputable def spec_l1In_R (n : Nat) (a0 : Int) (a1 : Int) (a2 : Int) : Option Bool := br (decide (a0 ≥ a1)) (some (decide (a0 ≤ a2))) (some false)

theorem spec_l1In_res (n : Nat) (a0 : Int) (a1 : Int) (a2 : Int) : residT Tryd.prog cfg RN n 31 [.int a0, .int a1, .int a2] (.bool) = spec_l1In_R n a0 a1 a2 := by kernel_rfl

theorem spec_l1In_of (n : Nat) (a0 : Int) (a1 : Int) (a2 : Int) {y} (h : spec_l1In_R n a0 a1 a2 = some y) : spec_l1In_T a0 a1 a2 = some y := presT_of (((spec_l1In_res n a0 a1 a2)).trans h)

noncomputable def spec_HostOk_R (n : Nat) (a0 : ByteArray) : Option Bool := qb (spec_l5Labels_T a0 2) fun x => some x

theorem spec_HostOk_res (n : Nat) (a0 : ByteArray) : residT Tryd.prog cfg RN n 32 [.str a0] (.bool) = spec_HostOk_R n a0 := by kernel_rfl

theorem spec_HostOk_of (n : Nat) (a0 : ByteArray) {y} (h : spec_HostOk_R n a0 = some y) : spec_HostOk_T a0 = some y := presT_of (((spec_HostOk_res n a0)).trans h)

noncomputable def spec_Same_R (n : Nat) (a0 : Term) (a1 : Term) : Option Bool := br (a0.op != a1.op) (some false) (br (a0.n != a1.n) (some false) (br (!a0.s.toList == a1.s.toList) (some false) (br ((↑a0.kids.length : Int) != (↑a1.kids.length : Int)) (some false) (qb (spec_Same_L4 n n false 0 a0 a1) fun x => br (isRetE x.fst) (some x.snd.fst.fst) (br (isExt 0 x.fst) (some true) none)))))

theorem spec_Same_res (n : Nat) (a0 : Term) (a1 : Term) : residT Tryd.prog cfg RN n 33 [.ag (Term.cells a0), .ag (Term.cells a1)] (.bool) = spec_Same_R n a0 a1 := by kernel_rfl

theorem spec_Same_of (n : Nat) (a0 : Term) (a1 : Term) {y} (h : spec_Same_R n a0 a1 = some y) : spec_Same_T a0 a1 = some y := presT_of (((spec_Same_res n a0 a1)).trans h)

noncomputable def spec_TermOk_R (n : Nat) (a0 : Term) : Option Bool := qb (spec_TermSize_T a0) fun x => br (decide (x ≤ 200)) (qb (spec_l1Right_T a0) fun x => some x) (some false)

theorem spec_TermOk_res (n : Nat) (a0 : Term) : residT Tryd.prog cfg RN n 34 [.ag (Term.cells a0)] (.bool) = spec_TermOk_R n a0 := by kernel_rfl

theorem spec_TermOk_of (n : Nat) (a0 : Term) {y} (h : spec_TermOk_R n a0 = some y) : spec_TermOk_T a0 = some y := presT_of (((spec_TermOk_res n a0)).trans h)

noncomputable def laws_toTerm_R (n : Nat) (a0 : Term) : Option Term := qb (laws_toTermS_T a0.kids) fun x => some (Term.mk a0.op a0.n a0.s x)

theorem laws_toTerm_res (n : Nat) (a0 : Term) : residT Tryd.prog cfg RN n 35 [.ag (Term.cells a0)] (.el .term) = laws_toTerm_R n a0 := by kernel_rfl

theorem laws_toTerm_of (n : Nat) (a0 : Term) {y} (h : laws_toTerm_R n a0 = some y) : laws_toTerm_T a0 = some y := presT_of (((laws_toTerm_res n a0)).trans h)

noncomputable def impl_in_R (n : Nat) (a0 : Int) (a1 : Int) (a2 : Int) : Option Bool := br (decide (a0 ≥ a1)) (some (decide (a0 ≤ a2))) (some false)

theorem impl_in_res (n : Nat) (a0 : Int) (a1 : Int) (a2 : Int) : residT Tryd.prog cfg RN n 36 [.int a0, .int a1, .int a2] (.bool) = impl_in_R n a0 a1 a2 := by kernel_rfl

theorem impl_in_of (n : Nat) (a0 : Int) (a1 : Int) (a2 : Int) {y} (h : impl_in_R n a0 a1 a2 = some y) : impl_in_T a0 a1 a2 = some y := presT_of (((impl_in_res n a0 a1 a2)).trans h)

noncomputable def impl_HostOk_R (n : Nat) (a0 : ByteArray) : Option Bool := qb (impl_labelsOk_T a0 2) fun x => some x

theorem impl_HostOk_res (n : Nat) (a0 : ByteArray) : residT Tryd.prog cfg RN n 37 [.str a0] (.bool) = impl_HostOk_R n a0 := by kernel_rfl

theorem impl_HostOk_of (n : Nat) (a0 : ByteArray) {y} (h : impl_HostOk_R n a0 = some y) : impl_HostOk_T a0 = some y := presT_of (((impl_HostOk_res n a0)).trans h)

noncomputable def impl_isAtom_R (n : Nat) (a0 : Int) : Option Bool := qb (impl_in_T a0 0 1000000) fun x => some x

theorem impl_isAtom_res (n : Nat) (a0 : Int) : residT Tryd.prog cfg RN n 38 [.int a0] (.bool) = impl_isAtom_R n a0 := by kernel_rfl

theorem impl_isAtom_of (n : Nat) (a0 : Int) {y} (h : impl_isAtom_R n a0 = some y) : impl_isAtom_T a0 = some y := presT_of (((impl_isAtom_res n a0)).trans h)

noncomputable def impl_TermOk_R (n : Nat) (a0 : Term) : Option Bool := qb (impl_TermSize_T a0) fun x => br (decide (x ≤ 200)) (qb (impl_formOk_T a0) fun x => some x) (some false)

theorem impl_TermOk_res (n : Nat) (a0 : Term) : residT Tryd.prog cfg RN n 39 [.ag (Term.cells a0)] (.bool) = impl_TermOk_R n a0 := by kernel_rfl

theorem impl_TermOk_of (n : Nat) (a0 : Term) {y} (h : impl_TermOk_R n a0 = some y) : impl_TermOk_T a0 = some y := presT_of (((impl_TermOk_res n a0)).trans h)

noncomputable def impl_noTerm_R (n : Nat) (a0 : Term) : Option Bool := qb (impl_Same_T a0 (Term.mk 0 0 (ByteArray.mk #[]) [])) fun x => some x

theorem impl_noTerm_res (n : Nat) (a0 : Term) : residT Tryd.prog cfg RN n 40 [.ag (Term.cells a0)] (.bool) = impl_noTerm_R n a0 := by kernel_rfl

theorem impl_noTerm_of (n : Nat) (a0 : Term) {y} (h : impl_noTerm_R n a0 = some y) : impl_noTerm_T a0 = some y := presT_of (((impl_noTerm_res n a0)).trans h)

noncomputable def laws_eqTerm_R (n : Nat) (a0 : Term) (a1 : Term) : Option Bool := br (a0.op != a1.op) (some false) (br (a0.n != a1.n) (some false) (br (!a0.s.toList == a1.s.toList) (some false) (qb (laws_eqTermS_T a0.kids a1.kids) fun x => br (!x) (some false) (some true))))

theorem laws_eqTerm_res (n : Nat) (a0 : Term) (a1 : Term) : residT Tryd.prog cfg RN n 41 [.ag (Term.cells a0), .ag (Term.cells a1)] (.bool) = laws_eqTerm_R n a0 a1 := by kernel_rfl

theorem laws_eqTerm_of (n : Nat) (a0 : Term) (a1 : Term) {y} (h : laws_eqTerm_R n a0 a1 = some y) : laws_eqTerm_T a0 a1 = some y := presT_of (((laws_eqTerm_res n a0 a1)).trans h)

noncomputable def laws_szIntS_R (n : Nat) (a0 : List Int) (a1 : Int) : Option Int := br (decide (IntKind.i64.wrap (a1 - (↑a0.length : Int)) < 0)) (some (-1)) (some (IntKind.i64.wrap (a1 - (↑a0.length : Int))))

theorem laws_szIntS_res (n : Nat) (a0 : List Int) (a1 : Int) : residT Tryd.prog cfg RN n 44 [.sl false .int a0, .int a1] (.int) = laws_szIntS_R n a0 a1 := by kernel_rfl

theorem laws_szIntS_of (n : Nat) (a0 : List Int) (a1 : Int) {y} (h : laws_szIntS_R n a0 a1 = some y) : laws_szIntS_T a0 a1 = some y := presT_of (((laws_szIntS_res n a0 a1)).trans h)

noncomputable def laws_toIntS_R (n : Nat) (a0 : List Int) : Option (List Int) := br (decide ((↑a0.length : Int) = (↑a0.length : Int)) && decide (0 ≤ (↑a0.length : Int)) && (↑a0.length : Int).toNat.ble appMax) (qb (laws_toIntS_L3 n n false a0 (List.replicate (↑a0.length : Int).toNat (zeroEl Kind.int)) 0) fun x => br (isRetE x.fst) none (br (isExt 0 x.fst) (some x.snd.snd.fst) none)) none

theorem laws_toIntS_res (n : Nat) (a0 : List Int) : residT Tryd.prog cfg RN n 45 [.sl false .int a0] (.sl .int) = laws_toIntS_R n a0 := by kernel_rfl

theorem laws_toIntS_of (n : Nat) (a0 : List Int) {y} (h : laws_toIntS_R n a0 = some y) : laws_toIntS_T a0 = some y := presT_of (((laws_toIntS_res n a0)).trans h)

noncomputable def ContainsFunc_ServerOk_1_R (n : Nat) (a0 : List Int) : Option Bool := qb (slices_IndexFunc_int_int_T a0 (V.c (C.fn 47 []))) fun x => some (decide (x ≥ 0))

theorem ContainsFunc_ServerOk_1_res (n : Nat) (a0 : List Int) : residT Tryd.prog cfg RN n 46 [.sl false .int a0, .c (.fn 47 [])] (.bool) = ContainsFunc_ServerOk_1_R n a0 := by kernel_rfl

theorem ContainsFunc_ServerOk_1_of (n : Nat) (a0 : List Int) {y} (h : ContainsFunc_ServerOk_1_R n a0 = some y) : slices_ContainsFunc_int_int_T a0 (.c (.fn 47 [])) = some y := presT_of (((ContainsFunc_ServerOk_1_res n a0)).trans h)

noncomputable def laws_eqIntS_R (n : Nat) (a0 : List Int) (a1 : List Int) : Option Bool := br ((↑a0.length : Int) != (↑a1.length : Int)) (some false) (qb (laws_eqIntS_L4 n n false a0 false a1 false 0) fun x => br (isRetE x.fst) (some x.snd.fst.fst) (br (isExt 0 x.fst) (some true) none))

theorem laws_eqIntS_res (n : Nat) (a0 : List Int) (a1 : List Int) : residT Tryd.prog cfg RN n 48 [.sl false .int a0, .sl false .int a1] (.bool) = laws_eqIntS_R n a0 a1 := by kernel_rfl

theorem laws_eqIntS_of (n : Nat) (a0 : List Int) (a1 : List Int) {y} (h : laws_eqIntS_R n a0 a1 = some y) : laws_eqIntS_T a0 a1 = some y := presT_of (((laws_eqIntS_res n a0 a1)).trans h)

noncomputable def laws_szTermS_R (n : Nat) (a0 : List Term) (a1 : Int) : Option Int := br (decide (IntKind.i64.wrap (a1 - (↑a0.length : Int)) < 0)) (some (-1)) (qb (laws_szTermS_L5 n n false a0 (IntKind.i64.wrap (a1 - (↑a0.length : Int))) 0 0) fun x => br (isRetE x.fst) (some x.snd.fst.snd.fst) (br (isExt 0 x.fst) (some x.snd.fst.fst) none))

theorem laws_szTermS_res (n : Nat) (a0 : List Term) (a1 : Int) : residT Tryd.prog cfg RN n 56 [.sl false .term a0, .int a1] (.int) = laws_szTermS_R n a0 a1 := by kernel_rfl

theorem laws_szTermS_of (n : Nat) (a0 : List Term) (a1 : Int) {y} (h : laws_szTermS_R n a0 a1 = some y) : laws_szTermS_T a0 a1 = some y := presT_of (((laws_szTermS_res n a0 a1)).trans h)

noncomputable def laws_toTermS_R (n : Nat) (a0 : List Term) : Option (List Term) := br (decide ((↑a0.length : Int) = (↑a0.length : Int)) && decide (0 ≤ (↑a0.length : Int)) && (↑a0.length : Int).toNat.ble appMax) (qb (laws_toTermS_L3 n n false a0 (List.replicate (↑a0.length : Int).toNat (zeroEl Kind.term)) 0) fun x => br (isRetE x.fst) none (br (isExt 0 x.fst) (some x.snd.snd.fst) none)) none

theorem laws_toTermS_res (n : Nat) (a0 : List Term) : residT Tryd.prog cfg RN n 65 [.sl false .term a0] (.sl .term) = laws_toTermS_R n a0 := by kernel_rfl

theorem laws_toTermS_of (n : Nat) (a0 : List Term) {y} (h : laws_toTermS_R n a0 = some y) : laws_toTermS_T a0 = some y := presT_of (((laws_toTermS_res n a0)).trans h)

noncomputable def laws_eqTermS_R (n : Nat) (a0 : List Term) (a1 : List Term) : Option Bool := br ((↑a0.length : Int) != (↑a1.length : Int)) (some false) (qb (laws_eqTermS_L4 n n false a0 false a1 false 0) fun x => br (isRetE x.fst) (some x.snd.fst.fst) (br (isExt 0 x.fst) (some true) none))

theorem laws_eqTermS_res (n : Nat) (a0 : List Term) (a1 : List Term) : residT Tryd.prog cfg RN n 74 [.sl false .term a0, .sl false .term a1] (.bool) = laws_eqTermS_R n a0 a1 := by kernel_rfl

theorem laws_eqTermS_of (n : Nat) (a0 : List Term) (a1 : List Term) {y} (h : laws_eqTermS_R n a0 a1 = some y) : laws_eqTermS_T a0 a1 = some y := presT_of (((laws_eqTermS_res n a0 a1)).trans h)

noncomputable def spec_l5Labels_R (n : Nat) (a0 : ByteArray) (a1 : Int) : Option Bool := qb (spec_Labels_T a0) fun x => qb (spec_l5Labels_L3 n n a0 a1 false false x 0) fun x => br (isRetE x.fst) (some x.snd.fst.snd.snd.fst) (br (isExt 0 x.fst) (br (decide ((↑(List.length x.snd.fst.snd.snd.snd.fst) : Int) ≥ x.snd.fst.snd.fst)) (some (decide ((↑(ByteArray.size x.snd.fst.fst) : Int) ≤ 60))) (some false)) none)

theorem spec_l5Labels_res (n : Nat) (a0 : ByteArray) (a1 : Int) : residT Tryd.prog cfg RN n 80 [.str a0, .int a1] (.bool) = spec_l5Labels_R n a0 a1 := by kernel_rfl

theorem spec_l5Labels_of (n : Nat) (a0 : ByteArray) (a1 : Int) {y} (h : spec_l5Labels_R n a0 a1 = some y) : spec_l5Labels_T a0 a1 = some y := presT_of (((spec_l5Labels_res n a0 a1)).trans h)

noncomputable def spec_TermSize_R (n : Nat) (a0 : Term) : Option Int := qb (spec_TermSize_L3 n n 1 0 a0) fun x => br (isRetE x.fst) none (br (isExt 0 x.fst) (some x.snd.fst.fst) none)

theorem spec_TermSize_res (n : Nat) (a0 : Term) : residT Tryd.prog cfg RN n 81 [.ag (Term.cells a0)] (.int) = spec_TermSize_R n a0 := by kernel_rfl

theorem spec_TermSize_of (n : Nat) (a0 : Term) {y} (h : spec_TermSize_R n a0 = some y) : spec_TermSize_T a0 = some y := presT_of (((spec_TermSize_res n a0)).trans h)

noncomputable def spec_l1Right_R (n : Nat) (a0 : Term) : Option Bool := qb (spec_l1Kids_T a0.op) fun x => br (x != (↑a0.kids.length : Int)) (some false) (br (a0.op != 1) (br (a0.n != 0) (some false) (br (a0.op != 2) (br (!a0.s.toList == (ByteArray.mk #[]).toList) (some false) (qb (spec_l1In_T a0.n 0 1000000) fun x => br (!x) (some false) (br (decide ((↑a0.s.size : Int) > 300)) (some false) (qb (spec_l1Right_L4 n n false 0 a0) fun x => br (isRetE x.fst) (some x.snd.fst.snd.fst) (br (isExt 0 x.fst) (br (x.snd.snd.fst.op != 5) (some true) (qb (idx x.snd.snd.fst.kids 1) fun y => qb (idx x.snd.snd.fst.kids 0) fun y_1 => qb (spec_Before_T y y_1) fun x => some !x)) none))))) (qb (spec_l1In_T a0.n 0 1000000) fun x => br (!x) (some false) (br (decide ((↑a0.s.size : Int) > 300)) (some false) (qb (spec_l1Right_L4 n n false 0 a0) fun x => br (isRetE x.fst) (some x.snd.fst.snd.fst) (br (isExt 0 x.fst) (br (x.snd.snd.fst.op != 5) (some true) (qb (idx x.snd.snd.fst.kids 1) fun y => qb (idx x.snd.snd.fst.kids 0) fun y_1 => qb (spec_Before_T y y_1) fun x => some !x)) none)))))) (br (a0.op != 2) (br (!a0.s.toList == (ByteArray.mk #[]).toList) (some false) (qb (spec_l1In_T a0.n 0 1000000) fun x => br (!x) (some false) (br (decide ((↑a0.s.size : Int) > 300)) (some false) (qb (spec_l1Right_L4 n n false 0 a0) fun x => br (isRetE x.fst) (some x.snd.fst.snd.fst) (br (isExt 0 x.fst) (br (x.snd.snd.fst.op != 5) (some true) (qb (idx x.snd.snd.fst.kids 1) fun y => qb (idx x.snd.snd.fst.kids 0) fun y_1 => qb (spec_Before_T y y_1) fun x => some !x)) none))))) (qb (spec_l1In_T a0.n 0 1000000) fun x => br (!x) (some false) (br (decide ((↑a0.s.size : Int) > 300)) (some false) (qb (spec_l1Right_L4 n n false 0 a0) fun x => br (isRetE x.fst) (some x.snd.fst.snd.fst) (br (isExt 0 x.fst) (br (x.snd.snd.fst.op != 5) (some true) (qb (idx x.snd.snd.fst.kids 1) fun y => qb (idx x.snd.snd.fst.kids 0) fun y_1 => qb (spec_Before_T y y_1) fun x => some !x)) none))))))

theorem spec_l1Right_res (n : Nat) (a0 : Term) : residT Tryd.prog cfg RN n 82 [.ag (Term.cells a0)] (.bool) = spec_l1Right_R n a0 := by kernel_rfl

theorem spec_l1Right_of (n : Nat) (a0 : Term) {y} (h : spec_l1Right_R n a0 = some y) : spec_l1Right_T a0 = some y := presT_of (((spec_l1Right_res n a0)).trans h)

noncomputable def impl_labelsOk_R (n : Nat) (a0 : ByteArray) (a1 : Int) : Option Bool := qb (impl_Labels_T a0) fun x => br (decide ((↑a0.size : Int) ≤ 60)) (br (decide ((↑(List.length x) : Int) ≥ a1)) (qb (slices_ContainsFunc_string_string_T x (V.c (C.fn 120 []))) fun x => some !x) (some false)) (some false)

theorem impl_labelsOk_res (n : Nat) (a0 : ByteArray) (a1 : Int) : residT Tryd.prog cfg RN n 83 [.str a0, .int a1] (.bool) = impl_labelsOk_R n a0 a1 := by kernel_rfl

theorem impl_labelsOk_of (n : Nat) (a0 : ByteArray) (a1 : Int) {y} (h : impl_labelsOk_R n a0 a1 = some y) : impl_labelsOk_T a0 a1 = some y := presT_of (((impl_labelsOk_res n a0 a1)).trans h)

noncomputable def impl_TermSize_R (n : Nat) (a0 : Term) : Option Int := qb (impl_TermSize_L3 n n 1 false a0.kids (↑a0.kids.length : Int) 0) fun x => br (isRetE x.fst) none (br (isExt 0 x.fst) (some x.snd.fst.fst) none)

theorem impl_TermSize_res (n : Nat) (a0 : Term) : residT Tryd.prog cfg RN n 84 [.ag (Term.cells a0)] (.int) = impl_TermSize_R n a0 := by kernel_rfl

theorem impl_TermSize_of (n : Nat) (a0 : Term) {y} (h : impl_TermSize_R n a0 = some y) : impl_TermSize_T a0 = some y := presT_of (((impl_TermSize_res n a0)).trans h)

noncomputable def impl_formOk_R (n : Nat) (a0 : Term) : Option Bool := qb (impl_arity_T a0.op) fun x => br ((↑a0.kids.length : Int) != x) (some false) (qb (slices_ContainsFunc_impl_Term_impl_Term_T a0.kids (V.c (C.fn 124 []))) fun x => br x (some false) (br (a0.op == 1) (qb (impl_in_T a0.n 0 1000000) fun x => br x (some (a0.s.toList == (ByteArray.mk #[]).toList)) (some false)) (br (a0.op == 2) (br (a0.n == 0) (some (decide ((↑a0.s.size : Int) ≤ 300))) (some false)) (br (a0.op == 5) (br (a0.n == 0) (br (a0.s.toList == (ByteArray.mk #[]).toList) (qb (idx a0.kids 1) fun y => qb (idx a0.kids 0) fun y_1 => qb (impl_Before_T y y_1) fun x => some !x) (some false)) (some false)) (br (a0.n == 0) (some (a0.s.toList == (ByteArray.mk #[]).toList)) (some false))))))

theorem impl_formOk_res (n : Nat) (a0 : Term) : residT Tryd.prog cfg RN n 85 [.ag (Term.cells a0)] (.bool) = impl_formOk_R n a0 := by kernel_rfl

theorem impl_formOk_of (n : Nat) (a0 : Term) {y} (h : impl_formOk_R n a0 = some y) : impl_formOk_T a0 = some y := presT_of (((impl_formOk_res n a0)).trans h)

noncomputable def impl_Same_R (n : Nat) (a0 : Term) (a1 : Term) : Option Bool := br (a0.op == a1.op) (br (a0.n == a1.n) (br (a0.s.toList == a1.s.toList) (qb (slices_EqualFunc_impl_Term_impl_Term_impl_Term_impl_Term_T a0.kids a1.kids (V.c (C.fn 86 []))) fun x => some x) (some false)) (some false)) (some false)

theorem impl_Same_res (n : Nat) (a0 : Term) (a1 : Term) : residT Tryd.prog cfg RN n 86 [.ag (Term.cells a0), .ag (Term.cells a1)] (.bool) = impl_Same_R n a0 a1 := by kernel_rfl

theorem impl_Same_of (n : Nat) (a0 : Term) (a1 : Term) {y} (h : impl_Same_R n a0 a1 = some y) : impl_Same_T a0 a1 = some y := presT_of (((impl_Same_res n a0 a1)).trans h)

noncomputable def IndexFunc_ServerOk_1_R (n : Nat) (a0 : List Int) : Option Int := qb (IndexFunc_ServerOk_1_L2 n n false a0 0 (↑a0.length : Int) 0) fun x => br (isRetE x.fst) (some x.snd.fst.fst) (br (isExt 0 x.fst) (some (-1)) none)

theorem IndexFunc_ServerOk_1_res (n : Nat) (a0 : List Int) : residT Tryd.prog cfg RN n 89 [.sl false .int a0, .c (.fn 47 [])] (.int) = IndexFunc_ServerOk_1_R n a0 := by kernel_rfl

theorem IndexFunc_ServerOk_1_of (n : Nat) (a0 : List Int) {y} (h : IndexFunc_ServerOk_1_R n a0 = some y) : slices_IndexFunc_int_int_T a0 (.c (.fn 47 [])) = some y := presT_of (((IndexFunc_ServerOk_1_res n a0)).trans h)

noncomputable def spec_Labels_R (n : Nat) (a0 : ByteArray) : Option (List ByteArray) := qb (spec_Labels_L4 n n a0 [] 0 0) fun x => br (isRetE x.fst) none (br (isExt 0 x.fst) (some x.snd.snd.fst) none)

theorem spec_Labels_res (n : Nat) (a0 : ByteArray) : residT Tryd.prog cfg RN n 114 [.str a0] (.sl .str) = spec_Labels_R n a0 := by kernel_rfl

theorem spec_Labels_of (n : Nat) (a0 : ByteArray) {y} (h : spec_Labels_R n a0 = some y) : spec_Labels_T a0 = some y := presT_of (((spec_Labels_res n a0)).trans h)

noncomputable def spec_l5Label_R (n : Nat) (a0 : ByteArray) : Option Bool := qb (spec_l5Label_L2 n n a0 false 0) fun x => br (isRetE x.fst) (some x.snd.fst.snd.fst) (br (isExt 0 x.fst) (qb (spec_l1In_T (↑(ByteArray.size x.snd.fst.fst) : Int) 1 10) fun x => some x) none)

theorem spec_l5Label_res (n : Nat) (a0 : ByteArray) : residT Tryd.prog cfg RN n 115 [.str a0] (.bool) = spec_l5Label_R n a0 := by kernel_rfl

theorem spec_l5Label_of (n : Nat) (a0 : ByteArray) {y} (h : spec_l5Label_R n a0 = some y) : spec_l5Label_T a0 = some y := presT_of (((spec_l5Label_res n a0)).trans h)

noncomputable def spec_l1Kids_R (n : Nat) (a0 : Int) : Option Int := br (a0 == 1) (some 0) (br (a0 == 2) (some 0) (br (a0 == 4) (some 1) (br (a0 == 6) (some 1) (br (a0 == 3) (some 2) (br (a0 == 5) (some 2) (br (a0 == 7) (some 2) (br (a0 == 8) (some 2) (some (-1)))))))))

theorem spec_l1Kids_res (n : Nat) (a0 : Int) : residT Tryd.prog cfg RN n 116 [.int a0] (.int) = spec_l1Kids_R n a0 := by kernel_rfl

theorem spec_l1Kids_of (n : Nat) (a0 : Int) {y} (h : spec_l1Kids_R n a0 = some y) : spec_l1Kids_T a0 = some y := presT_of (((spec_l1Kids_res n a0)).trans h)

noncomputable def spec_Before_R (n : Nat) (a0 : Term) (a1 : Term) : Option Bool := br (a0.op != a1.op) (some (decide (a0.op < a1.op))) (br (a0.n != a1.n) (some (decide (a0.n < a1.n))) (br (!a0.s.toList == a1.s.toList) (some (Op.bytesLess a0.s.toList a1.s.toList)) (br ((↑a0.kids.length : Int) != (↑a1.kids.length : Int)) (some (decide ((↑a0.kids.length : Int) < (↑a1.kids.length : Int)))) (qb (spec_Before_L10 n n false 0 a0 a1) fun x => br (isRetE x.fst) (some x.snd.fst.fst) (br (isExt 1 x.fst) (some false) none)))))

theorem spec_Before_res (n : Nat) (a0 : Term) (a1 : Term) : residT Tryd.prog cfg RN n 117 [.ag (Term.cells a0), .ag (Term.cells a1)] (.bool) = spec_Before_R n a0 a1 := by kernel_rfl

theorem spec_Before_of (n : Nat) (a0 : Term) (a1 : Term) {y} (h : spec_Before_R n a0 a1 = some y) : spec_Before_T a0 a1 = some y := presT_of (((spec_Before_res n a0 a1)).trans h)

noncomputable def impl_Labels_R (n : Nat) (a0 : ByteArray) : Option (List ByteArray) := qb (strings_Split_T a0 (ByteArray.mk #[46])) fun x => some x

theorem impl_Labels_res (n : Nat) (a0 : ByteArray) : residT Tryd.prog cfg RN n 118 [.str a0] (.sl .str) = impl_Labels_R n a0 := by kernel_rfl

theorem impl_Labels_of (n : Nat) (a0 : ByteArray) {y} (h : impl_Labels_R n a0 = some y) : impl_Labels_T a0 = some y := presT_of (((impl_Labels_res n a0)).trans h)

noncomputable def ContainsFunc_labelsOk_1_R (n : Nat) (a0 : List ByteArray) : Option Bool := qb (slices_IndexFunc_string_string_T a0 (V.c (C.fn 120 []))) fun x => some (decide (x ≥ 0))

theorem ContainsFunc_labelsOk_1_res (n : Nat) (a0 : List ByteArray) : residT Tryd.prog cfg RN n 119 [.sl false .str a0, .c (.fn 120 [])] (.bool) = ContainsFunc_labelsOk_1_R n a0 := by kernel_rfl

theorem ContainsFunc_labelsOk_1_of (n : Nat) (a0 : List ByteArray) {y} (h : ContainsFunc_labelsOk_1_R n a0 = some y) : slices_ContainsFunc_string_string_T a0 (.c (.fn 120 [])) = some y := presT_of (((ContainsFunc_labelsOk_1_res n a0)).trans h)

noncomputable def impl_labelOk_R (n : Nat) (a0 : ByteArray) : Option Bool := qb (impl_labelOk_L2 n n a0 false (↑a0.size : Int) 0) fun x => br (isRetE x.fst) (some x.snd.fst.snd.fst) (br (isExt 0 x.fst) (qb (impl_in_T (↑(ByteArray.size x.snd.fst.fst) : Int) 1 10) fun x => some x) none)

theorem impl_labelOk_res (n : Nat) (a0 : ByteArray) : residT Tryd.prog cfg RN n 121 [.str a0] (.bool) = impl_labelOk_R n a0 := by kernel_rfl

theorem impl_labelOk_of (n : Nat) (a0 : ByteArray) {y} (h : impl_labelOk_R n a0 = some y) : impl_labelOk_T a0 = some y := presT_of (((impl_labelOk_res n a0)).trans h)

noncomputable def impl_arity_R (n : Nat) (a0 : Int) : Option Int := br (a0 == 1) (some 0) (br (a0 == 2) (some 0) (br (a0 == 4) (some 1) (br (a0 == 6) (some 1) (br (a0 == 3) (some 2) (br (a0 == 5) (some 2) (br (a0 == 7) (some 2) (br (a0 == 8) (some 2) (some (-1)))))))))

theorem impl_arity_res (n : Nat) (a0 : Int) : residT Tryd.prog cfg RN n 122 [.int a0] (.int) = impl_arity_R n a0 := by kernel_rfl

theorem impl_arity_of (n : Nat) (a0 : Int) {y} (h : impl_arity_R n a0 = some y) : impl_arity_T a0 = some y := presT_of (((impl_arity_res n a0)).trans h)

noncomputable def ContainsFunc_formOk_1_R (n : Nat) (a0 : List Term) : Option Bool := qb (slices_IndexFunc_impl_Term_impl_Term_T a0 (V.c (C.fn 124 []))) fun x => some (decide (x ≥ 0))

theorem ContainsFunc_formOk_1_res (n : Nat) (a0 : List Term) : residT Tryd.prog cfg RN n 123 [.sl false .term a0, .c (.fn 124 [])] (.bool) = ContainsFunc_formOk_1_R n a0 := by kernel_rfl

theorem ContainsFunc_formOk_1_of (n : Nat) (a0 : List Term) {y} (h : ContainsFunc_formOk_1_R n a0 = some y) : slices_ContainsFunc_impl_Term_impl_Term_T a0 (.c (.fn 124 [])) = some y := presT_of (((ContainsFunc_formOk_1_res n a0)).trans h)

noncomputable def impl_Before_R (n : Nat) (a0 : Term) (a1 : Term) : Option Bool := br (a0.op != a1.op) (some (decide (a0.op < a1.op))) (br (a0.n != a1.n) (some (decide (a0.n < a1.n))) (br (!a0.s.toList == a1.s.toList) (some (Op.bytesLess a0.s.toList a1.s.toList)) (br ((↑a0.kids.length : Int) != (↑a1.kids.length : Int)) (some (decide ((↑a0.kids.length : Int) < (↑a1.kids.length : Int)))) (qb (impl_Before_L10 n n false false a0.kids (↑a0.kids.length : Int) 0 a1) fun x => br (isRetE x.fst) (some x.snd.fst.fst) (br (isExt 1 x.fst) (some false) none)))))

theorem impl_Before_res (n : Nat) (a0 : Term) (a1 : Term) : residT Tryd.prog cfg RN n 125 [.ag (Term.cells a0), .ag (Term.cells a1)] (.bool) = impl_Before_R n a0 a1 := by kernel_rfl

theorem impl_Before_of (n : Nat) (a0 : Term) (a1 : Term) {y} (h : impl_Before_R n a0 a1 = some y) : impl_Before_T a0 a1 = some y := presT_of (((impl_Before_res n a0 a1)).trans h)

noncomputable def EqualFunc_Same_R (n : Nat) (a0 : List Term) (a1 : List Term) : Option Bool := br ((↑a0.length : Int) != (↑a1.length : Int)) (some false) (qb (EqualFunc_Same_L4 n n false a1 false false a0 (↑a0.length : Int) 0) fun x => br (isRetE x.fst) (some x.snd.fst.fst) (br (isExt 0 x.fst) (some true) none))

theorem EqualFunc_Same_res (n : Nat) (a0 : List Term) (a1 : List Term) : residT Tryd.prog cfg RN n 126 [.sl false .term a0, .sl false .term a1, .c (.fn 86 [])] (.bool) = EqualFunc_Same_R n a0 a1 := by kernel_rfl

theorem EqualFunc_Same_of (n : Nat) (a0 : List Term) (a1 : List Term) {y} (h : EqualFunc_Same_R n a0 a1 = some y) : slices_EqualFunc_impl_Term_impl_Term_impl_Term_impl_Term_T a0 a1 (.c (.fn 86 [])) = some y := presT_of (((EqualFunc_Same_res n a0 a1)).trans h)

noncomputable def IndexFunc_labelsOk_1_R (n : Nat) (a0 : List ByteArray) : Option Int := qb (IndexFunc_labelsOk_1_L2 n n false a0 0 (↑a0.length : Int) 0) fun x => br (isRetE x.fst) (some x.snd.fst.fst) (br (isExt 0 x.fst) (some (-1)) none)

theorem IndexFunc_labelsOk_1_res (n : Nat) (a0 : List ByteArray) : residT Tryd.prog cfg RN n 144 [.sl false .str a0, .c (.fn 120 [])] (.int) = IndexFunc_labelsOk_1_R n a0 := by kernel_rfl

theorem IndexFunc_labelsOk_1_of (n : Nat) (a0 : List ByteArray) {y} (h : IndexFunc_labelsOk_1_R n a0 = some y) : slices_IndexFunc_string_string_T a0 (.c (.fn 120 [])) = some y := presT_of (((IndexFunc_labelsOk_1_res n a0)).trans h)

noncomputable def IndexFunc_formOk_1_R (n : Nat) (a0 : List Term) : Option Int := qb (IndexFunc_formOk_1_L2 n n false a0 0 (↑a0.length : Int) 0) fun x => br (isRetE x.fst) (some x.snd.fst.fst) (br (isExt 0 x.fst) (some (-1)) none)

theorem IndexFunc_formOk_1_res (n : Nat) (a0 : List Term) : residT Tryd.prog cfg RN n 145 [.sl false .term a0, .c (.fn 124 [])] (.int) = IndexFunc_formOk_1_R n a0 := by kernel_rfl

theorem IndexFunc_formOk_1_of (n : Nat) (a0 : List Term) {y} (h : IndexFunc_formOk_1_R n a0 = some y) : slices_IndexFunc_impl_Term_impl_Term_T a0 (.c (.fn 124 [])) = some y := presT_of (((IndexFunc_formOk_1_res n a0)).trans h)

theorem spec_ServerOk_round2 (n : Nat) (x2 : Bool) (x3 : Int) (y1 : Server) : roundK Tryd.prog cfg RN n 5 18 2 0 (spec_ServerOk_S2 x2 x3 y1) = (br (decide (x3 < (↑y1.got.length : Int))) (qb (idx y1.got x3) fun y => qb (spec_l1In_T y 0 1000000) fun x => br (!x) (some (Ex.ret, spec_ServerOk_O2 false y1)) (some (Ex.nrm, spec_ServerOk_S2 x2 (IntKind.i64.wrap (x3 + 1)) y1))) (some (Ex.ext 0, spec_ServerOk_O2 x2 y1)) : Option (Ex × St)) := by kernel_rfl

theorem spec_Same_round4 (n : Nat) (x4 : Bool) (x5 : Int) (y2 : Term) (y3 : Term) : roundK Tryd.prog cfg RN n 5 33 4 0 (spec_Same_S4 x4 x5 y2 y3) = (br (decide (x5 < (↑y2.kids.length : Int))) (qb (idx y2.kids x5) fun y => qb (idx y3.kids x5) fun y_1 => qb (spec_Same_T y y_1) fun x => br (!x) (some (Ex.ret, spec_Same_O4 false)) (some (Ex.nrm, spec_Same_S4 x4 (IntKind.i64.wrap (x5 + 1)) y2 y3))) (some (Ex.ext 0, spec_Same_O4 x4)) : Option (Ex × St)) := by kernel_rfl

theorem laws_toIntS_round3 (n : Nat) (t0 : Bool) (x0 : List Int) (x3 : List Int) (x4 : Int) : roundK Tryd.prog cfg RN n 5 45 3 0 (laws_toIntS_S3 t0 x0 x3 x4) = (br (decide (x4 < (↑x0.length : Int))) (qb (idx x0 x4) fun y => qb (idx x3 x4) fun y_1 => qb x3[x4.toNat]? fun x => some (Ex.nrm, laws_toIntS_S3 t0 x0 (x3.set x4.toNat y) (IntKind.i64.wrap (x4 + 1)))) (some (Ex.ext 0, laws_toIntS_O3 x3)) : Option (Ex × St)) := by kernel_rfl

theorem laws_eqIntS_round4 (n : Nat) (t0 : Bool) (x0 : List Int) (t1 : Bool) (x1 : List Int) (x4 : Bool) (x5 : Int) : roundK Tryd.prog cfg RN n 5 48 4 0 (laws_eqIntS_S4 t0 x0 t1 x1 x4 x5) = (br (decide (x5 < (↑x0.length : Int))) (qb (idx x0 x5) fun y => qb (idx x1 x5) fun y_1 => br (y != y_1) (some (Ex.ret, laws_eqIntS_O4 false)) (some (Ex.nrm, laws_eqIntS_S4 t0 x0 t1 x1 x4 (IntKind.i64.wrap (x5 + 1))))) (some (Ex.ext 0, laws_eqIntS_O4 x4)) : Option (Ex × St)) := by kernel_rfl

theorem laws_szTermS_round5 (n : Nat) (t0 : Bool) (x0 : List Term) (x1 : Int) (x4 : Int) (x5 : Int) : roundK Tryd.prog cfg RN n 5 56 5 0 (laws_szTermS_S5 t0 x0 x1 x4 x5) = (br (decide (x5 < (↑x0.length : Int))) (qb (idx x0 x5) fun y => qb (laws_szTerm_T y x1) fun x => br (decide (x < 0)) (some (Ex.ret, laws_szTermS_O5 x (-1))) (some (Ex.nrm, laws_szTermS_S5 t0 x0 x x4 (IntKind.i64.wrap (x5 + 1))))) (some (Ex.ext 0, laws_szTermS_O5 x1 x4)) : Option (Ex × St)) := by kernel_rfl

theorem laws_toTermS_round3 (n : Nat) (t0 : Bool) (x0 : List Term) (x3 : List Term) (x4 : Int) : roundK Tryd.prog cfg RN n 5 65 3 0 (laws_toTermS_S3 t0 x0 x3 x4) = (br (decide (x4 < (↑x0.length : Int))) (qb (idx x0 x4) fun y => qb (laws_toTerm_T y) fun x => qb (idx x3 x4) fun y => qb x3[x4.toNat]? fun x_1 => some (Ex.nrm, laws_toTermS_S3 t0 x0 (x3.set x4.toNat (Term.mk x.op x.n x.s x.kids)) (IntKind.i64.wrap (x4 + 1)))) (some (Ex.ext 0, laws_toTermS_O3 x3)) : Option (Ex × St)) := by kernel_rfl

theorem laws_eqTermS_round4 (n : Nat) (t0 : Bool) (x0 : List Term) (t1 : Bool) (x1 : List Term) (x4 : Bool) (x5 : Int) : roundK Tryd.prog cfg RN n 5 74 4 0 (laws_eqTermS_S4 t0 x0 t1 x1 x4 x5) = (br (decide (x5 < (↑x0.length : Int))) (qb (idx x0 x5) fun y => qb (idx x1 x5) fun y_1 => qb (laws_eqTerm_T y y_1) fun x => br (!x) (some (Ex.ret, laws_eqTermS_O4 false)) (some (Ex.nrm, laws_eqTermS_S4 t0 x0 t1 x1 x4 (IntKind.i64.wrap (x5 + 1))))) (some (Ex.ext 0, laws_eqTermS_O4 x4)) : Option (Ex × St)) := by kernel_rfl

theorem spec_l5Labels_round3 (n : Nat) (x0 : ByteArray) (x1 : Int) (x4 : Bool) (t5 : Bool) (x5 : List ByteArray) (x6 : Int) : roundK Tryd.prog cfg RN n 5 80 3 0 (spec_l5Labels_S3 x0 x1 x4 t5 x5 x6) = (br (decide (x6 < (↑x5.length : Int))) (qb (idx x5 x6) fun y => qb (spec_l5Label_T y) fun x => br (!x) (some (Ex.ret, spec_l5Labels_O3 x0 x1 false t5 x5)) (some (Ex.nrm, spec_l5Labels_S3 x0 x1 x4 t5 x5 (IntKind.i64.wrap (x6 + 1))))) (some (Ex.ext 0, spec_l5Labels_O3 x0 x1 x4 t5 x5)) : Option (Ex × St)) := by kernel_rfl

theorem spec_TermSize_round3 (n : Nat) (x3 : Int) (x4 : Int) (y1 : Term) : roundK Tryd.prog cfg RN n 5 81 3 0 (spec_TermSize_S3 x3 x4 y1) = (br (decide (x4 < (↑y1.kids.length : Int))) (qb (idx y1.kids x4) fun y => qb (spec_TermSize_T y) fun x => some (Ex.nrm, spec_TermSize_S3 (IntKind.i64.wrap (x3 + x)) (IntKind.i64.wrap (x4 + 1)) y1)) (some (Ex.ext 0, spec_TermSize_O3 x3)) : Option (Ex × St)) := by kernel_rfl

theorem spec_l1Right_round4 (n : Nat) (x2 : Bool) (x3 : Int) (y1 : Term) : roundK Tryd.prog cfg RN n 5 82 4 0 (spec_l1Right_S4 x2 x3 y1) = (br (decide (x3 < (↑y1.kids.length : Int))) (qb (idx y1.kids x3) fun y => qb (spec_l1Right_T y) fun x => br (!x) (some (Ex.ret, spec_l1Right_O4 false y1)) (some (Ex.nrm, spec_l1Right_S4 x2 (IntKind.i64.wrap (x3 + 1)) y1))) (some (Ex.ext 0, spec_l1Right_O4 x2 y1)) : Option (Ex × St)) := by kernel_rfl

theorem impl_TermSize_round3 (n : Nat) (x3 : Int) (t7 : Bool) (x7 : List Term) (x8 : Int) (x9 : Int) : roundK Tryd.prog cfg RN n 5 84 3 0 (impl_TermSize_S3 x3 t7 x7 x8 x9) = (br (decide (x9 < x8)) (qb (idx x7 x9) fun y => qb (impl_TermSize_T y) fun x => some (Ex.nrm, impl_TermSize_S3 (IntKind.i64.wrap (x3 + x)) t7 x7 x8 (IntKind.i64.wrap (x9 + 1)))) (some (Ex.ext 0, impl_TermSize_O3 x3)) : Option (Ex × St)) := by kernel_rfl

theorem IndexFunc_ServerOk_1_round2 (n : Nat) (t0 : Bool) (x0 : List Int) (x4 : Int) (x7 : Int) (x8 : Int) : roundK Tryd.prog cfg RN n 5 89 2 0 (IndexFunc_ServerOk_1_S2 t0 x0 x4 x7 x8) = (br (decide (x8 < x7)) (qb (idx x0 x8) fun y => qb (impl_isAtom_T y) fun x => br (!x) (some (Ex.ret, IndexFunc_ServerOk_1_O2 x8)) (some (Ex.nrm, IndexFunc_ServerOk_1_S2 t0 x0 x4 x7 (IntKind.i64.wrap (x8 + 1))))) (some (Ex.ext 0, IndexFunc_ServerOk_1_O2 x4)) : Option (Ex × St)) := by kernel_rfl

theorem spec_Labels_round4 (n : Nat) (x0 : ByteArray) (x3 : List ByteArray) (x4 : Int) (x5 : Int) : roundK Tryd.prog cfg RN n 5 114 4 0 (spec_Labels_S4 x0 x3 x4 x5) = (br (decide (x5 ≤ (↑x0.size : Int))) (br (x5 == (↑x0.size : Int)) (qb (bnds x0.size (some x4) (some x5)) fun p => br (((x3).length + [x0.extract p.fst p.snd].length).ble appMax) (some (Ex.nrm, spec_Labels_S4 x0 (x3 ++ [x0.extract p.fst p.snd]) (IntKind.i64.wrap (x5 + 1)) (IntKind.i64.wrap (x5 + 1)))) none) (qb (byteAt x0 x5) fun b => br (b == 46) (qb (bnds x0.size (some x4) (some x5)) fun p => br (((x3).length + [x0.extract p.fst p.snd].length).ble appMax) (some (Ex.nrm, spec_Labels_S4 x0 (x3 ++ [x0.extract p.fst p.snd]) (IntKind.i64.wrap (x5 + 1)) (IntKind.i64.wrap (x5 + 1)))) none) (some (Ex.nrm, spec_Labels_S4 x0 x3 x4 (IntKind.i64.wrap (x5 + 1)))))) (some (Ex.ext 0, spec_Labels_O4 x3)) : Option (Ex × St)) := by kernel_rfl

theorem spec_l5Label_round2 (n : Nat) (x0 : ByteArray) (x2 : Bool) (x3 : Int) : roundK Tryd.prog cfg RN n 5 115 2 0 (spec_l5Label_S2 x0 x2 x3) = (br (decide (x3 < (↑x0.size : Int))) (qb (byteAt x0 x3) fun b => br (decide (b ≥ 97)) (br (decide (b ≤ 122)) (some (Ex.nrm, spec_l5Label_S2 x0 x2 (IntKind.i64.wrap (x3 + 1)))) (br (decide (b ≥ 48)) (br (decide (b ≤ 57)) (some (Ex.nrm, spec_l5Label_S2 x0 x2 (IntKind.i64.wrap (x3 + 1)))) (br (b == 45) (br (decide (x3 > 0)) (br (!decide (x3 < IntKind.i64.wrap ((↑x0.size : Int) - 1))) (some (Ex.ret, spec_l5Label_O2 x0 false)) (some (Ex.nrm, spec_l5Label_S2 x0 x2 (IntKind.i64.wrap (x3 + 1))))) (some (Ex.ret, spec_l5Label_O2 x0 false))) (some (Ex.ret, spec_l5Label_O2 x0 false)))) (br (b == 45) (br (decide (x3 > 0)) (br (!decide (x3 < IntKind.i64.wrap ((↑x0.size : Int) - 1))) (some (Ex.ret, spec_l5Label_O2 x0 false)) (some (Ex.nrm, spec_l5Label_S2 x0 x2 (IntKind.i64.wrap (x3 + 1))))) (some (Ex.ret, spec_l5Label_O2 x0 false))) (some (Ex.ret, spec_l5Label_O2 x0 false))))) (br (decide (b ≥ 48)) (br (decide (b ≤ 57)) (some (Ex.nrm, spec_l5Label_S2 x0 x2 (IntKind.i64.wrap (x3 + 1)))) (br (b == 45) (br (decide (x3 > 0)) (br (!decide (x3 < IntKind.i64.wrap ((↑x0.size : Int) - 1))) (some (Ex.ret, spec_l5Label_O2 x0 false)) (some (Ex.nrm, spec_l5Label_S2 x0 x2 (IntKind.i64.wrap (x3 + 1))))) (some (Ex.ret, spec_l5Label_O2 x0 false))) (some (Ex.ret, spec_l5Label_O2 x0 false)))) (br (b == 45) (br (decide (x3 > 0)) (br (!decide (x3 < IntKind.i64.wrap ((↑x0.size : Int) - 1))) (some (Ex.ret, spec_l5Label_O2 x0 false)) (some (Ex.nrm, spec_l5Label_S2 x0 x2 (IntKind.i64.wrap (x3 + 1))))) (some (Ex.ret, spec_l5Label_O2 x0 false))) (some (Ex.ret, spec_l5Label_O2 x0 false))))) (some (Ex.ext 0, spec_l5Label_O2 x0 x2)) : Option (Ex × St)) := by kernel_rfl

theorem spec_Before_round10 (n : Nat) (x4 : Bool) (x5 : Int) (y2 : Term) (y3 : Term) : roundK Tryd.prog cfg RN n 5 117 10 0 (spec_Before_S10 x4 x5 y2 y3) = (br (decide (x5 < (↑y2.kids.length : Int))) (qb (idx y2.kids x5) fun y => qb (idx y3.kids x5) fun y_1 => qb (spec_Same_T y y_1) fun x => br (!x) (qb (idx y2.kids x5) fun y => qb (idx y3.kids x5) fun y_2 => qb (spec_Before_T y y_2) fun x => some (Ex.ret, spec_Before_O10 x)) (some (Ex.nrm, spec_Before_S10 x4 (IntKind.i64.wrap (x5 + 1)) y2 y3))) (some (Ex.ext 1, spec_Before_O10 x4)) : Option (Ex × St)) := by kernel_rfl

theorem impl_labelOk_round2 (n : Nat) (x0 : ByteArray) (x2 : Bool) (x6 : Int) (x7 : Int) : roundK Tryd.prog cfg RN n 5 121 2 0 (impl_labelOk_S2 x0 x2 x6 x7) = (br (decide (x7 < x6)) (qb (byteAt x0 x7) fun b => br (decide (b < 97)) (br (decide (b < 48)) (br (b != 45) (some (Ex.ret, impl_labelOk_O2 x0 false)) (br (x7 == 0) (some (Ex.ret, impl_labelOk_O2 x0 false)) (br (x7 == IntKind.i64.wrap ((↑x0.size : Int) - 1)) (some (Ex.ret, impl_labelOk_O2 x0 false)) (some (Ex.nrm, impl_labelOk_S2 x0 x2 x6 (IntKind.i64.wrap (x7 + 1))))))) (br (decide (b > 57)) (br (b != 45) (some (Ex.ret, impl_labelOk_O2 x0 false)) (br (x7 == 0) (some (Ex.ret, impl_labelOk_O2 x0 false)) (br (x7 == IntKind.i64.wrap ((↑x0.size : Int) - 1)) (some (Ex.ret, impl_labelOk_O2 x0 false)) (some (Ex.nrm, impl_labelOk_S2 x0 x2 x6 (IntKind.i64.wrap (x7 + 1))))))) (some (Ex.nrm, impl_labelOk_S2 x0 x2 x6 (IntKind.i64.wrap (x7 + 1)))))) (br (decide (b > 122)) (br (decide (b < 48)) (br (b != 45) (some (Ex.ret, impl_labelOk_O2 x0 false)) (br (x7 == 0) (some (Ex.ret, impl_labelOk_O2 x0 false)) (br (x7 == IntKind.i64.wrap ((↑x0.size : Int) - 1)) (some (Ex.ret, impl_labelOk_O2 x0 false)) (some (Ex.nrm, impl_labelOk_S2 x0 x2 x6 (IntKind.i64.wrap (x7 + 1))))))) (br (decide (b > 57)) (br (b != 45) (some (Ex.ret, impl_labelOk_O2 x0 false)) (br (x7 == 0) (some (Ex.ret, impl_labelOk_O2 x0 false)) (br (x7 == IntKind.i64.wrap ((↑x0.size : Int) - 1)) (some (Ex.ret, impl_labelOk_O2 x0 false)) (some (Ex.nrm, impl_labelOk_S2 x0 x2 x6 (IntKind.i64.wrap (x7 + 1))))))) (some (Ex.nrm, impl_labelOk_S2 x0 x2 x6 (IntKind.i64.wrap (x7 + 1)))))) (some (Ex.nrm, impl_labelOk_S2 x0 x2 x6 (IntKind.i64.wrap (x7 + 1)))))) (some (Ex.ext 0, impl_labelOk_O2 x0 x2)) : Option (Ex × St)) := by kernel_rfl

theorem impl_Before_round10 (n : Nat) (x4 : Bool) (t56 : Bool) (x56 : List Term) (x57 : Int) (x58 : Int) (y3 : Term) : roundK Tryd.prog cfg RN n 5 125 10 0 (impl_Before_S10 x4 t56 x56 x57 x58 y3) = (br (decide (x58 < x57)) (qb (idx x56 x58) fun y => qb (idx y3.kids x58) fun y_1 => qb (impl_Same_T y y_1) fun x => br (!x) (qb (idx y3.kids x58) fun y_2 => qb (impl_Before_T y y_2) fun x => some (Ex.ret, impl_Before_O10 x)) (some (Ex.nrm, impl_Before_S10 x4 t56 x56 x57 (IntKind.i64.wrap (x58 + 1)) y3))) (some (Ex.ext 1, impl_Before_O10 x4)) : Option (Ex × St)) := by kernel_rfl

theorem EqualFunc_Same_round4 (n : Nat) (t1 : Bool) (x1 : List Term) (x6 : Bool) (t15 : Bool) (x15 : List Term) (x16 : Int) (x17 : Int) : roundK Tryd.prog cfg RN n 5 126 4 0 (EqualFunc_Same_S4 t1 x1 x6 t15 x15 x16 x17) = (br (decide (x17 < x16)) (qb (idx x15 x17) fun y => qb (idx x1 x17) fun y_1 => qb (impl_Same_T y y_1) fun x => br (!x) (some (Ex.ret, EqualFunc_Same_O4 false)) (some (Ex.nrm, EqualFunc_Same_S4 t1 x1 x6 t15 x15 x16 (IntKind.i64.wrap (x17 + 1))))) (some (Ex.ext 0, EqualFunc_Same_O4 x6)) : Option (Ex × St)) := by kernel_rfl

theorem IndexFunc_labelsOk_1_round2 (n : Nat) (t0 : Bool) (x0 : List ByteArray) (x4 : Int) (x7 : Int) (x8 : Int) : roundK Tryd.prog cfg RN n 5 144 2 0 (IndexFunc_labelsOk_1_S2 t0 x0 x4 x7 x8) = (br (decide (x8 < x7)) (qb (idx x0 x8) fun y => qb (impl_labelOk_T y) fun x => br (!x) (some (Ex.ret, IndexFunc_labelsOk_1_O2 x8)) (some (Ex.nrm, IndexFunc_labelsOk_1_S2 t0 x0 x4 x7 (IntKind.i64.wrap (x8 + 1))))) (some (Ex.ext 0, IndexFunc_labelsOk_1_O2 x4)) : Option (Ex × St)) := by kernel_rfl

theorem IndexFunc_formOk_1_round2 (n : Nat) (t0 : Bool) (x0 : List Term) (x4 : Int) (x7 : Int) (x8 : Int) : roundK Tryd.prog cfg RN n 5 145 2 0 (IndexFunc_formOk_1_S2 t0 x0 x4 x7 x8) = (br (decide (x8 < x7)) (qb (idx x0 x8) fun y => qb (impl_formOk_T y) fun x => br (!x) (some (Ex.ret, IndexFunc_formOk_1_O2 x8)) (some (Ex.nrm, IndexFunc_formOk_1_S2 t0 x0 x4 x7 (IntKind.i64.wrap (x8 + 1))))) (some (Ex.ext 0, IndexFunc_formOk_1_O2 x4)) : Option (Ex × St)) := by kernel_rfl

end Go.Proofs.YtepghohkfnmhmaaDoor
