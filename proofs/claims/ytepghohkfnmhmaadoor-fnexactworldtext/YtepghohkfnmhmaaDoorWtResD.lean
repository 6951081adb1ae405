/-
  What calls and loops answer, as plain data.
-/
import Derived.Test.YtepghohkfnmhmaaDoorWtCfg
namespace Go.Proofs.YtepghohkfnmhmaaDoor
open Go.Vm
set_option linter.unusedVariables false

noncomputable def laws_szClient_T (a0 : Client) (a1 : Int) : Option Int := presT RN 8 [.ag (Client.cells a0), .int a1] (.int)

noncomputable def laws_toClient_T (a0 : Client) : Option Client := presT RN 10 [.ag (Client.cells a0)] (.client)

noncomputable def laws_eqClient_T (a0 : Client) (a1 : Client) : Option Bool := presT RN 12 [.ag (Client.cells a0), .ag (Client.cells a1)] (.bool)

noncomputable def laws_szServer_T (a0 : Server) (a1 : Int) : Option Int := presT RN 17 [.ag (Server.cells a0), .int a1] (.int)

noncomputable def laws_toServer_T (a0 : Server) : Option Server := presT RN 19 [.ag (Server.cells a0)] (.server)

noncomputable def laws_eqServer_T (a0 : Server) (a1 : Server) : Option Bool := presT RN 21 [.ag (Server.cells a0), .ag (Server.cells a1)] (.bool)

noncomputable def laws_szWorld_T (a0 : WorldD) (a1 : Int) : Option Int := presT RN 25 [.ag (WorldD.cells a0), .int a1] (.int)

noncomputable def spec_WorldText_T (a0 : WorldD) : Option ByteArray := presT RN 26 [.ag (WorldD.cells a0)] (.str)

noncomputable def laws_toWorld_T (a0 : WorldD) : Option WorldD := presT RN 27 [.ag (WorldD.cells a0)] (.world)

noncomputable def impl_WorldText_T (a0 : WorldD) : Option ByteArray := presT RN 28 [.ag (WorldD.cells a0)] (.str)

noncomputable def laws_eqWorld_T (a0 : WorldD) (a1 : WorldD) : Option Bool := presT RN 29 [.ag (WorldD.cells a0), .ag (WorldD.cells a1)] (.bool)

noncomputable def laws_szTerm_T (a0 : Term) (a1 : Int) : Option Int := presT RN 30 [.ag (Term.cells a0), .int a1] (.int)

noncomputable def laws_toTerm_T (a0 : Term) : Option Term := presT RN 35 [.ag (Term.cells a0)] (.el .term)

noncomputable def impl_in_T (a0 : Int) (a1 : Int) (a2 : Int) : Option Bool := presT RN 36 [.int a0, .int a1, .int a2] (.bool)

noncomputable def laws_eqTerm_T (a0 : Term) (a1 : Term) : Option Bool := presT RN 41 [.ag (Term.cells a0), .ag (Term.cells a1)] (.bool)

noncomputable def laws_szIntS_T (a0 : List Int) (a1 : Int) : Option Int := presT RN 44 [.sl false .int a0, .int a1] (.int)

noncomputable def laws_toIntS_T (a0 : List Int) : Option (List Int) := presT RN 45 [.sl false .int a0] (.sl .int)

noncomputable def laws_eqIntS_T (a0 : List Int) (a1 : List Int) : Option Bool := presT RN 48 [.sl false .int a0, .sl false .int a1] (.bool)

noncomputable def laws_szTermS_T (a0 : List Term) (a1 : Int) : Option Int := presT RN 56 [.sl false .term a0, .int a1] (.int)

noncomputable def laws_szPolicyS_T (a0 : List Policy) (a1 : Int) : Option Int := presT RN 57 [.sl false .policy a0, .int a1] (.int)

noncomputable def laws_szHostS_T (a0 : List Host) (a1 : Int) : Option Int := presT RN 58 [.sl false .host a0, .int a1] (.int)

noncomputable def laws_szLetterS_T (a0 : List Letter) (a1 : Int) : Option Int := presT RN 59 [.sl false .letter a0, .int a1] (.int)

noncomputable def laws_szCallS_T (a0 : List CallD) (a1 : Int) : Option Int := presT RN 60 [.sl false .call a0, .int a1] (.int)

noncomputable def laws_szTalkS_T (a0 : List Talk) (a1 : Int) : Option Int := presT RN 61 [.sl false .talk a0, .int a1] (.int)

noncomputable def spec_l1Digits_T (a0 : Int) : Option ByteArray := presT RN 62 [.int a0] (.str)

noncomputable def spec_LetterText_T (a0 : Letter) : Option ByteArray := presT RN 63 [.ag (Letter.cells a0)] (.str)

noncomputable def spec_ClientText_T (a0 : Client) : Option ByteArray := presT RN 64 [.ag (Client.cells a0)] (.str)

noncomputable def laws_toTermS_T (a0 : List Term) : Option (List Term) := presT RN 65 [.sl false .term a0] (.sl .term)

noncomputable def laws_toPolicyS_T (a0 : List Policy) : Option (List Policy) := presT RN 66 [.sl false .policy a0] (.sl .policy)

noncomputable def laws_toHostS_T (a0 : List Host) : Option (List Host) := presT RN 67 [.sl false .host a0] (.sl .host)

noncomputable def laws_toLetterS_T (a0 : List Letter) : Option (List Letter) := presT RN 68 [.sl false .letter a0] (.sl .letter)

noncomputable def laws_toCallS_T (a0 : List CallD) : Option (List CallD) := presT RN 69 [.sl false .call a0] (.sl .call)

noncomputable def laws_toTalkS_T (a0 : List Talk) : Option (List Talk) := presT RN 70 [.sl false .talk a0] (.sl .talk)

noncomputable def strconv_Itoa_T (a0 : Int) : Option ByteArray := presT RN 71 [.int a0] (.str)

noncomputable def impl_LetterText_T (a0 : Letter) : Option ByteArray := presT RN 72 [.ag (Letter.cells a0)] (.str)

noncomputable def impl_ClientText_T (a0 : Client) : Option ByteArray := presT RN 73 [.ag (Client.cells a0)] (.str)

noncomputable def laws_eqTermS_T (a0 : List Term) (a1 : List Term) : Option Bool := presT RN 74 [.sl false .term a0, .sl false .term a1] (.bool)

noncomputable def laws_eqPolicyS_T (a0 : List Policy) (a1 : List Policy) : Option Bool := presT RN 75 [.sl false .policy a0, .sl false .policy a1] (.bool)

noncomputable def laws_eqHostS_T (a0 : List Host) (a1 : List Host) : Option Bool := presT RN 76 [.sl false .host a0, .sl false .host a1] (.bool)

noncomputable def laws_eqLetterS_T (a0 : List Letter) (a1 : List Letter) : Option Bool := presT RN 77 [.sl false .letter a0, .sl false .letter a1] (.bool)

noncomputable def laws_eqCallS_T (a0 : List CallD) (a1 : List CallD) : Option Bool := presT RN 78 [.sl false .call a0, .sl false .call a1] (.bool)

noncomputable def laws_eqTalkS_T (a0 : List Talk) (a1 : List Talk) : Option Bool := presT RN 79 [.sl false .talk a0, .sl false .talk a1] (.bool)

noncomputable def laws_szPolicy_T (a0 : Policy) (a1 : Int) : Option Int := presT RN 95 [.ag (Policy.cells a0), .int a1] (.int)

noncomputable def laws_szHost_T (a0 : Host) (a1 : Int) : Option Int := presT RN 96 [.ag (Host.cells a0), .int a1] (.int)

noncomputable def laws_szLetter_T (a0 : Letter) (a1 : Int) : Option Int := presT RN 97 [.ag (Letter.cells a0), .int a1] (.int)

noncomputable def laws_szCall_T (a0 : CallD) (a1 : Int) : Option Int := presT RN 98 [.ag (CallD.cells a0), .int a1] (.int)

noncomputable def laws_szTalk_T (a0 : Talk) (a1 : Int) : Option Int := presT RN 99 [.ag (Talk.cells a0), .int a1] (.int)

noncomputable def spec_l17Name_T (a0 : Int) (a1 : List ByteArray) : Option ByteArray := presT RN 100 [.int a0, .sl false .str a1] (.str)

noncomputable def laws_toPolicy_T (a0 : Policy) : Option Policy := presT RN 101 [.ag (Policy.cells a0)] (.el .policy)

noncomputable def laws_toHost_T (a0 : Host) : Option Host := presT RN 102 [.ag (Host.cells a0)] (.el .host)

noncomputable def laws_toLetter_T (a0 : Letter) : Option Letter := presT RN 103 [.ag (Letter.cells a0)] (.el .letter)

noncomputable def laws_toCall_T (a0 : CallD) : Option CallD := presT RN 104 [.ag (CallD.cells a0)] (.el .call)

noncomputable def laws_toTalk_T (a0 : Talk) : Option Talk := presT RN 105 [.ag (Talk.cells a0)] (.el .talk)

noncomputable def strings_Join_T (a0 : List ByteArray) (a1 : ByteArray) : Option ByteArray := presT RN 107 [.sl false .str a0, .str a1] (.str)

noncomputable def impl_named_T (a0 : Int) (a1 : List ByteArray) : Option ByteArray := presT RN 108 [.int a0, .sl false .str a1] (.str)

noncomputable def laws_eqPolicy_T (a0 : Policy) (a1 : Policy) : Option Bool := presT RN 109 [.ag (Policy.cells a0), .ag (Policy.cells a1)] (.bool)

noncomputable def laws_eqHost_T (a0 : Host) (a1 : Host) : Option Bool := presT RN 110 [.ag (Host.cells a0), .ag (Host.cells a1)] (.bool)

noncomputable def laws_eqLetter_T (a0 : Letter) (a1 : Letter) : Option Bool := presT RN 111 [.ag (Letter.cells a0), .ag (Letter.cells a1)] (.bool)

noncomputable def laws_eqCall_T (a0 : CallD) (a1 : CallD) : Option Bool := presT RN 112 [.ag (CallD.cells a0), .ag (CallD.cells a1)] (.bool)

noncomputable def laws_eqTalk_T (a0 : Talk) (a1 : Talk) : Option Bool := presT RN 113 [.ag (Talk.cells a0), .ag (Talk.cells a1)] (.bool)

noncomputable def laws_szStringS_T (a0 : List ByteArray) (a1 : Int) : Option Int := presT RN 137 [.sl false .str a0, .int a1] (.int)

noncomputable def laws_toStringS_T (a0 : List ByteArray) : Option (List ByteArray) := presT RN 138 [.sl false .str a0] (.sl .str)

noncomputable def laws_eqStringS_T (a0 : List ByteArray) (a1 : List ByteArray) : Option Bool := presT RN 143 [.sl false .str a0, .sl false .str a1] (.bool)

@[reducible] def spec_WorldText_S3 (x3 : ByteArray) (x4 : Int) (y1 : WorldD) : St := ⟨frOf [(1, .c (.bx (.own 1) 0)), (3, .str x3), (4, .int x4)], hpIds [(.own 1, .box ((WorldD.cells y1).map C.f))]⟩

@[reducible] def spec_WorldText_O3 (x3 : ByteArray) (y1 : WorldD) : St := ⟨frOf [(1, .c (.bx (.own 1) 0)), (3, .str x3)], hpIds [(.own 1, .box ((WorldD.cells y1).map C.f))]⟩

noncomputable def spec_WorldText_L3 (n q : Nat) (x3 : ByteArray) (x4 : Int) (y1 : WorldD) : Option (Ex × (Unit × ByteArray × Unit) × WorldD × Unit) := lpT Tryd.prog cfg RN n 5 26 3 0 q (spec_WorldText_S3 x3 x4 y1)

theorem spec_WorldText_L3_of {n q : Nat} {x3 : ByteArray} {x4 : Int} {y1 : WorldD} {e : Ex} {x3O : ByteArray} {y1O : WorldD} (h : lp Tryd.prog cfg RN n 5 26 3 0 q (spec_WorldText_S3 x3 x4 y1) = some (e, spec_WorldText_O3 x3O y1O)) : spec_WorldText_L3 n q x3 x4 y1 = some (e, ((), x3O, ()), y1O, ()) := by
  unfold spec_WorldText_L3 lpT
  rw [h]
  kernel_rfl

theorem spec_WorldText_L3_if {n q : Nat} {x3 : ByteArray} {x4 : Int} {y1 : WorldD} {c : Prop} [Decidable c] {e e' : Ex} {x3O : ByteArray} {y1O : WorldD} {x3P : ByteArray} {y1P : WorldD} (h : lp Tryd.prog cfg RN n 5 26 3 0 q (spec_WorldText_S3 x3 x4 y1) = some (if c then (e, spec_WorldText_O3 x3O y1O) else (e', spec_WorldText_O3 x3P y1P))) : spec_WorldText_L3 n q x3 x4 y1 = some (if c then (e, ((), x3O, ()), y1O, ()) else (e', ((), x3P, ()), y1P, ())) := by
  by_cases hc : c
  · rw [if_pos hc] at h ⊢; exact spec_WorldText_L3_of h
  · rw [if_neg hc] at h ⊢; exact spec_WorldText_L3_of h

@[reducible] def spec_WorldText_S7 (x3 : ByteArray) (x5 : Int) (y1 : WorldD) : St := ⟨frOf [(1, .c (.bx (.own 1) 0)), (3, .str x3), (5, .int x5)], hpIds [(.own 1, .box ((WorldD.cells y1).map C.f))]⟩

@[reducible] def spec_WorldText_O7 (x3 : ByteArray) : St := ⟨frOf [(3, .str x3)], hpIds []⟩

noncomputable def spec_WorldText_L7 (n q : Nat) (x3 : ByteArray) (x5 : Int) (y1 : WorldD) : Option (Ex × (ByteArray × Unit) × Unit) := lpT Tryd.prog cfg RN n 5 26 7 0 q (spec_WorldText_S7 x3 x5 y1)

theorem spec_WorldText_L7_of {n q : Nat} {x3 : ByteArray} {x5 : Int} {y1 : WorldD} {e : Ex} {x3O : ByteArray} (h : lp Tryd.prog cfg RN n 5 26 7 0 q (spec_WorldText_S7 x3 x5 y1) = some (e, spec_WorldText_O7 x3O)) : spec_WorldText_L7 n q x3 x5 y1 = some (e, (x3O, ()), ()) := by
  unfold spec_WorldText_L7 lpT
  rw [h]
  kernel_rfl

theorem spec_WorldText_L7_if {n q : Nat} {x3 : ByteArray} {x5 : Int} {y1 : WorldD} {c : Prop} [Decidable c] {e e' : Ex} {x3O : ByteArray} {x3P : ByteArray} (h : lp Tryd.prog cfg RN n 5 26 7 0 q (spec_WorldText_S7 x3 x5 y1) = some (if c then (e, spec_WorldText_O7 x3O) else (e', spec_WorldText_O7 x3P))) : spec_WorldText_L7 n q x3 x5 y1 = some (if c then (e, (x3O, ()), ()) else (e', (x3P, ()), ())) := by
  by_cases hc : c
  · rw [if_pos hc] at h ⊢; exact spec_WorldText_L7_of h
  · rw [if_neg hc] at h ⊢; exact spec_WorldText_L7_of h

@[reducible] def impl_WorldText_S3 (x3 : ByteArray) (t38 : Bool) (x38 : List Letter) (x39 : Int) (x40 : Int) (y1 : WorldD) : St := ⟨frOf [(1, .c (.bx (.own 1) 0)), (3, .str x3), (38, .sl t38 .letter x38), (39, .int x39), (40, .int x40)], hpIds [(.own 1, .box ((WorldD.cells y1).map C.f))]⟩

@[reducible] def impl_WorldText_O3 (x3 : ByteArray) (y1 : WorldD) : St := ⟨frOf [(1, .c (.bx (.own 1) 0)), (3, .str x3)], hpIds [(.own 1, .box ((WorldD.cells y1).map C.f))]⟩

noncomputable def impl_WorldText_L3 (n q : Nat) (x3 : ByteArray) (t38 : Bool) (x38 : List Letter) (x39 : Int) (x40 : Int) (y1 : WorldD) : Option (Ex × (Unit × ByteArray × Unit) × WorldD × Unit) := lpT Tryd.prog cfg RN n 5 28 3 0 q (impl_WorldText_S3 x3 t38 x38 x39 x40 y1)

theorem impl_WorldText_L3_of {n q : Nat} {x3 : ByteArray} {t38 : Bool} {x38 : List Letter} {x39 : Int} {x40 : Int} {y1 : WorldD} {e : Ex} {x3O : ByteArray} {y1O : WorldD} (h : lp Tryd.prog cfg RN n 5 28 3 0 q (impl_WorldText_S3 x3 t38 x38 x39 x40 y1) = some (e, impl_WorldText_O3 x3O y1O)) : impl_WorldText_L3 n q x3 t38 x38 x39 x40 y1 = some (e, ((), x3O, ()), y1O, ()) := by
  unfold impl_WorldText_L3 lpT
  rw [h]
  kernel_rfl

theorem impl_WorldText_L3_if {n q : Nat} {x3 : ByteArray} {t38 : Bool} {x38 : List Letter} {x39 : Int} {x40 : Int} {y1 : WorldD} {c : Prop} [Decidable c] {e e' : Ex} {x3O : ByteArray} {y1O : WorldD} {x3P : ByteArray} {y1P : WorldD} (h : lp Tryd.prog cfg RN n 5 28 3 0 q (impl_WorldText_S3 x3 t38 x38 x39 x40 y1) = some (if c then (e, impl_WorldText_O3 x3O y1O) else (e', impl_WorldText_O3 x3P y1P))) : impl_WorldText_L3 n q x3 t38 x38 x39 x40 y1 = some (if c then (e, ((), x3O, ()), y1O, ()) else (e', ((), x3P, ()), y1P, ())) := by
  by_cases hc : c
  · rw [if_pos hc] at h ⊢; exact impl_WorldText_L3_of h
  · rw [if_neg hc] at h ⊢; exact impl_WorldText_L3_of h

@[reducible] def impl_WorldText_S8 (x3 : ByteArray) (t51 : Bool) (x51 : List CallD) (x52 : Int) (x53 : Int) : St := ⟨frOf [(3, .str x3), (51, .sl t51 .call x51), (52, .int x52), (53, .int x53)], hpIds []⟩

@[reducible] def impl_WorldText_O8 (x3 : ByteArray) : St := ⟨frOf [(3, .str x3)], hpIds []⟩

noncomputable def impl_WorldText_L8 (n q : Nat) (x3 : ByteArray) (t51 : Bool) (x51 : List CallD) (x52 : Int) (x53 : Int) : Option (Ex × (ByteArray × Unit) × Unit) := lpT Tryd.prog cfg RN n 5 28 8 0 q (impl_WorldText_S8 x3 t51 x51 x52 x53)

theorem impl_WorldText_L8_of {n q : Nat} {x3 : ByteArray} {t51 : Bool} {x51 : List CallD} {x52 : Int} {x53 : Int} {e : Ex} {x3O : ByteArray} (h : lp Tryd.prog cfg RN n 5 28 8 0 q (impl_WorldText_S8 x3 t51 x51 x52 x53) = some (e, impl_WorldText_O8 x3O)) : impl_WorldText_L8 n q x3 t51 x51 x52 x53 = some (e, (x3O, ()), ()) := by
  unfold impl_WorldText_L8 lpT
  rw [h]
  kernel_rfl

theorem impl_WorldText_L8_if {n q : Nat} {x3 : ByteArray} {t51 : Bool} {x51 : List CallD} {x52 : Int} {x53 : Int} {c : Prop} [Decidable c] {e e' : Ex} {x3O : ByteArray} {x3P : ByteArray} (h : lp Tryd.prog cfg RN n 5 28 8 0 q (impl_WorldText_S8 x3 t51 x51 x52 x53) = some (if c then (e, impl_WorldText_O8 x3O) else (e', impl_WorldText_O8 x3P))) : impl_WorldText_L8 n q x3 t51 x51 x52 x53 = some (if c then (e, (x3O, ()), ()) else (e', (x3P, ()), ())) := by
  by_cases hc : c
  · rw [if_pos hc] at h ⊢; exact impl_WorldText_L8_of h
  · rw [if_neg hc] at h ⊢; exact impl_WorldText_L8_of h

@[reducible] def laws_toIntS_S3 (t0 : Bool) (x0 : List Int) (x3 : List Int) (x4 : Int) : St := ⟨frOf [(0, .sl t0 .int x0), (3, .c (.row (.own 3) .int)), (4, .int x4)], hpIds [(.own 3, .row true .int x3)]⟩

@[reducible] def laws_toIntS_O3 (x3 : List Int) : St := ⟨frOf [(3, .c (.row (.own 3) .int))], hpIds [(.own 3, .row true .int x3)]⟩

noncomputable def laws_toIntS_L3 (n q : Nat) (t0 : Bool) (x0 : List Int) (x3 : List Int) (x4 : Int) : Option (Ex × (Unit × Unit) × List Int × Unit) := lpT Tryd.prog cfg RN n 5 45 3 0 q (laws_toIntS_S3 t0 x0 x3 x4)

theorem laws_toIntS_L3_of {n q : Nat} {t0 : Bool} {x0 : List Int} {x3 : List Int} {x4 : Int} {e : Ex} {x3O : List Int} (h : lp Tryd.prog cfg RN n 5 45 3 0 q (laws_toIntS_S3 t0 x0 x3 x4) = some (e, laws_toIntS_O3 x3O)) : laws_toIntS_L3 n q t0 x0 x3 x4 = some (e, ((), ()), x3O, ()) := by
  unfold laws_toIntS_L3 lpT
  rw [h]
  kernel_rfl

theorem laws_toIntS_L3_if {n q : Nat} {t0 : Bool} {x0 : List Int} {x3 : List Int} {x4 : Int} {c : Prop} [Decidable c] {e e' : Ex} {x3O : List Int} {x3P : List Int} (h : lp Tryd.prog cfg RN n 5 45 3 0 q (laws_toIntS_S3 t0 x0 x3 x4) = some (if c then (e, laws_toIntS_O3 x3O) else (e', laws_toIntS_O3 x3P))) : laws_toIntS_L3 n q t0 x0 x3 x4 = some (if c then (e, ((), ()), x3O, ()) else (e', ((), ()), x3P, ())) := by
  by_cases hc : c
  · rw [if_pos hc] at h ⊢; exact laws_toIntS_L3_of h
  · rw [if_neg hc] at h ⊢; exact laws_toIntS_L3_of h

@[reducible] def laws_eqIntS_S4 (t0 : Bool) (x0 : List Int) (t1 : Bool) (x1 : List Int) (x4 : Bool) (x5 : Int) : St := ⟨frOf [(0, .sl t0 .int x0), (1, .sl t1 .int x1), (4, .bool x4), (5, .int x5)], hpIds []⟩

@[reducible] def laws_eqIntS_O4 (x4 : Bool) : St := ⟨frOf [(4, .bool x4)], hpIds []⟩

noncomputable def laws_eqIntS_L4 (n q : Nat) (t0 : Bool) (x0 : List Int) (t1 : Bool) (x1 : List Int) (x4 : Bool) (x5 : Int) : Option (Ex × (Bool × Unit) × Unit) := lpT Tryd.prog cfg RN n 5 48 4 0 q (laws_eqIntS_S4 t0 x0 t1 x1 x4 x5)

theorem laws_eqIntS_L4_of {n q : Nat} {t0 : Bool} {x0 : List Int} {t1 : Bool} {x1 : List Int} {x4 : Bool} {x5 : Int} {e : Ex} {x4O : Bool} (h : lp Tryd.prog cfg RN n 5 48 4 0 q (laws_eqIntS_S4 t0 x0 t1 x1 x4 x5) = some (e, laws_eqIntS_O4 x4O)) : laws_eqIntS_L4 n q t0 x0 t1 x1 x4 x5 = some (e, (x4O, ()), ()) := by
  unfold laws_eqIntS_L4 lpT
  rw [h]
  kernel_rfl

theorem laws_eqIntS_L4_if {n q : Nat} {t0 : Bool} {x0 : List Int} {t1 : Bool} {x1 : List Int} {x4 : Bool} {x5 : Int} {c : Prop} [Decidable c] {e e' : Ex} {x4O : Bool} {x4P : Bool} (h : lp Tryd.prog cfg RN n 5 48 4 0 q (laws_eqIntS_S4 t0 x0 t1 x1 x4 x5) = some (if c then (e, laws_eqIntS_O4 x4O) else (e', laws_eqIntS_O4 x4P))) : laws_eqIntS_L4 n q t0 x0 t1 x1 x4 x5 = some (if c then (e, (x4O, ()), ()) else (e', (x4P, ()), ())) := by
  by_cases hc : c
  · rw [if_pos hc] at h ⊢; exact laws_eqIntS_L4_of h
  · rw [if_neg hc] at h ⊢; exact laws_eqIntS_L4_of h

@[reducible] def laws_szTermS_S5 (t0 : Bool) (x0 : List Term) (x1 : Int) (x4 : Int) (x5 : Int) : St := ⟨frOf [(0, .sl t0 .term x0), (1, .int x1), (4, .int x4), (5, .int x5)], hpIds []⟩

@[reducible] def laws_szTermS_O5 (x1 : Int) (x4 : Int) : St := ⟨frOf [(1, .int x1), (4, .int x4)], hpIds []⟩

noncomputable def laws_szTermS_L5 (n q : Nat) (t0 : Bool) (x0 : List Term) (x1 : Int) (x4 : Int) (x5 : Int) : Option (Ex × (Int × Int × Unit) × Unit) := lpT Tryd.prog cfg RN n 5 56 5 0 q (laws_szTermS_S5 t0 x0 x1 x4 x5)

theorem laws_szTermS_L5_of {n q : Nat} {t0 : Bool} {x0 : List Term} {x1 : Int} {x4 : Int} {x5 : Int} {e : Ex} {x1O : Int} {x4O : Int} (h : lp Tryd.prog cfg RN n 5 56 5 0 q (laws_szTermS_S5 t0 x0 x1 x4 x5) = some (e, laws_szTermS_O5 x1O x4O)) : laws_szTermS_L5 n q t0 x0 x1 x4 x5 = some (e, (x1O, x4O, ()), ()) := by
  unfold laws_szTermS_L5 lpT
  rw [h]
  kernel_rfl

theorem laws_szTermS_L5_if {n q : Nat} {t0 : Bool} {x0 : List Term} {x1 : Int} {x4 : Int} {x5 : Int} {c : Prop} [Decidable c] {e e' : Ex} {x1O : Int} {x4O : Int} {x1P : Int} {x4P : Int} (h : lp Tryd.prog cfg RN n 5 56 5 0 q (laws_szTermS_S5 t0 x0 x1 x4 x5) = some (if c then (e, laws_szTermS_O5 x1O x4O) else (e', laws_szTermS_O5 x1P x4P))) : laws_szTermS_L5 n q t0 x0 x1 x4 x5 = some (if c then (e, (x1O, x4O, ()), ()) else (e', (x1P, x4P, ()), ())) := by
  by_cases hc : c
  · rw [if_pos hc] at h ⊢; exact laws_szTermS_L5_of h
  · rw [if_neg hc] at h ⊢; exact laws_szTermS_L5_of h

@[reducible] def laws_szPolicyS_S5 (t0 : Bool) (x0 : List Policy) (x1 : Int) (x4 : Int) (x5 : Int) : St := ⟨frOf [(0, .sl t0 .policy x0), (1, .int x1), (4, .int x4), (5, .int x5)], hpIds []⟩

@[reducible] def laws_szPolicyS_O5 (x1 : Int) (x4 : Int) : St := ⟨frOf [(1, .int x1), (4, .int x4)], hpIds []⟩

noncomputable def laws_szPolicyS_L5 (n q : Nat) (t0 : Bool) (x0 : List Policy) (x1 : Int) (x4 : Int) (x5 : Int) : Option (Ex × (Int × Int × Unit) × Unit) := lpT Tryd.prog cfg RN n 5 57 5 0 q (laws_szPolicyS_S5 t0 x0 x1 x4 x5)

theorem laws_szPolicyS_L5_of {n q : Nat} {t0 : Bool} {x0 : List Policy} {x1 : Int} {x4 : Int} {x5 : Int} {e : Ex} {x1O : Int} {x4O : Int} (h : lp Tryd.prog cfg RN n 5 57 5 0 q (laws_szPolicyS_S5 t0 x0 x1 x4 x5) = some (e, laws_szPolicyS_O5 x1O x4O)) : laws_szPolicyS_L5 n q t0 x0 x1 x4 x5 = some (e, (x1O, x4O, ()), ()) := by
  unfold laws_szPolicyS_L5 lpT
  rw [h]
  kernel_rfl

theorem laws_szPolicyS_L5_if {n q : Nat} {t0 : Bool} {x0 : List Policy} {x1 : Int} {x4 : Int} {x5 : Int} {c : Prop} [Decidable c] {e e' : Ex} {x1O : Int} {x4O : Int} {x1P : Int} {x4P : Int} (h : lp Tryd.prog cfg RN n 5 57 5 0 q (laws_szPolicyS_S5 t0 x0 x1 x4 x5) = some (if c then (e, laws_szPolicyS_O5 x1O x4O) else (e', laws_szPolicyS_O5 x1P x4P))) : laws_szPolicyS_L5 n q t0 x0 x1 x4 x5 = some (if c then (e, (x1O, x4O, ()), ()) else (e', (x1P, x4P, ()), ())) := by
  by_cases hc : c
  · rw [if_pos hc] at h ⊢; exact laws_szPolicyS_L5_of h
  · rw [if_neg hc] at h ⊢; exact laws_szPolicyS_L5_of h

@[reducible] def laws_szHostS_S5 (t0 : Bool) (x0 : List Host) (x1 : Int) (x4 : Int) (x5 : Int) : St := ⟨frOf [(0, .sl t0 .host x0), (1, .int x1), (4, .int x4), (5, .int x5)], hpIds []⟩

@[reducible] def laws_szHostS_O5 (x1 : Int) (x4 : Int) : St := ⟨frOf [(1, .int x1), (4, .int x4)], hpIds []⟩

noncomputable def laws_szHostS_L5 (n q : Nat) (t0 : Bool) (x0 : List Host) (x1 : Int) (x4 : Int) (x5 : Int) : Option (Ex × (Int × Int × Unit) × Unit) := lpT Tryd.prog cfg RN n 5 58 5 0 q (laws_szHostS_S5 t0 x0 x1 x4 x5)

theorem laws_szHostS_L5_of {n q : Nat} {t0 : Bool} {x0 : List Host} {x1 : Int} {x4 : Int} {x5 : Int} {e : Ex} {x1O : Int} {x4O : Int} (h : lp Tryd.prog cfg RN n 5 58 5 0 q (laws_szHostS_S5 t0 x0 x1 x4 x5) = some (e, laws_szHostS_O5 x1O x4O)) : laws_szHostS_L5 n q t0 x0 x1 x4 x5 = some (e, (x1O, x4O, ()), ()) := by
  unfold laws_szHostS_L5 lpT
  rw [h]
  kernel_rfl

theorem laws_szHostS_L5_if {n q : Nat} {t0 : Bool} {x0 : List Host} {x1 : Int} {x4 : Int} {x5 : Int} {c : Prop} [Decidable c] {e e' : Ex} {x1O : Int} {x4O : Int} {x1P : Int} {x4P : Int} (h : lp Tryd.prog cfg RN n 5 58 5 0 q (laws_szHostS_S5 t0 x0 x1 x4 x5) = some (if c then (e, laws_szHostS_O5 x1O x4O) else (e', laws_szHostS_O5 x1P x4P))) : laws_szHostS_L5 n q t0 x0 x1 x4 x5 = some (if c then (e, (x1O, x4O, ()), ()) else (e', (x1P, x4P, ()), ())) := by
  by_cases hc : c
  · rw [if_pos hc] at h ⊢; exact laws_szHostS_L5_of h
  · rw [if_neg hc] at h ⊢; exact laws_szHostS_L5_of h

@[reducible] def laws_szLetterS_S5 (t0 : Bool) (x0 : List Letter) (x1 : Int) (x4 : Int) (x5 : Int) : St := ⟨frOf [(0, .sl t0 .letter x0), (1, .int x1), (4, .int x4), (5, .int x5)], hpIds []⟩

@[reducible] def laws_szLetterS_O5 (x1 : Int) (x4 : Int) : St := ⟨frOf [(1, .int x1), (4, .int x4)], hpIds []⟩

noncomputable def laws_szLetterS_L5 (n q : Nat) (t0 : Bool) (x0 : List Letter) (x1 : Int) (x4 : Int) (x5 : Int) : Option (Ex × (Int × Int × Unit) × Unit) := lpT Tryd.prog cfg RN n 5 59 5 0 q (laws_szLetterS_S5 t0 x0 x1 x4 x5)

theorem laws_szLetterS_L5_of {n q : Nat} {t0 : Bool} {x0 : List Letter} {x1 : Int} {x4 : Int} {x5 : Int} {e : Ex} {x1O : Int} {x4O : Int} (h : lp Tryd.prog cfg RN n 5 59 5 0 q (laws_szLetterS_S5 t0 x0 x1 x4 x5) = some (e, laws_szLetterS_O5 x1O x4O)) : laws_szLetterS_L5 n q t0 x0 x1 x4 x5 = some (e, (x1O, x4O, ()), ()) := by
  unfold laws_szLetterS_L5 lpT
  rw [h]
  kernel_rfl

theorem laws_szLetterS_L5_if {n q : Nat} {t0 : Bool} {x0 : List Letter} {x1 : Int} {x4 : Int} {x5 : Int} {c : Prop} [Decidable c] {e e' : Ex} {x1O : Int} {x4O : Int} {x1P : Int} {x4P : Int} (h : lp Tryd.prog cfg RN n 5 59 5 0 q (laws_szLetterS_S5 t0 x0 x1 x4 x5) = some (if c then (e, laws_szLetterS_O5 x1O x4O) else (e', laws_szLetterS_O5 x1P x4P))) : laws_szLetterS_L5 n q t0 x0 x1 x4 x5 = some (if c then (e, (x1O, x4O, ()), ()) else (e', (x1P, x4P, ()), ())) := by
  by_cases hc : c
  · rw [if_pos hc] at h ⊢; exact laws_szLetterS_L5_of h
  · rw [if_neg hc] at h ⊢; exact laws_szLetterS_L5_of h

@[reducible] def laws_szCallS_S5 (t0 : Bool) (x0 : List CallD) (x1 : Int) (x4 : Int) (x5 : Int) : St := ⟨frOf [(0, .sl t0 .call x0), (1, .int x1), (4, .int x4), (5, .int x5)], hpIds []⟩

@[reducible] def laws_szCallS_O5 (x1 : Int) (x4 : Int) : St := ⟨frOf [(1, .int x1), (4, .int x4)], hpIds []⟩

noncomputable def laws_szCallS_L5 (n q : Nat) (t0 : Bool) (x0 : List CallD) (x1 : Int) (x4 : Int) (x5 : Int) : Option (Ex × (Int × Int × Unit) × Unit) := lpT Tryd.prog cfg RN n 5 60 5 0 q (laws_szCallS_S5 t0 x0 x1 x4 x5)

theorem laws_szCallS_L5_of {n q : Nat} {t0 : Bool} {x0 : List CallD} {x1 : Int} {x4 : Int} {x5 : Int} {e : Ex} {x1O : Int} {x4O : Int} (h : lp Tryd.prog cfg RN n 5 60 5 0 q (laws_szCallS_S5 t0 x0 x1 x4 x5) = some (e, laws_szCallS_O5 x1O x4O)) : laws_szCallS_L5 n q t0 x0 x1 x4 x5 = some (e, (x1O, x4O, ()), ()) := by
  unfold laws_szCallS_L5 lpT
  rw [h]
  kernel_rfl

theorem laws_szCallS_L5_if {n q : Nat} {t0 : Bool} {x0 : List CallD} {x1 : Int} {x4 : Int} {x5 : Int} {c : Prop} [Decidable c] {e e' : Ex} {x1O : Int} {x4O : Int} {x1P : Int} {x4P : Int} (h : lp Tryd.prog cfg RN n 5 60 5 0 q (laws_szCallS_S5 t0 x0 x1 x4 x5) = some (if c then (e, laws_szCallS_O5 x1O x4O) else (e', laws_szCallS_O5 x1P x4P))) : laws_szCallS_L5 n q t0 x0 x1 x4 x5 = some (if c then (e, (x1O, x4O, ()), ()) else (e', (x1P, x4P, ()), ())) := by
  by_cases hc : c
  · rw [if_pos hc] at h ⊢; exact laws_szCallS_L5_of h
  · rw [if_neg hc] at h ⊢; exact laws_szCallS_L5_of h

@[reducible] def laws_szTalkS_S5 (t0 : Bool) (x0 : List Talk) (x1 : Int) (x4 : Int) (x5 : Int) : St := ⟨frOf [(0, .sl t0 .talk x0), (1, .int x1), (4, .int x4), (5, .int x5)], hpIds []⟩

@[reducible] def laws_szTalkS_O5 (x1 : Int) (x4 : Int) : St := ⟨frOf [(1, .int x1), (4, .int x4)], hpIds []⟩

noncomputable def laws_szTalkS_L5 (n q : Nat) (t0 : Bool) (x0 : List Talk) (x1 : Int) (x4 : Int) (x5 : Int) : Option (Ex × (Int × Int × Unit) × Unit) := lpT Tryd.prog cfg RN n 5 61 5 0 q (laws_szTalkS_S5 t0 x0 x1 x4 x5)

theorem laws_szTalkS_L5_of {n q : Nat} {t0 : Bool} {x0 : List Talk} {x1 : Int} {x4 : Int} {x5 : Int} {e : Ex} {x1O : Int} {x4O : Int} (h : lp Tryd.prog cfg RN n 5 61 5 0 q (laws_szTalkS_S5 t0 x0 x1 x4 x5) = some (e, laws_szTalkS_O5 x1O x4O)) : laws_szTalkS_L5 n q t0 x0 x1 x4 x5 = some (e, (x1O, x4O, ()), ()) := by
  unfold laws_szTalkS_L5 lpT
  rw [h]
  kernel_rfl

theorem laws_szTalkS_L5_if {n q : Nat} {t0 : Bool} {x0 : List Talk} {x1 : Int} {x4 : Int} {x5 : Int} {c : Prop} [Decidable c] {e e' : Ex} {x1O : Int} {x4O : Int} {x1P : Int} {x4P : Int} (h : lp Tryd.prog cfg RN n 5 61 5 0 q (laws_szTalkS_S5 t0 x0 x1 x4 x5) = some (if c then (e, laws_szTalkS_O5 x1O x4O) else (e', laws_szTalkS_O5 x1P x4P))) : laws_szTalkS_L5 n q t0 x0 x1 x4 x5 = some (if c then (e, (x1O, x4O, ()), ()) else (e', (x1P, x4P, ()), ())) := by
  by_cases hc : c
  · rw [if_pos hc] at h ⊢; exact laws_szTalkS_L5_of h
  · rw [if_neg hc] at h ⊢; exact laws_szTalkS_L5_of h

@[reducible] def spec_l1Digits_S5 (x0 : Int) (x3 : Bool) (x4 : ByteArray) : St := ⟨frOf [(0, .int x0), (3, .bool x3), (4, .str x4)], hpIds []⟩

@[reducible] def spec_l1Digits_O5 (x3 : Bool) (x4 : ByteArray) : St := ⟨frOf [(3, .bool x3), (4, .str x4)], hpIds []⟩

noncomputable def spec_l1Digits_L5 (n q : Nat) (x0 : Int) (x3 : Bool) (x4 : ByteArray) : Option (Ex × (Bool × ByteArray × Unit) × Unit) := lpT Tryd.prog cfg RN n 5 62 5 0 q (spec_l1Digits_S5 x0 x3 x4)

theorem spec_l1Digits_L5_of {n q : Nat} {x0 : Int} {x3 : Bool} {x4 : ByteArray} {e : Ex} {x3O : Bool} {x4O : ByteArray} (h : lp Tryd.prog cfg RN n 5 62 5 0 q (spec_l1Digits_S5 x0 x3 x4) = some (e, spec_l1Digits_O5 x3O x4O)) : spec_l1Digits_L5 n q x0 x3 x4 = some (e, (x3O, x4O, ()), ()) := by
  unfold spec_l1Digits_L5 lpT
  rw [h]
  kernel_rfl

theorem spec_l1Digits_L5_if {n q : Nat} {x0 : Int} {x3 : Bool} {x4 : ByteArray} {c : Prop} [Decidable c] {e e' : Ex} {x3O : Bool} {x4O : ByteArray} {x3P : Bool} {x4P : ByteArray} (h : lp Tryd.prog cfg RN n 5 62 5 0 q (spec_l1Digits_S5 x0 x3 x4) = some (if c then (e, spec_l1Digits_O5 x3O x4O) else (e', spec_l1Digits_O5 x3P x4P))) : spec_l1Digits_L5 n q x0 x3 x4 = some (if c then (e, (x3O, x4O, ()), ()) else (e', (x3P, x4P, ()), ())) := by
  by_cases hc : c
  · rw [if_pos hc] at h ⊢; exact spec_l1Digits_L5_of h
  · rw [if_neg hc] at h ⊢; exact spec_l1Digits_L5_of h

@[reducible] def laws_toTermS_S3 (t0 : Bool) (x0 : List Term) (x3 : List Term) (x4 : Int) : St := ⟨frOf [(0, .sl t0 .term x0), (3, .c (.row (.own 3) .term)), (4, .int x4)], hpIds [(.own 3, .row true .term x3)]⟩

@[reducible] def laws_toTermS_O3 (x3 : List Term) : St := ⟨frOf [(3, .c (.row (.own 3) .term))], hpIds [(.own 3, .row true .term x3)]⟩

noncomputable def laws_toTermS_L3 (n q : Nat) (t0 : Bool) (x0 : List Term) (x3 : List Term) (x4 : Int) : Option (Ex × (Unit × Unit) × List Term × Unit) := lpT Tryd.prog cfg RN n 5 65 3 0 q (laws_toTermS_S3 t0 x0 x3 x4)

theorem laws_toTermS_L3_of {n q : Nat} {t0 : Bool} {x0 : List Term} {x3 : List Term} {x4 : Int} {e : Ex} {x3O : List Term} (h : lp Tryd.prog cfg RN n 5 65 3 0 q (laws_toTermS_S3 t0 x0 x3 x4) = some (e, laws_toTermS_O3 x3O)) : laws_toTermS_L3 n q t0 x0 x3 x4 = some (e, ((), ()), x3O, ()) := by
  unfold laws_toTermS_L3 lpT
  rw [h]
  kernel_rfl

theorem laws_toTermS_L3_if {n q : Nat} {t0 : Bool} {x0 : List Term} {x3 : List Term} {x4 : Int} {c : Prop} [Decidable c] {e e' : Ex} {x3O : List Term} {x3P : List Term} (h : lp Tryd.prog cfg RN n 5 65 3 0 q (laws_toTermS_S3 t0 x0 x3 x4) = some (if c then (e, laws_toTermS_O3 x3O) else (e', laws_toTermS_O3 x3P))) : laws_toTermS_L3 n q t0 x0 x3 x4 = some (if c then (e, ((), ()), x3O, ()) else (e', ((), ()), x3P, ())) := by
  by_cases hc : c
  · rw [if_pos hc] at h ⊢; exact laws_toTermS_L3_of h
  · rw [if_neg hc] at h ⊢; exact laws_toTermS_L3_of h

@[reducible] def laws_toPolicyS_S3 (t0 : Bool) (x0 : List Policy) (x3 : List Policy) (x4 : Int) : St := ⟨frOf [(0, .sl t0 .policy x0), (3, .c (.row (.own 3) .policy)), (4, .int x4)], hpIds [(.own 3, .row true .policy x3)]⟩

@[reducible] def laws_toPolicyS_O3 (x3 : List Policy) : St := ⟨frOf [(3, .c (.row (.own 3) .policy))], hpIds [(.own 3, .row true .policy x3)]⟩

noncomputable def laws_toPolicyS_L3 (n q : Nat) (t0 : Bool) (x0 : List Policy) (x3 : List Policy) (x4 : Int) : Option (Ex × (Unit × Unit) × List Policy × Unit) := lpT Tryd.prog cfg RN n 5 66 3 0 q (laws_toPolicyS_S3 t0 x0 x3 x4)

theorem laws_toPolicyS_L3_of {n q : Nat} {t0 : Bool} {x0 : List Policy} {x3 : List Policy} {x4 : Int} {e : Ex} {x3O : List Policy} (h : lp Tryd.prog cfg RN n 5 66 3 0 q (laws_toPolicyS_S3 t0 x0 x3 x4) = some (e, laws_toPolicyS_O3 x3O)) : laws_toPolicyS_L3 n q t0 x0 x3 x4 = some (e, ((), ()), x3O, ()) := by
  unfold laws_toPolicyS_L3 lpT
  rw [h]
  kernel_rfl

theorem laws_toPolicyS_L3_if {n q : Nat} {t0 : Bool} {x0 : List Policy} {x3 : List Policy} {x4 : Int} {c : Prop} [Decidable c] {e e' : Ex} {x3O : List Policy} {x3P : List Policy} (h : lp Tryd.prog cfg RN n 5 66 3 0 q (laws_toPolicyS_S3 t0 x0 x3 x4) = some (if c then (e, laws_toPolicyS_O3 x3O) else (e', laws_toPolicyS_O3 x3P))) : laws_toPolicyS_L3 n q t0 x0 x3 x4 = some (if c then (e, ((), ()), x3O, ()) else (e', ((), ()), x3P, ())) := by
  by_cases hc : c
  · rw [if_pos hc] at h ⊢; exact laws_toPolicyS_L3_of h
  · rw [if_neg hc] at h ⊢; exact laws_toPolicyS_L3_of h

@[reducible] def laws_toHostS_S3 (t0 : Bool) (x0 : List Host) (x3 : List Host) (x4 : Int) : St := ⟨frOf [(0, .sl t0 .host x0), (3, .c (.row (.own 3) .host)), (4, .int x4)], hpIds [(.own 3, .row true .host x3)]⟩

@[reducible] def laws_toHostS_O3 (x3 : List Host) : St := ⟨frOf [(3, .c (.row (.own 3) .host))], hpIds [(.own 3, .row true .host x3)]⟩

noncomputable def laws_toHostS_L3 (n q : Nat) (t0 : Bool) (x0 : List Host) (x3 : List Host) (x4 : Int) : Option (Ex × (Unit × Unit) × List Host × Unit) := lpT Tryd.prog cfg RN n 5 67 3 0 q (laws_toHostS_S3 t0 x0 x3 x4)

theorem laws_toHostS_L3_of {n q : Nat} {t0 : Bool} {x0 : List Host} {x3 : List Host} {x4 : Int} {e : Ex} {x3O : List Host} (h : lp Tryd.prog cfg RN n 5 67 3 0 q (laws_toHostS_S3 t0 x0 x3 x4) = some (e, laws_toHostS_O3 x3O)) : laws_toHostS_L3 n q t0 x0 x3 x4 = some (e, ((), ()), x3O, ()) := by
  unfold laws_toHostS_L3 lpT
  rw [h]
  kernel_rfl

theorem laws_toHostS_L3_if {n q : Nat} {t0 : Bool} {x0 : List Host} {x3 : List Host} {x4 : Int} {c : Prop} [Decidable c] {e e' : Ex} {x3O : List Host} {x3P : List Host} (h : lp Tryd.prog cfg RN n 5 67 3 0 q (laws_toHostS_S3 t0 x0 x3 x4) = some (if c then (e, laws_toHostS_O3 x3O) else (e', laws_toHostS_O3 x3P))) : laws_toHostS_L3 n q t0 x0 x3 x4 = some (if c then (e, ((), ()), x3O, ()) else (e', ((), ()), x3P, ())) := by
  by_cases hc : c
  · rw [if_pos hc] at h ⊢; exact laws_toHostS_L3_of h
  · rw [if_neg hc] at h ⊢; exact laws_toHostS_L3_of h

@[reducible] def laws_toLetterS_S3 (t0 : Bool) (x0 : List Letter) (x3 : List Letter) (x4 : Int) : St := ⟨frOf [(0, .sl t0 .letter x0), (3, .c (.row (.own 3) .letter)), (4, .int x4)], hpIds [(.own 3, .row true .letter x3)]⟩

@[reducible] def laws_toLetterS_O3 (x3 : List Letter) : St := ⟨frOf [(3, .c (.row (.own 3) .letter))], hpIds [(.own 3, .row true .letter x3)]⟩

noncomputable def laws_toLetterS_L3 (n q : Nat) (t0 : Bool) (x0 : List Letter) (x3 : List Letter) (x4 : Int) : Option (Ex × (Unit × Unit) × List Letter × Unit) := lpT Tryd.prog cfg RN n 5 68 3 0 q (laws_toLetterS_S3 t0 x0 x3 x4)

theorem laws_toLetterS_L3_of {n q : Nat} {t0 : Bool} {x0 : List Letter} {x3 : List Letter} {x4 : Int} {e : Ex} {x3O : List Letter} (h : lp Tryd.prog cfg RN n 5 68 3 0 q (laws_toLetterS_S3 t0 x0 x3 x4) = some (e, laws_toLetterS_O3 x3O)) : laws_toLetterS_L3 n q t0 x0 x3 x4 = some (e, ((), ()), x3O, ()) := by
  unfold laws_toLetterS_L3 lpT
  rw [h]
  kernel_rfl

theorem laws_toLetterS_L3_if {n q : Nat} {t0 : Bool} {x0 : List Letter} {x3 : List Letter} {x4 : Int} {c : Prop} [Decidable c] {e e' : Ex} {x3O : List Letter} {x3P : List Letter} (h : lp Tryd.prog cfg RN n 5 68 3 0 q (laws_toLetterS_S3 t0 x0 x3 x4) = some (if c then (e, laws_toLetterS_O3 x3O) else (e', laws_toLetterS_O3 x3P))) : laws_toLetterS_L3 n q t0 x0 x3 x4 = some (if c then (e, ((), ()), x3O, ()) else (e', ((), ()), x3P, ())) := by
  by_cases hc : c
  · rw [if_pos hc] at h ⊢; exact laws_toLetterS_L3_of h
  · rw [if_neg hc] at h ⊢; exact laws_toLetterS_L3_of h

@[reducible] def laws_toCallS_S3 (t0 : Bool) (x0 : List CallD) (x3 : List CallD) (x4 : Int) : St := ⟨frOf [(0, .sl t0 .call x0), (3, .c (.row (.own 3) .call)), (4, .int x4)], hpIds [(.own 3, .row true .call x3)]⟩

@[reducible] def laws_toCallS_O3 (x3 : List CallD) : St := ⟨frOf [(3, .c (.row (.own 3) .call))], hpIds [(.own 3, .row true .call x3)]⟩

noncomputable def laws_toCallS_L3 (n q : Nat) (t0 : Bool) (x0 : List CallD) (x3 : List CallD) (x4 : Int) : Option (Ex × (Unit × Unit) × List CallD × Unit) := lpT Tryd.prog cfg RN n 5 69 3 0 q (laws_toCallS_S3 t0 x0 x3 x4)

theorem laws_toCallS_L3_of {n q : Nat} {t0 : Bool} {x0 : List CallD} {x3 : List CallD} {x4 : Int} {e : Ex} {x3O : List CallD} (h : lp Tryd.prog cfg RN n 5 69 3 0 q (laws_toCallS_S3 t0 x0 x3 x4) = some (e, laws_toCallS_O3 x3O)) : laws_toCallS_L3 n q t0 x0 x3 x4 = some (e, ((), ()), x3O, ()) := by
  unfold laws_toCallS_L3 lpT
  rw [h]
  kernel_rfl

theorem laws_toCallS_L3_if {n q : Nat} {t0 : Bool} {x0 : List CallD} {x3 : List CallD} {x4 : Int} {c : Prop} [Decidable c] {e e' : Ex} {x3O : List CallD} {x3P : List CallD} (h : lp Tryd.prog cfg RN n 5 69 3 0 q (laws_toCallS_S3 t0 x0 x3 x4) = some (if c then (e, laws_toCallS_O3 x3O) else (e', laws_toCallS_O3 x3P))) : laws_toCallS_L3 n q t0 x0 x3 x4 = some (if c then (e, ((), ()), x3O, ()) else (e', ((), ()), x3P, ())) := by
  by_cases hc : c
  · rw [if_pos hc] at h ⊢; exact laws_toCallS_L3_of h
  · rw [if_neg hc] at h ⊢; exact laws_toCallS_L3_of h

@[reducible] def laws_toTalkS_S3 (t0 : Bool) (x0 : List Talk) (x3 : List Talk) (x4 : Int) : St := ⟨frOf [(0, .sl t0 .talk x0), (3, .c (.row (.own 3) .talk)), (4, .int x4)], hpIds [(.own 3, .row true .talk x3)]⟩

@[reducible] def laws_toTalkS_O3 (x3 : List Talk) : St := ⟨frOf [(3, .c (.row (.own 3) .talk))], hpIds [(.own 3, .row true .talk x3)]⟩

noncomputable def laws_toTalkS_L3 (n q : Nat) (t0 : Bool) (x0 : List Talk) (x3 : List Talk) (x4 : Int) : Option (Ex × (Unit × Unit) × List Talk × Unit) := lpT Tryd.prog cfg RN n 5 70 3 0 q (laws_toTalkS_S3 t0 x0 x3 x4)

theorem laws_toTalkS_L3_of {n q : Nat} {t0 : Bool} {x0 : List Talk} {x3 : List Talk} {x4 : Int} {e : Ex} {x3O : List Talk} (h : lp Tryd.prog cfg RN n 5 70 3 0 q (laws_toTalkS_S3 t0 x0 x3 x4) = some (e, laws_toTalkS_O3 x3O)) : laws_toTalkS_L3 n q t0 x0 x3 x4 = some (e, ((), ()), x3O, ()) := by
  unfold laws_toTalkS_L3 lpT
  rw [h]
  kernel_rfl

theorem laws_toTalkS_L3_if {n q : Nat} {t0 : Bool} {x0 : List Talk} {x3 : List Talk} {x4 : Int} {c : Prop} [Decidable c] {e e' : Ex} {x3O : List Talk} {x3P : List Talk} (h : lp Tryd.prog cfg RN n 5 70 3 0 q (laws_toTalkS_S3 t0 x0 x3 x4) = some (if c then (e, laws_toTalkS_O3 x3O) else (e', laws_toTalkS_O3 x3P))) : laws_toTalkS_L3 n q t0 x0 x3 x4 = some (if c then (e, ((), ()), x3O, ()) else (e', ((), ()), x3P, ())) := by
  by_cases hc : c
  · rw [if_pos hc] at h ⊢; exact laws_toTalkS_L3_of h
  · rw [if_neg hc] at h ⊢; exact laws_toTalkS_L3_of h

@[reducible] def laws_eqTermS_S4 (t0 : Bool) (x0 : List Term) (t1 : Bool) (x1 : List Term) (x4 : Bool) (x5 : Int) : St := ⟨frOf [(0, .sl t0 .term x0), (1, .sl t1 .term x1), (4, .bool x4), (5, .int x5)], hpIds []⟩

@[reducible] def laws_eqTermS_O4 (x4 : Bool) : St := ⟨frOf [(4, .bool x4)], hpIds []⟩

noncomputable def laws_eqTermS_L4 (n q : Nat) (t0 : Bool) (x0 : List Term) (t1 : Bool) (x1 : List Term) (x4 : Bool) (x5 : Int) : Option (Ex × (Bool × Unit) × Unit) := lpT Tryd.prog cfg RN n 5 74 4 0 q (laws_eqTermS_S4 t0 x0 t1 x1 x4 x5)

theorem laws_eqTermS_L4_of {n q : Nat} {t0 : Bool} {x0 : List Term} {t1 : Bool} {x1 : List Term} {x4 : Bool} {x5 : Int} {e : Ex} {x4O : Bool} (h : lp Tryd.prog cfg RN n 5 74 4 0 q (laws_eqTermS_S4 t0 x0 t1 x1 x4 x5) = some (e, laws_eqTermS_O4 x4O)) : laws_eqTermS_L4 n q t0 x0 t1 x1 x4 x5 = some (e, (x4O, ()), ()) := by
  unfold laws_eqTermS_L4 lpT
  rw [h]
  kernel_rfl

theorem laws_eqTermS_L4_if {n q : Nat} {t0 : Bool} {x0 : List Term} {t1 : Bool} {x1 : List Term} {x4 : Bool} {x5 : Int} {c : Prop} [Decidable c] {e e' : Ex} {x4O : Bool} {x4P : Bool} (h : lp Tryd.prog cfg RN n 5 74 4 0 q (laws_eqTermS_S4 t0 x0 t1 x1 x4 x5) = some (if c then (e, laws_eqTermS_O4 x4O) else (e', laws_eqTermS_O4 x4P))) : laws_eqTermS_L4 n q t0 x0 t1 x1 x4 x5 = some (if c then (e, (x4O, ()), ()) else (e', (x4P, ()), ())) := by
  by_cases hc : c
  · rw [if_pos hc] at h ⊢; exact laws_eqTermS_L4_of h
  · rw [if_neg hc] at h ⊢; exact laws_eqTermS_L4_of h

@[reducible] def laws_eqPolicyS_S4 (t0 : Bool) (x0 : List Policy) (t1 : Bool) (x1 : List Policy) (x4 : Bool) (x5 : Int) : St := ⟨frOf [(0, .sl t0 .policy x0), (1, .sl t1 .policy x1), (4, .bool x4), (5, .int x5)], hpIds []⟩

@[reducible] def laws_eqPolicyS_O4 (x4 : Bool) : St := ⟨frOf [(4, .bool x4)], hpIds []⟩

noncomputable def laws_eqPolicyS_L4 (n q : Nat) (t0 : Bool) (x0 : List Policy) (t1 : Bool) (x1 : List Policy) (x4 : Bool) (x5 : Int) : Option (Ex × (Bool × Unit) × Unit) := lpT Tryd.prog cfg RN n 5 75 4 0 q (laws_eqPolicyS_S4 t0 x0 t1 x1 x4 x5)

theorem laws_eqPolicyS_L4_of {n q : Nat} {t0 : Bool} {x0 : List Policy} {t1 : Bool} {x1 : List Policy} {x4 : Bool} {x5 : Int} {e : Ex} {x4O : Bool} (h : lp Tryd.prog cfg RN n 5 75 4 0 q (laws_eqPolicyS_S4 t0 x0 t1 x1 x4 x5) = some (e, laws_eqPolicyS_O4 x4O)) : laws_eqPolicyS_L4 n q t0 x0 t1 x1 x4 x5 = some (e, (x4O, ()), ()) := by
  unfold laws_eqPolicyS_L4 lpT
  rw [h]
  kernel_rfl

theorem laws_eqPolicyS_L4_if {n q : Nat} {t0 : Bool} {x0 : List Policy} {t1 : Bool} {x1 : List Policy} {x4 : Bool} {x5 : Int} {c : Prop} [Decidable c] {e e' : Ex} {x4O : Bool} {x4P : Bool} (h : lp Tryd.prog cfg RN n 5 75 4 0 q (laws_eqPolicyS_S4 t0 x0 t1 x1 x4 x5) = some (if c then (e, laws_eqPolicyS_O4 x4O) else (e', laws_eqPolicyS_O4 x4P))) : laws_eqPolicyS_L4 n q t0 x0 t1 x1 x4 x5 = some (if c then (e, (x4O, ()), ()) else (e', (x4P, ()), ())) := by
  by_cases hc : c
  · rw [if_pos hc] at h ⊢; exact laws_eqPolicyS_L4_of h
  · rw [if_neg hc] at h ⊢; exact laws_eqPolicyS_L4_of h

@[reducible] def laws_eqHostS_S4 (t0 : Bool) (x0 : List Host) (t1 : Bool) (x1 : List Host) (x4 : Bool) (x5 : Int) : St := ⟨frOf [(0, .sl t0 .host x0), (1, .sl t1 .host x1), (4, .bool x4), (5, .int x5)], hpIds []⟩

@[reducible] def laws_eqHostS_O4 (x4 : Bool) : St := ⟨frOf [(4, .bool x4)], hpIds []⟩

noncomputable def laws_eqHostS_L4 (n q : Nat) (t0 : Bool) (x0 : List Host) (t1 : Bool) (x1 : List Host) (x4 : Bool) (x5 : Int) : Option (Ex × (Bool × Unit) × Unit) := lpT Tryd.prog cfg RN n 5 76 4 0 q (laws_eqHostS_S4 t0 x0 t1 x1 x4 x5)

theorem laws_eqHostS_L4_of {n q : Nat} {t0 : Bool} {x0 : List Host} {t1 : Bool} {x1 : List Host} {x4 : Bool} {x5 : Int} {e : Ex} {x4O : Bool} (h : lp Tryd.prog cfg RN n 5 76 4 0 q (laws_eqHostS_S4 t0 x0 t1 x1 x4 x5) = some (e, laws_eqHostS_O4 x4O)) : laws_eqHostS_L4 n q t0 x0 t1 x1 x4 x5 = some (e, (x4O, ()), ()) := by
  unfold laws_eqHostS_L4 lpT
  rw [h]
  kernel_rfl

theorem laws_eqHostS_L4_if {n q : Nat} {t0 : Bool} {x0 : List Host} {t1 : Bool} {x1 : List Host} {x4 : Bool} {x5 : Int} {c : Prop} [Decidable c] {e e' : Ex} {x4O : Bool} {x4P : Bool} (h : lp Tryd.prog cfg RN n 5 76 4 0 q (laws_eqHostS_S4 t0 x0 t1 x1 x4 x5) = some (if c then (e, laws_eqHostS_O4 x4O) else (e', laws_eqHostS_O4 x4P))) : laws_eqHostS_L4 n q t0 x0 t1 x1 x4 x5 = some (if c then (e, (x4O, ()), ()) else (e', (x4P, ()), ())) := by
  by_cases hc : c
  · rw [if_pos hc] at h ⊢; exact laws_eqHostS_L4_of h
  · rw [if_neg hc] at h ⊢; exact laws_eqHostS_L4_of h

@[reducible] def laws_eqLetterS_S4 (t0 : Bool) (x0 : List Letter) (t1 : Bool) (x1 : List Letter) (x4 : Bool) (x5 : Int) : St := ⟨frOf [(0, .sl t0 .letter x0), (1, .sl t1 .letter x1), (4, .bool x4), (5, .int x5)], hpIds []⟩

@[reducible] def laws_eqLetterS_O4 (x4 : Bool) : St := ⟨frOf [(4, .bool x4)], hpIds []⟩

noncomputable def laws_eqLetterS_L4 (n q : Nat) (t0 : Bool) (x0 : List Letter) (t1 : Bool) (x1 : List Letter) (x4 : Bool) (x5 : Int) : Option (Ex × (Bool × Unit) × Unit) := lpT Tryd.prog cfg RN n 5 77 4 0 q (laws_eqLetterS_S4 t0 x0 t1 x1 x4 x5)

theorem laws_eqLetterS_L4_of {n q : Nat} {t0 : Bool} {x0 : List Letter} {t1 : Bool} {x1 : List Letter} {x4 : Bool} {x5 : Int} {e : Ex} {x4O : Bool} (h : lp Tryd.prog cfg RN n 5 77 4 0 q (laws_eqLetterS_S4 t0 x0 t1 x1 x4 x5) = some (e, laws_eqLetterS_O4 x4O)) : laws_eqLetterS_L4 n q t0 x0 t1 x1 x4 x5 = some (e, (x4O, ()), ()) := by
  unfold laws_eqLetterS_L4 lpT
  rw [h]
  kernel_rfl

theorem laws_eqLetterS_L4_if {n q : Nat} {t0 : Bool} {x0 : List Letter} {t1 : Bool} {x1 : List Letter} {x4 : Bool} {x5 : Int} {c : Prop} [Decidable c] {e e' : Ex} {x4O : Bool} {x4P : Bool} (h : lp Tryd.prog cfg RN n 5 77 4 0 q (laws_eqLetterS_S4 t0 x0 t1 x1 x4 x5) = some (if c then (e, laws_eqLetterS_O4 x4O) else (e', laws_eqLetterS_O4 x4P))) : laws_eqLetterS_L4 n q t0 x0 t1 x1 x4 x5 = some (if c then (e, (x4O, ()), ()) else (e', (x4P, ()), ())) := by
  by_cases hc : c
  · rw [if_pos hc] at h ⊢; exact laws_eqLetterS_L4_of h
  · rw [if_neg hc] at h ⊢; exact laws_eqLetterS_L4_of h

@[reducible] def laws_eqCallS_S4 (t0 : Bool) (x0 : List CallD) (t1 : Bool) (x1 : List CallD) (x4 : Bool) (x5 : Int) : St := ⟨frOf [(0, .sl t0 .call x0), (1, .sl t1 .call x1), (4, .bool x4), (5, .int x5)], hpIds []⟩

@[reducible] def laws_eqCallS_O4 (x4 : Bool) : St := ⟨frOf [(4, .bool x4)], hpIds []⟩

noncomputable def laws_eqCallS_L4 (n q : Nat) (t0 : Bool) (x0 : List CallD) (t1 : Bool) (x1 : List CallD) (x4 : Bool) (x5 : Int) : Option (Ex × (Bool × Unit) × Unit) := lpT Tryd.prog cfg RN n 5 78 4 0 q (laws_eqCallS_S4 t0 x0 t1 x1 x4 x5)

theorem laws_eqCallS_L4_of {n q : Nat} {t0 : Bool} {x0 : List CallD} {t1 : Bool} {x1 : List CallD} {x4 : Bool} {x5 : Int} {e : Ex} {x4O : Bool} (h : lp Tryd.prog cfg RN n 5 78 4 0 q (laws_eqCallS_S4 t0 x0 t1 x1 x4 x5) = some (e, laws_eqCallS_O4 x4O)) : laws_eqCallS_L4 n q t0 x0 t1 x1 x4 x5 = some (e, (x4O, ()), ()) := by
  unfold laws_eqCallS_L4 lpT
  rw [h]
  kernel_rfl

theorem laws_eqCallS_L4_if {n q : Nat} {t0 : Bool} {x0 : List CallD} {t1 : Bool} {x1 : List CallD} {x4 : Bool} {x5 : Int} {c : Prop} [Decidable c] {e e' : Ex} {x4O : Bool} {x4P : Bool} (h : lp Tryd.prog cfg RN n 5 78 4 0 q (laws_eqCallS_S4 t0 x0 t1 x1 x4 x5) = some (if c then (e, laws_eqCallS_O4 x4O) else (e', laws_eqCallS_O4 x4P))) : laws_eqCallS_L4 n q t0 x0 t1 x1 x4 x5 = some (if c then (e, (x4O, ()), ()) else (e', (x4P, ()), ())) := by
  by_cases hc : c
  · rw [if_pos hc] at h ⊢; exact laws_eqCallS_L4_of h
  · rw [if_neg hc] at h ⊢; exact laws_eqCallS_L4_of h

@[reducible] def laws_eqTalkS_S4 (t0 : Bool) (x0 : List Talk) (t1 : Bool) (x1 : List Talk) (x4 : Bool) (x5 : Int) : St := ⟨frOf [(0, .sl t0 .talk x0), (1, .sl t1 .talk x1), (4, .bool x4), (5, .int x5)], hpIds []⟩

@[reducible] def laws_eqTalkS_O4 (x4 : Bool) : St := ⟨frOf [(4, .bool x4)], hpIds []⟩

noncomputable def laws_eqTalkS_L4 (n q : Nat) (t0 : Bool) (x0 : List Talk) (t1 : Bool) (x1 : List Talk) (x4 : Bool) (x5 : Int) : Option (Ex × (Bool × Unit) × Unit) := lpT Tryd.prog cfg RN n 5 79 4 0 q (laws_eqTalkS_S4 t0 x0 t1 x1 x4 x5)

theorem laws_eqTalkS_L4_of {n q : Nat} {t0 : Bool} {x0 : List Talk} {t1 : Bool} {x1 : List Talk} {x4 : Bool} {x5 : Int} {e : Ex} {x4O : Bool} (h : lp Tryd.prog cfg RN n 5 79 4 0 q (laws_eqTalkS_S4 t0 x0 t1 x1 x4 x5) = some (e, laws_eqTalkS_O4 x4O)) : laws_eqTalkS_L4 n q t0 x0 t1 x1 x4 x5 = some (e, (x4O, ()), ()) := by
  unfold laws_eqTalkS_L4 lpT
  rw [h]
  kernel_rfl

theorem laws_eqTalkS_L4_if {n q : Nat} {t0 : Bool} {x0 : List Talk} {t1 : Bool} {x1 : List Talk} {x4 : Bool} {x5 : Int} {c : Prop} [Decidable c] {e e' : Ex} {x4O : Bool} {x4P : Bool} (h : lp Tryd.prog cfg RN n 5 79 4 0 q (laws_eqTalkS_S4 t0 x0 t1 x1 x4 x5) = some (if c then (e, laws_eqTalkS_O4 x4O) else (e', laws_eqTalkS_O4 x4P))) : laws_eqTalkS_L4 n q t0 x0 t1 x1 x4 x5 = some (if c then (e, (x4O, ()), ()) else (e', (x4P, ()), ())) := by
  by_cases hc : c
  · rw [if_pos hc] at h ⊢; exact laws_eqTalkS_L4_of h
  · rw [if_neg hc] at h ⊢; exact laws_eqTalkS_L4_of h

@[reducible] def laws_szStringS_S5 (t0 : Bool) (x0 : List ByteArray) (x1 : Int) (x4 : Int) (x5 : Int) : St := ⟨frOf [(0, .sl t0 .str x0), (1, .int x1), (4, .int x4), (5, .int x5)], hpIds []⟩

@[reducible] def laws_szStringS_O5 (x1 : Int) (x4 : Int) : St := ⟨frOf [(1, .int x1), (4, .int x4)], hpIds []⟩

noncomputable def laws_szStringS_L5 (n q : Nat) (t0 : Bool) (x0 : List ByteArray) (x1 : Int) (x4 : Int) (x5 : Int) : Option (Ex × (Int × Int × Unit) × Unit) := lpT Tryd.prog cfg RN n 5 137 5 0 q (laws_szStringS_S5 t0 x0 x1 x4 x5)

theorem laws_szStringS_L5_of {n q : Nat} {t0 : Bool} {x0 : List ByteArray} {x1 : Int} {x4 : Int} {x5 : Int} {e : Ex} {x1O : Int} {x4O : Int} (h : lp Tryd.prog cfg RN n 5 137 5 0 q (laws_szStringS_S5 t0 x0 x1 x4 x5) = some (e, laws_szStringS_O5 x1O x4O)) : laws_szStringS_L5 n q t0 x0 x1 x4 x5 = some (e, (x1O, x4O, ()), ()) := by
  unfold laws_szStringS_L5 lpT
  rw [h]
  kernel_rfl

theorem laws_szStringS_L5_if {n q : Nat} {t0 : Bool} {x0 : List ByteArray} {x1 : Int} {x4 : Int} {x5 : Int} {c : Prop} [Decidable c] {e e' : Ex} {x1O : Int} {x4O : Int} {x1P : Int} {x4P : Int} (h : lp Tryd.prog cfg RN n 5 137 5 0 q (laws_szStringS_S5 t0 x0 x1 x4 x5) = some (if c then (e, laws_szStringS_O5 x1O x4O) else (e', laws_szStringS_O5 x1P x4P))) : laws_szStringS_L5 n q t0 x0 x1 x4 x5 = some (if c then (e, (x1O, x4O, ()), ()) else (e', (x1P, x4P, ()), ())) := by
  by_cases hc : c
  · rw [if_pos hc] at h ⊢; exact laws_szStringS_L5_of h
  · rw [if_neg hc] at h ⊢; exact laws_szStringS_L5_of h

@[reducible] def laws_toStringS_S3 (t0 : Bool) (x0 : List ByteArray) (x3 : List ByteArray) (x4 : Int) : St := ⟨frOf [(0, .sl t0 .str x0), (3, .c (.row (.own 3) .str)), (4, .int x4)], hpIds [(.own 3, .row true .str x3)]⟩

@[reducible] def laws_toStringS_O3 (x3 : List ByteArray) : St := ⟨frOf [(3, .c (.row (.own 3) .str))], hpIds [(.own 3, .row true .str x3)]⟩

noncomputable def laws_toStringS_L3 (n q : Nat) (t0 : Bool) (x0 : List ByteArray) (x3 : List ByteArray) (x4 : Int) : Option (Ex × (Unit × Unit) × List ByteArray × Unit) := lpT Tryd.prog cfg RN n 5 138 3 0 q (laws_toStringS_S3 t0 x0 x3 x4)

theorem laws_toStringS_L3_of {n q : Nat} {t0 : Bool} {x0 : List ByteArray} {x3 : List ByteArray} {x4 : Int} {e : Ex} {x3O : List ByteArray} (h : lp Tryd.prog cfg RN n 5 138 3 0 q (laws_toStringS_S3 t0 x0 x3 x4) = some (e, laws_toStringS_O3 x3O)) : laws_toStringS_L3 n q t0 x0 x3 x4 = some (e, ((), ()), x3O, ()) := by
  unfold laws_toStringS_L3 lpT
  rw [h]
  kernel_rfl

theorem laws_toStringS_L3_if {n q : Nat} {t0 : Bool} {x0 : List ByteArray} {x3 : List ByteArray} {x4 : Int} {c : Prop} [Decidable c] {e e' : Ex} {x3O : List ByteArray} {x3P : List ByteArray} (h : lp Tryd.prog cfg RN n 5 138 3 0 q (laws_toStringS_S3 t0 x0 x3 x4) = some (if c then (e, laws_toStringS_O3 x3O) else (e', laws_toStringS_O3 x3P))) : laws_toStringS_L3 n q t0 x0 x3 x4 = some (if c then (e, ((), ()), x3O, ()) else (e', ((), ()), x3P, ())) := by
  by_cases hc : c
  · rw [if_pos hc] at h ⊢; exact laws_toStringS_L3_of h
  · rw [if_neg hc] at h ⊢; exact laws_toStringS_L3_of h

@[reducible] def laws_eqStringS_S4 (t0 : Bool) (x0 : List ByteArray) (t1 : Bool) (x1 : List ByteArray) (x4 : Bool) (x5 : Int) : St := ⟨frOf [(0, .sl t0 .str x0), (1, .sl t1 .str x1), (4, .bool x4), (5, .int x5)], hpIds []⟩

@[reducible] def laws_eqStringS_O4 (x4 : Bool) : St := ⟨frOf [(4, .bool x4)], hpIds []⟩

noncomputable def laws_eqStringS_L4 (n q : Nat) (t0 : Bool) (x0 : List ByteArray) (t1 : Bool) (x1 : List ByteArray) (x4 : Bool) (x5 : Int) : Option (Ex × (Bool × Unit) × Unit) := lpT Tryd.prog cfg RN n 5 143 4 0 q (laws_eqStringS_S4 t0 x0 t1 x1 x4 x5)

theorem laws_eqStringS_L4_of {n q : Nat} {t0 : Bool} {x0 : List ByteArray} {t1 : Bool} {x1 : List ByteArray} {x4 : Bool} {x5 : Int} {e : Ex} {x4O : Bool} (h : lp Tryd.prog cfg RN n 5 143 4 0 q (laws_eqStringS_S4 t0 x0 t1 x1 x4 x5) = some (e, laws_eqStringS_O4 x4O)) : laws_eqStringS_L4 n q t0 x0 t1 x1 x4 x5 = some (e, (x4O, ()), ()) := by
  unfold laws_eqStringS_L4 lpT
  rw [h]
  kernel_rfl

theorem laws_eqStringS_L4_if {n q : Nat} {t0 : Bool} {x0 : List ByteArray} {t1 : Bool} {x1 : List ByteArray} {x4 : Bool} {x5 : Int} {c : Prop} [Decidable c] {e e' : Ex} {x4O : Bool} {x4P : Bool} (h : lp Tryd.prog cfg RN n 5 143 4 0 q (laws_eqStringS_S4 t0 x0 t1 x1 x4 x5) = some (if c then (e, laws_eqStringS_O4 x4O) else (e', laws_eqStringS_O4 x4P))) : laws_eqStringS_L4 n q t0 x0 t1 x1 x4 x5 = some (if c then (e, (x4O, ()), ()) else (e', (x4P, ()), ())) := by
  by_cases hc : c
  · rw [if_pos hc] at h ⊢; exact laws_eqStringS_L4_of h
  · rw [if_neg hc] at h ⊢; exact laws_eqStringS_L4_of h

end Go.Proofs.YtepghohkfnmhmaaDoor
