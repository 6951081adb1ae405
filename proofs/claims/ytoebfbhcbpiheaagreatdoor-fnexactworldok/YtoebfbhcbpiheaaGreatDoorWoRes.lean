/-
  What each function comes to, over what the others answer, as plain data.
-/
import Derived.Test.YtoebfbhcbpiheaaGreatDoorWoCfg
namespace Go.Proofs.YtoebfbhcbpiheaaGreatDoor
open Go.Vm
set_option linter.unusedVariables false

noncomputable def laws_eqServer_T (a0 : Server) (a1 : Server) : Option Bool := presT RN 13 [.ag (Server.cells a0), .ag (Server.cells a1)] (.bool)

noncomputable def laws_szWorld_T (a0 : WorldD) (a1 : Int) : Option Int := presT RN 16 [.ag (WorldD.cells a0), .int a1] (.int)

noncomputable def spec_WorldOk_T (a0 : WorldD) : Option Bool := presT RN 17 [.ag (WorldD.cells a0)] (.bool)

noncomputable def laws_toWorld_T (a0 : WorldD) : Option WorldD := presT RN 18 [.ag (WorldD.cells a0)] (.world)

noncomputable def impl_WorldOk_T (a0 : WorldD) : Option Bool := presT RN 19 [.ag (WorldD.cells a0)] (.bool)

noncomputable def laws_eqWorld_T (a0 : WorldD) (a1 : WorldD) : Option Bool := presT RN 20 [.ag (WorldD.cells a0), .ag (WorldD.cells a1)] (.bool)

noncomputable def laws_szStringS_T (a0 : List ByteArray) (a1 : Int) : Option Int := presT RN 27 [.sl false .str a0, .int a1] (.int)

noncomputable def laws_toStringS_T (a0 : List ByteArray) : Option (List ByteArray) := presT RN 29 [.sl false .str a0] (.sl .str)

noncomputable def laws_eqStringS_T (a0 : List ByteArray) (a1 : List ByteArray) : Option Bool := presT RN 31 [.sl false .str a0, .sl false .str a1] (.bool)

noncomputable def spec_ServerOk_T (a0 : Server) : Option Bool := presT RN 42 [.ag (Server.cells a0)] (.bool)

noncomputable def impl_ServerOk_T (a0 : Server) : Option Bool := presT RN 46 [.ag (Server.cells a0)] (.bool)

noncomputable def laws_eqTerm_T (a0 : Term) (a1 : Term) : Option Bool := presT RN 47 [.ag (Term.cells a0), .ag (Term.cells a1)] (.bool)

noncomputable def laws_eqIntS_T (a0 : List Int) (a1 : List Int) : Option Bool := presT RN 48 [.sl false .int a0, .sl false .int a1] (.bool)

noncomputable def laws_szTermS_T (a0 : List Term) (a1 : Int) : Option Int := presT RN 53 [.sl false .term a0, .int a1] (.int)

noncomputable def laws_szPolicyS_T (a0 : List Policy) (a1 : Int) : Option Int := presT RN 54 [.sl false .policy a0, .int a1] (.int)

noncomputable def laws_szHostS_T (a0 : List Host) (a1 : Int) : Option Int := presT RN 55 [.sl false .host a0, .int a1] (.int)

noncomputable def laws_szLetterS_T (a0 : List Letter) (a1 : Int) : Option Int := presT RN 56 [.sl false .letter a0, .int a1] (.int)

noncomputable def laws_szCallS_T (a0 : List CallD) (a1 : Int) : Option Int := presT RN 57 [.sl false .call a0, .int a1] (.int)

noncomputable def laws_szTalkS_T (a0 : List Talk) (a1 : Int) : Option Int := presT RN 58 [.sl false .talk a0, .int a1] (.int)

noncomputable def laws_szIntS_T (a0 : List Int) (a1 : Int) : Option Int := presT RN 59 [.sl false .int a0, .int a1] (.int)

noncomputable def spec_l1In_T (a0 : Int) (a1 : Int) (a2 : Int) : Option Bool := presT RN 60 [.int a0, .int a1, .int a2] (.bool)

noncomputable def spec_CacheOk_T (a0 : List Policy) : Option Bool := presT RN 61 [.sl false .policy a0] (.bool)

noncomputable def spec_l13Hosts_T (a0 : List Host) : Option Bool := presT RN 62 [.sl false .host a0] (.bool)

noncomputable def spec_TermOk_T (a0 : Term) : Option Bool := presT RN 63 [.ag (Term.cells a0)] (.bool)

noncomputable def spec_LetterOk_T (a0 : Letter) : Option Bool := presT RN 64 [.ag (Letter.cells a0)] (.bool)

noncomputable def spec_l13Open_T (a0 : WorldD) : Option Bool := presT RN 65 [.ag (WorldD.cells a0)] (.bool)

noncomputable def laws_toTermS_T (a0 : List Term) : Option (List Term) := presT RN 66 [.sl false .term a0] (.sl .term)

noncomputable def laws_toPolicyS_T (a0 : List Policy) : Option (List Policy) := presT RN 67 [.sl false .policy a0] (.sl .policy)

noncomputable def laws_toHostS_T (a0 : List Host) : Option (List Host) := presT RN 68 [.sl false .host a0] (.sl .host)

noncomputable def laws_toLetterS_T (a0 : List Letter) : Option (List Letter) := presT RN 69 [.sl false .letter a0] (.sl .letter)

noncomputable def laws_toCallS_T (a0 : List CallD) : Option (List CallD) := presT RN 70 [.sl false .call a0] (.sl .call)

noncomputable def laws_toTalkS_T (a0 : List Talk) : Option (List Talk) := presT RN 71 [.sl false .talk a0] (.sl .talk)

noncomputable def laws_toIntS_T (a0 : List Int) : Option (List Int) := presT RN 72 [.sl false .int a0] (.sl .int)

noncomputable def impl_isTime_T (a0 : Int) : Option Bool := presT RN 73 [.int a0] (.bool)

noncomputable def impl_in_T (a0 : Int) (a1 : Int) (a2 : Int) : Option Bool := presT RN 74 [.int a0, .int a1, .int a2] (.bool)

noncomputable def slices_ContainsFunc_impl_Term_impl_Term_T (a0 : List Term) (a1 : V) : Option Bool := presT RN 75 [.sl false .term a0, a1] (.bool)

noncomputable def impl_TermOk_T (a0 : Term) : Option Bool := presT RN 77 [.ag (Term.cells a0)] (.bool)

noncomputable def impl_CacheOk_T (a0 : List Policy) : Option Bool := presT RN 78 [.sl false .policy a0] (.bool)

noncomputable def impl_hostsOk_T (a0 : List Host) : Option Bool := presT RN 79 [.sl false .host a0] (.bool)

noncomputable def slices_ContainsFunc_impl_Letter_impl_Letter_T (a0 : List Letter) (a1 : V) : Option Bool := presT RN 80 [.sl false .letter a0, a1] (.bool)

noncomputable def impl_LetterOk_T (a0 : Letter) : Option Bool := presT RN 82 [.ag (Letter.cells a0)] (.bool)

noncomputable def impl_linesOk_T (a0 : WorldD) : Option Bool := presT RN 83 [.ag (WorldD.cells a0)] (.bool)

noncomputable def impl_toldOk_T (a0 : List Int) : Option Bool := presT RN 84 [.sl false .int a0] (.bool)

noncomputable def laws_eqTermS_T (a0 : List Term) (a1 : List Term) : Option Bool := presT RN 85 [.sl false .term a0, .sl false .term a1] (.bool)

noncomputable def laws_eqPolicyS_T (a0 : List Policy) (a1 : List Policy) : Option Bool := presT RN 86 [.sl false .policy a0, .sl false .policy a1] (.bool)

noncomputable def laws_eqHostS_T (a0 : List Host) (a1 : List Host) : Option Bool := presT RN 87 [.sl false .host a0, .sl false .host a1] (.bool)

noncomputable def laws_eqLetterS_T (a0 : List Letter) (a1 : List Letter) : Option Bool := presT RN 88 [.sl false .letter a0, .sl false .letter a1] (.bool)

noncomputable def laws_eqCallS_T (a0 : List CallD) (a1 : List CallD) : Option Bool := presT RN 89 [.sl false .call a0, .sl false .call a1] (.bool)

noncomputable def laws_eqTalkS_T (a0 : List Talk) (a1 : List Talk) : Option Bool := presT RN 90 [.sl false .talk a0, .sl false .talk a1] (.bool)

noncomputable def spec_Same_T (a0 : Term) (a1 : Term) : Option Bool := presT RN 129 [.ag (Term.cells a0), .ag (Term.cells a1)] (.bool)

noncomputable def spec_HostOk_T (a0 : ByteArray) : Option Bool := presT RN 130 [.str a0] (.bool)

noncomputable def impl_HostOk_T (a0 : ByteArray) : Option Bool := presT RN 137 [.str a0] (.bool)

noncomputable def impl_isAtom_T (a0 : Int) : Option Bool := presT RN 138 [.int a0] (.bool)

noncomputable def impl_noTerm_T (a0 : Term) : Option Bool := presT RN 139 [.ag (Term.cells a0)] (.bool)

noncomputable def slices_ContainsFunc_int_int_T (a0 : List Int) (a1 : V) : Option Bool := presT RN 140 [.sl false .int a0, a1] (.bool)

noncomputable def laws_szTerm_T (a0 : Term) (a1 : Int) : Option Int := presT RN 142 [.ag (Term.cells a0), .int a1] (.int)

noncomputable def laws_szPolicy_T (a0 : Policy) (a1 : Int) : Option Int := presT RN 143 [.ag (Policy.cells a0), .int a1] (.int)

noncomputable def laws_szHost_T (a0 : Host) (a1 : Int) : Option Int := presT RN 144 [.ag (Host.cells a0), .int a1] (.int)

noncomputable def laws_szLetter_T (a0 : Letter) (a1 : Int) : Option Int := presT RN 145 [.ag (Letter.cells a0), .int a1] (.int)

noncomputable def laws_szCall_T (a0 : CallD) (a1 : Int) : Option Int := presT RN 146 [.ag (CallD.cells a0), .int a1] (.int)

noncomputable def laws_szTalk_T (a0 : Talk) (a1 : Int) : Option Int := presT RN 147 [.ag (Talk.cells a0), .int a1] (.int)

noncomputable def spec_PolicyOk_T (a0 : Policy) : Option Bool := presT RN 148 [.ag (Policy.cells a0)] (.bool)

noncomputable def spec_TermSize_T (a0 : Term) : Option Int := presT RN 149 [.ag (Term.cells a0)] (.int)

noncomputable def spec_l1Right_T (a0 : Term) : Option Bool := presT RN 150 [.ag (Term.cells a0)] (.bool)

noncomputable def spec_l6Domain_T (a0 : ByteArray) : Option Bool := presT RN 151 [.str a0] (.bool)

noncomputable def spec_ClientOk_T (a0 : Client) : Option Bool := presT RN 152 [.ag (Client.cells a0)] (.bool)

noncomputable def laws_toTerm_T (a0 : Term) : Option Term := presT RN 153 [.ag (Term.cells a0)] (.el .term)

noncomputable def laws_toPolicy_T (a0 : Policy) : Option Policy := presT RN 154 [.ag (Policy.cells a0)] (.el .policy)

noncomputable def laws_toHost_T (a0 : Host) : Option Host := presT RN 155 [.ag (Host.cells a0)] (.el .host)

noncomputable def laws_toLetter_T (a0 : Letter) : Option Letter := presT RN 156 [.ag (Letter.cells a0)] (.el .letter)

noncomputable def laws_toCall_T (a0 : CallD) : Option CallD := presT RN 157 [.ag (CallD.cells a0)] (.el .call)

noncomputable def laws_toTalk_T (a0 : Talk) : Option Talk := presT RN 158 [.ag (Talk.cells a0)] (.el .talk)

noncomputable def slices_IndexFunc_impl_Term_impl_Term_T (a0 : List Term) (a1 : V) : Option Int := presT RN 159 [.sl false .term a0, a1] (.int)

noncomputable def impl_TermSize_T (a0 : Term) : Option Int := presT RN 160 [.ag (Term.cells a0)] (.int)

noncomputable def impl_formOk_T (a0 : Term) : Option Bool := presT RN 161 [.ag (Term.cells a0)] (.bool)

noncomputable def impl_PolicyOk_T (a0 : Policy) : Option Bool := presT RN 162 [.ag (Policy.cells a0)] (.bool)

noncomputable def slices_ContainsFunc_impl_Host_impl_Host_T (a0 : List Host) (a1 : V) : Option Bool := presT RN 163 [.sl false .host a0, a1] (.bool)

noncomputable def slices_IndexFunc_impl_Letter_impl_Letter_T (a0 : List Letter) (a1 : V) : Option Int := presT RN 165 [.sl false .letter a0, a1] (.int)

noncomputable def impl_domainOk_T (a0 : ByteArray) : Option Bool := presT RN 166 [.str a0] (.bool)

noncomputable def impl_ClientOk_T (a0 : Client) : Option Bool := presT RN 167 [.ag (Client.cells a0)] (.bool)

noncomputable def laws_eqPolicy_T (a0 : Policy) (a1 : Policy) : Option Bool := presT RN 168 [.ag (Policy.cells a0), .ag (Policy.cells a1)] (.bool)

noncomputable def laws_eqHost_T (a0 : Host) (a1 : Host) : Option Bool := presT RN 169 [.ag (Host.cells a0), .ag (Host.cells a1)] (.bool)

noncomputable def laws_eqLetter_T (a0 : Letter) (a1 : Letter) : Option Bool := presT RN 170 [.ag (Letter.cells a0), .ag (Letter.cells a1)] (.bool)

noncomputable def laws_eqCall_T (a0 : CallD) (a1 : CallD) : Option Bool := presT RN 171 [.ag (CallD.cells a0), .ag (CallD.cells a1)] (.bool)

noncomputable def laws_eqTalk_T (a0 : Talk) (a1 : Talk) : Option Bool := presT RN 172 [.ag (Talk.cells a0), .ag (Talk.cells a1)] (.bool)

noncomputable def spec_l5Labels_T (a0 : ByteArray) (a1 : Int) : Option Bool := presT RN 193 [.str a0, .int a1] (.bool)

noncomputable def impl_labelsOk_T (a0 : ByteArray) (a1 : Int) : Option Bool := presT RN 196 [.str a0, .int a1] (.bool)

noncomputable def impl_Same_T (a0 : Term) (a1 : Term) : Option Bool := presT RN 197 [.ag (Term.cells a0), .ag (Term.cells a1)] (.bool)

noncomputable def slices_IndexFunc_int_int_T (a0 : List Int) (a1 : V) : Option Int := presT RN 198 [.sl false .int a0, a1] (.int)

noncomputable def laws_szClient_T (a0 : Client) (a1 : Int) : Option Int := presT RN 199 [.ag (Client.cells a0), .int a1] (.int)

noncomputable def laws_szServer_T (a0 : Server) (a1 : Int) : Option Int := presT RN 200 [.ag (Server.cells a0), .int a1] (.int)

noncomputable def spec_PatternOk_T (a0 : ByteArray) : Option Bool := presT RN 201 [.str a0] (.bool)

noncomputable def spec_l1Kids_T (a0 : Int) : Option Int := presT RN 202 [.int a0] (.int)

noncomputable def spec_Before_T (a0 : Term) (a1 : Term) : Option Bool := presT RN 203 [.ag (Term.cells a0), .ag (Term.cells a1)] (.bool)

noncomputable def laws_toClient_T (a0 : Client) : Option Client := presT RN 204 [.ag (Client.cells a0)] (.client)

noncomputable def laws_toServer_T (a0 : Server) : Option Server := presT RN 205 [.ag (Server.cells a0)] (.server)

noncomputable def impl_arity_T (a0 : Int) : Option Int := presT RN 206 [.int a0] (.int)

noncomputable def impl_Before_T (a0 : Term) (a1 : Term) : Option Bool := presT RN 208 [.ag (Term.cells a0), .ag (Term.cells a1)] (.bool)

noncomputable def slices_ContainsFunc_string_string_T (a0 : List ByteArray) (a1 : V) : Option Bool := presT RN 209 [.sl false .str a0, a1] (.bool)

noncomputable def impl_PatternOk_T (a0 : ByteArray) : Option Bool := presT RN 211 [.str a0] (.bool)

noncomputable def slices_IndexFunc_impl_Host_impl_Host_T (a0 : List Host) (a1 : V) : Option Int := presT RN 212 [.sl false .host a0, a1] (.int)

noncomputable def laws_eqClient_T (a0 : Client) (a1 : Client) : Option Bool := presT RN 213 [.ag (Client.cells a0), .ag (Client.cells a1)] (.bool)

noncomputable def strings_Split_T (a0 : ByteArray) (a1 : ByteArray) : Option (List ByteArray) := presT RN 224 [.str a0, .str a1] (.sl .str)

noncomputable def spec_Labels_T (a0 : ByteArray) : Option (List ByteArray) := presT RN 228 [.str a0] (.sl .str)

noncomputable def spec_l5Label_T (a0 : ByteArray) : Option Bool := presT RN 229 [.str a0] (.bool)

noncomputable def impl_Labels_T (a0 : ByteArray) : Option (List ByteArray) := presT RN 232 [.str a0] (.sl .str)

noncomputable def impl_labelOk_T (a0 : ByteArray) : Option Bool := presT RN 234 [.str a0] (.bool)

noncomputable def slices_EqualFunc_impl_Term_impl_Term_impl_Term_impl_Term_T (a0 : List Term) (a1 : List Term) (a2 : V) : Option Bool := presT RN 235 [.sl false .term a0, .sl false .term a1, a2] (.bool)

noncomputable def spec_l5Star_T (a0 : ByteArray) : Option Bool := presT RN 236 [.str a0] (.bool)

noncomputable def slices_IndexFunc_string_string_T (a0 : List ByteArray) (a1 : V) : Option Int := presT RN 237 [.sl false .str a0, a1] (.int)

noncomputable def strings_CutPrefix_T (a0 : ByteArray) (a1 : ByteArray) : Option (ByteArray × Bool × Unit) := presT RN 238 [.str a0, .str a1] (.tup [.str, .bool])

noncomputable def internal_stringslite_CutPrefix_T (a0 : ByteArray) (a1 : ByteArray) : Option (ByteArray × Bool × Unit) := presT RN 245 [.str a0, .str a1] (.tup [.str, .bool])

noncomputable def internal_stringslite_HasPrefix_T (a0 : ByteArray) (a1 : ByteArray) : Option Bool := presT RN 256 [.str a0, .str a1] (.bool)

@[reducible] def spec_WorldOk_S4 (x2 : Bool) (x3 : Int) (y1 : WorldD) : St := ⟨frOf [(1, .c (.bx (.own 1) 0)), (2, .bool x2), (3, .int x3)], hpIds [(.own 1, .box ((WorldD.cells y1).map C.f))]⟩

@[reducible] def spec_WorldOk_O4 (x2 : Bool) (y1 : WorldD) : St := ⟨frOf [(1, .c (.bx (.own 1) 0)), (2, .bool x2)], hpIds [(.own 1, .box ((WorldD.cells y1).map C.f))]⟩

noncomputable def spec_WorldOk_L4 (n q : Nat) (x2 : Bool) (x3 : Int) (y1 : WorldD) : Option (Ex × (Unit × Bool × Unit) × WorldD × Unit) := lpT Tryz.prog cfg RN n 5 17 4 0 q (spec_WorldOk_S4 x2 x3 y1)

theorem spec_WorldOk_L4_of {n q : Nat} {x2 : Bool} {x3 : Int} {y1 : WorldD} {e : Ex} {x2O : Bool} {y1O : WorldD} (h : lp Tryz.prog cfg RN n 5 17 4 0 q (spec_WorldOk_S4 x2 x3 y1) = some (e, spec_WorldOk_O4 x2O y1O)) : spec_WorldOk_L4 n q x2 x3 y1 = some (e, ((), x2O, ()), y1O, ()) := by
  unfold spec_WorldOk_L4 lpT
  rw [h]
  kernel_rfl

theorem spec_WorldOk_L4_if {n q : Nat} {x2 : Bool} {x3 : Int} {y1 : WorldD} {c : Prop} [Decidable c] {e e' : Ex} {x2O : Bool} {y1O : WorldD} {x2P : Bool} {y1P : WorldD} (h : lp Tryz.prog cfg RN n 5 17 4 0 q (spec_WorldOk_S4 x2 x3 y1) = some (if c then (e, spec_WorldOk_O4 x2O y1O) else (e', spec_WorldOk_O4 x2P y1P))) : spec_WorldOk_L4 n q x2 x3 y1 = some (if c then (e, ((), x2O, ()), y1O, ()) else (e', ((), x2P, ()), y1P, ())) := by
  by_cases hc : c
  · rw [if_pos hc] at h ⊢; exact spec_WorldOk_L4_of h
  · rw [if_neg hc] at h ⊢; exact spec_WorldOk_L4_of h

@[reducible] def spec_WorldOk_S9 (x2 : Bool) (x4 : Int) (y1 : WorldD) : St := ⟨frOf [(1, .c (.bx (.own 1) 0)), (2, .bool x2), (4, .int x4)], hpIds [(.own 1, .box ((WorldD.cells y1).map C.f))]⟩

@[reducible] def spec_WorldOk_O9 (x2 : Bool) (y1 : WorldD) : St := ⟨frOf [(1, .c (.bx (.own 1) 0)), (2, .bool x2)], hpIds [(.own 1, .box ((WorldD.cells y1).map C.f))]⟩

noncomputable def spec_WorldOk_L9 (n q : Nat) (x2 : Bool) (x4 : Int) (y1 : WorldD) : Option (Ex × (Unit × Bool × Unit) × WorldD × Unit) := lpT Tryz.prog cfg RN n 5 17 9 0 q (spec_WorldOk_S9 x2 x4 y1)

theorem spec_WorldOk_L9_of {n q : Nat} {x2 : Bool} {x4 : Int} {y1 : WorldD} {e : Ex} {x2O : Bool} {y1O : WorldD} (h : lp Tryz.prog cfg RN n 5 17 9 0 q (spec_WorldOk_S9 x2 x4 y1) = some (e, spec_WorldOk_O9 x2O y1O)) : spec_WorldOk_L9 n q x2 x4 y1 = some (e, ((), x2O, ()), y1O, ()) := by
  unfold spec_WorldOk_L9 lpT
  rw [h]
  kernel_rfl

theorem spec_WorldOk_L9_if {n q : Nat} {x2 : Bool} {x4 : Int} {y1 : WorldD} {c : Prop} [Decidable c] {e e' : Ex} {x2O : Bool} {y1O : WorldD} {x2P : Bool} {y1P : WorldD} (h : lp Tryz.prog cfg RN n 5 17 9 0 q (spec_WorldOk_S9 x2 x4 y1) = some (if c then (e, spec_WorldOk_O9 x2O y1O) else (e', spec_WorldOk_O9 x2P y1P))) : spec_WorldOk_L9 n q x2 x4 y1 = some (if c then (e, ((), x2O, ()), y1O, ()) else (e', ((), x2P, ()), y1P, ())) := by
  by_cases hc : c
  · rw [if_pos hc] at h ⊢; exact spec_WorldOk_L9_of h
  · rw [if_neg hc] at h ⊢; exact spec_WorldOk_L9_of h

@[reducible] def spec_WorldOk_S14 (x2 : Bool) (x5 : Int) (y1 : WorldD) : St := ⟨frOf [(1, .c (.bx (.own 1) 0)), (2, .bool x2), (5, .int x5)], hpIds [(.own 1, .box ((WorldD.cells y1).map C.f))]⟩

@[reducible] def spec_WorldOk_O14 (x2 : Bool) (y1 : WorldD) : St := ⟨frOf [(1, .c (.bx (.own 1) 0)), (2, .bool x2)], hpIds [(.own 1, .box ((WorldD.cells y1).map C.f))]⟩

noncomputable def spec_WorldOk_L14 (n q : Nat) (x2 : Bool) (x5 : Int) (y1 : WorldD) : Option (Ex × (Unit × Bool × Unit) × WorldD × Unit) := lpT Tryz.prog cfg RN n 5 17 14 0 q (spec_WorldOk_S14 x2 x5 y1)

theorem spec_WorldOk_L14_of {n q : Nat} {x2 : Bool} {x5 : Int} {y1 : WorldD} {e : Ex} {x2O : Bool} {y1O : WorldD} (h : lp Tryz.prog cfg RN n 5 17 14 0 q (spec_WorldOk_S14 x2 x5 y1) = some (e, spec_WorldOk_O14 x2O y1O)) : spec_WorldOk_L14 n q x2 x5 y1 = some (e, ((), x2O, ()), y1O, ()) := by
  unfold spec_WorldOk_L14 lpT
  rw [h]
  kernel_rfl

theorem spec_WorldOk_L14_if {n q : Nat} {x2 : Bool} {x5 : Int} {y1 : WorldD} {c : Prop} [Decidable c] {e e' : Ex} {x2O : Bool} {y1O : WorldD} {x2P : Bool} {y1P : WorldD} (h : lp Tryz.prog cfg RN n 5 17 14 0 q (spec_WorldOk_S14 x2 x5 y1) = some (if c then (e, spec_WorldOk_O14 x2O y1O) else (e', spec_WorldOk_O14 x2P y1P))) : spec_WorldOk_L14 n q x2 x5 y1 = some (if c then (e, ((), x2O, ()), y1O, ()) else (e', ((), x2P, ()), y1P, ())) := by
  by_cases hc : c
  · rw [if_pos hc] at h ⊢; exact spec_WorldOk_L14_of h
  · rw [if_neg hc] at h ⊢; exact spec_WorldOk_L14_of h

@[reducible] def laws_szStringS_S5 (t0 : Bool) (x0 : List ByteArray) (x1 : Int) (x4 : Int) (x5 : Int) : St := ⟨frOf [(0, .sl t0 .str x0), (1, .int x1), (4, .int x4), (5, .int x5)], hpIds []⟩

@[reducible] def laws_szStringS_O5 (x1 : Int) (x4 : Int) : St := ⟨frOf [(1, .int x1), (4, .int x4)], hpIds []⟩

noncomputable def laws_szStringS_L5 (n q : Nat) (t0 : Bool) (x0 : List ByteArray) (x1 : Int) (x4 : Int) (x5 : Int) : Option (Ex × (Int × Int × Unit) × Unit) := lpT Tryz.prog cfg RN n 5 27 5 0 q (laws_szStringS_S5 t0 x0 x1 x4 x5)

theorem laws_szStringS_L5_of {n q : Nat} {t0 : Bool} {x0 : List ByteArray} {x1 : Int} {x4 : Int} {x5 : Int} {e : Ex} {x1O : Int} {x4O : Int} (h : lp Tryz.prog cfg RN n 5 27 5 0 q (laws_szStringS_S5 t0 x0 x1 x4 x5) = some (e, laws_szStringS_O5 x1O x4O)) : laws_szStringS_L5 n q t0 x0 x1 x4 x5 = some (e, (x1O, x4O, ()), ()) := by
  unfold laws_szStringS_L5 lpT
  rw [h]
  kernel_rfl

theorem laws_szStringS_L5_if {n q : Nat} {t0 : Bool} {x0 : List ByteArray} {x1 : Int} {x4 : Int} {x5 : Int} {c : Prop} [Decidable c] {e e' : Ex} {x1O : Int} {x4O : Int} {x1P : Int} {x4P : Int} (h : lp Tryz.prog cfg RN n 5 27 5 0 q (laws_szStringS_S5 t0 x0 x1 x4 x5) = some (if c then (e, laws_szStringS_O5 x1O x4O) else (e', laws_szStringS_O5 x1P x4P))) : laws_szStringS_L5 n q t0 x0 x1 x4 x5 = some (if c then (e, (x1O, x4O, ()), ()) else (e', (x1P, x4P, ()), ())) := by
  by_cases hc : c
  · rw [if_pos hc] at h ⊢; exact laws_szStringS_L5_of h
  · rw [if_neg hc] at h ⊢; exact laws_szStringS_L5_of h

@[reducible] def laws_toStringS_S3 (t0 : Bool) (x0 : List ByteArray) (x3 : List ByteArray) (x4 : Int) : St := ⟨frOf [(0, .sl t0 .str x0), (3, .c (.row (.own 3) .str)), (4, .int x4)], hpIds [(.own 3, .row true .str x3)]⟩

@[reducible] def laws_toStringS_O3 (x3 : List ByteArray) : St := ⟨frOf [(3, .c (.row (.own 3) .str))], hpIds [(.own 3, .row true .str x3)]⟩

noncomputable def laws_toStringS_L3 (n q : Nat) (t0 : Bool) (x0 : List ByteArray) (x3 : List ByteArray) (x4 : Int) : Option (Ex × (Unit × Unit) × List ByteArray × Unit) := lpT Tryz.prog cfg RN n 5 29 3 0 q (laws_toStringS_S3 t0 x0 x3 x4)

theorem laws_toStringS_L3_of {n q : Nat} {t0 : Bool} {x0 : List ByteArray} {x3 : List ByteArray} {x4 : Int} {e : Ex} {x3O : List ByteArray} (h : lp Tryz.prog cfg RN n 5 29 3 0 q (laws_toStringS_S3 t0 x0 x3 x4) = some (e, laws_toStringS_O3 x3O)) : laws_toStringS_L3 n q t0 x0 x3 x4 = some (e, ((), ()), x3O, ()) := by
  unfold laws_toStringS_L3 lpT
  rw [h]
  kernel_rfl

theorem laws_toStringS_L3_if {n q : Nat} {t0 : Bool} {x0 : List ByteArray} {x3 : List ByteArray} {x4 : Int} {c : Prop} [Decidable c] {e e' : Ex} {x3O : List ByteArray} {x3P : List ByteArray} (h : lp Tryz.prog cfg RN n 5 29 3 0 q (laws_toStringS_S3 t0 x0 x3 x4) = some (if c then (e, laws_toStringS_O3 x3O) else (e', laws_toStringS_O3 x3P))) : laws_toStringS_L3 n q t0 x0 x3 x4 = some (if c then (e, ((), ()), x3O, ()) else (e', ((), ()), x3P, ())) := by
  by_cases hc : c
  · rw [if_pos hc] at h ⊢; exact laws_toStringS_L3_of h
  · rw [if_neg hc] at h ⊢; exact laws_toStringS_L3_of h

@[reducible] def laws_eqStringS_S4 (t0 : Bool) (x0 : List ByteArray) (t1 : Bool) (x1 : List ByteArray) (x4 : Bool) (x5 : Int) : St := ⟨frOf [(0, .sl t0 .str x0), (1, .sl t1 .str x1), (4, .bool x4), (5, .int x5)], hpIds []⟩

@[reducible] def laws_eqStringS_O4 (x4 : Bool) : St := ⟨frOf [(4, .bool x4)], hpIds []⟩

noncomputable def laws_eqStringS_L4 (n q : Nat) (t0 : Bool) (x0 : List ByteArray) (t1 : Bool) (x1 : List ByteArray) (x4 : Bool) (x5 : Int) : Option (Ex × (Bool × Unit) × Unit) := lpT Tryz.prog cfg RN n 5 31 4 0 q (laws_eqStringS_S4 t0 x0 t1 x1 x4 x5)

theorem laws_eqStringS_L4_of {n q : Nat} {t0 : Bool} {x0 : List ByteArray} {t1 : Bool} {x1 : List ByteArray} {x4 : Bool} {x5 : Int} {e : Ex} {x4O : Bool} (h : lp Tryz.prog cfg RN n 5 31 4 0 q (laws_eqStringS_S4 t0 x0 t1 x1 x4 x5) = some (e, laws_eqStringS_O4 x4O)) : laws_eqStringS_L4 n q t0 x0 t1 x1 x4 x5 = some (e, (x4O, ()), ()) := by
  unfold laws_eqStringS_L4 lpT
  rw [h]
  kernel_rfl

theorem laws_eqStringS_L4_if {n q : Nat} {t0 : Bool} {x0 : List ByteArray} {t1 : Bool} {x1 : List ByteArray} {x4 : Bool} {x5 : Int} {c : Prop} [Decidable c] {e e' : Ex} {x4O : Bool} {x4P : Bool} (h : lp Tryz.prog cfg RN n 5 31 4 0 q (laws_eqStringS_S4 t0 x0 t1 x1 x4 x5) = some (if c then (e, laws_eqStringS_O4 x4O) else (e', laws_eqStringS_O4 x4P))) : laws_eqStringS_L4 n q t0 x0 t1 x1 x4 x5 = some (if c then (e, (x4O, ()), ()) else (e', (x4P, ()), ())) := by
  by_cases hc : c
  · rw [if_pos hc] at h ⊢; exact laws_eqStringS_L4_of h
  · rw [if_neg hc] at h ⊢; exact laws_eqStringS_L4_of h

@[reducible] def spec_ServerOk_S2 (x2 : Bool) (x3 : Int) (y1 : Server) : St := ⟨frOf [(1, .c (.bx (.own 1) 0)), (2, .bool x2), (3, .int x3)], hpIds [(.own 1, .box ((Server.cells y1).map C.f))]⟩

@[reducible] def spec_ServerOk_O2 (x2 : Bool) (y1 : Server) : St := ⟨frOf [(1, .c (.bx (.own 1) 0)), (2, .bool x2)], hpIds [(.own 1, .box ((Server.cells y1).map C.f))]⟩

noncomputable def spec_ServerOk_L2 (n q : Nat) (x2 : Bool) (x3 : Int) (y1 : Server) : Option (Ex × (Unit × Bool × Unit) × Server × Unit) := lpT Tryz.prog cfg RN n 5 42 2 0 q (spec_ServerOk_S2 x2 x3 y1)

theorem spec_ServerOk_L2_of {n q : Nat} {x2 : Bool} {x3 : Int} {y1 : Server} {e : Ex} {x2O : Bool} {y1O : Server} (h : lp Tryz.prog cfg RN n 5 42 2 0 q (spec_ServerOk_S2 x2 x3 y1) = some (e, spec_ServerOk_O2 x2O y1O)) : spec_ServerOk_L2 n q x2 x3 y1 = some (e, ((), x2O, ()), y1O, ()) := by
  unfold spec_ServerOk_L2 lpT
  rw [h]
  exact Eq.trans (b := some (e, ((), x2O, ()), (⟨y1O.step, y1O.host, y1O.key, y1O.eph, ⟨y1O.cert.op, y1O.cert.n, y1O.cert.s, y1O.cert.kids⟩, ⟨y1O.share.op, y1O.share.n, y1O.share.s, y1O.share.kids⟩, y1O.inn, y1O.out, y1O.tls, y1O.got⟩ : Server), ())) (by kernel_rfl) (by simp only [Term.eta])

theorem spec_ServerOk_L2_if {n q : Nat} {x2 : Bool} {x3 : Int} {y1 : Server} {c : Prop} [Decidable c] {e e' : Ex} {x2O : Bool} {y1O : Server} {x2P : Bool} {y1P : Server} (h : lp Tryz.prog cfg RN n 5 42 2 0 q (spec_ServerOk_S2 x2 x3 y1) = some (if c then (e, spec_ServerOk_O2 x2O y1O) else (e', spec_ServerOk_O2 x2P y1P))) : spec_ServerOk_L2 n q x2 x3 y1 = some (if c then (e, ((), x2O, ()), y1O, ()) else (e', ((), x2P, ()), y1P, ())) := by
  by_cases hc : c
  · rw [if_pos hc] at h ⊢; exact spec_ServerOk_L2_of h
  · rw [if_neg hc] at h ⊢; exact spec_ServerOk_L2_of h

@[reducible] def laws_eqIntS_S4 (t0 : Bool) (x0 : List Int) (t1 : Bool) (x1 : List Int) (x4 : Bool) (x5 : Int) : St := ⟨frOf [(0, .sl t0 .int x0), (1, .sl t1 .int x1), (4, .bool x4), (5, .int x5)], hpIds []⟩

@[reducible] def laws_eqIntS_O4 (x4 : Bool) : St := ⟨frOf [(4, .bool x4)], hpIds []⟩

noncomputable def laws_eqIntS_L4 (n q : Nat) (t0 : Bool) (x0 : List Int) (t1 : Bool) (x1 : List Int) (x4 : Bool) (x5 : Int) : Option (Ex × (Bool × Unit) × Unit) := lpT Tryz.prog cfg RN n 5 48 4 0 q (laws_eqIntS_S4 t0 x0 t1 x1 x4 x5)

theorem laws_eqIntS_L4_of {n q : Nat} {t0 : Bool} {x0 : List Int} {t1 : Bool} {x1 : List Int} {x4 : Bool} {x5 : Int} {e : Ex} {x4O : Bool} (h : lp Tryz.prog cfg RN n 5 48 4 0 q (laws_eqIntS_S4 t0 x0 t1 x1 x4 x5) = some (e, laws_eqIntS_O4 x4O)) : laws_eqIntS_L4 n q t0 x0 t1 x1 x4 x5 = some (e, (x4O, ()), ()) := by
  unfold laws_eqIntS_L4 lpT
  rw [h]
  kernel_rfl

theorem laws_eqIntS_L4_if {n q : Nat} {t0 : Bool} {x0 : List Int} {t1 : Bool} {x1 : List Int} {x4 : Bool} {x5 : Int} {c : Prop} [Decidable c] {e e' : Ex} {x4O : Bool} {x4P : Bool} (h : lp Tryz.prog cfg RN n 5 48 4 0 q (laws_eqIntS_S4 t0 x0 t1 x1 x4 x5) = some (if c then (e, laws_eqIntS_O4 x4O) else (e', laws_eqIntS_O4 x4P))) : laws_eqIntS_L4 n q t0 x0 t1 x1 x4 x5 = some (if c then (e, (x4O, ()), ()) else (e', (x4P, ()), ())) := by
  by_cases hc : c
  · rw [if_pos hc] at h ⊢; exact laws_eqIntS_L4_of h
  · rw [if_neg hc] at h ⊢; exact laws_eqIntS_L4_of h

@[reducible] def laws_szTermS_S5 (t0 : Bool) (x0 : List Term) (x1 : Int) (x4 : Int) (x5 : Int) : St := ⟨frOf [(0, .sl t0 .term x0), (1, .int x1), (4, .int x4), (5, .int x5)], hpIds []⟩

@[reducible] def laws_szTermS_O5 (x1 : Int) (x4 : Int) : St := ⟨frOf [(1, .int x1), (4, .int x4)], hpIds []⟩

noncomputable def laws_szTermS_L5 (n q : Nat) (t0 : Bool) (x0 : List Term) (x1 : Int) (x4 : Int) (x5 : Int) : Option (Ex × (Int × Int × Unit) × Unit) := lpT Tryz.prog cfg RN n 5 53 5 0 q (laws_szTermS_S5 t0 x0 x1 x4 x5)

theorem laws_szTermS_L5_of {n q : Nat} {t0 : Bool} {x0 : List Term} {x1 : Int} {x4 : Int} {x5 : Int} {e : Ex} {x1O : Int} {x4O : Int} (h : lp Tryz.prog cfg RN n 5 53 5 0 q (laws_szTermS_S5 t0 x0 x1 x4 x5) = some (e, laws_szTermS_O5 x1O x4O)) : laws_szTermS_L5 n q t0 x0 x1 x4 x5 = some (e, (x1O, x4O, ()), ()) := by
  unfold laws_szTermS_L5 lpT
  rw [h]
  kernel_rfl

theorem laws_szTermS_L5_if {n q : Nat} {t0 : Bool} {x0 : List Term} {x1 : Int} {x4 : Int} {x5 : Int} {c : Prop} [Decidable c] {e e' : Ex} {x1O : Int} {x4O : Int} {x1P : Int} {x4P : Int} (h : lp Tryz.prog cfg RN n 5 53 5 0 q (laws_szTermS_S5 t0 x0 x1 x4 x5) = some (if c then (e, laws_szTermS_O5 x1O x4O) else (e', laws_szTermS_O5 x1P x4P))) : laws_szTermS_L5 n q t0 x0 x1 x4 x5 = some (if c then (e, (x1O, x4O, ()), ()) else (e', (x1P, x4P, ()), ())) := by
  by_cases hc : c
  · rw [if_pos hc] at h ⊢; exact laws_szTermS_L5_of h
  · rw [if_neg hc] at h ⊢; exact laws_szTermS_L5_of h

@[reducible] def laws_szPolicyS_S5 (t0 : Bool) (x0 : List Policy) (x1 : Int) (x4 : Int) (x5 : Int) : St := ⟨frOf [(0, .sl t0 .policy x0), (1, .int x1), (4, .int x4), (5, .int x5)], hpIds []⟩

@[reducible] def laws_szPolicyS_O5 (x1 : Int) (x4 : Int) : St := ⟨frOf [(1, .int x1), (4, .int x4)], hpIds []⟩

noncomputable def laws_szPolicyS_L5 (n q : Nat) (t0 : Bool) (x0 : List Policy) (x1 : Int) (x4 : Int) (x5 : Int) : Option (Ex × (Int × Int × Unit) × Unit) := lpT Tryz.prog cfg RN n 5 54 5 0 q (laws_szPolicyS_S5 t0 x0 x1 x4 x5)

theorem laws_szPolicyS_L5_of {n q : Nat} {t0 : Bool} {x0 : List Policy} {x1 : Int} {x4 : Int} {x5 : Int} {e : Ex} {x1O : Int} {x4O : Int} (h : lp Tryz.prog cfg RN n 5 54 5 0 q (laws_szPolicyS_S5 t0 x0 x1 x4 x5) = some (e, laws_szPolicyS_O5 x1O x4O)) : laws_szPolicyS_L5 n q t0 x0 x1 x4 x5 = some (e, (x1O, x4O, ()), ()) := by
  unfold laws_szPolicyS_L5 lpT
  rw [h]
  kernel_rfl

theorem laws_szPolicyS_L5_if {n q : Nat} {t0 : Bool} {x0 : List Policy} {x1 : Int} {x4 : Int} {x5 : Int} {c : Prop} [Decidable c] {e e' : Ex} {x1O : Int} {x4O : Int} {x1P : Int} {x4P : Int} (h : lp Tryz.prog cfg RN n 5 54 5 0 q (laws_szPolicyS_S5 t0 x0 x1 x4 x5) = some (if c then (e, laws_szPolicyS_O5 x1O x4O) else (e', laws_szPolicyS_O5 x1P x4P))) : laws_szPolicyS_L5 n q t0 x0 x1 x4 x5 = some (if c then (e, (x1O, x4O, ()), ()) else (e', (x1P, x4P, ()), ())) := by
  by_cases hc : c
  · rw [if_pos hc] at h ⊢; exact laws_szPolicyS_L5_of h
  · rw [if_neg hc] at h ⊢; exact laws_szPolicyS_L5_of h

@[reducible] def laws_szHostS_S5 (t0 : Bool) (x0 : List Host) (x1 : Int) (x4 : Int) (x5 : Int) : St := ⟨frOf [(0, .sl t0 .host x0), (1, .int x1), (4, .int x4), (5, .int x5)], hpIds []⟩

@[reducible] def laws_szHostS_O5 (x1 : Int) (x4 : Int) : St := ⟨frOf [(1, .int x1), (4, .int x4)], hpIds []⟩

noncomputable def laws_szHostS_L5 (n q : Nat) (t0 : Bool) (x0 : List Host) (x1 : Int) (x4 : Int) (x5 : Int) : Option (Ex × (Int × Int × Unit) × Unit) := lpT Tryz.prog cfg RN n 5 55 5 0 q (laws_szHostS_S5 t0 x0 x1 x4 x5)

theorem laws_szHostS_L5_of {n q : Nat} {t0 : Bool} {x0 : List Host} {x1 : Int} {x4 : Int} {x5 : Int} {e : Ex} {x1O : Int} {x4O : Int} (h : lp Tryz.prog cfg RN n 5 55 5 0 q (laws_szHostS_S5 t0 x0 x1 x4 x5) = some (e, laws_szHostS_O5 x1O x4O)) : laws_szHostS_L5 n q t0 x0 x1 x4 x5 = some (e, (x1O, x4O, ()), ()) := by
  unfold laws_szHostS_L5 lpT
  rw [h]
  kernel_rfl

theorem laws_szHostS_L5_if {n q : Nat} {t0 : Bool} {x0 : List Host} {x1 : Int} {x4 : Int} {x5 : Int} {c : Prop} [Decidable c] {e e' : Ex} {x1O : Int} {x4O : Int} {x1P : Int} {x4P : Int} (h : lp Tryz.prog cfg RN n 5 55 5 0 q (laws_szHostS_S5 t0 x0 x1 x4 x5) = some (if c then (e, laws_szHostS_O5 x1O x4O) else (e', laws_szHostS_O5 x1P x4P))) : laws_szHostS_L5 n q t0 x0 x1 x4 x5 = some (if c then (e, (x1O, x4O, ()), ()) else (e', (x1P, x4P, ()), ())) := by
  by_cases hc : c
  · rw [if_pos hc] at h ⊢; exact laws_szHostS_L5_of h
  · rw [if_neg hc] at h ⊢; exact laws_szHostS_L5_of h

@[reducible] def laws_szLetterS_S5 (t0 : Bool) (x0 : List Letter) (x1 : Int) (x4 : Int) (x5 : Int) : St := ⟨frOf [(0, .sl t0 .letter x0), (1, .int x1), (4, .int x4), (5, .int x5)], hpIds []⟩

@[reducible] def laws_szLetterS_O5 (x1 : Int) (x4 : Int) : St := ⟨frOf [(1, .int x1), (4, .int x4)], hpIds []⟩

noncomputable def laws_szLetterS_L5 (n q : Nat) (t0 : Bool) (x0 : List Letter) (x1 : Int) (x4 : Int) (x5 : Int) : Option (Ex × (Int × Int × Unit) × Unit) := lpT Tryz.prog cfg RN n 5 56 5 0 q (laws_szLetterS_S5 t0 x0 x1 x4 x5)

theorem laws_szLetterS_L5_of {n q : Nat} {t0 : Bool} {x0 : List Letter} {x1 : Int} {x4 : Int} {x5 : Int} {e : Ex} {x1O : Int} {x4O : Int} (h : lp Tryz.prog cfg RN n 5 56 5 0 q (laws_szLetterS_S5 t0 x0 x1 x4 x5) = some (e, laws_szLetterS_O5 x1O x4O)) : laws_szLetterS_L5 n q t0 x0 x1 x4 x5 = some (e, (x1O, x4O, ()), ()) := by
  unfold laws_szLetterS_L5 lpT
  rw [h]
  kernel_rfl

theorem laws_szLetterS_L5_if {n q : Nat} {t0 : Bool} {x0 : List Letter} {x1 : Int} {x4 : Int} {x5 : Int} {c : Prop} [Decidable c] {e e' : Ex} {x1O : Int} {x4O : Int} {x1P : Int} {x4P : Int} (h : lp Tryz.prog cfg RN n 5 56 5 0 q (laws_szLetterS_S5 t0 x0 x1 x4 x5) = some (if c then (e, laws_szLetterS_O5 x1O x4O) else (e', laws_szLetterS_O5 x1P x4P))) : laws_szLetterS_L5 n q t0 x0 x1 x4 x5 = some (if c then (e, (x1O, x4O, ()), ()) else (e', (x1P, x4P, ()), ())) := by
  by_cases hc : c
  · rw [if_pos hc] at h ⊢; exact laws_szLetterS_L5_of h
  · rw [if_neg hc] at h ⊢; exact laws_szLetterS_L5_of h

@[reducible] def laws_szCallS_S5 (t0 : Bool) (x0 : List CallD) (x1 : Int) (x4 : Int) (x5 : Int) : St := ⟨frOf [(0, .sl t0 .call x0), (1, .int x1), (4, .int x4), (5, .int x5)], hpIds []⟩

@[reducible] def laws_szCallS_O5 (x1 : Int) (x4 : Int) : St := ⟨frOf [(1, .int x1), (4, .int x4)], hpIds []⟩

noncomputable def laws_szCallS_L5 (n q : Nat) (t0 : Bool) (x0 : List CallD) (x1 : Int) (x4 : Int) (x5 : Int) : Option (Ex × (Int × Int × Unit) × Unit) := lpT Tryz.prog cfg RN n 5 57 5 0 q (laws_szCallS_S5 t0 x0 x1 x4 x5)

theorem laws_szCallS_L5_of {n q : Nat} {t0 : Bool} {x0 : List CallD} {x1 : Int} {x4 : Int} {x5 : Int} {e : Ex} {x1O : Int} {x4O : Int} (h : lp Tryz.prog cfg RN n 5 57 5 0 q (laws_szCallS_S5 t0 x0 x1 x4 x5) = some (e, laws_szCallS_O5 x1O x4O)) : laws_szCallS_L5 n q t0 x0 x1 x4 x5 = some (e, (x1O, x4O, ()), ()) := by
  unfold laws_szCallS_L5 lpT
  rw [h]
  kernel_rfl

theorem laws_szCallS_L5_if {n q : Nat} {t0 : Bool} {x0 : List CallD} {x1 : Int} {x4 : Int} {x5 : Int} {c : Prop} [Decidable c] {e e' : Ex} {x1O : Int} {x4O : Int} {x1P : Int} {x4P : Int} (h : lp Tryz.prog cfg RN n 5 57 5 0 q (laws_szCallS_S5 t0 x0 x1 x4 x5) = some (if c then (e, laws_szCallS_O5 x1O x4O) else (e', laws_szCallS_O5 x1P x4P))) : laws_szCallS_L5 n q t0 x0 x1 x4 x5 = some (if c then (e, (x1O, x4O, ()), ()) else (e', (x1P, x4P, ()), ())) := by
  by_cases hc : c
  · rw [if_pos hc] at h ⊢; exact laws_szCallS_L5_of h
  · rw [if_neg hc] at h ⊢; exact laws_szCallS_L5_of h

@[reducible] def laws_szTalkS_S5 (t0 : Bool) (x0 : List Talk) (x1 : Int) (x4 : Int) (x5 : Int) : St := ⟨frOf [(0, .sl t0 .talk x0), (1, .int x1), (4, .int x4), (5, .int x5)], hpIds []⟩

@[reducible] def laws_szTalkS_O5 (x1 : Int) (x4 : Int) : St := ⟨frOf [(1, .int x1), (4, .int x4)], hpIds []⟩

noncomputable def laws_szTalkS_L5 (n q : Nat) (t0 : Bool) (x0 : List Talk) (x1 : Int) (x4 : Int) (x5 : Int) : Option (Ex × (Int × Int × Unit) × Unit) := lpT Tryz.prog cfg RN n 5 58 5 0 q (laws_szTalkS_S5 t0 x0 x1 x4 x5)

theorem laws_szTalkS_L5_of {n q : Nat} {t0 : Bool} {x0 : List Talk} {x1 : Int} {x4 : Int} {x5 : Int} {e : Ex} {x1O : Int} {x4O : Int} (h : lp Tryz.prog cfg RN n 5 58 5 0 q (laws_szTalkS_S5 t0 x0 x1 x4 x5) = some (e, laws_szTalkS_O5 x1O x4O)) : laws_szTalkS_L5 n q t0 x0 x1 x4 x5 = some (e, (x1O, x4O, ()), ()) := by
  unfold laws_szTalkS_L5 lpT
  rw [h]
  kernel_rfl

theorem laws_szTalkS_L5_if {n q : Nat} {t0 : Bool} {x0 : List Talk} {x1 : Int} {x4 : Int} {x5 : Int} {c : Prop} [Decidable c] {e e' : Ex} {x1O : Int} {x4O : Int} {x1P : Int} {x4P : Int} (h : lp Tryz.prog cfg RN n 5 58 5 0 q (laws_szTalkS_S5 t0 x0 x1 x4 x5) = some (if c then (e, laws_szTalkS_O5 x1O x4O) else (e', laws_szTalkS_O5 x1P x4P))) : laws_szTalkS_L5 n q t0 x0 x1 x4 x5 = some (if c then (e, (x1O, x4O, ()), ()) else (e', (x1P, x4P, ()), ())) := by
  by_cases hc : c
  · rw [if_pos hc] at h ⊢; exact laws_szTalkS_L5_of h
  · rw [if_neg hc] at h ⊢; exact laws_szTalkS_L5_of h

@[reducible] def spec_CacheOk_S2 (t0 : Bool) (x0 : List Policy) (x2 : Bool) (x3 : Int) : St := ⟨frOf [(0, .sl t0 .policy x0), (2, .bool x2), (3, .int x3)], hpIds []⟩

@[reducible] def spec_CacheOk_O2 (t0 : Bool) (x0 : List Policy) (x2 : Bool) : St := ⟨frOf [(0, .sl t0 .policy x0), (2, .bool x2)], hpIds []⟩

noncomputable def spec_CacheOk_L2 (n q : Nat) (t0 : Bool) (x0 : List Policy) (x2 : Bool) (x3 : Int) : Option (Ex × (List Policy × Bool × Unit) × Unit) := lpT Tryz.prog cfg RN n 5 61 2 0 q (spec_CacheOk_S2 t0 x0 x2 x3)

theorem spec_CacheOk_L2_of {n q : Nat} {t0 : Bool} {x0 : List Policy} {x2 : Bool} {x3 : Int} {e : Ex} {t0O : Bool} {x0O : List Policy} {x2O : Bool} (h : lp Tryz.prog cfg RN n 5 61 2 0 q (spec_CacheOk_S2 t0 x0 x2 x3) = some (e, spec_CacheOk_O2 t0O x0O x2O)) : spec_CacheOk_L2 n q t0 x0 x2 x3 = some (e, (x0O, x2O, ()), ()) := by
  unfold spec_CacheOk_L2 lpT
  rw [h]
  kernel_rfl

theorem spec_CacheOk_L2_if {n q : Nat} {t0 : Bool} {x0 : List Policy} {x2 : Bool} {x3 : Int} {c : Prop} [Decidable c] {e e' : Ex} {t0O : Bool} {x0O : List Policy} {x2O : Bool} {t0P : Bool} {x0P : List Policy} {x2P : Bool} (h : lp Tryz.prog cfg RN n 5 61 2 0 q (spec_CacheOk_S2 t0 x0 x2 x3) = some (if c then (e, spec_CacheOk_O2 t0O x0O x2O) else (e', spec_CacheOk_O2 t0P x0P x2P))) : spec_CacheOk_L2 n q t0 x0 x2 x3 = some (if c then (e, (x0O, x2O, ()), ()) else (e', (x0P, x2P, ()), ())) := by
  by_cases hc : c
  · rw [if_pos hc] at h ⊢; exact spec_CacheOk_L2_of h
  · rw [if_neg hc] at h ⊢; exact spec_CacheOk_L2_of h

@[reducible] def spec_l13Hosts_S2 (t0 : Bool) (x0 : List Host) (x2 : Bool) (x3 : Int) : St := ⟨frOf [(0, .sl t0 .host x0), (2, .bool x2), (3, .int x3)], hpIds []⟩

@[reducible] def spec_l13Hosts_O2 (t0 : Bool) (x0 : List Host) (x2 : Bool) : St := ⟨frOf [(0, .sl t0 .host x0), (2, .bool x2)], hpIds []⟩

noncomputable def spec_l13Hosts_L2 (n q : Nat) (t0 : Bool) (x0 : List Host) (x2 : Bool) (x3 : Int) : Option (Ex × (List Host × Bool × Unit) × Unit) := lpT Tryz.prog cfg RN n 5 62 2 0 q (spec_l13Hosts_S2 t0 x0 x2 x3)

theorem spec_l13Hosts_L2_of {n q : Nat} {t0 : Bool} {x0 : List Host} {x2 : Bool} {x3 : Int} {e : Ex} {t0O : Bool} {x0O : List Host} {x2O : Bool} (h : lp Tryz.prog cfg RN n 5 62 2 0 q (spec_l13Hosts_S2 t0 x0 x2 x3) = some (e, spec_l13Hosts_O2 t0O x0O x2O)) : spec_l13Hosts_L2 n q t0 x0 x2 x3 = some (e, (x0O, x2O, ()), ()) := by
  unfold spec_l13Hosts_L2 lpT
  rw [h]
  kernel_rfl

theorem spec_l13Hosts_L2_if {n q : Nat} {t0 : Bool} {x0 : List Host} {x2 : Bool} {x3 : Int} {c : Prop} [Decidable c] {e e' : Ex} {t0O : Bool} {x0O : List Host} {x2O : Bool} {t0P : Bool} {x0P : List Host} {x2P : Bool} (h : lp Tryz.prog cfg RN n 5 62 2 0 q (spec_l13Hosts_S2 t0 x0 x2 x3) = some (if c then (e, spec_l13Hosts_O2 t0O x0O x2O) else (e', spec_l13Hosts_O2 t0P x0P x2P))) : spec_l13Hosts_L2 n q t0 x0 x2 x3 = some (if c then (e, (x0O, x2O, ()), ()) else (e', (x0P, x2P, ()), ())) := by
  by_cases hc : c
  · rw [if_pos hc] at h ⊢; exact spec_l13Hosts_L2_of h
  · rw [if_neg hc] at h ⊢; exact spec_l13Hosts_L2_of h

@[reducible] def spec_l13Hosts_S7 (t0 : Bool) (x0 : List Host) (x2 : Bool) (x3 : Int) (x4 : Int) : St := ⟨frOf [(0, .sl t0 .host x0), (2, .bool x2), (3, .int x3), (4, .int x4)], hpIds []⟩

@[reducible] def spec_l13Hosts_O7 (t0 : Bool) (x0 : List Host) (x2 : Bool) (x3 : Int) : St := ⟨frOf [(0, .sl t0 .host x0), (2, .bool x2), (3, .int x3)], hpIds []⟩

noncomputable def spec_l13Hosts_L7 (n q : Nat) (t0 : Bool) (x0 : List Host) (x2 : Bool) (x3 : Int) (x4 : Int) : Option (Ex × (List Host × Bool × Int × Unit) × Unit) := lpT Tryz.prog cfg RN n 5 62 7 0 q (spec_l13Hosts_S7 t0 x0 x2 x3 x4)

theorem spec_l13Hosts_L7_of {n q : Nat} {t0 : Bool} {x0 : List Host} {x2 : Bool} {x3 : Int} {x4 : Int} {e : Ex} {t0O : Bool} {x0O : List Host} {x2O : Bool} {x3O : Int} (h : lp Tryz.prog cfg RN n 5 62 7 0 q (spec_l13Hosts_S7 t0 x0 x2 x3 x4) = some (e, spec_l13Hosts_O7 t0O x0O x2O x3O)) : spec_l13Hosts_L7 n q t0 x0 x2 x3 x4 = some (e, (x0O, x2O, x3O, ()), ()) := by
  unfold spec_l13Hosts_L7 lpT
  rw [h]
  kernel_rfl

theorem spec_l13Hosts_L7_if {n q : Nat} {t0 : Bool} {x0 : List Host} {x2 : Bool} {x3 : Int} {x4 : Int} {c : Prop} [Decidable c] {e e' : Ex} {t0O : Bool} {x0O : List Host} {x2O : Bool} {x3O : Int} {t0P : Bool} {x0P : List Host} {x2P : Bool} {x3P : Int} (h : lp Tryz.prog cfg RN n 5 62 7 0 q (spec_l13Hosts_S7 t0 x0 x2 x3 x4) = some (if c then (e, spec_l13Hosts_O7 t0O x0O x2O x3O) else (e', spec_l13Hosts_O7 t0P x0P x2P x3P))) : spec_l13Hosts_L7 n q t0 x0 x2 x3 x4 = some (if c then (e, (x0O, x2O, x3O, ()), ()) else (e', (x0P, x2P, x3P, ()), ())) := by
  by_cases hc : c
  · rw [if_pos hc] at h ⊢; exact spec_l13Hosts_L7_of h
  · rw [if_neg hc] at h ⊢; exact spec_l13Hosts_L7_of h

@[reducible] def spec_l13Open_S2 (x2 : Bool) (x3 : Int) (y1 : WorldD) : St := ⟨frOf [(1, .c (.bx (.own 1) 0)), (2, .bool x2), (3, .int x3)], hpIds [(.own 1, .box ((WorldD.cells y1).map C.f))]⟩

@[reducible] def spec_l13Open_O2 (x2 : Bool) (y1 : WorldD) : St := ⟨frOf [(1, .c (.bx (.own 1) 0)), (2, .bool x2)], hpIds [(.own 1, .box ((WorldD.cells y1).map C.f))]⟩

noncomputable def spec_l13Open_L2 (n q : Nat) (x2 : Bool) (x3 : Int) (y1 : WorldD) : Option (Ex × (Unit × Bool × Unit) × WorldD × Unit) := lpT Tryz.prog cfg RN n 5 65 2 0 q (spec_l13Open_S2 x2 x3 y1)

theorem spec_l13Open_L2_of {n q : Nat} {x2 : Bool} {x3 : Int} {y1 : WorldD} {e : Ex} {x2O : Bool} {y1O : WorldD} (h : lp Tryz.prog cfg RN n 5 65 2 0 q (spec_l13Open_S2 x2 x3 y1) = some (e, spec_l13Open_O2 x2O y1O)) : spec_l13Open_L2 n q x2 x3 y1 = some (e, ((), x2O, ()), y1O, ()) := by
  unfold spec_l13Open_L2 lpT
  rw [h]
  kernel_rfl

theorem spec_l13Open_L2_if {n q : Nat} {x2 : Bool} {x3 : Int} {y1 : WorldD} {c : Prop} [Decidable c] {e e' : Ex} {x2O : Bool} {y1O : WorldD} {x2P : Bool} {y1P : WorldD} (h : lp Tryz.prog cfg RN n 5 65 2 0 q (spec_l13Open_S2 x2 x3 y1) = some (if c then (e, spec_l13Open_O2 x2O y1O) else (e', spec_l13Open_O2 x2P y1P))) : spec_l13Open_L2 n q x2 x3 y1 = some (if c then (e, ((), x2O, ()), y1O, ()) else (e', ((), x2P, ()), y1P, ())) := by
  by_cases hc : c
  · rw [if_pos hc] at h ⊢; exact spec_l13Open_L2_of h
  · rw [if_neg hc] at h ⊢; exact spec_l13Open_L2_of h

@[reducible] def spec_l13Open_S7 (x2 : Bool) (x4 : Int) (y1 : WorldD) : St := ⟨frOf [(1, .c (.bx (.own 1) 0)), (2, .bool x2), (4, .int x4)], hpIds [(.own 1, .box ((WorldD.cells y1).map C.f))]⟩

@[reducible] def spec_l13Open_O7 (x2 : Bool) (y1 : WorldD) : St := ⟨frOf [(1, .c (.bx (.own 1) 0)), (2, .bool x2)], hpIds [(.own 1, .box ((WorldD.cells y1).map C.f))]⟩

noncomputable def spec_l13Open_L7 (n q : Nat) (x2 : Bool) (x4 : Int) (y1 : WorldD) : Option (Ex × (Unit × Bool × Unit) × WorldD × Unit) := lpT Tryz.prog cfg RN n 5 65 7 0 q (spec_l13Open_S7 x2 x4 y1)

theorem spec_l13Open_L7_of {n q : Nat} {x2 : Bool} {x4 : Int} {y1 : WorldD} {e : Ex} {x2O : Bool} {y1O : WorldD} (h : lp Tryz.prog cfg RN n 5 65 7 0 q (spec_l13Open_S7 x2 x4 y1) = some (e, spec_l13Open_O7 x2O y1O)) : spec_l13Open_L7 n q x2 x4 y1 = some (e, ((), x2O, ()), y1O, ()) := by
  unfold spec_l13Open_L7 lpT
  rw [h]
  kernel_rfl

theorem spec_l13Open_L7_if {n q : Nat} {x2 : Bool} {x4 : Int} {y1 : WorldD} {c : Prop} [Decidable c] {e e' : Ex} {x2O : Bool} {y1O : WorldD} {x2P : Bool} {y1P : WorldD} (h : lp Tryz.prog cfg RN n 5 65 7 0 q (spec_l13Open_S7 x2 x4 y1) = some (if c then (e, spec_l13Open_O7 x2O y1O) else (e', spec_l13Open_O7 x2P y1P))) : spec_l13Open_L7 n q x2 x4 y1 = some (if c then (e, ((), x2O, ()), y1O, ()) else (e', ((), x2P, ()), y1P, ())) := by
  by_cases hc : c
  · rw [if_pos hc] at h ⊢; exact spec_l13Open_L7_of h
  · rw [if_neg hc] at h ⊢; exact spec_l13Open_L7_of h

@[reducible] def laws_toTermS_S3 (t0 : Bool) (x0 : List Term) (x3 : List Term) (x4 : Int) : St := ⟨frOf [(0, .sl t0 .term x0), (3, .c (.row (.own 3) .term)), (4, .int x4)], hpIds [(.own 3, .row true .term x3)]⟩

@[reducible] def laws_toTermS_O3 (x3 : List Term) : St := ⟨frOf [(3, .c (.row (.own 3) .term))], hpIds [(.own 3, .row true .term x3)]⟩

noncomputable def laws_toTermS_L3 (n q : Nat) (t0 : Bool) (x0 : List Term) (x3 : List Term) (x4 : Int) : Option (Ex × (Unit × Unit) × List Term × Unit) := lpT Tryz.prog cfg RN n 5 66 3 0 q (laws_toTermS_S3 t0 x0 x3 x4)

theorem laws_toTermS_L3_of {n q : Nat} {t0 : Bool} {x0 : List Term} {x3 : List Term} {x4 : Int} {e : Ex} {x3O : List Term} (h : lp Tryz.prog cfg RN n 5 66 3 0 q (laws_toTermS_S3 t0 x0 x3 x4) = some (e, laws_toTermS_O3 x3O)) : laws_toTermS_L3 n q t0 x0 x3 x4 = some (e, ((), ()), x3O, ()) := by
  unfold laws_toTermS_L3 lpT
  rw [h]
  kernel_rfl

theorem laws_toTermS_L3_if {n q : Nat} {t0 : Bool} {x0 : List Term} {x3 : List Term} {x4 : Int} {c : Prop} [Decidable c] {e e' : Ex} {x3O : List Term} {x3P : List Term} (h : lp Tryz.prog cfg RN n 5 66 3 0 q (laws_toTermS_S3 t0 x0 x3 x4) = some (if c then (e, laws_toTermS_O3 x3O) else (e', laws_toTermS_O3 x3P))) : laws_toTermS_L3 n q t0 x0 x3 x4 = some (if c then (e, ((), ()), x3O, ()) else (e', ((), ()), x3P, ())) := by
  by_cases hc : c
  · rw [if_pos hc] at h ⊢; exact laws_toTermS_L3_of h
  · rw [if_neg hc] at h ⊢; exact laws_toTermS_L3_of h

@[reducible] def laws_toPolicyS_S3 (t0 : Bool) (x0 : List Policy) (x3 : List Policy) (x4 : Int) : St := ⟨frOf [(0, .sl t0 .policy x0), (3, .c (.row (.own 3) .policy)), (4, .int x4)], hpIds [(.own 3, .row true .policy x3)]⟩

@[reducible] def laws_toPolicyS_O3 (x3 : List Policy) : St := ⟨frOf [(3, .c (.row (.own 3) .policy))], hpIds [(.own 3, .row true .policy x3)]⟩

noncomputable def laws_toPolicyS_L3 (n q : Nat) (t0 : Bool) (x0 : List Policy) (x3 : List Policy) (x4 : Int) : Option (Ex × (Unit × Unit) × List Policy × Unit) := lpT Tryz.prog cfg RN n 5 67 3 0 q (laws_toPolicyS_S3 t0 x0 x3 x4)

theorem laws_toPolicyS_L3_of {n q : Nat} {t0 : Bool} {x0 : List Policy} {x3 : List Policy} {x4 : Int} {e : Ex} {x3O : List Policy} (h : lp Tryz.prog cfg RN n 5 67 3 0 q (laws_toPolicyS_S3 t0 x0 x3 x4) = some (e, laws_toPolicyS_O3 x3O)) : laws_toPolicyS_L3 n q t0 x0 x3 x4 = some (e, ((), ()), x3O, ()) := by
  unfold laws_toPolicyS_L3 lpT
  rw [h]
  kernel_rfl

theorem laws_toPolicyS_L3_if {n q : Nat} {t0 : Bool} {x0 : List Policy} {x3 : List Policy} {x4 : Int} {c : Prop} [Decidable c] {e e' : Ex} {x3O : List Policy} {x3P : List Policy} (h : lp Tryz.prog cfg RN n 5 67 3 0 q (laws_toPolicyS_S3 t0 x0 x3 x4) = some (if c then (e, laws_toPolicyS_O3 x3O) else (e', laws_toPolicyS_O3 x3P))) : laws_toPolicyS_L3 n q t0 x0 x3 x4 = some (if c then (e, ((), ()), x3O, ()) else (e', ((), ()), x3P, ())) := by
  by_cases hc : c
  · rw [if_pos hc] at h ⊢; exact laws_toPolicyS_L3_of h
  · rw [if_neg hc] at h ⊢; exact laws_toPolicyS_L3_of h

@[reducible] def laws_toHostS_S3 (t0 : Bool) (x0 : List Host) (x3 : List Host) (x4 : Int) : St := ⟨frOf [(0, .sl t0 .host x0), (3, .c (.row (.own 3) .host)), (4, .int x4)], hpIds [(.own 3, .row true .host x3)]⟩

@[reducible] def laws_toHostS_O3 (x3 : List Host) : St := ⟨frOf [(3, .c (.row (.own 3) .host))], hpIds [(.own 3, .row true .host x3)]⟩

noncomputable def laws_toHostS_L3 (n q : Nat) (t0 : Bool) (x0 : List Host) (x3 : List Host) (x4 : Int) : Option (Ex × (Unit × Unit) × List Host × Unit) := lpT Tryz.prog cfg RN n 5 68 3 0 q (laws_toHostS_S3 t0 x0 x3 x4)

theorem laws_toHostS_L3_of {n q : Nat} {t0 : Bool} {x0 : List Host} {x3 : List Host} {x4 : Int} {e : Ex} {x3O : List Host} (h : lp Tryz.prog cfg RN n 5 68 3 0 q (laws_toHostS_S3 t0 x0 x3 x4) = some (e, laws_toHostS_O3 x3O)) : laws_toHostS_L3 n q t0 x0 x3 x4 = some (e, ((), ()), x3O, ()) := by
  unfold laws_toHostS_L3 lpT
  rw [h]
  kernel_rfl

theorem laws_toHostS_L3_if {n q : Nat} {t0 : Bool} {x0 : List Host} {x3 : List Host} {x4 : Int} {c : Prop} [Decidable c] {e e' : Ex} {x3O : List Host} {x3P : List Host} (h : lp Tryz.prog cfg RN n 5 68 3 0 q (laws_toHostS_S3 t0 x0 x3 x4) = some (if c then (e, laws_toHostS_O3 x3O) else (e', laws_toHostS_O3 x3P))) : laws_toHostS_L3 n q t0 x0 x3 x4 = some (if c then (e, ((), ()), x3O, ()) else (e', ((), ()), x3P, ())) := by
  by_cases hc : c
  · rw [if_pos hc] at h ⊢; exact laws_toHostS_L3_of h
  · rw [if_neg hc] at h ⊢; exact laws_toHostS_L3_of h

@[reducible] def laws_toLetterS_S3 (t0 : Bool) (x0 : List Letter) (x3 : List Letter) (x4 : Int) : St := ⟨frOf [(0, .sl t0 .letter x0), (3, .c (.row (.own 3) .letter)), (4, .int x4)], hpIds [(.own 3, .row true .letter x3)]⟩

@[reducible] def laws_toLetterS_O3 (x3 : List Letter) : St := ⟨frOf [(3, .c (.row (.own 3) .letter))], hpIds [(.own 3, .row true .letter x3)]⟩

noncomputable def laws_toLetterS_L3 (n q : Nat) (t0 : Bool) (x0 : List Letter) (x3 : List Letter) (x4 : Int) : Option (Ex × (Unit × Unit) × List Letter × Unit) := lpT Tryz.prog cfg RN n 5 69 3 0 q (laws_toLetterS_S3 t0 x0 x3 x4)

theorem laws_toLetterS_L3_of {n q : Nat} {t0 : Bool} {x0 : List Letter} {x3 : List Letter} {x4 : Int} {e : Ex} {x3O : List Letter} (h : lp Tryz.prog cfg RN n 5 69 3 0 q (laws_toLetterS_S3 t0 x0 x3 x4) = some (e, laws_toLetterS_O3 x3O)) : laws_toLetterS_L3 n q t0 x0 x3 x4 = some (e, ((), ()), x3O, ()) := by
  unfold laws_toLetterS_L3 lpT
  rw [h]
  kernel_rfl

theorem laws_toLetterS_L3_if {n q : Nat} {t0 : Bool} {x0 : List Letter} {x3 : List Letter} {x4 : Int} {c : Prop} [Decidable c] {e e' : Ex} {x3O : List Letter} {x3P : List Letter} (h : lp Tryz.prog cfg RN n 5 69 3 0 q (laws_toLetterS_S3 t0 x0 x3 x4) = some (if c then (e, laws_toLetterS_O3 x3O) else (e', laws_toLetterS_O3 x3P))) : laws_toLetterS_L3 n q t0 x0 x3 x4 = some (if c then (e, ((), ()), x3O, ()) else (e', ((), ()), x3P, ())) := by
  by_cases hc : c
  · rw [if_pos hc] at h ⊢; exact laws_toLetterS_L3_of h
  · rw [if_neg hc] at h ⊢; exact laws_toLetterS_L3_of h

@[reducible] def laws_toCallS_S3 (t0 : Bool) (x0 : List CallD) (x3 : List CallD) (x4 : Int) : St := ⟨frOf [(0, .sl t0 .call x0), (3, .c (.row (.own 3) .call)), (4, .int x4)], hpIds [(.own 3, .row true .call x3)]⟩

@[reducible] def laws_toCallS_O3 (x3 : List CallD) : St := ⟨frOf [(3, .c (.row (.own 3) .call))], hpIds [(.own 3, .row true .call x3)]⟩

noncomputable def laws_toCallS_L3 (n q : Nat) (t0 : Bool) (x0 : List CallD) (x3 : List CallD) (x4 : Int) : Option (Ex × (Unit × Unit) × List CallD × Unit) := lpT Tryz.prog cfg RN n 5 70 3 0 q (laws_toCallS_S3 t0 x0 x3 x4)

theorem laws_toCallS_L3_of {n q : Nat} {t0 : Bool} {x0 : List CallD} {x3 : List CallD} {x4 : Int} {e : Ex} {x3O : List CallD} (h : lp Tryz.prog cfg RN n 5 70 3 0 q (laws_toCallS_S3 t0 x0 x3 x4) = some (e, laws_toCallS_O3 x3O)) : laws_toCallS_L3 n q t0 x0 x3 x4 = some (e, ((), ()), x3O, ()) := by
  unfold laws_toCallS_L3 lpT
  rw [h]
  kernel_rfl

theorem laws_toCallS_L3_if {n q : Nat} {t0 : Bool} {x0 : List CallD} {x3 : List CallD} {x4 : Int} {c : Prop} [Decidable c] {e e' : Ex} {x3O : List CallD} {x3P : List CallD} (h : lp Tryz.prog cfg RN n 5 70 3 0 q (laws_toCallS_S3 t0 x0 x3 x4) = some (if c then (e, laws_toCallS_O3 x3O) else (e', laws_toCallS_O3 x3P))) : laws_toCallS_L3 n q t0 x0 x3 x4 = some (if c then (e, ((), ()), x3O, ()) else (e', ((), ()), x3P, ())) := by
  by_cases hc : c
  · rw [if_pos hc] at h ⊢; exact laws_toCallS_L3_of h
  · rw [if_neg hc] at h ⊢; exact laws_toCallS_L3_of h

@[reducible] def laws_toTalkS_S3 (t0 : Bool) (x0 : List Talk) (x3 : List Talk) (x4 : Int) : St := ⟨frOf [(0, .sl t0 .talk x0), (3, .c (.row (.own 3) .talk)), (4, .int x4)], hpIds [(.own 3, .row true .talk x3)]⟩

@[reducible] def laws_toTalkS_O3 (x3 : List Talk) : St := ⟨frOf [(3, .c (.row (.own 3) .talk))], hpIds [(.own 3, .row true .talk x3)]⟩

noncomputable def laws_toTalkS_L3 (n q : Nat) (t0 : Bool) (x0 : List Talk) (x3 : List Talk) (x4 : Int) : Option (Ex × (Unit × Unit) × List Talk × Unit) := lpT Tryz.prog cfg RN n 5 71 3 0 q (laws_toTalkS_S3 t0 x0 x3 x4)

theorem laws_toTalkS_L3_of {n q : Nat} {t0 : Bool} {x0 : List Talk} {x3 : List Talk} {x4 : Int} {e : Ex} {x3O : List Talk} (h : lp Tryz.prog cfg RN n 5 71 3 0 q (laws_toTalkS_S3 t0 x0 x3 x4) = some (e, laws_toTalkS_O3 x3O)) : laws_toTalkS_L3 n q t0 x0 x3 x4 = some (e, ((), ()), x3O, ()) := by
  unfold laws_toTalkS_L3 lpT
  rw [h]
  kernel_rfl

theorem laws_toTalkS_L3_if {n q : Nat} {t0 : Bool} {x0 : List Talk} {x3 : List Talk} {x4 : Int} {c : Prop} [Decidable c] {e e' : Ex} {x3O : List Talk} {x3P : List Talk} (h : lp Tryz.prog cfg RN n 5 71 3 0 q (laws_toTalkS_S3 t0 x0 x3 x4) = some (if c then (e, laws_toTalkS_O3 x3O) else (e', laws_toTalkS_O3 x3P))) : laws_toTalkS_L3 n q t0 x0 x3 x4 = some (if c then (e, ((), ()), x3O, ()) else (e', ((), ()), x3P, ())) := by
  by_cases hc : c
  · rw [if_pos hc] at h ⊢; exact laws_toTalkS_L3_of h
  · rw [if_neg hc] at h ⊢; exact laws_toTalkS_L3_of h

@[reducible] def laws_toIntS_S3 (t0 : Bool) (x0 : List Int) (x3 : List Int) (x4 : Int) : St := ⟨frOf [(0, .sl t0 .int x0), (3, .c (.row (.own 3) .int)), (4, .int x4)], hpIds [(.own 3, .row true .int x3)]⟩

@[reducible] def laws_toIntS_O3 (x3 : List Int) : St := ⟨frOf [(3, .c (.row (.own 3) .int))], hpIds [(.own 3, .row true .int x3)]⟩

noncomputable def laws_toIntS_L3 (n q : Nat) (t0 : Bool) (x0 : List Int) (x3 : List Int) (x4 : Int) : Option (Ex × (Unit × Unit) × List Int × Unit) := lpT Tryz.prog cfg RN n 5 72 3 0 q (laws_toIntS_S3 t0 x0 x3 x4)

theorem laws_toIntS_L3_of {n q : Nat} {t0 : Bool} {x0 : List Int} {x3 : List Int} {x4 : Int} {e : Ex} {x3O : List Int} (h : lp Tryz.prog cfg RN n 5 72 3 0 q (laws_toIntS_S3 t0 x0 x3 x4) = some (e, laws_toIntS_O3 x3O)) : laws_toIntS_L3 n q t0 x0 x3 x4 = some (e, ((), ()), x3O, ()) := by
  unfold laws_toIntS_L3 lpT
  rw [h]
  kernel_rfl

theorem laws_toIntS_L3_if {n q : Nat} {t0 : Bool} {x0 : List Int} {x3 : List Int} {x4 : Int} {c : Prop} [Decidable c] {e e' : Ex} {x3O : List Int} {x3P : List Int} (h : lp Tryz.prog cfg RN n 5 72 3 0 q (laws_toIntS_S3 t0 x0 x3 x4) = some (if c then (e, laws_toIntS_O3 x3O) else (e', laws_toIntS_O3 x3P))) : laws_toIntS_L3 n q t0 x0 x3 x4 = some (if c then (e, ((), ()), x3O, ()) else (e', ((), ()), x3P, ())) := by
  by_cases hc : c
  · rw [if_pos hc] at h ⊢; exact laws_toIntS_L3_of h
  · rw [if_neg hc] at h ⊢; exact laws_toIntS_L3_of h

@[reducible] def impl_CacheOk_S2 (t0 : Bool) (x0 : List Policy) (x2 : Bool) (t5 : Bool) (x5 : List Policy) (x6 : Int) (x7 : Int) : St := ⟨frOf [(0, .sl t0 .policy x0), (2, .bool x2), (5, .sl t5 .policy x5), (6, .int x6), (7, .int x7)], hpIds []⟩

@[reducible] def impl_CacheOk_O2 (t0 : Bool) (x0 : List Policy) (x2 : Bool) : St := ⟨frOf [(0, .sl t0 .policy x0), (2, .bool x2)], hpIds []⟩

noncomputable def impl_CacheOk_L2 (n q : Nat) (t0 : Bool) (x0 : List Policy) (x2 : Bool) (t5 : Bool) (x5 : List Policy) (x6 : Int) (x7 : Int) : Option (Ex × (List Policy × Bool × Unit) × Unit) := lpT Tryz.prog cfg RN n 5 78 2 0 q (impl_CacheOk_S2 t0 x0 x2 t5 x5 x6 x7)

theorem impl_CacheOk_L2_of {n q : Nat} {t0 : Bool} {x0 : List Policy} {x2 : Bool} {t5 : Bool} {x5 : List Policy} {x6 : Int} {x7 : Int} {e : Ex} {t0O : Bool} {x0O : List Policy} {x2O : Bool} (h : lp Tryz.prog cfg RN n 5 78 2 0 q (impl_CacheOk_S2 t0 x0 x2 t5 x5 x6 x7) = some (e, impl_CacheOk_O2 t0O x0O x2O)) : impl_CacheOk_L2 n q t0 x0 x2 t5 x5 x6 x7 = some (e, (x0O, x2O, ()), ()) := by
  unfold impl_CacheOk_L2 lpT
  rw [h]
  kernel_rfl

theorem impl_CacheOk_L2_if {n q : Nat} {t0 : Bool} {x0 : List Policy} {x2 : Bool} {t5 : Bool} {x5 : List Policy} {x6 : Int} {x7 : Int} {c : Prop} [Decidable c] {e e' : Ex} {t0O : Bool} {x0O : List Policy} {x2O : Bool} {t0P : Bool} {x0P : List Policy} {x2P : Bool} (h : lp Tryz.prog cfg RN n 5 78 2 0 q (impl_CacheOk_S2 t0 x0 x2 t5 x5 x6 x7) = some (if c then (e, impl_CacheOk_O2 t0O x0O x2O) else (e', impl_CacheOk_O2 t0P x0P x2P))) : impl_CacheOk_L2 n q t0 x0 x2 t5 x5 x6 x7 = some (if c then (e, (x0O, x2O, ()), ()) else (e', (x0P, x2P, ()), ())) := by
  by_cases hc : c
  · rw [if_pos hc] at h ⊢; exact impl_CacheOk_L2_of h
  · rw [if_neg hc] at h ⊢; exact impl_CacheOk_L2_of h

@[reducible] def impl_hostsOk_S2 (t0 : Bool) (x0 : List Host) (x2 : Bool) (t5 : Bool) (x5 : List Host) (x6 : Int) (x7 : Int) : St := ⟨frOf [(0, .sl t0 .host x0), (2, .bool x2), (5, .sl t5 .host x5), (6, .int x6), (7, .int x7)], hpIds []⟩

@[reducible] def impl_hostsOk_O2 (t0 : Bool) (x0 : List Host) (x2 : Bool) : St := ⟨frOf [(0, .sl t0 .host x0), (2, .bool x2)], hpIds []⟩

noncomputable def impl_hostsOk_L2 (n q : Nat) (t0 : Bool) (x0 : List Host) (x2 : Bool) (t5 : Bool) (x5 : List Host) (x6 : Int) (x7 : Int) : Option (Ex × (List Host × Bool × Unit) × Unit) := lpT Tryz.prog cfg RN n 5 79 2 0 q (impl_hostsOk_S2 t0 x0 x2 t5 x5 x6 x7)

theorem impl_hostsOk_L2_of {n q : Nat} {t0 : Bool} {x0 : List Host} {x2 : Bool} {t5 : Bool} {x5 : List Host} {x6 : Int} {x7 : Int} {e : Ex} {t0O : Bool} {x0O : List Host} {x2O : Bool} (h : lp Tryz.prog cfg RN n 5 79 2 0 q (impl_hostsOk_S2 t0 x0 x2 t5 x5 x6 x7) = some (e, impl_hostsOk_O2 t0O x0O x2O)) : impl_hostsOk_L2 n q t0 x0 x2 t5 x5 x6 x7 = some (e, (x0O, x2O, ()), ()) := by
  unfold impl_hostsOk_L2 lpT
  rw [h]
  kernel_rfl

theorem impl_hostsOk_L2_if {n q : Nat} {t0 : Bool} {x0 : List Host} {x2 : Bool} {t5 : Bool} {x5 : List Host} {x6 : Int} {x7 : Int} {c : Prop} [Decidable c] {e e' : Ex} {t0O : Bool} {x0O : List Host} {x2O : Bool} {t0P : Bool} {x0P : List Host} {x2P : Bool} (h : lp Tryz.prog cfg RN n 5 79 2 0 q (impl_hostsOk_S2 t0 x0 x2 t5 x5 x6 x7) = some (if c then (e, impl_hostsOk_O2 t0O x0O x2O) else (e', impl_hostsOk_O2 t0P x0P x2P))) : impl_hostsOk_L2 n q t0 x0 x2 t5 x5 x6 x7 = some (if c then (e, (x0O, x2O, ()), ()) else (e', (x0P, x2P, ()), ())) := by
  by_cases hc : c
  · rw [if_pos hc] at h ⊢; exact impl_hostsOk_L2_of h
  · rw [if_neg hc] at h ⊢; exact impl_hostsOk_L2_of h

@[reducible] def impl_linesOk_S2 (x2 : Bool) (t8 : Bool) (x8 : List CallD) (x9 : Int) (x10 : Int) (y1 : WorldD) : St := ⟨frOf [(1, .c (.bx (.own 1) 0)), (2, .bool x2), (8, .sl t8 .call x8), (9, .int x9), (10, .int x10)], hpIds [(.own 1, .box ((WorldD.cells y1).map C.f))]⟩

@[reducible] def impl_linesOk_O2 (x2 : Bool) (y1 : WorldD) : St := ⟨frOf [(1, .c (.bx (.own 1) 0)), (2, .bool x2)], hpIds [(.own 1, .box ((WorldD.cells y1).map C.f))]⟩

noncomputable def impl_linesOk_L2 (n q : Nat) (x2 : Bool) (t8 : Bool) (x8 : List CallD) (x9 : Int) (x10 : Int) (y1 : WorldD) : Option (Ex × (Unit × Bool × Unit) × WorldD × Unit) := lpT Tryz.prog cfg RN n 5 83 2 0 q (impl_linesOk_S2 x2 t8 x8 x9 x10 y1)

theorem impl_linesOk_L2_of {n q : Nat} {x2 : Bool} {t8 : Bool} {x8 : List CallD} {x9 : Int} {x10 : Int} {y1 : WorldD} {e : Ex} {x2O : Bool} {y1O : WorldD} (h : lp Tryz.prog cfg RN n 5 83 2 0 q (impl_linesOk_S2 x2 t8 x8 x9 x10 y1) = some (e, impl_linesOk_O2 x2O y1O)) : impl_linesOk_L2 n q x2 t8 x8 x9 x10 y1 = some (e, ((), x2O, ()), y1O, ()) := by
  unfold impl_linesOk_L2 lpT
  rw [h]
  kernel_rfl

theorem impl_linesOk_L2_if {n q : Nat} {x2 : Bool} {t8 : Bool} {x8 : List CallD} {x9 : Int} {x10 : Int} {y1 : WorldD} {c : Prop} [Decidable c] {e e' : Ex} {x2O : Bool} {y1O : WorldD} {x2P : Bool} {y1P : WorldD} (h : lp Tryz.prog cfg RN n 5 83 2 0 q (impl_linesOk_S2 x2 t8 x8 x9 x10 y1) = some (if c then (e, impl_linesOk_O2 x2O y1O) else (e', impl_linesOk_O2 x2P y1P))) : impl_linesOk_L2 n q x2 t8 x8 x9 x10 y1 = some (if c then (e, ((), x2O, ()), y1O, ()) else (e', ((), x2P, ()), y1P, ())) := by
  by_cases hc : c
  · rw [if_pos hc] at h ⊢; exact impl_linesOk_L2_of h
  · rw [if_neg hc] at h ⊢; exact impl_linesOk_L2_of h

@[reducible] def impl_linesOk_S8 (x2 : Bool) (t30 : Bool) (x30 : List Talk) (x31 : Int) (x32 : Int) (y1 : WorldD) : St := ⟨frOf [(1, .c (.bx (.own 1) 0)), (2, .bool x2), (30, .sl t30 .talk x30), (31, .int x31), (32, .int x32)], hpIds [(.own 1, .box ((WorldD.cells y1).map C.f))]⟩

@[reducible] def impl_linesOk_O8 (x2 : Bool) (y1 : WorldD) : St := ⟨frOf [(1, .c (.bx (.own 1) 0)), (2, .bool x2)], hpIds [(.own 1, .box ((WorldD.cells y1).map C.f))]⟩

noncomputable def impl_linesOk_L8 (n q : Nat) (x2 : Bool) (t30 : Bool) (x30 : List Talk) (x31 : Int) (x32 : Int) (y1 : WorldD) : Option (Ex × (Unit × Bool × Unit) × WorldD × Unit) := lpT Tryz.prog cfg RN n 5 83 8 0 q (impl_linesOk_S8 x2 t30 x30 x31 x32 y1)

theorem impl_linesOk_L8_of {n q : Nat} {x2 : Bool} {t30 : Bool} {x30 : List Talk} {x31 : Int} {x32 : Int} {y1 : WorldD} {e : Ex} {x2O : Bool} {y1O : WorldD} (h : lp Tryz.prog cfg RN n 5 83 8 0 q (impl_linesOk_S8 x2 t30 x30 x31 x32 y1) = some (e, impl_linesOk_O8 x2O y1O)) : impl_linesOk_L8 n q x2 t30 x30 x31 x32 y1 = some (e, ((), x2O, ()), y1O, ()) := by
  unfold impl_linesOk_L8 lpT
  rw [h]
  kernel_rfl

theorem impl_linesOk_L8_if {n q : Nat} {x2 : Bool} {t30 : Bool} {x30 : List Talk} {x31 : Int} {x32 : Int} {y1 : WorldD} {c : Prop} [Decidable c] {e e' : Ex} {x2O : Bool} {y1O : WorldD} {x2P : Bool} {y1P : WorldD} (h : lp Tryz.prog cfg RN n 5 83 8 0 q (impl_linesOk_S8 x2 t30 x30 x31 x32 y1) = some (if c then (e, impl_linesOk_O8 x2O y1O) else (e', impl_linesOk_O8 x2P y1P))) : impl_linesOk_L8 n q x2 t30 x30 x31 x32 y1 = some (if c then (e, ((), x2O, ()), y1O, ()) else (e', ((), x2P, ()), y1P, ())) := by
  by_cases hc : c
  · rw [if_pos hc] at h ⊢; exact impl_linesOk_L8_of h
  · rw [if_neg hc] at h ⊢; exact impl_linesOk_L8_of h

@[reducible] def impl_toldOk_S2 (t0 : Bool) (x0 : List Int) (x2 : Bool) (t5 : Bool) (x5 : List Int) (x6 : Int) (x7 : Int) : St := ⟨frOf [(0, .sl t0 .int x0), (2, .bool x2), (5, .sl t5 .int x5), (6, .int x6), (7, .int x7)], hpIds []⟩

@[reducible] def impl_toldOk_O2 (x2 : Bool) : St := ⟨frOf [(2, .bool x2)], hpIds []⟩

noncomputable def impl_toldOk_L2 (n q : Nat) (t0 : Bool) (x0 : List Int) (x2 : Bool) (t5 : Bool) (x5 : List Int) (x6 : Int) (x7 : Int) : Option (Ex × (Bool × Unit) × Unit) := lpT Tryz.prog cfg RN n 5 84 2 0 q (impl_toldOk_S2 t0 x0 x2 t5 x5 x6 x7)

theorem impl_toldOk_L2_of {n q : Nat} {t0 : Bool} {x0 : List Int} {x2 : Bool} {t5 : Bool} {x5 : List Int} {x6 : Int} {x7 : Int} {e : Ex} {x2O : Bool} (h : lp Tryz.prog cfg RN n 5 84 2 0 q (impl_toldOk_S2 t0 x0 x2 t5 x5 x6 x7) = some (e, impl_toldOk_O2 x2O)) : impl_toldOk_L2 n q t0 x0 x2 t5 x5 x6 x7 = some (e, (x2O, ()), ()) := by
  unfold impl_toldOk_L2 lpT
  rw [h]
  kernel_rfl

theorem impl_toldOk_L2_if {n q : Nat} {t0 : Bool} {x0 : List Int} {x2 : Bool} {t5 : Bool} {x5 : List Int} {x6 : Int} {x7 : Int} {c : Prop} [Decidable c] {e e' : Ex} {x2O : Bool} {x2P : Bool} (h : lp Tryz.prog cfg RN n 5 84 2 0 q (impl_toldOk_S2 t0 x0 x2 t5 x5 x6 x7) = some (if c then (e, impl_toldOk_O2 x2O) else (e', impl_toldOk_O2 x2P))) : impl_toldOk_L2 n q t0 x0 x2 t5 x5 x6 x7 = some (if c then (e, (x2O, ()), ()) else (e', (x2P, ()), ())) := by
  by_cases hc : c
  · rw [if_pos hc] at h ⊢; exact impl_toldOk_L2_of h
  · rw [if_neg hc] at h ⊢; exact impl_toldOk_L2_of h

@[reducible] def laws_eqTermS_S4 (t0 : Bool) (x0 : List Term) (t1 : Bool) (x1 : List Term) (x4 : Bool) (x5 : Int) : St := ⟨frOf [(0, .sl t0 .term x0), (1, .sl t1 .term x1), (4, .bool x4), (5, .int x5)], hpIds []⟩

@[reducible] def laws_eqTermS_O4 (x4 : Bool) : St := ⟨frOf [(4, .bool x4)], hpIds []⟩

noncomputable def laws_eqTermS_L4 (n q : Nat) (t0 : Bool) (x0 : List Term) (t1 : Bool) (x1 : List Term) (x4 : Bool) (x5 : Int) : Option (Ex × (Bool × Unit) × Unit) := lpT Tryz.prog cfg RN n 5 85 4 0 q (laws_eqTermS_S4 t0 x0 t1 x1 x4 x5)

theorem laws_eqTermS_L4_of {n q : Nat} {t0 : Bool} {x0 : List Term} {t1 : Bool} {x1 : List Term} {x4 : Bool} {x5 : Int} {e : Ex} {x4O : Bool} (h : lp Tryz.prog cfg RN n 5 85 4 0 q (laws_eqTermS_S4 t0 x0 t1 x1 x4 x5) = some (e, laws_eqTermS_O4 x4O)) : laws_eqTermS_L4 n q t0 x0 t1 x1 x4 x5 = some (e, (x4O, ()), ()) := by
  unfold laws_eqTermS_L4 lpT
  rw [h]
  kernel_rfl

theorem laws_eqTermS_L4_if {n q : Nat} {t0 : Bool} {x0 : List Term} {t1 : Bool} {x1 : List Term} {x4 : Bool} {x5 : Int} {c : Prop} [Decidable c] {e e' : Ex} {x4O : Bool} {x4P : Bool} (h : lp Tryz.prog cfg RN n 5 85 4 0 q (laws_eqTermS_S4 t0 x0 t1 x1 x4 x5) = some (if c then (e, laws_eqTermS_O4 x4O) else (e', laws_eqTermS_O4 x4P))) : laws_eqTermS_L4 n q t0 x0 t1 x1 x4 x5 = some (if c then (e, (x4O, ()), ()) else (e', (x4P, ()), ())) := by
  by_cases hc : c
  · rw [if_pos hc] at h ⊢; exact laws_eqTermS_L4_of h
  · rw [if_neg hc] at h ⊢; exact laws_eqTermS_L4_of h

@[reducible] def laws_eqPolicyS_S4 (t0 : Bool) (x0 : List Policy) (t1 : Bool) (x1 : List Policy) (x4 : Bool) (x5 : Int) : St := ⟨frOf [(0, .sl t0 .policy x0), (1, .sl t1 .policy x1), (4, .bool x4), (5, .int x5)], hpIds []⟩

@[reducible] def laws_eqPolicyS_O4 (x4 : Bool) : St := ⟨frOf [(4, .bool x4)], hpIds []⟩

noncomputable def laws_eqPolicyS_L4 (n q : Nat) (t0 : Bool) (x0 : List Policy) (t1 : Bool) (x1 : List Policy) (x4 : Bool) (x5 : Int) : Option (Ex × (Bool × Unit) × Unit) := lpT Tryz.prog cfg RN n 5 86 4 0 q (laws_eqPolicyS_S4 t0 x0 t1 x1 x4 x5)

theorem laws_eqPolicyS_L4_of {n q : Nat} {t0 : Bool} {x0 : List Policy} {t1 : Bool} {x1 : List Policy} {x4 : Bool} {x5 : Int} {e : Ex} {x4O : Bool} (h : lp Tryz.prog cfg RN n 5 86 4 0 q (laws_eqPolicyS_S4 t0 x0 t1 x1 x4 x5) = some (e, laws_eqPolicyS_O4 x4O)) : laws_eqPolicyS_L4 n q t0 x0 t1 x1 x4 x5 = some (e, (x4O, ()), ()) := by
  unfold laws_eqPolicyS_L4 lpT
  rw [h]
  kernel_rfl

theorem laws_eqPolicyS_L4_if {n q : Nat} {t0 : Bool} {x0 : List Policy} {t1 : Bool} {x1 : List Policy} {x4 : Bool} {x5 : Int} {c : Prop} [Decidable c] {e e' : Ex} {x4O : Bool} {x4P : Bool} (h : lp Tryz.prog cfg RN n 5 86 4 0 q (laws_eqPolicyS_S4 t0 x0 t1 x1 x4 x5) = some (if c then (e, laws_eqPolicyS_O4 x4O) else (e', laws_eqPolicyS_O4 x4P))) : laws_eqPolicyS_L4 n q t0 x0 t1 x1 x4 x5 = some (if c then (e, (x4O, ()), ()) else (e', (x4P, ()), ())) := by
  by_cases hc : c
  · rw [if_pos hc] at h ⊢; exact laws_eqPolicyS_L4_of h
  · rw [if_neg hc] at h ⊢; exact laws_eqPolicyS_L4_of h

@[reducible] def laws_eqHostS_S4 (t0 : Bool) (x0 : List Host) (t1 : Bool) (x1 : List Host) (x4 : Bool) (x5 : Int) : St := ⟨frOf [(0, .sl t0 .host x0), (1, .sl t1 .host x1), (4, .bool x4), (5, .int x5)], hpIds []⟩

@[reducible] def laws_eqHostS_O4 (x4 : Bool) : St := ⟨frOf [(4, .bool x4)], hpIds []⟩

noncomputable def laws_eqHostS_L4 (n q : Nat) (t0 : Bool) (x0 : List Host) (t1 : Bool) (x1 : List Host) (x4 : Bool) (x5 : Int) : Option (Ex × (Bool × Unit) × Unit) := lpT Tryz.prog cfg RN n 5 87 4 0 q (laws_eqHostS_S4 t0 x0 t1 x1 x4 x5)

theorem laws_eqHostS_L4_of {n q : Nat} {t0 : Bool} {x0 : List Host} {t1 : Bool} {x1 : List Host} {x4 : Bool} {x5 : Int} {e : Ex} {x4O : Bool} (h : lp Tryz.prog cfg RN n 5 87 4 0 q (laws_eqHostS_S4 t0 x0 t1 x1 x4 x5) = some (e, laws_eqHostS_O4 x4O)) : laws_eqHostS_L4 n q t0 x0 t1 x1 x4 x5 = some (e, (x4O, ()), ()) := by
  unfold laws_eqHostS_L4 lpT
  rw [h]
  kernel_rfl

theorem laws_eqHostS_L4_if {n q : Nat} {t0 : Bool} {x0 : List Host} {t1 : Bool} {x1 : List Host} {x4 : Bool} {x5 : Int} {c : Prop} [Decidable c] {e e' : Ex} {x4O : Bool} {x4P : Bool} (h : lp Tryz.prog cfg RN n 5 87 4 0 q (laws_eqHostS_S4 t0 x0 t1 x1 x4 x5) = some (if c then (e, laws_eqHostS_O4 x4O) else (e', laws_eqHostS_O4 x4P))) : laws_eqHostS_L4 n q t0 x0 t1 x1 x4 x5 = some (if c then (e, (x4O, ()), ()) else (e', (x4P, ()), ())) := by
  by_cases hc : c
  · rw [if_pos hc] at h ⊢; exact laws_eqHostS_L4_of h
  · rw [if_neg hc] at h ⊢; exact laws_eqHostS_L4_of h

@[reducible] def laws_eqLetterS_S4 (t0 : Bool) (x0 : List Letter) (t1 : Bool) (x1 : List Letter) (x4 : Bool) (x5 : Int) : St := ⟨frOf [(0, .sl t0 .letter x0), (1, .sl t1 .letter x1), (4, .bool x4), (5, .int x5)], hpIds []⟩

@[reducible] def laws_eqLetterS_O4 (x4 : Bool) : St := ⟨frOf [(4, .bool x4)], hpIds []⟩

noncomputable def laws_eqLetterS_L4 (n q : Nat) (t0 : Bool) (x0 : List Letter) (t1 : Bool) (x1 : List Letter) (x4 : Bool) (x5 : Int) : Option (Ex × (Bool × Unit) × Unit) := lpT Tryz.prog cfg RN n 5 88 4 0 q (laws_eqLetterS_S4 t0 x0 t1 x1 x4 x5)

theorem laws_eqLetterS_L4_of {n q : Nat} {t0 : Bool} {x0 : List Letter} {t1 : Bool} {x1 : List Letter} {x4 : Bool} {x5 : Int} {e : Ex} {x4O : Bool} (h : lp Tryz.prog cfg RN n 5 88 4 0 q (laws_eqLetterS_S4 t0 x0 t1 x1 x4 x5) = some (e, laws_eqLetterS_O4 x4O)) : laws_eqLetterS_L4 n q t0 x0 t1 x1 x4 x5 = some (e, (x4O, ()), ()) := by
  unfold laws_eqLetterS_L4 lpT
  rw [h]
  kernel_rfl

theorem laws_eqLetterS_L4_if {n q : Nat} {t0 : Bool} {x0 : List Letter} {t1 : Bool} {x1 : List Letter} {x4 : Bool} {x5 : Int} {c : Prop} [Decidable c] {e e' : Ex} {x4O : Bool} {x4P : Bool} (h : lp Tryz.prog cfg RN n 5 88 4 0 q (laws_eqLetterS_S4 t0 x0 t1 x1 x4 x5) = some (if c then (e, laws_eqLetterS_O4 x4O) else (e', laws_eqLetterS_O4 x4P))) : laws_eqLetterS_L4 n q t0 x0 t1 x1 x4 x5 = some (if c then (e, (x4O, ()), ()) else (e', (x4P, ()), ())) := by
  by_cases hc : c
  · rw [if_pos hc] at h ⊢; exact laws_eqLetterS_L4_of h
  · rw [if_neg hc] at h ⊢; exact laws_eqLetterS_L4_of h

@[reducible] def laws_eqCallS_S4 (t0 : Bool) (x0 : List CallD) (t1 : Bool) (x1 : List CallD) (x4 : Bool) (x5 : Int) : St := ⟨frOf [(0, .sl t0 .call x0), (1, .sl t1 .call x1), (4, .bool x4), (5, .int x5)], hpIds []⟩

@[reducible] def laws_eqCallS_O4 (x4 : Bool) : St := ⟨frOf [(4, .bool x4)], hpIds []⟩

noncomputable def laws_eqCallS_L4 (n q : Nat) (t0 : Bool) (x0 : List CallD) (t1 : Bool) (x1 : List CallD) (x4 : Bool) (x5 : Int) : Option (Ex × (Bool × Unit) × Unit) := lpT Tryz.prog cfg RN n 5 89 4 0 q (laws_eqCallS_S4 t0 x0 t1 x1 x4 x5)

theorem laws_eqCallS_L4_of {n q : Nat} {t0 : Bool} {x0 : List CallD} {t1 : Bool} {x1 : List CallD} {x4 : Bool} {x5 : Int} {e : Ex} {x4O : Bool} (h : lp Tryz.prog cfg RN n 5 89 4 0 q (laws_eqCallS_S4 t0 x0 t1 x1 x4 x5) = some (e, laws_eqCallS_O4 x4O)) : laws_eqCallS_L4 n q t0 x0 t1 x1 x4 x5 = some (e, (x4O, ()), ()) := by
  unfold laws_eqCallS_L4 lpT
  rw [h]
  kernel_rfl

theorem laws_eqCallS_L4_if {n q : Nat} {t0 : Bool} {x0 : List CallD} {t1 : Bool} {x1 : List CallD} {x4 : Bool} {x5 : Int} {c : Prop} [Decidable c] {e e' : Ex} {x4O : Bool} {x4P : Bool} (h : lp Tryz.prog cfg RN n 5 89 4 0 q (laws_eqCallS_S4 t0 x0 t1 x1 x4 x5) = some (if c then (e, laws_eqCallS_O4 x4O) else (e', laws_eqCallS_O4 x4P))) : laws_eqCallS_L4 n q t0 x0 t1 x1 x4 x5 = some (if c then (e, (x4O, ()), ()) else (e', (x4P, ()), ())) := by
  by_cases hc : c
  · rw [if_pos hc] at h ⊢; exact laws_eqCallS_L4_of h
  · rw [if_neg hc] at h ⊢; exact laws_eqCallS_L4_of h

@[reducible] def laws_eqTalkS_S4 (t0 : Bool) (x0 : List Talk) (t1 : Bool) (x1 : List Talk) (x4 : Bool) (x5 : Int) : St := ⟨frOf [(0, .sl t0 .talk x0), (1, .sl t1 .talk x1), (4, .bool x4), (5, .int x5)], hpIds []⟩

@[reducible] def laws_eqTalkS_O4 (x4 : Bool) : St := ⟨frOf [(4, .bool x4)], hpIds []⟩

noncomputable def laws_eqTalkS_L4 (n q : Nat) (t0 : Bool) (x0 : List Talk) (t1 : Bool) (x1 : List Talk) (x4 : Bool) (x5 : Int) : Option (Ex × (Bool × Unit) × Unit) := lpT Tryz.prog cfg RN n 5 90 4 0 q (laws_eqTalkS_S4 t0 x0 t1 x1 x4 x5)

theorem laws_eqTalkS_L4_of {n q : Nat} {t0 : Bool} {x0 : List Talk} {t1 : Bool} {x1 : List Talk} {x4 : Bool} {x5 : Int} {e : Ex} {x4O : Bool} (h : lp Tryz.prog cfg RN n 5 90 4 0 q (laws_eqTalkS_S4 t0 x0 t1 x1 x4 x5) = some (e, laws_eqTalkS_O4 x4O)) : laws_eqTalkS_L4 n q t0 x0 t1 x1 x4 x5 = some (e, (x4O, ()), ()) := by
  unfold laws_eqTalkS_L4 lpT
  rw [h]
  kernel_rfl

theorem laws_eqTalkS_L4_if {n q : Nat} {t0 : Bool} {x0 : List Talk} {t1 : Bool} {x1 : List Talk} {x4 : Bool} {x5 : Int} {c : Prop} [Decidable c] {e e' : Ex} {x4O : Bool} {x4P : Bool} (h : lp Tryz.prog cfg RN n 5 90 4 0 q (laws_eqTalkS_S4 t0 x0 t1 x1 x4 x5) = some (if c then (e, laws_eqTalkS_O4 x4O) else (e', laws_eqTalkS_O4 x4P))) : laws_eqTalkS_L4 n q t0 x0 t1 x1 x4 x5 = some (if c then (e, (x4O, ()), ()) else (e', (x4P, ()), ())) := by
  by_cases hc : c
  · rw [if_pos hc] at h ⊢; exact laws_eqTalkS_L4_of h
  · rw [if_neg hc] at h ⊢; exact laws_eqTalkS_L4_of h

@[reducible] def spec_Same_S4 (x4 : Bool) (x5 : Int) (y2 : Term) (y3 : Term) : St := ⟨frOf [(2, .c (.bx (.own 2) 0)), (3, .c (.bx (.own 3) 0)), (4, .bool x4), (5, .int x5)], hpIds [(.own 2, .box ((Term.cells y2).map C.f)), (.own 3, .box ((Term.cells y3).map C.f))]⟩

@[reducible] def spec_Same_O4 (x4 : Bool) : St := ⟨frOf [(4, .bool x4)], hpIds []⟩

noncomputable def spec_Same_L4 (n q : Nat) (x4 : Bool) (x5 : Int) (y2 : Term) (y3 : Term) : Option (Ex × (Bool × Unit) × Unit) := lpT Tryz.prog cfg RN n 5 129 4 0 q (spec_Same_S4 x4 x5 y2 y3)

theorem spec_Same_L4_of {n q : Nat} {x4 : Bool} {x5 : Int} {y2 : Term} {y3 : Term} {e : Ex} {x4O : Bool} (h : lp Tryz.prog cfg RN n 5 129 4 0 q (spec_Same_S4 x4 x5 y2 y3) = some (e, spec_Same_O4 x4O)) : spec_Same_L4 n q x4 x5 y2 y3 = some (e, (x4O, ()), ()) := by
  unfold spec_Same_L4 lpT
  rw [h]
  kernel_rfl

theorem spec_Same_L4_if {n q : Nat} {x4 : Bool} {x5 : Int} {y2 : Term} {y3 : Term} {c : Prop} [Decidable c] {e e' : Ex} {x4O : Bool} {x4P : Bool} (h : lp Tryz.prog cfg RN n 5 129 4 0 q (spec_Same_S4 x4 x5 y2 y3) = some (if c then (e, spec_Same_O4 x4O) else (e', spec_Same_O4 x4P))) : spec_Same_L4 n q x4 x5 y2 y3 = some (if c then (e, (x4O, ()), ()) else (e', (x4P, ()), ())) := by
  by_cases hc : c
  · rw [if_pos hc] at h ⊢; exact spec_Same_L4_of h
  · rw [if_neg hc] at h ⊢; exact spec_Same_L4_of h

@[reducible] def spec_PolicyOk_S2 (x2 : Bool) (x3 : Int) (y1 : Policy) : St := ⟨frOf [(1, .c (.bx (.own 1) 0)), (2, .bool x2), (3, .int x3)], hpIds [(.own 1, .box ((Policy.cells y1).map C.f))]⟩

@[reducible] def spec_PolicyOk_O2 (x2 : Bool) (y1 : Policy) : St := ⟨frOf [(1, .c (.bx (.own 1) 0)), (2, .bool x2)], hpIds [(.own 1, .box ((Policy.cells y1).map C.f))]⟩

noncomputable def spec_PolicyOk_L2 (n q : Nat) (x2 : Bool) (x3 : Int) (y1 : Policy) : Option (Ex × (Unit × Bool × Unit) × Policy × Unit) := lpT Tryz.prog cfg RN n 5 148 2 0 q (spec_PolicyOk_S2 x2 x3 y1)

theorem spec_PolicyOk_L2_of {n q : Nat} {x2 : Bool} {x3 : Int} {y1 : Policy} {e : Ex} {x2O : Bool} {y1O : Policy} (h : lp Tryz.prog cfg RN n 5 148 2 0 q (spec_PolicyOk_S2 x2 x3 y1) = some (e, spec_PolicyOk_O2 x2O y1O)) : spec_PolicyOk_L2 n q x2 x3 y1 = some (e, ((), x2O, ()), y1O, ()) := by
  unfold spec_PolicyOk_L2 lpT
  rw [h]
  kernel_rfl

theorem spec_PolicyOk_L2_if {n q : Nat} {x2 : Bool} {x3 : Int} {y1 : Policy} {c : Prop} [Decidable c] {e e' : Ex} {x2O : Bool} {y1O : Policy} {x2P : Bool} {y1P : Policy} (h : lp Tryz.prog cfg RN n 5 148 2 0 q (spec_PolicyOk_S2 x2 x3 y1) = some (if c then (e, spec_PolicyOk_O2 x2O y1O) else (e', spec_PolicyOk_O2 x2P y1P))) : spec_PolicyOk_L2 n q x2 x3 y1 = some (if c then (e, ((), x2O, ()), y1O, ()) else (e', ((), x2P, ()), y1P, ())) := by
  by_cases hc : c
  · rw [if_pos hc] at h ⊢; exact spec_PolicyOk_L2_of h
  · rw [if_neg hc] at h ⊢; exact spec_PolicyOk_L2_of h

@[reducible] def spec_TermSize_S3 (x3 : Int) (x4 : Int) (y1 : Term) : St := ⟨frOf [(1, .c (.bx (.own 1) 0)), (3, .int x3), (4, .int x4)], hpIds [(.own 1, .box ((Term.cells y1).map C.f))]⟩

@[reducible] def spec_TermSize_O3 (x3 : Int) : St := ⟨frOf [(3, .int x3)], hpIds []⟩

noncomputable def spec_TermSize_L3 (n q : Nat) (x3 : Int) (x4 : Int) (y1 : Term) : Option (Ex × (Int × Unit) × Unit) := lpT Tryz.prog cfg RN n 5 149 3 0 q (spec_TermSize_S3 x3 x4 y1)

theorem spec_TermSize_L3_of {n q : Nat} {x3 : Int} {x4 : Int} {y1 : Term} {e : Ex} {x3O : Int} (h : lp Tryz.prog cfg RN n 5 149 3 0 q (spec_TermSize_S3 x3 x4 y1) = some (e, spec_TermSize_O3 x3O)) : spec_TermSize_L3 n q x3 x4 y1 = some (e, (x3O, ()), ()) := by
  unfold spec_TermSize_L3 lpT
  rw [h]
  kernel_rfl

theorem spec_TermSize_L3_if {n q : Nat} {x3 : Int} {x4 : Int} {y1 : Term} {c : Prop} [Decidable c] {e e' : Ex} {x3O : Int} {x3P : Int} (h : lp Tryz.prog cfg RN n 5 149 3 0 q (spec_TermSize_S3 x3 x4 y1) = some (if c then (e, spec_TermSize_O3 x3O) else (e', spec_TermSize_O3 x3P))) : spec_TermSize_L3 n q x3 x4 y1 = some (if c then (e, (x3O, ()), ()) else (e', (x3P, ()), ())) := by
  by_cases hc : c
  · rw [if_pos hc] at h ⊢; exact spec_TermSize_L3_of h
  · rw [if_neg hc] at h ⊢; exact spec_TermSize_L3_of h

@[reducible] def spec_l1Right_S4 (x2 : Bool) (x3 : Int) (y1 : Term) : St := ⟨frOf [(1, .c (.bx (.own 1) 0)), (2, .bool x2), (3, .int x3)], hpIds [(.own 1, .box ((Term.cells y1).map C.f))]⟩

@[reducible] def spec_l1Right_O4 (x2 : Bool) (y1 : Term) : St := ⟨frOf [(1, .c (.bx (.own 1) 0)), (2, .bool x2)], hpIds [(.own 1, .box ((Term.cells y1).map C.f))]⟩

noncomputable def spec_l1Right_L4 (n q : Nat) (x2 : Bool) (x3 : Int) (y1 : Term) : Option (Ex × (Unit × Bool × Unit) × Term × Unit) := lpT Tryz.prog cfg RN n 5 150 4 0 q (spec_l1Right_S4 x2 x3 y1)

theorem spec_l1Right_L4_of {n q : Nat} {x2 : Bool} {x3 : Int} {y1 : Term} {e : Ex} {x2O : Bool} {y1O : Term} (h : lp Tryz.prog cfg RN n 5 150 4 0 q (spec_l1Right_S4 x2 x3 y1) = some (e, spec_l1Right_O4 x2O y1O)) : spec_l1Right_L4 n q x2 x3 y1 = some (e, ((), x2O, ()), y1O, ()) := by
  unfold spec_l1Right_L4 lpT
  rw [h]
  exact Eq.trans (b := some (e, ((), x2O, ()), (⟨y1O.op, y1O.n, y1O.s, y1O.kids⟩ : Term), ())) (by kernel_rfl) (by simp only [Term.eta])

theorem spec_l1Right_L4_if {n q : Nat} {x2 : Bool} {x3 : Int} {y1 : Term} {c : Prop} [Decidable c] {e e' : Ex} {x2O : Bool} {y1O : Term} {x2P : Bool} {y1P : Term} (h : lp Tryz.prog cfg RN n 5 150 4 0 q (spec_l1Right_S4 x2 x3 y1) = some (if c then (e, spec_l1Right_O4 x2O y1O) else (e', spec_l1Right_O4 x2P y1P))) : spec_l1Right_L4 n q x2 x3 y1 = some (if c then (e, ((), x2O, ()), y1O, ()) else (e', ((), x2P, ()), y1P, ())) := by
  by_cases hc : c
  · rw [if_pos hc] at h ⊢; exact spec_l1Right_L4_of h
  · rw [if_neg hc] at h ⊢; exact spec_l1Right_L4_of h

@[reducible] def spec_l6Domain_S2 (x0 : ByteArray) (x2 : Bool) (x3 : Int) : St := ⟨frOf [(0, .str x0), (2, .bool x2), (3, .int x3)], hpIds []⟩

@[reducible] def spec_l6Domain_O2 (x0 : ByteArray) (x2 : Bool) : St := ⟨frOf [(0, .str x0), (2, .bool x2)], hpIds []⟩

noncomputable def spec_l6Domain_L2 (n q : Nat) (x0 : ByteArray) (x2 : Bool) (x3 : Int) : Option (Ex × (ByteArray × Bool × Unit) × Unit) := lpT Tryz.prog cfg RN n 5 151 2 0 q (spec_l6Domain_S2 x0 x2 x3)

theorem spec_l6Domain_L2_of {n q : Nat} {x0 : ByteArray} {x2 : Bool} {x3 : Int} {e : Ex} {x0O : ByteArray} {x2O : Bool} (h : lp Tryz.prog cfg RN n 5 151 2 0 q (spec_l6Domain_S2 x0 x2 x3) = some (e, spec_l6Domain_O2 x0O x2O)) : spec_l6Domain_L2 n q x0 x2 x3 = some (e, (x0O, x2O, ()), ()) := by
  unfold spec_l6Domain_L2 lpT
  rw [h]
  kernel_rfl

theorem spec_l6Domain_L2_if {n q : Nat} {x0 : ByteArray} {x2 : Bool} {x3 : Int} {c : Prop} [Decidable c] {e e' : Ex} {x0O : ByteArray} {x2O : Bool} {x0P : ByteArray} {x2P : Bool} (h : lp Tryz.prog cfg RN n 5 151 2 0 q (spec_l6Domain_S2 x0 x2 x3) = some (if c then (e, spec_l6Domain_O2 x0O x2O) else (e', spec_l6Domain_O2 x0P x2P))) : spec_l6Domain_L2 n q x0 x2 x3 = some (if c then (e, (x0O, x2O, ()), ()) else (e', (x0P, x2P, ()), ())) := by
  by_cases hc : c
  · rw [if_pos hc] at h ⊢; exact spec_l6Domain_L2_of h
  · rw [if_neg hc] at h ⊢; exact spec_l6Domain_L2_of h

@[reducible] def IndexFunc_WorldOk_1_S2 (t0 : Bool) (x0 : List Term) (x4 : Int) (x7 : Int) (x8 : Int) : St := ⟨frOf [(0, .sl t0 .term x0), (1, .c (.fn 76 [])), (4, .int x4), (7, .int x7), (8, .int x8)], hpIds []⟩

@[reducible] def IndexFunc_WorldOk_1_O2 (x4 : Int) : St := ⟨frOf [(4, .int x4)], hpIds []⟩

noncomputable def IndexFunc_WorldOk_1_L2 (n q : Nat) (t0 : Bool) (x0 : List Term) (x4 : Int) (x7 : Int) (x8 : Int) : Option (Ex × (Int × Unit) × Unit) := lpT Tryz.prog cfg RN n 5 159 2 0 q (IndexFunc_WorldOk_1_S2 t0 x0 x4 x7 x8)

theorem IndexFunc_WorldOk_1_L2_of {n q : Nat} {t0 : Bool} {x0 : List Term} {x4 : Int} {x7 : Int} {x8 : Int} {e : Ex} {x4O : Int} (h : lp Tryz.prog cfg RN n 5 159 2 0 q (IndexFunc_WorldOk_1_S2 t0 x0 x4 x7 x8) = some (e, IndexFunc_WorldOk_1_O2 x4O)) : IndexFunc_WorldOk_1_L2 n q t0 x0 x4 x7 x8 = some (e, (x4O, ()), ()) := by
  unfold IndexFunc_WorldOk_1_L2 lpT
  rw [h]
  kernel_rfl

theorem IndexFunc_WorldOk_1_L2_if {n q : Nat} {t0 : Bool} {x0 : List Term} {x4 : Int} {x7 : Int} {x8 : Int} {c : Prop} [Decidable c] {e e' : Ex} {x4O : Int} {x4P : Int} (h : lp Tryz.prog cfg RN n 5 159 2 0 q (IndexFunc_WorldOk_1_S2 t0 x0 x4 x7 x8) = some (if c then (e, IndexFunc_WorldOk_1_O2 x4O) else (e', IndexFunc_WorldOk_1_O2 x4P))) : IndexFunc_WorldOk_1_L2 n q t0 x0 x4 x7 x8 = some (if c then (e, (x4O, ()), ()) else (e', (x4P, ()), ())) := by
  by_cases hc : c
  · rw [if_pos hc] at h ⊢; exact IndexFunc_WorldOk_1_L2_of h
  · rw [if_neg hc] at h ⊢; exact IndexFunc_WorldOk_1_L2_of h

@[reducible] def IndexFunc_formOk_1_S2 (t0 : Bool) (x0 : List Term) (x4 : Int) (x7 : Int) (x8 : Int) : St := ⟨frOf [(0, .sl t0 .term x0), (1, .c (.fn 207 [])), (4, .int x4), (7, .int x7), (8, .int x8)], hpIds []⟩

@[reducible] def IndexFunc_formOk_1_O2 (x4 : Int) : St := ⟨frOf [(4, .int x4)], hpIds []⟩

noncomputable def IndexFunc_formOk_1_L2 (n q : Nat) (t0 : Bool) (x0 : List Term) (x4 : Int) (x7 : Int) (x8 : Int) : Option (Ex × (Int × Unit) × Unit) := lpT Tryz.prog cfg RN n 5 159 2 0 q (IndexFunc_formOk_1_S2 t0 x0 x4 x7 x8)

theorem IndexFunc_formOk_1_L2_of {n q : Nat} {t0 : Bool} {x0 : List Term} {x4 : Int} {x7 : Int} {x8 : Int} {e : Ex} {x4O : Int} (h : lp Tryz.prog cfg RN n 5 159 2 0 q (IndexFunc_formOk_1_S2 t0 x0 x4 x7 x8) = some (e, IndexFunc_formOk_1_O2 x4O)) : IndexFunc_formOk_1_L2 n q t0 x0 x4 x7 x8 = some (e, (x4O, ()), ()) := by
  unfold IndexFunc_formOk_1_L2 lpT
  rw [h]
  kernel_rfl

theorem IndexFunc_formOk_1_L2_if {n q : Nat} {t0 : Bool} {x0 : List Term} {x4 : Int} {x7 : Int} {x8 : Int} {c : Prop} [Decidable c] {e e' : Ex} {x4O : Int} {x4P : Int} (h : lp Tryz.prog cfg RN n 5 159 2 0 q (IndexFunc_formOk_1_S2 t0 x0 x4 x7 x8) = some (if c then (e, IndexFunc_formOk_1_O2 x4O) else (e', IndexFunc_formOk_1_O2 x4P))) : IndexFunc_formOk_1_L2 n q t0 x0 x4 x7 x8 = some (if c then (e, (x4O, ()), ()) else (e', (x4P, ()), ())) := by
  by_cases hc : c
  · rw [if_pos hc] at h ⊢; exact IndexFunc_formOk_1_L2_of h
  · rw [if_neg hc] at h ⊢; exact IndexFunc_formOk_1_L2_of h

@[reducible] def impl_TermSize_S3 (x3 : Int) (t7 : Bool) (x7 : List Term) (x8 : Int) (x9 : Int) : St := ⟨frOf [(3, .int x3), (7, .sl t7 .term x7), (8, .int x8), (9, .int x9)], hpIds []⟩

@[reducible] def impl_TermSize_O3 (x3 : Int) : St := ⟨frOf [(3, .int x3)], hpIds []⟩

noncomputable def impl_TermSize_L3 (n q : Nat) (x3 : Int) (t7 : Bool) (x7 : List Term) (x8 : Int) (x9 : Int) : Option (Ex × (Int × Unit) × Unit) := lpT Tryz.prog cfg RN n 5 160 3 0 q (impl_TermSize_S3 x3 t7 x7 x8 x9)

theorem impl_TermSize_L3_of {n q : Nat} {x3 : Int} {t7 : Bool} {x7 : List Term} {x8 : Int} {x9 : Int} {e : Ex} {x3O : Int} (h : lp Tryz.prog cfg RN n 5 160 3 0 q (impl_TermSize_S3 x3 t7 x7 x8 x9) = some (e, impl_TermSize_O3 x3O)) : impl_TermSize_L3 n q x3 t7 x7 x8 x9 = some (e, (x3O, ()), ()) := by
  unfold impl_TermSize_L3 lpT
  rw [h]
  kernel_rfl

theorem impl_TermSize_L3_if {n q : Nat} {x3 : Int} {t7 : Bool} {x7 : List Term} {x8 : Int} {x9 : Int} {c : Prop} [Decidable c] {e e' : Ex} {x3O : Int} {x3P : Int} (h : lp Tryz.prog cfg RN n 5 160 3 0 q (impl_TermSize_S3 x3 t7 x7 x8 x9) = some (if c then (e, impl_TermSize_O3 x3O) else (e', impl_TermSize_O3 x3P))) : impl_TermSize_L3 n q x3 t7 x7 x8 x9 = some (if c then (e, (x3O, ()), ()) else (e', (x3P, ()), ())) := by
  by_cases hc : c
  · rw [if_pos hc] at h ⊢; exact impl_TermSize_L3_of h
  · rw [if_neg hc] at h ⊢; exact impl_TermSize_L3_of h

@[reducible] def IndexFunc_WorldOk_2_S2 (t0 : Bool) (x0 : List Letter) (x4 : Int) (x7 : Int) (x8 : Int) : St := ⟨frOf [(0, .sl t0 .letter x0), (1, .c (.fn 81 [])), (4, .int x4), (7, .int x7), (8, .int x8)], hpIds []⟩

@[reducible] def IndexFunc_WorldOk_2_O2 (x4 : Int) : St := ⟨frOf [(4, .int x4)], hpIds []⟩

noncomputable def IndexFunc_WorldOk_2_L2 (n q : Nat) (t0 : Bool) (x0 : List Letter) (x4 : Int) (x7 : Int) (x8 : Int) : Option (Ex × (Int × Unit) × Unit) := lpT Tryz.prog cfg RN n 5 165 2 0 q (IndexFunc_WorldOk_2_S2 t0 x0 x4 x7 x8)

theorem IndexFunc_WorldOk_2_L2_of {n q : Nat} {t0 : Bool} {x0 : List Letter} {x4 : Int} {x7 : Int} {x8 : Int} {e : Ex} {x4O : Int} (h : lp Tryz.prog cfg RN n 5 165 2 0 q (IndexFunc_WorldOk_2_S2 t0 x0 x4 x7 x8) = some (e, IndexFunc_WorldOk_2_O2 x4O)) : IndexFunc_WorldOk_2_L2 n q t0 x0 x4 x7 x8 = some (e, (x4O, ()), ()) := by
  unfold IndexFunc_WorldOk_2_L2 lpT
  rw [h]
  kernel_rfl

theorem IndexFunc_WorldOk_2_L2_if {n q : Nat} {t0 : Bool} {x0 : List Letter} {x4 : Int} {x7 : Int} {x8 : Int} {c : Prop} [Decidable c] {e e' : Ex} {x4O : Int} {x4P : Int} (h : lp Tryz.prog cfg RN n 5 165 2 0 q (IndexFunc_WorldOk_2_S2 t0 x0 x4 x7 x8) = some (if c then (e, IndexFunc_WorldOk_2_O2 x4O) else (e', IndexFunc_WorldOk_2_O2 x4P))) : IndexFunc_WorldOk_2_L2 n q t0 x0 x4 x7 x8 = some (if c then (e, (x4O, ()), ()) else (e', (x4P, ()), ())) := by
  by_cases hc : c
  · rw [if_pos hc] at h ⊢; exact IndexFunc_WorldOk_2_L2_of h
  · rw [if_neg hc] at h ⊢; exact IndexFunc_WorldOk_2_L2_of h

@[reducible] def impl_domainOk_S2 (x0 : ByteArray) (x2 : Bool) (x5 : Int) (x6 : Int) : St := ⟨frOf [(0, .str x0), (2, .bool x2), (5, .int x5), (6, .int x6)], hpIds []⟩

@[reducible] def impl_domainOk_O2 (x0 : ByteArray) (x2 : Bool) : St := ⟨frOf [(0, .str x0), (2, .bool x2)], hpIds []⟩

noncomputable def impl_domainOk_L2 (n q : Nat) (x0 : ByteArray) (x2 : Bool) (x5 : Int) (x6 : Int) : Option (Ex × (ByteArray × Bool × Unit) × Unit) := lpT Tryz.prog cfg RN n 5 166 2 0 q (impl_domainOk_S2 x0 x2 x5 x6)

theorem impl_domainOk_L2_of {n q : Nat} {x0 : ByteArray} {x2 : Bool} {x5 : Int} {x6 : Int} {e : Ex} {x0O : ByteArray} {x2O : Bool} (h : lp Tryz.prog cfg RN n 5 166 2 0 q (impl_domainOk_S2 x0 x2 x5 x6) = some (e, impl_domainOk_O2 x0O x2O)) : impl_domainOk_L2 n q x0 x2 x5 x6 = some (e, (x0O, x2O, ()), ()) := by
  unfold impl_domainOk_L2 lpT
  rw [h]
  kernel_rfl

theorem impl_domainOk_L2_if {n q : Nat} {x0 : ByteArray} {x2 : Bool} {x5 : Int} {x6 : Int} {c : Prop} [Decidable c] {e e' : Ex} {x0O : ByteArray} {x2O : Bool} {x0P : ByteArray} {x2P : Bool} (h : lp Tryz.prog cfg RN n 5 166 2 0 q (impl_domainOk_S2 x0 x2 x5 x6) = some (if c then (e, impl_domainOk_O2 x0O x2O) else (e', impl_domainOk_O2 x0P x2P))) : impl_domainOk_L2 n q x0 x2 x5 x6 = some (if c then (e, (x0O, x2O, ()), ()) else (e', (x0P, x2P, ()), ())) := by
  by_cases hc : c
  · rw [if_pos hc] at h ⊢; exact impl_domainOk_L2_of h
  · rw [if_neg hc] at h ⊢; exact impl_domainOk_L2_of h

@[reducible] def spec_l5Labels_S3 (x0 : ByteArray) (x1 : Int) (x4 : Bool) (t5 : Bool) (x5 : List ByteArray) (x6 : Int) : St := ⟨frOf [(0, .str x0), (1, .int x1), (4, .bool x4), (5, .sl t5 .str x5), (6, .int x6)], hpIds []⟩

@[reducible] def spec_l5Labels_O3 (x0 : ByteArray) (x1 : Int) (x4 : Bool) (t5 : Bool) (x5 : List ByteArray) : St := ⟨frOf [(0, .str x0), (1, .int x1), (4, .bool x4), (5, .sl t5 .str x5)], hpIds []⟩

noncomputable def spec_l5Labels_L3 (n q : Nat) (x0 : ByteArray) (x1 : Int) (x4 : Bool) (t5 : Bool) (x5 : List ByteArray) (x6 : Int) : Option (Ex × (ByteArray × Int × Bool × List ByteArray × Unit) × Unit) := lpT Tryz.prog cfg RN n 5 193 3 0 q (spec_l5Labels_S3 x0 x1 x4 t5 x5 x6)

theorem spec_l5Labels_L3_of {n q : Nat} {x0 : ByteArray} {x1 : Int} {x4 : Bool} {t5 : Bool} {x5 : List ByteArray} {x6 : Int} {e : Ex} {x0O : ByteArray} {x1O : Int} {x4O : Bool} {t5O : Bool} {x5O : List ByteArray} (h : lp Tryz.prog cfg RN n 5 193 3 0 q (spec_l5Labels_S3 x0 x1 x4 t5 x5 x6) = some (e, spec_l5Labels_O3 x0O x1O x4O t5O x5O)) : spec_l5Labels_L3 n q x0 x1 x4 t5 x5 x6 = some (e, (x0O, x1O, x4O, x5O, ()), ()) := by
  unfold spec_l5Labels_L3 lpT
  rw [h]
  kernel_rfl

theorem spec_l5Labels_L3_if {n q : Nat} {x0 : ByteArray} {x1 : Int} {x4 : Bool} {t5 : Bool} {x5 : List ByteArray} {x6 : Int} {c : Prop} [Decidable c] {e e' : Ex} {x0O : ByteArray} {x1O : Int} {x4O : Bool} {t5O : Bool} {x5O : List ByteArray} {x0P : ByteArray} {x1P : Int} {x4P : Bool} {t5P : Bool} {x5P : List ByteArray} (h : lp Tryz.prog cfg RN n 5 193 3 0 q (spec_l5Labels_S3 x0 x1 x4 t5 x5 x6) = some (if c then (e, spec_l5Labels_O3 x0O x1O x4O t5O x5O) else (e', spec_l5Labels_O3 x0P x1P x4P t5P x5P))) : spec_l5Labels_L3 n q x0 x1 x4 t5 x5 x6 = some (if c then (e, (x0O, x1O, x4O, x5O, ()), ()) else (e', (x0P, x1P, x4P, x5P, ()), ())) := by
  by_cases hc : c
  · rw [if_pos hc] at h ⊢; exact spec_l5Labels_L3_of h
  · rw [if_neg hc] at h ⊢; exact spec_l5Labels_L3_of h

@[reducible] def IndexFunc_ServerOk_1_S2 (t0 : Bool) (x0 : List Int) (x4 : Int) (x7 : Int) (x8 : Int) : St := ⟨frOf [(0, .sl t0 .int x0), (1, .c (.fn 141 [])), (4, .int x4), (7, .int x7), (8, .int x8)], hpIds []⟩

@[reducible] def IndexFunc_ServerOk_1_O2 (x4 : Int) : St := ⟨frOf [(4, .int x4)], hpIds []⟩

noncomputable def IndexFunc_ServerOk_1_L2 (n q : Nat) (t0 : Bool) (x0 : List Int) (x4 : Int) (x7 : Int) (x8 : Int) : Option (Ex × (Int × Unit) × Unit) := lpT Tryz.prog cfg RN n 5 198 2 0 q (IndexFunc_ServerOk_1_S2 t0 x0 x4 x7 x8)

theorem IndexFunc_ServerOk_1_L2_of {n q : Nat} {t0 : Bool} {x0 : List Int} {x4 : Int} {x7 : Int} {x8 : Int} {e : Ex} {x4O : Int} (h : lp Tryz.prog cfg RN n 5 198 2 0 q (IndexFunc_ServerOk_1_S2 t0 x0 x4 x7 x8) = some (e, IndexFunc_ServerOk_1_O2 x4O)) : IndexFunc_ServerOk_1_L2 n q t0 x0 x4 x7 x8 = some (e, (x4O, ()), ()) := by
  unfold IndexFunc_ServerOk_1_L2 lpT
  rw [h]
  kernel_rfl

theorem IndexFunc_ServerOk_1_L2_if {n q : Nat} {t0 : Bool} {x0 : List Int} {x4 : Int} {x7 : Int} {x8 : Int} {c : Prop} [Decidable c] {e e' : Ex} {x4O : Int} {x4P : Int} (h : lp Tryz.prog cfg RN n 5 198 2 0 q (IndexFunc_ServerOk_1_S2 t0 x0 x4 x7 x8) = some (if c then (e, IndexFunc_ServerOk_1_O2 x4O) else (e', IndexFunc_ServerOk_1_O2 x4P))) : IndexFunc_ServerOk_1_L2 n q t0 x0 x4 x7 x8 = some (if c then (e, (x4O, ()), ()) else (e', (x4P, ()), ())) := by
  by_cases hc : c
  · rw [if_pos hc] at h ⊢; exact IndexFunc_ServerOk_1_L2_of h
  · rw [if_neg hc] at h ⊢; exact IndexFunc_ServerOk_1_L2_of h

@[reducible] def spec_Before_S10 (x4 : Bool) (x5 : Int) (y2 : Term) (y3 : Term) : St := ⟨frOf [(2, .c (.bx (.own 2) 0)), (3, .c (.bx (.own 3) 0)), (4, .bool x4), (5, .int x5)], hpIds [(.own 2, .box ((Term.cells y2).map C.f)), (.own 3, .box ((Term.cells y3).map C.f))]⟩

@[reducible] def spec_Before_O10 (x4 : Bool) : St := ⟨frOf [(4, .bool x4)], hpIds []⟩

noncomputable def spec_Before_L10 (n q : Nat) (x4 : Bool) (x5 : Int) (y2 : Term) (y3 : Term) : Option (Ex × (Bool × Unit) × Unit) := lpT Tryz.prog cfg RN n 5 203 10 0 q (spec_Before_S10 x4 x5 y2 y3)

theorem spec_Before_L10_of {n q : Nat} {x4 : Bool} {x5 : Int} {y2 : Term} {y3 : Term} {e : Ex} {x4O : Bool} (h : lp Tryz.prog cfg RN n 5 203 10 0 q (spec_Before_S10 x4 x5 y2 y3) = some (e, spec_Before_O10 x4O)) : spec_Before_L10 n q x4 x5 y2 y3 = some (e, (x4O, ()), ()) := by
  unfold spec_Before_L10 lpT
  rw [h]
  kernel_rfl

theorem spec_Before_L10_if {n q : Nat} {x4 : Bool} {x5 : Int} {y2 : Term} {y3 : Term} {c : Prop} [Decidable c] {e e' : Ex} {x4O : Bool} {x4P : Bool} (h : lp Tryz.prog cfg RN n 5 203 10 0 q (spec_Before_S10 x4 x5 y2 y3) = some (if c then (e, spec_Before_O10 x4O) else (e', spec_Before_O10 x4P))) : spec_Before_L10 n q x4 x5 y2 y3 = some (if c then (e, (x4O, ()), ()) else (e', (x4P, ()), ())) := by
  by_cases hc : c
  · rw [if_pos hc] at h ⊢; exact spec_Before_L10_of h
  · rw [if_neg hc] at h ⊢; exact spec_Before_L10_of h

@[reducible] def impl_Before_S10 (x4 : Bool) (t56 : Bool) (x56 : List Term) (x57 : Int) (x58 : Int) (y3 : Term) : St := ⟨frOf [(3, .c (.bx (.own 3) 0)), (4, .bool x4), (56, .sl t56 .term x56), (57, .int x57), (58, .int x58)], hpIds [(.own 3, .box ((Term.cells y3).map C.f))]⟩

@[reducible] def impl_Before_O10 (x4 : Bool) : St := ⟨frOf [(4, .bool x4)], hpIds []⟩

noncomputable def impl_Before_L10 (n q : Nat) (x4 : Bool) (t56 : Bool) (x56 : List Term) (x57 : Int) (x58 : Int) (y3 : Term) : Option (Ex × (Bool × Unit) × Unit) := lpT Tryz.prog cfg RN n 5 208 10 0 q (impl_Before_S10 x4 t56 x56 x57 x58 y3)

theorem impl_Before_L10_of {n q : Nat} {x4 : Bool} {t56 : Bool} {x56 : List Term} {x57 : Int} {x58 : Int} {y3 : Term} {e : Ex} {x4O : Bool} (h : lp Tryz.prog cfg RN n 5 208 10 0 q (impl_Before_S10 x4 t56 x56 x57 x58 y3) = some (e, impl_Before_O10 x4O)) : impl_Before_L10 n q x4 t56 x56 x57 x58 y3 = some (e, (x4O, ()), ()) := by
  unfold impl_Before_L10 lpT
  rw [h]
  kernel_rfl

theorem impl_Before_L10_if {n q : Nat} {x4 : Bool} {t56 : Bool} {x56 : List Term} {x57 : Int} {x58 : Int} {y3 : Term} {c : Prop} [Decidable c] {e e' : Ex} {x4O : Bool} {x4P : Bool} (h : lp Tryz.prog cfg RN n 5 208 10 0 q (impl_Before_S10 x4 t56 x56 x57 x58 y3) = some (if c then (e, impl_Before_O10 x4O) else (e', impl_Before_O10 x4P))) : impl_Before_L10 n q x4 t56 x56 x57 x58 y3 = some (if c then (e, (x4O, ()), ()) else (e', (x4P, ()), ())) := by
  by_cases hc : c
  · rw [if_pos hc] at h ⊢; exact impl_Before_L10_of h
  · rw [if_neg hc] at h ⊢; exact impl_Before_L10_of h

@[reducible] def IndexFunc_hostsOk_1_S2 (t0 : Bool) (x0 : List Host) (c0 : Host) (x4 : Int) (x7 : Int) (x8 : Int) : St := ⟨frOf [(0, .sl t0 .host x0), (1, .c (.fn 164 [.f (.ep .host c0 0)])), (4, .int x4), (7, .int x7), (8, .int x8)], hpIds []⟩

@[reducible] def IndexFunc_hostsOk_1_O2 (x4 : Int) : St := ⟨frOf [(4, .int x4)], hpIds []⟩

noncomputable def IndexFunc_hostsOk_1_L2 (n q : Nat) (t0 : Bool) (x0 : List Host) (c0 : Host) (x4 : Int) (x7 : Int) (x8 : Int) : Option (Ex × (Int × Unit) × Unit) := lpT Tryz.prog cfg RN n 5 212 2 0 q (IndexFunc_hostsOk_1_S2 t0 x0 c0 x4 x7 x8)

theorem IndexFunc_hostsOk_1_L2_of {n q : Nat} {t0 : Bool} {x0 : List Host} {c0 : Host} {x4 : Int} {x7 : Int} {x8 : Int} {e : Ex} {x4O : Int} (h : lp Tryz.prog cfg RN n 5 212 2 0 q (IndexFunc_hostsOk_1_S2 t0 x0 c0 x4 x7 x8) = some (e, IndexFunc_hostsOk_1_O2 x4O)) : IndexFunc_hostsOk_1_L2 n q t0 x0 c0 x4 x7 x8 = some (e, (x4O, ()), ()) := by
  unfold IndexFunc_hostsOk_1_L2 lpT
  rw [h]
  kernel_rfl

theorem IndexFunc_hostsOk_1_L2_if {n q : Nat} {t0 : Bool} {x0 : List Host} {c0 : Host} {x4 : Int} {x7 : Int} {x8 : Int} {c : Prop} [Decidable c] {e e' : Ex} {x4O : Int} {x4P : Int} (h : lp Tryz.prog cfg RN n 5 212 2 0 q (IndexFunc_hostsOk_1_S2 t0 x0 c0 x4 x7 x8) = some (if c then (e, IndexFunc_hostsOk_1_O2 x4O) else (e', IndexFunc_hostsOk_1_O2 x4P))) : IndexFunc_hostsOk_1_L2 n q t0 x0 c0 x4 x7 x8 = some (if c then (e, (x4O, ()), ()) else (e', (x4P, ()), ())) := by
  by_cases hc : c
  · rw [if_pos hc] at h ⊢; exact IndexFunc_hostsOk_1_L2_of h
  · rw [if_neg hc] at h ⊢; exact IndexFunc_hostsOk_1_L2_of h

@[reducible] def spec_Labels_S4 (x0 : ByteArray) (x3 : List ByteArray) (x4 : Int) (x5 : Int) : St := ⟨frOf [(0, .str x0), (3, .c (.row (.own 3) .str)), (4, .int x4), (5, .int x5)], hpIds [(.own 3, .row true .str x3)]⟩

@[reducible] def spec_Labels_O4 (x3 : List ByteArray) : St := ⟨frOf [(3, .c (.row (.own 3) .str))], hpIds [(.own 3, .row true .str x3)]⟩

noncomputable def spec_Labels_L4 (n q : Nat) (x0 : ByteArray) (x3 : List ByteArray) (x4 : Int) (x5 : Int) : Option (Ex × (Unit × Unit) × List ByteArray × Unit) := lpT Tryz.prog cfg RN n 5 228 4 0 q (spec_Labels_S4 x0 x3 x4 x5)

theorem spec_Labels_L4_of {n q : Nat} {x0 : ByteArray} {x3 : List ByteArray} {x4 : Int} {x5 : Int} {e : Ex} {x3O : List ByteArray} (h : lp Tryz.prog cfg RN n 5 228 4 0 q (spec_Labels_S4 x0 x3 x4 x5) = some (e, spec_Labels_O4 x3O)) : spec_Labels_L4 n q x0 x3 x4 x5 = some (e, ((), ()), x3O, ()) := by
  unfold spec_Labels_L4 lpT
  rw [h]
  kernel_rfl

theorem spec_Labels_L4_if {n q : Nat} {x0 : ByteArray} {x3 : List ByteArray} {x4 : Int} {x5 : Int} {c : Prop} [Decidable c] {e e' : Ex} {x3O : List ByteArray} {x3P : List ByteArray} (h : lp Tryz.prog cfg RN n 5 228 4 0 q (spec_Labels_S4 x0 x3 x4 x5) = some (if c then (e, spec_Labels_O4 x3O) else (e', spec_Labels_O4 x3P))) : spec_Labels_L4 n q x0 x3 x4 x5 = some (if c then (e, ((), ()), x3O, ()) else (e', ((), ()), x3P, ())) := by
  by_cases hc : c
  · rw [if_pos hc] at h ⊢; exact spec_Labels_L4_of h
  · rw [if_neg hc] at h ⊢; exact spec_Labels_L4_of h

@[reducible] def spec_l5Label_S2 (x0 : ByteArray) (x2 : Bool) (x3 : Int) : St := ⟨frOf [(0, .str x0), (2, .bool x2), (3, .int x3)], hpIds []⟩

@[reducible] def spec_l5Label_O2 (x0 : ByteArray) (x2 : Bool) : St := ⟨frOf [(0, .str x0), (2, .bool x2)], hpIds []⟩

noncomputable def spec_l5Label_L2 (n q : Nat) (x0 : ByteArray) (x2 : Bool) (x3 : Int) : Option (Ex × (ByteArray × Bool × Unit) × Unit) := lpT Tryz.prog cfg RN n 5 229 2 0 q (spec_l5Label_S2 x0 x2 x3)

theorem spec_l5Label_L2_of {n q : Nat} {x0 : ByteArray} {x2 : Bool} {x3 : Int} {e : Ex} {x0O : ByteArray} {x2O : Bool} (h : lp Tryz.prog cfg RN n 5 229 2 0 q (spec_l5Label_S2 x0 x2 x3) = some (e, spec_l5Label_O2 x0O x2O)) : spec_l5Label_L2 n q x0 x2 x3 = some (e, (x0O, x2O, ()), ()) := by
  unfold spec_l5Label_L2 lpT
  rw [h]
  kernel_rfl

theorem spec_l5Label_L2_if {n q : Nat} {x0 : ByteArray} {x2 : Bool} {x3 : Int} {c : Prop} [Decidable c] {e e' : Ex} {x0O : ByteArray} {x2O : Bool} {x0P : ByteArray} {x2P : Bool} (h : lp Tryz.prog cfg RN n 5 229 2 0 q (spec_l5Label_S2 x0 x2 x3) = some (if c then (e, spec_l5Label_O2 x0O x2O) else (e', spec_l5Label_O2 x0P x2P))) : spec_l5Label_L2 n q x0 x2 x3 = some (if c then (e, (x0O, x2O, ()), ()) else (e', (x0P, x2P, ()), ())) := by
  by_cases hc : c
  · rw [if_pos hc] at h ⊢; exact spec_l5Label_L2_of h
  · rw [if_neg hc] at h ⊢; exact spec_l5Label_L2_of h

@[reducible] def impl_labelOk_S2 (x0 : ByteArray) (x2 : Bool) (x6 : Int) (x7 : Int) : St := ⟨frOf [(0, .str x0), (2, .bool x2), (6, .int x6), (7, .int x7)], hpIds []⟩

@[reducible] def impl_labelOk_O2 (x0 : ByteArray) (x2 : Bool) : St := ⟨frOf [(0, .str x0), (2, .bool x2)], hpIds []⟩

noncomputable def impl_labelOk_L2 (n q : Nat) (x0 : ByteArray) (x2 : Bool) (x6 : Int) (x7 : Int) : Option (Ex × (ByteArray × Bool × Unit) × Unit) := lpT Tryz.prog cfg RN n 5 234 2 0 q (impl_labelOk_S2 x0 x2 x6 x7)

theorem impl_labelOk_L2_of {n q : Nat} {x0 : ByteArray} {x2 : Bool} {x6 : Int} {x7 : Int} {e : Ex} {x0O : ByteArray} {x2O : Bool} (h : lp Tryz.prog cfg RN n 5 234 2 0 q (impl_labelOk_S2 x0 x2 x6 x7) = some (e, impl_labelOk_O2 x0O x2O)) : impl_labelOk_L2 n q x0 x2 x6 x7 = some (e, (x0O, x2O, ()), ()) := by
  unfold impl_labelOk_L2 lpT
  rw [h]
  kernel_rfl

theorem impl_labelOk_L2_if {n q : Nat} {x0 : ByteArray} {x2 : Bool} {x6 : Int} {x7 : Int} {c : Prop} [Decidable c] {e e' : Ex} {x0O : ByteArray} {x2O : Bool} {x0P : ByteArray} {x2P : Bool} (h : lp Tryz.prog cfg RN n 5 234 2 0 q (impl_labelOk_S2 x0 x2 x6 x7) = some (if c then (e, impl_labelOk_O2 x0O x2O) else (e', impl_labelOk_O2 x0P x2P))) : impl_labelOk_L2 n q x0 x2 x6 x7 = some (if c then (e, (x0O, x2O, ()), ()) else (e', (x0P, x2P, ()), ())) := by
  by_cases hc : c
  · rw [if_pos hc] at h ⊢; exact impl_labelOk_L2_of h
  · rw [if_neg hc] at h ⊢; exact impl_labelOk_L2_of h

@[reducible] def EqualFunc_Same_S4 (t1 : Bool) (x1 : List Term) (x6 : Bool) (t15 : Bool) (x15 : List Term) (x16 : Int) (x17 : Int) : St := ⟨frOf [(1, .sl t1 .term x1), (2, .c (.fn 197 [])), (6, .bool x6), (15, .sl t15 .term x15), (16, .int x16), (17, .int x17)], hpIds []⟩

@[reducible] def EqualFunc_Same_O4 (x6 : Bool) : St := ⟨frOf [(6, .bool x6)], hpIds []⟩

noncomputable def EqualFunc_Same_L4 (n q : Nat) (t1 : Bool) (x1 : List Term) (x6 : Bool) (t15 : Bool) (x15 : List Term) (x16 : Int) (x17 : Int) : Option (Ex × (Bool × Unit) × Unit) := lpT Tryz.prog cfg RN n 5 235 4 0 q (EqualFunc_Same_S4 t1 x1 x6 t15 x15 x16 x17)

theorem EqualFunc_Same_L4_of {n q : Nat} {t1 : Bool} {x1 : List Term} {x6 : Bool} {t15 : Bool} {x15 : List Term} {x16 : Int} {x17 : Int} {e : Ex} {x6O : Bool} (h : lp Tryz.prog cfg RN n 5 235 4 0 q (EqualFunc_Same_S4 t1 x1 x6 t15 x15 x16 x17) = some (e, EqualFunc_Same_O4 x6O)) : EqualFunc_Same_L4 n q t1 x1 x6 t15 x15 x16 x17 = some (e, (x6O, ()), ()) := by
  unfold EqualFunc_Same_L4 lpT
  rw [h]
  kernel_rfl

theorem EqualFunc_Same_L4_if {n q : Nat} {t1 : Bool} {x1 : List Term} {x6 : Bool} {t15 : Bool} {x15 : List Term} {x16 : Int} {x17 : Int} {c : Prop} [Decidable c] {e e' : Ex} {x6O : Bool} {x6P : Bool} (h : lp Tryz.prog cfg RN n 5 235 4 0 q (EqualFunc_Same_S4 t1 x1 x6 t15 x15 x16 x17) = some (if c then (e, EqualFunc_Same_O4 x6O) else (e', EqualFunc_Same_O4 x6P))) : EqualFunc_Same_L4 n q t1 x1 x6 t15 x15 x16 x17 = some (if c then (e, (x6O, ()), ()) else (e', (x6P, ()), ())) := by
  by_cases hc : c
  · rw [if_pos hc] at h ⊢; exact EqualFunc_Same_L4_of h
  · rw [if_neg hc] at h ⊢; exact EqualFunc_Same_L4_of h

@[reducible] def IndexFunc_PolicyOk_1_S2 (t0 : Bool) (x0 : List ByteArray) (x4 : Int) (x7 : Int) (x8 : Int) : St := ⟨frOf [(0, .sl t0 .str x0), (1, .c (.fn 210 [])), (4, .int x4), (7, .int x7), (8, .int x8)], hpIds []⟩

@[reducible] def IndexFunc_PolicyOk_1_O2 (x4 : Int) : St := ⟨frOf [(4, .int x4)], hpIds []⟩

noncomputable def IndexFunc_PolicyOk_1_L2 (n q : Nat) (t0 : Bool) (x0 : List ByteArray) (x4 : Int) (x7 : Int) (x8 : Int) : Option (Ex × (Int × Unit) × Unit) := lpT Tryz.prog cfg RN n 5 237 2 0 q (IndexFunc_PolicyOk_1_S2 t0 x0 x4 x7 x8)

theorem IndexFunc_PolicyOk_1_L2_of {n q : Nat} {t0 : Bool} {x0 : List ByteArray} {x4 : Int} {x7 : Int} {x8 : Int} {e : Ex} {x4O : Int} (h : lp Tryz.prog cfg RN n 5 237 2 0 q (IndexFunc_PolicyOk_1_S2 t0 x0 x4 x7 x8) = some (e, IndexFunc_PolicyOk_1_O2 x4O)) : IndexFunc_PolicyOk_1_L2 n q t0 x0 x4 x7 x8 = some (e, (x4O, ()), ()) := by
  unfold IndexFunc_PolicyOk_1_L2 lpT
  rw [h]
  kernel_rfl

theorem IndexFunc_PolicyOk_1_L2_if {n q : Nat} {t0 : Bool} {x0 : List ByteArray} {x4 : Int} {x7 : Int} {x8 : Int} {c : Prop} [Decidable c] {e e' : Ex} {x4O : Int} {x4P : Int} (h : lp Tryz.prog cfg RN n 5 237 2 0 q (IndexFunc_PolicyOk_1_S2 t0 x0 x4 x7 x8) = some (if c then (e, IndexFunc_PolicyOk_1_O2 x4O) else (e', IndexFunc_PolicyOk_1_O2 x4P))) : IndexFunc_PolicyOk_1_L2 n q t0 x0 x4 x7 x8 = some (if c then (e, (x4O, ()), ()) else (e', (x4P, ()), ())) := by
  by_cases hc : c
  · rw [if_pos hc] at h ⊢; exact IndexFunc_PolicyOk_1_L2_of h
  · rw [if_neg hc] at h ⊢; exact IndexFunc_PolicyOk_1_L2_of h

@[reducible] def IndexFunc_labelsOk_1_S2 (t0 : Bool) (x0 : List ByteArray) (x4 : Int) (x7 : Int) (x8 : Int) : St := ⟨frOf [(0, .sl t0 .str x0), (1, .c (.fn 233 [])), (4, .int x4), (7, .int x7), (8, .int x8)], hpIds []⟩

@[reducible] def IndexFunc_labelsOk_1_O2 (x4 : Int) : St := ⟨frOf [(4, .int x4)], hpIds []⟩

noncomputable def IndexFunc_labelsOk_1_L2 (n q : Nat) (t0 : Bool) (x0 : List ByteArray) (x4 : Int) (x7 : Int) (x8 : Int) : Option (Ex × (Int × Unit) × Unit) := lpT Tryz.prog cfg RN n 5 237 2 0 q (IndexFunc_labelsOk_1_S2 t0 x0 x4 x7 x8)

theorem IndexFunc_labelsOk_1_L2_of {n q : Nat} {t0 : Bool} {x0 : List ByteArray} {x4 : Int} {x7 : Int} {x8 : Int} {e : Ex} {x4O : Int} (h : lp Tryz.prog cfg RN n 5 237 2 0 q (IndexFunc_labelsOk_1_S2 t0 x0 x4 x7 x8) = some (e, IndexFunc_labelsOk_1_O2 x4O)) : IndexFunc_labelsOk_1_L2 n q t0 x0 x4 x7 x8 = some (e, (x4O, ()), ()) := by
  unfold IndexFunc_labelsOk_1_L2 lpT
  rw [h]
  kernel_rfl

theorem IndexFunc_labelsOk_1_L2_if {n q : Nat} {t0 : Bool} {x0 : List ByteArray} {x4 : Int} {x7 : Int} {x8 : Int} {c : Prop} [Decidable c] {e e' : Ex} {x4O : Int} {x4P : Int} (h : lp Tryz.prog cfg RN n 5 237 2 0 q (IndexFunc_labelsOk_1_S2 t0 x0 x4 x7 x8) = some (if c then (e, IndexFunc_labelsOk_1_O2 x4O) else (e', IndexFunc_labelsOk_1_O2 x4P))) : IndexFunc_labelsOk_1_L2 n q t0 x0 x4 x7 x8 = some (if c then (e, (x4O, ()), ()) else (e', (x4P, ()), ())) := by
  by_cases hc : c
  · rw [if_pos hc] at h ⊢; exact IndexFunc_labelsOk_1_L2_of h
  · rw [if_neg hc] at h ⊢; exact IndexFunc_labelsOk_1_L2_of h

noncomputable def laws_FnExactWorldOk_R (n : Nat) (a0 : WorldD) : Option (V × List Vm.Obj × List Vm.Obj) := qb (laws_szWorld_T a0 1048576) fun x => br (decide (x < 0)) (some (V.c (C.f (F.sc (Value.bool true))), [], [])) (qb (laws_toWorld_T a0) fun x => qb (spec_WorldOk_T x) fun x => qb (laws_toWorld_T a0) fun x_1 => qb (impl_WorldOk_T x_1) fun x_2 => br (!x_2 == x) (some (V.c (C.f (F.sc (Value.bool false))), [], [])) (qb (laws_toWorld_T a0) fun x => qb (laws_eqWorld_T x_1 x) fun x => br (!x) (some (V.c (C.f (F.sc (Value.bool false))), [], [])) (some (V.c (C.f (F.sc (Value.bool true))), [], []))))

theorem laws_FnExactWorldOk_res (n : Nat) (a0 : WorldD) : resid Tryz.prog cfg RN n 4 [.ag (WorldD.cells a0)] [] = laws_FnExactWorldOk_R n a0 := by kernel_rfl

noncomputable def laws_eqServer_R (n : Nat) (a0 : Server) (a1 : Server) : Option Bool := br (a0.step != a1.step) (some false) (br (!a0.host.toList == a1.host.toList) (some false) (br (a0.key != a1.key) (some false) (br (a0.eph != a1.eph) (some false) (qb (laws_eqTerm_T a0.cert a1.cert) fun x => br (!x) (some false) (qb (laws_eqTerm_T a0.share a1.share) fun x => br (!x) (some false) (br (a0.inn != a1.inn) (some false) (br (a0.out != a1.out) (some false) (br (!a0.tls == a1.tls) (some false) (qb (laws_eqIntS_T a0.got a1.got) fun x => br (!x) (some false) (some true))))))))))

theorem laws_eqServer_res (n : Nat) (a0 : Server) (a1 : Server) : residT Tryz.prog cfg RN n 13 [.ag (Server.cells a0), .ag (Server.cells a1)] (.bool) = laws_eqServer_R n a0 a1 := by kernel_rfl

theorem laws_eqServer_of (n : Nat) (a0 : Server) (a1 : Server) {y} (h : laws_eqServer_R n a0 a1 = some y) : laws_eqServer_T a0 a1 = some y := presT_of (((laws_eqServer_res n a0 a1)).trans h)

noncomputable def laws_szWorld_R (n : Nat) (a0 : WorldD) (a1 : Int) : Option Int := qb (laws_szTermS_T a0.known a1) fun x => br (decide (x < 0)) (some (-1)) (qb (laws_szPolicyS_T a0.cache x) fun x => br (decide (x < 0)) (some (-1)) (qb (laws_szHostS_T a0.hosts x) fun x => br (decide (x < 0)) (some (-1)) (qb (laws_szLetterS_T a0.letters x) fun x => br (decide (x < 0)) (some (-1)) (br (decide (IntKind.i64.wrap (x - (↑a0.book.size : Int)) < 0)) (some (-1)) (qb (laws_szCallS_T a0.calls (IntKind.i64.wrap (x - (↑a0.book.size : Int)))) fun x => br (decide (x < 0)) (some (-1)) (qb (laws_szTalkS_T a0.talks x) fun x => br (decide (x < 0)) (some (-1)) (qb (laws_szIntS_T a0.told x) fun x => br (decide (x < 0)) (some (-1)) (some x))))))))

theorem laws_szWorld_res (n : Nat) (a0 : WorldD) (a1 : Int) : residT Tryz.prog cfg RN n 16 [.ag (WorldD.cells a0), .int a1] (.int) = laws_szWorld_R n a0 a1 := by kernel_rfl

theorem laws_szWorld_of (n : Nat) (a0 : WorldD) (a1 : Int) {y} (h : laws_szWorld_R n a0 a1 = some y) : laws_szWorld_T a0 a1 = some y := presT_of (((laws_szWorld_res n a0 a1)).trans h)

noncomputable def spec_WorldOk_R (n : Nat) (a0 : WorldD) : Option Bool := qb (spec_l1In_T a0.time 0 100000) fun x => br (!x) (some false) (qb (spec_l1In_T a0.fresh 1000 999990) fun x => br (!x) (some false) (br (decide ((↑a0.known.length : Int) > 300)) (some false) (qb (spec_CacheOk_T a0.cache) fun x => br (!x) (some false) (qb (spec_l13Hosts_T a0.hosts) fun x => br (!x) (some false) (br (decide ((↑a0.letters.length : Int) > 30)) (some false) (br (decide ((↑a0.book.size : Int) > 12000)) (some false) (qb (spec_l1In_T a0.sure 0 (↑a0.book.size : Int)) fun x => br (!x) (some false) (qb (spec_WorldOk_L4 n n false 0 a0) fun x => br (isRetE x.fst) (some x.snd.fst.snd.fst) (br (isExt 0 x.fst) (qb (spec_WorldOk_L9 n n x.snd.fst.snd.fst 0 x.snd.snd.fst) fun x => br (isRetE x.fst) (some x.snd.fst.snd.fst) (br (isExt 2 x.fst) (qb (spec_WorldOk_L14 n n x.snd.fst.snd.fst 0 x.snd.snd.fst) fun x => br (isRetE x.fst) (some x.snd.fst.snd.fst) (br (isExt 4 x.fst) (qb (spec_l13Open_T x.snd.snd.fst) fun x => some x) none)) none)) none)))))))))

theorem spec_WorldOk_res (n : Nat) (a0 : WorldD) : residT Tryz.prog cfg RN n 17 [.ag (WorldD.cells a0)] (.bool) = spec_WorldOk_R n a0 := by kernel_rfl

theorem spec_WorldOk_of (n : Nat) (a0 : WorldD) {y} (h : spec_WorldOk_R n a0 = some y) : spec_WorldOk_T a0 = some y := presT_of (((spec_WorldOk_res n a0)).trans h)

noncomputable def laws_toWorld_R (n : Nat) (a0 : WorldD) : Option WorldD := qb (laws_toTermS_T a0.known) fun x => qb (laws_toPolicyS_T a0.cache) fun x_1 => qb (laws_toHostS_T a0.hosts) fun x_2 => qb (laws_toLetterS_T a0.letters) fun x_3 => qb (laws_toCallS_T a0.calls) fun x_4 => qb (laws_toTalkS_T a0.talks) fun x_5 => qb (laws_toIntS_T a0.told) fun x_6 => some (WorldD.mk a0.time a0.fresh x x_1 x_2 x_3 a0.book a0.sure x_4 x_5 x_6)

theorem laws_toWorld_res (n : Nat) (a0 : WorldD) : residT Tryz.prog cfg RN n 18 [.ag (WorldD.cells a0)] (.world) = laws_toWorld_R n a0 := by kernel_rfl

theorem laws_toWorld_of (n : Nat) (a0 : WorldD) {y} (h : laws_toWorld_R n a0 = some y) : laws_toWorld_T a0 = some y := presT_of (((laws_toWorld_res n a0)).trans h)

noncomputable def impl_WorldOk_R (n : Nat) (a0 : WorldD) : Option Bool := qb (impl_isTime_T a0.time) fun x => br (!x) (some false) (qb (impl_in_T a0.fresh 1000 999990) fun x => br (!x) (some false) (br (decide ((↑a0.known.length : Int) > 300)) (some false) (qb (slices_ContainsFunc_impl_Term_impl_Term_T a0.known (V.c (C.fn 76 []))) fun x => br x (some false) (qb (impl_CacheOk_T a0.cache) fun x => br (!x) (some false) (qb (impl_hostsOk_T a0.hosts) fun x => br (!x) (some false) (br (decide ((↑a0.letters.length : Int) > 30)) (some false) (qb (slices_ContainsFunc_impl_Letter_impl_Letter_T a0.letters (V.c (C.fn 81 []))) fun x => br x (some false) (br (decide ((↑a0.book.size : Int) ≤ 12000)) (qb (impl_in_T a0.sure 0 (↑a0.book.size : Int)) fun x => br x (qb (impl_linesOk_T a0) fun x => br x (qb (impl_toldOk_T a0.told) fun x => some x) (some false)) (some false)) (some false)))))))))

theorem impl_WorldOk_res (n : Nat) (a0 : WorldD) : residT Tryz.prog cfg RN n 19 [.ag (WorldD.cells a0)] (.bool) = impl_WorldOk_R n a0 := by kernel_rfl

theorem impl_WorldOk_of (n : Nat) (a0 : WorldD) {y} (h : impl_WorldOk_R n a0 = some y) : impl_WorldOk_T a0 = some y := presT_of (((impl_WorldOk_res n a0)).trans h)

noncomputable def laws_eqWorld_R (n : Nat) (a0 : WorldD) (a1 : WorldD) : Option Bool := br (a0.time != a1.time) (some false) (br (a0.fresh != a1.fresh) (some false) (qb (laws_eqTermS_T a0.known a1.known) fun x => br (!x) (some false) (qb (laws_eqPolicyS_T a0.cache a1.cache) fun x => br (!x) (some false) (qb (laws_eqHostS_T a0.hosts a1.hosts) fun x => br (!x) (some false) (qb (laws_eqLetterS_T a0.letters a1.letters) fun x => br (!x) (some false) (br (!a0.book.toList == a1.book.toList) (some false) (br (a0.sure != a1.sure) (some false) (qb (laws_eqCallS_T a0.calls a1.calls) fun x => br (!x) (some false) (qb (laws_eqTalkS_T a0.talks a1.talks) fun x => br (!x) (some false) (qb (laws_eqIntS_T a0.told a1.told) fun x => br (!x) (some false) (some true)))))))))))

theorem laws_eqWorld_res (n : Nat) (a0 : WorldD) (a1 : WorldD) : residT Tryz.prog cfg RN n 20 [.ag (WorldD.cells a0), .ag (WorldD.cells a1)] (.bool) = laws_eqWorld_R n a0 a1 := by kernel_rfl

theorem laws_eqWorld_of (n : Nat) (a0 : WorldD) (a1 : WorldD) {y} (h : laws_eqWorld_R n a0 a1 = some y) : laws_eqWorld_T a0 a1 = some y := presT_of (((laws_eqWorld_res n a0 a1)).trans h)

noncomputable def laws_szStringS_R (n : Nat) (a0 : List ByteArray) (a1 : Int) : Option Int := br (decide (IntKind.i64.wrap (a1 - (↑a0.length : Int)) < 0)) (some (-1)) (qb (laws_szStringS_L5 n n false a0 (IntKind.i64.wrap (a1 - (↑a0.length : Int))) 0 0) fun x => br (isRetE x.fst) (some x.snd.fst.snd.fst) (br (isExt 0 x.fst) (some x.snd.fst.fst) none))

theorem laws_szStringS_res (n : Nat) (a0 : List ByteArray) (a1 : Int) : residT Tryz.prog cfg RN n 27 [.sl false .str a0, .int a1] (.int) = laws_szStringS_R n a0 a1 := by kernel_rfl

theorem laws_szStringS_of (n : Nat) (a0 : List ByteArray) (a1 : Int) {y} (h : laws_szStringS_R n a0 a1 = some y) : laws_szStringS_T a0 a1 = some y := presT_of (((laws_szStringS_res n a0 a1)).trans h)

noncomputable def laws_toStringS_R (n : Nat) (a0 : List ByteArray) : Option (List ByteArray) := br (decide ((↑a0.length : Int) = (↑a0.length : Int)) && decide (0 ≤ (↑a0.length : Int)) && (↑a0.length : Int).toNat.ble appMax) (qb (laws_toStringS_L3 n n false a0 (List.replicate (↑a0.length : Int).toNat (zeroEl Kind.str)) 0) fun x => br (isRetE x.fst) none (br (isExt 0 x.fst) (some x.snd.snd.fst) none)) none

theorem laws_toStringS_res (n : Nat) (a0 : List ByteArray) : residT Tryz.prog cfg RN n 29 [.sl false .str a0] (.sl .str) = laws_toStringS_R n a0 := by kernel_rfl

theorem laws_toStringS_of (n : Nat) (a0 : List ByteArray) {y} (h : laws_toStringS_R n a0 = some y) : laws_toStringS_T a0 = some y := presT_of (((laws_toStringS_res n a0)).trans h)

noncomputable def laws_eqStringS_R (n : Nat) (a0 : List ByteArray) (a1 : List ByteArray) : Option Bool := br ((↑a0.length : Int) != (↑a1.length : Int)) (some false) (qb (laws_eqStringS_L4 n n false a0 false a1 false 0) fun x => br (isRetE x.fst) (some x.snd.fst.fst) (br (isExt 0 x.fst) (some true) none))

theorem laws_eqStringS_res (n : Nat) (a0 : List ByteArray) (a1 : List ByteArray) : residT Tryz.prog cfg RN n 31 [.sl false .str a0, .sl false .str a1] (.bool) = laws_eqStringS_R n a0 a1 := by kernel_rfl

theorem laws_eqStringS_of (n : Nat) (a0 : List ByteArray) (a1 : List ByteArray) {y} (h : laws_eqStringS_R n a0 a1 = some y) : laws_eqStringS_T a0 a1 = some y := presT_of (((laws_eqStringS_res n a0 a1)).trans h)

noncomputable def spec_ServerOk_R (n : Nat) (a0 : Server) : Option Bool := qb (spec_ServerOk_L2 n n false 0 a0) fun x => br (isRetE x.fst) (some x.snd.fst.snd.fst) (br (isExt 0 x.fst) (br x.snd.snd.fst.tls (qb (spec_TermOk_T x.snd.snd.fst.share) fun x_1 => br (!x_1) (some false) (qb (spec_l1In_T x.snd.snd.fst.step 1 5) fun x_2 => br x_2 (qb (spec_HostOk_T x.snd.snd.fst.host) fun x_3 => br x_3 (qb (spec_l1In_T x.snd.snd.fst.key 0 1000000) fun x_4 => br x_4 (qb (spec_l1In_T x.snd.snd.fst.eph 0 1000000) fun x_5 => br x_5 (qb (spec_TermOk_T x.snd.snd.fst.cert) fun x_6 => br x_6 (qb (spec_l1In_T x.snd.snd.fst.inn 0 100) fun x_7 => br x_7 (qb (spec_l1In_T x.snd.snd.fst.out 0 100) fun x_8 => br x_8 (some (decide ((↑x.snd.snd.fst.got.length : Int) ≤ 20))) (some false)) (some false)) (some false)) (some false)) (some false)) (some false)) (some false))) (br (x.snd.snd.fst.step == 3) (qb (spec_TermOk_T x.snd.snd.fst.share) fun x_1 => br (!x_1) (some false) (br (!x.snd.snd.fst.step == 3) (qb (spec_Same_T x.snd.snd.fst.share (Term.mk 0 0 (ByteArray.mk #[]) [])) fun x_2 => br (!x_2) (some false) (qb (spec_l1In_T x.snd.snd.fst.step 1 5) fun x_3 => br x_3 (qb (spec_HostOk_T x.snd.snd.fst.host) fun x_4 => br x_4 (qb (spec_l1In_T x.snd.snd.fst.key 0 1000000) fun x_5 => br x_5 (qb (spec_l1In_T x.snd.snd.fst.eph 0 1000000) fun x_6 => br x_6 (qb (spec_TermOk_T x.snd.snd.fst.cert) fun x_7 => br x_7 (qb (spec_l1In_T x.snd.snd.fst.inn 0 100) fun x_8 => br x_8 (qb (spec_l1In_T x.snd.snd.fst.out 0 100) fun x_9 => br x_9 (some (decide ((↑x.snd.snd.fst.got.length : Int) ≤ 20))) (some false)) (some false)) (some false)) (some false)) (some false)) (some false)) (some false))) (qb (spec_l1In_T x.snd.snd.fst.step 1 5) fun x_2 => br x_2 (qb (spec_HostOk_T x.snd.snd.fst.host) fun x_3 => br x_3 (qb (spec_l1In_T x.snd.snd.fst.key 0 1000000) fun x_4 => br x_4 (qb (spec_l1In_T x.snd.snd.fst.eph 0 1000000) fun x_5 => br x_5 (qb (spec_TermOk_T x.snd.snd.fst.cert) fun x_6 => br x_6 (qb (spec_l1In_T x.snd.snd.fst.inn 0 100) fun x_7 => br x_7 (qb (spec_l1In_T x.snd.snd.fst.out 0 100) fun x_8 => br x_8 (some (decide ((↑x.snd.snd.fst.got.length : Int) ≤ 20))) (some false)) (some false)) (some false)) (some false)) (some false)) (some false)) (some false)))) (br (!x.snd.snd.fst.step == 3) (qb (spec_Same_T x.snd.snd.fst.share (Term.mk 0 0 (ByteArray.mk #[]) [])) fun x_1 => br (!x_1) (some false) (qb (spec_l1In_T x.snd.snd.fst.step 1 5) fun x_2 => br x_2 (qb (spec_HostOk_T x.snd.snd.fst.host) fun x_3 => br x_3 (qb (spec_l1In_T x.snd.snd.fst.key 0 1000000) fun x_4 => br x_4 (qb (spec_l1In_T x.snd.snd.fst.eph 0 1000000) fun x_5 => br x_5 (qb (spec_TermOk_T x.snd.snd.fst.cert) fun x_6 => br x_6 (qb (spec_l1In_T x.snd.snd.fst.inn 0 100) fun x_7 => br x_7 (qb (spec_l1In_T x.snd.snd.fst.out 0 100) fun x_8 => br x_8 (some (decide ((↑x.snd.snd.fst.got.length : Int) ≤ 20))) (some false)) (some false)) (some false)) (some false)) (some false)) (some false)) (some false))) (qb (spec_l1In_T x.snd.snd.fst.step 1 5) fun x_1 => br x_1 (qb (spec_HostOk_T x.snd.snd.fst.host) fun x_2 => br x_2 (qb (spec_l1In_T x.snd.snd.fst.key 0 1000000) fun x_3 => br x_3 (qb (spec_l1In_T x.snd.snd.fst.eph 0 1000000) fun x_4 => br x_4 (qb (spec_TermOk_T x.snd.snd.fst.cert) fun x_5 => br x_5 (qb (spec_l1In_T x.snd.snd.fst.inn 0 100) fun x_6 => br x_6 (qb (spec_l1In_T x.snd.snd.fst.out 0 100) fun x_7 => br x_7 (some (decide ((↑x.snd.snd.fst.got.length : Int) ≤ 20))) (some false)) (some false)) (some false)) (some false)) (some false)) (some false)) (some false))))) none)

theorem spec_ServerOk_res (n : Nat) (a0 : Server) : residT Tryz.prog cfg RN n 42 [.ag (Server.cells a0)] (.bool) = spec_ServerOk_R n a0 := by kernel_rfl

theorem spec_ServerOk_of (n : Nat) (a0 : Server) {y} (h : spec_ServerOk_R n a0 = some y) : spec_ServerOk_T a0 = some y := presT_of (((spec_ServerOk_res n a0)).trans h)

noncomputable def impl_ServerOk_R (n : Nat) (a0 : Server) : Option Bool := qb (impl_in_T a0.step 1 5) fun x => br (!x) (some false) (qb (impl_HostOk_T a0.host) fun x => br (!x) (some false) (qb (impl_isAtom_T a0.key) fun x => br (!x) (some false) (qb (impl_isAtom_T a0.eph) fun x => br (!x) (some false) (qb (impl_TermOk_T a0.cert) fun x => br (!x) (some false) (qb (impl_in_T a0.inn 0 100) fun x => br (!x) (some false) (qb (impl_in_T a0.out 0 100) fun x => br (!x) (some false) (br a0.tls (qb (impl_TermOk_T a0.share) fun x => br (!x) (some false) (br (decide ((↑a0.got.length : Int) ≤ 20)) (qb (slices_ContainsFunc_int_int_T a0.got (V.c (C.fn 141 []))) fun x => some !x) (some false))) (br (a0.step == 3) (qb (impl_TermOk_T a0.share) fun x => br (!x) (some false) (br (!a0.step == 3) (qb (impl_noTerm_T a0.share) fun x => br (!x) (some false) (br (decide ((↑a0.got.length : Int) ≤ 20)) (qb (slices_ContainsFunc_int_int_T a0.got (V.c (C.fn 141 []))) fun x => some !x) (some false))) (br (decide ((↑a0.got.length : Int) ≤ 20)) (qb (slices_ContainsFunc_int_int_T a0.got (V.c (C.fn 141 []))) fun x => some !x) (some false)))) (br (!a0.step == 3) (qb (impl_noTerm_T a0.share) fun x => br (!x) (some false) (br (decide ((↑a0.got.length : Int) ≤ 20)) (qb (slices_ContainsFunc_int_int_T a0.got (V.c (C.fn 141 []))) fun x => some !x) (some false))) (br (decide ((↑a0.got.length : Int) ≤ 20)) (qb (slices_ContainsFunc_int_int_T a0.got (V.c (C.fn 141 []))) fun x => some !x) (some false)))))))))))

theorem impl_ServerOk_res (n : Nat) (a0 : Server) : residT Tryz.prog cfg RN n 46 [.ag (Server.cells a0)] (.bool) = impl_ServerOk_R n a0 := by kernel_rfl

theorem impl_ServerOk_of (n : Nat) (a0 : Server) {y} (h : impl_ServerOk_R n a0 = some y) : impl_ServerOk_T a0 = some y := presT_of (((impl_ServerOk_res n a0)).trans h)

noncomputable def laws_eqTerm_R (n : Nat) (a0 : Term) (a1 : Term) : Option Bool := br (a0.op != a1.op) (some false) (br (a0.n != a1.n) (some false) (br (!a0.s.toList == a1.s.toList) (some false) (qb (laws_eqTermS_T a0.kids a1.kids) fun x => br (!x) (some false) (some true))))

theorem laws_eqTerm_res (n : Nat) (a0 : Term) (a1 : Term) : residT Tryz.prog cfg RN n 47 [.ag (Term.cells a0), .ag (Term.cells a1)] (.bool) = laws_eqTerm_R n a0 a1 := by kernel_rfl

theorem laws_eqTerm_of (n : Nat) (a0 : Term) (a1 : Term) {y} (h : laws_eqTerm_R n a0 a1 = some y) : laws_eqTerm_T a0 a1 = some y := presT_of (((laws_eqTerm_res n a0 a1)).trans h)

noncomputable def laws_eqIntS_R (n : Nat) (a0 : List Int) (a1 : List Int) : Option Bool := br ((↑a0.length : Int) != (↑a1.length : Int)) (some false) (qb (laws_eqIntS_L4 n n false a0 false a1 false 0) fun x => br (isRetE x.fst) (some x.snd.fst.fst) (br (isExt 0 x.fst) (some true) none))

theorem laws_eqIntS_res (n : Nat) (a0 : List Int) (a1 : List Int) : residT Tryz.prog cfg RN n 48 [.sl false .int a0, .sl false .int a1] (.bool) = laws_eqIntS_R n a0 a1 := by kernel_rfl

theorem laws_eqIntS_of (n : Nat) (a0 : List Int) (a1 : List Int) {y} (h : laws_eqIntS_R n a0 a1 = some y) : laws_eqIntS_T a0 a1 = some y := presT_of (((laws_eqIntS_res n a0 a1)).trans h)

noncomputable def laws_szTermS_R (n : Nat) (a0 : List Term) (a1 : Int) : Option Int := br (decide (IntKind.i64.wrap (a1 - (↑a0.length : Int)) < 0)) (some (-1)) (qb (laws_szTermS_L5 n n false a0 (IntKind.i64.wrap (a1 - (↑a0.length : Int))) 0 0) fun x => br (isRetE x.fst) (some x.snd.fst.snd.fst) (br (isExt 0 x.fst) (some x.snd.fst.fst) none))

theorem laws_szTermS_res (n : Nat) (a0 : List Term) (a1 : Int) : residT Tryz.prog cfg RN n 53 [.sl false .term a0, .int a1] (.int) = laws_szTermS_R n a0 a1 := by kernel_rfl

theorem laws_szTermS_of (n : Nat) (a0 : List Term) (a1 : Int) {y} (h : laws_szTermS_R n a0 a1 = some y) : laws_szTermS_T a0 a1 = some y := presT_of (((laws_szTermS_res n a0 a1)).trans h)

noncomputable def laws_szPolicyS_R (n : Nat) (a0 : List Policy) (a1 : Int) : Option Int := br (decide (IntKind.i64.wrap (a1 - (↑a0.length : Int)) < 0)) (some (-1)) (qb (laws_szPolicyS_L5 n n false a0 (IntKind.i64.wrap (a1 - (↑a0.length : Int))) 0 0) fun x => br (isRetE x.fst) (some x.snd.fst.snd.fst) (br (isExt 0 x.fst) (some x.snd.fst.fst) none))

theorem laws_szPolicyS_res (n : Nat) (a0 : List Policy) (a1 : Int) : residT Tryz.prog cfg RN n 54 [.sl false .policy a0, .int a1] (.int) = laws_szPolicyS_R n a0 a1 := by kernel_rfl

theorem laws_szPolicyS_of (n : Nat) (a0 : List Policy) (a1 : Int) {y} (h : laws_szPolicyS_R n a0 a1 = some y) : laws_szPolicyS_T a0 a1 = some y := presT_of (((laws_szPolicyS_res n a0 a1)).trans h)

noncomputable def laws_szHostS_R (n : Nat) (a0 : List Host) (a1 : Int) : Option Int := br (decide (IntKind.i64.wrap (a1 - (↑a0.length : Int)) < 0)) (some (-1)) (qb (laws_szHostS_L5 n n false a0 (IntKind.i64.wrap (a1 - (↑a0.length : Int))) 0 0) fun x => br (isRetE x.fst) (some x.snd.fst.snd.fst) (br (isExt 0 x.fst) (some x.snd.fst.fst) none))

theorem laws_szHostS_res (n : Nat) (a0 : List Host) (a1 : Int) : residT Tryz.prog cfg RN n 55 [.sl false .host a0, .int a1] (.int) = laws_szHostS_R n a0 a1 := by kernel_rfl

theorem laws_szHostS_of (n : Nat) (a0 : List Host) (a1 : Int) {y} (h : laws_szHostS_R n a0 a1 = some y) : laws_szHostS_T a0 a1 = some y := presT_of (((laws_szHostS_res n a0 a1)).trans h)

noncomputable def laws_szLetterS_R (n : Nat) (a0 : List Letter) (a1 : Int) : Option Int := br (decide (IntKind.i64.wrap (a1 - (↑a0.length : Int)) < 0)) (some (-1)) (qb (laws_szLetterS_L5 n n false a0 (IntKind.i64.wrap (a1 - (↑a0.length : Int))) 0 0) fun x => br (isRetE x.fst) (some x.snd.fst.snd.fst) (br (isExt 0 x.fst) (some x.snd.fst.fst) none))

theorem laws_szLetterS_res (n : Nat) (a0 : List Letter) (a1 : Int) : residT Tryz.prog cfg RN n 56 [.sl false .letter a0, .int a1] (.int) = laws_szLetterS_R n a0 a1 := by kernel_rfl

theorem laws_szLetterS_of (n : Nat) (a0 : List Letter) (a1 : Int) {y} (h : laws_szLetterS_R n a0 a1 = some y) : laws_szLetterS_T a0 a1 = some y := presT_of (((laws_szLetterS_res n a0 a1)).trans h)

noncomputable def laws_szCallS_R (n : Nat) (a0 : List CallD) (a1 : Int) : Option Int := br (decide (IntKind.i64.wrap (a1 - (↑a0.length : Int)) < 0)) (some (-1)) (qb (laws_szCallS_L5 n n false a0 (IntKind.i64.wrap (a1 - (↑a0.length : Int))) 0 0) fun x => br (isRetE x.fst) (some x.snd.fst.snd.fst) (br (isExt 0 x.fst) (some x.snd.fst.fst) none))

theorem laws_szCallS_res (n : Nat) (a0 : List CallD) (a1 : Int) : residT Tryz.prog cfg RN n 57 [.sl false .call a0, .int a1] (.int) = laws_szCallS_R n a0 a1 := by kernel_rfl

theorem laws_szCallS_of (n : Nat) (a0 : List CallD) (a1 : Int) {y} (h : laws_szCallS_R n a0 a1 = some y) : laws_szCallS_T a0 a1 = some y := presT_of (((laws_szCallS_res n a0 a1)).trans h)

noncomputable def laws_szTalkS_R (n : Nat) (a0 : List Talk) (a1 : Int) : Option Int := br (decide (IntKind.i64.wrap (a1 - (↑a0.length : Int)) < 0)) (some (-1)) (qb (laws_szTalkS_L5 n n false a0 (IntKind.i64.wrap (a1 - (↑a0.length : Int))) 0 0) fun x => br (isRetE x.fst) (some x.snd.fst.snd.fst) (br (isExt 0 x.fst) (some x.snd.fst.fst) none))

theorem laws_szTalkS_res (n : Nat) (a0 : List Talk) (a1 : Int) : residT Tryz.prog cfg RN n 58 [.sl false .talk a0, .int a1] (.int) = laws_szTalkS_R n a0 a1 := by kernel_rfl

theorem laws_szTalkS_of (n : Nat) (a0 : List Talk) (a1 : Int) {y} (h : laws_szTalkS_R n a0 a1 = some y) : laws_szTalkS_T a0 a1 = some y := presT_of (((laws_szTalkS_res n a0 a1)).trans h)

noncomputable def laws_szIntS_R (n : Nat) (a0 : List Int) (a1 : Int) : Option Int := br (decide (IntKind.i64.wrap (a1 - (↑a0.length : Int)) < 0)) (some (-1)) (some (IntKind.i64.wrap (a1 - (↑a0.length : Int))))

theorem laws_szIntS_res (n : Nat) (a0 : List Int) (a1 : Int) : residT Tryz.prog cfg RN n 59 [.sl false .int a0, .int a1] (.int) = laws_szIntS_R n a0 a1 := by kernel_rfl

theorem laws_szIntS_of (n : Nat) (a0 : List Int) (a1 : Int) {y} (h : laws_szIntS_R n a0 a1 = some y) : laws_szIntS_T a0 a1 = some y := presT_of (((laws_szIntS_res n a0 a1)).trans h)

noncomputable def spec_l1In_R (n : Nat) (a0 : Int) (a1 : Int) (a2 : Int) : Option Bool := br (decide (a0 ≥ a1)) (some (decide (a0 ≤ a2))) (some false)

theorem spec_l1In_res (n : Nat) (a0 : Int) (a1 : Int) (a2 : Int) : residT Tryz.prog cfg RN n 60 [.int a0, .int a1, .int a2] (.bool) = spec_l1In_R n a0 a1 a2 := by kernel_rfl

theorem spec_l1In_of (n : Nat) (a0 : Int) (a1 : Int) (a2 : Int) {y} (h : spec_l1In_R n a0 a1 a2 = some y) : spec_l1In_T a0 a1 a2 = some y := presT_of (((spec_l1In_res n a0 a1 a2)).trans h)

noncomputable def spec_CacheOk_R (n : Nat) (a0 : List Policy) : Option Bool := qb (spec_CacheOk_L2 n n false a0 false 0) fun x => br (isRetE x.fst) (some x.snd.fst.snd.fst) (br (isExt 0 x.fst) (some (decide ((↑(List.length x.snd.fst.fst) : Int) ≤ 10))) none)

theorem spec_CacheOk_res (n : Nat) (a0 : List Policy) : residT Tryz.prog cfg RN n 61 [.sl false .policy a0] (.bool) = spec_CacheOk_R n a0 := by kernel_rfl

theorem spec_CacheOk_of (n : Nat) (a0 : List Policy) {y} (h : spec_CacheOk_R n a0 = some y) : spec_CacheOk_T a0 = some y := presT_of (((spec_CacheOk_res n a0)).trans h)

noncomputable def spec_l13Hosts_R (n : Nat) (a0 : List Host) : Option Bool := qb (spec_l13Hosts_L2 n n false a0 false 0) fun x => br (isRetE x.fst) (some x.snd.fst.snd.fst) (br (isExt 0 x.fst) (some (decide ((↑(List.length x.snd.fst.fst) : Int) ≤ 4))) none)

theorem spec_l13Hosts_res (n : Nat) (a0 : List Host) : residT Tryz.prog cfg RN n 62 [.sl false .host a0] (.bool) = spec_l13Hosts_R n a0 := by kernel_rfl

theorem spec_l13Hosts_of (n : Nat) (a0 : List Host) {y} (h : spec_l13Hosts_R n a0 = some y) : spec_l13Hosts_T a0 = some y := presT_of (((spec_l13Hosts_res n a0)).trans h)

noncomputable def spec_TermOk_R (n : Nat) (a0 : Term) : Option Bool := qb (spec_TermSize_T a0) fun x => br (decide (x ≤ 200)) (qb (spec_l1Right_T a0) fun x => some x) (some false)

theorem spec_TermOk_res (n : Nat) (a0 : Term) : residT Tryz.prog cfg RN n 63 [.ag (Term.cells a0)] (.bool) = spec_TermOk_R n a0 := by kernel_rfl

theorem spec_TermOk_of (n : Nat) (a0 : Term) {y} (h : spec_TermOk_R n a0 = some y) : spec_TermOk_T a0 = some y := presT_of (((spec_TermOk_res n a0)).trans h)

noncomputable def spec_LetterOk_R (n : Nat) (a0 : Letter) : Option Bool := qb (spec_l6Domain_T a0.domain) fun x => br x (qb (spec_l1In_T a0.body 0 1000000) fun x => br x (qb (spec_l1In_T a0.state 1 3) fun x => br x (qb (spec_l1In_T a0.tries 0 4) fun x => br x (qb (spec_l1In_T a0.next 0 100000) fun x => some x) (some false)) (some false)) (some false)) (some false)

theorem spec_LetterOk_res (n : Nat) (a0 : Letter) : residT Tryz.prog cfg RN n 64 [.ag (Letter.cells a0)] (.bool) = spec_LetterOk_R n a0 := by kernel_rfl

theorem spec_LetterOk_of (n : Nat) (a0 : Letter) {y} (h : spec_LetterOk_R n a0 = some y) : spec_LetterOk_T a0 = some y := presT_of (((spec_LetterOk_res n a0)).trans h)

noncomputable def spec_l13Open_R (n : Nat) (a0 : WorldD) : Option Bool := qb (spec_l13Open_L2 n n false 0 a0) fun x => br (isRetE x.fst) (some x.snd.fst.snd.fst) (br (isExt 0 x.fst) (qb (spec_l13Open_L7 n n x.snd.fst.snd.fst 0 x.snd.snd.fst) fun x => br (isRetE x.fst) (some x.snd.fst.snd.fst) (br (isExt 2 x.fst) (br (decide ((↑x.snd.snd.fst.calls.length : Int) ≤ 12)) (some (decide ((↑x.snd.snd.fst.talks.length : Int) ≤ 12))) (some false)) none)) none)

theorem spec_l13Open_res (n : Nat) (a0 : WorldD) : residT Tryz.prog cfg RN n 65 [.ag (WorldD.cells a0)] (.bool) = spec_l13Open_R n a0 := by kernel_rfl

theorem spec_l13Open_of (n : Nat) (a0 : WorldD) {y} (h : spec_l13Open_R n a0 = some y) : spec_l13Open_T a0 = some y := presT_of (((spec_l13Open_res n a0)).trans h)

noncomputable def laws_toTermS_R (n : Nat) (a0 : List Term) : Option (List Term) := br (decide ((↑a0.length : Int) = (↑a0.length : Int)) && decide (0 ≤ (↑a0.length : Int)) && (↑a0.length : Int).toNat.ble appMax) (qb (laws_toTermS_L3 n n false a0 (List.replicate (↑a0.length : Int).toNat (zeroEl Kind.term)) 0) fun x => br (isRetE x.fst) none (br (isExt 0 x.fst) (some x.snd.snd.fst) none)) none

theorem laws_toTermS_res (n : Nat) (a0 : List Term) : residT Tryz.prog cfg RN n 66 [.sl false .term a0] (.sl .term) = laws_toTermS_R n a0 := by kernel_rfl

theorem laws_toTermS_of (n : Nat) (a0 : List Term) {y} (h : laws_toTermS_R n a0 = some y) : laws_toTermS_T a0 = some y := presT_of (((laws_toTermS_res n a0)).trans h)

noncomputable def laws_toPolicyS_R (n : Nat) (a0 : List Policy) : Option (List Policy) := br (decide ((↑a0.length : Int) = (↑a0.length : Int)) && decide (0 ≤ (↑a0.length : Int)) && (↑a0.length : Int).toNat.ble appMax) (qb (laws_toPolicyS_L3 n n false a0 (List.replicate (↑a0.length : Int).toNat (zeroEl Kind.policy)) 0) fun x => br (isRetE x.fst) none (br (isExt 0 x.fst) (some x.snd.snd.fst) none)) none

theorem laws_toPolicyS_res (n : Nat) (a0 : List Policy) : residT Tryz.prog cfg RN n 67 [.sl false .policy a0] (.sl .policy) = laws_toPolicyS_R n a0 := by kernel_rfl

theorem laws_toPolicyS_of (n : Nat) (a0 : List Policy) {y} (h : laws_toPolicyS_R n a0 = some y) : laws_toPolicyS_T a0 = some y := presT_of (((laws_toPolicyS_res n a0)).trans h)

noncomputable def laws_toHostS_R (n : Nat) (a0 : List Host) : Option (List Host) := br (decide ((↑a0.length : Int) = (↑a0.length : Int)) && decide (0 ≤ (↑a0.length : Int)) && (↑a0.length : Int).toNat.ble appMax) (qb (laws_toHostS_L3 n n false a0 (List.replicate (↑a0.length : Int).toNat (zeroEl Kind.host)) 0) fun x => br (isRetE x.fst) none (br (isExt 0 x.fst) (some x.snd.snd.fst) none)) none

theorem laws_toHostS_res (n : Nat) (a0 : List Host) : residT Tryz.prog cfg RN n 68 [.sl false .host a0] (.sl .host) = laws_toHostS_R n a0 := by kernel_rfl

theorem laws_toHostS_of (n : Nat) (a0 : List Host) {y} (h : laws_toHostS_R n a0 = some y) : laws_toHostS_T a0 = some y := presT_of (((laws_toHostS_res n a0)).trans h)

noncomputable def laws_toLetterS_R (n : Nat) (a0 : List Letter) : Option (List Letter) := br (decide ((↑a0.length : Int) = (↑a0.length : Int)) && decide (0 ≤ (↑a0.length : Int)) && (↑a0.length : Int).toNat.ble appMax) (qb (laws_toLetterS_L3 n n false a0 (List.replicate (↑a0.length : Int).toNat (zeroEl Kind.letter)) 0) fun x => br (isRetE x.fst) none (br (isExt 0 x.fst) (some x.snd.snd.fst) none)) none

theorem laws_toLetterS_res (n : Nat) (a0 : List Letter) : residT Tryz.prog cfg RN n 69 [.sl false .letter a0] (.sl .letter) = laws_toLetterS_R n a0 := by kernel_rfl

theorem laws_toLetterS_of (n : Nat) (a0 : List Letter) {y} (h : laws_toLetterS_R n a0 = some y) : laws_toLetterS_T a0 = some y := presT_of (((laws_toLetterS_res n a0)).trans h)

noncomputable def laws_toCallS_R (n : Nat) (a0 : List CallD) : Option (List CallD) := br (decide ((↑a0.length : Int) = (↑a0.length : Int)) && decide (0 ≤ (↑a0.length : Int)) && (↑a0.length : Int).toNat.ble appMax) (qb (laws_toCallS_L3 n n false a0 (List.replicate (↑a0.length : Int).toNat (zeroEl Kind.call)) 0) fun x => br (isRetE x.fst) none (br (isExt 0 x.fst) (some x.snd.snd.fst) none)) none

theorem laws_toCallS_res (n : Nat) (a0 : List CallD) : residT Tryz.prog cfg RN n 70 [.sl false .call a0] (.sl .call) = laws_toCallS_R n a0 := by kernel_rfl

theorem laws_toCallS_of (n : Nat) (a0 : List CallD) {y} (h : laws_toCallS_R n a0 = some y) : laws_toCallS_T a0 = some y := presT_of (((laws_toCallS_res n a0)).trans h)

noncomputable def laws_toTalkS_R (n : Nat) (a0 : List Talk) : Option (List Talk) := br (decide ((↑a0.length : Int) = (↑a0.length : Int)) && decide (0 ≤ (↑a0.length : Int)) && (↑a0.length : Int).toNat.ble appMax) (qb (laws_toTalkS_L3 n n false a0 (List.replicate (↑a0.length : Int).toNat (zeroEl Kind.talk)) 0) fun x => br (isRetE x.fst) none (br (isExt 0 x.fst) (some x.snd.snd.fst) none)) none

theorem laws_toTalkS_res (n : Nat) (a0 : List Talk) : residT Tryz.prog cfg RN n 71 [.sl false .talk a0] (.sl .talk) = laws_toTalkS_R n a0 := by kernel_rfl

theorem laws_toTalkS_of (n : Nat) (a0 : List Talk) {y} (h : laws_toTalkS_R n a0 = some y) : laws_toTalkS_T a0 = some y := presT_of (((laws_toTalkS_res n a0)).trans h)

noncomputable def laws_toIntS_R (n : Nat) (a0 : List Int) : Option (List Int) := br (decide ((↑a0.length : Int) = (↑a0.length : Int)) && decide (0 ≤ (↑a0.length : Int)) && (↑a0.length : Int).toNat.ble appMax) (qb (laws_toIntS_L3 n n false a0 (List.replicate (↑a0.length : Int).toNat (zeroEl Kind.int)) 0) fun x => br (isRetE x.fst) none (br (isExt 0 x.fst) (some x.snd.snd.fst) none)) none

theorem laws_toIntS_res (n : Nat) (a0 : List Int) : residT Tryz.prog cfg RN n 72 [.sl false .int a0] (.sl .int) = laws_toIntS_R n a0 := by kernel_rfl

theorem laws_toIntS_of (n : Nat) (a0 : List Int) {y} (h : laws_toIntS_R n a0 = some y) : laws_toIntS_T a0 = some y := presT_of (((laws_toIntS_res n a0)).trans h)

noncomputable def impl_isTime_R (n : Nat) (a0 : Int) : Option Bool := qb (impl_in_T a0 0 100000) fun x => some x

theorem impl_isTime_res (n : Nat) (a0 : Int) : residT Tryz.prog cfg RN n 73 [.int a0] (.bool) = impl_isTime_R n a0 := by kernel_rfl

theorem impl_isTime_of (n : Nat) (a0 : Int) {y} (h : impl_isTime_R n a0 = some y) : impl_isTime_T a0 = some y := presT_of (((impl_isTime_res n a0)).trans h)

noncomputable def impl_in_R (n : Nat) (a0 : Int) (a1 : Int) (a2 : Int) : Option Bool := br (decide (a0 ≥ a1)) (some (decide (a0 ≤ a2))) (some false)

theorem impl_in_res (n : Nat) (a0 : Int) (a1 : Int) (a2 : Int) : residT Tryz.prog cfg RN n 74 [.int a0, .int a1, .int a2] (.bool) = impl_in_R n a0 a1 a2 := by kernel_rfl

theorem impl_in_of (n : Nat) (a0 : Int) (a1 : Int) (a2 : Int) {y} (h : impl_in_R n a0 a1 a2 = some y) : impl_in_T a0 a1 a2 = some y := presT_of (((impl_in_res n a0 a1 a2)).trans h)

noncomputable def ContainsFunc_WorldOk_1_R (n : Nat) (a0 : List Term) : Option Bool := qb (slices_IndexFunc_impl_Term_impl_Term_T a0 (V.c (C.fn 76 []))) fun x => some (decide (x ≥ 0))

theorem ContainsFunc_WorldOk_1_res (n : Nat) (a0 : List Term) : residT Tryz.prog cfg RN n 75 [.sl false .term a0, .c (.fn 76 [])] (.bool) = ContainsFunc_WorldOk_1_R n a0 := by kernel_rfl

theorem ContainsFunc_WorldOk_1_of (n : Nat) (a0 : List Term) {y} (h : ContainsFunc_WorldOk_1_R n a0 = some y) : slices_ContainsFunc_impl_Term_impl_Term_T a0 (.c (.fn 76 [])) = some y := presT_of (((ContainsFunc_WorldOk_1_res n a0)).trans h)

noncomputable def ContainsFunc_formOk_1_R (n : Nat) (a0 : List Term) : Option Bool := qb (slices_IndexFunc_impl_Term_impl_Term_T a0 (V.c (C.fn 207 []))) fun x => some (decide (x ≥ 0))

theorem ContainsFunc_formOk_1_res (n : Nat) (a0 : List Term) : residT Tryz.prog cfg RN n 75 [.sl false .term a0, .c (.fn 207 [])] (.bool) = ContainsFunc_formOk_1_R n a0 := by kernel_rfl

theorem ContainsFunc_formOk_1_of (n : Nat) (a0 : List Term) {y} (h : ContainsFunc_formOk_1_R n a0 = some y) : slices_ContainsFunc_impl_Term_impl_Term_T a0 (.c (.fn 207 [])) = some y := presT_of (((ContainsFunc_formOk_1_res n a0)).trans h)

noncomputable def impl_TermOk_R (n : Nat) (a0 : Term) : Option Bool := qb (impl_TermSize_T a0) fun x => br (decide (x ≤ 200)) (qb (impl_formOk_T a0) fun x => some x) (some false)

theorem impl_TermOk_res (n : Nat) (a0 : Term) : residT Tryz.prog cfg RN n 77 [.ag (Term.cells a0)] (.bool) = impl_TermOk_R n a0 := by kernel_rfl

theorem impl_TermOk_of (n : Nat) (a0 : Term) {y} (h : impl_TermOk_R n a0 = some y) : impl_TermOk_T a0 = some y := presT_of (((impl_TermOk_res n a0)).trans h)

noncomputable def impl_CacheOk_R (n : Nat) (a0 : List Policy) : Option Bool := qb (impl_CacheOk_L2 n n false a0 false false a0 (↑a0.length : Int) 0) fun x => br (isRetE x.fst) (some x.snd.fst.snd.fst) (br (isExt 0 x.fst) (some (decide ((↑(List.length x.snd.fst.fst) : Int) ≤ 10))) none)

theorem impl_CacheOk_res (n : Nat) (a0 : List Policy) : residT Tryz.prog cfg RN n 78 [.sl false .policy a0] (.bool) = impl_CacheOk_R n a0 := by kernel_rfl

theorem impl_CacheOk_of (n : Nat) (a0 : List Policy) {y} (h : impl_CacheOk_R n a0 = some y) : impl_CacheOk_T a0 = some y := presT_of (((impl_CacheOk_res n a0)).trans h)

noncomputable def impl_hostsOk_R (n : Nat) (a0 : List Host) : Option Bool := qb (impl_hostsOk_L2 n n false a0 false false a0 (↑a0.length : Int) 0) fun x => br (isRetE x.fst) (some x.snd.fst.snd.fst) (br (isExt 0 x.fst) (some (decide ((↑(List.length x.snd.fst.fst) : Int) ≤ 4))) none)

theorem impl_hostsOk_res (n : Nat) (a0 : List Host) : residT Tryz.prog cfg RN n 79 [.sl false .host a0] (.bool) = impl_hostsOk_R n a0 := by kernel_rfl

theorem impl_hostsOk_of (n : Nat) (a0 : List Host) {y} (h : impl_hostsOk_R n a0 = some y) : impl_hostsOk_T a0 = some y := presT_of (((impl_hostsOk_res n a0)).trans h)

noncomputable def ContainsFunc_WorldOk_2_R (n : Nat) (a0 : List Letter) : Option Bool := qb (slices_IndexFunc_impl_Letter_impl_Letter_T a0 (V.c (C.fn 81 []))) fun x => some (decide (x ≥ 0))

theorem ContainsFunc_WorldOk_2_res (n : Nat) (a0 : List Letter) : residT Tryz.prog cfg RN n 80 [.sl false .letter a0, .c (.fn 81 [])] (.bool) = ContainsFunc_WorldOk_2_R n a0 := by kernel_rfl

theorem ContainsFunc_WorldOk_2_of (n : Nat) (a0 : List Letter) {y} (h : ContainsFunc_WorldOk_2_R n a0 = some y) : slices_ContainsFunc_impl_Letter_impl_Letter_T a0 (.c (.fn 81 [])) = some y := presT_of (((ContainsFunc_WorldOk_2_res n a0)).trans h)

noncomputable def impl_LetterOk_R (n : Nat) (a0 : Letter) : Option Bool := qb (impl_domainOk_T a0.domain) fun x => br x (qb (impl_isAtom_T a0.body) fun x => br x (qb (impl_in_T a0.state 1 3) fun x => br x (qb (impl_in_T a0.tries 0 4) fun x => br x (qb (impl_isTime_T a0.next) fun x => some x) (some false)) (some false)) (some false)) (some false)

theorem impl_LetterOk_res (n : Nat) (a0 : Letter) : residT Tryz.prog cfg RN n 82 [.ag (Letter.cells a0)] (.bool) = impl_LetterOk_R n a0 := by kernel_rfl

theorem impl_LetterOk_of (n : Nat) (a0 : Letter) {y} (h : impl_LetterOk_R n a0 = some y) : impl_LetterOk_T a0 = some y := presT_of (((impl_LetterOk_res n a0)).trans h)

noncomputable def impl_linesOk_R (n : Nat) (a0 : WorldD) : Option Bool := qb (impl_linesOk_L2 n n false false a0.calls (↑a0.calls.length : Int) 0 a0) fun x => br (isRetE x.fst) (some x.snd.fst.snd.fst) (br (isExt 0 x.fst) (qb (impl_linesOk_L8 n n x.snd.fst.snd.fst false x.snd.snd.fst.talks (↑x.snd.snd.fst.talks.length : Int) 0 x.snd.snd.fst) fun x => br (isRetE x.fst) (some x.snd.fst.snd.fst) (br (isExt 2 x.fst) (br (decide ((↑x.snd.snd.fst.calls.length : Int) ≤ 12)) (some (decide ((↑x.snd.snd.fst.talks.length : Int) ≤ 12))) (some false)) none)) none)

theorem impl_linesOk_res (n : Nat) (a0 : WorldD) : residT Tryz.prog cfg RN n 83 [.ag (WorldD.cells a0)] (.bool) = impl_linesOk_R n a0 := by kernel_rfl

theorem impl_linesOk_of (n : Nat) (a0 : WorldD) {y} (h : impl_linesOk_R n a0 = some y) : impl_linesOk_T a0 = some y := presT_of (((impl_linesOk_res n a0)).trans h)

noncomputable def impl_toldOk_R (n : Nat) (a0 : List Int) : Option Bool := qb (impl_toldOk_L2 n n false a0 false false a0 (↑a0.length : Int) 0) fun x => br (isRetE x.fst) (some x.snd.fst.fst) (br (isExt 0 x.fst) (some true) none)

theorem impl_toldOk_res (n : Nat) (a0 : List Int) : residT Tryz.prog cfg RN n 84 [.sl false .int a0] (.bool) = impl_toldOk_R n a0 := by kernel_rfl

theorem impl_toldOk_of (n : Nat) (a0 : List Int) {y} (h : impl_toldOk_R n a0 = some y) : impl_toldOk_T a0 = some y := presT_of (((impl_toldOk_res n a0)).trans h)

noncomputable def laws_eqTermS_R (n : Nat) (a0 : List Term) (a1 : List Term) : Option Bool := br ((↑a0.length : Int) != (↑a1.length : Int)) (some false) (qb (laws_eqTermS_L4 n n false a0 false a1 false 0) fun x => br (isRetE x.fst) (some x.snd.fst.fst) (br (isExt 0 x.fst) (some true) none))

theorem laws_eqTermS_res (n : Nat) (a0 : List Term) (a1 : List Term) : residT Tryz.prog cfg RN n 85 [.sl false .term a0, .sl false .term a1] (.bool) = laws_eqTermS_R n a0 a1 := by kernel_rfl

theorem laws_eqTermS_of (n : Nat) (a0 : List Term) (a1 : List Term) {y} (h : laws_eqTermS_R n a0 a1 = some y) : laws_eqTermS_T a0 a1 = some y := presT_of (((laws_eqTermS_res n a0 a1)).trans h)

noncomputable def laws_eqPolicyS_R (n : Nat) (a0 : List Policy) (a1 : List Policy) : Option Bool := br ((↑a0.length : Int) != (↑a1.length : Int)) (some false) (qb (laws_eqPolicyS_L4 n n false a0 false a1 false 0) fun x => br (isRetE x.fst) (some x.snd.fst.fst) (br (isExt 0 x.fst) (some true) none))

theorem laws_eqPolicyS_res (n : Nat) (a0 : List Policy) (a1 : List Policy) : residT Tryz.prog cfg RN n 86 [.sl false .policy a0, .sl false .policy a1] (.bool) = laws_eqPolicyS_R n a0 a1 := by kernel_rfl

theorem laws_eqPolicyS_of (n : Nat) (a0 : List Policy) (a1 : List Policy) {y} (h : laws_eqPolicyS_R n a0 a1 = some y) : laws_eqPolicyS_T a0 a1 = some y := presT_of (((laws_eqPolicyS_res n a0 a1)).trans h)

noncomputable def laws_eqHostS_R (n : Nat) (a0 : List Host) (a1 : List Host) : Option Bool := br ((↑a0.length : Int) != (↑a1.length : Int)) (some false) (qb (laws_eqHostS_L4 n n false a0 false a1 false 0) fun x => br (isRetE x.fst) (some x.snd.fst.fst) (br (isExt 0 x.fst) (some true) none))

theorem laws_eqHostS_res (n : Nat) (a0 : List Host) (a1 : List Host) : residT Tryz.prog cfg RN n 87 [.sl false .host a0, .sl false .host a1] (.bool) = laws_eqHostS_R n a0 a1 := by kernel_rfl

theorem laws_eqHostS_of (n : Nat) (a0 : List Host) (a1 : List Host) {y} (h : laws_eqHostS_R n a0 a1 = some y) : laws_eqHostS_T a0 a1 = some y := presT_of (((laws_eqHostS_res n a0 a1)).trans h)

noncomputable def laws_eqLetterS_R (n : Nat) (a0 : List Letter) (a1 : List Letter) : Option Bool := br ((↑a0.length : Int) != (↑a1.length : Int)) (some false) (qb (laws_eqLetterS_L4 n n false a0 false a1 false 0) fun x => br (isRetE x.fst) (some x.snd.fst.fst) (br (isExt 0 x.fst) (some true) none))

theorem laws_eqLetterS_res (n : Nat) (a0 : List Letter) (a1 : List Letter) : residT Tryz.prog cfg RN n 88 [.sl false .letter a0, .sl false .letter a1] (.bool) = laws_eqLetterS_R n a0 a1 := by kernel_rfl

theorem laws_eqLetterS_of (n : Nat) (a0 : List Letter) (a1 : List Letter) {y} (h : laws_eqLetterS_R n a0 a1 = some y) : laws_eqLetterS_T a0 a1 = some y := presT_of (((laws_eqLetterS_res n a0 a1)).trans h)

noncomputable def laws_eqCallS_R (n : Nat) (a0 : List CallD) (a1 : List CallD) : Option Bool := br ((↑a0.length : Int) != (↑a1.length : Int)) (some false) (qb (laws_eqCallS_L4 n n false a0 false a1 false 0) fun x => br (isRetE x.fst) (some x.snd.fst.fst) (br (isExt 0 x.fst) (some true) none))

theorem laws_eqCallS_res (n : Nat) (a0 : List CallD) (a1 : List CallD) : residT Tryz.prog cfg RN n 89 [.sl false .call a0, .sl false .call a1] (.bool) = laws_eqCallS_R n a0 a1 := by kernel_rfl

theorem laws_eqCallS_of (n : Nat) (a0 : List CallD) (a1 : List CallD) {y} (h : laws_eqCallS_R n a0 a1 = some y) : laws_eqCallS_T a0 a1 = some y := presT_of (((laws_eqCallS_res n a0 a1)).trans h)

noncomputable def laws_eqTalkS_R (n : Nat) (a0 : List Talk) (a1 : List Talk) : Option Bool := br ((↑a0.length : Int) != (↑a1.length : Int)) (some false) (qb (laws_eqTalkS_L4 n n false a0 false a1 false 0) fun x => br (isRetE x.fst) (some x.snd.fst.fst) (br (isExt 0 x.fst) (some true) none))

theorem laws_eqTalkS_res (n : Nat) (a0 : List Talk) (a1 : List Talk) : residT Tryz.prog cfg RN n 90 [.sl false .talk a0, .sl false .talk a1] (.bool) = laws_eqTalkS_R n a0 a1 := by kernel_rfl

theorem laws_eqTalkS_of (n : Nat) (a0 : List Talk) (a1 : List Talk) {y} (h : laws_eqTalkS_R n a0 a1 = some y) : laws_eqTalkS_T a0 a1 = some y := presT_of (((laws_eqTalkS_res n a0 a1)).trans h)

noncomputable def spec_Same_R (n : Nat) (a0 : Term) (a1 : Term) : Option Bool := br (a0.op != a1.op) (some false) (br (a0.n != a1.n) (some false) (br (!a0.s.toList == a1.s.toList) (some false) (br ((↑a0.kids.length : Int) != (↑a1.kids.length : Int)) (some false) (qb (spec_Same_L4 n n false 0 a0 a1) fun x => br (isRetE x.fst) (some x.snd.fst.fst) (br (isExt 0 x.fst) (some true) none)))))

theorem spec_Same_res (n : Nat) (a0 : Term) (a1 : Term) : residT Tryz.prog cfg RN n 129 [.ag (Term.cells a0), .ag (Term.cells a1)] (.bool) = spec_Same_R n a0 a1 := by kernel_rfl

theorem spec_Same_of (n : Nat) (a0 : Term) (a1 : Term) {y} (h : spec_Same_R n a0 a1 = some y) : spec_Same_T a0 a1 = some y := presT_of (((spec_Same_res n a0 a1)).trans h)

noncomputable def spec_HostOk_R (n : Nat) (a0 : ByteArray) : Option Bool := qb (spec_l5Labels_T a0 2) fun x => some x

theorem spec_HostOk_res (n : Nat) (a0 : ByteArray) : residT Tryz.prog cfg RN n 130 [.str a0] (.bool) = spec_HostOk_R n a0 := by kernel_rfl

theorem spec_HostOk_of (n : Nat) (a0 : ByteArray) {y} (h : spec_HostOk_R n a0 = some y) : spec_HostOk_T a0 = some y := presT_of (((spec_HostOk_res n a0)).trans h)

noncomputable def impl_HostOk_R (n : Nat) (a0 : ByteArray) : Option Bool := qb (impl_labelsOk_T a0 2) fun x => some x

theorem impl_HostOk_res (n : Nat) (a0 : ByteArray) : residT Tryz.prog cfg RN n 137 [.str a0] (.bool) = impl_HostOk_R n a0 := by kernel_rfl

theorem impl_HostOk_of (n : Nat) (a0 : ByteArray) {y} (h : impl_HostOk_R n a0 = some y) : impl_HostOk_T a0 = some y := presT_of (((impl_HostOk_res n a0)).trans h)

noncomputable def impl_isAtom_R (n : Nat) (a0 : Int) : Option Bool := qb (impl_in_T a0 0 1000000) fun x => some x

theorem impl_isAtom_res (n : Nat) (a0 : Int) : residT Tryz.prog cfg RN n 138 [.int a0] (.bool) = impl_isAtom_R n a0 := by kernel_rfl

theorem impl_isAtom_of (n : Nat) (a0 : Int) {y} (h : impl_isAtom_R n a0 = some y) : impl_isAtom_T a0 = some y := presT_of (((impl_isAtom_res n a0)).trans h)

noncomputable def impl_noTerm_R (n : Nat) (a0 : Term) : Option Bool := qb (impl_Same_T a0 (Term.mk 0 0 (ByteArray.mk #[]) [])) fun x => some x

theorem impl_noTerm_res (n : Nat) (a0 : Term) : residT Tryz.prog cfg RN n 139 [.ag (Term.cells a0)] (.bool) = impl_noTerm_R n a0 := by kernel_rfl

theorem impl_noTerm_of (n : Nat) (a0 : Term) {y} (h : impl_noTerm_R n a0 = some y) : impl_noTerm_T a0 = some y := presT_of (((impl_noTerm_res n a0)).trans h)

noncomputable def ContainsFunc_ServerOk_1_R (n : Nat) (a0 : List Int) : Option Bool := qb (slices_IndexFunc_int_int_T a0 (V.c (C.fn 141 []))) fun x => some (decide (x ≥ 0))

theorem ContainsFunc_ServerOk_1_res (n : Nat) (a0 : List Int) : residT Tryz.prog cfg RN n 140 [.sl false .int a0, .c (.fn 141 [])] (.bool) = ContainsFunc_ServerOk_1_R n a0 := by kernel_rfl

theorem ContainsFunc_ServerOk_1_of (n : Nat) (a0 : List Int) {y} (h : ContainsFunc_ServerOk_1_R n a0 = some y) : slices_ContainsFunc_int_int_T a0 (.c (.fn 141 [])) = some y := presT_of (((ContainsFunc_ServerOk_1_res n a0)).trans h)

noncomputable def laws_szTerm_R (n : Nat) (a0 : Term) (a1 : Int) : Option Int := br (decide (IntKind.i64.wrap (a1 - (↑a0.s.size : Int)) < 0)) (some (-1)) (qb (laws_szTermS_T a0.kids (IntKind.i64.wrap (a1 - (↑a0.s.size : Int)))) fun x => br (decide (x < 0)) (some (-1)) (some x))

theorem laws_szTerm_res (n : Nat) (a0 : Term) (a1 : Int) : residT Tryz.prog cfg RN n 142 [.ag (Term.cells a0), .int a1] (.int) = laws_szTerm_R n a0 a1 := by kernel_rfl

theorem laws_szTerm_of (n : Nat) (a0 : Term) (a1 : Int) {y} (h : laws_szTerm_R n a0 a1 = some y) : laws_szTerm_T a0 a1 = some y := presT_of (((laws_szTerm_res n a0 a1)).trans h)

noncomputable def laws_szPolicy_R (n : Nat) (a0 : Policy) (a1 : Int) : Option Int := br (decide (IntKind.i64.wrap (a1 - (↑a0.domain.size : Int)) < 0)) (some (-1)) (qb (laws_szStringS_T a0.mx (IntKind.i64.wrap (a1 - (↑a0.domain.size : Int)))) fun x => br (decide (x < 0)) (some (-1)) (some x))

theorem laws_szPolicy_res (n : Nat) (a0 : Policy) (a1 : Int) : residT Tryz.prog cfg RN n 143 [.ag (Policy.cells a0), .int a1] (.int) = laws_szPolicy_R n a0 a1 := by kernel_rfl

theorem laws_szPolicy_of (n : Nat) (a0 : Policy) (a1 : Int) {y} (h : laws_szPolicy_R n a0 a1 = some y) : laws_szPolicy_T a0 a1 = some y := presT_of (((laws_szPolicy_res n a0 a1)).trans h)

noncomputable def laws_szHost_R (n : Nat) (a0 : Host) (a1 : Int) : Option Int := br (decide (IntKind.i64.wrap (a1 - (↑a0.name.size : Int)) < 0)) (some (-1)) (some (IntKind.i64.wrap (a1 - (↑a0.name.size : Int))))

theorem laws_szHost_res (n : Nat) (a0 : Host) (a1 : Int) : residT Tryz.prog cfg RN n 144 [.ag (Host.cells a0), .int a1] (.int) = laws_szHost_R n a0 a1 := by kernel_rfl

theorem laws_szHost_of (n : Nat) (a0 : Host) (a1 : Int) {y} (h : laws_szHost_R n a0 a1 = some y) : laws_szHost_T a0 a1 = some y := presT_of (((laws_szHost_res n a0 a1)).trans h)

noncomputable def laws_szLetter_R (n : Nat) (a0 : Letter) (a1 : Int) : Option Int := br (decide (IntKind.i64.wrap (a1 - (↑a0.domain.size : Int)) < 0)) (some (-1)) (some (IntKind.i64.wrap (a1 - (↑a0.domain.size : Int))))

theorem laws_szLetter_res (n : Nat) (a0 : Letter) (a1 : Int) : residT Tryz.prog cfg RN n 145 [.ag (Letter.cells a0), .int a1] (.int) = laws_szLetter_R n a0 a1 := by kernel_rfl

theorem laws_szLetter_of (n : Nat) (a0 : Letter) (a1 : Int) {y} (h : laws_szLetter_R n a0 a1 = some y) : laws_szLetter_T a0 a1 = some y := presT_of (((laws_szLetter_res n a0 a1)).trans h)

noncomputable def laws_szCall_R (n : Nat) (a0 : CallD) (a1 : Int) : Option Int := qb (laws_szClient_T a0.client a1) fun x => br (decide (x < 0)) (some (-1)) (some x)

theorem laws_szCall_res (n : Nat) (a0 : CallD) (a1 : Int) : residT Tryz.prog cfg RN n 146 [.ag (CallD.cells a0), .int a1] (.int) = laws_szCall_R n a0 a1 := by kernel_rfl

theorem laws_szCall_of (n : Nat) (a0 : CallD) (a1 : Int) {y} (h : laws_szCall_R n a0 a1 = some y) : laws_szCall_T a0 a1 = some y := presT_of (((laws_szCall_res n a0 a1)).trans h)

noncomputable def laws_szTalk_R (n : Nat) (a0 : Talk) (a1 : Int) : Option Int := qb (laws_szServer_T a0.server a1) fun x => br (decide (x < 0)) (some (-1)) (some x)

theorem laws_szTalk_res (n : Nat) (a0 : Talk) (a1 : Int) : residT Tryz.prog cfg RN n 147 [.ag (Talk.cells a0), .int a1] (.int) = laws_szTalk_R n a0 a1 := by kernel_rfl

theorem laws_szTalk_of (n : Nat) (a0 : Talk) (a1 : Int) {y} (h : laws_szTalk_R n a0 a1 = some y) : laws_szTalk_T a0 a1 = some y := presT_of (((laws_szTalk_res n a0 a1)).trans h)

noncomputable def spec_PolicyOk_R (n : Nat) (a0 : Policy) : Option Bool := qb (spec_PolicyOk_L2 n n false 0 a0) fun x => br (isRetE x.fst) (some x.snd.fst.snd.fst) (br (isExt 0 x.fst) (qb (spec_l6Domain_T x.snd.snd.fst.domain) fun x_1 => br x_1 (qb (spec_l1In_T x.snd.snd.fst.mode 0 2) fun x_2 => br x_2 (br (decide ((↑x.snd.snd.fst.mx.length : Int) ≤ 5)) (br (x.snd.snd.fst.mode == 0) (qb (spec_l1In_T x.snd.snd.fst.til 0 100000) fun x => some x) (br (decide ((↑x.snd.snd.fst.mx.length : Int) > 0)) (qb (spec_l1In_T x.snd.snd.fst.til 0 100000) fun x => some x) (some false))) (some false)) (some false)) (some false)) none)

theorem spec_PolicyOk_res (n : Nat) (a0 : Policy) : residT Tryz.prog cfg RN n 148 [.ag (Policy.cells a0)] (.bool) = spec_PolicyOk_R n a0 := by kernel_rfl

theorem spec_PolicyOk_of (n : Nat) (a0 : Policy) {y} (h : spec_PolicyOk_R n a0 = some y) : spec_PolicyOk_T a0 = some y := presT_of (((spec_PolicyOk_res n a0)).trans h)

noncomputable def spec_TermSize_R (n : Nat) (a0 : Term) : Option Int := qb (spec_TermSize_L3 n n 1 0 a0) fun x => br (isRetE x.fst) none (br (isExt 0 x.fst) (some x.snd.fst.fst) none)

theorem spec_TermSize_res (n : Nat) (a0 : Term) : residT Tryz.prog cfg RN n 149 [.ag (Term.cells a0)] (.int) = spec_TermSize_R n a0 := by kernel_rfl

theorem spec_TermSize_of (n : Nat) (a0 : Term) {y} (h : spec_TermSize_R n a0 = some y) : spec_TermSize_T a0 = some y := presT_of (((spec_TermSize_res n a0)).trans h)

noncomputable def spec_l1Right_R (n : Nat) (a0 : Term) : Option Bool := qb (spec_l1Kids_T a0.op) fun x => br (x != (↑a0.kids.length : Int)) (some false) (br (a0.op != 1) (br (a0.n != 0) (some false) (br (a0.op != 2) (br (!a0.s.toList == (ByteArray.mk #[]).toList) (some false) (qb (spec_l1In_T a0.n 0 1000000) fun x => br (!x) (some false) (br (decide ((↑a0.s.size : Int) > 300)) (some false) (qb (spec_l1Right_L4 n n false 0 a0) fun x => br (isRetE x.fst) (some x.snd.fst.snd.fst) (br (isExt 0 x.fst) (br (x.snd.snd.fst.op != 5) (some true) (qb (idx x.snd.snd.fst.kids 1) fun y => qb (idx x.snd.snd.fst.kids 0) fun y_1 => qb (spec_Before_T y y_1) fun x => some !x)) none))))) (qb (spec_l1In_T a0.n 0 1000000) fun x => br (!x) (some false) (br (decide ((↑a0.s.size : Int) > 300)) (some false) (qb (spec_l1Right_L4 n n false 0 a0) fun x => br (isRetE x.fst) (some x.snd.fst.snd.fst) (br (isExt 0 x.fst) (br (x.snd.snd.fst.op != 5) (some true) (qb (idx x.snd.snd.fst.kids 1) fun y => qb (idx x.snd.snd.fst.kids 0) fun y_1 => qb (spec_Before_T y y_1) fun x => some !x)) none)))))) (br (a0.op != 2) (br (!a0.s.toList == (ByteArray.mk #[]).toList) (some false) (qb (spec_l1In_T a0.n 0 1000000) fun x => br (!x) (some false) (br (decide ((↑a0.s.size : Int) > 300)) (some false) (qb (spec_l1Right_L4 n n false 0 a0) fun x => br (isRetE x.fst) (some x.snd.fst.snd.fst) (br (isExt 0 x.fst) (br (x.snd.snd.fst.op != 5) (some true) (qb (idx x.snd.snd.fst.kids 1) fun y => qb (idx x.snd.snd.fst.kids 0) fun y_1 => qb (spec_Before_T y y_1) fun x => some !x)) none))))) (qb (spec_l1In_T a0.n 0 1000000) fun x => br (!x) (some false) (br (decide ((↑a0.s.size : Int) > 300)) (some false) (qb (spec_l1Right_L4 n n false 0 a0) fun x => br (isRetE x.fst) (some x.snd.fst.snd.fst) (br (isExt 0 x.fst) (br (x.snd.snd.fst.op != 5) (some true) (qb (idx x.snd.snd.fst.kids 1) fun y => qb (idx x.snd.snd.fst.kids 0) fun y_1 => qb (spec_Before_T y y_1) fun x => some !x)) none))))))

theorem spec_l1Right_res (n : Nat) (a0 : Term) : residT Tryz.prog cfg RN n 150 [.ag (Term.cells a0)] (.bool) = spec_l1Right_R n a0 := by kernel_rfl

theorem spec_l1Right_of (n : Nat) (a0 : Term) {y} (h : spec_l1Right_R n a0 = some y) : spec_l1Right_T a0 = some y := presT_of (((spec_l1Right_res n a0)).trans h)

noncomputable def spec_l6Domain_R (n : Nat) (a0 : ByteArray) : Option Bool := qb (spec_l6Domain_L2 n n a0 false 0) fun x => br (isRetE x.fst) (some x.snd.fst.snd.fst) (br (isExt 0 x.fst) (qb (spec_l1In_T (↑(ByteArray.size x.snd.fst.fst) : Int) 1 10) fun x => some x) none)

theorem spec_l6Domain_res (n : Nat) (a0 : ByteArray) : residT Tryz.prog cfg RN n 151 [.str a0] (.bool) = spec_l6Domain_R n a0 := by kernel_rfl

theorem spec_l6Domain_of (n : Nat) (a0 : ByteArray) {y} (h : spec_l6Domain_R n a0 = some y) : spec_l6Domain_T a0 = some y := presT_of (((spec_l6Domain_res n a0)).trans h)

noncomputable def spec_ClientOk_R (n : Nat) (a0 : Client) : Option Bool := qb (spec_l1In_T a0.step 1 10) fun x => br (!x) (some false) (qb (spec_HostOk_T a0.host) fun x => br (!x) (some false) (qb (spec_l1In_T a0.eph 0 1000000) fun x => br (!x) (some false) (qb (spec_l1In_T a0.body 0 1000000) fun x => br (!x) (some false) (qb (spec_l1In_T a0.inn 0 100) fun x => br (!x) (some false) (qb (spec_l1In_T a0.out 0 100) fun x => br (!x) (some false) (qb (spec_Same_T a0.share (Term.mk 0 0 (ByteArray.mk #[]) [])) fun x => br a0.tls (qb (spec_TermOk_T a0.share) fun x_1 => br (!x_1) (some false) (br (!a0.tls) (br (!x) (some false) (br a0.proved (some false) (br (!a0.must) (some true) (qb (spec_l1In_T a0.step 5 9) fun x => br (!x) (some true) (br a0.tls (some a0.proved) (some false)))))) (br (!a0.must) (some true) (qb (spec_l1In_T a0.step 5 9) fun x => br (!x) (some true) (br a0.tls (some a0.proved) (some false)))))) (br (!a0.tls) (br (!x) (some false) (br a0.proved (some false) (br (!a0.must) (some true) (qb (spec_l1In_T a0.step 5 9) fun x => br (!x) (some true) (br a0.tls (some a0.proved) (some false)))))) (br (!a0.must) (some true) (qb (spec_l1In_T a0.step 5 9) fun x => br (!x) (some true) (br a0.tls (some a0.proved) (some false)))))))))))

theorem spec_ClientOk_res (n : Nat) (a0 : Client) : residT Tryz.prog cfg RN n 152 [.ag (Client.cells a0)] (.bool) = spec_ClientOk_R n a0 := by kernel_rfl

theorem spec_ClientOk_of (n : Nat) (a0 : Client) {y} (h : spec_ClientOk_R n a0 = some y) : spec_ClientOk_T a0 = some y := presT_of (((spec_ClientOk_res n a0)).trans h)

noncomputable def laws_toTerm_R (n : Nat) (a0 : Term) : Option Term := qb (laws_toTermS_T a0.kids) fun x => some (Term.mk a0.op a0.n a0.s x)

theorem laws_toTerm_res (n : Nat) (a0 : Term) : residT Tryz.prog cfg RN n 153 [.ag (Term.cells a0)] (.el .term) = laws_toTerm_R n a0 := by kernel_rfl

theorem laws_toTerm_of (n : Nat) (a0 : Term) {y} (h : laws_toTerm_R n a0 = some y) : laws_toTerm_T a0 = some y := presT_of (((laws_toTerm_res n a0)).trans h)

noncomputable def laws_toPolicy_R (n : Nat) (a0 : Policy) : Option Policy := qb (laws_toStringS_T a0.mx) fun x => some (Policy.mk a0.domain a0.mode x a0.til)

theorem laws_toPolicy_res (n : Nat) (a0 : Policy) : residT Tryz.prog cfg RN n 154 [.ag (Policy.cells a0)] (.el .policy) = laws_toPolicy_R n a0 := by kernel_rfl

theorem laws_toPolicy_of (n : Nat) (a0 : Policy) {y} (h : laws_toPolicy_R n a0 = some y) : laws_toPolicy_T a0 = some y := presT_of (((laws_toPolicy_res n a0)).trans h)

noncomputable def laws_toHost_R (n : Nat) (a0 : Host) : Option Host := some a0

theorem laws_toHost_res (n : Nat) (a0 : Host) : residT Tryz.prog cfg RN n 155 [.ag (Host.cells a0)] (.el .host) = laws_toHost_R n a0 := by kernel_rfl

theorem laws_toHost_of (n : Nat) (a0 : Host) {y} (h : laws_toHost_R n a0 = some y) : laws_toHost_T a0 = some y := presT_of (((laws_toHost_res n a0)).trans h)

noncomputable def laws_toLetter_R (n : Nat) (a0 : Letter) : Option Letter := some a0

theorem laws_toLetter_res (n : Nat) (a0 : Letter) : residT Tryz.prog cfg RN n 156 [.ag (Letter.cells a0)] (.el .letter) = laws_toLetter_R n a0 := by kernel_rfl

theorem laws_toLetter_of (n : Nat) (a0 : Letter) {y} (h : laws_toLetter_R n a0 = some y) : laws_toLetter_T a0 = some y := presT_of (((laws_toLetter_res n a0)).trans h)

noncomputable def laws_toCall_R (n : Nat) (a0 : CallD) : Option CallD := qb (laws_toClient_T a0.client) fun x => some (CallD.mk a0.letter (Client.mk x.step x.host x.must x.eph x.body (Term.mk x.share.op x.share.n x.share.s x.share.kids) x.inn x.out x.tls x.proved) a0.good)

theorem laws_toCall_res (n : Nat) (a0 : CallD) : residT Tryz.prog cfg RN n 157 [.ag (CallD.cells a0)] (.el .call) = laws_toCall_R n a0 := by kernel_rfl

theorem laws_toCall_of (n : Nat) (a0 : CallD) {y} (h : laws_toCall_R n a0 = some y) : laws_toCall_T a0 = some y := presT_of (((laws_toCall_res n a0)).trans h)

noncomputable def laws_toTalk_R (n : Nat) (a0 : Talk) : Option Talk := qb (laws_toServer_T a0.server) fun x => some (Talk.mk a0.host (Server.mk x.step x.host x.key x.eph (Term.mk x.cert.op x.cert.n x.cert.s x.cert.kids) (Term.mk x.share.op x.share.n x.share.s x.share.kids) x.inn x.out x.tls x.got))

theorem laws_toTalk_res (n : Nat) (a0 : Talk) : residT Tryz.prog cfg RN n 158 [.ag (Talk.cells a0)] (.el .talk) = laws_toTalk_R n a0 := by kernel_rfl

theorem laws_toTalk_of (n : Nat) (a0 : Talk) {y} (h : laws_toTalk_R n a0 = some y) : laws_toTalk_T a0 = some y := presT_of (((laws_toTalk_res n a0)).trans h)

noncomputable def IndexFunc_WorldOk_1_R (n : Nat) (a0 : List Term) : Option Int := qb (IndexFunc_WorldOk_1_L2 n n false a0 0 (↑a0.length : Int) 0) fun x => br (isRetE x.fst) (some x.snd.fst.fst) (br (isExt 0 x.fst) (some (-1)) none)

theorem IndexFunc_WorldOk_1_res (n : Nat) (a0 : List Term) : residT Tryz.prog cfg RN n 159 [.sl false .term a0, .c (.fn 76 [])] (.int) = IndexFunc_WorldOk_1_R n a0 := by kernel_rfl

theorem IndexFunc_WorldOk_1_of (n : Nat) (a0 : List Term) {y} (h : IndexFunc_WorldOk_1_R n a0 = some y) : slices_IndexFunc_impl_Term_impl_Term_T a0 (.c (.fn 76 [])) = some y := presT_of (((IndexFunc_WorldOk_1_res n a0)).trans h)

noncomputable def IndexFunc_formOk_1_R (n : Nat) (a0 : List Term) : Option Int := qb (IndexFunc_formOk_1_L2 n n false a0 0 (↑a0.length : Int) 0) fun x => br (isRetE x.fst) (some x.snd.fst.fst) (br (isExt 0 x.fst) (some (-1)) none)

theorem IndexFunc_formOk_1_res (n : Nat) (a0 : List Term) : residT Tryz.prog cfg RN n 159 [.sl false .term a0, .c (.fn 207 [])] (.int) = IndexFunc_formOk_1_R n a0 := by kernel_rfl

theorem IndexFunc_formOk_1_of (n : Nat) (a0 : List Term) {y} (h : IndexFunc_formOk_1_R n a0 = some y) : slices_IndexFunc_impl_Term_impl_Term_T a0 (.c (.fn 207 [])) = some y := presT_of (((IndexFunc_formOk_1_res n a0)).trans h)

noncomputable def impl_TermSize_R (n : Nat) (a0 : Term) : Option Int := qb (impl_TermSize_L3 n n 1 false a0.kids (↑a0.kids.length : Int) 0) fun x => br (isRetE x.fst) none (br (isExt 0 x.fst) (some x.snd.fst.fst) none)

theorem impl_TermSize_res (n : Nat) (a0 : Term) : residT Tryz.prog cfg RN n 160 [.ag (Term.cells a0)] (.int) = impl_TermSize_R n a0 := by kernel_rfl

theorem impl_TermSize_of (n : Nat) (a0 : Term) {y} (h : impl_TermSize_R n a0 = some y) : impl_TermSize_T a0 = some y := presT_of (((impl_TermSize_res n a0)).trans h)

noncomputable def impl_formOk_R (n : Nat) (a0 : Term) : Option Bool := qb (impl_arity_T a0.op) fun x => br ((↑a0.kids.length : Int) != x) (some false) (qb (slices_ContainsFunc_impl_Term_impl_Term_T a0.kids (V.c (C.fn 207 []))) fun x => br x (some false) (br (a0.op == 1) (qb (impl_in_T a0.n 0 1000000) fun x => br x (some (a0.s.toList == (ByteArray.mk #[]).toList)) (some false)) (br (a0.op == 2) (br (a0.n == 0) (some (decide ((↑a0.s.size : Int) ≤ 300))) (some false)) (br (a0.op == 5) (br (a0.n == 0) (br (a0.s.toList == (ByteArray.mk #[]).toList) (qb (idx a0.kids 1) fun y => qb (idx a0.kids 0) fun y_1 => qb (impl_Before_T y y_1) fun x => some !x) (some false)) (some false)) (br (a0.n == 0) (some (a0.s.toList == (ByteArray.mk #[]).toList)) (some false))))))

theorem impl_formOk_res (n : Nat) (a0 : Term) : residT Tryz.prog cfg RN n 161 [.ag (Term.cells a0)] (.bool) = impl_formOk_R n a0 := by kernel_rfl

theorem impl_formOk_of (n : Nat) (a0 : Term) {y} (h : impl_formOk_R n a0 = some y) : impl_formOk_T a0 = some y := presT_of (((impl_formOk_res n a0)).trans h)

noncomputable def impl_PolicyOk_R (n : Nat) (a0 : Policy) : Option Bool := qb (impl_domainOk_T a0.domain) fun x => br (!x) (some false) (qb (impl_in_T a0.mode 0 2) fun x => br (!x) (some false) (br (decide ((↑a0.mx.length : Int) > 5)) (some false) (qb (slices_ContainsFunc_string_string_T a0.mx (V.c (C.fn 210 []))) fun x => br x (some false) (br (a0.mode == 0) (qb (impl_isTime_T a0.til) fun x => some x) (br (decide ((↑a0.mx.length : Int) > 0)) (qb (impl_isTime_T a0.til) fun x => some x) (some false))))))

theorem impl_PolicyOk_res (n : Nat) (a0 : Policy) : residT Tryz.prog cfg RN n 162 [.ag (Policy.cells a0)] (.bool) = impl_PolicyOk_R n a0 := by kernel_rfl

theorem impl_PolicyOk_of (n : Nat) (a0 : Policy) {y} (h : impl_PolicyOk_R n a0 = some y) : impl_PolicyOk_T a0 = some y := presT_of (((impl_PolicyOk_res n a0)).trans h)

noncomputable def ContainsFunc_hostsOk_1_R (n : Nat) (a0 : List Host) (c0 : Host) : Option Bool := qb (slices_IndexFunc_impl_Host_impl_Host_T a0 (V.c (C.fn 164 [C.f (F.ep Kind.host c0 0)]))) fun x => some (decide (x ≥ 0))

theorem ContainsFunc_hostsOk_1_res (n : Nat) (a0 : List Host) (c0 : Host) : residT Tryz.prog cfg RN n 163 [.sl false .host a0, .c (.fn 164 [.f (.ep .host c0 0)])] (.bool) = ContainsFunc_hostsOk_1_R n a0 c0 := by kernel_rfl

theorem ContainsFunc_hostsOk_1_of (n : Nat) (a0 : List Host) (c0 : Host) {y} (h : ContainsFunc_hostsOk_1_R n a0 c0 = some y) : slices_ContainsFunc_impl_Host_impl_Host_T a0 (.c (.fn 164 [.f (.ep .host c0 0)])) = some y := presT_of (((ContainsFunc_hostsOk_1_res n a0 c0)).trans h)

noncomputable def IndexFunc_WorldOk_2_R (n : Nat) (a0 : List Letter) : Option Int := qb (IndexFunc_WorldOk_2_L2 n n false a0 0 (↑a0.length : Int) 0) fun x => br (isRetE x.fst) (some x.snd.fst.fst) (br (isExt 0 x.fst) (some (-1)) none)

theorem IndexFunc_WorldOk_2_res (n : Nat) (a0 : List Letter) : residT Tryz.prog cfg RN n 165 [.sl false .letter a0, .c (.fn 81 [])] (.int) = IndexFunc_WorldOk_2_R n a0 := by kernel_rfl

theorem IndexFunc_WorldOk_2_of (n : Nat) (a0 : List Letter) {y} (h : IndexFunc_WorldOk_2_R n a0 = some y) : slices_IndexFunc_impl_Letter_impl_Letter_T a0 (.c (.fn 81 [])) = some y := presT_of (((IndexFunc_WorldOk_2_res n a0)).trans h)

noncomputable def impl_domainOk_R (n : Nat) (a0 : ByteArray) : Option Bool := qb (impl_domainOk_L2 n n a0 false (↑a0.size : Int) 0) fun x => br (isRetE x.fst) (some x.snd.fst.snd.fst) (br (isExt 0 x.fst) (qb (impl_in_T (↑(ByteArray.size x.snd.fst.fst) : Int) 1 10) fun x => some x) none)

theorem impl_domainOk_res (n : Nat) (a0 : ByteArray) : residT Tryz.prog cfg RN n 166 [.str a0] (.bool) = impl_domainOk_R n a0 := by kernel_rfl

theorem impl_domainOk_of (n : Nat) (a0 : ByteArray) {y} (h : impl_domainOk_R n a0 = some y) : impl_domainOk_T a0 = some y := presT_of (((impl_domainOk_res n a0)).trans h)

noncomputable def impl_ClientOk_R (n : Nat) (a0 : Client) : Option Bool := qb (impl_in_T a0.step 1 10) fun x => br (!x) (some false) (qb (impl_HostOk_T a0.host) fun x => br (!x) (some false) (qb (impl_isAtom_T a0.eph) fun x => br (!x) (some false) (qb (impl_isAtom_T a0.body) fun x => br (!x) (some false) (qb (impl_in_T a0.inn 0 100) fun x => br (!x) (some false) (qb (impl_in_T a0.out 0 100) fun x => br (!x) (some false) (br a0.tls (qb (impl_TermOk_T a0.share) fun x => br (!x) (some false) (br (!a0.tls) (qb (impl_noTerm_T a0.share) fun x => br (!x) (some false) (br a0.proved (some false) (br (!a0.must) (some true) (qb (impl_in_T a0.step 5 9) fun x => br (!x) (some true) (br a0.tls (some a0.proved) (some false)))))) (br (!a0.must) (some true) (qb (impl_in_T a0.step 5 9) fun x => br (!x) (some true) (br a0.tls (some a0.proved) (some false)))))) (br (!a0.tls) (qb (impl_noTerm_T a0.share) fun x => br (!x) (some false) (br a0.proved (some false) (br (!a0.must) (some true) (qb (impl_in_T a0.step 5 9) fun x => br (!x) (some true) (br a0.tls (some a0.proved) (some false)))))) (br (!a0.must) (some true) (qb (impl_in_T a0.step 5 9) fun x => br (!x) (some true) (br a0.tls (some a0.proved) (some false)))))))))))

theorem impl_ClientOk_res (n : Nat) (a0 : Client) : residT Tryz.prog cfg RN n 167 [.ag (Client.cells a0)] (.bool) = impl_ClientOk_R n a0 := by kernel_rfl

theorem impl_ClientOk_of (n : Nat) (a0 : Client) {y} (h : impl_ClientOk_R n a0 = some y) : impl_ClientOk_T a0 = some y := presT_of (((impl_ClientOk_res n a0)).trans h)

noncomputable def laws_eqPolicy_R (n : Nat) (a0 : Policy) (a1 : Policy) : Option Bool := br (!a0.domain.toList == a1.domain.toList) (some false) (br (a0.mode != a1.mode) (some false) (qb (laws_eqStringS_T a0.mx a1.mx) fun x => br (!x) (some false) (br (a0.til != a1.til) (some false) (some true))))

theorem laws_eqPolicy_res (n : Nat) (a0 : Policy) (a1 : Policy) : residT Tryz.prog cfg RN n 168 [.ag (Policy.cells a0), .ag (Policy.cells a1)] (.bool) = laws_eqPolicy_R n a0 a1 := by kernel_rfl

theorem laws_eqPolicy_of (n : Nat) (a0 : Policy) (a1 : Policy) {y} (h : laws_eqPolicy_R n a0 a1 = some y) : laws_eqPolicy_T a0 a1 = some y := presT_of (((laws_eqPolicy_res n a0 a1)).trans h)

noncomputable def laws_eqHost_R (n : Nat) (a0 : Host) (a1 : Host) : Option Bool := br (!a0.name.toList == a1.name.toList) (some false) (br (a0.key != a1.key) (some false) (br (!a0.lost == a1.lost) (some false) (some true)))

theorem laws_eqHost_res (n : Nat) (a0 : Host) (a1 : Host) : residT Tryz.prog cfg RN n 169 [.ag (Host.cells a0), .ag (Host.cells a1)] (.bool) = laws_eqHost_R n a0 a1 := by kernel_rfl

theorem laws_eqHost_of (n : Nat) (a0 : Host) (a1 : Host) {y} (h : laws_eqHost_R n a0 a1 = some y) : laws_eqHost_T a0 a1 = some y := presT_of (((laws_eqHost_res n a0 a1)).trans h)

noncomputable def laws_eqLetter_R (n : Nat) (a0 : Letter) (a1 : Letter) : Option Bool := br (!a0.domain.toList == a1.domain.toList) (some false) (br (a0.body != a1.body) (some false) (br (a0.state != a1.state) (some false) (br (a0.tries != a1.tries) (some false) (br (a0.next != a1.next) (some false) (some true)))))

theorem laws_eqLetter_res (n : Nat) (a0 : Letter) (a1 : Letter) : residT Tryz.prog cfg RN n 170 [.ag (Letter.cells a0), .ag (Letter.cells a1)] (.bool) = laws_eqLetter_R n a0 a1 := by kernel_rfl

theorem laws_eqLetter_of (n : Nat) (a0 : Letter) (a1 : Letter) {y} (h : laws_eqLetter_R n a0 a1 = some y) : laws_eqLetter_T a0 a1 = some y := presT_of (((laws_eqLetter_res n a0 a1)).trans h)

noncomputable def laws_eqCall_R (n : Nat) (a0 : CallD) (a1 : CallD) : Option Bool := br (a0.letter != a1.letter) (some false) (qb (laws_eqClient_T a0.client a1.client) fun x => br (!x) (some false) (br (!a0.good == a1.good) (some false) (some true)))

theorem laws_eqCall_res (n : Nat) (a0 : CallD) (a1 : CallD) : residT Tryz.prog cfg RN n 171 [.ag (CallD.cells a0), .ag (CallD.cells a1)] (.bool) = laws_eqCall_R n a0 a1 := by kernel_rfl

theorem laws_eqCall_of (n : Nat) (a0 : CallD) (a1 : CallD) {y} (h : laws_eqCall_R n a0 a1 = some y) : laws_eqCall_T a0 a1 = some y := presT_of (((laws_eqCall_res n a0 a1)).trans h)

noncomputable def laws_eqTalk_R (n : Nat) (a0 : Talk) (a1 : Talk) : Option Bool := br (a0.host != a1.host) (some false) (qb (laws_eqServer_T a0.server a1.server) fun x => br (!x) (some false) (some true))

theorem laws_eqTalk_res (n : Nat) (a0 : Talk) (a1 : Talk) : residT Tryz.prog cfg RN n 172 [.ag (Talk.cells a0), .ag (Talk.cells a1)] (.bool) = laws_eqTalk_R n a0 a1 := by kernel_rfl

theorem laws_eqTalk_of (n : Nat) (a0 : Talk) (a1 : Talk) {y} (h : laws_eqTalk_R n a0 a1 = some y) : laws_eqTalk_T a0 a1 = some y := presT_of (((laws_eqTalk_res n a0 a1)).trans h)

noncomputable def spec_l5Labels_R (n : Nat) (a0 : ByteArray) (a1 : Int) : Option Bool := qb (spec_Labels_T a0) fun x => qb (spec_l5Labels_L3 n n a0 a1 false false x 0) fun x => br (isRetE x.fst) (some x.snd.fst.snd.snd.fst) (br (isExt 0 x.fst) (br (decide ((↑(List.length x.snd.fst.snd.snd.snd.fst) : Int) ≥ x.snd.fst.snd.fst)) (some (decide ((↑(ByteArray.size x.snd.fst.fst) : Int) ≤ 60))) (some false)) none)

theorem spec_l5Labels_res (n : Nat) (a0 : ByteArray) (a1 : Int) : residT Tryz.prog cfg RN n 193 [.str a0, .int a1] (.bool) = spec_l5Labels_R n a0 a1 := by kernel_rfl

theorem spec_l5Labels_of (n : Nat) (a0 : ByteArray) (a1 : Int) {y} (h : spec_l5Labels_R n a0 a1 = some y) : spec_l5Labels_T a0 a1 = some y := presT_of (((spec_l5Labels_res n a0 a1)).trans h)

noncomputable def impl_labelsOk_R (n : Nat) (a0 : ByteArray) (a1 : Int) : Option Bool := qb (impl_Labels_T a0) fun x => br (decide ((↑a0.size : Int) ≤ 60)) (br (decide ((↑(List.length x) : Int) ≥ a1)) (qb (slices_ContainsFunc_string_string_T x (V.c (C.fn 233 []))) fun x => some !x) (some false)) (some false)

theorem impl_labelsOk_res (n : Nat) (a0 : ByteArray) (a1 : Int) : residT Tryz.prog cfg RN n 196 [.str a0, .int a1] (.bool) = impl_labelsOk_R n a0 a1 := by kernel_rfl

theorem impl_labelsOk_of (n : Nat) (a0 : ByteArray) (a1 : Int) {y} (h : impl_labelsOk_R n a0 a1 = some y) : impl_labelsOk_T a0 a1 = some y := presT_of (((impl_labelsOk_res n a0 a1)).trans h)

noncomputable def impl_Same_R (n : Nat) (a0 : Term) (a1 : Term) : Option Bool := br (a0.op == a1.op) (br (a0.n == a1.n) (br (a0.s.toList == a1.s.toList) (qb (slices_EqualFunc_impl_Term_impl_Term_impl_Term_impl_Term_T a0.kids a1.kids (V.c (C.fn 197 []))) fun x => some x) (some false)) (some false)) (some false)

theorem impl_Same_res (n : Nat) (a0 : Term) (a1 : Term) : residT Tryz.prog cfg RN n 197 [.ag (Term.cells a0), .ag (Term.cells a1)] (.bool) = impl_Same_R n a0 a1 := by kernel_rfl

theorem impl_Same_of (n : Nat) (a0 : Term) (a1 : Term) {y} (h : impl_Same_R n a0 a1 = some y) : impl_Same_T a0 a1 = some y := presT_of (((impl_Same_res n a0 a1)).trans h)

noncomputable def IndexFunc_ServerOk_1_R (n : Nat) (a0 : List Int) : Option Int := qb (IndexFunc_ServerOk_1_L2 n n false a0 0 (↑a0.length : Int) 0) fun x => br (isRetE x.fst) (some x.snd.fst.fst) (br (isExt 0 x.fst) (some (-1)) none)

theorem IndexFunc_ServerOk_1_res (n : Nat) (a0 : List Int) : residT Tryz.prog cfg RN n 198 [.sl false .int a0, .c (.fn 141 [])] (.int) = IndexFunc_ServerOk_1_R n a0 := by kernel_rfl

theorem IndexFunc_ServerOk_1_of (n : Nat) (a0 : List Int) {y} (h : IndexFunc_ServerOk_1_R n a0 = some y) : slices_IndexFunc_int_int_T a0 (.c (.fn 141 [])) = some y := presT_of (((IndexFunc_ServerOk_1_res n a0)).trans h)

noncomputable def laws_szClient_R (n : Nat) (a0 : Client) (a1 : Int) : Option Int := br (decide (IntKind.i64.wrap (a1 - (↑a0.host.size : Int)) < 0)) (some (-1)) (qb (laws_szTerm_T a0.share (IntKind.i64.wrap (a1 - (↑a0.host.size : Int)))) fun x => br (decide (x < 0)) (some (-1)) (some x))

theorem laws_szClient_res (n : Nat) (a0 : Client) (a1 : Int) : residT Tryz.prog cfg RN n 199 [.ag (Client.cells a0), .int a1] (.int) = laws_szClient_R n a0 a1 := by kernel_rfl

theorem laws_szClient_of (n : Nat) (a0 : Client) (a1 : Int) {y} (h : laws_szClient_R n a0 a1 = some y) : laws_szClient_T a0 a1 = some y := presT_of (((laws_szClient_res n a0 a1)).trans h)

noncomputable def laws_szServer_R (n : Nat) (a0 : Server) (a1 : Int) : Option Int := br (decide (IntKind.i64.wrap (a1 - (↑a0.host.size : Int)) < 0)) (some (-1)) (qb (laws_szTerm_T a0.cert (IntKind.i64.wrap (a1 - (↑a0.host.size : Int)))) fun x => br (decide (x < 0)) (some (-1)) (qb (laws_szTerm_T a0.share x) fun x => br (decide (x < 0)) (some (-1)) (qb (laws_szIntS_T a0.got x) fun x => br (decide (x < 0)) (some (-1)) (some x))))

theorem laws_szServer_res (n : Nat) (a0 : Server) (a1 : Int) : residT Tryz.prog cfg RN n 200 [.ag (Server.cells a0), .int a1] (.int) = laws_szServer_R n a0 a1 := by kernel_rfl

theorem laws_szServer_of (n : Nat) (a0 : Server) (a1 : Int) {y} (h : laws_szServer_R n a0 a1 = some y) : laws_szServer_T a0 a1 = some y := presT_of (((laws_szServer_res n a0 a1)).trans h)

noncomputable def spec_PatternOk_R (n : Nat) (a0 : ByteArray) : Option Bool := qb (spec_HostOk_T a0) fun x => br x (some true) (qb (spec_l5Star_T a0) fun x => br x (qb (bnds a0.size (some 2) none) fun p => qb (spec_l5Labels_T (a0.extract p.fst p.snd) 1) fun x => some x) (some false))

theorem spec_PatternOk_res (n : Nat) (a0 : ByteArray) : residT Tryz.prog cfg RN n 201 [.str a0] (.bool) = spec_PatternOk_R n a0 := by kernel_rfl

theorem spec_PatternOk_of (n : Nat) (a0 : ByteArray) {y} (h : spec_PatternOk_R n a0 = some y) : spec_PatternOk_T a0 = some y := presT_of (((spec_PatternOk_res n a0)).trans h)

noncomputable def spec_l1Kids_R (n : Nat) (a0 : Int) : Option Int := br (a0 == 1) (some 0) (br (a0 == 2) (some 0) (br (a0 == 4) (some 1) (br (a0 == 6) (some 1) (br (a0 == 3) (some 2) (br (a0 == 5) (some 2) (br (a0 == 7) (some 2) (br (a0 == 8) (some 2) (some (-1)))))))))

theorem spec_l1Kids_res (n : Nat) (a0 : Int) : residT Tryz.prog cfg RN n 202 [.int a0] (.int) = spec_l1Kids_R n a0 := by kernel_rfl

theorem spec_l1Kids_of (n : Nat) (a0 : Int) {y} (h : spec_l1Kids_R n a0 = some y) : spec_l1Kids_T a0 = some y := presT_of (((spec_l1Kids_res n a0)).trans h)

noncomputable def spec_Before_R (n : Nat) (a0 : Term) (a1 : Term) : Option Bool := br (a0.op != a1.op) (some (decide (a0.op < a1.op))) (br (a0.n != a1.n) (some (decide (a0.n < a1.n))) (br (!a0.s.toList == a1.s.toList) (some (Op.bytesLess a0.s.toList a1.s.toList)) (br ((↑a0.kids.length : Int) != (↑a1.kids.length : Int)) (some (decide ((↑a0.kids.length : Int) < (↑a1.kids.length : Int)))) (qb (spec_Before_L10 n n false 0 a0 a1) fun x => br (isRetE x.fst) (some x.snd.fst.fst) (br (isExt 1 x.fst) (some false) none)))))

theorem spec_Before_res (n : Nat) (a0 : Term) (a1 : Term) : residT Tryz.prog cfg RN n 203 [.ag (Term.cells a0), .ag (Term.cells a1)] (.bool) = spec_Before_R n a0 a1 := by kernel_rfl

theorem spec_Before_of (n : Nat) (a0 : Term) (a1 : Term) {y} (h : spec_Before_R n a0 a1 = some y) : spec_Before_T a0 a1 = some y := presT_of (((spec_Before_res n a0 a1)).trans h)

noncomputable def laws_toClient_R (n : Nat) (a0 : Client) : Option Client := qb (laws_toTerm_T a0.share) fun x => some (Client.mk a0.step a0.host a0.must a0.eph a0.body (Term.mk x.op x.n x.s x.kids) a0.inn a0.out a0.tls a0.proved)

theorem laws_toClient_res (n : Nat) (a0 : Client) : residT Tryz.prog cfg RN n 204 [.ag (Client.cells a0)] (.client) = laws_toClient_R n a0 := by kernel_rfl

theorem laws_toClient_of (n : Nat) (a0 : Client) {y} (h : laws_toClient_R n a0 = some y) : laws_toClient_T a0 = some y := presT_of (((laws_toClient_res n a0)).trans h)

noncomputable def laws_toServer_R (n : Nat) (a0 : Server) : Option Server := qb (laws_toTerm_T a0.cert) fun x => qb (laws_toTerm_T a0.share) fun x_1 => qb (laws_toIntS_T a0.got) fun x_2 => some (Server.mk a0.step a0.host a0.key a0.eph (Term.mk x.op x.n x.s x.kids) (Term.mk x_1.op x_1.n x_1.s x_1.kids) a0.inn a0.out a0.tls x_2)

theorem laws_toServer_res (n : Nat) (a0 : Server) : residT Tryz.prog cfg RN n 205 [.ag (Server.cells a0)] (.server) = laws_toServer_R n a0 := by kernel_rfl

theorem laws_toServer_of (n : Nat) (a0 : Server) {y} (h : laws_toServer_R n a0 = some y) : laws_toServer_T a0 = some y := presT_of (((laws_toServer_res n a0)).trans h)

noncomputable def impl_arity_R (n : Nat) (a0 : Int) : Option Int := br (a0 == 1) (some 0) (br (a0 == 2) (some 0) (br (a0 == 4) (some 1) (br (a0 == 6) (some 1) (br (a0 == 3) (some 2) (br (a0 == 5) (some 2) (br (a0 == 7) (some 2) (br (a0 == 8) (some 2) (some (-1)))))))))

theorem impl_arity_res (n : Nat) (a0 : Int) : residT Tryz.prog cfg RN n 206 [.int a0] (.int) = impl_arity_R n a0 := by kernel_rfl

theorem impl_arity_of (n : Nat) (a0 : Int) {y} (h : impl_arity_R n a0 = some y) : impl_arity_T a0 = some y := presT_of (((impl_arity_res n a0)).trans h)

noncomputable def impl_Before_R (n : Nat) (a0 : Term) (a1 : Term) : Option Bool := br (a0.op != a1.op) (some (decide (a0.op < a1.op))) (br (a0.n != a1.n) (some (decide (a0.n < a1.n))) (br (!a0.s.toList == a1.s.toList) (some (Op.bytesLess a0.s.toList a1.s.toList)) (br ((↑a0.kids.length : Int) != (↑a1.kids.length : Int)) (some (decide ((↑a0.kids.length : Int) < (↑a1.kids.length : Int)))) (qb (impl_Before_L10 n n false false a0.kids (↑a0.kids.length : Int) 0 a1) fun x => br (isRetE x.fst) (some x.snd.fst.fst) (br (isExt 1 x.fst) (some false) none)))))

theorem impl_Before_res (n : Nat) (a0 : Term) (a1 : Term) : residT Tryz.prog cfg RN n 208 [.ag (Term.cells a0), .ag (Term.cells a1)] (.bool) = impl_Before_R n a0 a1 := by kernel_rfl

theorem impl_Before_of (n : Nat) (a0 : Term) (a1 : Term) {y} (h : impl_Before_R n a0 a1 = some y) : impl_Before_T a0 a1 = some y := presT_of (((impl_Before_res n a0 a1)).trans h)

noncomputable def ContainsFunc_PolicyOk_1_R (n : Nat) (a0 : List ByteArray) : Option Bool := qb (slices_IndexFunc_string_string_T a0 (V.c (C.fn 210 []))) fun x => some (decide (x ≥ 0))

theorem ContainsFunc_PolicyOk_1_res (n : Nat) (a0 : List ByteArray) : residT Tryz.prog cfg RN n 209 [.sl false .str a0, .c (.fn 210 [])] (.bool) = ContainsFunc_PolicyOk_1_R n a0 := by kernel_rfl

theorem ContainsFunc_PolicyOk_1_of (n : Nat) (a0 : List ByteArray) {y} (h : ContainsFunc_PolicyOk_1_R n a0 = some y) : slices_ContainsFunc_string_string_T a0 (.c (.fn 210 [])) = some y := presT_of (((ContainsFunc_PolicyOk_1_res n a0)).trans h)

noncomputable def ContainsFunc_labelsOk_1_R (n : Nat) (a0 : List ByteArray) : Option Bool := qb (slices_IndexFunc_string_string_T a0 (V.c (C.fn 233 []))) fun x => some (decide (x ≥ 0))

theorem ContainsFunc_labelsOk_1_res (n : Nat) (a0 : List ByteArray) : residT Tryz.prog cfg RN n 209 [.sl false .str a0, .c (.fn 233 [])] (.bool) = ContainsFunc_labelsOk_1_R n a0 := by kernel_rfl

theorem ContainsFunc_labelsOk_1_of (n : Nat) (a0 : List ByteArray) {y} (h : ContainsFunc_labelsOk_1_R n a0 = some y) : slices_ContainsFunc_string_string_T a0 (.c (.fn 233 [])) = some y := presT_of (((ContainsFunc_labelsOk_1_res n a0)).trans h)

noncomputable def impl_PatternOk_R (n : Nat) (a0 : ByteArray) : Option Bool := qb (strings_CutPrefix_T a0 (ByteArray.mk #[42, 46])) fun x => br x.snd.fst (qb (impl_labelsOk_T x.fst 1) fun x => some x) (qb (impl_HostOk_T a0) fun x => some x)

theorem impl_PatternOk_res (n : Nat) (a0 : ByteArray) : residT Tryz.prog cfg RN n 211 [.str a0] (.bool) = impl_PatternOk_R n a0 := by kernel_rfl

theorem impl_PatternOk_of (n : Nat) (a0 : ByteArray) {y} (h : impl_PatternOk_R n a0 = some y) : impl_PatternOk_T a0 = some y := presT_of (((impl_PatternOk_res n a0)).trans h)

noncomputable def IndexFunc_hostsOk_1_R (n : Nat) (a0 : List Host) (c0 : Host) : Option Int := qb (IndexFunc_hostsOk_1_L2 n n false a0 c0 0 (↑a0.length : Int) 0) fun x => br (isRetE x.fst) (some x.snd.fst.fst) (br (isExt 0 x.fst) (some (-1)) none)

theorem IndexFunc_hostsOk_1_res (n : Nat) (a0 : List Host) (c0 : Host) : residT Tryz.prog cfg RN n 212 [.sl false .host a0, .c (.fn 164 [.f (.ep .host c0 0)])] (.int) = IndexFunc_hostsOk_1_R n a0 c0 := by kernel_rfl

theorem IndexFunc_hostsOk_1_of (n : Nat) (a0 : List Host) (c0 : Host) {y} (h : IndexFunc_hostsOk_1_R n a0 c0 = some y) : slices_IndexFunc_impl_Host_impl_Host_T a0 (.c (.fn 164 [.f (.ep .host c0 0)])) = some y := presT_of (((IndexFunc_hostsOk_1_res n a0 c0)).trans h)

noncomputable def laws_eqClient_R (n : Nat) (a0 : Client) (a1 : Client) : Option Bool := br (a0.step != a1.step) (some false) (br (!a0.host.toList == a1.host.toList) (some false) (br (!a0.must == a1.must) (some false) (br (a0.eph != a1.eph) (some false) (br (a0.body != a1.body) (some false) (qb (laws_eqTerm_T a0.share a1.share) fun x => br (!x) (some false) (br (a0.inn != a1.inn) (some false) (br (a0.out != a1.out) (some false) (br (!a0.tls == a1.tls) (some false) (br (!a0.proved == a1.proved) (some false) (some true))))))))))

theorem laws_eqClient_res (n : Nat) (a0 : Client) (a1 : Client) : residT Tryz.prog cfg RN n 213 [.ag (Client.cells a0), .ag (Client.cells a1)] (.bool) = laws_eqClient_R n a0 a1 := by kernel_rfl

theorem laws_eqClient_of (n : Nat) (a0 : Client) (a1 : Client) {y} (h : laws_eqClient_R n a0 a1 = some y) : laws_eqClient_T a0 a1 = some y := presT_of (((laws_eqClient_res n a0 a1)).trans h)

noncomputable def spec_Labels_R (n : Nat) (a0 : ByteArray) : Option (List ByteArray) := qb (spec_Labels_L4 n n a0 [] 0 0) fun x => br (isRetE x.fst) none (br (isExt 0 x.fst) (some x.snd.snd.fst) none)

theorem spec_Labels_res (n : Nat) (a0 : ByteArray) : residT Tryz.prog cfg RN n 228 [.str a0] (.sl .str) = spec_Labels_R n a0 := by kernel_rfl

theorem spec_Labels_of (n : Nat) (a0 : ByteArray) {y} (h : spec_Labels_R n a0 = some y) : spec_Labels_T a0 = some y := presT_of (((spec_Labels_res n a0)).trans h)

noncomputable def spec_l5Label_R (n : Nat) (a0 : ByteArray) : Option Bool := qb (spec_l5Label_L2 n n a0 false 0) fun x => br (isRetE x.fst) (some x.snd.fst.snd.fst) (br (isExt 0 x.fst) (qb (spec_l1In_T (↑(ByteArray.size x.snd.fst.fst) : Int) 1 10) fun x => some x) none)

theorem spec_l5Label_res (n : Nat) (a0 : ByteArray) : residT Tryz.prog cfg RN n 229 [.str a0] (.bool) = spec_l5Label_R n a0 := by kernel_rfl

theorem spec_l5Label_of (n : Nat) (a0 : ByteArray) {y} (h : spec_l5Label_R n a0 = some y) : spec_l5Label_T a0 = some y := presT_of (((spec_l5Label_res n a0)).trans h)

noncomputable def impl_Labels_R (n : Nat) (a0 : ByteArray) : Option (List ByteArray) := qb (strings_Split_T a0 (ByteArray.mk #[46])) fun x => some x

theorem impl_Labels_res (n : Nat) (a0 : ByteArray) : residT Tryz.prog cfg RN n 232 [.str a0] (.sl .str) = impl_Labels_R n a0 := by kernel_rfl

theorem impl_Labels_of (n : Nat) (a0 : ByteArray) {y} (h : impl_Labels_R n a0 = some y) : impl_Labels_T a0 = some y := presT_of (((impl_Labels_res n a0)).trans h)

noncomputable def impl_labelOk_R (n : Nat) (a0 : ByteArray) : Option Bool := qb (impl_labelOk_L2 n n a0 false (↑a0.size : Int) 0) fun x => br (isRetE x.fst) (some x.snd.fst.snd.fst) (br (isExt 0 x.fst) (qb (impl_in_T (↑(ByteArray.size x.snd.fst.fst) : Int) 1 10) fun x => some x) none)

theorem impl_labelOk_res (n : Nat) (a0 : ByteArray) : residT Tryz.prog cfg RN n 234 [.str a0] (.bool) = impl_labelOk_R n a0 := by kernel_rfl

theorem impl_labelOk_of (n : Nat) (a0 : ByteArray) {y} (h : impl_labelOk_R n a0 = some y) : impl_labelOk_T a0 = some y := presT_of (((impl_labelOk_res n a0)).trans h)

noncomputable def EqualFunc_Same_R (n : Nat) (a0 : List Term) (a1 : List Term) : Option Bool := br ((↑a0.length : Int) != (↑a1.length : Int)) (some false) (qb (EqualFunc_Same_L4 n n false a1 false false a0 (↑a0.length : Int) 0) fun x => br (isRetE x.fst) (some x.snd.fst.fst) (br (isExt 0 x.fst) (some true) none))

theorem EqualFunc_Same_res (n : Nat) (a0 : List Term) (a1 : List Term) : residT Tryz.prog cfg RN n 235 [.sl false .term a0, .sl false .term a1, .c (.fn 197 [])] (.bool) = EqualFunc_Same_R n a0 a1 := by kernel_rfl

theorem EqualFunc_Same_of (n : Nat) (a0 : List Term) (a1 : List Term) {y} (h : EqualFunc_Same_R n a0 a1 = some y) : slices_EqualFunc_impl_Term_impl_Term_impl_Term_impl_Term_T a0 a1 (.c (.fn 197 [])) = some y := presT_of (((EqualFunc_Same_res n a0 a1)).trans h)

noncomputable def spec_l5Star_R (n : Nat) (a0 : ByteArray) : Option Bool := br (decide ((↑a0.size : Int) > 2)) (qb (bnds a0.size none (some 2)) fun p => some ((a0.extract p.fst p.snd).toList == (ByteArray.mk #[42, 46]).toList)) (some false)

theorem spec_l5Star_res (n : Nat) (a0 : ByteArray) : residT Tryz.prog cfg RN n 236 [.str a0] (.bool) = spec_l5Star_R n a0 := by kernel_rfl

theorem spec_l5Star_of (n : Nat) (a0 : ByteArray) {y} (h : spec_l5Star_R n a0 = some y) : spec_l5Star_T a0 = some y := presT_of (((spec_l5Star_res n a0)).trans h)

noncomputable def IndexFunc_PolicyOk_1_R (n : Nat) (a0 : List ByteArray) : Option Int := qb (IndexFunc_PolicyOk_1_L2 n n false a0 0 (↑a0.length : Int) 0) fun x => br (isRetE x.fst) (some x.snd.fst.fst) (br (isExt 0 x.fst) (some (-1)) none)

theorem IndexFunc_PolicyOk_1_res (n : Nat) (a0 : List ByteArray) : residT Tryz.prog cfg RN n 237 [.sl false .str a0, .c (.fn 210 [])] (.int) = IndexFunc_PolicyOk_1_R n a0 := by kernel_rfl

theorem IndexFunc_PolicyOk_1_of (n : Nat) (a0 : List ByteArray) {y} (h : IndexFunc_PolicyOk_1_R n a0 = some y) : slices_IndexFunc_string_string_T a0 (.c (.fn 210 [])) = some y := presT_of (((IndexFunc_PolicyOk_1_res n a0)).trans h)

noncomputable def IndexFunc_labelsOk_1_R (n : Nat) (a0 : List ByteArray) : Option Int := qb (IndexFunc_labelsOk_1_L2 n n false a0 0 (↑a0.length : Int) 0) fun x => br (isRetE x.fst) (some x.snd.fst.fst) (br (isExt 0 x.fst) (some (-1)) none)

theorem IndexFunc_labelsOk_1_res (n : Nat) (a0 : List ByteArray) : residT Tryz.prog cfg RN n 237 [.sl false .str a0, .c (.fn 233 [])] (.int) = IndexFunc_labelsOk_1_R n a0 := by kernel_rfl

theorem IndexFunc_labelsOk_1_of (n : Nat) (a0 : List ByteArray) {y} (h : IndexFunc_labelsOk_1_R n a0 = some y) : slices_IndexFunc_string_string_T a0 (.c (.fn 233 [])) = some y := presT_of (((IndexFunc_labelsOk_1_res n a0)).trans h)

noncomputable def strings_CutPrefix_R (n : Nat) (a0 : ByteArray) (a1 : ByteArray) : Option (ByteArray × Bool × Unit) := qb (internal_stringslite_CutPrefix_T a0 a1) fun x => some (x.fst, x.snd.fst, PUnit.unit)

theorem strings_CutPrefix_res (n : Nat) (a0 : ByteArray) (a1 : ByteArray) : residT Tryz.prog cfg RN n 238 [.str a0, .str a1] (.tup [.str, .bool]) = strings_CutPrefix_R n a0 a1 := by kernel_rfl

theorem strings_CutPrefix_of (n : Nat) (a0 : ByteArray) (a1 : ByteArray) {y} (h : strings_CutPrefix_R n a0 a1 = some y) : strings_CutPrefix_T a0 a1 = some y := presT_of (((strings_CutPrefix_res n a0 a1)).trans h)

noncomputable def internal_stringslite_CutPrefix_R (n : Nat) (a0 : ByteArray) (a1 : ByteArray) : Option (ByteArray × Bool × Unit) := qb (internal_stringslite_HasPrefix_T a0 a1) fun x => br (!x) (some (a0, false, PUnit.unit)) (qb (bnds a0.size (some (↑a1.size : Int)) none) fun p => some (a0.extract p.fst p.snd, true, PUnit.unit))

theorem internal_stringslite_CutPrefix_res (n : Nat) (a0 : ByteArray) (a1 : ByteArray) : residT Tryz.prog cfg RN n 245 [.str a0, .str a1] (.tup [.str, .bool]) = internal_stringslite_CutPrefix_R n a0 a1 := by kernel_rfl

theorem internal_stringslite_CutPrefix_of (n : Nat) (a0 : ByteArray) (a1 : ByteArray) {y} (h : internal_stringslite_CutPrefix_R n a0 a1 = some y) : internal_stringslite_CutPrefix_T a0 a1 = some y := presT_of (((internal_stringslite_CutPrefix_res n a0 a1)).trans h)

noncomputable def internal_stringslite_HasPrefix_R (n : Nat) (a0 : ByteArray) (a1 : ByteArray) : Option Bool := br (decide ((↑a0.size : Int) ≥ (↑a1.size : Int))) (qb (bnds a0.size none (some (↑a1.size : Int))) fun p => some ((a0.extract p.fst p.snd).toList == a1.toList)) (some false)

theorem internal_stringslite_HasPrefix_res (n : Nat) (a0 : ByteArray) (a1 : ByteArray) : residT Tryz.prog cfg RN n 256 [.str a0, .str a1] (.bool) = internal_stringslite_HasPrefix_R n a0 a1 := by kernel_rfl

theorem internal_stringslite_HasPrefix_of (n : Nat) (a0 : ByteArray) (a1 : ByteArray) {y} (h : internal_stringslite_HasPrefix_R n a0 a1 = some y) : internal_stringslite_HasPrefix_T a0 a1 = some y := presT_of (((internal_stringslite_HasPrefix_res n a0 a1)).trans h)

theorem spec_WorldOk_round4 (n : Nat) (x2 : Bool) (x3 : Int) (y1 : WorldD) : roundK Tryz.prog cfg RN n 5 17 4 0 (spec_WorldOk_S4 x2 x3 y1) = (br (decide (x3 < (↑y1.known.length : Int))) (qb (idx y1.known x3) fun y => qb (spec_TermOk_T y) fun x => br (!x) (some (Ex.ret, spec_WorldOk_O4 false y1)) (some (Ex.nrm, spec_WorldOk_S4 x2 (IntKind.i64.wrap (x3 + 1)) y1))) (some (Ex.ext 0, spec_WorldOk_O4 x2 y1)) : Option (Ex × St)) := by kernel_rfl

theorem spec_WorldOk_round9 (n : Nat) (x2 : Bool) (x4 : Int) (y1 : WorldD) : roundK Tryz.prog cfg RN n 5 17 9 0 (spec_WorldOk_S9 x2 x4 y1) = (br (decide (x4 < (↑y1.letters.length : Int))) (qb (idx y1.letters x4) fun y => qb (spec_LetterOk_T y) fun x => br (!x) (some (Ex.ret, spec_WorldOk_O9 false y1)) (some (Ex.nrm, spec_WorldOk_S9 x2 (IntKind.i64.wrap (x4 + 1)) y1))) (some (Ex.ext 2, spec_WorldOk_O9 x2 y1)) : Option (Ex × St)) := by kernel_rfl

theorem spec_WorldOk_round14 (n : Nat) (x2 : Bool) (x5 : Int) (y1 : WorldD) : roundK Tryz.prog cfg RN n 5 17 14 0 (spec_WorldOk_S14 x2 x5 y1) = (br (decide (x5 < (↑y1.told.length : Int))) (qb (idx y1.told x5) fun y => qb (spec_l1In_T y 0 1000000) fun x => br (!x) (some (Ex.ret, spec_WorldOk_O14 false y1)) (br (decide (x5 > 0)) (qb (idx y1.told (IntKind.i64.wrap (x5 - 1))) fun y => qb (idx y1.told x5) fun y_1 => br (decide (y ≥ y_1)) (some (Ex.ret, spec_WorldOk_O14 false y1)) (some (Ex.nrm, spec_WorldOk_S14 x2 (IntKind.i64.wrap (x5 + 1)) y1))) (some (Ex.nrm, spec_WorldOk_S14 x2 (IntKind.i64.wrap (x5 + 1)) y1)))) (some (Ex.ext 4, spec_WorldOk_O14 x2 y1)) : Option (Ex × St)) := by kernel_rfl

theorem laws_szStringS_round5 (n : Nat) (t0 : Bool) (x0 : List ByteArray) (x1 : Int) (x4 : Int) (x5 : Int) : roundK Tryz.prog cfg RN n 5 27 5 0 (laws_szStringS_S5 t0 x0 x1 x4 x5) = (br (decide (x5 < (↑x0.length : Int))) (qb (idx x0 x5) fun y => br (decide (IntKind.i64.wrap (x1 - (↑(ByteArray.size y) : Int)) < 0)) (some (Ex.ret, laws_szStringS_O5 (IntKind.i64.wrap (x1 - (↑(ByteArray.size y) : Int))) (-1))) (some (Ex.nrm, laws_szStringS_S5 t0 x0 (IntKind.i64.wrap (x1 - (↑(ByteArray.size y) : Int))) x4 (IntKind.i64.wrap (x5 + 1))))) (some (Ex.ext 0, laws_szStringS_O5 x1 x4)) : Option (Ex × St)) := by kernel_rfl

theorem laws_toStringS_round3 (n : Nat) (t0 : Bool) (x0 : List ByteArray) (x3 : List ByteArray) (x4 : Int) : roundK Tryz.prog cfg RN n 5 29 3 0 (laws_toStringS_S3 t0 x0 x3 x4) = (br (decide (x4 < (↑x0.length : Int))) (qb (idx x0 x4) fun y => qb (idx x3 x4) fun y_1 => qb x3[x4.toNat]? fun x => some (Ex.nrm, laws_toStringS_S3 t0 x0 (x3.set x4.toNat y) (IntKind.i64.wrap (x4 + 1)))) (some (Ex.ext 0, laws_toStringS_O3 x3)) : Option (Ex × St)) := by kernel_rfl

theorem laws_eqStringS_round4 (n : Nat) (t0 : Bool) (x0 : List ByteArray) (t1 : Bool) (x1 : List ByteArray) (x4 : Bool) (x5 : Int) : roundK Tryz.prog cfg RN n 5 31 4 0 (laws_eqStringS_S4 t0 x0 t1 x1 x4 x5) = (br (decide (x5 < (↑x0.length : Int))) (qb (idx x0 x5) fun y => qb (idx x1 x5) fun y_1 => br (!ByteArray.toList y == ByteArray.toList y_1) (some (Ex.ret, laws_eqStringS_O4 false)) (some (Ex.nrm, laws_eqStringS_S4 t0 x0 t1 x1 x4 (IntKind.i64.wrap (x5 + 1))))) (some (Ex.ext 0, laws_eqStringS_O4 x4)) : Option (Ex × St)) := by kernel_rfl

theorem spec_ServerOk_round2 (n : Nat) (x2 : Bool) (x3 : Int) (y1 : Server) : roundK Tryz.prog cfg RN n 5 42 2 0 (spec_ServerOk_S2 x2 x3 y1) = (br (decide (x3 < (↑y1.got.length : Int))) (qb (idx y1.got x3) fun y => qb (spec_l1In_T y 0 1000000) fun x => br (!x) (some (Ex.ret, spec_ServerOk_O2 false y1)) (some (Ex.nrm, spec_ServerOk_S2 x2 (IntKind.i64.wrap (x3 + 1)) y1))) (some (Ex.ext 0, spec_ServerOk_O2 x2 y1)) : Option (Ex × St)) := by kernel_rfl

theorem laws_eqIntS_round4 (n : Nat) (t0 : Bool) (x0 : List Int) (t1 : Bool) (x1 : List Int) (x4 : Bool) (x5 : Int) : roundK Tryz.prog cfg RN n 5 48 4 0 (laws_eqIntS_S4 t0 x0 t1 x1 x4 x5) = (br (decide (x5 < (↑x0.length : Int))) (qb (idx x0 x5) fun y => qb (idx x1 x5) fun y_1 => br (y != y_1) (some (Ex.ret, laws_eqIntS_O4 false)) (some (Ex.nrm, laws_eqIntS_S4 t0 x0 t1 x1 x4 (IntKind.i64.wrap (x5 + 1))))) (some (Ex.ext 0, laws_eqIntS_O4 x4)) : Option (Ex × St)) := by kernel_rfl

theorem laws_szTermS_round5 (n : Nat) (t0 : Bool) (x0 : List Term) (x1 : Int) (x4 : Int) (x5 : Int) : roundK Tryz.prog cfg RN n 5 53 5 0 (laws_szTermS_S5 t0 x0 x1 x4 x5) = (br (decide (x5 < (↑x0.length : Int))) (qb (idx x0 x5) fun y => qb (laws_szTerm_T y x1) fun x => br (decide (x < 0)) (some (Ex.ret, laws_szTermS_O5 x (-1))) (some (Ex.nrm, laws_szTermS_S5 t0 x0 x x4 (IntKind.i64.wrap (x5 + 1))))) (some (Ex.ext 0, laws_szTermS_O5 x1 x4)) : Option (Ex × St)) := by kernel_rfl

theorem laws_szPolicyS_round5 (n : Nat) (t0 : Bool) (x0 : List Policy) (x1 : Int) (x4 : Int) (x5 : Int) : roundK Tryz.prog cfg RN n 5 54 5 0 (laws_szPolicyS_S5 t0 x0 x1 x4 x5) = (br (decide (x5 < (↑x0.length : Int))) (qb (idx x0 x5) fun y => qb (laws_szPolicy_T y x1) fun x => br (decide (x < 0)) (some (Ex.ret, laws_szPolicyS_O5 x (-1))) (some (Ex.nrm, laws_szPolicyS_S5 t0 x0 x x4 (IntKind.i64.wrap (x5 + 1))))) (some (Ex.ext 0, laws_szPolicyS_O5 x1 x4)) : Option (Ex × St)) := by kernel_rfl

theorem laws_szHostS_round5 (n : Nat) (t0 : Bool) (x0 : List Host) (x1 : Int) (x4 : Int) (x5 : Int) : roundK Tryz.prog cfg RN n 5 55 5 0 (laws_szHostS_S5 t0 x0 x1 x4 x5) = (br (decide (x5 < (↑x0.length : Int))) (qb (idx x0 x5) fun y => qb (laws_szHost_T y x1) fun x => br (decide (x < 0)) (some (Ex.ret, laws_szHostS_O5 x (-1))) (some (Ex.nrm, laws_szHostS_S5 t0 x0 x x4 (IntKind.i64.wrap (x5 + 1))))) (some (Ex.ext 0, laws_szHostS_O5 x1 x4)) : Option (Ex × St)) := by kernel_rfl

theorem laws_szLetterS_round5 (n : Nat) (t0 : Bool) (x0 : List Letter) (x1 : Int) (x4 : Int) (x5 : Int) : roundK Tryz.prog cfg RN n 5 56 5 0 (laws_szLetterS_S5 t0 x0 x1 x4 x5) = (br (decide (x5 < (↑x0.length : Int))) (qb (idx x0 x5) fun y => qb (laws_szLetter_T y x1) fun x => br (decide (x < 0)) (some (Ex.ret, laws_szLetterS_O5 x (-1))) (some (Ex.nrm, laws_szLetterS_S5 t0 x0 x x4 (IntKind.i64.wrap (x5 + 1))))) (some (Ex.ext 0, laws_szLetterS_O5 x1 x4)) : Option (Ex × St)) := by kernel_rfl

theorem laws_szCallS_round5 (n : Nat) (t0 : Bool) (x0 : List CallD) (x1 : Int) (x4 : Int) (x5 : Int) : roundK Tryz.prog cfg RN n 5 57 5 0 (laws_szCallS_S5 t0 x0 x1 x4 x5) = (br (decide (x5 < (↑x0.length : Int))) (qb (idx x0 x5) fun y => qb (laws_szCall_T y x1) fun x => br (decide (x < 0)) (some (Ex.ret, laws_szCallS_O5 x (-1))) (some (Ex.nrm, laws_szCallS_S5 t0 x0 x x4 (IntKind.i64.wrap (x5 + 1))))) (some (Ex.ext 0, laws_szCallS_O5 x1 x4)) : Option (Ex × St)) := by kernel_rfl

theorem laws_szTalkS_round5 (n : Nat) (t0 : Bool) (x0 : List Talk) (x1 : Int) (x4 : Int) (x5 : Int) : roundK Tryz.prog cfg RN n 5 58 5 0 (laws_szTalkS_S5 t0 x0 x1 x4 x5) = (br (decide (x5 < (↑x0.length : Int))) (qb (idx x0 x5) fun y => qb (laws_szTalk_T y x1) fun x => br (decide (x < 0)) (some (Ex.ret, laws_szTalkS_O5 x (-1))) (some (Ex.nrm, laws_szTalkS_S5 t0 x0 x x4 (IntKind.i64.wrap (x5 + 1))))) (some (Ex.ext 0, laws_szTalkS_O5 x1 x4)) : Option (Ex × St)) := by kernel_rfl

theorem spec_CacheOk_round2 (n : Nat) (t0 : Bool) (x0 : List Policy) (x2 : Bool) (x3 : Int) : roundK Tryz.prog cfg RN n 5 61 2 0 (spec_CacheOk_S2 t0 x0 x2 x3) = (br (decide (x3 < (↑x0.length : Int))) (qb (idx x0 x3) fun y => qb (spec_PolicyOk_T y) fun x => br (!x) (some (Ex.ret, spec_CacheOk_O2 t0 x0 false)) (br (decide (x3 > 0)) (qb (idx x0 (IntKind.i64.wrap (x3 - 1))) fun y => qb (idx x0 x3) fun y_1 => br (!Op.bytesLess y.domain.toList y_1.domain.toList) (some (Ex.ret, spec_CacheOk_O2 t0 x0 false)) (some (Ex.nrm, spec_CacheOk_S2 t0 x0 x2 (IntKind.i64.wrap (x3 + 1))))) (some (Ex.nrm, spec_CacheOk_S2 t0 x0 x2 (IntKind.i64.wrap (x3 + 1)))))) (some (Ex.ext 0, spec_CacheOk_O2 t0 x0 x2)) : Option (Ex × St)) := by kernel_rfl

theorem spec_l13Hosts_round2 (n : Nat) (t0 : Bool) (x0 : List Host) (x2 : Bool) (x3 : Int) : roundK Tryz.prog cfg RN n 5 62 2 0 (spec_l13Hosts_S2 t0 x0 x2 x3) = (br (decide (x3 < (↑x0.length : Int))) (qb (idx x0 x3) fun y => qb (spec_HostOk_T y.name) fun x => br (!x) (some (Ex.ret, spec_l13Hosts_O2 t0 x0 false)) (qb (idx x0 x3) fun y => qb (spec_l1In_T y.key 0 999) fun x => br (!x) (some (Ex.ret, spec_l13Hosts_O2 t0 x0 false)) (qb (spec_l13Hosts_L7 n n t0 x0 x2 x3 0) fun x => br (isRetE x.fst) (some (Ex.ret, spec_l13Hosts_O2 false x.snd.fst.fst x.snd.fst.snd.fst)) (br (isExt 2 x.fst) (some (Ex.nrm, spec_l13Hosts_S2 false x.snd.fst.fst x.snd.fst.snd.fst (IntKind.i64.wrap (x.snd.fst.snd.snd.fst + 1)))) none)))) (some (Ex.ext 0, spec_l13Hosts_O2 t0 x0 x2)) : Option (Ex × St)) := by kernel_rfl

theorem spec_l13Hosts_round7 (n : Nat) (t0 : Bool) (x0 : List Host) (x2 : Bool) (x3 : Int) (x4 : Int) : roundK Tryz.prog cfg RN n 5 62 7 0 (spec_l13Hosts_S7 t0 x0 x2 x3 x4) = (br (decide (x4 < x3)) (qb (idx x0 x4) fun y => qb (idx x0 x3) fun y_1 => br (y.name.toList == y_1.name.toList) (some (Ex.ret, spec_l13Hosts_O7 t0 x0 false x3)) (some (Ex.nrm, spec_l13Hosts_S7 t0 x0 x2 x3 (IntKind.i64.wrap (x4 + 1))))) (some (Ex.ext 2, spec_l13Hosts_O7 t0 x0 x2 x3)) : Option (Ex × St)) := by kernel_rfl

theorem spec_l13Open_round2 (n : Nat) (x2 : Bool) (x3 : Int) (y1 : WorldD) : roundK Tryz.prog cfg RN n 5 65 2 0 (spec_l13Open_S2 x2 x3 y1) = (br (decide (x3 < (↑y1.calls.length : Int))) (qb (idx y1.calls x3) fun y => qb (spec_l1In_T y.letter 0 (IntKind.i64.wrap ((↑y1.letters.length : Int) - 1))) fun x => br (!x) (some (Ex.ret, spec_l13Open_O2 false y1)) (qb (idx y1.calls x3) fun y => qb (spec_ClientOk_T y.client) fun x => br (!x) (some (Ex.ret, spec_l13Open_O2 false y1)) (some (Ex.nrm, spec_l13Open_S2 x2 (IntKind.i64.wrap (x3 + 1)) y1)))) (some (Ex.ext 0, spec_l13Open_O2 x2 y1)) : Option (Ex × St)) := by kernel_rfl

theorem spec_l13Open_round7 (n : Nat) (x2 : Bool) (x4 : Int) (y1 : WorldD) : roundK Tryz.prog cfg RN n 5 65 7 0 (spec_l13Open_S7 x2 x4 y1) = (br (decide (x4 < (↑y1.talks.length : Int))) (qb (idx y1.talks x4) fun y => qb (spec_l1In_T y.host 0 (IntKind.i64.wrap ((↑y1.hosts.length : Int) - 1))) fun x => br (!x) (some (Ex.ret, spec_l13Open_O7 false y1)) (qb (idx y1.talks x4) fun y => qb (spec_ServerOk_T y.server) fun x => br (!x) (some (Ex.ret, spec_l13Open_O7 false y1)) (some (Ex.nrm, spec_l13Open_S7 x2 (IntKind.i64.wrap (x4 + 1)) y1)))) (some (Ex.ext 2, spec_l13Open_O7 x2 y1)) : Option (Ex × St)) := by kernel_rfl

theorem laws_toTermS_round3 (n : Nat) (t0 : Bool) (x0 : List Term) (x3 : List Term) (x4 : Int) : roundK Tryz.prog cfg RN n 5 66 3 0 (laws_toTermS_S3 t0 x0 x3 x4) = (br (decide (x4 < (↑x0.length : Int))) (qb (idx x0 x4) fun y => qb (laws_toTerm_T y) fun x => qb (idx x3 x4) fun y => qb x3[x4.toNat]? fun x_1 => some (Ex.nrm, laws_toTermS_S3 t0 x0 (x3.set x4.toNat (Term.mk x.op x.n x.s x.kids)) (IntKind.i64.wrap (x4 + 1)))) (some (Ex.ext 0, laws_toTermS_O3 x3)) : Option (Ex × St)) := by kernel_rfl

theorem laws_toPolicyS_round3 (n : Nat) (t0 : Bool) (x0 : List Policy) (x3 : List Policy) (x4 : Int) : roundK Tryz.prog cfg RN n 5 67 3 0 (laws_toPolicyS_S3 t0 x0 x3 x4) = (br (decide (x4 < (↑x0.length : Int))) (qb (idx x0 x4) fun y => qb (laws_toPolicy_T y) fun x => qb (idx x3 x4) fun y => qb x3[x4.toNat]? fun x_1 => some (Ex.nrm, laws_toPolicyS_S3 t0 x0 (x3.set x4.toNat x) (IntKind.i64.wrap (x4 + 1)))) (some (Ex.ext 0, laws_toPolicyS_O3 x3)) : Option (Ex × St)) := by kernel_rfl

theorem laws_toHostS_round3 (n : Nat) (t0 : Bool) (x0 : List Host) (x3 : List Host) (x4 : Int) : roundK Tryz.prog cfg RN n 5 68 3 0 (laws_toHostS_S3 t0 x0 x3 x4) = (br (decide (x4 < (↑x0.length : Int))) (qb (idx x0 x4) fun y => qb (laws_toHost_T y) fun x => qb (idx x3 x4) fun y => qb x3[x4.toNat]? fun x_1 => some (Ex.nrm, laws_toHostS_S3 t0 x0 (x3.set x4.toNat x) (IntKind.i64.wrap (x4 + 1)))) (some (Ex.ext 0, laws_toHostS_O3 x3)) : Option (Ex × St)) := by kernel_rfl

theorem laws_toLetterS_round3 (n : Nat) (t0 : Bool) (x0 : List Letter) (x3 : List Letter) (x4 : Int) : roundK Tryz.prog cfg RN n 5 69 3 0 (laws_toLetterS_S3 t0 x0 x3 x4) = (br (decide (x4 < (↑x0.length : Int))) (qb (idx x0 x4) fun y => qb (laws_toLetter_T y) fun x => qb (idx x3 x4) fun y => qb x3[x4.toNat]? fun x_1 => some (Ex.nrm, laws_toLetterS_S3 t0 x0 (x3.set x4.toNat x) (IntKind.i64.wrap (x4 + 1)))) (some (Ex.ext 0, laws_toLetterS_O3 x3)) : Option (Ex × St)) := by kernel_rfl

theorem laws_toCallS_round3 (n : Nat) (t0 : Bool) (x0 : List CallD) (x3 : List CallD) (x4 : Int) : roundK Tryz.prog cfg RN n 5 70 3 0 (laws_toCallS_S3 t0 x0 x3 x4) = (br (decide (x4 < (↑x0.length : Int))) (qb (idx x0 x4) fun y => qb (laws_toCall_T y) fun x => qb (idx x3 x4) fun y => qb x3[x4.toNat]? fun x_1 => some (Ex.nrm, laws_toCallS_S3 t0 x0 (x3.set x4.toNat (CallD.mk x.letter (Client.mk x.client.step x.client.host x.client.must x.client.eph x.client.body (Term.mk x.client.share.op x.client.share.n x.client.share.s x.client.share.kids) x.client.inn x.client.out x.client.tls x.client.proved) x.good)) (IntKind.i64.wrap (x4 + 1)))) (some (Ex.ext 0, laws_toCallS_O3 x3)) : Option (Ex × St)) := by kernel_rfl

theorem laws_toTalkS_round3 (n : Nat) (t0 : Bool) (x0 : List Talk) (x3 : List Talk) (x4 : Int) : roundK Tryz.prog cfg RN n 5 71 3 0 (laws_toTalkS_S3 t0 x0 x3 x4) = (br (decide (x4 < (↑x0.length : Int))) (qb (idx x0 x4) fun y => qb (laws_toTalk_T y) fun x => qb (idx x3 x4) fun y => qb x3[x4.toNat]? fun x_1 => some (Ex.nrm, laws_toTalkS_S3 t0 x0 (x3.set x4.toNat (Talk.mk x.host (Server.mk x.server.step x.server.host x.server.key x.server.eph (Term.mk x.server.cert.op x.server.cert.n x.server.cert.s x.server.cert.kids) (Term.mk x.server.share.op x.server.share.n x.server.share.s x.server.share.kids) x.server.inn x.server.out x.server.tls x.server.got))) (IntKind.i64.wrap (x4 + 1)))) (some (Ex.ext 0, laws_toTalkS_O3 x3)) : Option (Ex × St)) := by kernel_rfl

theorem laws_toIntS_round3 (n : Nat) (t0 : Bool) (x0 : List Int) (x3 : List Int) (x4 : Int) : roundK Tryz.prog cfg RN n 5 72 3 0 (laws_toIntS_S3 t0 x0 x3 x4) = (br (decide (x4 < (↑x0.length : Int))) (qb (idx x0 x4) fun y => qb (idx x3 x4) fun y_1 => qb x3[x4.toNat]? fun x => some (Ex.nrm, laws_toIntS_S3 t0 x0 (x3.set x4.toNat y) (IntKind.i64.wrap (x4 + 1)))) (some (Ex.ext 0, laws_toIntS_O3 x3)) : Option (Ex × St)) := by kernel_rfl

theorem impl_CacheOk_round2 (n : Nat) (t0 : Bool) (x0 : List Policy) (x2 : Bool) (t5 : Bool) (x5 : List Policy) (x6 : Int) (x7 : Int) : roundK Tryz.prog cfg RN n 5 78 2 0 (impl_CacheOk_S2 t0 x0 x2 t5 x5 x6 x7) = (br (decide (x7 < x6)) (qb (idx x5 x7) fun y => qb (impl_PolicyOk_T y) fun x => br (!x) (some (Ex.ret, impl_CacheOk_O2 t0 x0 false)) (br (decide (x7 > 0)) (qb (idx x0 (IntKind.i64.wrap (x7 - 1))) fun y_1 => br (!Op.bytesLess y_1.domain.toList y.domain.toList) (some (Ex.ret, impl_CacheOk_O2 t0 x0 false)) (some (Ex.nrm, impl_CacheOk_S2 t0 x0 x2 t5 x5 x6 (IntKind.i64.wrap (x7 + 1))))) (some (Ex.nrm, impl_CacheOk_S2 t0 x0 x2 t5 x5 x6 (IntKind.i64.wrap (x7 + 1)))))) (some (Ex.ext 0, impl_CacheOk_O2 t0 x0 x2)) : Option (Ex × St)) := by kernel_rfl

theorem impl_hostsOk_round2 (n : Nat) (t0 : Bool) (x0 : List Host) (x2 : Bool) (t5 : Bool) (x5 : List Host) (x6 : Int) (x7 : Int) : roundK Tryz.prog cfg RN n 5 79 2 0 (impl_hostsOk_S2 t0 x0 x2 t5 x5 x6 x7) = (br (decide (x7 < x6)) (qb (idx x5 x7) fun y => qb (impl_HostOk_T y.name) fun x => br (!x) (some (Ex.ret, impl_hostsOk_O2 t0 x0 false)) (qb (impl_in_T y.key 0 999) fun x => br (!x) (some (Ex.ret, impl_hostsOk_O2 t0 x0 false)) (qb (bnds x0.length none (some x7)) fun p => qb (slices_ContainsFunc_impl_Host_impl_Host_T (List.drop p.fst (List.take p.snd x0)) (V.c (C.fn 164 [C.f (F.ep Kind.host y 0)]))) fun x => br x (some (Ex.ret, impl_hostsOk_O2 t0 x0 false)) (some (Ex.nrm, impl_hostsOk_S2 t0 x0 x2 t5 x5 x6 (IntKind.i64.wrap (x7 + 1))))))) (some (Ex.ext 0, impl_hostsOk_O2 t0 x0 x2)) : Option (Ex × St)) := by kernel_rfl

theorem impl_linesOk_round2 (n : Nat) (x2 : Bool) (t8 : Bool) (x8 : List CallD) (x9 : Int) (x10 : Int) (y1 : WorldD) : roundK Tryz.prog cfg RN n 5 83 2 0 (impl_linesOk_S2 x2 t8 x8 x9 x10 y1) = (br (decide (x10 < x9)) (qb (idx x8 x10) fun y => qb (impl_in_T y.letter 0 (IntKind.i64.wrap ((↑y1.letters.length : Int) - 1))) fun x => br (!x) (some (Ex.ret, impl_linesOk_O2 false y1)) (qb (impl_ClientOk_T y.client) fun x => br (!x) (some (Ex.ret, impl_linesOk_O2 false y1)) (some (Ex.nrm, impl_linesOk_S2 x2 t8 x8 x9 (IntKind.i64.wrap (x10 + 1)) y1)))) (some (Ex.ext 0, impl_linesOk_O2 x2 y1)) : Option (Ex × St)) := by kernel_rfl

theorem impl_linesOk_round8 (n : Nat) (x2 : Bool) (t30 : Bool) (x30 : List Talk) (x31 : Int) (x32 : Int) (y1 : WorldD) : roundK Tryz.prog cfg RN n 5 83 8 0 (impl_linesOk_S8 x2 t30 x30 x31 x32 y1) = (br (decide (x32 < x31)) (qb (idx x30 x32) fun y => qb (impl_in_T y.host 0 (IntKind.i64.wrap ((↑y1.hosts.length : Int) - 1))) fun x => br (!x) (some (Ex.ret, impl_linesOk_O8 false y1)) (qb (impl_ServerOk_T y.server) fun x => br (!x) (some (Ex.ret, impl_linesOk_O8 false y1)) (some (Ex.nrm, impl_linesOk_S8 x2 t30 x30 x31 (IntKind.i64.wrap (x32 + 1)) y1)))) (some (Ex.ext 2, impl_linesOk_O8 x2 y1)) : Option (Ex × St)) := by kernel_rfl

theorem impl_toldOk_round2 (n : Nat) (t0 : Bool) (x0 : List Int) (x2 : Bool) (t5 : Bool) (x5 : List Int) (x6 : Int) (x7 : Int) : roundK Tryz.prog cfg RN n 5 84 2 0 (impl_toldOk_S2 t0 x0 x2 t5 x5 x6 x7) = (br (decide (x7 < x6)) (qb (idx x5 x7) fun y => qb (impl_isAtom_T y) fun x => br (!x) (some (Ex.ret, impl_toldOk_O2 false)) (br (decide (x7 > 0)) (qb (idx x0 (IntKind.i64.wrap (x7 - 1))) fun y_1 => br (decide (y_1 ≥ y)) (some (Ex.ret, impl_toldOk_O2 false)) (some (Ex.nrm, impl_toldOk_S2 t0 x0 x2 t5 x5 x6 (IntKind.i64.wrap (x7 + 1))))) (some (Ex.nrm, impl_toldOk_S2 t0 x0 x2 t5 x5 x6 (IntKind.i64.wrap (x7 + 1)))))) (some (Ex.ext 0, impl_toldOk_O2 x2)) : Option (Ex × St)) := by kernel_rfl

theorem laws_eqTermS_round4 (n : Nat) (t0 : Bool) (x0 : List Term) (t1 : Bool) (x1 : List Term) (x4 : Bool) (x5 : Int) : roundK Tryz.prog cfg RN n 5 85 4 0 (laws_eqTermS_S4 t0 x0 t1 x1 x4 x5) = (br (decide (x5 < (↑x0.length : Int))) (qb (idx x0 x5) fun y => qb (idx x1 x5) fun y_1 => qb (laws_eqTerm_T y y_1) fun x => br (!x) (some (Ex.ret, laws_eqTermS_O4 false)) (some (Ex.nrm, laws_eqTermS_S4 t0 x0 t1 x1 x4 (IntKind.i64.wrap (x5 + 1))))) (some (Ex.ext 0, laws_eqTermS_O4 x4)) : Option (Ex × St)) := by kernel_rfl

theorem laws_eqPolicyS_round4 (n : Nat) (t0 : Bool) (x0 : List Policy) (t1 : Bool) (x1 : List Policy) (x4 : Bool) (x5 : Int) : roundK Tryz.prog cfg RN n 5 86 4 0 (laws_eqPolicyS_S4 t0 x0 t1 x1 x4 x5) = (br (decide (x5 < (↑x0.length : Int))) (qb (idx x0 x5) fun y => qb (idx x1 x5) fun y_1 => qb (laws_eqPolicy_T y y_1) fun x => br (!x) (some (Ex.ret, laws_eqPolicyS_O4 false)) (some (Ex.nrm, laws_eqPolicyS_S4 t0 x0 t1 x1 x4 (IntKind.i64.wrap (x5 + 1))))) (some (Ex.ext 0, laws_eqPolicyS_O4 x4)) : Option (Ex × St)) := by kernel_rfl

theorem laws_eqHostS_round4 (n : Nat) (t0 : Bool) (x0 : List Host) (t1 : Bool) (x1 : List Host) (x4 : Bool) (x5 : Int) : roundK Tryz.prog cfg RN n 5 87 4 0 (laws_eqHostS_S4 t0 x0 t1 x1 x4 x5) = (br (decide (x5 < (↑x0.length : Int))) (qb (idx x0 x5) fun y => qb (idx x1 x5) fun y_1 => qb (laws_eqHost_T y y_1) fun x => br (!x) (some (Ex.ret, laws_eqHostS_O4 false)) (some (Ex.nrm, laws_eqHostS_S4 t0 x0 t1 x1 x4 (IntKind.i64.wrap (x5 + 1))))) (some (Ex.ext 0, laws_eqHostS_O4 x4)) : Option (Ex × St)) := by kernel_rfl

theorem laws_eqLetterS_round4 (n : Nat) (t0 : Bool) (x0 : List Letter) (t1 : Bool) (x1 : List Letter) (x4 : Bool) (x5 : Int) : roundK Tryz.prog cfg RN n 5 88 4 0 (laws_eqLetterS_S4 t0 x0 t1 x1 x4 x5) = (br (decide (x5 < (↑x0.length : Int))) (qb (idx x0 x5) fun y => qb (idx x1 x5) fun y_1 => qb (laws_eqLetter_T y y_1) fun x => br (!x) (some (Ex.ret, laws_eqLetterS_O4 false)) (some (Ex.nrm, laws_eqLetterS_S4 t0 x0 t1 x1 x4 (IntKind.i64.wrap (x5 + 1))))) (some (Ex.ext 0, laws_eqLetterS_O4 x4)) : Option (Ex × St)) := by kernel_rfl

theorem laws_eqCallS_round4 (n : Nat) (t0 : Bool) (x0 : List CallD) (t1 : Bool) (x1 : List CallD) (x4 : Bool) (x5 : Int) : roundK Tryz.prog cfg RN n 5 89 4 0 (laws_eqCallS_S4 t0 x0 t1 x1 x4 x5) = (br (decide (x5 < (↑x0.length : Int))) (qb (idx x0 x5) fun y => qb (idx x1 x5) fun y_1 => qb (laws_eqCall_T y y_1) fun x => br (!x) (some (Ex.ret, laws_eqCallS_O4 false)) (some (Ex.nrm, laws_eqCallS_S4 t0 x0 t1 x1 x4 (IntKind.i64.wrap (x5 + 1))))) (some (Ex.ext 0, laws_eqCallS_O4 x4)) : Option (Ex × St)) := by kernel_rfl

theorem laws_eqTalkS_round4 (n : Nat) (t0 : Bool) (x0 : List Talk) (t1 : Bool) (x1 : List Talk) (x4 : Bool) (x5 : Int) : roundK Tryz.prog cfg RN n 5 90 4 0 (laws_eqTalkS_S4 t0 x0 t1 x1 x4 x5) = (br (decide (x5 < (↑x0.length : Int))) (qb (idx x0 x5) fun y => qb (idx x1 x5) fun y_1 => qb (laws_eqTalk_T y y_1) fun x => br (!x) (some (Ex.ret, laws_eqTalkS_O4 false)) (some (Ex.nrm, laws_eqTalkS_S4 t0 x0 t1 x1 x4 (IntKind.i64.wrap (x5 + 1))))) (some (Ex.ext 0, laws_eqTalkS_O4 x4)) : Option (Ex × St)) := by kernel_rfl

theorem spec_Same_round4 (n : Nat) (x4 : Bool) (x5 : Int) (y2 : Term) (y3 : Term) : roundK Tryz.prog cfg RN n 5 129 4 0 (spec_Same_S4 x4 x5 y2 y3) = (br (decide (x5 < (↑y2.kids.length : Int))) (qb (idx y2.kids x5) fun y => qb (idx y3.kids x5) fun y_1 => qb (spec_Same_T y y_1) fun x => br (!x) (some (Ex.ret, spec_Same_O4 false)) (some (Ex.nrm, spec_Same_S4 x4 (IntKind.i64.wrap (x5 + 1)) y2 y3))) (some (Ex.ext 0, spec_Same_O4 x4)) : Option (Ex × St)) := by kernel_rfl

theorem spec_PolicyOk_round2 (n : Nat) (x2 : Bool) (x3 : Int) (y1 : Policy) : roundK Tryz.prog cfg RN n 5 148 2 0 (spec_PolicyOk_S2 x2 x3 y1) = (br (decide (x3 < (↑y1.mx.length : Int))) (qb (idx y1.mx x3) fun y => qb (spec_PatternOk_T y) fun x => br (!x) (some (Ex.ret, spec_PolicyOk_O2 false y1)) (some (Ex.nrm, spec_PolicyOk_S2 x2 (IntKind.i64.wrap (x3 + 1)) y1))) (some (Ex.ext 0, spec_PolicyOk_O2 x2 y1)) : Option (Ex × St)) := by kernel_rfl

theorem spec_TermSize_round3 (n : Nat) (x3 : Int) (x4 : Int) (y1 : Term) : roundK Tryz.prog cfg RN n 5 149 3 0 (spec_TermSize_S3 x3 x4 y1) = (br (decide (x4 < (↑y1.kids.length : Int))) (qb (idx y1.kids x4) fun y => qb (spec_TermSize_T y) fun x => some (Ex.nrm, spec_TermSize_S3 (IntKind.i64.wrap (x3 + x)) (IntKind.i64.wrap (x4 + 1)) y1)) (some (Ex.ext 0, spec_TermSize_O3 x3)) : Option (Ex × St)) := by kernel_rfl

theorem spec_l1Right_round4 (n : Nat) (x2 : Bool) (x3 : Int) (y1 : Term) : roundK Tryz.prog cfg RN n 5 150 4 0 (spec_l1Right_S4 x2 x3 y1) = (br (decide (x3 < (↑y1.kids.length : Int))) (qb (idx y1.kids x3) fun y => qb (spec_l1Right_T y) fun x => br (!x) (some (Ex.ret, spec_l1Right_O4 false y1)) (some (Ex.nrm, spec_l1Right_S4 x2 (IntKind.i64.wrap (x3 + 1)) y1))) (some (Ex.ext 0, spec_l1Right_O4 x2 y1)) : Option (Ex × St)) := by kernel_rfl

theorem spec_l6Domain_round2 (n : Nat) (x0 : ByteArray) (x2 : Bool) (x3 : Int) : roundK Tryz.prog cfg RN n 5 151 2 0 (spec_l6Domain_S2 x0 x2 x3) = (br (decide (x3 < (↑x0.size : Int))) (qb (byteAt x0 x3) fun b => br (decide (b < 97)) (some (Ex.ret, spec_l6Domain_O2 x0 false)) (qb (byteAt x0 x3) fun b => br (decide (b > 122)) (some (Ex.ret, spec_l6Domain_O2 x0 false)) (some (Ex.nrm, spec_l6Domain_S2 x0 x2 (IntKind.i64.wrap (x3 + 1)))))) (some (Ex.ext 0, spec_l6Domain_O2 x0 x2)) : Option (Ex × St)) := by kernel_rfl

theorem IndexFunc_WorldOk_1_round2 (n : Nat) (t0 : Bool) (x0 : List Term) (x4 : Int) (x7 : Int) (x8 : Int) : roundK Tryz.prog cfg RN n 5 159 2 0 (IndexFunc_WorldOk_1_S2 t0 x0 x4 x7 x8) = (br (decide (x8 < x7)) (qb (idx x0 x8) fun y => qb (impl_TermOk_T y) fun x => br (!x) (some (Ex.ret, IndexFunc_WorldOk_1_O2 x8)) (some (Ex.nrm, IndexFunc_WorldOk_1_S2 t0 x0 x4 x7 (IntKind.i64.wrap (x8 + 1))))) (some (Ex.ext 0, IndexFunc_WorldOk_1_O2 x4)) : Option (Ex × St)) := by kernel_rfl

theorem IndexFunc_formOk_1_round2 (n : Nat) (t0 : Bool) (x0 : List Term) (x4 : Int) (x7 : Int) (x8 : Int) : roundK Tryz.prog cfg RN n 5 159 2 0 (IndexFunc_formOk_1_S2 t0 x0 x4 x7 x8) = (br (decide (x8 < x7)) (qb (idx x0 x8) fun y => qb (impl_formOk_T y) fun x => br (!x) (some (Ex.ret, IndexFunc_formOk_1_O2 x8)) (some (Ex.nrm, IndexFunc_formOk_1_S2 t0 x0 x4 x7 (IntKind.i64.wrap (x8 + 1))))) (some (Ex.ext 0, IndexFunc_formOk_1_O2 x4)) : Option (Ex × St)) := by kernel_rfl

theorem impl_TermSize_round3 (n : Nat) (x3 : Int) (t7 : Bool) (x7 : List Term) (x8 : Int) (x9 : Int) : roundK Tryz.prog cfg RN n 5 160 3 0 (impl_TermSize_S3 x3 t7 x7 x8 x9) = (br (decide (x9 < x8)) (qb (idx x7 x9) fun y => qb (impl_TermSize_T y) fun x => some (Ex.nrm, impl_TermSize_S3 (IntKind.i64.wrap (x3 + x)) t7 x7 x8 (IntKind.i64.wrap (x9 + 1)))) (some (Ex.ext 0, impl_TermSize_O3 x3)) : Option (Ex × St)) := by kernel_rfl

theorem IndexFunc_WorldOk_2_round2 (n : Nat) (t0 : Bool) (x0 : List Letter) (x4 : Int) (x7 : Int) (x8 : Int) : roundK Tryz.prog cfg RN n 5 165 2 0 (IndexFunc_WorldOk_2_S2 t0 x0 x4 x7 x8) = (br (decide (x8 < x7)) (qb (idx x0 x8) fun y => qb (impl_LetterOk_T y) fun x => br (!x) (some (Ex.ret, IndexFunc_WorldOk_2_O2 x8)) (some (Ex.nrm, IndexFunc_WorldOk_2_S2 t0 x0 x4 x7 (IntKind.i64.wrap (x8 + 1))))) (some (Ex.ext 0, IndexFunc_WorldOk_2_O2 x4)) : Option (Ex × St)) := by kernel_rfl

theorem impl_domainOk_round2 (n : Nat) (x0 : ByteArray) (x2 : Bool) (x5 : Int) (x6 : Int) : roundK Tryz.prog cfg RN n 5 166 2 0 (impl_domainOk_S2 x0 x2 x5 x6) = (br (decide (x6 < x5)) (qb (byteAt x0 x6) fun b => br (decide (b < 97)) (some (Ex.ret, impl_domainOk_O2 x0 false)) (qb (byteAt x0 x6) fun b => br (decide (b > 122)) (some (Ex.ret, impl_domainOk_O2 x0 false)) (some (Ex.nrm, impl_domainOk_S2 x0 x2 x5 (IntKind.i64.wrap (x6 + 1)))))) (some (Ex.ext 0, impl_domainOk_O2 x0 x2)) : Option (Ex × St)) := by kernel_rfl

theorem spec_l5Labels_round3 (n : Nat) (x0 : ByteArray) (x1 : Int) (x4 : Bool) (t5 : Bool) (x5 : List ByteArray) (x6 : Int) : roundK Tryz.prog cfg RN n 5 193 3 0 (spec_l5Labels_S3 x0 x1 x4 t5 x5 x6) = (br (decide (x6 < (↑x5.length : Int))) (qb (idx x5 x6) fun y => qb (spec_l5Label_T y) fun x => br (!x) (some (Ex.ret, spec_l5Labels_O3 x0 x1 false t5 x5)) (some (Ex.nrm, spec_l5Labels_S3 x0 x1 x4 t5 x5 (IntKind.i64.wrap (x6 + 1))))) (some (Ex.ext 0, spec_l5Labels_O3 x0 x1 x4 t5 x5)) : Option (Ex × St)) := by kernel_rfl

theorem IndexFunc_ServerOk_1_round2 (n : Nat) (t0 : Bool) (x0 : List Int) (x4 : Int) (x7 : Int) (x8 : Int) : roundK Tryz.prog cfg RN n 5 198 2 0 (IndexFunc_ServerOk_1_S2 t0 x0 x4 x7 x8) = (br (decide (x8 < x7)) (qb (idx x0 x8) fun y => qb (impl_isAtom_T y) fun x => br (!x) (some (Ex.ret, IndexFunc_ServerOk_1_O2 x8)) (some (Ex.nrm, IndexFunc_ServerOk_1_S2 t0 x0 x4 x7 (IntKind.i64.wrap (x8 + 1))))) (some (Ex.ext 0, IndexFunc_ServerOk_1_O2 x4)) : Option (Ex × St)) := by kernel_rfl

theorem spec_Before_round10 (n : Nat) (x4 : Bool) (x5 : Int) (y2 : Term) (y3 : Term) : roundK Tryz.prog cfg RN n 5 203 10 0 (spec_Before_S10 x4 x5 y2 y3) = (br (decide (x5 < (↑y2.kids.length : Int))) (qb (idx y2.kids x5) fun y => qb (idx y3.kids x5) fun y_1 => qb (spec_Same_T y y_1) fun x => br (!x) (qb (idx y2.kids x5) fun y => qb (idx y3.kids x5) fun y_2 => qb (spec_Before_T y y_2) fun x => some (Ex.ret, spec_Before_O10 x)) (some (Ex.nrm, spec_Before_S10 x4 (IntKind.i64.wrap (x5 + 1)) y2 y3))) (some (Ex.ext 1, spec_Before_O10 x4)) : Option (Ex × St)) := by kernel_rfl

theorem impl_Before_round10 (n : Nat) (x4 : Bool) (t56 : Bool) (x56 : List Term) (x57 : Int) (x58 : Int) (y3 : Term) : roundK Tryz.prog cfg RN n 5 208 10 0 (impl_Before_S10 x4 t56 x56 x57 x58 y3) = (br (decide (x58 < x57)) (qb (idx x56 x58) fun y => qb (idx y3.kids x58) fun y_1 => qb (impl_Same_T y y_1) fun x => br (!x) (qb (idx y3.kids x58) fun y_2 => qb (impl_Before_T y y_2) fun x => some (Ex.ret, impl_Before_O10 x)) (some (Ex.nrm, impl_Before_S10 x4 t56 x56 x57 (IntKind.i64.wrap (x58 + 1)) y3))) (some (Ex.ext 1, impl_Before_O10 x4)) : Option (Ex × St)) := by kernel_rfl

theorem IndexFunc_hostsOk_1_round2 (n : Nat) (t0 : Bool) (x0 : List Host) (c0 : Host) (x4 : Int) (x7 : Int) (x8 : Int) : roundK Tryz.prog cfg RN n 5 212 2 0 (IndexFunc_hostsOk_1_S2 t0 x0 c0 x4 x7 x8) = (br (decide (x8 < x7)) (qb (idx x0 x8) fun y => br (y.name.toList == c0.name.toList) (some (Ex.ret, IndexFunc_hostsOk_1_O2 x8)) (some (Ex.nrm, IndexFunc_hostsOk_1_S2 t0 x0 c0 x4 x7 (IntKind.i64.wrap (x8 + 1))))) (some (Ex.ext 0, IndexFunc_hostsOk_1_O2 x4)) : Option (Ex × St)) := by kernel_rfl

theorem spec_Labels_round4 (n : Nat) (x0 : ByteArray) (x3 : List ByteArray) (x4 : Int) (x5 : Int) : roundK Tryz.prog cfg RN n 5 228 4 0 (spec_Labels_S4 x0 x3 x4 x5) = (br (decide (x5 ≤ (↑x0.size : Int))) (br (x5 == (↑x0.size : Int)) (qb (bnds x0.size (some x4) (some x5)) fun p => br (((x3).length + [x0.extract p.fst p.snd].length).ble appMax) (some (Ex.nrm, spec_Labels_S4 x0 (x3 ++ [x0.extract p.fst p.snd]) (IntKind.i64.wrap (x5 + 1)) (IntKind.i64.wrap (x5 + 1)))) none) (qb (byteAt x0 x5) fun b => br (b == 46) (qb (bnds x0.size (some x4) (some x5)) fun p => br (((x3).length + [x0.extract p.fst p.snd].length).ble appMax) (some (Ex.nrm, spec_Labels_S4 x0 (x3 ++ [x0.extract p.fst p.snd]) (IntKind.i64.wrap (x5 + 1)) (IntKind.i64.wrap (x5 + 1)))) none) (some (Ex.nrm, spec_Labels_S4 x0 x3 x4 (IntKind.i64.wrap (x5 + 1)))))) (some (Ex.ext 0, spec_Labels_O4 x3)) : Option (Ex × St)) := by kernel_rfl

theorem spec_l5Label_round2 (n : Nat) (x0 : ByteArray) (x2 : Bool) (x3 : Int) : roundK Tryz.prog cfg RN n 5 229 2 0 (spec_l5Label_S2 x0 x2 x3) = (br (decide (x3 < (↑x0.size : Int))) (qb (byteAt x0 x3) fun b => br (decide (b ≥ 97)) (br (decide (b ≤ 122)) (some (Ex.nrm, spec_l5Label_S2 x0 x2 (IntKind.i64.wrap (x3 + 1)))) (br (decide (b ≥ 48)) (br (decide (b ≤ 57)) (some (Ex.nrm, spec_l5Label_S2 x0 x2 (IntKind.i64.wrap (x3 + 1)))) (br (b == 45) (br (decide (x3 > 0)) (br (!decide (x3 < IntKind.i64.wrap ((↑x0.size : Int) - 1))) (some (Ex.ret, spec_l5Label_O2 x0 false)) (some (Ex.nrm, spec_l5Label_S2 x0 x2 (IntKind.i64.wrap (x3 + 1))))) (some (Ex.ret, spec_l5Label_O2 x0 false))) (some (Ex.ret, spec_l5Label_O2 x0 false)))) (br (b == 45) (br (decide (x3 > 0)) (br (!decide (x3 < IntKind.i64.wrap ((↑x0.size : Int) - 1))) (some (Ex.ret, spec_l5Label_O2 x0 false)) (some (Ex.nrm, spec_l5Label_S2 x0 x2 (IntKind.i64.wrap (x3 + 1))))) (some (Ex.ret, spec_l5Label_O2 x0 false))) (some (Ex.ret, spec_l5Label_O2 x0 false))))) (br (decide (b ≥ 48)) (br (decide (b ≤ 57)) (some (Ex.nrm, spec_l5Label_S2 x0 x2 (IntKind.i64.wrap (x3 + 1)))) (br (b == 45) (br (decide (x3 > 0)) (br (!decide (x3 < IntKind.i64.wrap ((↑x0.size : Int) - 1))) (some (Ex.ret, spec_l5Label_O2 x0 false)) (some (Ex.nrm, spec_l5Label_S2 x0 x2 (IntKind.i64.wrap (x3 + 1))))) (some (Ex.ret, spec_l5Label_O2 x0 false))) (some (Ex.ret, spec_l5Label_O2 x0 false)))) (br (b == 45) (br (decide (x3 > 0)) (br (!decide (x3 < IntKind.i64.wrap ((↑x0.size : Int) - 1))) (some (Ex.ret, spec_l5Label_O2 x0 false)) (some (Ex.nrm, spec_l5Label_S2 x0 x2 (IntKind.i64.wrap (x3 + 1))))) (some (Ex.ret, spec_l5Label_O2 x0 false))) (some (Ex.ret, spec_l5Label_O2 x0 false))))) (some (Ex.ext 0, spec_l5Label_O2 x0 x2)) : Option (Ex × St)) := by kernel_rfl

theorem impl_labelOk_round2 (n : Nat) (x0 : ByteArray) (x2 : Bool) (x6 : Int) (x7 : Int) : roundK Tryz.prog cfg RN n 5 234 2 0 (impl_labelOk_S2 x0 x2 x6 x7) = (br (decide (x7 < x6)) (qb (byteAt x0 x7) fun b => br (decide (b < 97)) (br (decide (b < 48)) (br (b != 45) (some (Ex.ret, impl_labelOk_O2 x0 false)) (br (x7 == 0) (some (Ex.ret, impl_labelOk_O2 x0 false)) (br (x7 == IntKind.i64.wrap ((↑x0.size : Int) - 1)) (some (Ex.ret, impl_labelOk_O2 x0 false)) (some (Ex.nrm, impl_labelOk_S2 x0 x2 x6 (IntKind.i64.wrap (x7 + 1))))))) (br (decide (b > 57)) (br (b != 45) (some (Ex.ret, impl_labelOk_O2 x0 false)) (br (x7 == 0) (some (Ex.ret, impl_labelOk_O2 x0 false)) (br (x7 == IntKind.i64.wrap ((↑x0.size : Int) - 1)) (some (Ex.ret, impl_labelOk_O2 x0 false)) (some (Ex.nrm, impl_labelOk_S2 x0 x2 x6 (IntKind.i64.wrap (x7 + 1))))))) (some (Ex.nrm, impl_labelOk_S2 x0 x2 x6 (IntKind.i64.wrap (x7 + 1)))))) (br (decide (b > 122)) (br (decide (b < 48)) (br (b != 45) (some (Ex.ret, impl_labelOk_O2 x0 false)) (br (x7 == 0) (some (Ex.ret, impl_labelOk_O2 x0 false)) (br (x7 == IntKind.i64.wrap ((↑x0.size : Int) - 1)) (some (Ex.ret, impl_labelOk_O2 x0 false)) (some (Ex.nrm, impl_labelOk_S2 x0 x2 x6 (IntKind.i64.wrap (x7 + 1))))))) (br (decide (b > 57)) (br (b != 45) (some (Ex.ret, impl_labelOk_O2 x0 false)) (br (x7 == 0) (some (Ex.ret, impl_labelOk_O2 x0 false)) (br (x7 == IntKind.i64.wrap ((↑x0.size : Int) - 1)) (some (Ex.ret, impl_labelOk_O2 x0 false)) (some (Ex.nrm, impl_labelOk_S2 x0 x2 x6 (IntKind.i64.wrap (x7 + 1))))))) (some (Ex.nrm, impl_labelOk_S2 x0 x2 x6 (IntKind.i64.wrap (x7 + 1)))))) (some (Ex.nrm, impl_labelOk_S2 x0 x2 x6 (IntKind.i64.wrap (x7 + 1)))))) (some (Ex.ext 0, impl_labelOk_O2 x0 x2)) : Option (Ex × St)) := by kernel_rfl

theorem EqualFunc_Same_round4 (n : Nat) (t1 : Bool) (x1 : List Term) (x6 : Bool) (t15 : Bool) (x15 : List Term) (x16 : Int) (x17 : Int) : roundK Tryz.prog cfg RN n 5 235 4 0 (EqualFunc_Same_S4 t1 x1 x6 t15 x15 x16 x17) = (br (decide (x17 < x16)) (qb (idx x15 x17) fun y => qb (idx x1 x17) fun y_1 => qb (impl_Same_T y y_1) fun x => br (!x) (some (Ex.ret, EqualFunc_Same_O4 false)) (some (Ex.nrm, EqualFunc_Same_S4 t1 x1 x6 t15 x15 x16 (IntKind.i64.wrap (x17 + 1))))) (some (Ex.ext 0, EqualFunc_Same_O4 x6)) : Option (Ex × St)) := by kernel_rfl

theorem IndexFunc_PolicyOk_1_round2 (n : Nat) (t0 : Bool) (x0 : List ByteArray) (x4 : Int) (x7 : Int) (x8 : Int) : roundK Tryz.prog cfg RN n 5 237 2 0 (IndexFunc_PolicyOk_1_S2 t0 x0 x4 x7 x8) = (br (decide (x8 < x7)) (qb (idx x0 x8) fun y => qb (impl_PatternOk_T y) fun x => br (!x) (some (Ex.ret, IndexFunc_PolicyOk_1_O2 x8)) (some (Ex.nrm, IndexFunc_PolicyOk_1_S2 t0 x0 x4 x7 (IntKind.i64.wrap (x8 + 1))))) (some (Ex.ext 0, IndexFunc_PolicyOk_1_O2 x4)) : Option (Ex × St)) := by kernel_rfl

theorem IndexFunc_labelsOk_1_round2 (n : Nat) (t0 : Bool) (x0 : List ByteArray) (x4 : Int) (x7 : Int) (x8 : Int) : roundK Tryz.prog cfg RN n 5 237 2 0 (IndexFunc_labelsOk_1_S2 t0 x0 x4 x7 x8) = (br (decide (x8 < x7)) (qb (idx x0 x8) fun y => qb (impl_labelOk_T y) fun x => br (!x) (some (Ex.ret, IndexFunc_labelsOk_1_O2 x8)) (some (Ex.nrm, IndexFunc_labelsOk_1_S2 t0 x0 x4 x7 (IntKind.i64.wrap (x8 + 1))))) (some (Ex.ext 0, IndexFunc_labelsOk_1_O2 x4)) : Option (Ex × St)) := by kernel_rfl

end Go.Proofs.YtoebfbhcbpiheaaGreatDoor
