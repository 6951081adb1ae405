/-
  What calls and loops answer, as plain data.
-/
import Derived.Test.YtoebfbhcbpiheaaGreatDoorJbCfg
namespace Go.Proofs.YtoebfbhcbpiheaaGreatDoor
open Go.Vm
set_option linter.unusedVariables false

noncomputable def laws_eqServer_T (a0 : Server) (a1 : Server) : Option Bool := presT RN 13 [.ag (Server.cells a0), .ag (Server.cells a1)] (.bool)

noncomputable def laws_szWorld_T (a0 : WorldD) (a1 : Int) : Option Int := presT RN 16 [.ag (WorldD.cells a0), .int a1] (.int)

noncomputable def spec_WorldOk_T (a0 : WorldD) : Option Bool := presT RN 17 [.ag (WorldD.cells a0)] (.bool)

noncomputable def laws_toWorld_T (a0 : WorldD) : Option WorldD := presT RN 18 [.ag (WorldD.cells a0)] (.world)

noncomputable def impl_WorldOk_T (a0 : WorldD) : Option Bool := presT RN 19 [.ag (WorldD.cells a0)] (.bool)

noncomputable def laws_eqWorld_T (a0 : WorldD) (a1 : WorldD) : Option Bool := presT RN 20 [.ag (WorldD.cells a0), .ag (WorldD.cells a1)] (.bool)

noncomputable def spec_JudgeHeld_T (a0 : WorldD) : Option Bool := presT RN 21 [.ag (WorldD.cells a0)] (.bool)

noncomputable def impl_JudgeHeld_T (a0 : WorldD) : Option Bool := presT RN 22 [.ag (WorldD.cells a0)] (.bool)

noncomputable def spec_JudgeTaken_T (a0 : WorldD) : Option Bool := presT RN 23 [.ag (WorldD.cells a0)] (.bool)

noncomputable def impl_JudgeTaken_T (a0 : WorldD) : Option Bool := presT RN 24 [.ag (WorldD.cells a0)] (.bool)

noncomputable def spec_JudgeSecret_T (a0 : WorldD) : Option Bool := presT RN 25 [.ag (WorldD.cells a0)] (.bool)

noncomputable def impl_JudgeSecret_T (a0 : WorldD) : Option Bool := presT RN 26 [.ag (WorldD.cells a0)] (.bool)

noncomputable def laws_szStringS_T (a0 : List ByteArray) (a1 : Int) : Option Int := presT RN 27 [.sl false .str a0, .int a1] (.int)

noncomputable def laws_toStringS_T (a0 : List ByteArray) : Option (List ByteArray) := presT RN 29 [.sl false .str a0] (.sl .str)

noncomputable def laws_eqStringS_T (a0 : List ByteArray) (a1 : List ByteArray) : Option Bool := presT RN 31 [.sl false .str a0, .sl false .str a1] (.bool)

noncomputable def spec_JudgeBook_T (a0 : WorldD) : Option Bool := presT RN 35 [.ag (WorldD.cells a0)] (.bool)

noncomputable def impl_JudgeBook_T (a0 : WorldD) : Option Bool := presT RN 36 [.ag (WorldD.cells a0)] (.bool)

noncomputable def spec_JudgeAll_T (a0 : WorldD) : Option Bool := presT RN 37 [.ag (WorldD.cells a0)] (.bool)

noncomputable def impl_JudgeAll_T (a0 : WorldD) : Option Bool := presT RN 38 [.ag (WorldD.cells a0)] (.bool)

noncomputable def spec_Atom_T (a0 : Int) : Option Term := presT RN 41 [.int a0] (.el .term)

noncomputable def spec_ServerOk_T (a0 : Server) : Option Bool := presT RN 42 [.ag (Server.cells a0)] (.bool)

noncomputable def impl_Atom_T (a0 : Int) : Option Term := presT RN 45 [.int a0] (.el .term)

noncomputable def impl_ServerOk_T (a0 : Server) : Option Bool := presT RN 46 [.ag (Server.cells a0)] (.bool)

noncomputable def laws_eqTerm_T (a0 : Term) (a1 : Term) : Option Bool := presT RN 47 [.ag (Term.cells a0), .ag (Term.cells a1)] (.bool)

noncomputable def laws_eqIntS_T (a0 : List Int) (a1 : List Int) : Option Bool := presT RN 48 [.sl false .int a0, .sl false .int a1] (.bool)

noncomputable def laws_szTermS_T (a0 : List Term) (a1 : Int) : Option Int := presT RN 53 [.sl false .term a0, .int a1] (.int)

noncomputable def laws_szPolicyS_T (a0 : List Policy) (a1 : Int) : Option Int := presT RN 54 [.sl false .policy a0, .int a1] (.int)

noncomputable def laws_szHostS_T (a0 : List Host) (a1 : Int) : Option Int := presT RN 55 [.sl false .host a0, .int a1] (.int)

noncomputable def laws_szLetterS_T (a0 : List Letter) (a1 : Int) : Option Int := presT RN 56 [.sl false .letter a0, .int a1] (.int)

noncomputable def laws_szCallS_T (a0 : List CallD) (a1 : Int) : Option Int := presT RN 57 [.sl false .call a0, .int a1] (.int)

noncomputable def laws_szTalkS_T (a0 : List Talk) (a1 : Int) : Option Int := presT RN 58 [.sl false .talk a0, .int a1] (.int)

noncomputable def laws_szIntS_T (a0 : List Int) (a1 : Int) : Option Int := presT RN 59 [.sl false .int a0, .int a1] (.int)

noncomputable def spec_l1In_T (a0 : Int) (a1 : Int) (a2 : Int) : Option Bool := presT RN 60 [.int a0, .int a1, .int a2] (.bool)

noncomputable def spec_CacheOk_T (a0 : List Policy) : Option Bool := presT RN 61 [.sl false .policy a0] (.bool)

noncomputable def spec_l13Hosts_T (a0 : List Host) : Option Bool := presT RN 62 [.sl false .host a0] (.bool)

noncomputable def spec_TermOk_T (a0 : Term) : Option Bool := presT RN 63 [.ag (Term.cells a0)] (.bool)

noncomputable def spec_LetterOk_T (a0 : Letter) : Option Bool := presT RN 64 [.ag (Letter.cells a0)] (.bool)

noncomputable def spec_l13Open_T (a0 : WorldD) : Option Bool := presT RN 65 [.ag (WorldD.cells a0)] (.bool)

noncomputable def laws_toTermS_T (a0 : List Term) : Option (List Term) := presT RN 66 [.sl false .term a0] (.sl .term)

noncomputable def laws_toPolicyS_T (a0 : List Policy) : Option (List Policy) := presT RN 67 [.sl false .policy a0] (.sl .policy)

noncomputable def laws_toHostS_T (a0 : List Host) : Option (List Host) := presT RN 68 [.sl false .host a0] (.sl .host)

noncomputable def laws_toLetterS_T (a0 : List Letter) : Option (List Letter) := presT RN 69 [.sl false .letter a0] (.sl .letter)

noncomputable def laws_toCallS_T (a0 : List CallD) : Option (List CallD) := presT RN 70 [.sl false .call a0] (.sl .call)

noncomputable def laws_toTalkS_T (a0 : List Talk) : Option (List Talk) := presT RN 71 [.sl false .talk a0] (.sl .talk)

noncomputable def laws_toIntS_T (a0 : List Int) : Option (List Int) := presT RN 72 [.sl false .int a0] (.sl .int)

noncomputable def impl_isTime_T (a0 : Int) : Option Bool := presT RN 73 [.int a0] (.bool)

noncomputable def impl_in_T (a0 : Int) (a1 : Int) (a2 : Int) : Option Bool := presT RN 74 [.int a0, .int a1, .int a2] (.bool)

noncomputable def slices_ContainsFunc_impl_Term_impl_Term_T (a0 : List Term) (a1 : V) : Option Bool := presT RN 75 [.sl false .term a0, a1] (.bool)

noncomputable def impl_TermOk_T (a0 : Term) : Option Bool := presT RN 77 [.ag (Term.cells a0)] (.bool)

noncomputable def impl_CacheOk_T (a0 : List Policy) : Option Bool := presT RN 78 [.sl false .policy a0] (.bool)

noncomputable def impl_hostsOk_T (a0 : List Host) : Option Bool := presT RN 79 [.sl false .host a0] (.bool)

noncomputable def slices_ContainsFunc_impl_Letter_impl_Letter_T (a0 : List Letter) (a1 : V) : Option Bool := presT RN 80 [.sl false .letter a0, a1] (.bool)

noncomputable def impl_LetterOk_T (a0 : Letter) : Option Bool := presT RN 82 [.ag (Letter.cells a0)] (.bool)

noncomputable def impl_linesOk_T (a0 : WorldD) : Option Bool := presT RN 83 [.ag (WorldD.cells a0)] (.bool)

noncomputable def impl_toldOk_T (a0 : List Int) : Option Bool := presT RN 84 [.sl false .int a0] (.bool)

noncomputable def laws_eqTermS_T (a0 : List Term) (a1 : List Term) : Option Bool := presT RN 85 [.sl false .term a0, .sl false .term a1] (.bool)

noncomputable def laws_eqPolicyS_T (a0 : List Policy) (a1 : List Policy) : Option Bool := presT RN 86 [.sl false .policy a0, .sl false .policy a1] (.bool)

noncomputable def laws_eqHostS_T (a0 : List Host) (a1 : List Host) : Option Bool := presT RN 87 [.sl false .host a0, .sl false .host a1] (.bool)

noncomputable def laws_eqLetterS_T (a0 : List Letter) (a1 : List Letter) : Option Bool := presT RN 88 [.sl false .letter a0, .sl false .letter a1] (.bool)

noncomputable def laws_eqCallS_T (a0 : List CallD) (a1 : List CallD) : Option Bool := presT RN 89 [.sl false .call a0, .sl false .call a1] (.bool)

noncomputable def laws_eqTalkS_T (a0 : List Talk) (a1 : List Talk) : Option Bool := presT RN 90 [.sl false .talk a0, .sl false .talk a1] (.bool)

noncomputable def slices_ContainsFunc_impl_Call_impl_Call_T (a0 : List CallD) (a1 : V) : Option Bool := presT RN 91 [.sl false .call a0, a1] (.bool)

noncomputable def spec_l15Got_T (a0 : WorldD) (a1 : Int) : Option Bool := presT RN 93 [.ag (WorldD.cells a0), .int a1] (.bool)

noncomputable def slices_ContainsFunc_impl_Talk_impl_Talk_T (a0 : List Talk) (a1 : V) : Option Bool := presT RN 95 [.sl false .talk a0, a1] (.bool)

noncomputable def slices_Contains_int_int_T (a0 : List Int) (a1 : Int) : Option Bool := presT RN 97 [.sl false .int a0, .int a1] (.bool)

noncomputable def spec_l15In_T (a0 : List Int) (a1 : Int) : Option Bool := presT RN 98 [.sl false .int a0, .int a1] (.bool)

noncomputable def spec_Made_T (a0 : List Term) (a1 : Term) : Option Bool := presT RN 99 [.sl false .term a0, .ag (Term.cells a1)] (.bool)

noncomputable def impl_Made_T (a0 : List Term) (a1 : Term) : Option Bool := presT RN 101 [.sl false .term a0, .ag (Term.cells a1)] (.bool)

noncomputable def spec_Notes_T (a0 : ByteArray) : Option (List Note × Int × Unit) := presT RN 118 [.str a0] (.tup [.sl .note, .int])

noncomputable def spec_Play_T (a0 : List Note) : Option (List Letter) := presT RN 119 [.sl false .note a0] (.sl .letter)

noncomputable def impl_Notes_T (a0 : ByteArray) : Option (List Note × Int × Unit) := presT RN 120 [.str a0] (.tup [.sl .note, .int])

noncomputable def slices_Equal_impl_Letter_impl_Letter_T (a0 : List Letter) (a1 : List Letter) : Option Bool := presT RN 121 [.sl false .letter a0, .sl false .letter a1] (.bool)

noncomputable def impl_Play_T (a0 : List Note) : Option (List Letter) := presT RN 122 [.sl false .note a0] (.sl .letter)

noncomputable def spec_l3Ok_T (a0 : Term) : Option Term := presT RN 127 [.ag (Term.cells a0)] (.el .term)

noncomputable def spec_Same_T (a0 : Term) (a1 : Term) : Option Bool := presT RN 129 [.ag (Term.cells a0), .ag (Term.cells a1)] (.bool)

noncomputable def spec_HostOk_T (a0 : ByteArray) : Option Bool := presT RN 130 [.str a0] (.bool)

noncomputable def impl_right_T (a0 : Term) : Option Term := presT RN 136 [.ag (Term.cells a0)] (.el .term)

noncomputable def impl_HostOk_T (a0 : ByteArray) : Option Bool := presT RN 137 [.str a0] (.bool)

noncomputable def impl_isAtom_T (a0 : Int) : Option Bool := presT RN 138 [.int a0] (.bool)

noncomputable def impl_noTerm_T (a0 : Term) : Option Bool := presT RN 139 [.ag (Term.cells a0)] (.bool)

noncomputable def slices_ContainsFunc_int_int_T (a0 : List Int) (a1 : V) : Option Bool := presT RN 140 [.sl false .int a0, a1] (.bool)

noncomputable def laws_szTerm_T (a0 : Term) (a1 : Int) : Option Int := presT RN 142 [.ag (Term.cells a0), .int a1] (.int)

noncomputable def laws_szPolicy_T (a0 : Policy) (a1 : Int) : Option Int := presT RN 143 [.ag (Policy.cells a0), .int a1] (.int)

noncomputable def laws_szHost_T (a0 : Host) (a1 : Int) : Option Int := presT RN 144 [.ag (Host.cells a0), .int a1] (.int)

noncomputable def laws_szLetter_T (a0 : Letter) (a1 : Int) : Option Int := presT RN 145 [.ag (Letter.cells a0), .int a1] (.int)

noncomputable def laws_szCall_T (a0 : CallD) (a1 : Int) : Option Int := presT RN 146 [.ag (CallD.cells a0), .int a1] (.int)

noncomputable def laws_szTalk_T (a0 : Talk) (a1 : Int) : Option Int := presT RN 147 [.ag (Talk.cells a0), .int a1] (.int)

noncomputable def spec_PolicyOk_T (a0 : Policy) : Option Bool := presT RN 148 [.ag (Policy.cells a0)] (.bool)

noncomputable def spec_TermSize_T (a0 : Term) : Option Int := presT RN 149 [.ag (Term.cells a0)] (.int)

noncomputable def spec_l1Right_T (a0 : Term) : Option Bool := presT RN 150 [.ag (Term.cells a0)] (.bool)

noncomputable def spec_l6Domain_T (a0 : ByteArray) : Option Bool := presT RN 151 [.str a0] (.bool)

noncomputable def spec_ClientOk_T (a0 : Client) : Option Bool := presT RN 152 [.ag (Client.cells a0)] (.bool)

noncomputable def laws_toTerm_T (a0 : Term) : Option Term := presT RN 153 [.ag (Term.cells a0)] (.el .term)

noncomputable def laws_toPolicy_T (a0 : Policy) : Option Policy := presT RN 154 [.ag (Policy.cells a0)] (.el .policy)

noncomputable def laws_toHost_T (a0 : Host) : Option Host := presT RN 155 [.ag (Host.cells a0)] (.el .host)

noncomputable def laws_toLetter_T (a0 : Letter) : Option Letter := presT RN 156 [.ag (Letter.cells a0)] (.el .letter)

noncomputable def laws_toCall_T (a0 : CallD) : Option CallD := presT RN 157 [.ag (CallD.cells a0)] (.el .call)

noncomputable def laws_toTalk_T (a0 : Talk) : Option Talk := presT RN 158 [.ag (Talk.cells a0)] (.el .talk)

noncomputable def slices_IndexFunc_impl_Term_impl_Term_T (a0 : List Term) (a1 : V) : Option Int := presT RN 159 [.sl false .term a0, a1] (.int)

noncomputable def impl_TermSize_T (a0 : Term) : Option Int := presT RN 160 [.ag (Term.cells a0)] (.int)

noncomputable def impl_formOk_T (a0 : Term) : Option Bool := presT RN 161 [.ag (Term.cells a0)] (.bool)

noncomputable def impl_PolicyOk_T (a0 : Policy) : Option Bool := presT RN 162 [.ag (Policy.cells a0)] (.bool)

noncomputable def slices_ContainsFunc_impl_Host_impl_Host_T (a0 : List Host) (a1 : V) : Option Bool := presT RN 163 [.sl false .host a0, a1] (.bool)

noncomputable def slices_IndexFunc_impl_Letter_impl_Letter_T (a0 : List Letter) (a1 : V) : Option Int := presT RN 165 [.sl false .letter a0, a1] (.int)

noncomputable def impl_domainOk_T (a0 : ByteArray) : Option Bool := presT RN 166 [.str a0] (.bool)

noncomputable def impl_ClientOk_T (a0 : Client) : Option Bool := presT RN 167 [.ag (Client.cells a0)] (.bool)

noncomputable def laws_eqPolicy_T (a0 : Policy) (a1 : Policy) : Option Bool := presT RN 168 [.ag (Policy.cells a0), .ag (Policy.cells a1)] (.bool)

noncomputable def laws_eqHost_T (a0 : Host) (a1 : Host) : Option Bool := presT RN 169 [.ag (Host.cells a0), .ag (Host.cells a1)] (.bool)

noncomputable def laws_eqLetter_T (a0 : Letter) (a1 : Letter) : Option Bool := presT RN 170 [.ag (Letter.cells a0), .ag (Letter.cells a1)] (.bool)

noncomputable def laws_eqCall_T (a0 : CallD) (a1 : CallD) : Option Bool := presT RN 171 [.ag (CallD.cells a0), .ag (CallD.cells a1)] (.bool)

noncomputable def laws_eqTalk_T (a0 : Talk) (a1 : Talk) : Option Bool := presT RN 172 [.ag (Talk.cells a0), .ag (Talk.cells a1)] (.bool)

noncomputable def slices_IndexFunc_impl_Call_impl_Call_T (a0 : List CallD) (a1 : V) : Option Int := presT RN 173 [.sl false .call a0, a1] (.int)

noncomputable def slices_IndexFunc_impl_Talk_impl_Talk_T (a0 : List Talk) (a1 : V) : Option Int := presT RN 174 [.sl false .talk a0, a1] (.int)

noncomputable def slices_Index_int_int_T (a0 : List Int) (a1 : Int) : Option Int := presT RN 175 [.sl false .int a0, .int a1] (.int)

noncomputable def spec_l2Made_T (a0 : List Term) (a1 : Term) : Option Bool := presT RN 176 [.sl false .term a0, .ag (Term.cells a1)] (.bool)

noncomputable def impl_made_T (a0 : List Term) (a1 : Term) : Option Bool := presT RN 177 [.sl false .term a0, .ag (Term.cells a1)] (.bool)

noncomputable def spec_NoteOf_T (a0 : ByteArray) : Option (Note × Bool × Unit) := presT RN 182 [.str a0] (.tup [.el .note, .bool])

noncomputable def spec_NoteOk_T (a0 : Note) : Option Bool := presT RN 183 [.ag (Note.cells a0)] (.bool)

noncomputable def spec_LetterTry_T (a0 : Letter) (a1 : Int) : Option (Letter × Bool × Unit) := presT RN 184 [.ag (Letter.cells a0), .int a1] (.tup [.el .letter, .bool])

noncomputable def spec_LetterEnd_T (a0 : Letter) (a1 : Bool) : Option Letter := presT RN 185 [.ag (Letter.cells a0), .bool a1] (.el .letter)

noncomputable def strings_IndexByte_T (a0 : ByteArray) (a1 : Int) : Option Int := presT RN 186 [.str a0, .u8 a1] (.int)

noncomputable def impl_NoteOf_T (a0 : ByteArray) : Option (Note × Bool × Unit) := presT RN 187 [.str a0] (.tup [.el .note, .bool])

noncomputable def impl_NoteOk_T (a0 : Note) : Option Bool := presT RN 188 [.ag (Note.cells a0)] (.bool)

noncomputable def impl_LetterTry_T (a0 : Letter) (a1 : Int) : Option (Letter × Bool × Unit) := presT RN 189 [.ag (Letter.cells a0), .int a1] (.tup [.el .letter, .bool])

noncomputable def impl_LetterEnd_T (a0 : Letter) (a1 : Bool) : Option Letter := presT RN 190 [.ag (Letter.cells a0), .bool a1] (.el .letter)

noncomputable def spec_l1Digits_T (a0 : Int) : Option ByteArray := presT RN 192 [.int a0] (.str)

noncomputable def spec_l5Labels_T (a0 : ByteArray) (a1 : Int) : Option Bool := presT RN 193 [.str a0, .int a1] (.bool)

noncomputable def strconv_Itoa_T (a0 : Int) : Option ByteArray := presT RN 194 [.int a0] (.str)

noncomputable def impl_clone_T (a0 : Term) : Option Term := presT RN 195 [.ag (Term.cells a0)] (.el .term)

noncomputable def impl_labelsOk_T (a0 : ByteArray) (a1 : Int) : Option Bool := presT RN 196 [.str a0, .int a1] (.bool)

noncomputable def impl_Same_T (a0 : Term) (a1 : Term) : Option Bool := presT RN 197 [.ag (Term.cells a0), .ag (Term.cells a1)] (.bool)

noncomputable def slices_IndexFunc_int_int_T (a0 : List Int) (a1 : V) : Option Int := presT RN 198 [.sl false .int a0, a1] (.int)

noncomputable def laws_szClient_T (a0 : Client) (a1 : Int) : Option Int := presT RN 199 [.ag (Client.cells a0), .int a1] (.int)

noncomputable def laws_szServer_T (a0 : Server) (a1 : Int) : Option Int := presT RN 200 [.ag (Server.cells a0), .int a1] (.int)

noncomputable def spec_PatternOk_T (a0 : ByteArray) : Option Bool := presT RN 201 [.str a0] (.bool)

noncomputable def spec_l1Kids_T (a0 : Int) : Option Int := presT RN 202 [.int a0] (.int)

noncomputable def spec_Before_T (a0 : Term) (a1 : Term) : Option Bool := presT RN 203 [.ag (Term.cells a0), .ag (Term.cells a1)] (.bool)

noncomputable def laws_toClient_T (a0 : Client) : Option Client := presT RN 204 [.ag (Client.cells a0)] (.client)

noncomputable def laws_toServer_T (a0 : Server) : Option Server := presT RN 205 [.ag (Server.cells a0)] (.server)

noncomputable def impl_arity_T (a0 : Int) : Option Int := presT RN 206 [.int a0] (.int)

noncomputable def impl_Before_T (a0 : Term) (a1 : Term) : Option Bool := presT RN 208 [.ag (Term.cells a0), .ag (Term.cells a1)] (.bool)

noncomputable def slices_ContainsFunc_string_string_T (a0 : List ByteArray) (a1 : V) : Option Bool := presT RN 209 [.sl false .str a0, a1] (.bool)

noncomputable def impl_PatternOk_T (a0 : ByteArray) : Option Bool := presT RN 211 [.str a0] (.bool)

noncomputable def slices_IndexFunc_impl_Host_impl_Host_T (a0 : List Host) (a1 : V) : Option Int := presT RN 212 [.sl false .host a0, a1] (.int)

noncomputable def laws_eqClient_T (a0 : Client) (a1 : Client) : Option Bool := presT RN 213 [.ag (Client.cells a0), .ag (Client.cells a1)] (.bool)

noncomputable def spec_l2Has_T (a0 : List Term) (a1 : Term) : Option Bool := presT RN 214 [.sl false .term a0, .ag (Term.cells a1)] (.bool)

noncomputable def spec_l2Pub_T (a0 : Term) : Option Term := presT RN 215 [.ag (Term.cells a0)] (.el .term)

noncomputable def impl_hasTerm_T (a0 : List Term) (a1 : Term) : Option Bool := presT RN 216 [.sl false .term a0, .ag (Term.cells a1)] (.bool)

noncomputable def impl_madePub_T (a0 : List Term) (a1 : Term) : Option Bool := presT RN 217 [.sl false .term a0, .ag (Term.cells a1)] (.bool)

noncomputable def spec_l12Words_T (a0 : ByteArray) : Option (List ByteArray) := presT RN 219 [.str a0] (.sl .str)

noncomputable def spec_l12Num_T (a0 : ByteArray) : Option Int := presT RN 220 [.str a0] (.int)

noncomputable def spec_NoteText_T (a0 : Note) : Option ByteArray := presT RN 221 [.ag (Note.cells a0)] (.str)

noncomputable def spec_l1Min_T (a0 : Int) (a1 : Int) : Option Int := presT RN 222 [.int a0, .int a1] (.int)

noncomputable def strings_Split_T (a0 : ByteArray) (a1 : ByteArray) : Option (List ByteArray) := presT RN 224 [.str a0, .str a1] (.sl .str)

noncomputable def strings_TrimSuffix_T (a0 : ByteArray) (a1 : ByteArray) : Option ByteArray := presT RN 225 [.str a0, .str a1] (.str)

noncomputable def impl_noteNumber_T (a0 : List ByteArray) (a1 : Int) : Option Int := presT RN 226 [.sl false .str a0, .int a1] (.int)

noncomputable def impl_NoteText_T (a0 : Note) : Option ByteArray := presT RN 227 [.ag (Note.cells a0)] (.str)

noncomputable def spec_Labels_T (a0 : ByteArray) : Option (List ByteArray) := presT RN 228 [.str a0] (.sl .str)

noncomputable def spec_l5Label_T (a0 : ByteArray) : Option Bool := presT RN 229 [.str a0] (.bool)

noncomputable def impl_cloneAll_T (a0 : List Term) : Option (List Term) := presT RN 231 [.sl false .term a0] (.sl .term)

noncomputable def impl_Labels_T (a0 : ByteArray) : Option (List ByteArray) := presT RN 232 [.str a0] (.sl .str)

noncomputable def impl_labelOk_T (a0 : ByteArray) : Option Bool := presT RN 234 [.str a0] (.bool)

noncomputable def slices_EqualFunc_impl_Term_impl_Term_impl_Term_impl_Term_T (a0 : List Term) (a1 : List Term) (a2 : V) : Option Bool := presT RN 235 [.sl false .term a0, .sl false .term a1, a2] (.bool)

noncomputable def spec_l5Star_T (a0 : ByteArray) : Option Bool := presT RN 236 [.str a0] (.bool)

noncomputable def slices_IndexFunc_string_string_T (a0 : List ByteArray) (a1 : V) : Option Int := presT RN 237 [.sl false .str a0, a1] (.int)

noncomputable def strings_CutPrefix_T (a0 : ByteArray) (a1 : ByteArray) : Option (ByteArray × Bool × Unit) := presT RN 238 [.str a0, .str a1] (.tup [.str, .bool])

noncomputable def internal_stringslite_TrimSuffix_T (a0 : ByteArray) (a1 : ByteArray) : Option ByteArray := presT RN 242 [.str a0, .str a1] (.str)

noncomputable def strconv_Atoi_T (a0 : ByteArray) : Option (Int × Bool × Unit) := presT RN 243 [.str a0] (.tup [.int, .err])

noncomputable def internal_stringslite_CutPrefix_T (a0 : ByteArray) (a1 : ByteArray) : Option (ByteArray × Bool × Unit) := presT RN 245 [.str a0, .str a1] (.tup [.str, .bool])

noncomputable def internal_stringslite_HasSuffix_T (a0 : ByteArray) (a1 : ByteArray) : Option Bool := presT RN 249 [.str a0, .str a1] (.bool)

noncomputable def internal_stringslite_HasPrefix_T (a0 : ByteArray) (a1 : ByteArray) : Option Bool := presT RN 256 [.str a0, .str a1] (.bool)

@[reducible] def spec_WorldOk_S4 (x2 : Bool) (x3 : Int) (y1 : WorldD) : St := ⟨frOf [(1, .c (.bx (.own 1) 0)), (2, .bool x2), (3, .int x3)], hpIds [(.own 1, .box ((WorldD.cells y1).map C.f))]⟩

@[reducible] def spec_WorldOk_O4 (x2 : Bool) (y1 : WorldD) : St := ⟨frOf [(1, .c (.bx (.own 1) 0)), (2, .bool x2)], hpIds [(.own 1, .box ((WorldD.cells y1).map C.f))]⟩

noncomputable def spec_WorldOk_L4 (n q : Nat) (x2 : Bool) (x3 : Int) (y1 : WorldD) : Option (Ex × (Unit × Bool × Unit) × WorldD × Unit) := lpT Tryz.prog cfg RN n 5 17 4 0 q (spec_WorldOk_S4 x2 x3 y1)

theorem spec_WorldOk_L4_of {n q : Nat} {x2 : Bool} {x3 : Int} {y1 : WorldD} {e : Ex} {x2O : Bool} {y1O : WorldD} (h : lp Tryz.prog cfg RN n 5 17 4 0 q (spec_WorldOk_S4 x2 x3 y1) = some (e, spec_WorldOk_O4 x2O y1O)) : spec_WorldOk_L4 n q x2 x3 y1 = some (e, ((), x2O, ()), y1O, ()) := by
  unfold spec_WorldOk_L4 lpT
  rw [h]
  kernel_rfl

theorem spec_WorldOk_L4_if {n q : Nat} {x2 : Bool} {x3 : Int} {y1 : WorldD} {c : Prop} [Decidable c] {e e' : Ex} {x2O : Bool} {y1O : WorldD} {x2P : Bool} {y1P : WorldD} (h : lp Tryz.prog cfg RN n 5 17 4 0 q (spec_WorldOk_S4 x2 x3 y1) = some (if c then (e, spec_WorldOk_O4 x2O y1O) else (e', spec_WorldOk_O4 x2P y1P))) : spec_WorldOk_L4 n q x2 x3 y1 = some (if c then (e, ((), x2O, ()), y1O, ()) else (e', ((), x2P, ()), y1P, ())) := by
  by_cases hc : c
  · rw [if_pos hc] at h ⊢; exact spec_WorldOk_L4_of h
  · rw [if_neg hc] at h ⊢; exact spec_WorldOk_L4_of h

@[reducible] def spec_WorldOk_S9 (x2 : Bool) (x4 : Int) (y1 : WorldD) : St := ⟨frOf [(1, .c (.bx (.own 1) 0)), (2, .bool x2), (4, .int x4)], hpIds [(.own 1, .box ((WorldD.cells y1).map C.f))]⟩

@[reducible] def spec_WorldOk_O9 (x2 : Bool) (y1 : WorldD) : St := ⟨frOf [(1, .c (.bx (.own 1) 0)), (2, .bool x2)], hpIds [(.own 1, .box ((WorldD.cells y1).map C.f))]⟩

noncomputable def spec_WorldOk_L9 (n q : Nat) (x2 : Bool) (x4 : Int) (y1 : WorldD) : Option (Ex × (Unit × Bool × Unit) × WorldD × Unit) := lpT Tryz.prog cfg RN n 5 17 9 0 q (spec_WorldOk_S9 x2 x4 y1)

theorem spec_WorldOk_L9_of {n q : Nat} {x2 : Bool} {x4 : Int} {y1 : WorldD} {e : Ex} {x2O : Bool} {y1O : WorldD} (h : lp Tryz.prog cfg RN n 5 17 9 0 q (spec_WorldOk_S9 x2 x4 y1) = some (e, spec_WorldOk_O9 x2O y1O)) : spec_WorldOk_L9 n q x2 x4 y1 = some (e, ((), x2O, ()), y1O, ()) := by
  unfold spec_WorldOk_L9 lpT
  rw [h]
  kernel_rfl

theorem spec_WorldOk_L9_if {n q : Nat} {x2 : Bool} {x4 : Int} {y1 : WorldD} {c : Prop} [Decidable c] {e e' : Ex} {x2O : Bool} {y1O : WorldD} {x2P : Bool} {y1P : WorldD} (h : lp Tryz.prog cfg RN n 5 17 9 0 q (spec_WorldOk_S9 x2 x4 y1) = some (if c then (e, spec_WorldOk_O9 x2O y1O) else (e', spec_WorldOk_O9 x2P y1P))) : spec_WorldOk_L9 n q x2 x4 y1 = some (if c then (e, ((), x2O, ()), y1O, ()) else (e', ((), x2P, ()), y1P, ())) := by
  by_cases hc : c
  · rw [if_pos hc] at h ⊢; exact spec_WorldOk_L9_of h
  · rw [if_neg hc] at h ⊢; exact spec_WorldOk_L9_of h

@[reducible] def spec_WorldOk_S14 (x2 : Bool) (x5 : Int) (y1 : WorldD) : St := ⟨frOf [(1, .c (.bx (.own 1) 0)), (2, .bool x2), (5, .int x5)], hpIds [(.own 1, .box ((WorldD.cells y1).map C.f))]⟩

@[reducible] def spec_WorldOk_O14 (x2 : Bool) (y1 : WorldD) : St := ⟨frOf [(1, .c (.bx (.own 1) 0)), (2, .bool x2)], hpIds [(.own 1, .box ((WorldD.cells y1).map C.f))]⟩

noncomputable def spec_WorldOk_L14 (n q : Nat) (x2 : Bool) (x5 : Int) (y1 : WorldD) : Option (Ex × (Unit × Bool × Unit) × WorldD × Unit) := lpT Tryz.prog cfg RN n 5 17 14 0 q (spec_WorldOk_S14 x2 x5 y1)

theorem spec_WorldOk_L14_of {n q : Nat} {x2 : Bool} {x5 : Int} {y1 : WorldD} {e : Ex} {x2O : Bool} {y1O : WorldD} (h : lp Tryz.prog cfg RN n 5 17 14 0 q (spec_WorldOk_S14 x2 x5 y1) = some (e, spec_WorldOk_O14 x2O y1O)) : spec_WorldOk_L14 n q x2 x5 y1 = some (e, ((), x2O, ()), y1O, ()) := by
  unfold spec_WorldOk_L14 lpT
  rw [h]
  kernel_rfl

theorem spec_WorldOk_L14_if {n q : Nat} {x2 : Bool} {x5 : Int} {y1 : WorldD} {c : Prop} [Decidable c] {e e' : Ex} {x2O : Bool} {y1O : WorldD} {x2P : Bool} {y1P : WorldD} (h : lp Tryz.prog cfg RN n 5 17 14 0 q (spec_WorldOk_S14 x2 x5 y1) = some (if c then (e, spec_WorldOk_O14 x2O y1O) else (e', spec_WorldOk_O14 x2P y1P))) : spec_WorldOk_L14 n q x2 x5 y1 = some (if c then (e, ((), x2O, ()), y1O, ()) else (e', ((), x2P, ()), y1P, ())) := by
  by_cases hc : c
  · rw [if_pos hc] at h ⊢; exact spec_WorldOk_L14_of h
  · rw [if_neg hc] at h ⊢; exact spec_WorldOk_L14_of h

@[reducible] def spec_JudgeHeld_S4 (x2 : Bool) (x3 : Int) (y1 : WorldD) : St := ⟨frOf [(1, .c (.bx (.own 1) 0)), (2, .bool x2), (3, .int x3)], hpIds [(.own 1, .box ((WorldD.cells y1).map C.f))]⟩

@[reducible] def spec_JudgeHeld_O4 (x2 : Bool) : St := ⟨frOf [(2, .bool x2)], hpIds []⟩

noncomputable def spec_JudgeHeld_L4 (n q : Nat) (x2 : Bool) (x3 : Int) (y1 : WorldD) : Option (Ex × (Bool × Unit) × Unit) := lpT Tryz.prog cfg RN n 5 21 4 0 q (spec_JudgeHeld_S4 x2 x3 y1)

theorem spec_JudgeHeld_L4_of {n q : Nat} {x2 : Bool} {x3 : Int} {y1 : WorldD} {e : Ex} {x2O : Bool} (h : lp Tryz.prog cfg RN n 5 21 4 0 q (spec_JudgeHeld_S4 x2 x3 y1) = some (e, spec_JudgeHeld_O4 x2O)) : spec_JudgeHeld_L4 n q x2 x3 y1 = some (e, (x2O, ()), ()) := by
  unfold spec_JudgeHeld_L4 lpT
  rw [h]
  kernel_rfl

theorem spec_JudgeHeld_L4_if {n q : Nat} {x2 : Bool} {x3 : Int} {y1 : WorldD} {c : Prop} [Decidable c] {e e' : Ex} {x2O : Bool} {x2P : Bool} (h : lp Tryz.prog cfg RN n 5 21 4 0 q (spec_JudgeHeld_S4 x2 x3 y1) = some (if c then (e, spec_JudgeHeld_O4 x2O) else (e', spec_JudgeHeld_O4 x2P))) : spec_JudgeHeld_L4 n q x2 x3 y1 = some (if c then (e, (x2O, ()), ()) else (e', (x2P, ()), ())) := by
  by_cases hc : c
  · rw [if_pos hc] at h ⊢; exact spec_JudgeHeld_L4_of h
  · rw [if_neg hc] at h ⊢; exact spec_JudgeHeld_L4_of h

@[reducible] def spec_JudgeTaken_S4 (x2 : Bool) (x3 : Int) (y1 : WorldD) : St := ⟨frOf [(1, .c (.bx (.own 1) 0)), (2, .bool x2), (3, .int x3)], hpIds [(.own 1, .box ((WorldD.cells y1).map C.f))]⟩

@[reducible] def spec_JudgeTaken_O4 (x2 : Bool) : St := ⟨frOf [(2, .bool x2)], hpIds []⟩

noncomputable def spec_JudgeTaken_L4 (n q : Nat) (x2 : Bool) (x3 : Int) (y1 : WorldD) : Option (Ex × (Bool × Unit) × Unit) := lpT Tryz.prog cfg RN n 5 23 4 0 q (spec_JudgeTaken_S4 x2 x3 y1)

theorem spec_JudgeTaken_L4_of {n q : Nat} {x2 : Bool} {x3 : Int} {y1 : WorldD} {e : Ex} {x2O : Bool} (h : lp Tryz.prog cfg RN n 5 23 4 0 q (spec_JudgeTaken_S4 x2 x3 y1) = some (e, spec_JudgeTaken_O4 x2O)) : spec_JudgeTaken_L4 n q x2 x3 y1 = some (e, (x2O, ()), ()) := by
  unfold spec_JudgeTaken_L4 lpT
  rw [h]
  kernel_rfl

theorem spec_JudgeTaken_L4_if {n q : Nat} {x2 : Bool} {x3 : Int} {y1 : WorldD} {c : Prop} [Decidable c] {e e' : Ex} {x2O : Bool} {x2P : Bool} (h : lp Tryz.prog cfg RN n 5 23 4 0 q (spec_JudgeTaken_S4 x2 x3 y1) = some (if c then (e, spec_JudgeTaken_O4 x2O) else (e', spec_JudgeTaken_O4 x2P))) : spec_JudgeTaken_L4 n q x2 x3 y1 = some (if c then (e, (x2O, ()), ()) else (e', (x2P, ()), ())) := by
  by_cases hc : c
  · rw [if_pos hc] at h ⊢; exact spec_JudgeTaken_L4_of h
  · rw [if_neg hc] at h ⊢; exact spec_JudgeTaken_L4_of h

@[reducible] def spec_JudgeSecret_S4 (x2 : Bool) (x3 : Int) (y1 : WorldD) : St := ⟨frOf [(1, .c (.bx (.own 1) 0)), (2, .bool x2), (3, .int x3)], hpIds [(.own 1, .box ((WorldD.cells y1).map C.f))]⟩

@[reducible] def spec_JudgeSecret_O4 (x2 : Bool) : St := ⟨frOf [(2, .bool x2)], hpIds []⟩

noncomputable def spec_JudgeSecret_L4 (n q : Nat) (x2 : Bool) (x3 : Int) (y1 : WorldD) : Option (Ex × (Bool × Unit) × Unit) := lpT Tryz.prog cfg RN n 5 25 4 0 q (spec_JudgeSecret_S4 x2 x3 y1)

theorem spec_JudgeSecret_L4_of {n q : Nat} {x2 : Bool} {x3 : Int} {y1 : WorldD} {e : Ex} {x2O : Bool} (h : lp Tryz.prog cfg RN n 5 25 4 0 q (spec_JudgeSecret_S4 x2 x3 y1) = some (e, spec_JudgeSecret_O4 x2O)) : spec_JudgeSecret_L4 n q x2 x3 y1 = some (e, (x2O, ()), ()) := by
  unfold spec_JudgeSecret_L4 lpT
  rw [h]
  kernel_rfl

theorem spec_JudgeSecret_L4_if {n q : Nat} {x2 : Bool} {x3 : Int} {y1 : WorldD} {c : Prop} [Decidable c] {e e' : Ex} {x2O : Bool} {x2P : Bool} (h : lp Tryz.prog cfg RN n 5 25 4 0 q (spec_JudgeSecret_S4 x2 x3 y1) = some (if c then (e, spec_JudgeSecret_O4 x2O) else (e', spec_JudgeSecret_O4 x2P))) : spec_JudgeSecret_L4 n q x2 x3 y1 = some (if c then (e, (x2O, ()), ()) else (e', (x2P, ()), ())) := by
  by_cases hc : c
  · rw [if_pos hc] at h ⊢; exact spec_JudgeSecret_L4_of h
  · rw [if_neg hc] at h ⊢; exact spec_JudgeSecret_L4_of h

@[reducible] def laws_szStringS_S5 (t0 : Bool) (x0 : List ByteArray) (x1 : Int) (x4 : Int) (x5 : Int) : St := ⟨frOf [(0, .sl t0 .str x0), (1, .int x1), (4, .int x4), (5, .int x5)], hpIds []⟩

@[reducible] def laws_szStringS_O5 (x1 : Int) (x4 : Int) : St := ⟨frOf [(1, .int x1), (4, .int x4)], hpIds []⟩

noncomputable def laws_szStringS_L5 (n q : Nat) (t0 : Bool) (x0 : List ByteArray) (x1 : Int) (x4 : Int) (x5 : Int) : Option (Ex × (Int × Int × Unit) × Unit) := lpT Tryz.prog cfg RN n 5 27 5 0 q (laws_szStringS_S5 t0 x0 x1 x4 x5)

theorem laws_szStringS_L5_of {n q : Nat} {t0 : Bool} {x0 : List ByteArray} {x1 : Int} {x4 : Int} {x5 : Int} {e : Ex} {x1O : Int} {x4O : Int} (h : lp Tryz.prog cfg RN n 5 27 5 0 q (laws_szStringS_S5 t0 x0 x1 x4 x5) = some (e, laws_szStringS_O5 x1O x4O)) : laws_szStringS_L5 n q t0 x0 x1 x4 x5 = some (e, (x1O, x4O, ()), ()) := by
  unfold laws_szStringS_L5 lpT
  rw [h]
  kernel_rfl

theorem laws_szStringS_L5_if {n q : Nat} {t0 : Bool} {x0 : List ByteArray} {x1 : Int} {x4 : Int} {x5 : Int} {c : Prop} [Decidable c] {e e' : Ex} {x1O : Int} {x4O : Int} {x1P : Int} {x4P : Int} (h : lp Tryz.prog cfg RN n 5 27 5 0 q (laws_szStringS_S5 t0 x0 x1 x4 x5) = some (if c then (e, laws_szStringS_O5 x1O x4O) else (e', laws_szStringS_O5 x1P x4P))) : laws_szStringS_L5 n q t0 x0 x1 x4 x5 = some (if c then (e, (x1O, x4O, ()), ()) else (e', (x1P, x4P, ()), ())) := by
  by_cases hc : c
  · rw [if_pos hc] at h ⊢; exact laws_szStringS_L5_of h
  · rw [if_neg hc] at h ⊢; exact laws_szStringS_L5_of h

@[reducible] def laws_toStringS_S3 (t0 : Bool) (x0 : List ByteArray) (x3 : List ByteArray) (x4 : Int) : St := ⟨frOf [(0, .sl t0 .str x0), (3, .c (.row (.own 3) .str)), (4, .int x4)], hpIds [(.own 3, .row true .str x3)]⟩

@[reducible] def laws_toStringS_O3 (x3 : List ByteArray) : St := ⟨frOf [(3, .c (.row (.own 3) .str))], hpIds [(.own 3, .row true .str x3)]⟩

noncomputable def laws_toStringS_L3 (n q : Nat) (t0 : Bool) (x0 : List ByteArray) (x3 : List ByteArray) (x4 : Int) : Option (Ex × (Unit × Unit) × List ByteArray × Unit) := lpT Tryz.prog cfg RN n 5 29 3 0 q (laws_toStringS_S3 t0 x0 x3 x4)

theorem laws_toStringS_L3_of {n q : Nat} {t0 : Bool} {x0 : List ByteArray} {x3 : List ByteArray} {x4 : Int} {e : Ex} {x3O : List ByteArray} (h : lp Tryz.prog cfg RN n 5 29 3 0 q (laws_toStringS_S3 t0 x0 x3 x4) = some (e, laws_toStringS_O3 x3O)) : laws_toStringS_L3 n q t0 x0 x3 x4 = some (e, ((), ()), x3O, ()) := by
  unfold laws_toStringS_L3 lpT
  rw [h]
  kernel_rfl

theorem laws_toStringS_L3_if {n q : Nat} {t0 : Bool} {x0 : List ByteArray} {x3 : List ByteArray} {x4 : Int} {c : Prop} [Decidable c] {e e' : Ex} {x3O : List ByteArray} {x3P : List ByteArray} (h : lp Tryz.prog cfg RN n 5 29 3 0 q (laws_toStringS_S3 t0 x0 x3 x4) = some (if c then (e, laws_toStringS_O3 x3O) else (e', laws_toStringS_O3 x3P))) : laws_toStringS_L3 n q t0 x0 x3 x4 = some (if c then (e, ((), ()), x3O, ()) else (e', ((), ()), x3P, ())) := by
  by_cases hc : c
  · rw [if_pos hc] at h ⊢; exact laws_toStringS_L3_of h
  · rw [if_neg hc] at h ⊢; exact laws_toStringS_L3_of h

@[reducible] def laws_eqStringS_S4 (t0 : Bool) (x0 : List ByteArray) (t1 : Bool) (x1 : List ByteArray) (x4 : Bool) (x5 : Int) : St := ⟨frOf [(0, .sl t0 .str x0), (1, .sl t1 .str x1), (4, .bool x4), (5, .int x5)], hpIds []⟩

@[reducible] def laws_eqStringS_O4 (x4 : Bool) : St := ⟨frOf [(4, .bool x4)], hpIds []⟩

noncomputable def laws_eqStringS_L4 (n q : Nat) (t0 : Bool) (x0 : List ByteArray) (t1 : Bool) (x1 : List ByteArray) (x4 : Bool) (x5 : Int) : Option (Ex × (Bool × Unit) × Unit) := lpT Tryz.prog cfg RN n 5 31 4 0 q (laws_eqStringS_S4 t0 x0 t1 x1 x4 x5)

theorem laws_eqStringS_L4_of {n q : Nat} {t0 : Bool} {x0 : List ByteArray} {t1 : Bool} {x1 : List ByteArray} {x4 : Bool} {x5 : Int} {e : Ex} {x4O : Bool} (h : lp Tryz.prog cfg RN n 5 31 4 0 q (laws_eqStringS_S4 t0 x0 t1 x1 x4 x5) = some (e, laws_eqStringS_O4 x4O)) : laws_eqStringS_L4 n q t0 x0 t1 x1 x4 x5 = some (e, (x4O, ()), ()) := by
  unfold laws_eqStringS_L4 lpT
  rw [h]
  kernel_rfl

theorem laws_eqStringS_L4_if {n q : Nat} {t0 : Bool} {x0 : List ByteArray} {t1 : Bool} {x1 : List ByteArray} {x4 : Bool} {x5 : Int} {c : Prop} [Decidable c] {e e' : Ex} {x4O : Bool} {x4P : Bool} (h : lp Tryz.prog cfg RN n 5 31 4 0 q (laws_eqStringS_S4 t0 x0 t1 x1 x4 x5) = some (if c then (e, laws_eqStringS_O4 x4O) else (e', laws_eqStringS_O4 x4P))) : laws_eqStringS_L4 n q t0 x0 t1 x1 x4 x5 = some (if c then (e, (x4O, ()), ()) else (e', (x4P, ()), ())) := by
  by_cases hc : c
  · rw [if_pos hc] at h ⊢; exact laws_eqStringS_L4_of h
  · rw [if_neg hc] at h ⊢; exact laws_eqStringS_L4_of h

@[reducible] def spec_JudgeBook_S8 (x2 : Bool) (t5 : Bool) (x5 : List Letter) (x6 : Int) (y1 : WorldD) : St := ⟨frOf [(1, .c (.bx (.own 1) 0)), (2, .bool x2), (5, .sl t5 .letter x5), (6, .int x6)], hpIds [(.own 1, .box ((WorldD.cells y1).map C.f))]⟩

@[reducible] def spec_JudgeBook_O8 (x2 : Bool) : St := ⟨frOf [(2, .bool x2)], hpIds []⟩

noncomputable def spec_JudgeBook_L8 (n q : Nat) (x2 : Bool) (t5 : Bool) (x5 : List Letter) (x6 : Int) (y1 : WorldD) : Option (Ex × (Bool × Unit) × Unit) := lpT Tryz.prog cfg RN n 5 35 8 0 q (spec_JudgeBook_S8 x2 t5 x5 x6 y1)

theorem spec_JudgeBook_L8_of {n q : Nat} {x2 : Bool} {t5 : Bool} {x5 : List Letter} {x6 : Int} {y1 : WorldD} {e : Ex} {x2O : Bool} (h : lp Tryz.prog cfg RN n 5 35 8 0 q (spec_JudgeBook_S8 x2 t5 x5 x6 y1) = some (e, spec_JudgeBook_O8 x2O)) : spec_JudgeBook_L8 n q x2 t5 x5 x6 y1 = some (e, (x2O, ()), ()) := by
  unfold spec_JudgeBook_L8 lpT
  rw [h]
  kernel_rfl

theorem spec_JudgeBook_L8_if {n q : Nat} {x2 : Bool} {t5 : Bool} {x5 : List Letter} {x6 : Int} {y1 : WorldD} {c : Prop} [Decidable c] {e e' : Ex} {x2O : Bool} {x2P : Bool} (h : lp Tryz.prog cfg RN n 5 35 8 0 q (spec_JudgeBook_S8 x2 t5 x5 x6 y1) = some (if c then (e, spec_JudgeBook_O8 x2O) else (e', spec_JudgeBook_O8 x2P))) : spec_JudgeBook_L8 n q x2 t5 x5 x6 y1 = some (if c then (e, (x2O, ()), ()) else (e', (x2P, ()), ())) := by
  by_cases hc : c
  · rw [if_pos hc] at h ⊢; exact spec_JudgeBook_L8_of h
  · rw [if_neg hc] at h ⊢; exact spec_JudgeBook_L8_of h

@[reducible] def spec_ServerOk_S2 (x2 : Bool) (x3 : Int) (y1 : Server) : St := ⟨frOf [(1, .c (.bx (.own 1) 0)), (2, .bool x2), (3, .int x3)], hpIds [(.own 1, .box ((Server.cells y1).map C.f))]⟩

@[reducible] def spec_ServerOk_O2 (x2 : Bool) (y1 : Server) : St := ⟨frOf [(1, .c (.bx (.own 1) 0)), (2, .bool x2)], hpIds [(.own 1, .box ((Server.cells y1).map C.f))]⟩

noncomputable def spec_ServerOk_L2 (n q : Nat) (x2 : Bool) (x3 : Int) (y1 : Server) : Option (Ex × (Unit × Bool × Unit) × Server × Unit) := lpT Tryz.prog cfg RN n 5 42 2 0 q (spec_ServerOk_S2 x2 x3 y1)

theorem spec_ServerOk_L2_of {n q : Nat} {x2 : Bool} {x3 : Int} {y1 : Server} {e : Ex} {x2O : Bool} {y1O : Server} (h : lp Tryz.prog cfg RN n 5 42 2 0 q (spec_ServerOk_S2 x2 x3 y1) = some (e, spec_ServerOk_O2 x2O y1O)) : spec_ServerOk_L2 n q x2 x3 y1 = some (e, ((), x2O, ()), y1O, ()) := by
  unfold spec_ServerOk_L2 lpT
  rw [h]
  exact Eq.trans (b := some (e, ((), x2O, ()), (⟨y1O.step, y1O.host, y1O.key, y1O.eph, ⟨y1O.cert.op, y1O.cert.n, y1O.cert.s, y1O.cert.kids⟩, ⟨y1O.share.op, y1O.share.n, y1O.share.s, y1O.share.kids⟩, y1O.inn, y1O.out, y1O.tls, y1O.got⟩ : Server), ())) (by kernel_rfl) (by simp only [Term.eta])

theorem spec_ServerOk_L2_if {n q : Nat} {x2 : Bool} {x3 : Int} {y1 : Server} {c : Prop} [Decidable c] {e e' : Ex} {x2O : Bool} {y1O : Server} {x2P : Bool} {y1P : Server} (h : lp Tryz.prog cfg RN n 5 42 2 0 q (spec_ServerOk_S2 x2 x3 y1) = some (if c then (e, spec_ServerOk_O2 x2O y1O) else (e', spec_ServerOk_O2 x2P y1P))) : spec_ServerOk_L2 n q x2 x3 y1 = some (if c then (e, ((), x2O, ()), y1O, ()) else (e', ((), x2P, ()), y1P, ())) := by
  by_cases hc : c
  · rw [if_pos hc] at h ⊢; exact spec_ServerOk_L2_of h
  · rw [if_neg hc] at h ⊢; exact spec_ServerOk_L2_of h

@[reducible] def laws_eqIntS_S4 (t0 : Bool) (x0 : List Int) (t1 : Bool) (x1 : List Int) (x4 : Bool) (x5 : Int) : St := ⟨frOf [(0, .sl t0 .int x0), (1, .sl t1 .int x1), (4, .bool x4), (5, .int x5)], hpIds []⟩

@[reducible] def laws_eqIntS_O4 (x4 : Bool) : St := ⟨frOf [(4, .bool x4)], hpIds []⟩

noncomputable def laws_eqIntS_L4 (n q : Nat) (t0 : Bool) (x0 : List Int) (t1 : Bool) (x1 : List Int) (x4 : Bool) (x5 : Int) : Option (Ex × (Bool × Unit) × Unit) := lpT Tryz.prog cfg RN n 5 48 4 0 q (laws_eqIntS_S4 t0 x0 t1 x1 x4 x5)

theorem laws_eqIntS_L4_of {n q : Nat} {t0 : Bool} {x0 : List Int} {t1 : Bool} {x1 : List Int} {x4 : Bool} {x5 : Int} {e : Ex} {x4O : Bool} (h : lp Tryz.prog cfg RN n 5 48 4 0 q (laws_eqIntS_S4 t0 x0 t1 x1 x4 x5) = some (e, laws_eqIntS_O4 x4O)) : laws_eqIntS_L4 n q t0 x0 t1 x1 x4 x5 = some (e, (x4O, ()), ()) := by
  unfold laws_eqIntS_L4 lpT
  rw [h]
  kernel_rfl

theorem laws_eqIntS_L4_if {n q : Nat} {t0 : Bool} {x0 : List Int} {t1 : Bool} {x1 : List Int} {x4 : Bool} {x5 : Int} {c : Prop} [Decidable c] {e e' : Ex} {x4O : Bool} {x4P : Bool} (h : lp Tryz.prog cfg RN n 5 48 4 0 q (laws_eqIntS_S4 t0 x0 t1 x1 x4 x5) = some (if c then (e, laws_eqIntS_O4 x4O) else (e', laws_eqIntS_O4 x4P))) : laws_eqIntS_L4 n q t0 x0 t1 x1 x4 x5 = some (if c then (e, (x4O, ()), ()) else (e', (x4P, ()), ())) := by
  by_cases hc : c
  · rw [if_pos hc] at h ⊢; exact laws_eqIntS_L4_of h
  · rw [if_neg hc] at h ⊢; exact laws_eqIntS_L4_of h

@[reducible] def laws_szTermS_S5 (t0 : Bool) (x0 : List Term) (x1 : Int) (x4 : Int) (x5 : Int) : St := ⟨frOf [(0, .sl t0 .term x0), (1, .int x1), (4, .int x4), (5, .int x5)], hpIds []⟩

@[reducible] def laws_szTermS_O5 (x1 : Int) (x4 : Int) : St := ⟨frOf [(1, .int x1), (4, .int x4)], hpIds []⟩

noncomputable def laws_szTermS_L5 (n q : Nat) (t0 : Bool) (x0 : List Term) (x1 : Int) (x4 : Int) (x5 : Int) : Option (Ex × (Int × Int × Unit) × Unit) := lpT Tryz.prog cfg RN n 5 53 5 0 q (laws_szTermS_S5 t0 x0 x1 x4 x5)

theorem laws_szTermS_L5_of {n q : Nat} {t0 : Bool} {x0 : List Term} {x1 : Int} {x4 : Int} {x5 : Int} {e : Ex} {x1O : Int} {x4O : Int} (h : lp Tryz.prog cfg RN n 5 53 5 0 q (laws_szTermS_S5 t0 x0 x1 x4 x5) = some (e, laws_szTermS_O5 x1O x4O)) : laws_szTermS_L5 n q t0 x0 x1 x4 x5 = some (e, (x1O, x4O, ()), ()) := by
  unfold laws_szTermS_L5 lpT
  rw [h]
  kernel_rfl

theorem laws_szTermS_L5_if {n q : Nat} {t0 : Bool} {x0 : List Term} {x1 : Int} {x4 : Int} {x5 : Int} {c : Prop} [Decidable c] {e e' : Ex} {x1O : Int} {x4O : Int} {x1P : Int} {x4P : Int} (h : lp Tryz.prog cfg RN n 5 53 5 0 q (laws_szTermS_S5 t0 x0 x1 x4 x5) = some (if c then (e, laws_szTermS_O5 x1O x4O) else (e', laws_szTermS_O5 x1P x4P))) : laws_szTermS_L5 n q t0 x0 x1 x4 x5 = some (if c then (e, (x1O, x4O, ()), ()) else (e', (x1P, x4P, ()), ())) := by
  by_cases hc : c
  · rw [if_pos hc] at h ⊢; exact laws_szTermS_L5_of h
  · rw [if_neg hc] at h ⊢; exact laws_szTermS_L5_of h

@[reducible] def laws_szPolicyS_S5 (t0 : Bool) (x0 : List Policy) (x1 : Int) (x4 : Int) (x5 : Int) : St := ⟨frOf [(0, .sl t0 .policy x0), (1, .int x1), (4, .int x4), (5, .int x5)], hpIds []⟩

@[reducible] def laws_szPolicyS_O5 (x1 : Int) (x4 : Int) : St := ⟨frOf [(1, .int x1), (4, .int x4)], hpIds []⟩

noncomputable def laws_szPolicyS_L5 (n q : Nat) (t0 : Bool) (x0 : List Policy) (x1 : Int) (x4 : Int) (x5 : Int) : Option (Ex × (Int × Int × Unit) × Unit) := lpT Tryz.prog cfg RN n 5 54 5 0 q (laws_szPolicyS_S5 t0 x0 x1 x4 x5)

theorem laws_szPolicyS_L5_of {n q : Nat} {t0 : Bool} {x0 : List Policy} {x1 : Int} {x4 : Int} {x5 : Int} {e : Ex} {x1O : Int} {x4O : Int} (h : lp Tryz.prog cfg RN n 5 54 5 0 q (laws_szPolicyS_S5 t0 x0 x1 x4 x5) = some (e, laws_szPolicyS_O5 x1O x4O)) : laws_szPolicyS_L5 n q t0 x0 x1 x4 x5 = some (e, (x1O, x4O, ()), ()) := by
  unfold laws_szPolicyS_L5 lpT
  rw [h]
  kernel_rfl

theorem laws_szPolicyS_L5_if {n q : Nat} {t0 : Bool} {x0 : List Policy} {x1 : Int} {x4 : Int} {x5 : Int} {c : Prop} [Decidable c] {e e' : Ex} {x1O : Int} {x4O : Int} {x1P : Int} {x4P : Int} (h : lp Tryz.prog cfg RN n 5 54 5 0 q (laws_szPolicyS_S5 t0 x0 x1 x4 x5) = some (if c then (e, laws_szPolicyS_O5 x1O x4O) else (e', laws_szPolicyS_O5 x1P x4P))) : laws_szPolicyS_L5 n q t0 x0 x1 x4 x5 = some (if c then (e, (x1O, x4O, ()), ()) else (e', (x1P, x4P, ()), ())) := by
  by_cases hc : c
  · rw [if_pos hc] at h ⊢; exact laws_szPolicyS_L5_of h
  · rw [if_neg hc] at h ⊢; exact laws_szPolicyS_L5_of h

@[reducible] def laws_szHostS_S5 (t0 : Bool) (x0 : List Host) (x1 : Int) (x4 : Int) (x5 : Int) : St := ⟨frOf [(0, .sl t0 .host x0), (1, .int x1), (4, .int x4), (5, .int x5)], hpIds []⟩

@[reducible] def laws_szHostS_O5 (x1 : Int) (x4 : Int) : St := ⟨frOf [(1, .int x1), (4, .int x4)], hpIds []⟩

noncomputable def laws_szHostS_L5 (n q : Nat) (t0 : Bool) (x0 : List Host) (x1 : Int) (x4 : Int) (x5 : Int) : Option (Ex × (Int × Int × Unit) × Unit) := lpT Tryz.prog cfg RN n 5 55 5 0 q (laws_szHostS_S5 t0 x0 x1 x4 x5)

theorem laws_szHostS_L5_of {n q : Nat} {t0 : Bool} {x0 : List Host} {x1 : Int} {x4 : Int} {x5 : Int} {e : Ex} {x1O : Int} {x4O : Int} (h : lp Tryz.prog cfg RN n 5 55 5 0 q (laws_szHostS_S5 t0 x0 x1 x4 x5) = some (e, laws_szHostS_O5 x1O x4O)) : laws_szHostS_L5 n q t0 x0 x1 x4 x5 = some (e, (x1O, x4O, ()), ()) := by
  unfold laws_szHostS_L5 lpT
  rw [h]
  kernel_rfl

theorem laws_szHostS_L5_if {n q : Nat} {t0 : Bool} {x0 : List Host} {x1 : Int} {x4 : Int} {x5 : Int} {c : Prop} [Decidable c] {e e' : Ex} {x1O : Int} {x4O : Int} {x1P : Int} {x4P : Int} (h : lp Tryz.prog cfg RN n 5 55 5 0 q (laws_szHostS_S5 t0 x0 x1 x4 x5) = some (if c then (e, laws_szHostS_O5 x1O x4O) else (e', laws_szHostS_O5 x1P x4P))) : laws_szHostS_L5 n q t0 x0 x1 x4 x5 = some (if c then (e, (x1O, x4O, ()), ()) else (e', (x1P, x4P, ()), ())) := by
  by_cases hc : c
  · rw [if_pos hc] at h ⊢; exact laws_szHostS_L5_of h
  · rw [if_neg hc] at h ⊢; exact laws_szHostS_L5_of h

@[reducible] def laws_szLetterS_S5 (t0 : Bool) (x0 : List Letter) (x1 : Int) (x4 : Int) (x5 : Int) : St := ⟨frOf [(0, .sl t0 .letter x0), (1, .int x1), (4, .int x4), (5, .int x5)], hpIds []⟩

@[reducible] def laws_szLetterS_O5 (x1 : Int) (x4 : Int) : St := ⟨frOf [(1, .int x1), (4, .int x4)], hpIds []⟩

noncomputable def laws_szLetterS_L5 (n q : Nat) (t0 : Bool) (x0 : List Letter) (x1 : Int) (x4 : Int) (x5 : Int) : Option (Ex × (Int × Int × Unit) × Unit) := lpT Tryz.prog cfg RN n 5 56 5 0 q (laws_szLetterS_S5 t0 x0 x1 x4 x5)

theorem laws_szLetterS_L5_of {n q : Nat} {t0 : Bool} {x0 : List Letter} {x1 : Int} {x4 : Int} {x5 : Int} {e : Ex} {x1O : Int} {x4O : Int} (h : lp Tryz.prog cfg RN n 5 56 5 0 q (laws_szLetterS_S5 t0 x0 x1 x4 x5) = some (e, laws_szLetterS_O5 x1O x4O)) : laws_szLetterS_L5 n q t0 x0 x1 x4 x5 = some (e, (x1O, x4O, ()), ()) := by
  unfold laws_szLetterS_L5 lpT
  rw [h]
  kernel_rfl

theorem laws_szLetterS_L5_if {n q : Nat} {t0 : Bool} {x0 : List Letter} {x1 : Int} {x4 : Int} {x5 : Int} {c : Prop} [Decidable c] {e e' : Ex} {x1O : Int} {x4O : Int} {x1P : Int} {x4P : Int} (h : lp Tryz.prog cfg RN n 5 56 5 0 q (laws_szLetterS_S5 t0 x0 x1 x4 x5) = some (if c then (e, laws_szLetterS_O5 x1O x4O) else (e', laws_szLetterS_O5 x1P x4P))) : laws_szLetterS_L5 n q t0 x0 x1 x4 x5 = some (if c then (e, (x1O, x4O, ()), ()) else (e', (x1P, x4P, ()), ())) := by
  by_cases hc : c
  · rw [if_pos hc] at h ⊢; exact laws_szLetterS_L5_of h
  · rw [if_neg hc] at h ⊢; exact laws_szLetterS_L5_of h

@[reducible] def laws_szCallS_S5 (t0 : Bool) (x0 : List CallD) (x1 : Int) (x4 : Int) (x5 : Int) : St := ⟨frOf [(0, .sl t0 .call x0), (1, .int x1), (4, .int x4), (5, .int x5)], hpIds []⟩

@[reducible] def laws_szCallS_O5 (x1 : Int) (x4 : Int) : St := ⟨frOf [(1, .int x1), (4, .int x4)], hpIds []⟩

noncomputable def laws_szCallS_L5 (n q : Nat) (t0 : Bool) (x0 : List CallD) (x1 : Int) (x4 : Int) (x5 : Int) : Option (Ex × (Int × Int × Unit) × Unit) := lpT Tryz.prog cfg RN n 5 57 5 0 q (laws_szCallS_S5 t0 x0 x1 x4 x5)

theorem laws_szCallS_L5_of {n q : Nat} {t0 : Bool} {x0 : List CallD} {x1 : Int} {x4 : Int} {x5 : Int} {e : Ex} {x1O : Int} {x4O : Int} (h : lp Tryz.prog cfg RN n 5 57 5 0 q (laws_szCallS_S5 t0 x0 x1 x4 x5) = some (e, laws_szCallS_O5 x1O x4O)) : laws_szCallS_L5 n q t0 x0 x1 x4 x5 = some (e, (x1O, x4O, ()), ()) := by
  unfold laws_szCallS_L5 lpT
  rw [h]
  kernel_rfl

theorem laws_szCallS_L5_if {n q : Nat} {t0 : Bool} {x0 : List CallD} {x1 : Int} {x4 : Int} {x5 : Int} {c : Prop} [Decidable c] {e e' : Ex} {x1O : Int} {x4O : Int} {x1P : Int} {x4P : Int} (h : lp Tryz.prog cfg RN n 5 57 5 0 q (laws_szCallS_S5 t0 x0 x1 x4 x5) = some (if c then (e, laws_szCallS_O5 x1O x4O) else (e', laws_szCallS_O5 x1P x4P))) : laws_szCallS_L5 n q t0 x0 x1 x4 x5 = some (if c then (e, (x1O, x4O, ()), ()) else (e', (x1P, x4P, ()), ())) := by
  by_cases hc : c
  · rw [if_pos hc] at h ⊢; exact laws_szCallS_L5_of h
  · rw [if_neg hc] at h ⊢; exact laws_szCallS_L5_of h

@[reducible] def laws_szTalkS_S5 (t0 : Bool) (x0 : List Talk) (x1 : Int) (x4 : Int) (x5 : Int) : St := ⟨frOf [(0, .sl t0 .talk x0), (1, .int x1), (4, .int x4), (5, .int x5)], hpIds []⟩

@[reducible] def laws_szTalkS_O5 (x1 : Int) (x4 : Int) : St := ⟨frOf [(1, .int x1), (4, .int x4)], hpIds []⟩

noncomputable def laws_szTalkS_L5 (n q : Nat) (t0 : Bool) (x0 : List Talk) (x1 : Int) (x4 : Int) (x5 : Int) : Option (Ex × (Int × Int × Unit) × Unit) := lpT Tryz.prog cfg RN n 5 58 5 0 q (laws_szTalkS_S5 t0 x0 x1 x4 x5)

theorem laws_szTalkS_L5_of {n q : Nat} {t0 : Bool} {x0 : List Talk} {x1 : Int} {x4 : Int} {x5 : Int} {e : Ex} {x1O : Int} {x4O : Int} (h : lp Tryz.prog cfg RN n 5 58 5 0 q (laws_szTalkS_S5 t0 x0 x1 x4 x5) = some (e, laws_szTalkS_O5 x1O x4O)) : laws_szTalkS_L5 n q t0 x0 x1 x4 x5 = some (e, (x1O, x4O, ()), ()) := by
  unfold laws_szTalkS_L5 lpT
  rw [h]
  kernel_rfl

theorem laws_szTalkS_L5_if {n q : Nat} {t0 : Bool} {x0 : List Talk} {x1 : Int} {x4 : Int} {x5 : Int} {c : Prop} [Decidable c] {e e' : Ex} {x1O : Int} {x4O : Int} {x1P : Int} {x4P : Int} (h : lp Tryz.prog cfg RN n 5 58 5 0 q (laws_szTalkS_S5 t0 x0 x1 x4 x5) = some (if c then (e, laws_szTalkS_O5 x1O x4O) else (e', laws_szTalkS_O5 x1P x4P))) : laws_szTalkS_L5 n q t0 x0 x1 x4 x5 = some (if c then (e, (x1O, x4O, ()), ()) else (e', (x1P, x4P, ()), ())) := by
  by_cases hc : c
  · rw [if_pos hc] at h ⊢; exact laws_szTalkS_L5_of h
  · rw [if_neg hc] at h ⊢; exact laws_szTalkS_L5_of h

@[reducible] def spec_CacheOk_S2 (t0 : Bool) (x0 : List Policy) (x2 : Bool) (x3 : Int) : St := ⟨frOf [(0, .sl t0 .policy x0), (2, .bool x2), (3, .int x3)], hpIds []⟩

@[reducible] def spec_CacheOk_O2 (t0 : Bool) (x0 : List Policy) (x2 : Bool) : St := ⟨frOf [(0, .sl t0 .policy x0), (2, .bool x2)], hpIds []⟩

noncomputable def spec_CacheOk_L2 (n q : Nat) (t0 : Bool) (x0 : List Policy) (x2 : Bool) (x3 : Int) : Option (Ex × (List Policy × Bool × Unit) × Unit) := lpT Tryz.prog cfg RN n 5 61 2 0 q (spec_CacheOk_S2 t0 x0 x2 x3)

theorem spec_CacheOk_L2_of {n q : Nat} {t0 : Bool} {x0 : List Policy} {x2 : Bool} {x3 : Int} {e : Ex} {t0O : Bool} {x0O : List Policy} {x2O : Bool} (h : lp Tryz.prog cfg RN n 5 61 2 0 q (spec_CacheOk_S2 t0 x0 x2 x3) = some (e, spec_CacheOk_O2 t0O x0O x2O)) : spec_CacheOk_L2 n q t0 x0 x2 x3 = some (e, (x0O, x2O, ()), ()) := by
  unfold spec_CacheOk_L2 lpT
  rw [h]
  kernel_rfl

theorem spec_CacheOk_L2_if {n q : Nat} {t0 : Bool} {x0 : List Policy} {x2 : Bool} {x3 : Int} {c : Prop} [Decidable c] {e e' : Ex} {t0O : Bool} {x0O : List Policy} {x2O : Bool} {t0P : Bool} {x0P : List Policy} {x2P : Bool} (h : lp Tryz.prog cfg RN n 5 61 2 0 q (spec_CacheOk_S2 t0 x0 x2 x3) = some (if c then (e, spec_CacheOk_O2 t0O x0O x2O) else (e', spec_CacheOk_O2 t0P x0P x2P))) : spec_CacheOk_L2 n q t0 x0 x2 x3 = some (if c then (e, (x0O, x2O, ()), ()) else (e', (x0P, x2P, ()), ())) := by
  by_cases hc : c
  · rw [if_pos hc] at h ⊢; exact spec_CacheOk_L2_of h
  · rw [if_neg hc] at h ⊢; exact spec_CacheOk_L2_of h

@[reducible] def spec_l13Hosts_S2 (t0 : Bool) (x0 : List Host) (x2 : Bool) (x3 : Int) : St := ⟨frOf [(0, .sl t0 .host x0), (2, .bool x2), (3, .int x3)], hpIds []⟩

@[reducible] def spec_l13Hosts_O2 (t0 : Bool) (x0 : List Host) (x2 : Bool) : St := ⟨frOf [(0, .sl t0 .host x0), (2, .bool x2)], hpIds []⟩

noncomputable def spec_l13Hosts_L2 (n q : Nat) (t0 : Bool) (x0 : List Host) (x2 : Bool) (x3 : Int) : Option (Ex × (List Host × Bool × Unit) × Unit) := lpT Tryz.prog cfg RN n 5 62 2 0 q (spec_l13Hosts_S2 t0 x0 x2 x3)

theorem spec_l13Hosts_L2_of {n q : Nat} {t0 : Bool} {x0 : List Host} {x2 : Bool} {x3 : Int} {e : Ex} {t0O : Bool} {x0O : List Host} {x2O : Bool} (h : lp Tryz.prog cfg RN n 5 62 2 0 q (spec_l13Hosts_S2 t0 x0 x2 x3) = some (e, spec_l13Hosts_O2 t0O x0O x2O)) : spec_l13Hosts_L2 n q t0 x0 x2 x3 = some (e, (x0O, x2O, ()), ()) := by
  unfold spec_l13Hosts_L2 lpT
  rw [h]
  kernel_rfl

theorem spec_l13Hosts_L2_if {n q : Nat} {t0 : Bool} {x0 : List Host} {x2 : Bool} {x3 : Int} {c : Prop} [Decidable c] {e e' : Ex} {t0O : Bool} {x0O : List Host} {x2O : Bool} {t0P : Bool} {x0P : List Host} {x2P : Bool} (h : lp Tryz.prog cfg RN n 5 62 2 0 q (spec_l13Hosts_S2 t0 x0 x2 x3) = some (if c then (e, spec_l13Hosts_O2 t0O x0O x2O) else (e', spec_l13Hosts_O2 t0P x0P x2P))) : spec_l13Hosts_L2 n q t0 x0 x2 x3 = some (if c then (e, (x0O, x2O, ()), ()) else (e', (x0P, x2P, ()), ())) := by
  by_cases hc : c
  · rw [if_pos hc] at h ⊢; exact spec_l13Hosts_L2_of h
  · rw [if_neg hc] at h ⊢; exact spec_l13Hosts_L2_of h

@[reducible] def spec_l13Hosts_S7 (t0 : Bool) (x0 : List Host) (x2 : Bool) (x3 : Int) (x4 : Int) : St := ⟨frOf [(0, .sl t0 .host x0), (2, .bool x2), (3, .int x3), (4, .int x4)], hpIds []⟩

@[reducible] def spec_l13Hosts_O7 (t0 : Bool) (x0 : List Host) (x2 : Bool) (x3 : Int) : St := ⟨frOf [(0, .sl t0 .host x0), (2, .bool x2), (3, .int x3)], hpIds []⟩

noncomputable def spec_l13Hosts_L7 (n q : Nat) (t0 : Bool) (x0 : List Host) (x2 : Bool) (x3 : Int) (x4 : Int) : Option (Ex × (List Host × Bool × Int × Unit) × Unit) := lpT Tryz.prog cfg RN n 5 62 7 0 q (spec_l13Hosts_S7 t0 x0 x2 x3 x4)

theorem spec_l13Hosts_L7_of {n q : Nat} {t0 : Bool} {x0 : List Host} {x2 : Bool} {x3 : Int} {x4 : Int} {e : Ex} {t0O : Bool} {x0O : List Host} {x2O : Bool} {x3O : Int} (h : lp Tryz.prog cfg RN n 5 62 7 0 q (spec_l13Hosts_S7 t0 x0 x2 x3 x4) = some (e, spec_l13Hosts_O7 t0O x0O x2O x3O)) : spec_l13Hosts_L7 n q t0 x0 x2 x3 x4 = some (e, (x0O, x2O, x3O, ()), ()) := by
  unfold spec_l13Hosts_L7 lpT
  rw [h]
  kernel_rfl

theorem spec_l13Hosts_L7_if {n q : Nat} {t0 : Bool} {x0 : List Host} {x2 : Bool} {x3 : Int} {x4 : Int} {c : Prop} [Decidable c] {e e' : Ex} {t0O : Bool} {x0O : List Host} {x2O : Bool} {x3O : Int} {t0P : Bool} {x0P : List Host} {x2P : Bool} {x3P : Int} (h : lp Tryz.prog cfg RN n 5 62 7 0 q (spec_l13Hosts_S7 t0 x0 x2 x3 x4) = some (if c then (e, spec_l13Hosts_O7 t0O x0O x2O x3O) else (e', spec_l13Hosts_O7 t0P x0P x2P x3P))) : spec_l13Hosts_L7 n q t0 x0 x2 x3 x4 = some (if c then (e, (x0O, x2O, x3O, ()), ()) else (e', (x0P, x2P, x3P, ()), ())) := by
  by_cases hc : c
  · rw [if_pos hc] at h ⊢; exact spec_l13Hosts_L7_of h
  · rw [if_neg hc] at h ⊢; exact spec_l13Hosts_L7_of h

@[reducible] def spec_l13Open_S2 (x2 : Bool) (x3 : Int) (y1 : WorldD) : St := ⟨frOf [(1, .c (.bx (.own 1) 0)), (2, .bool x2), (3, .int x3)], hpIds [(.own 1, .box ((WorldD.cells y1).map C.f))]⟩

@[reducible] def spec_l13Open_O2 (x2 : Bool) (y1 : WorldD) : St := ⟨frOf [(1, .c (.bx (.own 1) 0)), (2, .bool x2)], hpIds [(.own 1, .box ((WorldD.cells y1).map C.f))]⟩

noncomputable def spec_l13Open_L2 (n q : Nat) (x2 : Bool) (x3 : Int) (y1 : WorldD) : Option (Ex × (Unit × Bool × Unit) × WorldD × Unit) := lpT Tryz.prog cfg RN n 5 65 2 0 q (spec_l13Open_S2 x2 x3 y1)

theorem spec_l13Open_L2_of {n q : Nat} {x2 : Bool} {x3 : Int} {y1 : WorldD} {e : Ex} {x2O : Bool} {y1O : WorldD} (h : lp Tryz.prog cfg RN n 5 65 2 0 q (spec_l13Open_S2 x2 x3 y1) = some (e, spec_l13Open_O2 x2O y1O)) : spec_l13Open_L2 n q x2 x3 y1 = some (e, ((), x2O, ()), y1O, ()) := by
  unfold spec_l13Open_L2 lpT
  rw [h]
  kernel_rfl

theorem spec_l13Open_L2_if {n q : Nat} {x2 : Bool} {x3 : Int} {y1 : WorldD} {c : Prop} [Decidable c] {e e' : Ex} {x2O : Bool} {y1O : WorldD} {x2P : Bool} {y1P : WorldD} (h : lp Tryz.prog cfg RN n 5 65 2 0 q (spec_l13Open_S2 x2 x3 y1) = some (if c then (e, spec_l13Open_O2 x2O y1O) else (e', spec_l13Open_O2 x2P y1P))) : spec_l13Open_L2 n q x2 x3 y1 = some (if c then (e, ((), x2O, ()), y1O, ()) else (e', ((), x2P, ()), y1P, ())) := by
  by_cases hc : c
  · rw [if_pos hc] at h ⊢; exact spec_l13Open_L2_of h
  · rw [if_neg hc] at h ⊢; exact spec_l13Open_L2_of h

@[reducible] def spec_l13Open_S7 (x2 : Bool) (x4 : Int) (y1 : WorldD) : St := ⟨frOf [(1, .c (.bx (.own 1) 0)), (2, .bool x2), (4, .int x4)], hpIds [(.own 1, .box ((WorldD.cells y1).map C.f))]⟩

@[reducible] def spec_l13Open_O7 (x2 : Bool) (y1 : WorldD) : St := ⟨frOf [(1, .c (.bx (.own 1) 0)), (2, .bool x2)], hpIds [(.own 1, .box ((WorldD.cells y1).map C.f))]⟩

noncomputable def spec_l13Open_L7 (n q : Nat) (x2 : Bool) (x4 : Int) (y1 : WorldD) : Option (Ex × (Unit × Bool × Unit) × WorldD × Unit) := lpT Tryz.prog cfg RN n 5 65 7 0 q (spec_l13Open_S7 x2 x4 y1)

theorem spec_l13Open_L7_of {n q : Nat} {x2 : Bool} {x4 : Int} {y1 : WorldD} {e : Ex} {x2O : Bool} {y1O : WorldD} (h : lp Tryz.prog cfg RN n 5 65 7 0 q (spec_l13Open_S7 x2 x4 y1) = some (e, spec_l13Open_O7 x2O y1O)) : spec_l13Open_L7 n q x2 x4 y1 = some (e, ((), x2O, ()), y1O, ()) := by
  unfold spec_l13Open_L7 lpT
  rw [h]
  kernel_rfl

theorem spec_l13Open_L7_if {n q : Nat} {x2 : Bool} {x4 : Int} {y1 : WorldD} {c : Prop} [Decidable c] {e e' : Ex} {x2O : Bool} {y1O : WorldD} {x2P : Bool} {y1P : WorldD} (h : lp Tryz.prog cfg RN n 5 65 7 0 q (spec_l13Open_S7 x2 x4 y1) = some (if c then (e, spec_l13Open_O7 x2O y1O) else (e', spec_l13Open_O7 x2P y1P))) : spec_l13Open_L7 n q x2 x4 y1 = some (if c then (e, ((), x2O, ()), y1O, ()) else (e', ((), x2P, ()), y1P, ())) := by
  by_cases hc : c
  · rw [if_pos hc] at h ⊢; exact spec_l13Open_L7_of h
  · rw [if_neg hc] at h ⊢; exact spec_l13Open_L7_of h

@[reducible] def laws_toTermS_S3 (t0 : Bool) (x0 : List Term) (x3 : List Term) (x4 : Int) : St := ⟨frOf [(0, .sl t0 .term x0), (3, .c (.row (.own 3) .term)), (4, .int x4)], hpIds [(.own 3, .row true .term x3)]⟩

@[reducible] def laws_toTermS_O3 (x3 : List Term) : St := ⟨frOf [(3, .c (.row (.own 3) .term))], hpIds [(.own 3, .row true .term x3)]⟩

noncomputable def laws_toTermS_L3 (n q : Nat) (t0 : Bool) (x0 : List Term) (x3 : List Term) (x4 : Int) : Option (Ex × (Unit × Unit) × List Term × Unit) := lpT Tryz.prog cfg RN n 5 66 3 0 q (laws_toTermS_S3 t0 x0 x3 x4)

theorem laws_toTermS_L3_of {n q : Nat} {t0 : Bool} {x0 : List Term} {x3 : List Term} {x4 : Int} {e : Ex} {x3O : List Term} (h : lp Tryz.prog cfg RN n 5 66 3 0 q (laws_toTermS_S3 t0 x0 x3 x4) = some (e, laws_toTermS_O3 x3O)) : laws_toTermS_L3 n q t0 x0 x3 x4 = some (e, ((), ()), x3O, ()) := by
  unfold laws_toTermS_L3 lpT
  rw [h]
  kernel_rfl

theorem laws_toTermS_L3_if {n q : Nat} {t0 : Bool} {x0 : List Term} {x3 : List Term} {x4 : Int} {c : Prop} [Decidable c] {e e' : Ex} {x3O : List Term} {x3P : List Term} (h : lp Tryz.prog cfg RN n 5 66 3 0 q (laws_toTermS_S3 t0 x0 x3 x4) = some (if c then (e, laws_toTermS_O3 x3O) else (e', laws_toTermS_O3 x3P))) : laws_toTermS_L3 n q t0 x0 x3 x4 = some (if c then (e, ((), ()), x3O, ()) else (e', ((), ()), x3P, ())) := by
  by_cases hc : c
  · rw [if_pos hc] at h ⊢; exact laws_toTermS_L3_of h
  · rw [if_neg hc] at h ⊢; exact laws_toTermS_L3_of h

@[reducible] def laws_toPolicyS_S3 (t0 : Bool) (x0 : List Policy) (x3 : List Policy) (x4 : Int) : St := ⟨frOf [(0, .sl t0 .policy x0), (3, .c (.row (.own 3) .policy)), (4, .int x4)], hpIds [(.own 3, .row true .policy x3)]⟩

@[reducible] def laws_toPolicyS_O3 (x3 : List Policy) : St := ⟨frOf [(3, .c (.row (.own 3) .policy))], hpIds [(.own 3, .row true .policy x3)]⟩

noncomputable def laws_toPolicyS_L3 (n q : Nat) (t0 : Bool) (x0 : List Policy) (x3 : List Policy) (x4 : Int) : Option (Ex × (Unit × Unit) × List Policy × Unit) := lpT Tryz.prog cfg RN n 5 67 3 0 q (laws_toPolicyS_S3 t0 x0 x3 x4)

theorem laws_toPolicyS_L3_of {n q : Nat} {t0 : Bool} {x0 : List Policy} {x3 : List Policy} {x4 : Int} {e : Ex} {x3O : List Policy} (h : lp Tryz.prog cfg RN n 5 67 3 0 q (laws_toPolicyS_S3 t0 x0 x3 x4) = some (e, laws_toPolicyS_O3 x3O)) : laws_toPolicyS_L3 n q t0 x0 x3 x4 = some (e, ((), ()), x3O, ()) := by
  unfold laws_toPolicyS_L3 lpT
  rw [h]
  kernel_rfl

theorem laws_toPolicyS_L3_if {n q : Nat} {t0 : Bool} {x0 : List Policy} {x3 : List Policy} {x4 : Int} {c : Prop} [Decidable c] {e e' : Ex} {x3O : List Policy} {x3P : List Policy} (h : lp Tryz.prog cfg RN n 5 67 3 0 q (laws_toPolicyS_S3 t0 x0 x3 x4) = some (if c then (e, laws_toPolicyS_O3 x3O) else (e', laws_toPolicyS_O3 x3P))) : laws_toPolicyS_L3 n q t0 x0 x3 x4 = some (if c then (e, ((), ()), x3O, ()) else (e', ((), ()), x3P, ())) := by
  by_cases hc : c
  · rw [if_pos hc] at h ⊢; exact laws_toPolicyS_L3_of h
  · rw [if_neg hc] at h ⊢; exact laws_toPolicyS_L3_of h

@[reducible] def laws_toHostS_S3 (t0 : Bool) (x0 : List Host) (x3 : List Host) (x4 : Int) : St := ⟨frOf [(0, .sl t0 .host x0), (3, .c (.row (.own 3) .host)), (4, .int x4)], hpIds [(.own 3, .row true .host x3)]⟩

@[reducible] def laws_toHostS_O3 (x3 : List Host) : St := ⟨frOf [(3, .c (.row (.own 3) .host))], hpIds [(.own 3, .row true .host x3)]⟩

noncomputable def laws_toHostS_L3 (n q : Nat) (t0 : Bool) (x0 : List Host) (x3 : List Host) (x4 : Int) : Option (Ex × (Unit × Unit) × List Host × Unit) := lpT Tryz.prog cfg RN n 5 68 3 0 q (laws_toHostS_S3 t0 x0 x3 x4)

theorem laws_toHostS_L3_of {n q : Nat} {t0 : Bool} {x0 : List Host} {x3 : List Host} {x4 : Int} {e : Ex} {x3O : List Host} (h : lp Tryz.prog cfg RN n 5 68 3 0 q (laws_toHostS_S3 t0 x0 x3 x4) = some (e, laws_toHostS_O3 x3O)) : laws_toHostS_L3 n q t0 x0 x3 x4 = some (e, ((), ()), x3O, ()) := by
  unfold laws_toHostS_L3 lpT
  rw [h]
  kernel_rfl

theorem laws_toHostS_L3_if {n q : Nat} {t0 : Bool} {x0 : List Host} {x3 : List Host} {x4 : Int} {c : Prop} [Decidable c] {e e' : Ex} {x3O : List Host} {x3P : List Host} (h : lp Tryz.prog cfg RN n 5 68 3 0 q (laws_toHostS_S3 t0 x0 x3 x4) = some (if c then (e, laws_toHostS_O3 x3O) else (e', laws_toHostS_O3 x3P))) : laws_toHostS_L3 n q t0 x0 x3 x4 = some (if c then (e, ((), ()), x3O, ()) else (e', ((), ()), x3P, ())) := by
  by_cases hc : c
  · rw [if_pos hc] at h ⊢; exact laws_toHostS_L3_of h
  · rw [if_neg hc] at h ⊢; exact laws_toHostS_L3_of h

@[reducible] def laws_toLetterS_S3 (t0 : Bool) (x0 : List Letter) (x3 : List Letter) (x4 : Int) : St := ⟨frOf [(0, .sl t0 .letter x0), (3, .c (.row (.own 3) .letter)), (4, .int x4)], hpIds [(.own 3, .row true .letter x3)]⟩

@[reducible] def laws_toLetterS_O3 (x3 : List Letter) : St := ⟨frOf [(3, .c (.row (.own 3) .letter))], hpIds [(.own 3, .row true .letter x3)]⟩

noncomputable def laws_toLetterS_L3 (n q : Nat) (t0 : Bool) (x0 : List Letter) (x3 : List Letter) (x4 : Int) : Option (Ex × (Unit × Unit) × List Letter × Unit) := lpT Tryz.prog cfg RN n 5 69 3 0 q (laws_toLetterS_S3 t0 x0 x3 x4)

theorem laws_toLetterS_L3_of {n q : Nat} {t0 : Bool} {x0 : List Letter} {x3 : List Letter} {x4 : Int} {e : Ex} {x3O : List Letter} (h : lp Tryz.prog cfg RN n 5 69 3 0 q (laws_toLetterS_S3 t0 x0 x3 x4) = some (e, laws_toLetterS_O3 x3O)) : laws_toLetterS_L3 n q t0 x0 x3 x4 = some (e, ((), ()), x3O, ()) := by
  unfold laws_toLetterS_L3 lpT
  rw [h]
  kernel_rfl

theorem laws_toLetterS_L3_if {n q : Nat} {t0 : Bool} {x0 : List Letter} {x3 : List Letter} {x4 : Int} {c : Prop} [Decidable c] {e e' : Ex} {x3O : List Letter} {x3P : List Letter} (h : lp Tryz.prog cfg RN n 5 69 3 0 q (laws_toLetterS_S3 t0 x0 x3 x4) = some (if c then (e, laws_toLetterS_O3 x3O) else (e', laws_toLetterS_O3 x3P))) : laws_toLetterS_L3 n q t0 x0 x3 x4 = some (if c then (e, ((), ()), x3O, ()) else (e', ((), ()), x3P, ())) := by
  by_cases hc : c
  · rw [if_pos hc] at h ⊢; exact laws_toLetterS_L3_of h
  · rw [if_neg hc] at h ⊢; exact laws_toLetterS_L3_of h

@[reducible] def laws_toCallS_S3 (t0 : Bool) (x0 : List CallD) (x3 : List CallD) (x4 : Int) : St := ⟨frOf [(0, .sl t0 .call x0), (3, .c (.row (.own 3) .call)), (4, .int x4)], hpIds [(.own 3, .row true .call x3)]⟩

@[reducible] def laws_toCallS_O3 (x3 : List CallD) : St := ⟨frOf [(3, .c (.row (.own 3) .call))], hpIds [(.own 3, .row true .call x3)]⟩

noncomputable def laws_toCallS_L3 (n q : Nat) (t0 : Bool) (x0 : List CallD) (x3 : List CallD) (x4 : Int) : Option (Ex × (Unit × Unit) × List CallD × Unit) := lpT Tryz.prog cfg RN n 5 70 3 0 q (laws_toCallS_S3 t0 x0 x3 x4)

theorem laws_toCallS_L3_of {n q : Nat} {t0 : Bool} {x0 : List CallD} {x3 : List CallD} {x4 : Int} {e : Ex} {x3O : List CallD} (h : lp Tryz.prog cfg RN n 5 70 3 0 q (laws_toCallS_S3 t0 x0 x3 x4) = some (e, laws_toCallS_O3 x3O)) : laws_toCallS_L3 n q t0 x0 x3 x4 = some (e, ((), ()), x3O, ()) := by
  unfold laws_toCallS_L3 lpT
  rw [h]
  kernel_rfl

theorem laws_toCallS_L3_if {n q : Nat} {t0 : Bool} {x0 : List CallD} {x3 : List CallD} {x4 : Int} {c : Prop} [Decidable c] {e e' : Ex} {x3O : List CallD} {x3P : List CallD} (h : lp Tryz.prog cfg RN n 5 70 3 0 q (laws_toCallS_S3 t0 x0 x3 x4) = some (if c then (e, laws_toCallS_O3 x3O) else (e', laws_toCallS_O3 x3P))) : laws_toCallS_L3 n q t0 x0 x3 x4 = some (if c then (e, ((), ()), x3O, ()) else (e', ((), ()), x3P, ())) := by
  by_cases hc : c
  · rw [if_pos hc] at h ⊢; exact laws_toCallS_L3_of h
  · rw [if_neg hc] at h ⊢; exact laws_toCallS_L3_of h

@[reducible] def laws_toTalkS_S3 (t0 : Bool) (x0 : List Talk) (x3 : List Talk) (x4 : Int) : St := ⟨frOf [(0, .sl t0 .talk x0), (3, .c (.row (.own 3) .talk)), (4, .int x4)], hpIds [(.own 3, .row true .talk x3)]⟩

@[reducible] def laws_toTalkS_O3 (x3 : List Talk) : St := ⟨frOf [(3, .c (.row (.own 3) .talk))], hpIds [(.own 3, .row true .talk x3)]⟩

noncomputable def laws_toTalkS_L3 (n q : Nat) (t0 : Bool) (x0 : List Talk) (x3 : List Talk) (x4 : Int) : Option (Ex × (Unit × Unit) × List Talk × Unit) := lpT Tryz.prog cfg RN n 5 71 3 0 q (laws_toTalkS_S3 t0 x0 x3 x4)

theorem laws_toTalkS_L3_of {n q : Nat} {t0 : Bool} {x0 : List Talk} {x3 : List Talk} {x4 : Int} {e : Ex} {x3O : List Talk} (h : lp Tryz.prog cfg RN n 5 71 3 0 q (laws_toTalkS_S3 t0 x0 x3 x4) = some (e, laws_toTalkS_O3 x3O)) : laws_toTalkS_L3 n q t0 x0 x3 x4 = some (e, ((), ()), x3O, ()) := by
  unfold laws_toTalkS_L3 lpT
  rw [h]
  kernel_rfl

theorem laws_toTalkS_L3_if {n q : Nat} {t0 : Bool} {x0 : List Talk} {x3 : List Talk} {x4 : Int} {c : Prop} [Decidable c] {e e' : Ex} {x3O : List Talk} {x3P : List Talk} (h : lp Tryz.prog cfg RN n 5 71 3 0 q (laws_toTalkS_S3 t0 x0 x3 x4) = some (if c then (e, laws_toTalkS_O3 x3O) else (e', laws_toTalkS_O3 x3P))) : laws_toTalkS_L3 n q t0 x0 x3 x4 = some (if c then (e, ((), ()), x3O, ()) else (e', ((), ()), x3P, ())) := by
  by_cases hc : c
  · rw [if_pos hc] at h ⊢; exact laws_toTalkS_L3_of h
  · rw [if_neg hc] at h ⊢; exact laws_toTalkS_L3_of h

@[reducible] def laws_toIntS_S3 (t0 : Bool) (x0 : List Int) (x3 : List Int) (x4 : Int) : St := ⟨frOf [(0, .sl t0 .int x0), (3, .c (.row (.own 3) .int)), (4, .int x4)], hpIds [(.own 3, .row true .int x3)]⟩

@[reducible] def laws_toIntS_O3 (x3 : List Int) : St := ⟨frOf [(3, .c (.row (.own 3) .int))], hpIds [(.own 3, .row true .int x3)]⟩

noncomputable def laws_toIntS_L3 (n q : Nat) (t0 : Bool) (x0 : List Int) (x3 : List Int) (x4 : Int) : Option (Ex × (Unit × Unit) × List Int × Unit) := lpT Tryz.prog cfg RN n 5 72 3 0 q (laws_toIntS_S3 t0 x0 x3 x4)

theorem laws_toIntS_L3_of {n q : Nat} {t0 : Bool} {x0 : List Int} {x3 : List Int} {x4 : Int} {e : Ex} {x3O : List Int} (h : lp Tryz.prog cfg RN n 5 72 3 0 q (laws_toIntS_S3 t0 x0 x3 x4) = some (e, laws_toIntS_O3 x3O)) : laws_toIntS_L3 n q t0 x0 x3 x4 = some (e, ((), ()), x3O, ()) := by
  unfold laws_toIntS_L3 lpT
  rw [h]
  kernel_rfl

theorem laws_toIntS_L3_if {n q : Nat} {t0 : Bool} {x0 : List Int} {x3 : List Int} {x4 : Int} {c : Prop} [Decidable c] {e e' : Ex} {x3O : List Int} {x3P : List Int} (h : lp Tryz.prog cfg RN n 5 72 3 0 q (laws_toIntS_S3 t0 x0 x3 x4) = some (if c then (e, laws_toIntS_O3 x3O) else (e', laws_toIntS_O3 x3P))) : laws_toIntS_L3 n q t0 x0 x3 x4 = some (if c then (e, ((), ()), x3O, ()) else (e', ((), ()), x3P, ())) := by
  by_cases hc : c
  · rw [if_pos hc] at h ⊢; exact laws_toIntS_L3_of h
  · rw [if_neg hc] at h ⊢; exact laws_toIntS_L3_of h

@[reducible] def impl_CacheOk_S2 (t0 : Bool) (x0 : List Policy) (x2 : Bool) (t5 : Bool) (x5 : List Policy) (x6 : Int) (x7 : Int) : St := ⟨frOf [(0, .sl t0 .policy x0), (2, .bool x2), (5, .sl t5 .policy x5), (6, .int x6), (7, .int x7)], hpIds []⟩

@[reducible] def impl_CacheOk_O2 (t0 : Bool) (x0 : List Policy) (x2 : Bool) : St := ⟨frOf [(0, .sl t0 .policy x0), (2, .bool x2)], hpIds []⟩

noncomputable def impl_CacheOk_L2 (n q : Nat) (t0 : Bool) (x0 : List Policy) (x2 : Bool) (t5 : Bool) (x5 : List Policy) (x6 : Int) (x7 : Int) : Option (Ex × (List Policy × Bool × Unit) × Unit) := lpT Tryz.prog cfg RN n 5 78 2 0 q (impl_CacheOk_S2 t0 x0 x2 t5 x5 x6 x7)

theorem impl_CacheOk_L2_of {n q : Nat} {t0 : Bool} {x0 : List Policy} {x2 : Bool} {t5 : Bool} {x5 : List Policy} {x6 : Int} {x7 : Int} {e : Ex} {t0O : Bool} {x0O : List Policy} {x2O : Bool} (h : lp Tryz.prog cfg RN n 5 78 2 0 q (impl_CacheOk_S2 t0 x0 x2 t5 x5 x6 x7) = some (e, impl_CacheOk_O2 t0O x0O x2O)) : impl_CacheOk_L2 n q t0 x0 x2 t5 x5 x6 x7 = some (e, (x0O, x2O, ()), ()) := by
  unfold impl_CacheOk_L2 lpT
  rw [h]
  kernel_rfl

theorem impl_CacheOk_L2_if {n q : Nat} {t0 : Bool} {x0 : List Policy} {x2 : Bool} {t5 : Bool} {x5 : List Policy} {x6 : Int} {x7 : Int} {c : Prop} [Decidable c] {e e' : Ex} {t0O : Bool} {x0O : List Policy} {x2O : Bool} {t0P : Bool} {x0P : List Policy} {x2P : Bool} (h : lp Tryz.prog cfg RN n 5 78 2 0 q (impl_CacheOk_S2 t0 x0 x2 t5 x5 x6 x7) = some (if c then (e, impl_CacheOk_O2 t0O x0O x2O) else (e', impl_CacheOk_O2 t0P x0P x2P))) : impl_CacheOk_L2 n q t0 x0 x2 t5 x5 x6 x7 = some (if c then (e, (x0O, x2O, ()), ()) else (e', (x0P, x2P, ()), ())) := by
  by_cases hc : c
  · rw [if_pos hc] at h ⊢; exact impl_CacheOk_L2_of h
  · rw [if_neg hc] at h ⊢; exact impl_CacheOk_L2_of h

@[reducible] def impl_hostsOk_S2 (t0 : Bool) (x0 : List Host) (x2 : Bool) (t5 : Bool) (x5 : List Host) (x6 : Int) (x7 : Int) : St := ⟨frOf [(0, .sl t0 .host x0), (2, .bool x2), (5, .sl t5 .host x5), (6, .int x6), (7, .int x7)], hpIds []⟩

@[reducible] def impl_hostsOk_O2 (t0 : Bool) (x0 : List Host) (x2 : Bool) : St := ⟨frOf [(0, .sl t0 .host x0), (2, .bool x2)], hpIds []⟩

noncomputable def impl_hostsOk_L2 (n q : Nat) (t0 : Bool) (x0 : List Host) (x2 : Bool) (t5 : Bool) (x5 : List Host) (x6 : Int) (x7 : Int) : Option (Ex × (List Host × Bool × Unit) × Unit) := lpT Tryz.prog cfg RN n 5 79 2 0 q (impl_hostsOk_S2 t0 x0 x2 t5 x5 x6 x7)

theorem impl_hostsOk_L2_of {n q : Nat} {t0 : Bool} {x0 : List Host} {x2 : Bool} {t5 : Bool} {x5 : List Host} {x6 : Int} {x7 : Int} {e : Ex} {t0O : Bool} {x0O : List Host} {x2O : Bool} (h : lp Tryz.prog cfg RN n 5 79 2 0 q (impl_hostsOk_S2 t0 x0 x2 t5 x5 x6 x7) = some (e, impl_hostsOk_O2 t0O x0O x2O)) : impl_hostsOk_L2 n q t0 x0 x2 t5 x5 x6 x7 = some (e, (x0O, x2O, ()), ()) := by
  unfold impl_hostsOk_L2 lpT
  rw [h]
  kernel_rfl

theorem impl_hostsOk_L2_if {n q : Nat} {t0 : Bool} {x0 : List Host} {x2 : Bool} {t5 : Bool} {x5 : List Host} {x6 : Int} {x7 : Int} {c : Prop} [Decidable c] {e e' : Ex} {t0O : Bool} {x0O : List Host} {x2O : Bool} {t0P : Bool} {x0P : List Host} {x2P : Bool} (h : lp Tryz.prog cfg RN n 5 79 2 0 q (impl_hostsOk_S2 t0 x0 x2 t5 x5 x6 x7) = some (if c then (e, impl_hostsOk_O2 t0O x0O x2O) else (e', impl_hostsOk_O2 t0P x0P x2P))) : impl_hostsOk_L2 n q t0 x0 x2 t5 x5 x6 x7 = some (if c then (e, (x0O, x2O, ()), ()) else (e', (x0P, x2P, ()), ())) := by
  by_cases hc : c
  · rw [if_pos hc] at h ⊢; exact impl_hostsOk_L2_of h
  · rw [if_neg hc] at h ⊢; exact impl_hostsOk_L2_of h

@[reducible] def impl_linesOk_S2 (x2 : Bool) (t8 : Bool) (x8 : List CallD) (x9 : Int) (x10 : Int) (y1 : WorldD) : St := ⟨frOf [(1, .c (.bx (.own 1) 0)), (2, .bool x2), (8, .sl t8 .call x8), (9, .int x9), (10, .int x10)], hpIds [(.own 1, .box ((WorldD.cells y1).map C.f))]⟩

@[reducible] def impl_linesOk_O2 (x2 : Bool) (y1 : WorldD) : St := ⟨frOf [(1, .c (.bx (.own 1) 0)), (2, .bool x2)], hpIds [(.own 1, .box ((WorldD.cells y1).map C.f))]⟩

noncomputable def impl_linesOk_L2 (n q : Nat) (x2 : Bool) (t8 : Bool) (x8 : List CallD) (x9 : Int) (x10 : Int) (y1 : WorldD) : Option (Ex × (Unit × Bool × Unit) × WorldD × Unit) := lpT Tryz.prog cfg RN n 5 83 2 0 q (impl_linesOk_S2 x2 t8 x8 x9 x10 y1)

theorem impl_linesOk_L2_of {n q : Nat} {x2 : Bool} {t8 : Bool} {x8 : List CallD} {x9 : Int} {x10 : Int} {y1 : WorldD} {e : Ex} {x2O : Bool} {y1O : WorldD} (h : lp Tryz.prog cfg RN n 5 83 2 0 q (impl_linesOk_S2 x2 t8 x8 x9 x10 y1) = some (e, impl_linesOk_O2 x2O y1O)) : impl_linesOk_L2 n q x2 t8 x8 x9 x10 y1 = some (e, ((), x2O, ()), y1O, ()) := by
  unfold impl_linesOk_L2 lpT
  rw [h]
  kernel_rfl

theorem impl_linesOk_L2_if {n q : Nat} {x2 : Bool} {t8 : Bool} {x8 : List CallD} {x9 : Int} {x10 : Int} {y1 : WorldD} {c : Prop} [Decidable c] {e e' : Ex} {x2O : Bool} {y1O : WorldD} {x2P : Bool} {y1P : WorldD} (h : lp Tryz.prog cfg RN n 5 83 2 0 q (impl_linesOk_S2 x2 t8 x8 x9 x10 y1) = some (if c then (e, impl_linesOk_O2 x2O y1O) else (e', impl_linesOk_O2 x2P y1P))) : impl_linesOk_L2 n q x2 t8 x8 x9 x10 y1 = some (if c then (e, ((), x2O, ()), y1O, ()) else (e', ((), x2P, ()), y1P, ())) := by
  by_cases hc : c
  · rw [if_pos hc] at h ⊢; exact impl_linesOk_L2_of h
  · rw [if_neg hc] at h ⊢; exact impl_linesOk_L2_of h

@[reducible] def impl_linesOk_S8 (x2 : Bool) (t30 : Bool) (x30 : List Talk) (x31 : Int) (x32 : Int) (y1 : WorldD) : St := ⟨frOf [(1, .c (.bx (.own 1) 0)), (2, .bool x2), (30, .sl t30 .talk x30), (31, .int x31), (32, .int x32)], hpIds [(.own 1, .box ((WorldD.cells y1).map C.f))]⟩

@[reducible] def impl_linesOk_O8 (x2 : Bool) (y1 : WorldD) : St := ⟨frOf [(1, .c (.bx (.own 1) 0)), (2, .bool x2)], hpIds [(.own 1, .box ((WorldD.cells y1).map C.f))]⟩

noncomputable def impl_linesOk_L8 (n q : Nat) (x2 : Bool) (t30 : Bool) (x30 : List Talk) (x31 : Int) (x32 : Int) (y1 : WorldD) : Option (Ex × (Unit × Bool × Unit) × WorldD × Unit) := lpT Tryz.prog cfg RN n 5 83 8 0 q (impl_linesOk_S8 x2 t30 x30 x31 x32 y1)

theorem impl_linesOk_L8_of {n q : Nat} {x2 : Bool} {t30 : Bool} {x30 : List Talk} {x31 : Int} {x32 : Int} {y1 : WorldD} {e : Ex} {x2O : Bool} {y1O : WorldD} (h : lp Tryz.prog cfg RN n 5 83 8 0 q (impl_linesOk_S8 x2 t30 x30 x31 x32 y1) = some (e, impl_linesOk_O8 x2O y1O)) : impl_linesOk_L8 n q x2 t30 x30 x31 x32 y1 = some (e, ((), x2O, ()), y1O, ()) := by
  unfold impl_linesOk_L8 lpT
  rw [h]
  kernel_rfl

theorem impl_linesOk_L8_if {n q : Nat} {x2 : Bool} {t30 : Bool} {x30 : List Talk} {x31 : Int} {x32 : Int} {y1 : WorldD} {c : Prop} [Decidable c] {e e' : Ex} {x2O : Bool} {y1O : WorldD} {x2P : Bool} {y1P : WorldD} (h : lp Tryz.prog cfg RN n 5 83 8 0 q (impl_linesOk_S8 x2 t30 x30 x31 x32 y1) = some (if c then (e, impl_linesOk_O8 x2O y1O) else (e', impl_linesOk_O8 x2P y1P))) : impl_linesOk_L8 n q x2 t30 x30 x31 x32 y1 = some (if c then (e, ((), x2O, ()), y1O, ()) else (e', ((), x2P, ()), y1P, ())) := by
  by_cases hc : c
  · rw [if_pos hc] at h ⊢; exact impl_linesOk_L8_of h
  · rw [if_neg hc] at h ⊢; exact impl_linesOk_L8_of h

@[reducible] def impl_toldOk_S2 (t0 : Bool) (x0 : List Int) (x2 : Bool) (t5 : Bool) (x5 : List Int) (x6 : Int) (x7 : Int) : St := ⟨frOf [(0, .sl t0 .int x0), (2, .bool x2), (5, .sl t5 .int x5), (6, .int x6), (7, .int x7)], hpIds []⟩

@[reducible] def impl_toldOk_O2 (x2 : Bool) : St := ⟨frOf [(2, .bool x2)], hpIds []⟩

noncomputable def impl_toldOk_L2 (n q : Nat) (t0 : Bool) (x0 : List Int) (x2 : Bool) (t5 : Bool) (x5 : List Int) (x6 : Int) (x7 : Int) : Option (Ex × (Bool × Unit) × Unit) := lpT Tryz.prog cfg RN n 5 84 2 0 q (impl_toldOk_S2 t0 x0 x2 t5 x5 x6 x7)

theorem impl_toldOk_L2_of {n q : Nat} {t0 : Bool} {x0 : List Int} {x2 : Bool} {t5 : Bool} {x5 : List Int} {x6 : Int} {x7 : Int} {e : Ex} {x2O : Bool} (h : lp Tryz.prog cfg RN n 5 84 2 0 q (impl_toldOk_S2 t0 x0 x2 t5 x5 x6 x7) = some (e, impl_toldOk_O2 x2O)) : impl_toldOk_L2 n q t0 x0 x2 t5 x5 x6 x7 = some (e, (x2O, ()), ()) := by
  unfold impl_toldOk_L2 lpT
  rw [h]
  kernel_rfl

theorem impl_toldOk_L2_if {n q : Nat} {t0 : Bool} {x0 : List Int} {x2 : Bool} {t5 : Bool} {x5 : List Int} {x6 : Int} {x7 : Int} {c : Prop} [Decidable c] {e e' : Ex} {x2O : Bool} {x2P : Bool} (h : lp Tryz.prog cfg RN n 5 84 2 0 q (impl_toldOk_S2 t0 x0 x2 t5 x5 x6 x7) = some (if c then (e, impl_toldOk_O2 x2O) else (e', impl_toldOk_O2 x2P))) : impl_toldOk_L2 n q t0 x0 x2 t5 x5 x6 x7 = some (if c then (e, (x2O, ()), ()) else (e', (x2P, ()), ())) := by
  by_cases hc : c
  · rw [if_pos hc] at h ⊢; exact impl_toldOk_L2_of h
  · rw [if_neg hc] at h ⊢; exact impl_toldOk_L2_of h

@[reducible] def laws_eqTermS_S4 (t0 : Bool) (x0 : List Term) (t1 : Bool) (x1 : List Term) (x4 : Bool) (x5 : Int) : St := ⟨frOf [(0, .sl t0 .term x0), (1, .sl t1 .term x1), (4, .bool x4), (5, .int x5)], hpIds []⟩

@[reducible] def laws_eqTermS_O4 (x4 : Bool) : St := ⟨frOf [(4, .bool x4)], hpIds []⟩

noncomputable def laws_eqTermS_L4 (n q : Nat) (t0 : Bool) (x0 : List Term) (t1 : Bool) (x1 : List Term) (x4 : Bool) (x5 : Int) : Option (Ex × (Bool × Unit) × Unit) := lpT Tryz.prog cfg RN n 5 85 4 0 q (laws_eqTermS_S4 t0 x0 t1 x1 x4 x5)

theorem laws_eqTermS_L4_of {n q : Nat} {t0 : Bool} {x0 : List Term} {t1 : Bool} {x1 : List Term} {x4 : Bool} {x5 : Int} {e : Ex} {x4O : Bool} (h : lp Tryz.prog cfg RN n 5 85 4 0 q (laws_eqTermS_S4 t0 x0 t1 x1 x4 x5) = some (e, laws_eqTermS_O4 x4O)) : laws_eqTermS_L4 n q t0 x0 t1 x1 x4 x5 = some (e, (x4O, ()), ()) := by
  unfold laws_eqTermS_L4 lpT
  rw [h]
  kernel_rfl

theorem laws_eqTermS_L4_if {n q : Nat} {t0 : Bool} {x0 : List Term} {t1 : Bool} {x1 : List Term} {x4 : Bool} {x5 : Int} {c : Prop} [Decidable c] {e e' : Ex} {x4O : Bool} {x4P : Bool} (h : lp Tryz.prog cfg RN n 5 85 4 0 q (laws_eqTermS_S4 t0 x0 t1 x1 x4 x5) = some (if c then (e, laws_eqTermS_O4 x4O) else (e', laws_eqTermS_O4 x4P))) : laws_eqTermS_L4 n q t0 x0 t1 x1 x4 x5 = some (if c then (e, (x4O, ()), ()) else (e', (x4P, ()), ())) := by
  by_cases hc : c
  · rw [if_pos hc] at h ⊢; exact laws_eqTermS_L4_of h
  · rw [if_neg hc] at h ⊢; exact laws_eqTermS_L4_of h

@[reducible] def laws_eqPolicyS_S4 (t0 : Bool) (x0 : List Policy) (t1 : Bool) (x1 : List Policy) (x4 : Bool) (x5 : Int) : St := ⟨frOf [(0, .sl t0 .policy x0), (1, .sl t1 .policy x1), (4, .bool x4), (5, .int x5)], hpIds []⟩

@[reducible] def laws_eqPolicyS_O4 (x4 : Bool) : St := ⟨frOf [(4, .bool x4)], hpIds []⟩

noncomputable def laws_eqPolicyS_L4 (n q : Nat) (t0 : Bool) (x0 : List Policy) (t1 : Bool) (x1 : List Policy) (x4 : Bool) (x5 : Int) : Option (Ex × (Bool × Unit) × Unit) := lpT Tryz.prog cfg RN n 5 86 4 0 q (laws_eqPolicyS_S4 t0 x0 t1 x1 x4 x5)

theorem laws_eqPolicyS_L4_of {n q : Nat} {t0 : Bool} {x0 : List Policy} {t1 : Bool} {x1 : List Policy} {x4 : Bool} {x5 : Int} {e : Ex} {x4O : Bool} (h : lp Tryz.prog cfg RN n 5 86 4 0 q (laws_eqPolicyS_S4 t0 x0 t1 x1 x4 x5) = some (e, laws_eqPolicyS_O4 x4O)) : laws_eqPolicyS_L4 n q t0 x0 t1 x1 x4 x5 = some (e, (x4O, ()), ()) := by
  unfold laws_eqPolicyS_L4 lpT
  rw [h]
  kernel_rfl

theorem laws_eqPolicyS_L4_if {n q : Nat} {t0 : Bool} {x0 : List Policy} {t1 : Bool} {x1 : List Policy} {x4 : Bool} {x5 : Int} {c : Prop} [Decidable c] {e e' : Ex} {x4O : Bool} {x4P : Bool} (h : lp Tryz.prog cfg RN n 5 86 4 0 q (laws_eqPolicyS_S4 t0 x0 t1 x1 x4 x5) = some (if c then (e, laws_eqPolicyS_O4 x4O) else (e', laws_eqPolicyS_O4 x4P))) : laws_eqPolicyS_L4 n q t0 x0 t1 x1 x4 x5 = some (if c then (e, (x4O, ()), ()) else (e', (x4P, ()), ())) := by
  by_cases hc : c
  · rw [if_pos hc] at h ⊢; exact laws_eqPolicyS_L4_of h
  · rw [if_neg hc] at h ⊢; exact laws_eqPolicyS_L4_of h

@[reducible] def laws_eqHostS_S4 (t0 : Bool) (x0 : List Host) (t1 : Bool) (x1 : List Host) (x4 : Bool) (x5 : Int) : St := ⟨frOf [(0, .sl t0 .host x0), (1, .sl t1 .host x1), (4, .bool x4), (5, .int x5)], hpIds []⟩

@[reducible] def laws_eqHostS_O4 (x4 : Bool) : St := ⟨frOf [(4, .bool x4)], hpIds []⟩

noncomputable def laws_eqHostS_L4 (n q : Nat) (t0 : Bool) (x0 : List Host) (t1 : Bool) (x1 : List Host) (x4 : Bool) (x5 : Int) : Option (Ex × (Bool × Unit) × Unit) := lpT Tryz.prog cfg RN n 5 87 4 0 q (laws_eqHostS_S4 t0 x0 t1 x1 x4 x5)

theorem laws_eqHostS_L4_of {n q : Nat} {t0 : Bool} {x0 : List Host} {t1 : Bool} {x1 : List Host} {x4 : Bool} {x5 : Int} {e : Ex} {x4O : Bool} (h : lp Tryz.prog cfg RN n 5 87 4 0 q (laws_eqHostS_S4 t0 x0 t1 x1 x4 x5) = some (e, laws_eqHostS_O4 x4O)) : laws_eqHostS_L4 n q t0 x0 t1 x1 x4 x5 = some (e, (x4O, ()), ()) := by
  unfold laws_eqHostS_L4 lpT
  rw [h]
  kernel_rfl

theorem laws_eqHostS_L4_if {n q : Nat} {t0 : Bool} {x0 : List Host} {t1 : Bool} {x1 : List Host} {x4 : Bool} {x5 : Int} {c : Prop} [Decidable c] {e e' : Ex} {x4O : Bool} {x4P : Bool} (h : lp Tryz.prog cfg RN n 5 87 4 0 q (laws_eqHostS_S4 t0 x0 t1 x1 x4 x5) = some (if c then (e, laws_eqHostS_O4 x4O) else (e', laws_eqHostS_O4 x4P))) : laws_eqHostS_L4 n q t0 x0 t1 x1 x4 x5 = some (if c then (e, (x4O, ()), ()) else (e', (x4P, ()), ())) := by
  by_cases hc : c
  · rw [if_pos hc] at h ⊢; exact laws_eqHostS_L4_of h
  · rw [if_neg hc] at h ⊢; exact laws_eqHostS_L4_of h

@[reducible] def laws_eqLetterS_S4 (t0 : Bool) (x0 : List Letter) (t1 : Bool) (x1 : List Letter) (x4 : Bool) (x5 : Int) : St := ⟨frOf [(0, .sl t0 .letter x0), (1, .sl t1 .letter x1), (4, .bool x4), (5, .int x5)], hpIds []⟩

@[reducible] def laws_eqLetterS_O4 (x4 : Bool) : St := ⟨frOf [(4, .bool x4)], hpIds []⟩

noncomputable def laws_eqLetterS_L4 (n q : Nat) (t0 : Bool) (x0 : List Letter) (t1 : Bool) (x1 : List Letter) (x4 : Bool) (x5 : Int) : Option (Ex × (Bool × Unit) × Unit) := lpT Tryz.prog cfg RN n 5 88 4 0 q (laws_eqLetterS_S4 t0 x0 t1 x1 x4 x5)

theorem laws_eqLetterS_L4_of {n q : Nat} {t0 : Bool} {x0 : List Letter} {t1 : Bool} {x1 : List Letter} {x4 : Bool} {x5 : Int} {e : Ex} {x4O : Bool} (h : lp Tryz.prog cfg RN n 5 88 4 0 q (laws_eqLetterS_S4 t0 x0 t1 x1 x4 x5) = some (e, laws_eqLetterS_O4 x4O)) : laws_eqLetterS_L4 n q t0 x0 t1 x1 x4 x5 = some (e, (x4O, ()), ()) := by
  unfold laws_eqLetterS_L4 lpT
  rw [h]
  kernel_rfl

theorem laws_eqLetterS_L4_if {n q : Nat} {t0 : Bool} {x0 : List Letter} {t1 : Bool} {x1 : List Letter} {x4 : Bool} {x5 : Int} {c : Prop} [Decidable c] {e e' : Ex} {x4O : Bool} {x4P : Bool} (h : lp Tryz.prog cfg RN n 5 88 4 0 q (laws_eqLetterS_S4 t0 x0 t1 x1 x4 x5) = some (if c then (e, laws_eqLetterS_O4 x4O) else (e', laws_eqLetterS_O4 x4P))) : laws_eqLetterS_L4 n q t0 x0 t1 x1 x4 x5 = some (if c then (e, (x4O, ()), ()) else (e', (x4P, ()), ())) := by
  by_cases hc : c
  · rw [if_pos hc] at h ⊢; exact laws_eqLetterS_L4_of h
  · rw [if_neg hc] at h ⊢; exact laws_eqLetterS_L4_of h

@[reducible] def laws_eqCallS_S4 (t0 : Bool) (x0 : List CallD) (t1 : Bool) (x1 : List CallD) (x4 : Bool) (x5 : Int) : St := ⟨frOf [(0, .sl t0 .call x0), (1, .sl t1 .call x1), (4, .bool x4), (5, .int x5)], hpIds []⟩

@[reducible] def laws_eqCallS_O4 (x4 : Bool) : St := ⟨frOf [(4, .bool x4)], hpIds []⟩

noncomputable def laws_eqCallS_L4 (n q : Nat) (t0 : Bool) (x0 : List CallD) (t1 : Bool) (x1 : List CallD) (x4 : Bool) (x5 : Int) : Option (Ex × (Bool × Unit) × Unit) := lpT Tryz.prog cfg RN n 5 89 4 0 q (laws_eqCallS_S4 t0 x0 t1 x1 x4 x5)

theorem laws_eqCallS_L4_of {n q : Nat} {t0 : Bool} {x0 : List CallD} {t1 : Bool} {x1 : List CallD} {x4 : Bool} {x5 : Int} {e : Ex} {x4O : Bool} (h : lp Tryz.prog cfg RN n 5 89 4 0 q (laws_eqCallS_S4 t0 x0 t1 x1 x4 x5) = some (e, laws_eqCallS_O4 x4O)) : laws_eqCallS_L4 n q t0 x0 t1 x1 x4 x5 = some (e, (x4O, ()), ()) := by
  unfold laws_eqCallS_L4 lpT
  rw [h]
  kernel_rfl

theorem laws_eqCallS_L4_if {n q : Nat} {t0 : Bool} {x0 : List CallD} {t1 : Bool} {x1 : List CallD} {x4 : Bool} {x5 : Int} {c : Prop} [Decidable c] {e e' : Ex} {x4O : Bool} {x4P : Bool} (h : lp Tryz.prog cfg RN n 5 89 4 0 q (laws_eqCallS_S4 t0 x0 t1 x1 x4 x5) = some (if c then (e, laws_eqCallS_O4 x4O) else (e', laws_eqCallS_O4 x4P))) : laws_eqCallS_L4 n q t0 x0 t1 x1 x4 x5 = some (if c then (e, (x4O, ()), ()) else (e', (x4P, ()), ())) := by
  by_cases hc : c
  · rw [if_pos hc] at h ⊢; exact laws_eqCallS_L4_of h
  · rw [if_neg hc] at h ⊢; exact laws_eqCallS_L4_of h

@[reducible] def laws_eqTalkS_S4 (t0 : Bool) (x0 : List Talk) (t1 : Bool) (x1 : List Talk) (x4 : Bool) (x5 : Int) : St := ⟨frOf [(0, .sl t0 .talk x0), (1, .sl t1 .talk x1), (4, .bool x4), (5, .int x5)], hpIds []⟩

@[reducible] def laws_eqTalkS_O4 (x4 : Bool) : St := ⟨frOf [(4, .bool x4)], hpIds []⟩

noncomputable def laws_eqTalkS_L4 (n q : Nat) (t0 : Bool) (x0 : List Talk) (t1 : Bool) (x1 : List Talk) (x4 : Bool) (x5 : Int) : Option (Ex × (Bool × Unit) × Unit) := lpT Tryz.prog cfg RN n 5 90 4 0 q (laws_eqTalkS_S4 t0 x0 t1 x1 x4 x5)

theorem laws_eqTalkS_L4_of {n q : Nat} {t0 : Bool} {x0 : List Talk} {t1 : Bool} {x1 : List Talk} {x4 : Bool} {x5 : Int} {e : Ex} {x4O : Bool} (h : lp Tryz.prog cfg RN n 5 90 4 0 q (laws_eqTalkS_S4 t0 x0 t1 x1 x4 x5) = some (e, laws_eqTalkS_O4 x4O)) : laws_eqTalkS_L4 n q t0 x0 t1 x1 x4 x5 = some (e, (x4O, ()), ()) := by
  unfold laws_eqTalkS_L4 lpT
  rw [h]
  kernel_rfl

theorem laws_eqTalkS_L4_if {n q : Nat} {t0 : Bool} {x0 : List Talk} {t1 : Bool} {x1 : List Talk} {x4 : Bool} {x5 : Int} {c : Prop} [Decidable c] {e e' : Ex} {x4O : Bool} {x4P : Bool} (h : lp Tryz.prog cfg RN n 5 90 4 0 q (laws_eqTalkS_S4 t0 x0 t1 x1 x4 x5) = some (if c then (e, laws_eqTalkS_O4 x4O) else (e', laws_eqTalkS_O4 x4P))) : laws_eqTalkS_L4 n q t0 x0 t1 x1 x4 x5 = some (if c then (e, (x4O, ()), ()) else (e', (x4P, ()), ())) := by
  by_cases hc : c
  · rw [if_pos hc] at h ⊢; exact laws_eqTalkS_L4_of h
  · rw [if_neg hc] at h ⊢; exact laws_eqTalkS_L4_of h

@[reducible] def spec_l15Got_S2 (x1 : Int) (x4 : Bool) (x5 : Int) (y2 : WorldD) : St := ⟨frOf [(1, .int x1), (2, .c (.bx (.own 2) 0)), (4, .bool x4), (5, .int x5)], hpIds [(.own 2, .box ((WorldD.cells y2).map C.f))]⟩

@[reducible] def spec_l15Got_O2 (x4 : Bool) : St := ⟨frOf [(4, .bool x4)], hpIds []⟩

noncomputable def spec_l15Got_L2 (n q : Nat) (x1 : Int) (x4 : Bool) (x5 : Int) (y2 : WorldD) : Option (Ex × (Bool × Unit) × Unit) := lpT Tryz.prog cfg RN n 5 93 2 0 q (spec_l15Got_S2 x1 x4 x5 y2)

theorem spec_l15Got_L2_of {n q : Nat} {x1 : Int} {x4 : Bool} {x5 : Int} {y2 : WorldD} {e : Ex} {x4O : Bool} (h : lp Tryz.prog cfg RN n 5 93 2 0 q (spec_l15Got_S2 x1 x4 x5 y2) = some (e, spec_l15Got_O2 x4O)) : spec_l15Got_L2 n q x1 x4 x5 y2 = some (e, (x4O, ()), ()) := by
  unfold spec_l15Got_L2 lpT
  rw [h]
  kernel_rfl

theorem spec_l15Got_L2_if {n q : Nat} {x1 : Int} {x4 : Bool} {x5 : Int} {y2 : WorldD} {c : Prop} [Decidable c] {e e' : Ex} {x4O : Bool} {x4P : Bool} (h : lp Tryz.prog cfg RN n 5 93 2 0 q (spec_l15Got_S2 x1 x4 x5 y2) = some (if c then (e, spec_l15Got_O2 x4O) else (e', spec_l15Got_O2 x4P))) : spec_l15Got_L2 n q x1 x4 x5 y2 = some (if c then (e, (x4O, ()), ()) else (e', (x4P, ()), ())) := by
  by_cases hc : c
  · rw [if_pos hc] at h ⊢; exact spec_l15Got_L2_of h
  · rw [if_neg hc] at h ⊢; exact spec_l15Got_L2_of h

@[reducible] def spec_l15In_S2 (t0 : Bool) (x0 : List Int) (x1 : Int) (x4 : Bool) (x5 : Int) : St := ⟨frOf [(0, .sl t0 .int x0), (1, .int x1), (4, .bool x4), (5, .int x5)], hpIds []⟩

@[reducible] def spec_l15In_O2 (x4 : Bool) : St := ⟨frOf [(4, .bool x4)], hpIds []⟩

noncomputable def spec_l15In_L2 (n q : Nat) (t0 : Bool) (x0 : List Int) (x1 : Int) (x4 : Bool) (x5 : Int) : Option (Ex × (Bool × Unit) × Unit) := lpT Tryz.prog cfg RN n 5 98 2 0 q (spec_l15In_S2 t0 x0 x1 x4 x5)

theorem spec_l15In_L2_of {n q : Nat} {t0 : Bool} {x0 : List Int} {x1 : Int} {x4 : Bool} {x5 : Int} {e : Ex} {x4O : Bool} (h : lp Tryz.prog cfg RN n 5 98 2 0 q (spec_l15In_S2 t0 x0 x1 x4 x5) = some (e, spec_l15In_O2 x4O)) : spec_l15In_L2 n q t0 x0 x1 x4 x5 = some (e, (x4O, ()), ()) := by
  unfold spec_l15In_L2 lpT
  rw [h]
  kernel_rfl

theorem spec_l15In_L2_if {n q : Nat} {t0 : Bool} {x0 : List Int} {x1 : Int} {x4 : Bool} {x5 : Int} {c : Prop} [Decidable c] {e e' : Ex} {x4O : Bool} {x4P : Bool} (h : lp Tryz.prog cfg RN n 5 98 2 0 q (spec_l15In_S2 t0 x0 x1 x4 x5) = some (if c then (e, spec_l15In_O2 x4O) else (e', spec_l15In_O2 x4P))) : spec_l15In_L2 n q t0 x0 x1 x4 x5 = some (if c then (e, (x4O, ()), ()) else (e', (x4P, ()), ())) := by
  by_cases hc : c
  · rw [if_pos hc] at h ⊢; exact spec_l15In_L2_of h
  · rw [if_neg hc] at h ⊢; exact spec_l15In_L2_of h

@[reducible] def spec_Notes_S4 (x0 : ByteArray) (x4 : List Note) (x5 : Int) (x6 : Int) : St := ⟨frOf [(0, .str x0), (4, .c (.row (.own 4) .note)), (5, .int x5), (6, .int x6)], hpIds [(.own 4, .row true .note x4)]⟩

@[reducible] def spec_Notes_O4 (x4 : List Note) (x5 : Int) : St := ⟨frOf [(4, .c (.row (.own 4) .note)), (5, .int x5)], hpIds [(.own 4, .row true .note x4)]⟩

noncomputable def spec_Notes_L4 (n q : Nat) (x0 : ByteArray) (x4 : List Note) (x5 : Int) (x6 : Int) : Option (Ex × (Unit × Int × Unit) × List Note × Unit) := lpT Tryz.prog cfg RN n 5 118 4 0 q (spec_Notes_S4 x0 x4 x5 x6)

theorem spec_Notes_L4_of {n q : Nat} {x0 : ByteArray} {x4 : List Note} {x5 : Int} {x6 : Int} {e : Ex} {x4O : List Note} {x5O : Int} (h : lp Tryz.prog cfg RN n 5 118 4 0 q (spec_Notes_S4 x0 x4 x5 x6) = some (e, spec_Notes_O4 x4O x5O)) : spec_Notes_L4 n q x0 x4 x5 x6 = some (e, ((), x5O, ()), x4O, ()) := by
  unfold spec_Notes_L4 lpT
  rw [h]
  kernel_rfl

theorem spec_Notes_L4_if {n q : Nat} {x0 : ByteArray} {x4 : List Note} {x5 : Int} {x6 : Int} {c : Prop} [Decidable c] {e e' : Ex} {x4O : List Note} {x5O : Int} {x4P : List Note} {x5P : Int} (h : lp Tryz.prog cfg RN n 5 118 4 0 q (spec_Notes_S4 x0 x4 x5 x6) = some (if c then (e, spec_Notes_O4 x4O x5O) else (e', spec_Notes_O4 x4P x5P))) : spec_Notes_L4 n q x0 x4 x5 x6 = some (if c then (e, ((), x5O, ()), x4O, ()) else (e', ((), x5P, ()), x4P, ())) := by
  by_cases hc : c
  · rw [if_pos hc] at h ⊢; exact spec_Notes_L4_of h
  · rw [if_neg hc] at h ⊢; exact spec_Notes_L4_of h

@[reducible] def spec_Play_S3 (t0 : Bool) (x0 : List Note) (x3 : List Letter) (x4 : Int) : St := ⟨frOf [(0, .sl t0 .note x0), (3, .c (.row (.own 3) .letter)), (4, .int x4)], hpIds [(.own 3, .row true .letter x3)]⟩

@[reducible] def spec_Play_O3 (x3 : List Letter) : St := ⟨frOf [(3, .c (.row (.own 3) .letter))], hpIds [(.own 3, .row true .letter x3)]⟩

noncomputable def spec_Play_L3 (n q : Nat) (t0 : Bool) (x0 : List Note) (x3 : List Letter) (x4 : Int) : Option (Ex × (Unit × Unit) × List Letter × Unit) := lpT Tryz.prog cfg RN n 5 119 3 0 q (spec_Play_S3 t0 x0 x3 x4)

theorem spec_Play_L3_of {n q : Nat} {t0 : Bool} {x0 : List Note} {x3 : List Letter} {x4 : Int} {e : Ex} {x3O : List Letter} (h : lp Tryz.prog cfg RN n 5 119 3 0 q (spec_Play_S3 t0 x0 x3 x4) = some (e, spec_Play_O3 x3O)) : spec_Play_L3 n q t0 x0 x3 x4 = some (e, ((), ()), x3O, ()) := by
  unfold spec_Play_L3 lpT
  rw [h]
  kernel_rfl

theorem spec_Play_L3_if {n q : Nat} {t0 : Bool} {x0 : List Note} {x3 : List Letter} {x4 : Int} {c : Prop} [Decidable c] {e e' : Ex} {x3O : List Letter} {x3P : List Letter} (h : lp Tryz.prog cfg RN n 5 119 3 0 q (spec_Play_S3 t0 x0 x3 x4) = some (if c then (e, spec_Play_O3 x3O) else (e', spec_Play_O3 x3P))) : spec_Play_L3 n q t0 x0 x3 x4 = some (if c then (e, ((), ()), x3O, ()) else (e', ((), ()), x3P, ())) := by
  by_cases hc : c
  · rw [if_pos hc] at h ⊢; exact spec_Play_L3_of h
  · rw [if_neg hc] at h ⊢; exact spec_Play_L3_of h

@[reducible] def impl_Notes_S3 (x0 : ByteArray) (x2 : List Note) (x3 : Int) (x4 : List Note) (x5 : Int) : St := ⟨frOf [(0, .str x0), (2, .c (.row (.own 2) .note)), (3, .int x3), (4, .c (.row (.own 4) .note)), (5, .int x5)], hpIds [(.own 2, .row true .note x2), (.own 4, .row true .note x4)]⟩

@[reducible] def impl_Notes_O3 (x2 : List Note) (x3 : Int) : St := ⟨frOf [(2, .c (.row (.own 2) .note)), (3, .int x3)], hpIds [(.own 2, .row true .note x2)]⟩

noncomputable def impl_Notes_L3 (n q : Nat) (x0 : ByteArray) (x2 : List Note) (x3 : Int) (x4 : List Note) (x5 : Int) : Option (Ex × (Unit × Int × Unit) × List Note × Unit) := lpT Tryz.prog cfg RN n 5 120 3 0 q (impl_Notes_S3 x0 x2 x3 x4 x5)

theorem impl_Notes_L3_of {n q : Nat} {x0 : ByteArray} {x2 : List Note} {x3 : Int} {x4 : List Note} {x5 : Int} {e : Ex} {x2O : List Note} {x3O : Int} (h : lp Tryz.prog cfg RN n 5 120 3 0 q (impl_Notes_S3 x0 x2 x3 x4 x5) = some (e, impl_Notes_O3 x2O x3O)) : impl_Notes_L3 n q x0 x2 x3 x4 x5 = some (e, ((), x3O, ()), x2O, ()) := by
  unfold impl_Notes_L3 lpT
  rw [h]
  kernel_rfl

theorem impl_Notes_L3_if {n q : Nat} {x0 : ByteArray} {x2 : List Note} {x3 : Int} {x4 : List Note} {x5 : Int} {c : Prop} [Decidable c] {e e' : Ex} {x2O : List Note} {x3O : Int} {x2P : List Note} {x3P : Int} (h : lp Tryz.prog cfg RN n 5 120 3 0 q (impl_Notes_S3 x0 x2 x3 x4 x5) = some (if c then (e, impl_Notes_O3 x2O x3O) else (e', impl_Notes_O3 x2P x3P))) : impl_Notes_L3 n q x0 x2 x3 x4 x5 = some (if c then (e, ((), x3O, ()), x2O, ()) else (e', ((), x3P, ()), x2P, ())) := by
  by_cases hc : c
  · rw [if_pos hc] at h ⊢; exact impl_Notes_L3_of h
  · rw [if_neg hc] at h ⊢; exact impl_Notes_L3_of h

@[reducible] def slices_Equal_impl_Letter_impl_Letter_S4 (t0 : Bool) (x0 : List Letter) (t1 : Bool) (x1 : List Letter) (x4 : Bool) (x12 : Int) (x13 : Int) : St := ⟨frOf [(0, .sl t0 .letter x0), (1, .sl t1 .letter x1), (4, .bool x4), (12, .int x12), (13, .int x13)], hpIds []⟩

@[reducible] def slices_Equal_impl_Letter_impl_Letter_O4 (x4 : Bool) : St := ⟨frOf [(4, .bool x4)], hpIds []⟩

noncomputable def slices_Equal_impl_Letter_impl_Letter_L4 (n q : Nat) (t0 : Bool) (x0 : List Letter) (t1 : Bool) (x1 : List Letter) (x4 : Bool) (x12 : Int) (x13 : Int) : Option (Ex × (Bool × Unit) × Unit) := lpT Tryz.prog cfg RN n 5 121 4 0 q (slices_Equal_impl_Letter_impl_Letter_S4 t0 x0 t1 x1 x4 x12 x13)

theorem slices_Equal_impl_Letter_impl_Letter_L4_of {n q : Nat} {t0 : Bool} {x0 : List Letter} {t1 : Bool} {x1 : List Letter} {x4 : Bool} {x12 : Int} {x13 : Int} {e : Ex} {x4O : Bool} (h : lp Tryz.prog cfg RN n 5 121 4 0 q (slices_Equal_impl_Letter_impl_Letter_S4 t0 x0 t1 x1 x4 x12 x13) = some (e, slices_Equal_impl_Letter_impl_Letter_O4 x4O)) : slices_Equal_impl_Letter_impl_Letter_L4 n q t0 x0 t1 x1 x4 x12 x13 = some (e, (x4O, ()), ()) := by
  unfold slices_Equal_impl_Letter_impl_Letter_L4 lpT
  rw [h]
  kernel_rfl

theorem slices_Equal_impl_Letter_impl_Letter_L4_if {n q : Nat} {t0 : Bool} {x0 : List Letter} {t1 : Bool} {x1 : List Letter} {x4 : Bool} {x12 : Int} {x13 : Int} {c : Prop} [Decidable c] {e e' : Ex} {x4O : Bool} {x4P : Bool} (h : lp Tryz.prog cfg RN n 5 121 4 0 q (slices_Equal_impl_Letter_impl_Letter_S4 t0 x0 t1 x1 x4 x12 x13) = some (if c then (e, slices_Equal_impl_Letter_impl_Letter_O4 x4O) else (e', slices_Equal_impl_Letter_impl_Letter_O4 x4P))) : slices_Equal_impl_Letter_impl_Letter_L4 n q t0 x0 t1 x1 x4 x12 x13 = some (if c then (e, (x4O, ()), ()) else (e', (x4P, ()), ())) := by
  by_cases hc : c
  · rw [if_pos hc] at h ⊢; exact slices_Equal_impl_Letter_impl_Letter_L4_of h
  · rw [if_neg hc] at h ⊢; exact slices_Equal_impl_Letter_impl_Letter_L4_of h

@[reducible] def impl_Play_S3 (x3 : List Letter) (t7 : Bool) (x7 : List Note) (x8 : Int) (x9 : Int) : St := ⟨frOf [(3, .c (.row (.own 3) .letter)), (7, .sl t7 .note x7), (8, .int x8), (9, .int x9)], hpIds [(.own 3, .row true .letter x3)]⟩

@[reducible] def impl_Play_O3 (x3 : List Letter) : St := ⟨frOf [(3, .c (.row (.own 3) .letter))], hpIds [(.own 3, .row true .letter x3)]⟩

noncomputable def impl_Play_L3 (n q : Nat) (x3 : List Letter) (t7 : Bool) (x7 : List Note) (x8 : Int) (x9 : Int) : Option (Ex × (Unit × Unit) × List Letter × Unit) := lpT Tryz.prog cfg RN n 5 122 3 0 q (impl_Play_S3 x3 t7 x7 x8 x9)

theorem impl_Play_L3_of {n q : Nat} {x3 : List Letter} {t7 : Bool} {x7 : List Note} {x8 : Int} {x9 : Int} {e : Ex} {x3O : List Letter} (h : lp Tryz.prog cfg RN n 5 122 3 0 q (impl_Play_S3 x3 t7 x7 x8 x9) = some (e, impl_Play_O3 x3O)) : impl_Play_L3 n q x3 t7 x7 x8 x9 = some (e, ((), ()), x3O, ()) := by
  unfold impl_Play_L3 lpT
  rw [h]
  kernel_rfl

theorem impl_Play_L3_if {n q : Nat} {x3 : List Letter} {t7 : Bool} {x7 : List Note} {x8 : Int} {x9 : Int} {c : Prop} [Decidable c] {e e' : Ex} {x3O : List Letter} {x3P : List Letter} (h : lp Tryz.prog cfg RN n 5 122 3 0 q (impl_Play_S3 x3 t7 x7 x8 x9) = some (if c then (e, impl_Play_O3 x3O) else (e', impl_Play_O3 x3P))) : impl_Play_L3 n q x3 t7 x7 x8 x9 = some (if c then (e, ((), ()), x3O, ()) else (e', ((), ()), x3P, ())) := by
  by_cases hc : c
  · rw [if_pos hc] at h ⊢; exact impl_Play_L3_of h
  · rw [if_neg hc] at h ⊢; exact impl_Play_L3_of h

@[reducible] def spec_Same_S4 (x4 : Bool) (x5 : Int) (y2 : Term) (y3 : Term) : St := ⟨frOf [(2, .c (.bx (.own 2) 0)), (3, .c (.bx (.own 3) 0)), (4, .bool x4), (5, .int x5)], hpIds [(.own 2, .box ((Term.cells y2).map C.f)), (.own 3, .box ((Term.cells y3).map C.f))]⟩

@[reducible] def spec_Same_O4 (x4 : Bool) : St := ⟨frOf [(4, .bool x4)], hpIds []⟩

noncomputable def spec_Same_L4 (n q : Nat) (x4 : Bool) (x5 : Int) (y2 : Term) (y3 : Term) : Option (Ex × (Bool × Unit) × Unit) := lpT Tryz.prog cfg RN n 5 129 4 0 q (spec_Same_S4 x4 x5 y2 y3)

theorem spec_Same_L4_of {n q : Nat} {x4 : Bool} {x5 : Int} {y2 : Term} {y3 : Term} {e : Ex} {x4O : Bool} (h : lp Tryz.prog cfg RN n 5 129 4 0 q (spec_Same_S4 x4 x5 y2 y3) = some (e, spec_Same_O4 x4O)) : spec_Same_L4 n q x4 x5 y2 y3 = some (e, (x4O, ()), ()) := by
  unfold spec_Same_L4 lpT
  rw [h]
  kernel_rfl

theorem spec_Same_L4_if {n q : Nat} {x4 : Bool} {x5 : Int} {y2 : Term} {y3 : Term} {c : Prop} [Decidable c] {e e' : Ex} {x4O : Bool} {x4P : Bool} (h : lp Tryz.prog cfg RN n 5 129 4 0 q (spec_Same_S4 x4 x5 y2 y3) = some (if c then (e, spec_Same_O4 x4O) else (e', spec_Same_O4 x4P))) : spec_Same_L4 n q x4 x5 y2 y3 = some (if c then (e, (x4O, ()), ()) else (e', (x4P, ()), ())) := by
  by_cases hc : c
  · rw [if_pos hc] at h ⊢; exact spec_Same_L4_of h
  · rw [if_neg hc] at h ⊢; exact spec_Same_L4_of h

@[reducible] def spec_PolicyOk_S2 (x2 : Bool) (x3 : Int) (y1 : Policy) : St := ⟨frOf [(1, .c (.bx (.own 1) 0)), (2, .bool x2), (3, .int x3)], hpIds [(.own 1, .box ((Policy.cells y1).map C.f))]⟩

@[reducible] def spec_PolicyOk_O2 (x2 : Bool) (y1 : Policy) : St := ⟨frOf [(1, .c (.bx (.own 1) 0)), (2, .bool x2)], hpIds [(.own 1, .box ((Policy.cells y1).map C.f))]⟩

noncomputable def spec_PolicyOk_L2 (n q : Nat) (x2 : Bool) (x3 : Int) (y1 : Policy) : Option (Ex × (Unit × Bool × Unit) × Policy × Unit) := lpT Tryz.prog cfg RN n 5 148 2 0 q (spec_PolicyOk_S2 x2 x3 y1)

theorem spec_PolicyOk_L2_of {n q : Nat} {x2 : Bool} {x3 : Int} {y1 : Policy} {e : Ex} {x2O : Bool} {y1O : Policy} (h : lp Tryz.prog cfg RN n 5 148 2 0 q (spec_PolicyOk_S2 x2 x3 y1) = some (e, spec_PolicyOk_O2 x2O y1O)) : spec_PolicyOk_L2 n q x2 x3 y1 = some (e, ((), x2O, ()), y1O, ()) := by
  unfold spec_PolicyOk_L2 lpT
  rw [h]
  kernel_rfl

theorem spec_PolicyOk_L2_if {n q : Nat} {x2 : Bool} {x3 : Int} {y1 : Policy} {c : Prop} [Decidable c] {e e' : Ex} {x2O : Bool} {y1O : Policy} {x2P : Bool} {y1P : Policy} (h : lp Tryz.prog cfg RN n 5 148 2 0 q (spec_PolicyOk_S2 x2 x3 y1) = some (if c then (e, spec_PolicyOk_O2 x2O y1O) else (e', spec_PolicyOk_O2 x2P y1P))) : spec_PolicyOk_L2 n q x2 x3 y1 = some (if c then (e, ((), x2O, ()), y1O, ()) else (e', ((), x2P, ()), y1P, ())) := by
  by_cases hc : c
  · rw [if_pos hc] at h ⊢; exact spec_PolicyOk_L2_of h
  · rw [if_neg hc] at h ⊢; exact spec_PolicyOk_L2_of h

@[reducible] def spec_TermSize_S3 (x3 : Int) (x4 : Int) (y1 : Term) : St := ⟨frOf [(1, .c (.bx (.own 1) 0)), (3, .int x3), (4, .int x4)], hpIds [(.own 1, .box ((Term.cells y1).map C.f))]⟩

@[reducible] def spec_TermSize_O3 (x3 : Int) : St := ⟨frOf [(3, .int x3)], hpIds []⟩

noncomputable def spec_TermSize_L3 (n q : Nat) (x3 : Int) (x4 : Int) (y1 : Term) : Option (Ex × (Int × Unit) × Unit) := lpT Tryz.prog cfg RN n 5 149 3 0 q (spec_TermSize_S3 x3 x4 y1)

theorem spec_TermSize_L3_of {n q : Nat} {x3 : Int} {x4 : Int} {y1 : Term} {e : Ex} {x3O : Int} (h : lp Tryz.prog cfg RN n 5 149 3 0 q (spec_TermSize_S3 x3 x4 y1) = some (e, spec_TermSize_O3 x3O)) : spec_TermSize_L3 n q x3 x4 y1 = some (e, (x3O, ()), ()) := by
  unfold spec_TermSize_L3 lpT
  rw [h]
  kernel_rfl

theorem spec_TermSize_L3_if {n q : Nat} {x3 : Int} {x4 : Int} {y1 : Term} {c : Prop} [Decidable c] {e e' : Ex} {x3O : Int} {x3P : Int} (h : lp Tryz.prog cfg RN n 5 149 3 0 q (spec_TermSize_S3 x3 x4 y1) = some (if c then (e, spec_TermSize_O3 x3O) else (e', spec_TermSize_O3 x3P))) : spec_TermSize_L3 n q x3 x4 y1 = some (if c then (e, (x3O, ()), ()) else (e', (x3P, ()), ())) := by
  by_cases hc : c
  · rw [if_pos hc] at h ⊢; exact spec_TermSize_L3_of h
  · rw [if_neg hc] at h ⊢; exact spec_TermSize_L3_of h

@[reducible] def spec_l1Right_S4 (x2 : Bool) (x3 : Int) (y1 : Term) : St := ⟨frOf [(1, .c (.bx (.own 1) 0)), (2, .bool x2), (3, .int x3)], hpIds [(.own 1, .box ((Term.cells y1).map C.f))]⟩

@[reducible] def spec_l1Right_O4 (x2 : Bool) (y1 : Term) : St := ⟨frOf [(1, .c (.bx (.own 1) 0)), (2, .bool x2)], hpIds [(.own 1, .box ((Term.cells y1).map C.f))]⟩

noncomputable def spec_l1Right_L4 (n q : Nat) (x2 : Bool) (x3 : Int) (y1 : Term) : Option (Ex × (Unit × Bool × Unit) × Term × Unit) := lpT Tryz.prog cfg RN n 5 150 4 0 q (spec_l1Right_S4 x2 x3 y1)

theorem spec_l1Right_L4_of {n q : Nat} {x2 : Bool} {x3 : Int} {y1 : Term} {e : Ex} {x2O : Bool} {y1O : Term} (h : lp Tryz.prog cfg RN n 5 150 4 0 q (spec_l1Right_S4 x2 x3 y1) = some (e, spec_l1Right_O4 x2O y1O)) : spec_l1Right_L4 n q x2 x3 y1 = some (e, ((), x2O, ()), y1O, ()) := by
  unfold spec_l1Right_L4 lpT
  rw [h]
  exact Eq.trans (b := some (e, ((), x2O, ()), (⟨y1O.op, y1O.n, y1O.s, y1O.kids⟩ : Term), ())) (by kernel_rfl) (by simp only [Term.eta])

theorem spec_l1Right_L4_if {n q : Nat} {x2 : Bool} {x3 : Int} {y1 : Term} {c : Prop} [Decidable c] {e e' : Ex} {x2O : Bool} {y1O : Term} {x2P : Bool} {y1P : Term} (h : lp Tryz.prog cfg RN n 5 150 4 0 q (spec_l1Right_S4 x2 x3 y1) = some (if c then (e, spec_l1Right_O4 x2O y1O) else (e', spec_l1Right_O4 x2P y1P))) : spec_l1Right_L4 n q x2 x3 y1 = some (if c then (e, ((), x2O, ()), y1O, ()) else (e', ((), x2P, ()), y1P, ())) := by
  by_cases hc : c
  · rw [if_pos hc] at h ⊢; exact spec_l1Right_L4_of h
  · rw [if_neg hc] at h ⊢; exact spec_l1Right_L4_of h

@[reducible] def spec_l6Domain_S2 (x0 : ByteArray) (x2 : Bool) (x3 : Int) : St := ⟨frOf [(0, .str x0), (2, .bool x2), (3, .int x3)], hpIds []⟩

@[reducible] def spec_l6Domain_O2 (x0 : ByteArray) (x2 : Bool) : St := ⟨frOf [(0, .str x0), (2, .bool x2)], hpIds []⟩

noncomputable def spec_l6Domain_L2 (n q : Nat) (x0 : ByteArray) (x2 : Bool) (x3 : Int) : Option (Ex × (ByteArray × Bool × Unit) × Unit) := lpT Tryz.prog cfg RN n 5 151 2 0 q (spec_l6Domain_S2 x0 x2 x3)

theorem spec_l6Domain_L2_of {n q : Nat} {x0 : ByteArray} {x2 : Bool} {x3 : Int} {e : Ex} {x0O : ByteArray} {x2O : Bool} (h : lp Tryz.prog cfg RN n 5 151 2 0 q (spec_l6Domain_S2 x0 x2 x3) = some (e, spec_l6Domain_O2 x0O x2O)) : spec_l6Domain_L2 n q x0 x2 x3 = some (e, (x0O, x2O, ()), ()) := by
  unfold spec_l6Domain_L2 lpT
  rw [h]
  kernel_rfl

theorem spec_l6Domain_L2_if {n q : Nat} {x0 : ByteArray} {x2 : Bool} {x3 : Int} {c : Prop} [Decidable c] {e e' : Ex} {x0O : ByteArray} {x2O : Bool} {x0P : ByteArray} {x2P : Bool} (h : lp Tryz.prog cfg RN n 5 151 2 0 q (spec_l6Domain_S2 x0 x2 x3) = some (if c then (e, spec_l6Domain_O2 x0O x2O) else (e', spec_l6Domain_O2 x0P x2P))) : spec_l6Domain_L2 n q x0 x2 x3 = some (if c then (e, (x0O, x2O, ()), ()) else (e', (x0P, x2P, ()), ())) := by
  by_cases hc : c
  · rw [if_pos hc] at h ⊢; exact spec_l6Domain_L2_of h
  · rw [if_neg hc] at h ⊢; exact spec_l6Domain_L2_of h

@[reducible] def IndexFunc_WorldOk_1_S2 (t0 : Bool) (x0 : List Term) (x4 : Int) (x7 : Int) (x8 : Int) : St := ⟨frOf [(0, .sl t0 .term x0), (1, .c (.fn 76 [])), (4, .int x4), (7, .int x7), (8, .int x8)], hpIds []⟩

@[reducible] def IndexFunc_WorldOk_1_O2 (x4 : Int) : St := ⟨frOf [(4, .int x4)], hpIds []⟩

noncomputable def IndexFunc_WorldOk_1_L2 (n q : Nat) (t0 : Bool) (x0 : List Term) (x4 : Int) (x7 : Int) (x8 : Int) : Option (Ex × (Int × Unit) × Unit) := lpT Tryz.prog cfg RN n 5 159 2 0 q (IndexFunc_WorldOk_1_S2 t0 x0 x4 x7 x8)

theorem IndexFunc_WorldOk_1_L2_of {n q : Nat} {t0 : Bool} {x0 : List Term} {x4 : Int} {x7 : Int} {x8 : Int} {e : Ex} {x4O : Int} (h : lp Tryz.prog cfg RN n 5 159 2 0 q (IndexFunc_WorldOk_1_S2 t0 x0 x4 x7 x8) = some (e, IndexFunc_WorldOk_1_O2 x4O)) : IndexFunc_WorldOk_1_L2 n q t0 x0 x4 x7 x8 = some (e, (x4O, ()), ()) := by
  unfold IndexFunc_WorldOk_1_L2 lpT
  rw [h]
  kernel_rfl

theorem IndexFunc_WorldOk_1_L2_if {n q : Nat} {t0 : Bool} {x0 : List Term} {x4 : Int} {x7 : Int} {x8 : Int} {c : Prop} [Decidable c] {e e' : Ex} {x4O : Int} {x4P : Int} (h : lp Tryz.prog cfg RN n 5 159 2 0 q (IndexFunc_WorldOk_1_S2 t0 x0 x4 x7 x8) = some (if c then (e, IndexFunc_WorldOk_1_O2 x4O) else (e', IndexFunc_WorldOk_1_O2 x4P))) : IndexFunc_WorldOk_1_L2 n q t0 x0 x4 x7 x8 = some (if c then (e, (x4O, ()), ()) else (e', (x4P, ()), ())) := by
  by_cases hc : c
  · rw [if_pos hc] at h ⊢; exact IndexFunc_WorldOk_1_L2_of h
  · rw [if_neg hc] at h ⊢; exact IndexFunc_WorldOk_1_L2_of h

@[reducible] def IndexFunc_formOk_1_S2 (t0 : Bool) (x0 : List Term) (x4 : Int) (x7 : Int) (x8 : Int) : St := ⟨frOf [(0, .sl t0 .term x0), (1, .c (.fn 207 [])), (4, .int x4), (7, .int x7), (8, .int x8)], hpIds []⟩

@[reducible] def IndexFunc_formOk_1_O2 (x4 : Int) : St := ⟨frOf [(4, .int x4)], hpIds []⟩

noncomputable def IndexFunc_formOk_1_L2 (n q : Nat) (t0 : Bool) (x0 : List Term) (x4 : Int) (x7 : Int) (x8 : Int) : Option (Ex × (Int × Unit) × Unit) := lpT Tryz.prog cfg RN n 5 159 2 0 q (IndexFunc_formOk_1_S2 t0 x0 x4 x7 x8)

theorem IndexFunc_formOk_1_L2_of {n q : Nat} {t0 : Bool} {x0 : List Term} {x4 : Int} {x7 : Int} {x8 : Int} {e : Ex} {x4O : Int} (h : lp Tryz.prog cfg RN n 5 159 2 0 q (IndexFunc_formOk_1_S2 t0 x0 x4 x7 x8) = some (e, IndexFunc_formOk_1_O2 x4O)) : IndexFunc_formOk_1_L2 n q t0 x0 x4 x7 x8 = some (e, (x4O, ()), ()) := by
  unfold IndexFunc_formOk_1_L2 lpT
  rw [h]
  kernel_rfl

theorem IndexFunc_formOk_1_L2_if {n q : Nat} {t0 : Bool} {x0 : List Term} {x4 : Int} {x7 : Int} {x8 : Int} {c : Prop} [Decidable c] {e e' : Ex} {x4O : Int} {x4P : Int} (h : lp Tryz.prog cfg RN n 5 159 2 0 q (IndexFunc_formOk_1_S2 t0 x0 x4 x7 x8) = some (if c then (e, IndexFunc_formOk_1_O2 x4O) else (e', IndexFunc_formOk_1_O2 x4P))) : IndexFunc_formOk_1_L2 n q t0 x0 x4 x7 x8 = some (if c then (e, (x4O, ()), ()) else (e', (x4P, ()), ())) := by
  by_cases hc : c
  · rw [if_pos hc] at h ⊢; exact IndexFunc_formOk_1_L2_of h
  · rw [if_neg hc] at h ⊢; exact IndexFunc_formOk_1_L2_of h

@[reducible] def IndexFunc_made_1_S2 (t0 : Bool) (x0 : List Term) (c0 : List Term) (x4 : Int) (x7 : Int) (x8 : Int) : St := ⟨frOf [(0, .sl t0 .term x0), (1, .c (.fn 218 [.f (.ep .terms c0 0)])), (4, .int x4), (7, .int x7), (8, .int x8)], hpIds []⟩

@[reducible] def IndexFunc_made_1_O2 (x4 : Int) : St := ⟨frOf [(4, .int x4)], hpIds []⟩

noncomputable def IndexFunc_made_1_L2 (n q : Nat) (t0 : Bool) (x0 : List Term) (c0 : List Term) (x4 : Int) (x7 : Int) (x8 : Int) : Option (Ex × (Int × Unit) × Unit) := lpT Tryz.prog cfg RN n 5 159 2 0 q (IndexFunc_made_1_S2 t0 x0 c0 x4 x7 x8)

theorem IndexFunc_made_1_L2_of {n q : Nat} {t0 : Bool} {x0 : List Term} {c0 : List Term} {x4 : Int} {x7 : Int} {x8 : Int} {e : Ex} {x4O : Int} (h : lp Tryz.prog cfg RN n 5 159 2 0 q (IndexFunc_made_1_S2 t0 x0 c0 x4 x7 x8) = some (e, IndexFunc_made_1_O2 x4O)) : IndexFunc_made_1_L2 n q t0 x0 c0 x4 x7 x8 = some (e, (x4O, ()), ()) := by
  unfold IndexFunc_made_1_L2 lpT
  rw [h]
  kernel_rfl

theorem IndexFunc_made_1_L2_if {n q : Nat} {t0 : Bool} {x0 : List Term} {c0 : List Term} {x4 : Int} {x7 : Int} {x8 : Int} {c : Prop} [Decidable c] {e e' : Ex} {x4O : Int} {x4P : Int} (h : lp Tryz.prog cfg RN n 5 159 2 0 q (IndexFunc_made_1_S2 t0 x0 c0 x4 x7 x8) = some (if c then (e, IndexFunc_made_1_O2 x4O) else (e', IndexFunc_made_1_O2 x4P))) : IndexFunc_made_1_L2 n q t0 x0 c0 x4 x7 x8 = some (if c then (e, (x4O, ()), ()) else (e', (x4P, ()), ())) := by
  by_cases hc : c
  · rw [if_pos hc] at h ⊢; exact IndexFunc_made_1_L2_of h
  · rw [if_neg hc] at h ⊢; exact IndexFunc_made_1_L2_of h

@[reducible] def IndexFunc_hasTerm_1_S2 (t0 : Bool) (x0 : List Term) (c0 : Term) (x4 : Int) (x7 : Int) (x8 : Int) : St := ⟨frOf [(0, .sl t0 .term x0), (1, .c (.fn 239 [.f (.ep .term c0 0)])), (4, .int x4), (7, .int x7), (8, .int x8)], hpIds []⟩

@[reducible] def IndexFunc_hasTerm_1_O2 (x4 : Int) : St := ⟨frOf [(4, .int x4)], hpIds []⟩

noncomputable def IndexFunc_hasTerm_1_L2 (n q : Nat) (t0 : Bool) (x0 : List Term) (c0 : Term) (x4 : Int) (x7 : Int) (x8 : Int) : Option (Ex × (Int × Unit) × Unit) := lpT Tryz.prog cfg RN n 5 159 2 0 q (IndexFunc_hasTerm_1_S2 t0 x0 c0 x4 x7 x8)

theorem IndexFunc_hasTerm_1_L2_of {n q : Nat} {t0 : Bool} {x0 : List Term} {c0 : Term} {x4 : Int} {x7 : Int} {x8 : Int} {e : Ex} {x4O : Int} (h : lp Tryz.prog cfg RN n 5 159 2 0 q (IndexFunc_hasTerm_1_S2 t0 x0 c0 x4 x7 x8) = some (e, IndexFunc_hasTerm_1_O2 x4O)) : IndexFunc_hasTerm_1_L2 n q t0 x0 c0 x4 x7 x8 = some (e, (x4O, ()), ()) := by
  unfold IndexFunc_hasTerm_1_L2 lpT
  rw [h]
  kernel_rfl

theorem IndexFunc_hasTerm_1_L2_if {n q : Nat} {t0 : Bool} {x0 : List Term} {c0 : Term} {x4 : Int} {x7 : Int} {x8 : Int} {c : Prop} [Decidable c] {e e' : Ex} {x4O : Int} {x4P : Int} (h : lp Tryz.prog cfg RN n 5 159 2 0 q (IndexFunc_hasTerm_1_S2 t0 x0 c0 x4 x7 x8) = some (if c then (e, IndexFunc_hasTerm_1_O2 x4O) else (e', IndexFunc_hasTerm_1_O2 x4P))) : IndexFunc_hasTerm_1_L2 n q t0 x0 c0 x4 x7 x8 = some (if c then (e, (x4O, ()), ()) else (e', (x4P, ()), ())) := by
  by_cases hc : c
  · rw [if_pos hc] at h ⊢; exact IndexFunc_hasTerm_1_L2_of h
  · rw [if_neg hc] at h ⊢; exact IndexFunc_hasTerm_1_L2_of h

@[reducible] def impl_TermSize_S3 (x3 : Int) (t7 : Bool) (x7 : List Term) (x8 : Int) (x9 : Int) : St := ⟨frOf [(3, .int x3), (7, .sl t7 .term x7), (8, .int x8), (9, .int x9)], hpIds []⟩

@[reducible] def impl_TermSize_O3 (x3 : Int) : St := ⟨frOf [(3, .int x3)], hpIds []⟩

noncomputable def impl_TermSize_L3 (n q : Nat) (x3 : Int) (t7 : Bool) (x7 : List Term) (x8 : Int) (x9 : Int) : Option (Ex × (Int × Unit) × Unit) := lpT Tryz.prog cfg RN n 5 160 3 0 q (impl_TermSize_S3 x3 t7 x7 x8 x9)

theorem impl_TermSize_L3_of {n q : Nat} {x3 : Int} {t7 : Bool} {x7 : List Term} {x8 : Int} {x9 : Int} {e : Ex} {x3O : Int} (h : lp Tryz.prog cfg RN n 5 160 3 0 q (impl_TermSize_S3 x3 t7 x7 x8 x9) = some (e, impl_TermSize_O3 x3O)) : impl_TermSize_L3 n q x3 t7 x7 x8 x9 = some (e, (x3O, ()), ()) := by
  unfold impl_TermSize_L3 lpT
  rw [h]
  kernel_rfl

theorem impl_TermSize_L3_if {n q : Nat} {x3 : Int} {t7 : Bool} {x7 : List Term} {x8 : Int} {x9 : Int} {c : Prop} [Decidable c] {e e' : Ex} {x3O : Int} {x3P : Int} (h : lp Tryz.prog cfg RN n 5 160 3 0 q (impl_TermSize_S3 x3 t7 x7 x8 x9) = some (if c then (e, impl_TermSize_O3 x3O) else (e', impl_TermSize_O3 x3P))) : impl_TermSize_L3 n q x3 t7 x7 x8 x9 = some (if c then (e, (x3O, ()), ()) else (e', (x3P, ()), ())) := by
  by_cases hc : c
  · rw [if_pos hc] at h ⊢; exact impl_TermSize_L3_of h
  · rw [if_neg hc] at h ⊢; exact impl_TermSize_L3_of h

@[reducible] def IndexFunc_WorldOk_2_S2 (t0 : Bool) (x0 : List Letter) (x4 : Int) (x7 : Int) (x8 : Int) : St := ⟨frOf [(0, .sl t0 .letter x0), (1, .c (.fn 81 [])), (4, .int x4), (7, .int x7), (8, .int x8)], hpIds []⟩

@[reducible] def IndexFunc_WorldOk_2_O2 (x4 : Int) : St := ⟨frOf [(4, .int x4)], hpIds []⟩

noncomputable def IndexFunc_WorldOk_2_L2 (n q : Nat) (t0 : Bool) (x0 : List Letter) (x4 : Int) (x7 : Int) (x8 : Int) : Option (Ex × (Int × Unit) × Unit) := lpT Tryz.prog cfg RN n 5 165 2 0 q (IndexFunc_WorldOk_2_S2 t0 x0 x4 x7 x8)

theorem IndexFunc_WorldOk_2_L2_of {n q : Nat} {t0 : Bool} {x0 : List Letter} {x4 : Int} {x7 : Int} {x8 : Int} {e : Ex} {x4O : Int} (h : lp Tryz.prog cfg RN n 5 165 2 0 q (IndexFunc_WorldOk_2_S2 t0 x0 x4 x7 x8) = some (e, IndexFunc_WorldOk_2_O2 x4O)) : IndexFunc_WorldOk_2_L2 n q t0 x0 x4 x7 x8 = some (e, (x4O, ()), ()) := by
  unfold IndexFunc_WorldOk_2_L2 lpT
  rw [h]
  kernel_rfl

theorem IndexFunc_WorldOk_2_L2_if {n q : Nat} {t0 : Bool} {x0 : List Letter} {x4 : Int} {x7 : Int} {x8 : Int} {c : Prop} [Decidable c] {e e' : Ex} {x4O : Int} {x4P : Int} (h : lp Tryz.prog cfg RN n 5 165 2 0 q (IndexFunc_WorldOk_2_S2 t0 x0 x4 x7 x8) = some (if c then (e, IndexFunc_WorldOk_2_O2 x4O) else (e', IndexFunc_WorldOk_2_O2 x4P))) : IndexFunc_WorldOk_2_L2 n q t0 x0 x4 x7 x8 = some (if c then (e, (x4O, ()), ()) else (e', (x4P, ()), ())) := by
  by_cases hc : c
  · rw [if_pos hc] at h ⊢; exact IndexFunc_WorldOk_2_L2_of h
  · rw [if_neg hc] at h ⊢; exact IndexFunc_WorldOk_2_L2_of h

@[reducible] def IndexFunc_JudgeSecret_1_S2 (t0 : Bool) (x0 : List Letter) (c0 : WorldD) (x4 : Int) (x7 : Int) (x8 : Int) : St := ⟨frOf [(0, .sl t0 .letter x0), (1, .c (.fn 100 [.f (.ep .world c0 0)])), (4, .int x4), (7, .int x7), (8, .int x8)], hpIds []⟩

@[reducible] def IndexFunc_JudgeSecret_1_O2 (x4 : Int) : St := ⟨frOf [(4, .int x4)], hpIds []⟩

noncomputable def IndexFunc_JudgeSecret_1_L2 (n q : Nat) (t0 : Bool) (x0 : List Letter) (c0 : WorldD) (x4 : Int) (x7 : Int) (x8 : Int) : Option (Ex × (Int × Unit) × Unit) := lpT Tryz.prog cfg RN n 5 165 2 0 q (IndexFunc_JudgeSecret_1_S2 t0 x0 c0 x4 x7 x8)

theorem IndexFunc_JudgeSecret_1_L2_of {n q : Nat} {t0 : Bool} {x0 : List Letter} {c0 : WorldD} {x4 : Int} {x7 : Int} {x8 : Int} {e : Ex} {x4O : Int} (h : lp Tryz.prog cfg RN n 5 165 2 0 q (IndexFunc_JudgeSecret_1_S2 t0 x0 c0 x4 x7 x8) = some (e, IndexFunc_JudgeSecret_1_O2 x4O)) : IndexFunc_JudgeSecret_1_L2 n q t0 x0 c0 x4 x7 x8 = some (e, (x4O, ()), ()) := by
  unfold IndexFunc_JudgeSecret_1_L2 lpT
  rw [h]
  kernel_rfl

theorem IndexFunc_JudgeSecret_1_L2_if {n q : Nat} {t0 : Bool} {x0 : List Letter} {c0 : WorldD} {x4 : Int} {x7 : Int} {x8 : Int} {c : Prop} [Decidable c] {e e' : Ex} {x4O : Int} {x4P : Int} (h : lp Tryz.prog cfg RN n 5 165 2 0 q (IndexFunc_JudgeSecret_1_S2 t0 x0 c0 x4 x7 x8) = some (if c then (e, IndexFunc_JudgeSecret_1_O2 x4O) else (e', IndexFunc_JudgeSecret_1_O2 x4P))) : IndexFunc_JudgeSecret_1_L2 n q t0 x0 c0 x4 x7 x8 = some (if c then (e, (x4O, ()), ()) else (e', (x4P, ()), ())) := by
  by_cases hc : c
  · rw [if_pos hc] at h ⊢; exact IndexFunc_JudgeSecret_1_L2_of h
  · rw [if_neg hc] at h ⊢; exact IndexFunc_JudgeSecret_1_L2_of h

@[reducible] def impl_domainOk_S2 (x0 : ByteArray) (x2 : Bool) (x5 : Int) (x6 : Int) : St := ⟨frOf [(0, .str x0), (2, .bool x2), (5, .int x5), (6, .int x6)], hpIds []⟩

@[reducible] def impl_domainOk_O2 (x0 : ByteArray) (x2 : Bool) : St := ⟨frOf [(0, .str x0), (2, .bool x2)], hpIds []⟩

noncomputable def impl_domainOk_L2 (n q : Nat) (x0 : ByteArray) (x2 : Bool) (x5 : Int) (x6 : Int) : Option (Ex × (ByteArray × Bool × Unit) × Unit) := lpT Tryz.prog cfg RN n 5 166 2 0 q (impl_domainOk_S2 x0 x2 x5 x6)

theorem impl_domainOk_L2_of {n q : Nat} {x0 : ByteArray} {x2 : Bool} {x5 : Int} {x6 : Int} {e : Ex} {x0O : ByteArray} {x2O : Bool} (h : lp Tryz.prog cfg RN n 5 166 2 0 q (impl_domainOk_S2 x0 x2 x5 x6) = some (e, impl_domainOk_O2 x0O x2O)) : impl_domainOk_L2 n q x0 x2 x5 x6 = some (e, (x0O, x2O, ()), ()) := by
  unfold impl_domainOk_L2 lpT
  rw [h]
  kernel_rfl

theorem impl_domainOk_L2_if {n q : Nat} {x0 : ByteArray} {x2 : Bool} {x5 : Int} {x6 : Int} {c : Prop} [Decidable c] {e e' : Ex} {x0O : ByteArray} {x2O : Bool} {x0P : ByteArray} {x2P : Bool} (h : lp Tryz.prog cfg RN n 5 166 2 0 q (impl_domainOk_S2 x0 x2 x5 x6) = some (if c then (e, impl_domainOk_O2 x0O x2O) else (e', impl_domainOk_O2 x0P x2P))) : impl_domainOk_L2 n q x0 x2 x5 x6 = some (if c then (e, (x0O, x2O, ()), ()) else (e', (x0P, x2P, ()), ())) := by
  by_cases hc : c
  · rw [if_pos hc] at h ⊢; exact impl_domainOk_L2_of h
  · rw [if_neg hc] at h ⊢; exact impl_domainOk_L2_of h

@[reducible] def IndexFunc_JudgeHeld_1_S2 (t0 : Bool) (x0 : List CallD) (x4 : Int) (x7 : Int) (x8 : Int) : St := ⟨frOf [(0, .sl t0 .call x0), (1, .c (.fn 92 [])), (4, .int x4), (7, .int x7), (8, .int x8)], hpIds []⟩

@[reducible] def IndexFunc_JudgeHeld_1_O2 (x4 : Int) : St := ⟨frOf [(4, .int x4)], hpIds []⟩

noncomputable def IndexFunc_JudgeHeld_1_L2 (n q : Nat) (t0 : Bool) (x0 : List CallD) (x4 : Int) (x7 : Int) (x8 : Int) : Option (Ex × (Int × Unit) × Unit) := lpT Tryz.prog cfg RN n 5 173 2 0 q (IndexFunc_JudgeHeld_1_S2 t0 x0 x4 x7 x8)

theorem IndexFunc_JudgeHeld_1_L2_of {n q : Nat} {t0 : Bool} {x0 : List CallD} {x4 : Int} {x7 : Int} {x8 : Int} {e : Ex} {x4O : Int} (h : lp Tryz.prog cfg RN n 5 173 2 0 q (IndexFunc_JudgeHeld_1_S2 t0 x0 x4 x7 x8) = some (e, IndexFunc_JudgeHeld_1_O2 x4O)) : IndexFunc_JudgeHeld_1_L2 n q t0 x0 x4 x7 x8 = some (e, (x4O, ()), ()) := by
  unfold IndexFunc_JudgeHeld_1_L2 lpT
  rw [h]
  kernel_rfl

theorem IndexFunc_JudgeHeld_1_L2_if {n q : Nat} {t0 : Bool} {x0 : List CallD} {x4 : Int} {x7 : Int} {x8 : Int} {c : Prop} [Decidable c] {e e' : Ex} {x4O : Int} {x4P : Int} (h : lp Tryz.prog cfg RN n 5 173 2 0 q (IndexFunc_JudgeHeld_1_S2 t0 x0 x4 x7 x8) = some (if c then (e, IndexFunc_JudgeHeld_1_O2 x4O) else (e', IndexFunc_JudgeHeld_1_O2 x4P))) : IndexFunc_JudgeHeld_1_L2 n q t0 x0 x4 x7 x8 = some (if c then (e, (x4O, ()), ()) else (e', (x4P, ()), ())) := by
  by_cases hc : c
  · rw [if_pos hc] at h ⊢; exact IndexFunc_JudgeHeld_1_L2_of h
  · rw [if_neg hc] at h ⊢; exact IndexFunc_JudgeHeld_1_L2_of h

@[reducible] def IndexFunc_JudgeTaken_1_S2 (t0 : Bool) (x0 : List CallD) (c0 : WorldD) (x4 : Int) (x7 : Int) (x8 : Int) : St := ⟨frOf [(0, .sl t0 .call x0), (1, .c (.fn 94 [.f (.ep .world c0 0)])), (4, .int x4), (7, .int x7), (8, .int x8)], hpIds []⟩

@[reducible] def IndexFunc_JudgeTaken_1_O2 (x4 : Int) : St := ⟨frOf [(4, .int x4)], hpIds []⟩

noncomputable def IndexFunc_JudgeTaken_1_L2 (n q : Nat) (t0 : Bool) (x0 : List CallD) (c0 : WorldD) (x4 : Int) (x7 : Int) (x8 : Int) : Option (Ex × (Int × Unit) × Unit) := lpT Tryz.prog cfg RN n 5 173 2 0 q (IndexFunc_JudgeTaken_1_S2 t0 x0 c0 x4 x7 x8)

theorem IndexFunc_JudgeTaken_1_L2_of {n q : Nat} {t0 : Bool} {x0 : List CallD} {c0 : WorldD} {x4 : Int} {x7 : Int} {x8 : Int} {e : Ex} {x4O : Int} (h : lp Tryz.prog cfg RN n 5 173 2 0 q (IndexFunc_JudgeTaken_1_S2 t0 x0 c0 x4 x7 x8) = some (e, IndexFunc_JudgeTaken_1_O2 x4O)) : IndexFunc_JudgeTaken_1_L2 n q t0 x0 c0 x4 x7 x8 = some (e, (x4O, ()), ()) := by
  unfold IndexFunc_JudgeTaken_1_L2 lpT
  rw [h]
  kernel_rfl

theorem IndexFunc_JudgeTaken_1_L2_if {n q : Nat} {t0 : Bool} {x0 : List CallD} {c0 : WorldD} {x4 : Int} {x7 : Int} {x8 : Int} {c : Prop} [Decidable c] {e e' : Ex} {x4O : Int} {x4P : Int} (h : lp Tryz.prog cfg RN n 5 173 2 0 q (IndexFunc_JudgeTaken_1_S2 t0 x0 c0 x4 x7 x8) = some (if c then (e, IndexFunc_JudgeTaken_1_O2 x4O) else (e', IndexFunc_JudgeTaken_1_O2 x4P))) : IndexFunc_JudgeTaken_1_L2 n q t0 x0 c0 x4 x7 x8 = some (if c then (e, (x4O, ()), ()) else (e', (x4P, ()), ())) := by
  by_cases hc : c
  · rw [if_pos hc] at h ⊢; exact IndexFunc_JudgeTaken_1_L2_of h
  · rw [if_neg hc] at h ⊢; exact IndexFunc_JudgeTaken_1_L2_of h

@[reducible] def IndexFunc_JudgeTaken_1_1_S2 (t0 : Bool) (x0 : List Talk) (c0 : CallD) (x4 : Int) (x7 : Int) (x8 : Int) : St := ⟨frOf [(0, .sl t0 .talk x0), (1, .c (.fn 96 [.f (.ep .call c0 0)])), (4, .int x4), (7, .int x7), (8, .int x8)], hpIds []⟩

@[reducible] def IndexFunc_JudgeTaken_1_1_O2 (x4 : Int) : St := ⟨frOf [(4, .int x4)], hpIds []⟩

noncomputable def IndexFunc_JudgeTaken_1_1_L2 (n q : Nat) (t0 : Bool) (x0 : List Talk) (c0 : CallD) (x4 : Int) (x7 : Int) (x8 : Int) : Option (Ex × (Int × Unit) × Unit) := lpT Tryz.prog cfg RN n 5 174 2 0 q (IndexFunc_JudgeTaken_1_1_S2 t0 x0 c0 x4 x7 x8)

theorem IndexFunc_JudgeTaken_1_1_L2_of {n q : Nat} {t0 : Bool} {x0 : List Talk} {c0 : CallD} {x4 : Int} {x7 : Int} {x8 : Int} {e : Ex} {x4O : Int} (h : lp Tryz.prog cfg RN n 5 174 2 0 q (IndexFunc_JudgeTaken_1_1_S2 t0 x0 c0 x4 x7 x8) = some (e, IndexFunc_JudgeTaken_1_1_O2 x4O)) : IndexFunc_JudgeTaken_1_1_L2 n q t0 x0 c0 x4 x7 x8 = some (e, (x4O, ()), ()) := by
  unfold IndexFunc_JudgeTaken_1_1_L2 lpT
  rw [h]
  kernel_rfl

theorem IndexFunc_JudgeTaken_1_1_L2_if {n q : Nat} {t0 : Bool} {x0 : List Talk} {c0 : CallD} {x4 : Int} {x7 : Int} {x8 : Int} {c : Prop} [Decidable c] {e e' : Ex} {x4O : Int} {x4P : Int} (h : lp Tryz.prog cfg RN n 5 174 2 0 q (IndexFunc_JudgeTaken_1_1_S2 t0 x0 c0 x4 x7 x8) = some (if c then (e, IndexFunc_JudgeTaken_1_1_O2 x4O) else (e', IndexFunc_JudgeTaken_1_1_O2 x4P))) : IndexFunc_JudgeTaken_1_1_L2 n q t0 x0 c0 x4 x7 x8 = some (if c then (e, (x4O, ()), ()) else (e', (x4P, ()), ())) := by
  by_cases hc : c
  · rw [if_pos hc] at h ⊢; exact IndexFunc_JudgeTaken_1_1_L2_of h
  · rw [if_neg hc] at h ⊢; exact IndexFunc_JudgeTaken_1_1_L2_of h

@[reducible] def slices_Index_int_int_S2 (t0 : Bool) (x0 : List Int) (x1 : Int) (x4 : Int) (x7 : Int) (x8 : Int) : St := ⟨frOf [(0, .sl t0 .int x0), (1, .int x1), (4, .int x4), (7, .int x7), (8, .int x8)], hpIds []⟩

@[reducible] def slices_Index_int_int_O2 (x4 : Int) : St := ⟨frOf [(4, .int x4)], hpIds []⟩

noncomputable def slices_Index_int_int_L2 (n q : Nat) (t0 : Bool) (x0 : List Int) (x1 : Int) (x4 : Int) (x7 : Int) (x8 : Int) : Option (Ex × (Int × Unit) × Unit) := lpT Tryz.prog cfg RN n 5 175 2 0 q (slices_Index_int_int_S2 t0 x0 x1 x4 x7 x8)

theorem slices_Index_int_int_L2_of {n q : Nat} {t0 : Bool} {x0 : List Int} {x1 : Int} {x4 : Int} {x7 : Int} {x8 : Int} {e : Ex} {x4O : Int} (h : lp Tryz.prog cfg RN n 5 175 2 0 q (slices_Index_int_int_S2 t0 x0 x1 x4 x7 x8) = some (e, slices_Index_int_int_O2 x4O)) : slices_Index_int_int_L2 n q t0 x0 x1 x4 x7 x8 = some (e, (x4O, ()), ()) := by
  unfold slices_Index_int_int_L2 lpT
  rw [h]
  kernel_rfl

theorem slices_Index_int_int_L2_if {n q : Nat} {t0 : Bool} {x0 : List Int} {x1 : Int} {x4 : Int} {x7 : Int} {x8 : Int} {c : Prop} [Decidable c] {e e' : Ex} {x4O : Int} {x4P : Int} (h : lp Tryz.prog cfg RN n 5 175 2 0 q (slices_Index_int_int_S2 t0 x0 x1 x4 x7 x8) = some (if c then (e, slices_Index_int_int_O2 x4O) else (e', slices_Index_int_int_O2 x4P))) : slices_Index_int_int_L2 n q t0 x0 x1 x4 x7 x8 = some (if c then (e, (x4O, ()), ()) else (e', (x4P, ()), ())) := by
  by_cases hc : c
  · rw [if_pos hc] at h ⊢; exact slices_Index_int_int_L2_of h
  · rw [if_neg hc] at h ⊢; exact slices_Index_int_int_L2_of h

@[reducible] def spec_l2Made_S9 (t0 : Bool) (x0 : List Term) (x4 : Bool) (x7 : Int) (y3 : Term) : St := ⟨frOf [(0, .sl t0 .term x0), (3, .c (.bx (.own 3) 0)), (4, .bool x4), (7, .int x7)], hpIds [(.own 3, .box ((Term.cells y3).map C.f))]⟩

@[reducible] def spec_l2Made_O9 (x4 : Bool) : St := ⟨frOf [(4, .bool x4)], hpIds []⟩

noncomputable def spec_l2Made_L9 (n q : Nat) (t0 : Bool) (x0 : List Term) (x4 : Bool) (x7 : Int) (y3 : Term) : Option (Ex × (Bool × Unit) × Unit) := lpT Tryz.prog cfg RN n 5 176 9 0 q (spec_l2Made_S9 t0 x0 x4 x7 y3)

theorem spec_l2Made_L9_of {n q : Nat} {t0 : Bool} {x0 : List Term} {x4 : Bool} {x7 : Int} {y3 : Term} {e : Ex} {x4O : Bool} (h : lp Tryz.prog cfg RN n 5 176 9 0 q (spec_l2Made_S9 t0 x0 x4 x7 y3) = some (e, spec_l2Made_O9 x4O)) : spec_l2Made_L9 n q t0 x0 x4 x7 y3 = some (e, (x4O, ()), ()) := by
  unfold spec_l2Made_L9 lpT
  rw [h]
  kernel_rfl

theorem spec_l2Made_L9_if {n q : Nat} {t0 : Bool} {x0 : List Term} {x4 : Bool} {x7 : Int} {y3 : Term} {c : Prop} [Decidable c] {e e' : Ex} {x4O : Bool} {x4P : Bool} (h : lp Tryz.prog cfg RN n 5 176 9 0 q (spec_l2Made_S9 t0 x0 x4 x7 y3) = some (if c then (e, spec_l2Made_O9 x4O) else (e', spec_l2Made_O9 x4P))) : spec_l2Made_L9 n q t0 x0 x4 x7 y3 = some (if c then (e, (x4O, ()), ()) else (e', (x4P, ()), ())) := by
  by_cases hc : c
  · rw [if_pos hc] at h ⊢; exact spec_l2Made_L9_of h
  · rw [if_neg hc] at h ⊢; exact spec_l2Made_L9_of h

@[reducible] def spec_NoteOf_S7 (x0 : ByteArray) (t4 : Bool) (x4 : List ByteArray) (t5 : Bool) (x5 : List ByteArray) (x7 : Int) (y2 : Note) (y6 : Note) : St := ⟨frOf [(0, .str x0), (2, .c (.bx (.own 2) 0)), (4, .sl t4 .str x4), (5, .sl t5 .str x5), (6, .c (.bx (.own 6) 0)), (7, .int x7)], hpIds [(.own 2, .box ((Note.cells y2).map C.f)), (.own 6, .box ((Note.cells y6).map C.f))]⟩

@[reducible] def spec_NoteOf_O7 (x0 : ByteArray) (t4 : Bool) (x4 : List ByteArray) (y2 : Note) (y6 : Note) : St := ⟨frOf [(0, .str x0), (2, .c (.bx (.own 2) 0)), (4, .sl t4 .str x4), (6, .c (.bx (.own 6) 0))], hpIds [(.own 2, .box ((Note.cells y2).map C.f)), (.own 6, .box ((Note.cells y6).map C.f))]⟩

noncomputable def spec_NoteOf_L7 (n q : Nat) (x0 : ByteArray) (t4 : Bool) (x4 : List ByteArray) (t5 : Bool) (x5 : List ByteArray) (x7 : Int) (y2 : Note) (y6 : Note) : Option (Ex × (ByteArray × Unit × List ByteArray × Unit × Unit) × Note × Note × Unit) := lpT Tryz.prog cfg RN n 5 182 7 0 q (spec_NoteOf_S7 x0 t4 x4 t5 x5 x7 y2 y6)

theorem spec_NoteOf_L7_of {n q : Nat} {x0 : ByteArray} {t4 : Bool} {x4 : List ByteArray} {t5 : Bool} {x5 : List ByteArray} {x7 : Int} {y2 : Note} {y6 : Note} {e : Ex} {x0O : ByteArray} {t4O : Bool} {x4O : List ByteArray} {y2O : Note} {y6O : Note} (h : lp Tryz.prog cfg RN n 5 182 7 0 q (spec_NoteOf_S7 x0 t4 x4 t5 x5 x7 y2 y6) = some (e, spec_NoteOf_O7 x0O t4O x4O y2O y6O)) : spec_NoteOf_L7 n q x0 t4 x4 t5 x5 x7 y2 y6 = some (e, (x0O, (), x4O, (), ()), y2O, y6O, ()) := by
  unfold spec_NoteOf_L7 lpT
  rw [h]
  kernel_rfl

theorem spec_NoteOf_L7_if {n q : Nat} {x0 : ByteArray} {t4 : Bool} {x4 : List ByteArray} {t5 : Bool} {x5 : List ByteArray} {x7 : Int} {y2 : Note} {y6 : Note} {c : Prop} [Decidable c] {e e' : Ex} {x0O : ByteArray} {t4O : Bool} {x4O : List ByteArray} {y2O : Note} {y6O : Note} {x0P : ByteArray} {t4P : Bool} {x4P : List ByteArray} {y2P : Note} {y6P : Note} (h : lp Tryz.prog cfg RN n 5 182 7 0 q (spec_NoteOf_S7 x0 t4 x4 t5 x5 x7 y2 y6) = some (if c then (e, spec_NoteOf_O7 x0O t4O x4O y2O y6O) else (e', spec_NoteOf_O7 x0P t4P x4P y2P y6P))) : spec_NoteOf_L7 n q x0 t4 x4 t5 x5 x7 y2 y6 = some (if c then (e, (x0O, (), x4O, (), ()), y2O, y6O, ()) else (e', (x0P, (), x4P, (), ()), y2P, y6P, ())) := by
  by_cases hc : c
  · rw [if_pos hc] at h ⊢; exact spec_NoteOf_L7_of h
  · rw [if_neg hc] at h ⊢; exact spec_NoteOf_L7_of h

@[reducible] def spec_l1Digits_S5 (x0 : Int) (x3 : Bool) (x4 : ByteArray) : St := ⟨frOf [(0, .int x0), (3, .bool x3), (4, .str x4)], hpIds []⟩

@[reducible] def spec_l1Digits_O5 (x3 : Bool) (x4 : ByteArray) : St := ⟨frOf [(3, .bool x3), (4, .str x4)], hpIds []⟩

noncomputable def spec_l1Digits_L5 (n q : Nat) (x0 : Int) (x3 : Bool) (x4 : ByteArray) : Option (Ex × (Bool × ByteArray × Unit) × Unit) := lpT Tryz.prog cfg RN n 5 192 5 0 q (spec_l1Digits_S5 x0 x3 x4)

theorem spec_l1Digits_L5_of {n q : Nat} {x0 : Int} {x3 : Bool} {x4 : ByteArray} {e : Ex} {x3O : Bool} {x4O : ByteArray} (h : lp Tryz.prog cfg RN n 5 192 5 0 q (spec_l1Digits_S5 x0 x3 x4) = some (e, spec_l1Digits_O5 x3O x4O)) : spec_l1Digits_L5 n q x0 x3 x4 = some (e, (x3O, x4O, ()), ()) := by
  unfold spec_l1Digits_L5 lpT
  rw [h]
  kernel_rfl

theorem spec_l1Digits_L5_if {n q : Nat} {x0 : Int} {x3 : Bool} {x4 : ByteArray} {c : Prop} [Decidable c] {e e' : Ex} {x3O : Bool} {x4O : ByteArray} {x3P : Bool} {x4P : ByteArray} (h : lp Tryz.prog cfg RN n 5 192 5 0 q (spec_l1Digits_S5 x0 x3 x4) = some (if c then (e, spec_l1Digits_O5 x3O x4O) else (e', spec_l1Digits_O5 x3P x4P))) : spec_l1Digits_L5 n q x0 x3 x4 = some (if c then (e, (x3O, x4O, ()), ()) else (e', (x3P, x4P, ()), ())) := by
  by_cases hc : c
  · rw [if_pos hc] at h ⊢; exact spec_l1Digits_L5_of h
  · rw [if_neg hc] at h ⊢; exact spec_l1Digits_L5_of h

@[reducible] def spec_l5Labels_S3 (x0 : ByteArray) (x1 : Int) (x4 : Bool) (t5 : Bool) (x5 : List ByteArray) (x6 : Int) : St := ⟨frOf [(0, .str x0), (1, .int x1), (4, .bool x4), (5, .sl t5 .str x5), (6, .int x6)], hpIds []⟩

@[reducible] def spec_l5Labels_O3 (x0 : ByteArray) (x1 : Int) (x4 : Bool) (t5 : Bool) (x5 : List ByteArray) : St := ⟨frOf [(0, .str x0), (1, .int x1), (4, .bool x4), (5, .sl t5 .str x5)], hpIds []⟩

noncomputable def spec_l5Labels_L3 (n q : Nat) (x0 : ByteArray) (x1 : Int) (x4 : Bool) (t5 : Bool) (x5 : List ByteArray) (x6 : Int) : Option (Ex × (ByteArray × Int × Bool × List ByteArray × Unit) × Unit) := lpT Tryz.prog cfg RN n 5 193 3 0 q (spec_l5Labels_S3 x0 x1 x4 t5 x5 x6)

theorem spec_l5Labels_L3_of {n q : Nat} {x0 : ByteArray} {x1 : Int} {x4 : Bool} {t5 : Bool} {x5 : List ByteArray} {x6 : Int} {e : Ex} {x0O : ByteArray} {x1O : Int} {x4O : Bool} {t5O : Bool} {x5O : List ByteArray} (h : lp Tryz.prog cfg RN n 5 193 3 0 q (spec_l5Labels_S3 x0 x1 x4 t5 x5 x6) = some (e, spec_l5Labels_O3 x0O x1O x4O t5O x5O)) : spec_l5Labels_L3 n q x0 x1 x4 t5 x5 x6 = some (e, (x0O, x1O, x4O, x5O, ()), ()) := by
  unfold spec_l5Labels_L3 lpT
  rw [h]
  kernel_rfl

theorem spec_l5Labels_L3_if {n q : Nat} {x0 : ByteArray} {x1 : Int} {x4 : Bool} {t5 : Bool} {x5 : List ByteArray} {x6 : Int} {c : Prop} [Decidable c] {e e' : Ex} {x0O : ByteArray} {x1O : Int} {x4O : Bool} {t5O : Bool} {x5O : List ByteArray} {x0P : ByteArray} {x1P : Int} {x4P : Bool} {t5P : Bool} {x5P : List ByteArray} (h : lp Tryz.prog cfg RN n 5 193 3 0 q (spec_l5Labels_S3 x0 x1 x4 t5 x5 x6) = some (if c then (e, spec_l5Labels_O3 x0O x1O x4O t5O x5O) else (e', spec_l5Labels_O3 x0P x1P x4P t5P x5P))) : spec_l5Labels_L3 n q x0 x1 x4 t5 x5 x6 = some (if c then (e, (x0O, x1O, x4O, x5O, ()), ()) else (e', (x0P, x1P, x4P, x5P, ()), ())) := by
  by_cases hc : c
  · rw [if_pos hc] at h ⊢; exact spec_l5Labels_L3_of h
  · rw [if_neg hc] at h ⊢; exact spec_l5Labels_L3_of h

@[reducible] def IndexFunc_ServerOk_1_S2 (t0 : Bool) (x0 : List Int) (x4 : Int) (x7 : Int) (x8 : Int) : St := ⟨frOf [(0, .sl t0 .int x0), (1, .c (.fn 141 [])), (4, .int x4), (7, .int x7), (8, .int x8)], hpIds []⟩

@[reducible] def IndexFunc_ServerOk_1_O2 (x4 : Int) : St := ⟨frOf [(4, .int x4)], hpIds []⟩

noncomputable def IndexFunc_ServerOk_1_L2 (n q : Nat) (t0 : Bool) (x0 : List Int) (x4 : Int) (x7 : Int) (x8 : Int) : Option (Ex × (Int × Unit) × Unit) := lpT Tryz.prog cfg RN n 5 198 2 0 q (IndexFunc_ServerOk_1_S2 t0 x0 x4 x7 x8)

theorem IndexFunc_ServerOk_1_L2_of {n q : Nat} {t0 : Bool} {x0 : List Int} {x4 : Int} {x7 : Int} {x8 : Int} {e : Ex} {x4O : Int} (h : lp Tryz.prog cfg RN n 5 198 2 0 q (IndexFunc_ServerOk_1_S2 t0 x0 x4 x7 x8) = some (e, IndexFunc_ServerOk_1_O2 x4O)) : IndexFunc_ServerOk_1_L2 n q t0 x0 x4 x7 x8 = some (e, (x4O, ()), ()) := by
  unfold IndexFunc_ServerOk_1_L2 lpT
  rw [h]
  kernel_rfl

theorem IndexFunc_ServerOk_1_L2_if {n q : Nat} {t0 : Bool} {x0 : List Int} {x4 : Int} {x7 : Int} {x8 : Int} {c : Prop} [Decidable c] {e e' : Ex} {x4O : Int} {x4P : Int} (h : lp Tryz.prog cfg RN n 5 198 2 0 q (IndexFunc_ServerOk_1_S2 t0 x0 x4 x7 x8) = some (if c then (e, IndexFunc_ServerOk_1_O2 x4O) else (e', IndexFunc_ServerOk_1_O2 x4P))) : IndexFunc_ServerOk_1_L2 n q t0 x0 x4 x7 x8 = some (if c then (e, (x4O, ()), ()) else (e', (x4P, ()), ())) := by
  by_cases hc : c
  · rw [if_pos hc] at h ⊢; exact IndexFunc_ServerOk_1_L2_of h
  · rw [if_neg hc] at h ⊢; exact IndexFunc_ServerOk_1_L2_of h

@[reducible] def spec_Before_S10 (x4 : Bool) (x5 : Int) (y2 : Term) (y3 : Term) : St := ⟨frOf [(2, .c (.bx (.own 2) 0)), (3, .c (.bx (.own 3) 0)), (4, .bool x4), (5, .int x5)], hpIds [(.own 2, .box ((Term.cells y2).map C.f)), (.own 3, .box ((Term.cells y3).map C.f))]⟩

@[reducible] def spec_Before_O10 (x4 : Bool) : St := ⟨frOf [(4, .bool x4)], hpIds []⟩

noncomputable def spec_Before_L10 (n q : Nat) (x4 : Bool) (x5 : Int) (y2 : Term) (y3 : Term) : Option (Ex × (Bool × Unit) × Unit) := lpT Tryz.prog cfg RN n 5 203 10 0 q (spec_Before_S10 x4 x5 y2 y3)

theorem spec_Before_L10_of {n q : Nat} {x4 : Bool} {x5 : Int} {y2 : Term} {y3 : Term} {e : Ex} {x4O : Bool} (h : lp Tryz.prog cfg RN n 5 203 10 0 q (spec_Before_S10 x4 x5 y2 y3) = some (e, spec_Before_O10 x4O)) : spec_Before_L10 n q x4 x5 y2 y3 = some (e, (x4O, ()), ()) := by
  unfold spec_Before_L10 lpT
  rw [h]
  kernel_rfl

theorem spec_Before_L10_if {n q : Nat} {x4 : Bool} {x5 : Int} {y2 : Term} {y3 : Term} {c : Prop} [Decidable c] {e e' : Ex} {x4O : Bool} {x4P : Bool} (h : lp Tryz.prog cfg RN n 5 203 10 0 q (spec_Before_S10 x4 x5 y2 y3) = some (if c then (e, spec_Before_O10 x4O) else (e', spec_Before_O10 x4P))) : spec_Before_L10 n q x4 x5 y2 y3 = some (if c then (e, (x4O, ()), ()) else (e', (x4P, ()), ())) := by
  by_cases hc : c
  · rw [if_pos hc] at h ⊢; exact spec_Before_L10_of h
  · rw [if_neg hc] at h ⊢; exact spec_Before_L10_of h

@[reducible] def impl_Before_S10 (x4 : Bool) (t56 : Bool) (x56 : List Term) (x57 : Int) (x58 : Int) (y3 : Term) : St := ⟨frOf [(3, .c (.bx (.own 3) 0)), (4, .bool x4), (56, .sl t56 .term x56), (57, .int x57), (58, .int x58)], hpIds [(.own 3, .box ((Term.cells y3).map C.f))]⟩

@[reducible] def impl_Before_O10 (x4 : Bool) : St := ⟨frOf [(4, .bool x4)], hpIds []⟩

noncomputable def impl_Before_L10 (n q : Nat) (x4 : Bool) (t56 : Bool) (x56 : List Term) (x57 : Int) (x58 : Int) (y3 : Term) : Option (Ex × (Bool × Unit) × Unit) := lpT Tryz.prog cfg RN n 5 208 10 0 q (impl_Before_S10 x4 t56 x56 x57 x58 y3)

theorem impl_Before_L10_of {n q : Nat} {x4 : Bool} {t56 : Bool} {x56 : List Term} {x57 : Int} {x58 : Int} {y3 : Term} {e : Ex} {x4O : Bool} (h : lp Tryz.prog cfg RN n 5 208 10 0 q (impl_Before_S10 x4 t56 x56 x57 x58 y3) = some (e, impl_Before_O10 x4O)) : impl_Before_L10 n q x4 t56 x56 x57 x58 y3 = some (e, (x4O, ()), ()) := by
  unfold impl_Before_L10 lpT
  rw [h]
  kernel_rfl

theorem impl_Before_L10_if {n q : Nat} {x4 : Bool} {t56 : Bool} {x56 : List Term} {x57 : Int} {x58 : Int} {y3 : Term} {c : Prop} [Decidable c] {e e' : Ex} {x4O : Bool} {x4P : Bool} (h : lp Tryz.prog cfg RN n 5 208 10 0 q (impl_Before_S10 x4 t56 x56 x57 x58 y3) = some (if c then (e, impl_Before_O10 x4O) else (e', impl_Before_O10 x4P))) : impl_Before_L10 n q x4 t56 x56 x57 x58 y3 = some (if c then (e, (x4O, ()), ()) else (e', (x4P, ()), ())) := by
  by_cases hc : c
  · rw [if_pos hc] at h ⊢; exact impl_Before_L10_of h
  · rw [if_neg hc] at h ⊢; exact impl_Before_L10_of h

@[reducible] def IndexFunc_hostsOk_1_S2 (t0 : Bool) (x0 : List Host) (c0 : Host) (x4 : Int) (x7 : Int) (x8 : Int) : St := ⟨frOf [(0, .sl t0 .host x0), (1, .c (.fn 164 [.f (.ep .host c0 0)])), (4, .int x4), (7, .int x7), (8, .int x8)], hpIds []⟩

@[reducible] def IndexFunc_hostsOk_1_O2 (x4 : Int) : St := ⟨frOf [(4, .int x4)], hpIds []⟩

noncomputable def IndexFunc_hostsOk_1_L2 (n q : Nat) (t0 : Bool) (x0 : List Host) (c0 : Host) (x4 : Int) (x7 : Int) (x8 : Int) : Option (Ex × (Int × Unit) × Unit) := lpT Tryz.prog cfg RN n 5 212 2 0 q (IndexFunc_hostsOk_1_S2 t0 x0 c0 x4 x7 x8)

theorem IndexFunc_hostsOk_1_L2_of {n q : Nat} {t0 : Bool} {x0 : List Host} {c0 : Host} {x4 : Int} {x7 : Int} {x8 : Int} {e : Ex} {x4O : Int} (h : lp Tryz.prog cfg RN n 5 212 2 0 q (IndexFunc_hostsOk_1_S2 t0 x0 c0 x4 x7 x8) = some (e, IndexFunc_hostsOk_1_O2 x4O)) : IndexFunc_hostsOk_1_L2 n q t0 x0 c0 x4 x7 x8 = some (e, (x4O, ()), ()) := by
  unfold IndexFunc_hostsOk_1_L2 lpT
  rw [h]
  kernel_rfl

theorem IndexFunc_hostsOk_1_L2_if {n q : Nat} {t0 : Bool} {x0 : List Host} {c0 : Host} {x4 : Int} {x7 : Int} {x8 : Int} {c : Prop} [Decidable c] {e e' : Ex} {x4O : Int} {x4P : Int} (h : lp Tryz.prog cfg RN n 5 212 2 0 q (IndexFunc_hostsOk_1_S2 t0 x0 c0 x4 x7 x8) = some (if c then (e, IndexFunc_hostsOk_1_O2 x4O) else (e', IndexFunc_hostsOk_1_O2 x4P))) : IndexFunc_hostsOk_1_L2 n q t0 x0 c0 x4 x7 x8 = some (if c then (e, (x4O, ()), ()) else (e', (x4P, ()), ())) := by
  by_cases hc : c
  · rw [if_pos hc] at h ⊢; exact IndexFunc_hostsOk_1_L2_of h
  · rw [if_neg hc] at h ⊢; exact IndexFunc_hostsOk_1_L2_of h

@[reducible] def spec_l2Has_S2 (t0 : Bool) (x0 : List Term) (x4 : Bool) (x5 : Int) (y3 : Term) : St := ⟨frOf [(0, .sl t0 .term x0), (3, .c (.bx (.own 3) 0)), (4, .bool x4), (5, .int x5)], hpIds [(.own 3, .box ((Term.cells y3).map C.f))]⟩

@[reducible] def spec_l2Has_O2 (x4 : Bool) : St := ⟨frOf [(4, .bool x4)], hpIds []⟩

noncomputable def spec_l2Has_L2 (n q : Nat) (t0 : Bool) (x0 : List Term) (x4 : Bool) (x5 : Int) (y3 : Term) : Option (Ex × (Bool × Unit) × Unit) := lpT Tryz.prog cfg RN n 5 214 2 0 q (spec_l2Has_S2 t0 x0 x4 x5 y3)

theorem spec_l2Has_L2_of {n q : Nat} {t0 : Bool} {x0 : List Term} {x4 : Bool} {x5 : Int} {y3 : Term} {e : Ex} {x4O : Bool} (h : lp Tryz.prog cfg RN n 5 214 2 0 q (spec_l2Has_S2 t0 x0 x4 x5 y3) = some (e, spec_l2Has_O2 x4O)) : spec_l2Has_L2 n q t0 x0 x4 x5 y3 = some (e, (x4O, ()), ()) := by
  unfold spec_l2Has_L2 lpT
  rw [h]
  kernel_rfl

theorem spec_l2Has_L2_if {n q : Nat} {t0 : Bool} {x0 : List Term} {x4 : Bool} {x5 : Int} {y3 : Term} {c : Prop} [Decidable c] {e e' : Ex} {x4O : Bool} {x4P : Bool} (h : lp Tryz.prog cfg RN n 5 214 2 0 q (spec_l2Has_S2 t0 x0 x4 x5 y3) = some (if c then (e, spec_l2Has_O2 x4O) else (e', spec_l2Has_O2 x4P))) : spec_l2Has_L2 n q t0 x0 x4 x5 y3 = some (if c then (e, (x4O, ()), ()) else (e', (x4P, ()), ())) := by
  by_cases hc : c
  · rw [if_pos hc] at h ⊢; exact spec_l2Has_L2_of h
  · rw [if_neg hc] at h ⊢; exact spec_l2Has_L2_of h

@[reducible] def spec_l12Words_S4 (x0 : ByteArray) (x3 : List ByteArray) (x4 : Int) (x5 : Int) : St := ⟨frOf [(0, .str x0), (3, .c (.row (.own 3) .str)), (4, .int x4), (5, .int x5)], hpIds [(.own 3, .row true .str x3)]⟩

@[reducible] def spec_l12Words_O4 (x3 : List ByteArray) : St := ⟨frOf [(3, .c (.row (.own 3) .str))], hpIds [(.own 3, .row true .str x3)]⟩

noncomputable def spec_l12Words_L4 (n q : Nat) (x0 : ByteArray) (x3 : List ByteArray) (x4 : Int) (x5 : Int) : Option (Ex × (Unit × Unit) × List ByteArray × Unit) := lpT Tryz.prog cfg RN n 5 219 4 0 q (spec_l12Words_S4 x0 x3 x4 x5)

theorem spec_l12Words_L4_of {n q : Nat} {x0 : ByteArray} {x3 : List ByteArray} {x4 : Int} {x5 : Int} {e : Ex} {x3O : List ByteArray} (h : lp Tryz.prog cfg RN n 5 219 4 0 q (spec_l12Words_S4 x0 x3 x4 x5) = some (e, spec_l12Words_O4 x3O)) : spec_l12Words_L4 n q x0 x3 x4 x5 = some (e, ((), ()), x3O, ()) := by
  unfold spec_l12Words_L4 lpT
  rw [h]
  kernel_rfl

theorem spec_l12Words_L4_if {n q : Nat} {x0 : ByteArray} {x3 : List ByteArray} {x4 : Int} {x5 : Int} {c : Prop} [Decidable c] {e e' : Ex} {x3O : List ByteArray} {x3P : List ByteArray} (h : lp Tryz.prog cfg RN n 5 219 4 0 q (spec_l12Words_S4 x0 x3 x4 x5) = some (if c then (e, spec_l12Words_O4 x3O) else (e', spec_l12Words_O4 x3P))) : spec_l12Words_L4 n q x0 x3 x4 x5 = some (if c then (e, ((), ()), x3O, ()) else (e', ((), ()), x3P, ())) := by
  by_cases hc : c
  · rw [if_pos hc] at h ⊢; exact spec_l12Words_L4_of h
  · rw [if_neg hc] at h ⊢; exact spec_l12Words_L4_of h

@[reducible] def spec_l12Num_S3 (x0 : ByteArray) (x3 : Int) (x4 : Int) : St := ⟨frOf [(0, .str x0), (3, .int x3), (4, .int x4)], hpIds []⟩

@[reducible] def spec_l12Num_O3 (x3 : Int) : St := ⟨frOf [(3, .int x3)], hpIds []⟩

noncomputable def spec_l12Num_L3 (n q : Nat) (x0 : ByteArray) (x3 : Int) (x4 : Int) : Option (Ex × (Int × Unit) × Unit) := lpT Tryz.prog cfg RN n 5 220 3 0 q (spec_l12Num_S3 x0 x3 x4)

theorem spec_l12Num_L3_of {n q : Nat} {x0 : ByteArray} {x3 : Int} {x4 : Int} {e : Ex} {x3O : Int} (h : lp Tryz.prog cfg RN n 5 220 3 0 q (spec_l12Num_S3 x0 x3 x4) = some (e, spec_l12Num_O3 x3O)) : spec_l12Num_L3 n q x0 x3 x4 = some (e, (x3O, ()), ()) := by
  unfold spec_l12Num_L3 lpT
  rw [h]
  kernel_rfl

theorem spec_l12Num_L3_if {n q : Nat} {x0 : ByteArray} {x3 : Int} {x4 : Int} {c : Prop} [Decidable c] {e e' : Ex} {x3O : Int} {x3P : Int} (h : lp Tryz.prog cfg RN n 5 220 3 0 q (spec_l12Num_S3 x0 x3 x4) = some (if c then (e, spec_l12Num_O3 x3O) else (e', spec_l12Num_O3 x3P))) : spec_l12Num_L3 n q x0 x3 x4 = some (if c then (e, (x3O, ()), ()) else (e', (x3P, ()), ())) := by
  by_cases hc : c
  · rw [if_pos hc] at h ⊢; exact spec_l12Num_L3_of h
  · rw [if_neg hc] at h ⊢; exact spec_l12Num_L3_of h

@[reducible] def spec_Labels_S4 (x0 : ByteArray) (x3 : List ByteArray) (x4 : Int) (x5 : Int) : St := ⟨frOf [(0, .str x0), (3, .c (.row (.own 3) .str)), (4, .int x4), (5, .int x5)], hpIds [(.own 3, .row true .str x3)]⟩

@[reducible] def spec_Labels_O4 (x3 : List ByteArray) : St := ⟨frOf [(3, .c (.row (.own 3) .str))], hpIds [(.own 3, .row true .str x3)]⟩

noncomputable def spec_Labels_L4 (n q : Nat) (x0 : ByteArray) (x3 : List ByteArray) (x4 : Int) (x5 : Int) : Option (Ex × (Unit × Unit) × List ByteArray × Unit) := lpT Tryz.prog cfg RN n 5 228 4 0 q (spec_Labels_S4 x0 x3 x4 x5)

theorem spec_Labels_L4_of {n q : Nat} {x0 : ByteArray} {x3 : List ByteArray} {x4 : Int} {x5 : Int} {e : Ex} {x3O : List ByteArray} (h : lp Tryz.prog cfg RN n 5 228 4 0 q (spec_Labels_S4 x0 x3 x4 x5) = some (e, spec_Labels_O4 x3O)) : spec_Labels_L4 n q x0 x3 x4 x5 = some (e, ((), ()), x3O, ()) := by
  unfold spec_Labels_L4 lpT
  rw [h]
  kernel_rfl

theorem spec_Labels_L4_if {n q : Nat} {x0 : ByteArray} {x3 : List ByteArray} {x4 : Int} {x5 : Int} {c : Prop} [Decidable c] {e e' : Ex} {x3O : List ByteArray} {x3P : List ByteArray} (h : lp Tryz.prog cfg RN n 5 228 4 0 q (spec_Labels_S4 x0 x3 x4 x5) = some (if c then (e, spec_Labels_O4 x3O) else (e', spec_Labels_O4 x3P))) : spec_Labels_L4 n q x0 x3 x4 x5 = some (if c then (e, ((), ()), x3O, ()) else (e', ((), ()), x3P, ())) := by
  by_cases hc : c
  · rw [if_pos hc] at h ⊢; exact spec_Labels_L4_of h
  · rw [if_neg hc] at h ⊢; exact spec_Labels_L4_of h

@[reducible] def spec_l5Label_S2 (x0 : ByteArray) (x2 : Bool) (x3 : Int) : St := ⟨frOf [(0, .str x0), (2, .bool x2), (3, .int x3)], hpIds []⟩

@[reducible] def spec_l5Label_O2 (x0 : ByteArray) (x2 : Bool) : St := ⟨frOf [(0, .str x0), (2, .bool x2)], hpIds []⟩

noncomputable def spec_l5Label_L2 (n q : Nat) (x0 : ByteArray) (x2 : Bool) (x3 : Int) : Option (Ex × (ByteArray × Bool × Unit) × Unit) := lpT Tryz.prog cfg RN n 5 229 2 0 q (spec_l5Label_S2 x0 x2 x3)

theorem spec_l5Label_L2_of {n q : Nat} {x0 : ByteArray} {x2 : Bool} {x3 : Int} {e : Ex} {x0O : ByteArray} {x2O : Bool} (h : lp Tryz.prog cfg RN n 5 229 2 0 q (spec_l5Label_S2 x0 x2 x3) = some (e, spec_l5Label_O2 x0O x2O)) : spec_l5Label_L2 n q x0 x2 x3 = some (e, (x0O, x2O, ()), ()) := by
  unfold spec_l5Label_L2 lpT
  rw [h]
  kernel_rfl

theorem spec_l5Label_L2_if {n q : Nat} {x0 : ByteArray} {x2 : Bool} {x3 : Int} {c : Prop} [Decidable c] {e e' : Ex} {x0O : ByteArray} {x2O : Bool} {x0P : ByteArray} {x2P : Bool} (h : lp Tryz.prog cfg RN n 5 229 2 0 q (spec_l5Label_S2 x0 x2 x3) = some (if c then (e, spec_l5Label_O2 x0O x2O) else (e', spec_l5Label_O2 x0P x2P))) : spec_l5Label_L2 n q x0 x2 x3 = some (if c then (e, (x0O, x2O, ()), ()) else (e', (x0P, x2P, ()), ())) := by
  by_cases hc : c
  · rw [if_pos hc] at h ⊢; exact spec_l5Label_L2_of h
  · rw [if_neg hc] at h ⊢; exact spec_l5Label_L2_of h

@[reducible] def impl_cloneAll_S3 (x3 : List Term) (t6 : Bool) (x6 : List Term) (x7 : Int) (x8 : Int) : St := ⟨frOf [(3, .c (.row (.own 3) .term)), (6, .sl t6 .term x6), (7, .int x7), (8, .int x8)], hpIds [(.own 3, .row true .term x3)]⟩

@[reducible] def impl_cloneAll_O3 (x3 : List Term) : St := ⟨frOf [(3, .c (.row (.own 3) .term))], hpIds [(.own 3, .row true .term x3)]⟩

noncomputable def impl_cloneAll_L3 (n q : Nat) (x3 : List Term) (t6 : Bool) (x6 : List Term) (x7 : Int) (x8 : Int) : Option (Ex × (Unit × Unit) × List Term × Unit) := lpT Tryz.prog cfg RN n 5 231 3 0 q (impl_cloneAll_S3 x3 t6 x6 x7 x8)

theorem impl_cloneAll_L3_of {n q : Nat} {x3 : List Term} {t6 : Bool} {x6 : List Term} {x7 : Int} {x8 : Int} {e : Ex} {x3O : List Term} (h : lp Tryz.prog cfg RN n 5 231 3 0 q (impl_cloneAll_S3 x3 t6 x6 x7 x8) = some (e, impl_cloneAll_O3 x3O)) : impl_cloneAll_L3 n q x3 t6 x6 x7 x8 = some (e, ((), ()), x3O, ()) := by
  unfold impl_cloneAll_L3 lpT
  rw [h]
  kernel_rfl

theorem impl_cloneAll_L3_if {n q : Nat} {x3 : List Term} {t6 : Bool} {x6 : List Term} {x7 : Int} {x8 : Int} {c : Prop} [Decidable c] {e e' : Ex} {x3O : List Term} {x3P : List Term} (h : lp Tryz.prog cfg RN n 5 231 3 0 q (impl_cloneAll_S3 x3 t6 x6 x7 x8) = some (if c then (e, impl_cloneAll_O3 x3O) else (e', impl_cloneAll_O3 x3P))) : impl_cloneAll_L3 n q x3 t6 x6 x7 x8 = some (if c then (e, ((), ()), x3O, ()) else (e', ((), ()), x3P, ())) := by
  by_cases hc : c
  · rw [if_pos hc] at h ⊢; exact impl_cloneAll_L3_of h
  · rw [if_neg hc] at h ⊢; exact impl_cloneAll_L3_of h

@[reducible] def impl_labelOk_S2 (x0 : ByteArray) (x2 : Bool) (x6 : Int) (x7 : Int) : St := ⟨frOf [(0, .str x0), (2, .bool x2), (6, .int x6), (7, .int x7)], hpIds []⟩

@[reducible] def impl_labelOk_O2 (x0 : ByteArray) (x2 : Bool) : St := ⟨frOf [(0, .str x0), (2, .bool x2)], hpIds []⟩

noncomputable def impl_labelOk_L2 (n q : Nat) (x0 : ByteArray) (x2 : Bool) (x6 : Int) (x7 : Int) : Option (Ex × (ByteArray × Bool × Unit) × Unit) := lpT Tryz.prog cfg RN n 5 234 2 0 q (impl_labelOk_S2 x0 x2 x6 x7)

theorem impl_labelOk_L2_of {n q : Nat} {x0 : ByteArray} {x2 : Bool} {x6 : Int} {x7 : Int} {e : Ex} {x0O : ByteArray} {x2O : Bool} (h : lp Tryz.prog cfg RN n 5 234 2 0 q (impl_labelOk_S2 x0 x2 x6 x7) = some (e, impl_labelOk_O2 x0O x2O)) : impl_labelOk_L2 n q x0 x2 x6 x7 = some (e, (x0O, x2O, ()), ()) := by
  unfold impl_labelOk_L2 lpT
  rw [h]
  kernel_rfl

theorem impl_labelOk_L2_if {n q : Nat} {x0 : ByteArray} {x2 : Bool} {x6 : Int} {x7 : Int} {c : Prop} [Decidable c] {e e' : Ex} {x0O : ByteArray} {x2O : Bool} {x0P : ByteArray} {x2P : Bool} (h : lp Tryz.prog cfg RN n 5 234 2 0 q (impl_labelOk_S2 x0 x2 x6 x7) = some (if c then (e, impl_labelOk_O2 x0O x2O) else (e', impl_labelOk_O2 x0P x2P))) : impl_labelOk_L2 n q x0 x2 x6 x7 = some (if c then (e, (x0O, x2O, ()), ()) else (e', (x0P, x2P, ()), ())) := by
  by_cases hc : c
  · rw [if_pos hc] at h ⊢; exact impl_labelOk_L2_of h
  · rw [if_neg hc] at h ⊢; exact impl_labelOk_L2_of h

@[reducible] def EqualFunc_Same_S4 (t1 : Bool) (x1 : List Term) (x6 : Bool) (t15 : Bool) (x15 : List Term) (x16 : Int) (x17 : Int) : St := ⟨frOf [(1, .sl t1 .term x1), (2, .c (.fn 197 [])), (6, .bool x6), (15, .sl t15 .term x15), (16, .int x16), (17, .int x17)], hpIds []⟩

@[reducible] def EqualFunc_Same_O4 (x6 : Bool) : St := ⟨frOf [(6, .bool x6)], hpIds []⟩

noncomputable def EqualFunc_Same_L4 (n q : Nat) (t1 : Bool) (x1 : List Term) (x6 : Bool) (t15 : Bool) (x15 : List Term) (x16 : Int) (x17 : Int) : Option (Ex × (Bool × Unit) × Unit) := lpT Tryz.prog cfg RN n 5 235 4 0 q (EqualFunc_Same_S4 t1 x1 x6 t15 x15 x16 x17)

theorem EqualFunc_Same_L4_of {n q : Nat} {t1 : Bool} {x1 : List Term} {x6 : Bool} {t15 : Bool} {x15 : List Term} {x16 : Int} {x17 : Int} {e : Ex} {x6O : Bool} (h : lp Tryz.prog cfg RN n 5 235 4 0 q (EqualFunc_Same_S4 t1 x1 x6 t15 x15 x16 x17) = some (e, EqualFunc_Same_O4 x6O)) : EqualFunc_Same_L4 n q t1 x1 x6 t15 x15 x16 x17 = some (e, (x6O, ()), ()) := by
  unfold EqualFunc_Same_L4 lpT
  rw [h]
  kernel_rfl

theorem EqualFunc_Same_L4_if {n q : Nat} {t1 : Bool} {x1 : List Term} {x6 : Bool} {t15 : Bool} {x15 : List Term} {x16 : Int} {x17 : Int} {c : Prop} [Decidable c] {e e' : Ex} {x6O : Bool} {x6P : Bool} (h : lp Tryz.prog cfg RN n 5 235 4 0 q (EqualFunc_Same_S4 t1 x1 x6 t15 x15 x16 x17) = some (if c then (e, EqualFunc_Same_O4 x6O) else (e', EqualFunc_Same_O4 x6P))) : EqualFunc_Same_L4 n q t1 x1 x6 t15 x15 x16 x17 = some (if c then (e, (x6O, ()), ()) else (e', (x6P, ()), ())) := by
  by_cases hc : c
  · rw [if_pos hc] at h ⊢; exact EqualFunc_Same_L4_of h
  · rw [if_neg hc] at h ⊢; exact EqualFunc_Same_L4_of h

@[reducible] def IndexFunc_PolicyOk_1_S2 (t0 : Bool) (x0 : List ByteArray) (x4 : Int) (x7 : Int) (x8 : Int) : St := ⟨frOf [(0, .sl t0 .str x0), (1, .c (.fn 210 [])), (4, .int x4), (7, .int x7), (8, .int x8)], hpIds []⟩

@[reducible] def IndexFunc_PolicyOk_1_O2 (x4 : Int) : St := ⟨frOf [(4, .int x4)], hpIds []⟩

noncomputable def IndexFunc_PolicyOk_1_L2 (n q : Nat) (t0 : Bool) (x0 : List ByteArray) (x4 : Int) (x7 : Int) (x8 : Int) : Option (Ex × (Int × Unit) × Unit) := lpT Tryz.prog cfg RN n 5 237 2 0 q (IndexFunc_PolicyOk_1_S2 t0 x0 x4 x7 x8)

theorem IndexFunc_PolicyOk_1_L2_of {n q : Nat} {t0 : Bool} {x0 : List ByteArray} {x4 : Int} {x7 : Int} {x8 : Int} {e : Ex} {x4O : Int} (h : lp Tryz.prog cfg RN n 5 237 2 0 q (IndexFunc_PolicyOk_1_S2 t0 x0 x4 x7 x8) = some (e, IndexFunc_PolicyOk_1_O2 x4O)) : IndexFunc_PolicyOk_1_L2 n q t0 x0 x4 x7 x8 = some (e, (x4O, ()), ()) := by
  unfold IndexFunc_PolicyOk_1_L2 lpT
  rw [h]
  kernel_rfl

theorem IndexFunc_PolicyOk_1_L2_if {n q : Nat} {t0 : Bool} {x0 : List ByteArray} {x4 : Int} {x7 : Int} {x8 : Int} {c : Prop} [Decidable c] {e e' : Ex} {x4O : Int} {x4P : Int} (h : lp Tryz.prog cfg RN n 5 237 2 0 q (IndexFunc_PolicyOk_1_S2 t0 x0 x4 x7 x8) = some (if c then (e, IndexFunc_PolicyOk_1_O2 x4O) else (e', IndexFunc_PolicyOk_1_O2 x4P))) : IndexFunc_PolicyOk_1_L2 n q t0 x0 x4 x7 x8 = some (if c then (e, (x4O, ()), ()) else (e', (x4P, ()), ())) := by
  by_cases hc : c
  · rw [if_pos hc] at h ⊢; exact IndexFunc_PolicyOk_1_L2_of h
  · rw [if_neg hc] at h ⊢; exact IndexFunc_PolicyOk_1_L2_of h

@[reducible] def IndexFunc_labelsOk_1_S2 (t0 : Bool) (x0 : List ByteArray) (x4 : Int) (x7 : Int) (x8 : Int) : St := ⟨frOf [(0, .sl t0 .str x0), (1, .c (.fn 233 [])), (4, .int x4), (7, .int x7), (8, .int x8)], hpIds []⟩

@[reducible] def IndexFunc_labelsOk_1_O2 (x4 : Int) : St := ⟨frOf [(4, .int x4)], hpIds []⟩

noncomputable def IndexFunc_labelsOk_1_L2 (n q : Nat) (t0 : Bool) (x0 : List ByteArray) (x4 : Int) (x7 : Int) (x8 : Int) : Option (Ex × (Int × Unit) × Unit) := lpT Tryz.prog cfg RN n 5 237 2 0 q (IndexFunc_labelsOk_1_S2 t0 x0 x4 x7 x8)

theorem IndexFunc_labelsOk_1_L2_of {n q : Nat} {t0 : Bool} {x0 : List ByteArray} {x4 : Int} {x7 : Int} {x8 : Int} {e : Ex} {x4O : Int} (h : lp Tryz.prog cfg RN n 5 237 2 0 q (IndexFunc_labelsOk_1_S2 t0 x0 x4 x7 x8) = some (e, IndexFunc_labelsOk_1_O2 x4O)) : IndexFunc_labelsOk_1_L2 n q t0 x0 x4 x7 x8 = some (e, (x4O, ()), ()) := by
  unfold IndexFunc_labelsOk_1_L2 lpT
  rw [h]
  kernel_rfl

theorem IndexFunc_labelsOk_1_L2_if {n q : Nat} {t0 : Bool} {x0 : List ByteArray} {x4 : Int} {x7 : Int} {x8 : Int} {c : Prop} [Decidable c] {e e' : Ex} {x4O : Int} {x4P : Int} (h : lp Tryz.prog cfg RN n 5 237 2 0 q (IndexFunc_labelsOk_1_S2 t0 x0 x4 x7 x8) = some (if c then (e, IndexFunc_labelsOk_1_O2 x4O) else (e', IndexFunc_labelsOk_1_O2 x4P))) : IndexFunc_labelsOk_1_L2 n q t0 x0 x4 x7 x8 = some (if c then (e, (x4O, ()), ()) else (e', (x4P, ()), ())) := by
  by_cases hc : c
  · rw [if_pos hc] at h ⊢; exact IndexFunc_labelsOk_1_L2_of h
  · rw [if_neg hc] at h ⊢; exact IndexFunc_labelsOk_1_L2_of h

end Go.Proofs.YtoebfbhcbpiheaaGreatDoor
