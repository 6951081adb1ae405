/-
  What calls and loops answer, as plain data.
-/
import Derived.Test.YtgegmojoakkohaaGreatDoorMeCfg
namespace Go.Proofs.YtgegmojoakkohaaGreatDoor
open Go.Vm
set_option linter.unusedVariables false

noncomputable def laws_big_T (a0 : List UInt8) : Option Bool := presT RN 7 [.sl false .byte a0] (.bool)

noncomputable def impl_ClientNew_T (a0 : ByteArray) (a1 : Bool) (a2 : Int) (a3 : Int) : Option (Client × Bool × Unit) := presT RN 8 [.str a0, .bool a1, .int a2, .int a3] (.tup [.client, .bool])

noncomputable def impl_ClientHear_T (a0 : Client) (a1 : Term) (a2 : Int) : Option (Client × List Term × Unit) := presT RN 10 [.ag (Client.cells a0), .ag (Term.cells a1), .int a2] (.tup [.client, .sl .term])

noncomputable def laws_at_T (a0 : List UInt8) (a1 : Int) : Option Int := presT RN 12 [.sl false .byte a0, .int a1] (.int)

noncomputable def impl_CertTerm_T (a0 : Cert) : Option Term := presT RN 13 [.ag (Cert.cells a0)] (.el .term)

noncomputable def impl_Pub_T (a0 : Term) : Option Term := presT RN 14 [.ag (Term.cells a0)] (.el .term)

noncomputable def impl_Atom_T (a0 : Int) : Option Term := presT RN 15 [.int a0] (.el .term)

noncomputable def impl_Reply_T (a0 : Term) (a1 : Term) (a2 : Term) (a3 : Term) : Option (Term × Bool × Unit) := presT RN 16 [.ag (Term.cells a0), .ag (Term.cells a1), .ag (Term.cells a2), .ag (Term.cells a3)] (.tup [.el .term, .bool])

noncomputable def impl_ReplyOf_T (a0 : Term) (a1 : Term) : Option (Term × Term × Term × Term × Bool × Unit) := presT RN 20 [.ag (Term.cells a0), .ag (Term.cells a1)] (.tup [.el .term, .el .term, .el .term, .el .term, .bool])

noncomputable def impl_Same_T (a0 : Term) (a1 : Term) : Option Bool := presT RN 22 [.ag (Term.cells a0), .ag (Term.cells a1)] (.bool)

noncomputable def impl_HelloOf_T (a0 : Term) : Option (Term × Bool × Unit) := presT RN 25 [.ag (Term.cells a0)] (.tup [.el .term, .bool])

noncomputable def impl_Proved_T (a0 : Term) (a1 : Term) (a2 : Term) (a3 : Term) (a4 : ByteArray) (a5 : Int) : Option Bool := presT RN 30 [.ag (Term.cells a0), .ag (Term.cells a1), .ag (Term.cells a2), .ag (Term.cells a3), .str a4, .int a5] (.bool)

noncomputable def impl_Hello_T (a0 : Term) : Option Term := presT RN 32 [.ag (Term.cells a0)] (.el .term)

noncomputable def impl_Done_T (a0 : Term) : Option Term := presT RN 34 [.ag (Term.cells a0)] (.el .term)

noncomputable def impl_Both_T (a0 : Term) (a1 : Term) : Option Term := presT RN 36 [.ag (Term.cells a0), .ag (Term.cells a1)] (.el .term)

noncomputable def impl_CertGood_T (a0 : Term) (a1 : ByteArray) (a2 : Int) : Option (Term × Bool × Unit) := presT RN 38 [.ag (Term.cells a0), .str a1, .int a2] (.tup [.el .term, .bool])

noncomputable def impl_TermOk_T (a0 : Term) : Option Bool := presT RN 39 [.ag (Term.cells a0)] (.bool)

noncomputable def impl_Agree_T (a0 : Term) (a1 : Term) : Option (Term × Bool × Unit) := presT RN 40 [.ag (Term.cells a0), .ag (Term.cells a1)] (.tup [.el .term, .bool])

noncomputable def impl_Sign_T (a0 : Term) (a1 : Term) : Option Term := presT RN 41 [.ag (Term.cells a0), .ag (Term.cells a1)] (.el .term)

noncomputable def impl_ClientOk_T (a0 : Client) : Option Bool := presT RN 46 [.ag (Client.cells a0)] (.bool)

noncomputable def impl_Line_T (a0 : Term) : Option (ByteArray × Bool × Unit) := presT RN 47 [.ag (Term.cells a0)] (.tup [.str, .bool])

noncomputable def impl_ServerNew_T (a0 : ByteArray) (a1 : Int) (a2 : Int) (a3 : Int) : Option (Server × Bool × Unit) := presT RN 48 [.str a0, .int a1, .int a2, .int a3] (.tup [.server, .bool])

noncomputable def spec_ServerNew_T (a0 : ByteArray) (a1 : Int) (a2 : Int) (a3 : Int) : Option (Server × Bool × Unit) := presT RN 49 [.str a0, .int a1, .int a2, .int a3] (.tup [.server, .bool])

noncomputable def impl_Greeting_T  : Option Term := presT RN 50 [] (.el .term)

noncomputable def impl_ServerHear_T (a0 : Server) (a1 : Term) : Option (Server × List Term × Unit) := presT RN 51 [.ag (Server.cells a0), .ag (Term.cells a1)] (.tup [.server, .sl .term])

noncomputable def impl_cloneClient_T (a0 : Client) : Option Client := presT RN 53 [.ag (Client.cells a0)] (.client)

noncomputable def impl_heardReply_T (a0 : Client) (a1 : Term) (a2 : Int) : Option (Client × List Term × Unit) := presT RN 54 [.ag (Client.cells a0), .ag (Term.cells a1), .int a2] (.tup [.client, .sl .term])

noncomputable def impl_ClientLine_T (a0 : Client) (a1 : Term) : Option (ByteArray × Bool × Unit) := presT RN 55 [.ag (Client.cells a0), .ag (Term.cells a1)] (.tup [.str, .bool])

noncomputable def impl_failed_T (a0 : Client) : Option (Client × List Term × Unit) := presT RN 56 [.ag (Client.cells a0)] (.tup [.client, .sl .term])

noncomputable def impl_heardLine_T (a0 : Client) (a1 : ByteArray) : Option (Client × List Term × Unit) := presT RN 57 [.ag (Client.cells a0), .str a1] (.tup [.client, .sl .term])

noncomputable def impl_CertOk_T (a0 : Cert) : Option Bool := presT RN 58 [.ag (Cert.cells a0)] (.bool)

noncomputable def impl_Pair_T (a0 : Term) (a1 : Term) : Option Term := presT RN 59 [.ag (Term.cells a0), .ag (Term.cells a1)] (.el .term)

noncomputable def impl_text_T (a0 : ByteArray) : Option Term := presT RN 60 [.str a0] (.el .term)

noncomputable def impl_digits_T (a0 : Int) : Option Term := presT RN 61 [.int a0] (.el .term)

noncomputable def impl_right_T (a0 : Term) : Option Term := presT RN 62 [.ag (Term.cells a0)] (.el .term)

noncomputable def impl_Seal_T (a0 : Term) (a1 : Int) (a2 : Term) : Option Term := presT RN 63 [.ag (Term.cells a0), .int a1, .ag (Term.cells a2)] (.el .term)

noncomputable def impl_KeyOf_T (a0 : Term) (a1 : Int) : Option Term := presT RN 64 [.ag (Term.cells a0), .int a1] (.el .term)

noncomputable def spec_Pub_T (a0 : Term) : Option Term := presT RN 67 [.ag (Term.cells a0)] (.el .term)

noncomputable def spec_Atom_T (a0 : Int) : Option Term := presT RN 68 [.int a0] (.el .term)

noncomputable def spec_Pair_T (a0 : Term) (a1 : Term) : Option Term := presT RN 73 [.ag (Term.cells a0), .ag (Term.cells a1)] (.el .term)

noncomputable def spec_Sign_T (a0 : Term) (a1 : Term) : Option Term := presT RN 77 [.ag (Term.cells a0), .ag (Term.cells a1)] (.el .term)

noncomputable def impl_twoOf_T (a0 : Term) : Option (Term × Term × Bool × Unit) := presT RN 79 [.ag (Term.cells a0)] (.tup [.el .term, .el .term, .bool])

noncomputable def impl_Open_T (a0 : Term) (a1 : Int) (a2 : Term) : Option (Term × Bool × Unit) := presT RN 80 [.ag (Term.cells a0), .int a1, .ag (Term.cells a2)] (.tup [.el .term, .bool])

noncomputable def impl_clone_T (a0 : Term) : Option Term := presT RN 81 [.ag (Term.cells a0)] (.el .term)

noncomputable def spec_l1Copy_T (a0 : Term) : Option Term := presT RN 84 [.ag (Term.cells a0)] (.el .term)

noncomputable def slices_EqualFunc_impl_Term_impl_Term_impl_Term_impl_Term_T (a0 : List Term) (a1 : List Term) (a2 : V) : Option Bool := presT RN 85 [.sl false .term a0, .sl false .term a1, a2] (.bool)

noncomputable def impl_Signed_T (a0 : Term) (a1 : Term) : Option (Term × Bool × Unit) := presT RN 91 [.ag (Term.cells a0), .ag (Term.cells a1)] (.tup [.el .term, .bool])

noncomputable def spec_Same_T (a0 : Term) (a1 : Term) : Option Bool := presT RN 94 [.ag (Term.cells a0), .ag (Term.cells a1)] (.bool)

noncomputable def impl_Hash_T (a0 : Term) : Option Term := presT RN 95 [.ag (Term.cells a0)] (.el .term)

noncomputable def impl_CertOf_T (a0 : Term) : Option (Cert × Bool × Unit) := presT RN 97 [.ag (Term.cells a0)] (.tup [.cert, .bool])

noncomputable def impl_TermSize_T (a0 : Term) : Option Int := presT RN 98 [.ag (Term.cells a0)] (.int)

noncomputable def impl_formOk_T (a0 : Term) : Option Bool := presT RN 99 [.ag (Term.cells a0)] (.bool)

noncomputable def impl_Before_T (a0 : Term) (a1 : Term) : Option Bool := presT RN 100 [.ag (Term.cells a0), .ag (Term.cells a1)] (.bool)

noncomputable def spec_TermOk_T (a0 : Term) : Option Bool := presT RN 104 [.ag (Term.cells a0)] (.bool)

noncomputable def impl_in_T (a0 : Int) (a1 : Int) (a2 : Int) : Option Bool := presT RN 110 [.int a0, .int a1, .int a2] (.bool)

noncomputable def impl_HostOk_T (a0 : ByteArray) : Option Bool := presT RN 111 [.str a0] (.bool)

noncomputable def impl_isAtom_T (a0 : Int) : Option Bool := presT RN 112 [.int a0] (.bool)

noncomputable def impl_noTerm_T (a0 : Term) : Option Bool := presT RN 113 [.ag (Term.cells a0)] (.bool)

noncomputable def impl_ServerOk_T (a0 : Server) : Option Bool := presT RN 114 [.ag (Server.cells a0)] (.bool)

noncomputable def spec_CertTerm_T (a0 : Cert) : Option Term := presT RN 115 [.ag (Cert.cells a0)] (.el .term)

noncomputable def spec_ServerOk_T (a0 : Server) : Option Bool := presT RN 116 [.ag (Server.cells a0)] (.bool)

noncomputable def impl_cloneServer_T (a0 : Server) : Option Server := presT RN 117 [.ag (Server.cells a0)] (.server)

noncomputable def impl_greeted_T (a0 : Server) (a1 : Term) : Option (Server × List Term × Unit) := presT RN 118 [.ag (Server.cells a0), .ag (Term.cells a1)] (.tup [.server, .sl .term])

noncomputable def impl_gaveUp_T (a0 : Server) : Option (Server × List Term × Unit) := presT RN 119 [.ag (Server.cells a0)] (.tup [.server, .sl .term])

noncomputable def impl_heard_T (a0 : Server) (a1 : Term) : Option (Server × List Term × Unit) := presT RN 120 [.ag (Server.cells a0), .ag (Term.cells a1)] (.tup [.server, .sl .term])

noncomputable def spec_l1In_T (a0 : Int) (a1 : Int) (a2 : Int) : Option Bool := presT RN 121 [.int a0, .int a1, .int a2] (.bool)

noncomputable def spec_HostOk_T (a0 : ByteArray) : Option Bool := presT RN 122 [.str a0] (.bool)

noncomputable def impl_goes_T (a0 : Client) (a1 : Term) (a2 : Int) : Option (Client × List Term × Unit) := presT RN 123 [.ag (Client.cells a0), .ag (Term.cells a1), .int a2] (.tup [.client, .sl .term])

noncomputable def strconv_Itoa_T (a0 : Int) : Option ByteArray := presT RN 124 [.int a0] (.str)

noncomputable def spec_l3Ok_T (a0 : Term) : Option Term := presT RN 125 [.ag (Term.cells a0)] (.el .term)

noncomputable def spec_Before_T (a0 : Term) (a1 : Term) : Option Bool := presT RN 129 [.ag (Term.cells a0), .ag (Term.cells a1)] (.bool)

noncomputable def spec_l3Two_T (a0 : Int) (a1 : Term) (a2 : Term) : Option Term := presT RN 130 [.int a0, .ag (Term.cells a1), .ag (Term.cells a2)] (.el .term)

noncomputable def spec_l3Num_T (a0 : Int) : Option Term := presT RN 131 [.int a0] (.el .term)

noncomputable def impl_cloneAll_T (a0 : List Term) : Option (List Term) := presT RN 132 [.sl false .term a0] (.sl .term)

noncomputable def spec_CertOk_T (a0 : Cert) : Option Bool := presT RN 135 [.ag (Cert.cells a0)] (.bool)

noncomputable def strconv_Atoi_T (a0 : ByteArray) : Option (Int × Bool × Unit) := presT RN 137 [.str a0] (.tup [.int, .err])

noncomputable def impl_arity_T (a0 : Int) : Option Int := presT RN 138 [.int a0] (.int)

noncomputable def slices_ContainsFunc_impl_Term_impl_Term_T (a0 : List Term) (a1 : V) : Option Bool := presT RN 139 [.sl false .term a0, a1] (.bool)

noncomputable def spec_TermSize_T (a0 : Term) : Option Int := presT RN 142 [.ag (Term.cells a0)] (.int)

noncomputable def spec_l1Right_T (a0 : Term) : Option Bool := presT RN 143 [.ag (Term.cells a0)] (.bool)

noncomputable def impl_labelsOk_T (a0 : ByteArray) (a1 : Int) : Option Bool := presT RN 147 [.str a0, .int a1] (.bool)

noncomputable def slices_ContainsFunc_int_int_T (a0 : List Int) (a1 : V) : Option Bool := presT RN 148 [.sl false .int a0, a1] (.bool)

noncomputable def slices_Clone_int_int_T (a0 : List Int) : Option (List Int) := presT RN 150 [.sl false .int a0] (.sl .int)

noncomputable def impl_took_T (a0 : Server) (a1 : Term) : Option (Server × List Term × Unit) := presT RN 151 [.ag (Server.cells a0), .ag (Term.cells a1)] (.tup [.server, .sl .term])

noncomputable def impl_served_T (a0 : Server) (a1 : ByteArray) : Option (Server × List Term × Unit) := presT RN 152 [.ag (Server.cells a0), .str a1] (.tup [.server, .sl .term])

noncomputable def spec_l5Labels_T (a0 : ByteArray) (a1 : Int) : Option Bool := presT RN 153 [.str a0, .int a1] (.bool)

noncomputable def impl_ClientSay_T (a0 : Client) (a1 : Term) : Option (Client × Term × Unit) := presT RN 154 [.ag (Client.cells a0), .ag (Term.cells a1)] (.tup [.client, .el .term])

noncomputable def spec_l1Digits_T (a0 : Int) : Option ByteArray := presT RN 156 [.int a0] (.str)

noncomputable def slices_IndexFunc_impl_Term_impl_Term_T (a0 : List Term) (a1 : V) : Option Int := presT RN 159 [.sl false .term a0, a1] (.int)

noncomputable def spec_l1Kids_T (a0 : Int) : Option Int := presT RN 160 [.int a0] (.int)

noncomputable def impl_Labels_T (a0 : ByteArray) : Option (List ByteArray) := presT RN 161 [.str a0] (.sl .str)

noncomputable def slices_ContainsFunc_string_string_T (a0 : List ByteArray) (a1 : V) : Option Bool := presT RN 162 [.sl false .str a0, a1] (.bool)

noncomputable def impl_labelOk_T (a0 : ByteArray) : Option Bool := presT RN 164 [.str a0] (.bool)

noncomputable def slices_IndexFunc_int_int_T (a0 : List Int) (a1 : V) : Option Int := presT RN 165 [.sl false .int a0, a1] (.int)

noncomputable def impl_answers_T (a0 : Server) (a1 : ByteArray) (a2 : Int) : Option (Server × List Term × Unit) := presT RN 166 [.ag (Server.cells a0), .str a1, .int a2] (.tup [.server, .sl .term])

noncomputable def spec_Labels_T (a0 : ByteArray) : Option (List ByteArray) := presT RN 167 [.str a0] (.sl .str)

noncomputable def spec_l5Label_T (a0 : ByteArray) : Option Bool := presT RN 168 [.str a0] (.bool)

noncomputable def strings_Split_T (a0 : ByteArray) (a1 : ByteArray) : Option (List ByteArray) := presT RN 175 [.str a0, .str a1] (.sl .str)

noncomputable def slices_IndexFunc_string_string_T (a0 : List ByteArray) (a1 : V) : Option Int := presT RN 176 [.sl false .str a0, a1] (.int)

@[reducible] def laws_FnMeets_S11 (x11 : List Term) (x12 : Int) (y5 : Client) (y7 : Server) : St := ⟨frOf [(5, .c (.bx (.own 5) 0)), (7, .c (.bx (.own 7) 0)), (11, .c (.row (.own 11) .term)), (12, .int x12)], hpIds [(.own 5, .box ((Client.cells y5).map C.f)), (.own 7, .box ((Server.cells y7).map C.f)), (.own 11, .row true .term x11)]⟩

@[reducible] def laws_FnMeets_O11 (y5 : Client) (y7 : Server) : St := ⟨frOf [(5, .c (.bx (.own 5) 0)), (7, .c (.bx (.own 7) 0))], hpIds [(.own 5, .box ((Client.cells y5).map C.f)), (.own 7, .box ((Server.cells y7).map C.f))]⟩

noncomputable def laws_FnMeets_L11 (n q : Nat) (x11 : List Term) (x12 : Int) (y5 : Client) (y7 : Server) : Option (Ex × (Unit × Unit × Unit) × Client × Server × Unit) := lpT Tryz.prog cfg RN n 5 6 11 0 q (laws_FnMeets_S11 x11 x12 y5 y7)

theorem laws_FnMeets_L11_of {n q : Nat} {x11 : List Term} {x12 : Int} {y5 : Client} {y7 : Server} {e : Ex} {y5O : Client} {y7O : Server} (h : lp Tryz.prog cfg RN n 5 6 11 0 q (laws_FnMeets_S11 x11 x12 y5 y7) = some (e, laws_FnMeets_O11 y5O y7O)) : laws_FnMeets_L11 n q x11 x12 y5 y7 = some (e, ((), (), ()), y5O, y7O, ()) := by
  unfold laws_FnMeets_L11 lpT
  rw [h]
  exact Eq.trans (b := some (e, ((), (), ()), (⟨y5O.step, y5O.host, y5O.must, y5O.eph, y5O.body, ⟨y5O.share.op, y5O.share.n, y5O.share.s, y5O.share.kids⟩, y5O.inn, y5O.out, y5O.tls, y5O.proved⟩ : Client), (⟨y7O.step, y7O.host, y7O.key, y7O.eph, ⟨y7O.cert.op, y7O.cert.n, y7O.cert.s, y7O.cert.kids⟩, ⟨y7O.share.op, y7O.share.n, y7O.share.s, y7O.share.kids⟩, y7O.inn, y7O.out, y7O.tls, y7O.got⟩ : Server), ())) (by kernel_rfl) (by simp only [Term.eta])

theorem laws_FnMeets_L11_if {n q : Nat} {x11 : List Term} {x12 : Int} {y5 : Client} {y7 : Server} {c : Prop} [Decidable c] {e e' : Ex} {y5O : Client} {y7O : Server} {y5P : Client} {y7P : Server} (h : lp Tryz.prog cfg RN n 5 6 11 0 q (laws_FnMeets_S11 x11 x12 y5 y7) = some (if c then (e, laws_FnMeets_O11 y5O y7O) else (e', laws_FnMeets_O11 y5P y7P))) : laws_FnMeets_L11 n q x11 x12 y5 y7 = some (if c then (e, ((), (), ()), y5O, y7O, ()) else (e', ((), (), ()), y5P, y7P, ())) := by
  by_cases hc : c
  · rw [if_pos hc] at h ⊢; exact laws_FnMeets_L11_of h
  · rw [if_neg hc] at h ⊢; exact laws_FnMeets_L11_of h

@[reducible] def laws_FnMeets_S15 (x11 : List Term) (x12 : Int) (x13 : List Term) (x14 : Int) (y5 : Client) (y7 : Server) : St := ⟨frOf [(5, .c (.bx (.own 5) 0)), (7, .c (.bx (.own 7) 0)), (11, .c (.row (.own 11) .term)), (12, .int x12), (13, .c (.row (.own 13) .term)), (14, .int x14)], hpIds [(.own 5, .box ((Client.cells y5).map C.f)), (.own 7, .box ((Server.cells y7).map C.f)), (.own 11, .row true .term x11), (.own 13, .row true .term x13)]⟩

@[reducible] def laws_FnMeets_O15 (x12 : Int) (x13 : List Term) (y5 : Client) (y7 : Server) : St := ⟨frOf [(5, .c (.bx (.own 5) 0)), (7, .c (.bx (.own 7) 0)), (12, .int x12), (13, .c (.row (.own 13) .term))], hpIds [(.own 5, .box ((Client.cells y5).map C.f)), (.own 7, .box ((Server.cells y7).map C.f)), (.own 13, .row true .term x13)]⟩

noncomputable def laws_FnMeets_L15 (n q : Nat) (x11 : List Term) (x12 : Int) (x13 : List Term) (x14 : Int) (y5 : Client) (y7 : Server) : Option (Ex × (Unit × Unit × Int × Unit × Unit) × Client × Server × List Term × Unit) := lpT Tryz.prog cfg RN n 5 6 15 0 q (laws_FnMeets_S15 x11 x12 x13 x14 y5 y7)

theorem laws_FnMeets_L15_of {n q : Nat} {x11 : List Term} {x12 : Int} {x13 : List Term} {x14 : Int} {y5 : Client} {y7 : Server} {e : Ex} {x12O : Int} {x13O : List Term} {y5O : Client} {y7O : Server} (h : lp Tryz.prog cfg RN n 5 6 15 0 q (laws_FnMeets_S15 x11 x12 x13 x14 y5 y7) = some (e, laws_FnMeets_O15 x12O x13O y5O y7O)) : laws_FnMeets_L15 n q x11 x12 x13 x14 y5 y7 = some (e, ((), (), x12O, (), ()), y5O, y7O, x13O, ()) := by
  unfold laws_FnMeets_L15 lpT
  rw [h]
  exact Eq.trans (b := some (e, ((), (), x12O, (), ()), (⟨y5O.step, y5O.host, y5O.must, y5O.eph, y5O.body, ⟨y5O.share.op, y5O.share.n, y5O.share.s, y5O.share.kids⟩, y5O.inn, y5O.out, y5O.tls, y5O.proved⟩ : Client), (⟨y7O.step, y7O.host, y7O.key, y7O.eph, ⟨y7O.cert.op, y7O.cert.n, y7O.cert.s, y7O.cert.kids⟩, ⟨y7O.share.op, y7O.share.n, y7O.share.s, y7O.share.kids⟩, y7O.inn, y7O.out, y7O.tls, y7O.got⟩ : Server), x13O, ())) (by kernel_rfl) (by simp only [Term.eta])

theorem laws_FnMeets_L15_if {n q : Nat} {x11 : List Term} {x12 : Int} {x13 : List Term} {x14 : Int} {y5 : Client} {y7 : Server} {c : Prop} [Decidable c] {e e' : Ex} {x12O : Int} {x13O : List Term} {y5O : Client} {y7O : Server} {x12P : Int} {x13P : List Term} {y5P : Client} {y7P : Server} (h : lp Tryz.prog cfg RN n 5 6 15 0 q (laws_FnMeets_S15 x11 x12 x13 x14 y5 y7) = some (if c then (e, laws_FnMeets_O15 x12O x13O y5O y7O) else (e', laws_FnMeets_O15 x12P x13P y5P y7P))) : laws_FnMeets_L15 n q x11 x12 x13 x14 y5 y7 = some (if c then (e, ((), (), x12O, (), ()), y5O, y7O, x13O, ()) else (e', ((), (), x12P, (), ()), y5P, y7P, x13P, ())) := by
  by_cases hc : c
  · rw [if_pos hc] at h ⊢; exact laws_FnMeets_L15_of h
  · rw [if_neg hc] at h ⊢; exact laws_FnMeets_L15_of h

@[reducible] def laws_FnMeets_S22 (x11 : List Term) (x12 : Int) (x13 : List Term) (x17 : Int) (y5 : Client) (y7 : Server) : St := ⟨frOf [(5, .c (.bx (.own 5) 0)), (7, .c (.bx (.own 7) 0)), (11, .c (.row (.own 11) .term)), (12, .int x12), (13, .c (.row (.own 13) .term)), (17, .int x17)], hpIds [(.own 5, .box ((Client.cells y5).map C.f)), (.own 7, .box ((Server.cells y7).map C.f)), (.own 11, .row true .term x11), (.own 13, .row true .term x13)]⟩

@[reducible] def laws_FnMeets_O22 (x11 : List Term) (x12 : Int) (y5 : Client) (y7 : Server) : St := ⟨frOf [(5, .c (.bx (.own 5) 0)), (7, .c (.bx (.own 7) 0)), (11, .c (.row (.own 11) .term)), (12, .int x12)], hpIds [(.own 5, .box ((Client.cells y5).map C.f)), (.own 7, .box ((Server.cells y7).map C.f)), (.own 11, .row true .term x11)]⟩

noncomputable def laws_FnMeets_L22 (n q : Nat) (x11 : List Term) (x12 : Int) (x13 : List Term) (x17 : Int) (y5 : Client) (y7 : Server) : Option (Ex × (Unit × Unit × Unit × Int × Unit) × Client × Server × List Term × Unit) := lpT Tryz.prog cfg RN n 5 6 22 0 q (laws_FnMeets_S22 x11 x12 x13 x17 y5 y7)

theorem laws_FnMeets_L22_of {n q : Nat} {x11 : List Term} {x12 : Int} {x13 : List Term} {x17 : Int} {y5 : Client} {y7 : Server} {e : Ex} {x11O : List Term} {x12O : Int} {y5O : Client} {y7O : Server} (h : lp Tryz.prog cfg RN n 5 6 22 0 q (laws_FnMeets_S22 x11 x12 x13 x17 y5 y7) = some (e, laws_FnMeets_O22 x11O x12O y5O y7O)) : laws_FnMeets_L22 n q x11 x12 x13 x17 y5 y7 = some (e, ((), (), (), x12O, ()), y5O, y7O, x11O, ()) := by
  unfold laws_FnMeets_L22 lpT
  rw [h]
  exact Eq.trans (b := some (e, ((), (), (), x12O, ()), (⟨y5O.step, y5O.host, y5O.must, y5O.eph, y5O.body, ⟨y5O.share.op, y5O.share.n, y5O.share.s, y5O.share.kids⟩, y5O.inn, y5O.out, y5O.tls, y5O.proved⟩ : Client), (⟨y7O.step, y7O.host, y7O.key, y7O.eph, ⟨y7O.cert.op, y7O.cert.n, y7O.cert.s, y7O.cert.kids⟩, ⟨y7O.share.op, y7O.share.n, y7O.share.s, y7O.share.kids⟩, y7O.inn, y7O.out, y7O.tls, y7O.got⟩ : Server), x11O, ())) (by kernel_rfl) (by simp only [Term.eta])

theorem laws_FnMeets_L22_if {n q : Nat} {x11 : List Term} {x12 : Int} {x13 : List Term} {x17 : Int} {y5 : Client} {y7 : Server} {c : Prop} [Decidable c] {e e' : Ex} {x11O : List Term} {x12O : Int} {y5O : Client} {y7O : Server} {x11P : List Term} {x12P : Int} {y5P : Client} {y7P : Server} (h : lp Tryz.prog cfg RN n 5 6 22 0 q (laws_FnMeets_S22 x11 x12 x13 x17 y5 y7) = some (if c then (e, laws_FnMeets_O22 x11O x12O y5O y7O) else (e', laws_FnMeets_O22 x11P x12P y5P y7P))) : laws_FnMeets_L22 n q x11 x12 x13 x17 y5 y7 = some (if c then (e, ((), (), (), x12O, ()), y5O, y7O, x11O, ()) else (e', ((), (), (), x12P, ()), y5P, y7P, x11P, ())) := by
  by_cases hc : c
  · rw [if_pos hc] at h ⊢; exact laws_FnMeets_L22_of h
  · rw [if_neg hc] at h ⊢; exact laws_FnMeets_L22_of h

@[reducible] def spec_l1Copy_S3 (x4 : Int) (y1 : Term) (y2_Op : Int) (y2_N : Int) (y2_S : ByteArray) (y2_Kids : List Term) (y3_Op : Int) (y3_N : Int) (y3_S : ByteArray) (y3_Kids : List Term) : St := ⟨frOf [(1, .c (.bx (.own 1) 0)), (2, .c (.bx (.own 2) 0)), (3, .c (.bx (.own 3) 0)), (4, .int x4)], hpIds [(.own 1, .box ((Term.cells y1).map C.f)), (.own 2, .box [.f (.int y2_Op), .f (.int y2_N), .f (.str y2_S), .f (.sl true .term y2_Kids)]), (.own 3, .box [.f (.int y3_Op), .f (.int y3_N), .f (.str y3_S), .row (.ret 3 3) .term]), (.ret 3 3, .row true .term y3_Kids)]⟩

@[reducible] def spec_l1Copy_O3 (y2_Op : Int) (y2_N : Int) (y2_S : ByteArray) (y2_Kids : List Term) (y3_Op : Int) (y3_N : Int) (y3_S : ByteArray) (y3_Kids : List Term) : St := ⟨frOf [(2, .c (.bx (.own 2) 0)), (3, .c (.bx (.own 3) 0))], hpIds [(.own 2, .box [.f (.int y2_Op), .f (.int y2_N), .f (.str y2_S), .f (.sl true .term y2_Kids)]), (.own 3, .box [.f (.int y3_Op), .f (.int y3_N), .f (.str y3_S), .row (.ret 3 3) .term]), (.ret 3 3, .row true .term y3_Kids)]⟩

noncomputable def spec_l1Copy_L3 (n q : Nat) (x4 : Int) (y1 : Term) (y2_Op : Int) (y2_N : Int) (y2_S : ByteArray) (y2_Kids : List Term) (y3_Op : Int) (y3_N : Int) (y3_S : ByteArray) (y3_Kids : List Term) : Option (Ex × (Unit × Unit × Unit) × (Int × Int × ByteArray × List Term × Unit) × (Int × Int × ByteArray × Unit × Unit) × List Term × Unit) := lpT Tryz.prog cfg RN n 5 84 3 0 q (spec_l1Copy_S3 x4 y1 y2_Op y2_N y2_S y2_Kids y3_Op y3_N y3_S y3_Kids)

theorem spec_l1Copy_L3_of {n q : Nat} {x4 : Int} {y1 : Term} {y2_Op : Int} {y2_N : Int} {y2_S : ByteArray} {y2_Kids : List Term} {y3_Op : Int} {y3_N : Int} {y3_S : ByteArray} {y3_Kids : List Term} {e : Ex} {y2_OpO : Int} {y2_NO : Int} {y2_SO : ByteArray} {y2_KidsO : List Term} {y3_OpO : Int} {y3_NO : Int} {y3_SO : ByteArray} {y3_KidsO : List Term} (h : lp Tryz.prog cfg RN n 5 84 3 0 q (spec_l1Copy_S3 x4 y1 y2_Op y2_N y2_S y2_Kids y3_Op y3_N y3_S y3_Kids) = some (e, spec_l1Copy_O3 y2_OpO y2_NO y2_SO y2_KidsO y3_OpO y3_NO y3_SO y3_KidsO)) : spec_l1Copy_L3 n q x4 y1 y2_Op y2_N y2_S y2_Kids y3_Op y3_N y3_S y3_Kids = some (e, ((), (), ()), (y2_OpO, y2_NO, y2_SO, y2_KidsO, ()), (y3_OpO, y3_NO, y3_SO, (), ()), y3_KidsO, ()) := by
  unfold spec_l1Copy_L3 lpT
  rw [h]
  kernel_rfl

theorem spec_l1Copy_L3_if {n q : Nat} {x4 : Int} {y1 : Term} {y2_Op : Int} {y2_N : Int} {y2_S : ByteArray} {y2_Kids : List Term} {y3_Op : Int} {y3_N : Int} {y3_S : ByteArray} {y3_Kids : List Term} {c : Prop} [Decidable c] {e e' : Ex} {y2_OpO : Int} {y2_NO : Int} {y2_SO : ByteArray} {y2_KidsO : List Term} {y3_OpO : Int} {y3_NO : Int} {y3_SO : ByteArray} {y3_KidsO : List Term} {y2_OpP : Int} {y2_NP : Int} {y2_SP : ByteArray} {y2_KidsP : List Term} {y3_OpP : Int} {y3_NP : Int} {y3_SP : ByteArray} {y3_KidsP : List Term} (h : lp Tryz.prog cfg RN n 5 84 3 0 q (spec_l1Copy_S3 x4 y1 y2_Op y2_N y2_S y2_Kids y3_Op y3_N y3_S y3_Kids) = some (if c then (e, spec_l1Copy_O3 y2_OpO y2_NO y2_SO y2_KidsO y3_OpO y3_NO y3_SO y3_KidsO) else (e', spec_l1Copy_O3 y2_OpP y2_NP y2_SP y2_KidsP y3_OpP y3_NP y3_SP y3_KidsP))) : spec_l1Copy_L3 n q x4 y1 y2_Op y2_N y2_S y2_Kids y3_Op y3_N y3_S y3_Kids = some (if c then (e, ((), (), ()), (y2_OpO, y2_NO, y2_SO, y2_KidsO, ()), (y3_OpO, y3_NO, y3_SO, (), ()), y3_KidsO, ()) else (e', ((), (), ()), (y2_OpP, y2_NP, y2_SP, y2_KidsP, ()), (y3_OpP, y3_NP, y3_SP, (), ()), y3_KidsP, ())) := by
  by_cases hc : c
  · rw [if_pos hc] at h ⊢; exact spec_l1Copy_L3_of h
  · rw [if_neg hc] at h ⊢; exact spec_l1Copy_L3_of h

@[reducible] def EqualFunc_Same_S4 (t1 : Bool) (x1 : List Term) (x6 : Bool) (t15 : Bool) (x15 : List Term) (x16 : Int) (x17 : Int) : St := ⟨frOf [(1, .sl t1 .term x1), (2, .c (.fn 22 [])), (6, .bool x6), (15, .sl t15 .term x15), (16, .int x16), (17, .int x17)], hpIds []⟩

@[reducible] def EqualFunc_Same_O4 (x6 : Bool) : St := ⟨frOf [(6, .bool x6)], hpIds []⟩

noncomputable def EqualFunc_Same_L4 (n q : Nat) (t1 : Bool) (x1 : List Term) (x6 : Bool) (t15 : Bool) (x15 : List Term) (x16 : Int) (x17 : Int) : Option (Ex × (Bool × Unit) × Unit) := lpT Tryz.prog cfg RN n 5 85 4 0 q (EqualFunc_Same_S4 t1 x1 x6 t15 x15 x16 x17)

theorem EqualFunc_Same_L4_of {n q : Nat} {t1 : Bool} {x1 : List Term} {x6 : Bool} {t15 : Bool} {x15 : List Term} {x16 : Int} {x17 : Int} {e : Ex} {x6O : Bool} (h : lp Tryz.prog cfg RN n 5 85 4 0 q (EqualFunc_Same_S4 t1 x1 x6 t15 x15 x16 x17) = some (e, EqualFunc_Same_O4 x6O)) : EqualFunc_Same_L4 n q t1 x1 x6 t15 x15 x16 x17 = some (e, (x6O, ()), ()) := by
  unfold EqualFunc_Same_L4 lpT
  rw [h]
  kernel_rfl

theorem EqualFunc_Same_L4_if {n q : Nat} {t1 : Bool} {x1 : List Term} {x6 : Bool} {t15 : Bool} {x15 : List Term} {x16 : Int} {x17 : Int} {c : Prop} [Decidable c] {e e' : Ex} {x6O : Bool} {x6P : Bool} (h : lp Tryz.prog cfg RN n 5 85 4 0 q (EqualFunc_Same_S4 t1 x1 x6 t15 x15 x16 x17) = some (if c then (e, EqualFunc_Same_O4 x6O) else (e', EqualFunc_Same_O4 x6P))) : EqualFunc_Same_L4 n q t1 x1 x6 t15 x15 x16 x17 = some (if c then (e, (x6O, ()), ()) else (e', (x6P, ()), ())) := by
  by_cases hc : c
  · rw [if_pos hc] at h ⊢; exact EqualFunc_Same_L4_of h
  · rw [if_neg hc] at h ⊢; exact EqualFunc_Same_L4_of h

@[reducible] def spec_Same_S4 (x4 : Bool) (x5 : Int) (y2 : Term) (y3 : Term) : St := ⟨frOf [(2, .c (.bx (.own 2) 0)), (3, .c (.bx (.own 3) 0)), (4, .bool x4), (5, .int x5)], hpIds [(.own 2, .box ((Term.cells y2).map C.f)), (.own 3, .box ((Term.cells y3).map C.f))]⟩

@[reducible] def spec_Same_O4 (x4 : Bool) : St := ⟨frOf [(4, .bool x4)], hpIds []⟩

noncomputable def spec_Same_L4 (n q : Nat) (x4 : Bool) (x5 : Int) (y2 : Term) (y3 : Term) : Option (Ex × (Bool × Unit) × Unit) := lpT Tryz.prog cfg RN n 5 94 4 0 q (spec_Same_S4 x4 x5 y2 y3)

theorem spec_Same_L4_of {n q : Nat} {x4 : Bool} {x5 : Int} {y2 : Term} {y3 : Term} {e : Ex} {x4O : Bool} (h : lp Tryz.prog cfg RN n 5 94 4 0 q (spec_Same_S4 x4 x5 y2 y3) = some (e, spec_Same_O4 x4O)) : spec_Same_L4 n q x4 x5 y2 y3 = some (e, (x4O, ()), ()) := by
  unfold spec_Same_L4 lpT
  rw [h]
  kernel_rfl

theorem spec_Same_L4_if {n q : Nat} {x4 : Bool} {x5 : Int} {y2 : Term} {y3 : Term} {c : Prop} [Decidable c] {e e' : Ex} {x4O : Bool} {x4P : Bool} (h : lp Tryz.prog cfg RN n 5 94 4 0 q (spec_Same_S4 x4 x5 y2 y3) = some (if c then (e, spec_Same_O4 x4O) else (e', spec_Same_O4 x4P))) : spec_Same_L4 n q x4 x5 y2 y3 = some (if c then (e, (x4O, ()), ()) else (e', (x4P, ()), ())) := by
  by_cases hc : c
  · rw [if_pos hc] at h ⊢; exact spec_Same_L4_of h
  · rw [if_neg hc] at h ⊢; exact spec_Same_L4_of h

@[reducible] def impl_TermSize_S3 (x3 : Int) (t7 : Bool) (x7 : List Term) (x8 : Int) (x9 : Int) : St := ⟨frOf [(3, .int x3), (7, .sl t7 .term x7), (8, .int x8), (9, .int x9)], hpIds []⟩

@[reducible] def impl_TermSize_O3 (x3 : Int) : St := ⟨frOf [(3, .int x3)], hpIds []⟩

noncomputable def impl_TermSize_L3 (n q : Nat) (x3 : Int) (t7 : Bool) (x7 : List Term) (x8 : Int) (x9 : Int) : Option (Ex × (Int × Unit) × Unit) := lpT Tryz.prog cfg RN n 5 98 3 0 q (impl_TermSize_S3 x3 t7 x7 x8 x9)

theorem impl_TermSize_L3_of {n q : Nat} {x3 : Int} {t7 : Bool} {x7 : List Term} {x8 : Int} {x9 : Int} {e : Ex} {x3O : Int} (h : lp Tryz.prog cfg RN n 5 98 3 0 q (impl_TermSize_S3 x3 t7 x7 x8 x9) = some (e, impl_TermSize_O3 x3O)) : impl_TermSize_L3 n q x3 t7 x7 x8 x9 = some (e, (x3O, ()), ()) := by
  unfold impl_TermSize_L3 lpT
  rw [h]
  kernel_rfl

theorem impl_TermSize_L3_if {n q : Nat} {x3 : Int} {t7 : Bool} {x7 : List Term} {x8 : Int} {x9 : Int} {c : Prop} [Decidable c] {e e' : Ex} {x3O : Int} {x3P : Int} (h : lp Tryz.prog cfg RN n 5 98 3 0 q (impl_TermSize_S3 x3 t7 x7 x8 x9) = some (if c then (e, impl_TermSize_O3 x3O) else (e', impl_TermSize_O3 x3P))) : impl_TermSize_L3 n q x3 t7 x7 x8 x9 = some (if c then (e, (x3O, ()), ()) else (e', (x3P, ()), ())) := by
  by_cases hc : c
  · rw [if_pos hc] at h ⊢; exact impl_TermSize_L3_of h
  · rw [if_neg hc] at h ⊢; exact impl_TermSize_L3_of h

@[reducible] def impl_Before_S10 (x4 : Bool) (t56 : Bool) (x56 : List Term) (x57 : Int) (x58 : Int) (y3 : Term) : St := ⟨frOf [(3, .c (.bx (.own 3) 0)), (4, .bool x4), (56, .sl t56 .term x56), (57, .int x57), (58, .int x58)], hpIds [(.own 3, .box ((Term.cells y3).map C.f))]⟩

@[reducible] def impl_Before_O10 (x4 : Bool) : St := ⟨frOf [(4, .bool x4)], hpIds []⟩

noncomputable def impl_Before_L10 (n q : Nat) (x4 : Bool) (t56 : Bool) (x56 : List Term) (x57 : Int) (x58 : Int) (y3 : Term) : Option (Ex × (Bool × Unit) × Unit) := lpT Tryz.prog cfg RN n 5 100 10 0 q (impl_Before_S10 x4 t56 x56 x57 x58 y3)

theorem impl_Before_L10_of {n q : Nat} {x4 : Bool} {t56 : Bool} {x56 : List Term} {x57 : Int} {x58 : Int} {y3 : Term} {e : Ex} {x4O : Bool} (h : lp Tryz.prog cfg RN n 5 100 10 0 q (impl_Before_S10 x4 t56 x56 x57 x58 y3) = some (e, impl_Before_O10 x4O)) : impl_Before_L10 n q x4 t56 x56 x57 x58 y3 = some (e, (x4O, ()), ()) := by
  unfold impl_Before_L10 lpT
  rw [h]
  kernel_rfl

theorem impl_Before_L10_if {n q : Nat} {x4 : Bool} {t56 : Bool} {x56 : List Term} {x57 : Int} {x58 : Int} {y3 : Term} {c : Prop} [Decidable c] {e e' : Ex} {x4O : Bool} {x4P : Bool} (h : lp Tryz.prog cfg RN n 5 100 10 0 q (impl_Before_S10 x4 t56 x56 x57 x58 y3) = some (if c then (e, impl_Before_O10 x4O) else (e', impl_Before_O10 x4P))) : impl_Before_L10 n q x4 t56 x56 x57 x58 y3 = some (if c then (e, (x4O, ()), ()) else (e', (x4P, ()), ())) := by
  by_cases hc : c
  · rw [if_pos hc] at h ⊢; exact impl_Before_L10_of h
  · rw [if_neg hc] at h ⊢; exact impl_Before_L10_of h

@[reducible] def spec_ServerOk_S2 (x2 : Bool) (x3 : Int) (y1 : Server) : St := ⟨frOf [(1, .c (.bx (.own 1) 0)), (2, .bool x2), (3, .int x3)], hpIds [(.own 1, .box ((Server.cells y1).map C.f))]⟩

@[reducible] def spec_ServerOk_O2 (x2 : Bool) (y1 : Server) : St := ⟨frOf [(1, .c (.bx (.own 1) 0)), (2, .bool x2)], hpIds [(.own 1, .box ((Server.cells y1).map C.f))]⟩

noncomputable def spec_ServerOk_L2 (n q : Nat) (x2 : Bool) (x3 : Int) (y1 : Server) : Option (Ex × (Unit × Bool × Unit) × Server × Unit) := lpT Tryz.prog cfg RN n 5 116 2 0 q (spec_ServerOk_S2 x2 x3 y1)

theorem spec_ServerOk_L2_of {n q : Nat} {x2 : Bool} {x3 : Int} {y1 : Server} {e : Ex} {x2O : Bool} {y1O : Server} (h : lp Tryz.prog cfg RN n 5 116 2 0 q (spec_ServerOk_S2 x2 x3 y1) = some (e, spec_ServerOk_O2 x2O y1O)) : spec_ServerOk_L2 n q x2 x3 y1 = some (e, ((), x2O, ()), y1O, ()) := by
  unfold spec_ServerOk_L2 lpT
  rw [h]
  exact Eq.trans (b := some (e, ((), x2O, ()), (⟨y1O.step, y1O.host, y1O.key, y1O.eph, ⟨y1O.cert.op, y1O.cert.n, y1O.cert.s, y1O.cert.kids⟩, ⟨y1O.share.op, y1O.share.n, y1O.share.s, y1O.share.kids⟩, y1O.inn, y1O.out, y1O.tls, y1O.got⟩ : Server), ())) (by kernel_rfl) (by simp only [Term.eta])

theorem spec_ServerOk_L2_if {n q : Nat} {x2 : Bool} {x3 : Int} {y1 : Server} {c : Prop} [Decidable c] {e e' : Ex} {x2O : Bool} {y1O : Server} {x2P : Bool} {y1P : Server} (h : lp Tryz.prog cfg RN n 5 116 2 0 q (spec_ServerOk_S2 x2 x3 y1) = some (if c then (e, spec_ServerOk_O2 x2O y1O) else (e', spec_ServerOk_O2 x2P y1P))) : spec_ServerOk_L2 n q x2 x3 y1 = some (if c then (e, ((), x2O, ()), y1O, ()) else (e', ((), x2P, ()), y1P, ())) := by
  by_cases hc : c
  · rw [if_pos hc] at h ⊢; exact spec_ServerOk_L2_of h
  · rw [if_neg hc] at h ⊢; exact spec_ServerOk_L2_of h

@[reducible] def spec_Before_S10 (x4 : Bool) (x5 : Int) (y2 : Term) (y3 : Term) : St := ⟨frOf [(2, .c (.bx (.own 2) 0)), (3, .c (.bx (.own 3) 0)), (4, .bool x4), (5, .int x5)], hpIds [(.own 2, .box ((Term.cells y2).map C.f)), (.own 3, .box ((Term.cells y3).map C.f))]⟩

@[reducible] def spec_Before_O10 (x4 : Bool) : St := ⟨frOf [(4, .bool x4)], hpIds []⟩

noncomputable def spec_Before_L10 (n q : Nat) (x4 : Bool) (x5 : Int) (y2 : Term) (y3 : Term) : Option (Ex × (Bool × Unit) × Unit) := lpT Tryz.prog cfg RN n 5 129 10 0 q (spec_Before_S10 x4 x5 y2 y3)

theorem spec_Before_L10_of {n q : Nat} {x4 : Bool} {x5 : Int} {y2 : Term} {y3 : Term} {e : Ex} {x4O : Bool} (h : lp Tryz.prog cfg RN n 5 129 10 0 q (spec_Before_S10 x4 x5 y2 y3) = some (e, spec_Before_O10 x4O)) : spec_Before_L10 n q x4 x5 y2 y3 = some (e, (x4O, ()), ()) := by
  unfold spec_Before_L10 lpT
  rw [h]
  kernel_rfl

theorem spec_Before_L10_if {n q : Nat} {x4 : Bool} {x5 : Int} {y2 : Term} {y3 : Term} {c : Prop} [Decidable c] {e e' : Ex} {x4O : Bool} {x4P : Bool} (h : lp Tryz.prog cfg RN n 5 129 10 0 q (spec_Before_S10 x4 x5 y2 y3) = some (if c then (e, spec_Before_O10 x4O) else (e', spec_Before_O10 x4P))) : spec_Before_L10 n q x4 x5 y2 y3 = some (if c then (e, (x4O, ()), ()) else (e', (x4P, ()), ())) := by
  by_cases hc : c
  · rw [if_pos hc] at h ⊢; exact spec_Before_L10_of h
  · rw [if_neg hc] at h ⊢; exact spec_Before_L10_of h

@[reducible] def impl_cloneAll_S3 (x3 : List Term) (t6 : Bool) (x6 : List Term) (x7 : Int) (x8 : Int) : St := ⟨frOf [(3, .c (.row (.own 3) .term)), (6, .sl t6 .term x6), (7, .int x7), (8, .int x8)], hpIds [(.own 3, .row true .term x3)]⟩

@[reducible] def impl_cloneAll_O3 (x3 : List Term) : St := ⟨frOf [(3, .c (.row (.own 3) .term))], hpIds [(.own 3, .row true .term x3)]⟩

noncomputable def impl_cloneAll_L3 (n q : Nat) (x3 : List Term) (t6 : Bool) (x6 : List Term) (x7 : Int) (x8 : Int) : Option (Ex × (Unit × Unit) × List Term × Unit) := lpT Tryz.prog cfg RN n 5 132 3 0 q (impl_cloneAll_S3 x3 t6 x6 x7 x8)

theorem impl_cloneAll_L3_of {n q : Nat} {x3 : List Term} {t6 : Bool} {x6 : List Term} {x7 : Int} {x8 : Int} {e : Ex} {x3O : List Term} (h : lp Tryz.prog cfg RN n 5 132 3 0 q (impl_cloneAll_S3 x3 t6 x6 x7 x8) = some (e, impl_cloneAll_O3 x3O)) : impl_cloneAll_L3 n q x3 t6 x6 x7 x8 = some (e, ((), ()), x3O, ()) := by
  unfold impl_cloneAll_L3 lpT
  rw [h]
  kernel_rfl

theorem impl_cloneAll_L3_if {n q : Nat} {x3 : List Term} {t6 : Bool} {x6 : List Term} {x7 : Int} {x8 : Int} {c : Prop} [Decidable c] {e e' : Ex} {x3O : List Term} {x3P : List Term} (h : lp Tryz.prog cfg RN n 5 132 3 0 q (impl_cloneAll_S3 x3 t6 x6 x7 x8) = some (if c then (e, impl_cloneAll_O3 x3O) else (e', impl_cloneAll_O3 x3P))) : impl_cloneAll_L3 n q x3 t6 x6 x7 x8 = some (if c then (e, ((), ()), x3O, ()) else (e', ((), ()), x3P, ())) := by
  by_cases hc : c
  · rw [if_pos hc] at h ⊢; exact impl_cloneAll_L3_of h
  · rw [if_neg hc] at h ⊢; exact impl_cloneAll_L3_of h

@[reducible] def spec_TermSize_S3 (x3 : Int) (x4 : Int) (y1 : Term) : St := ⟨frOf [(1, .c (.bx (.own 1) 0)), (3, .int x3), (4, .int x4)], hpIds [(.own 1, .box ((Term.cells y1).map C.f))]⟩

@[reducible] def spec_TermSize_O3 (x3 : Int) : St := ⟨frOf [(3, .int x3)], hpIds []⟩

noncomputable def spec_TermSize_L3 (n q : Nat) (x3 : Int) (x4 : Int) (y1 : Term) : Option (Ex × (Int × Unit) × Unit) := lpT Tryz.prog cfg RN n 5 142 3 0 q (spec_TermSize_S3 x3 x4 y1)

theorem spec_TermSize_L3_of {n q : Nat} {x3 : Int} {x4 : Int} {y1 : Term} {e : Ex} {x3O : Int} (h : lp Tryz.prog cfg RN n 5 142 3 0 q (spec_TermSize_S3 x3 x4 y1) = some (e, spec_TermSize_O3 x3O)) : spec_TermSize_L3 n q x3 x4 y1 = some (e, (x3O, ()), ()) := by
  unfold spec_TermSize_L3 lpT
  rw [h]
  kernel_rfl

theorem spec_TermSize_L3_if {n q : Nat} {x3 : Int} {x4 : Int} {y1 : Term} {c : Prop} [Decidable c] {e e' : Ex} {x3O : Int} {x3P : Int} (h : lp Tryz.prog cfg RN n 5 142 3 0 q (spec_TermSize_S3 x3 x4 y1) = some (if c then (e, spec_TermSize_O3 x3O) else (e', spec_TermSize_O3 x3P))) : spec_TermSize_L3 n q x3 x4 y1 = some (if c then (e, (x3O, ()), ()) else (e', (x3P, ()), ())) := by
  by_cases hc : c
  · rw [if_pos hc] at h ⊢; exact spec_TermSize_L3_of h
  · rw [if_neg hc] at h ⊢; exact spec_TermSize_L3_of h

@[reducible] def spec_l1Right_S4 (x2 : Bool) (x3 : Int) (y1 : Term) : St := ⟨frOf [(1, .c (.bx (.own 1) 0)), (2, .bool x2), (3, .int x3)], hpIds [(.own 1, .box ((Term.cells y1).map C.f))]⟩

@[reducible] def spec_l1Right_O4 (x2 : Bool) (y1 : Term) : St := ⟨frOf [(1, .c (.bx (.own 1) 0)), (2, .bool x2)], hpIds [(.own 1, .box ((Term.cells y1).map C.f))]⟩

noncomputable def spec_l1Right_L4 (n q : Nat) (x2 : Bool) (x3 : Int) (y1 : Term) : Option (Ex × (Unit × Bool × Unit) × Term × Unit) := lpT Tryz.prog cfg RN n 5 143 4 0 q (spec_l1Right_S4 x2 x3 y1)

theorem spec_l1Right_L4_of {n q : Nat} {x2 : Bool} {x3 : Int} {y1 : Term} {e : Ex} {x2O : Bool} {y1O : Term} (h : lp Tryz.prog cfg RN n 5 143 4 0 q (spec_l1Right_S4 x2 x3 y1) = some (e, spec_l1Right_O4 x2O y1O)) : spec_l1Right_L4 n q x2 x3 y1 = some (e, ((), x2O, ()), y1O, ()) := by
  unfold spec_l1Right_L4 lpT
  rw [h]
  exact Eq.trans (b := some (e, ((), x2O, ()), (⟨y1O.op, y1O.n, y1O.s, y1O.kids⟩ : Term), ())) (by kernel_rfl) (by simp only [Term.eta])

theorem spec_l1Right_L4_if {n q : Nat} {x2 : Bool} {x3 : Int} {y1 : Term} {c : Prop} [Decidable c] {e e' : Ex} {x2O : Bool} {y1O : Term} {x2P : Bool} {y1P : Term} (h : lp Tryz.prog cfg RN n 5 143 4 0 q (spec_l1Right_S4 x2 x3 y1) = some (if c then (e, spec_l1Right_O4 x2O y1O) else (e', spec_l1Right_O4 x2P y1P))) : spec_l1Right_L4 n q x2 x3 y1 = some (if c then (e, ((), x2O, ()), y1O, ()) else (e', ((), x2P, ()), y1P, ())) := by
  by_cases hc : c
  · rw [if_pos hc] at h ⊢; exact spec_l1Right_L4_of h
  · rw [if_neg hc] at h ⊢; exact spec_l1Right_L4_of h

@[reducible] def spec_l5Labels_S3 (x0 : ByteArray) (x1 : Int) (x4 : Bool) (t5 : Bool) (x5 : List ByteArray) (x6 : Int) : St := ⟨frOf [(0, .str x0), (1, .int x1), (4, .bool x4), (5, .sl t5 .str x5), (6, .int x6)], hpIds []⟩

@[reducible] def spec_l5Labels_O3 (x0 : ByteArray) (x1 : Int) (x4 : Bool) (t5 : Bool) (x5 : List ByteArray) : St := ⟨frOf [(0, .str x0), (1, .int x1), (4, .bool x4), (5, .sl t5 .str x5)], hpIds []⟩

noncomputable def spec_l5Labels_L3 (n q : Nat) (x0 : ByteArray) (x1 : Int) (x4 : Bool) (t5 : Bool) (x5 : List ByteArray) (x6 : Int) : Option (Ex × (ByteArray × Int × Bool × List ByteArray × Unit) × Unit) := lpT Tryz.prog cfg RN n 5 153 3 0 q (spec_l5Labels_S3 x0 x1 x4 t5 x5 x6)

theorem spec_l5Labels_L3_of {n q : Nat} {x0 : ByteArray} {x1 : Int} {x4 : Bool} {t5 : Bool} {x5 : List ByteArray} {x6 : Int} {e : Ex} {x0O : ByteArray} {x1O : Int} {x4O : Bool} {t5O : Bool} {x5O : List ByteArray} (h : lp Tryz.prog cfg RN n 5 153 3 0 q (spec_l5Labels_S3 x0 x1 x4 t5 x5 x6) = some (e, spec_l5Labels_O3 x0O x1O x4O t5O x5O)) : spec_l5Labels_L3 n q x0 x1 x4 t5 x5 x6 = some (e, (x0O, x1O, x4O, x5O, ()), ()) := by
  unfold spec_l5Labels_L3 lpT
  rw [h]
  kernel_rfl

theorem spec_l5Labels_L3_if {n q : Nat} {x0 : ByteArray} {x1 : Int} {x4 : Bool} {t5 : Bool} {x5 : List ByteArray} {x6 : Int} {c : Prop} [Decidable c] {e e' : Ex} {x0O : ByteArray} {x1O : Int} {x4O : Bool} {t5O : Bool} {x5O : List ByteArray} {x0P : ByteArray} {x1P : Int} {x4P : Bool} {t5P : Bool} {x5P : List ByteArray} (h : lp Tryz.prog cfg RN n 5 153 3 0 q (spec_l5Labels_S3 x0 x1 x4 t5 x5 x6) = some (if c then (e, spec_l5Labels_O3 x0O x1O x4O t5O x5O) else (e', spec_l5Labels_O3 x0P x1P x4P t5P x5P))) : spec_l5Labels_L3 n q x0 x1 x4 t5 x5 x6 = some (if c then (e, (x0O, x1O, x4O, x5O, ()), ()) else (e', (x0P, x1P, x4P, x5P, ()), ())) := by
  by_cases hc : c
  · rw [if_pos hc] at h ⊢; exact spec_l5Labels_L3_of h
  · rw [if_neg hc] at h ⊢; exact spec_l5Labels_L3_of h

@[reducible] def spec_l1Digits_S5 (x0 : Int) (x3 : Bool) (x4 : ByteArray) : St := ⟨frOf [(0, .int x0), (3, .bool x3), (4, .str x4)], hpIds []⟩

@[reducible] def spec_l1Digits_O5 (x3 : Bool) (x4 : ByteArray) : St := ⟨frOf [(3, .bool x3), (4, .str x4)], hpIds []⟩

noncomputable def spec_l1Digits_L5 (n q : Nat) (x0 : Int) (x3 : Bool) (x4 : ByteArray) : Option (Ex × (Bool × ByteArray × Unit) × Unit) := lpT Tryz.prog cfg RN n 5 156 5 0 q (spec_l1Digits_S5 x0 x3 x4)

theorem spec_l1Digits_L5_of {n q : Nat} {x0 : Int} {x3 : Bool} {x4 : ByteArray} {e : Ex} {x3O : Bool} {x4O : ByteArray} (h : lp Tryz.prog cfg RN n 5 156 5 0 q (spec_l1Digits_S5 x0 x3 x4) = some (e, spec_l1Digits_O5 x3O x4O)) : spec_l1Digits_L5 n q x0 x3 x4 = some (e, (x3O, x4O, ()), ()) := by
  unfold spec_l1Digits_L5 lpT
  rw [h]
  kernel_rfl

theorem spec_l1Digits_L5_if {n q : Nat} {x0 : Int} {x3 : Bool} {x4 : ByteArray} {c : Prop} [Decidable c] {e e' : Ex} {x3O : Bool} {x4O : ByteArray} {x3P : Bool} {x4P : ByteArray} (h : lp Tryz.prog cfg RN n 5 156 5 0 q (spec_l1Digits_S5 x0 x3 x4) = some (if c then (e, spec_l1Digits_O5 x3O x4O) else (e', spec_l1Digits_O5 x3P x4P))) : spec_l1Digits_L5 n q x0 x3 x4 = some (if c then (e, (x3O, x4O, ()), ()) else (e', (x3P, x4P, ()), ())) := by
  by_cases hc : c
  · rw [if_pos hc] at h ⊢; exact spec_l1Digits_L5_of h
  · rw [if_neg hc] at h ⊢; exact spec_l1Digits_L5_of h

@[reducible] def IndexFunc_formOk_1_S2 (t0 : Bool) (x0 : List Term) (x4 : Int) (x7 : Int) (x8 : Int) : St := ⟨frOf [(0, .sl t0 .term x0), (1, .c (.fn 140 [])), (4, .int x4), (7, .int x7), (8, .int x8)], hpIds []⟩

@[reducible] def IndexFunc_formOk_1_O2 (x4 : Int) : St := ⟨frOf [(4, .int x4)], hpIds []⟩

noncomputable def IndexFunc_formOk_1_L2 (n q : Nat) (t0 : Bool) (x0 : List Term) (x4 : Int) (x7 : Int) (x8 : Int) : Option (Ex × (Int × Unit) × Unit) := lpT Tryz.prog cfg RN n 5 159 2 0 q (IndexFunc_formOk_1_S2 t0 x0 x4 x7 x8)

theorem IndexFunc_formOk_1_L2_of {n q : Nat} {t0 : Bool} {x0 : List Term} {x4 : Int} {x7 : Int} {x8 : Int} {e : Ex} {x4O : Int} (h : lp Tryz.prog cfg RN n 5 159 2 0 q (IndexFunc_formOk_1_S2 t0 x0 x4 x7 x8) = some (e, IndexFunc_formOk_1_O2 x4O)) : IndexFunc_formOk_1_L2 n q t0 x0 x4 x7 x8 = some (e, (x4O, ()), ()) := by
  unfold IndexFunc_formOk_1_L2 lpT
  rw [h]
  kernel_rfl

theorem IndexFunc_formOk_1_L2_if {n q : Nat} {t0 : Bool} {x0 : List Term} {x4 : Int} {x7 : Int} {x8 : Int} {c : Prop} [Decidable c] {e e' : Ex} {x4O : Int} {x4P : Int} (h : lp Tryz.prog cfg RN n 5 159 2 0 q (IndexFunc_formOk_1_S2 t0 x0 x4 x7 x8) = some (if c then (e, IndexFunc_formOk_1_O2 x4O) else (e', IndexFunc_formOk_1_O2 x4P))) : IndexFunc_formOk_1_L2 n q t0 x0 x4 x7 x8 = some (if c then (e, (x4O, ()), ()) else (e', (x4P, ()), ())) := by
  by_cases hc : c
  · rw [if_pos hc] at h ⊢; exact IndexFunc_formOk_1_L2_of h
  · rw [if_neg hc] at h ⊢; exact IndexFunc_formOk_1_L2_of h

@[reducible] def impl_labelOk_S2 (x0 : ByteArray) (x2 : Bool) (x6 : Int) (x7 : Int) : St := ⟨frOf [(0, .str x0), (2, .bool x2), (6, .int x6), (7, .int x7)], hpIds []⟩

@[reducible] def impl_labelOk_O2 (x0 : ByteArray) (x2 : Bool) : St := ⟨frOf [(0, .str x0), (2, .bool x2)], hpIds []⟩

noncomputable def impl_labelOk_L2 (n q : Nat) (x0 : ByteArray) (x2 : Bool) (x6 : Int) (x7 : Int) : Option (Ex × (ByteArray × Bool × Unit) × Unit) := lpT Tryz.prog cfg RN n 5 164 2 0 q (impl_labelOk_S2 x0 x2 x6 x7)

theorem impl_labelOk_L2_of {n q : Nat} {x0 : ByteArray} {x2 : Bool} {x6 : Int} {x7 : Int} {e : Ex} {x0O : ByteArray} {x2O : Bool} (h : lp Tryz.prog cfg RN n 5 164 2 0 q (impl_labelOk_S2 x0 x2 x6 x7) = some (e, impl_labelOk_O2 x0O x2O)) : impl_labelOk_L2 n q x0 x2 x6 x7 = some (e, (x0O, x2O, ()), ()) := by
  unfold impl_labelOk_L2 lpT
  rw [h]
  kernel_rfl

theorem impl_labelOk_L2_if {n q : Nat} {x0 : ByteArray} {x2 : Bool} {x6 : Int} {x7 : Int} {c : Prop} [Decidable c] {e e' : Ex} {x0O : ByteArray} {x2O : Bool} {x0P : ByteArray} {x2P : Bool} (h : lp Tryz.prog cfg RN n 5 164 2 0 q (impl_labelOk_S2 x0 x2 x6 x7) = some (if c then (e, impl_labelOk_O2 x0O x2O) else (e', impl_labelOk_O2 x0P x2P))) : impl_labelOk_L2 n q x0 x2 x6 x7 = some (if c then (e, (x0O, x2O, ()), ()) else (e', (x0P, x2P, ()), ())) := by
  by_cases hc : c
  · rw [if_pos hc] at h ⊢; exact impl_labelOk_L2_of h
  · rw [if_neg hc] at h ⊢; exact impl_labelOk_L2_of h

@[reducible] def IndexFunc_ServerOk_1_S2 (t0 : Bool) (x0 : List Int) (x4 : Int) (x7 : Int) (x8 : Int) : St := ⟨frOf [(0, .sl t0 .int x0), (1, .c (.fn 149 [])), (4, .int x4), (7, .int x7), (8, .int x8)], hpIds []⟩

@[reducible] def IndexFunc_ServerOk_1_O2 (x4 : Int) : St := ⟨frOf [(4, .int x4)], hpIds []⟩

noncomputable def IndexFunc_ServerOk_1_L2 (n q : Nat) (t0 : Bool) (x0 : List Int) (x4 : Int) (x7 : Int) (x8 : Int) : Option (Ex × (Int × Unit) × Unit) := lpT Tryz.prog cfg RN n 5 165 2 0 q (IndexFunc_ServerOk_1_S2 t0 x0 x4 x7 x8)

theorem IndexFunc_ServerOk_1_L2_of {n q : Nat} {t0 : Bool} {x0 : List Int} {x4 : Int} {x7 : Int} {x8 : Int} {e : Ex} {x4O : Int} (h : lp Tryz.prog cfg RN n 5 165 2 0 q (IndexFunc_ServerOk_1_S2 t0 x0 x4 x7 x8) = some (e, IndexFunc_ServerOk_1_O2 x4O)) : IndexFunc_ServerOk_1_L2 n q t0 x0 x4 x7 x8 = some (e, (x4O, ()), ()) := by
  unfold IndexFunc_ServerOk_1_L2 lpT
  rw [h]
  kernel_rfl

theorem IndexFunc_ServerOk_1_L2_if {n q : Nat} {t0 : Bool} {x0 : List Int} {x4 : Int} {x7 : Int} {x8 : Int} {c : Prop} [Decidable c] {e e' : Ex} {x4O : Int} {x4P : Int} (h : lp Tryz.prog cfg RN n 5 165 2 0 q (IndexFunc_ServerOk_1_S2 t0 x0 x4 x7 x8) = some (if c then (e, IndexFunc_ServerOk_1_O2 x4O) else (e', IndexFunc_ServerOk_1_O2 x4P))) : IndexFunc_ServerOk_1_L2 n q t0 x0 x4 x7 x8 = some (if c then (e, (x4O, ()), ()) else (e', (x4P, ()), ())) := by
  by_cases hc : c
  · rw [if_pos hc] at h ⊢; exact IndexFunc_ServerOk_1_L2_of h
  · rw [if_neg hc] at h ⊢; exact IndexFunc_ServerOk_1_L2_of h

@[reducible] def spec_Labels_S4 (x0 : ByteArray) (x3 : List ByteArray) (x4 : Int) (x5 : Int) : St := ⟨frOf [(0, .str x0), (3, .c (.row (.own 3) .str)), (4, .int x4), (5, .int x5)], hpIds [(.own 3, .row true .str x3)]⟩

@[reducible] def spec_Labels_O4 (x3 : List ByteArray) : St := ⟨frOf [(3, .c (.row (.own 3) .str))], hpIds [(.own 3, .row true .str x3)]⟩

noncomputable def spec_Labels_L4 (n q : Nat) (x0 : ByteArray) (x3 : List ByteArray) (x4 : Int) (x5 : Int) : Option (Ex × (Unit × Unit) × List ByteArray × Unit) := lpT Tryz.prog cfg RN n 5 167 4 0 q (spec_Labels_S4 x0 x3 x4 x5)

theorem spec_Labels_L4_of {n q : Nat} {x0 : ByteArray} {x3 : List ByteArray} {x4 : Int} {x5 : Int} {e : Ex} {x3O : List ByteArray} (h : lp Tryz.prog cfg RN n 5 167 4 0 q (spec_Labels_S4 x0 x3 x4 x5) = some (e, spec_Labels_O4 x3O)) : spec_Labels_L4 n q x0 x3 x4 x5 = some (e, ((), ()), x3O, ()) := by
  unfold spec_Labels_L4 lpT
  rw [h]
  kernel_rfl

theorem spec_Labels_L4_if {n q : Nat} {x0 : ByteArray} {x3 : List ByteArray} {x4 : Int} {x5 : Int} {c : Prop} [Decidable c] {e e' : Ex} {x3O : List ByteArray} {x3P : List ByteArray} (h : lp Tryz.prog cfg RN n 5 167 4 0 q (spec_Labels_S4 x0 x3 x4 x5) = some (if c then (e, spec_Labels_O4 x3O) else (e', spec_Labels_O4 x3P))) : spec_Labels_L4 n q x0 x3 x4 x5 = some (if c then (e, ((), ()), x3O, ()) else (e', ((), ()), x3P, ())) := by
  by_cases hc : c
  · rw [if_pos hc] at h ⊢; exact spec_Labels_L4_of h
  · rw [if_neg hc] at h ⊢; exact spec_Labels_L4_of h

@[reducible] def spec_l5Label_S2 (x0 : ByteArray) (x2 : Bool) (x3 : Int) : St := ⟨frOf [(0, .str x0), (2, .bool x2), (3, .int x3)], hpIds []⟩

@[reducible] def spec_l5Label_O2 (x0 : ByteArray) (x2 : Bool) : St := ⟨frOf [(0, .str x0), (2, .bool x2)], hpIds []⟩

noncomputable def spec_l5Label_L2 (n q : Nat) (x0 : ByteArray) (x2 : Bool) (x3 : Int) : Option (Ex × (ByteArray × Bool × Unit) × Unit) := lpT Tryz.prog cfg RN n 5 168 2 0 q (spec_l5Label_S2 x0 x2 x3)

theorem spec_l5Label_L2_of {n q : Nat} {x0 : ByteArray} {x2 : Bool} {x3 : Int} {e : Ex} {x0O : ByteArray} {x2O : Bool} (h : lp Tryz.prog cfg RN n 5 168 2 0 q (spec_l5Label_S2 x0 x2 x3) = some (e, spec_l5Label_O2 x0O x2O)) : spec_l5Label_L2 n q x0 x2 x3 = some (e, (x0O, x2O, ()), ()) := by
  unfold spec_l5Label_L2 lpT
  rw [h]
  kernel_rfl

theorem spec_l5Label_L2_if {n q : Nat} {x0 : ByteArray} {x2 : Bool} {x3 : Int} {c : Prop} [Decidable c] {e e' : Ex} {x0O : ByteArray} {x2O : Bool} {x0P : ByteArray} {x2P : Bool} (h : lp Tryz.prog cfg RN n 5 168 2 0 q (spec_l5Label_S2 x0 x2 x3) = some (if c then (e, spec_l5Label_O2 x0O x2O) else (e', spec_l5Label_O2 x0P x2P))) : spec_l5Label_L2 n q x0 x2 x3 = some (if c then (e, (x0O, x2O, ()), ()) else (e', (x0P, x2P, ()), ())) := by
  by_cases hc : c
  · rw [if_pos hc] at h ⊢; exact spec_l5Label_L2_of h
  · rw [if_neg hc] at h ⊢; exact spec_l5Label_L2_of h

@[reducible] def IndexFunc_labelsOk_1_S2 (t0 : Bool) (x0 : List ByteArray) (x4 : Int) (x7 : Int) (x8 : Int) : St := ⟨frOf [(0, .sl t0 .str x0), (1, .c (.fn 163 [])), (4, .int x4), (7, .int x7), (8, .int x8)], hpIds []⟩

@[reducible] def IndexFunc_labelsOk_1_O2 (x4 : Int) : St := ⟨frOf [(4, .int x4)], hpIds []⟩

noncomputable def IndexFunc_labelsOk_1_L2 (n q : Nat) (t0 : Bool) (x0 : List ByteArray) (x4 : Int) (x7 : Int) (x8 : Int) : Option (Ex × (Int × Unit) × Unit) := lpT Tryz.prog cfg RN n 5 176 2 0 q (IndexFunc_labelsOk_1_S2 t0 x0 x4 x7 x8)

theorem IndexFunc_labelsOk_1_L2_of {n q : Nat} {t0 : Bool} {x0 : List ByteArray} {x4 : Int} {x7 : Int} {x8 : Int} {e : Ex} {x4O : Int} (h : lp Tryz.prog cfg RN n 5 176 2 0 q (IndexFunc_labelsOk_1_S2 t0 x0 x4 x7 x8) = some (e, IndexFunc_labelsOk_1_O2 x4O)) : IndexFunc_labelsOk_1_L2 n q t0 x0 x4 x7 x8 = some (e, (x4O, ()), ()) := by
  unfold IndexFunc_labelsOk_1_L2 lpT
  rw [h]
  kernel_rfl

theorem IndexFunc_labelsOk_1_L2_if {n q : Nat} {t0 : Bool} {x0 : List ByteArray} {x4 : Int} {x7 : Int} {x8 : Int} {c : Prop} [Decidable c] {e e' : Ex} {x4O : Int} {x4P : Int} (h : lp Tryz.prog cfg RN n 5 176 2 0 q (IndexFunc_labelsOk_1_S2 t0 x0 x4 x7 x8) = some (if c then (e, IndexFunc_labelsOk_1_O2 x4O) else (e', IndexFunc_labelsOk_1_O2 x4P))) : IndexFunc_labelsOk_1_L2 n q t0 x0 x4 x7 x8 = some (if c then (e, (x4O, ()), ()) else (e', (x4P, ()), ())) := by
  by_cases hc : c
  · rw [if_pos hc] at h ⊢; exact IndexFunc_labelsOk_1_L2_of h
  · rw [if_neg hc] at h ⊢; exact IndexFunc_labelsOk_1_L2_of h

end Go.Proofs.YtgegmojoakkohaaGreatDoor
