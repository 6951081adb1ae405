/-
  Arguments that are certificates, clients, servers, worlds, read.
-/
import Derived.Test.YtepghohkfnmhmaaDoorVmRead
namespace Go.Vm
open Go.ChangeShapes
set_option linter.unusedVariables false
set_option linter.unusedSimpArgs false

section
variable {H : Type} {enc : TypeId × Value → H} {P : Program} {W : World} {sp : Nat → Bool} {held : Bool} {ks : List (TypeId × Kind)}

def certLeaves : List Leaf := [.str, .int, .int, .str, .sl .term, .int]

theorem rd_cert {h : Hp} {loc : Loc} (hks : ksOk P ks ks = true) {b0 : Nat} {t : TypeId} {v : Value} {d : DataW H} {ps : List MemPlace} (hs : isStrT P t = true)
    (hf : flatTy P ks 6 t = some certLeaves) (hv : Value.okWide P W .any b0 t v) (hd : DataW.Trod enc P W 0 sp held t v d ps) : ∃ x : Cert, VW W NoM h loc v (.ag (Cert.cells x)) ∧ ∃ n, ∀ f ∈ Cert.cells x, BdF n f := by
  obtain ⟨fs, q, h2, n, hbd⟩ := rd_agg (h := h) (loc := loc) hks hs hf hv hd
  obtain ⟨f0, r0, rfl, q0, q⟩ := q.cons
  obtain ⟨f1, r1, rfl, q1, q⟩ := q.cons
  obtain ⟨f2, r2, rfl, q2, q⟩ := q.cons
  obtain ⟨f3, r3, rfl, q3, q⟩ := q.cons
  obtain ⟨f4, r4, rfl, q4, q⟩ := q.cons
  obtain ⟨f5, r5, rfl, q5, q⟩ := q.cons
  obtain rfl := q.nil
  obtain ⟨v0, rfl⟩ := q0
  obtain ⟨v1, rfl⟩ := q1
  obtain ⟨v2, rfl⟩ := q2
  obtain ⟨v3, rfl⟩ := q3
  obtain ⟨t4, v4, rfl⟩ := q4
  obtain ⟨v5, rfl⟩ := q5
  have hw : Wk [.str v0, .int v1, .int v2, .str v3, .sl t4 .term v4, .int v5] (Cert.cells ⟨v0, ⟨v1, v2, v3, v4⟩, v5⟩) := by simp [Wk, Cert.cells]
  exact ⟨_, h2.ofWk hw, n, hw.bd hbd⟩

def clientLeaves : List Leaf := [.int, .str, .bool, .int, .int, .int, .int, .str, .sl .term, .int, .int, .bool, .bool]

theorem rd_client {h : Hp} {loc : Loc} (hks : ksOk P ks ks = true) {b0 : Nat} {t : TypeId} {v : Value} {d : DataW H} {ps : List MemPlace} (hs : isStrT P t = true)
    (hf : flatTy P ks 6 t = some clientLeaves) (hv : Value.okWide P W .any b0 t v) (hd : DataW.Trod enc P W 0 sp held t v d ps) : ∃ x : Client, VW W NoM h loc v (.ag (Client.cells x)) ∧ ∃ n, ∀ f ∈ Client.cells x, BdF n f := by
  obtain ⟨fs, q, h2, n, hbd⟩ := rd_agg (h := h) (loc := loc) hks hs hf hv hd
  obtain ⟨f0, r0, rfl, q0, q⟩ := q.cons
  obtain ⟨f1, r1, rfl, q1, q⟩ := q.cons
  obtain ⟨f2, r2, rfl, q2, q⟩ := q.cons
  obtain ⟨f3, r3, rfl, q3, q⟩ := q.cons
  obtain ⟨f4, r4, rfl, q4, q⟩ := q.cons
  obtain ⟨f5, r5, rfl, q5, q⟩ := q.cons
  obtain ⟨f6, r6, rfl, q6, q⟩ := q.cons
  obtain ⟨f7, r7, rfl, q7, q⟩ := q.cons
  obtain ⟨f8, r8, rfl, q8, q⟩ := q.cons
  obtain ⟨f9, r9, rfl, q9, q⟩ := q.cons
  obtain ⟨f10, r10, rfl, q10, q⟩ := q.cons
  obtain ⟨f11, r11, rfl, q11, q⟩ := q.cons
  obtain ⟨f12, r12, rfl, q12, q⟩ := q.cons
  obtain rfl := q.nil
  obtain ⟨v0, rfl⟩ := q0
  obtain ⟨v1, rfl⟩ := q1
  obtain ⟨v2, rfl⟩ := q2
  obtain ⟨v3, rfl⟩ := q3
  obtain ⟨v4, rfl⟩ := q4
  obtain ⟨v5, rfl⟩ := q5
  obtain ⟨v6, rfl⟩ := q6
  obtain ⟨v7, rfl⟩ := q7
  obtain ⟨t8, v8, rfl⟩ := q8
  obtain ⟨v9, rfl⟩ := q9
  obtain ⟨v10, rfl⟩ := q10
  obtain ⟨v11, rfl⟩ := q11
  obtain ⟨v12, rfl⟩ := q12
  have hw : Wk [.int v0, .str v1, .bool v2, .int v3, .int v4, .int v5, .int v6, .str v7, .sl t8 .term v8, .int v9, .int v10, .bool v11, .bool v12] (Client.cells ⟨v0, v1, v2, v3, v4, ⟨v5, v6, v7, v8⟩, v9, v10, v11, v12⟩) := by simp [Wk, Client.cells]
  exact ⟨_, h2.ofWk hw, n, hw.bd hbd⟩

def serverLeaves : List Leaf := [.int, .str, .int, .int, .int, .int, .str, .sl .term, .int, .int, .str, .sl .term, .int, .int, .bool, .sl .int]

theorem rd_server {h : Hp} {loc : Loc} (hks : ksOk P ks ks = true) {b0 : Nat} {t : TypeId} {v : Value} {d : DataW H} {ps : List MemPlace} (hs : isStrT P t = true)
    (hf : flatTy P ks 6 t = some serverLeaves) (hv : Value.okWide P W .any b0 t v) (hd : DataW.Trod enc P W 0 sp held t v d ps) : ∃ x : Server, VW W NoM h loc v (.ag (Server.cells x)) ∧ ∃ n, ∀ f ∈ Server.cells x, BdF n f := by
  obtain ⟨fs, q, h2, n, hbd⟩ := rd_agg (h := h) (loc := loc) hks hs hf hv hd
  obtain ⟨f0, r0, rfl, q0, q⟩ := q.cons
  obtain ⟨f1, r1, rfl, q1, q⟩ := q.cons
  obtain ⟨f2, r2, rfl, q2, q⟩ := q.cons
  obtain ⟨f3, r3, rfl, q3, q⟩ := q.cons
  obtain ⟨f4, r4, rfl, q4, q⟩ := q.cons
  obtain ⟨f5, r5, rfl, q5, q⟩ := q.cons
  obtain ⟨f6, r6, rfl, q6, q⟩ := q.cons
  obtain ⟨f7, r7, rfl, q7, q⟩ := q.cons
  obtain ⟨f8, r8, rfl, q8, q⟩ := q.cons
  obtain ⟨f9, r9, rfl, q9, q⟩ := q.cons
  obtain ⟨f10, r10, rfl, q10, q⟩ := q.cons
  obtain ⟨f11, r11, rfl, q11, q⟩ := q.cons
  obtain ⟨f12, r12, rfl, q12, q⟩ := q.cons
  obtain ⟨f13, r13, rfl, q13, q⟩ := q.cons
  obtain ⟨f14, r14, rfl, q14, q⟩ := q.cons
  obtain ⟨f15, r15, rfl, q15, q⟩ := q.cons
  obtain rfl := q.nil
  obtain ⟨v0, rfl⟩ := q0
  obtain ⟨v1, rfl⟩ := q1
  obtain ⟨v2, rfl⟩ := q2
  obtain ⟨v3, rfl⟩ := q3
  obtain ⟨v4, rfl⟩ := q4
  obtain ⟨v5, rfl⟩ := q5
  obtain ⟨v6, rfl⟩ := q6
  obtain ⟨t7, v7, rfl⟩ := q7
  obtain ⟨v8, rfl⟩ := q8
  obtain ⟨v9, rfl⟩ := q9
  obtain ⟨v10, rfl⟩ := q10
  obtain ⟨t11, v11, rfl⟩ := q11
  obtain ⟨v12, rfl⟩ := q12
  obtain ⟨v13, rfl⟩ := q13
  obtain ⟨v14, rfl⟩ := q14
  obtain ⟨t15, v15, rfl⟩ := q15
  have hw : Wk [.int v0, .str v1, .int v2, .int v3, .int v4, .int v5, .str v6, .sl t7 .term v7, .int v8, .int v9, .str v10, .sl t11 .term v11, .int v12, .int v13, .bool v14, .sl t15 .int v15] (Server.cells ⟨v0, v1, v2, v3, ⟨v4, v5, v6, v7⟩, ⟨v8, v9, v10, v11⟩, v12, v13, v14, v15⟩) := by simp [Wk, Server.cells]
  exact ⟨_, h2.ofWk hw, n, hw.bd hbd⟩

def worldLeaves : List Leaf := [.int, .int, .sl .term, .sl .policy, .sl .host, .sl .letter, .str, .int, .sl .call, .sl .talk, .sl .int]

theorem rd_world {h : Hp} {loc : Loc} (hks : ksOk P ks ks = true) {b0 : Nat} {t : TypeId} {v : Value} {d : DataW H} {ps : List MemPlace} (hs : isStrT P t = true)
    (hf : flatTy P ks 6 t = some worldLeaves) (hv : Value.okWide P W .any b0 t v) (hd : DataW.Trod enc P W 0 sp held t v d ps) : ∃ x : WorldD, VW W NoM h loc v (.ag (WorldD.cells x)) ∧ ∃ n, ∀ f ∈ WorldD.cells x, BdF n f := by
  obtain ⟨fs, q, h2, n, hbd⟩ := rd_agg (h := h) (loc := loc) hks hs hf hv hd
  obtain ⟨f0, r0, rfl, q0, q⟩ := q.cons
  obtain ⟨f1, r1, rfl, q1, q⟩ := q.cons
  obtain ⟨f2, r2, rfl, q2, q⟩ := q.cons
  obtain ⟨f3, r3, rfl, q3, q⟩ := q.cons
  obtain ⟨f4, r4, rfl, q4, q⟩ := q.cons
  obtain ⟨f5, r5, rfl, q5, q⟩ := q.cons
  obtain ⟨f6, r6, rfl, q6, q⟩ := q.cons
  obtain ⟨f7, r7, rfl, q7, q⟩ := q.cons
  obtain ⟨f8, r8, rfl, q8, q⟩ := q.cons
  obtain ⟨f9, r9, rfl, q9, q⟩ := q.cons
  obtain ⟨f10, r10, rfl, q10, q⟩ := q.cons
  obtain rfl := q.nil
  obtain ⟨v0, rfl⟩ := q0
  obtain ⟨v1, rfl⟩ := q1
  obtain ⟨t2, v2, rfl⟩ := q2
  obtain ⟨t3, v3, rfl⟩ := q3
  obtain ⟨t4, v4, rfl⟩ := q4
  obtain ⟨t5, v5, rfl⟩ := q5
  obtain ⟨v6, rfl⟩ := q6
  obtain ⟨v7, rfl⟩ := q7
  obtain ⟨t8, v8, rfl⟩ := q8
  obtain ⟨t9, v9, rfl⟩ := q9
  obtain ⟨t10, v10, rfl⟩ := q10
  have hw : Wk [.int v0, .int v1, .sl t2 .term v2, .sl t3 .policy v3, .sl t4 .host v4, .sl t5 .letter v5, .str v6, .int v7, .sl t8 .call v8, .sl t9 .talk v9, .sl t10 .int v10] (WorldD.cells ⟨v0, v1, v2, v3, v4, v5, v6, v7, v8, v9, v10⟩) := by simp [Wk, WorldD.cells]
  exact ⟨_, h2.ofWk hw, n, hw.bd hbd⟩

end
end Go.Vm
