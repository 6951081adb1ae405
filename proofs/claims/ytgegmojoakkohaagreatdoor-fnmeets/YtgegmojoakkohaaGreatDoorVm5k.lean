/-
  The machine, each step handing on, answers what the machine answers.
-/
import Derived.Test.YtgegmojoakkohaaGreatDoorVm5
namespace Go.Vm
set_option linter.unusedVariables false
set_option linter.unusedSimpArgs false

section
variable {α : Type} {P : Program} {cfg : Cfg} {T Ti : CallSem} {IK : CallK α} {me nt na : Nat} {fr : Fr} {h hr : Hp} {x : α}

theorem qb_some {β : Type} {o : Option β} {f : β → Option α} (hq : qb o f = some x) : ∃ a, o = some a ∧ f a = some x := by
  cases o with
  | none => cases hq
  | some a => exact ⟨a, rfl, hq⟩

theorem bind_some {β : Type} {o : Option β} {f : β → Option α} (hq : o.bind f = some x) : ∃ a, o = some a ∧ f a = some x := Option.bind_eq_some_iff.1 hq

theorem br_some {b : Bool} {p q : Option α} (hb : br b p q = some x) : (b = true ∧ p = some x) ∨ (b = false ∧ q = some x) := by
  cases b
  · exact .inr ⟨rfl, hb⟩
  · exact .inl ⟨rfl, hb⟩

theorem forceC_some {c : C} {k : C → Option α} (hf : forceC c k = some x) : k c = some x := by
  unfold forceC at hf
  split at hf <;> exact hf

theorem forceCs_some : ∀ {cs : List C} {k : List C → Option α}, forceCs cs k = some x → k cs = some x
  | [], k, hf => hf
  | c :: cs, k, hf => forceCs_some (k := fun cs' => k (c :: cs')) (forceC_some (k := fun c' => forceCs cs fun cs' => k (c' :: cs')) hf)

theorem forceV_some {v : V} {k : V → Option α} (hf : forceV v k = some x) : k v = some x := by
  cases v with
  | c y => exact forceC_some (k := fun x' => k (.c x')) hf
  | agg cs => exact forceCs_some (k := fun cs' => k (.agg cs')) hf
  | tup vs => exact hf

theorem forceO_some {o : Obj} {k : Obj → Option α} (hf : forceO o k = some x) : k o = some x := by
  cases o with
  | box cs => exact forceCs_some (k := fun cs' => k (.box cs')) hf
  | row w kd l => exact hf
  | dead => exact hf

theorem gC_eq (v : V) : gC v = unC v := by cases v <;> rfl
theorem gBool_eq (c : C) : gBool c = fBool c := rfl
theorem gInt_eq (c : C) : gInt c = fInt c := rfl
theorem gU8_eq (c : C) : gU8 c = fU8 c := rfl
theorem gStr_eq (c : C) : gStr c = fStr c := rfl
theorem gSl_eq (kd : Kind) (c : C) : gSl kd c = fSl kd c := rfl
theorem gBx_eq (id : Id) (off : Nat) (c : C) : gBx id off c = fBx id off c := rfl
theorem gRow_eq (id : Id) (kd : Kind) (c : C) : gRow id kd c = fRow id kd c := rfl
theorem gTt_eq (v : V) : gTt v = asTt v := rfl
theorem gErr_eq (c : C) : gErr c = fErr c := rfl
theorem gTup_eq (n : Nat) (v : V) : gTup n v = fTup n v := rfl
theorem gPart_eq (v : V) (j : Nat) : gPart v j = Go.Vm.part v j := rfl
theorem gEl_eq (kd : Kind) (v : V) : gEl kd v = asEl kd v := rfl
theorem gCert_eq (v : V) : gCert v = asCert v := rfl
theorem gClient_eq (v : V) : gClient v = asClient v := rfl
theorem gServer_eq (v : V) : gServer v = asServer v := rfl
theorem gWorld_eq (v : V) : gWorld v = asWorld v := rfl
theorem gBox_eq (o : Obj) : gBox o = asBox o := rfl
theorem gRowO_eq (wr : Bool) (kd : Kind) (o : Obj) : gRowO wr kd o = asRow wr kd o := rfl

mutual
/-- What is read as plain data is what is taken for it. -/
theorem dec_cast : ∀ (s : Sh) {v : V} {y : ShTy s}, dec s v = some y → cast v s = some (enc s y)
  | .raw, v, y, hd => by simp [dec] at hd; subst hd; simp [cast, enc]
  | .bool, v, y, hd => by simp only [dec, gC_eq] at hd; obtain ⟨c, h1, h2⟩ := bind_some hd; rw [gBool_eq] at h2; simp [cast, enc, h1, h2]
  | .int, v, y, hd => by simp only [dec, gC_eq] at hd; obtain ⟨c, h1, h2⟩ := bind_some hd; rw [gInt_eq] at h2; simp [cast, enc, h1, h2]
  | .u8, v, y, hd => by simp only [dec, gC_eq] at hd; obtain ⟨c, h1, h2⟩ := bind_some hd; rw [gU8_eq] at h2; simp [cast, enc, h1, h2]
  | .str, v, y, hd => by simp only [dec, gC_eq] at hd; obtain ⟨c, h1, h2⟩ := bind_some hd; rw [gStr_eq] at h2; simp [cast, enc, h1, h2]
  | .sl kd, v, y, hd => by simp only [dec, gC_eq] at hd; obtain ⟨c, h1, h2⟩ := bind_some hd; rw [gSl_eq] at h2; simp [cast, enc, h1, h2]
  | .el kd, v, y, hd => by simp only [dec, gEl_eq] at hd; simp [cast, enc, hd]
  | .cert, v, y, hd => by simp only [dec, gCert_eq] at hd; simp [cast, enc, hd]
  | .client, v, y, hd => by simp only [dec, gClient_eq] at hd; simp [cast, enc, hd]
  | .server, v, y, hd => by simp only [dec, gServer_eq] at hd; simp [cast, enc, hd]
  | .world, v, y, hd => by simp only [dec, gWorld_eq] at hd; simp [cast, enc, hd]
  | .tt, v, y, hd => by simp only [dec, gTt_eq] at hd; simp [cast, enc, hd]
  | .tup l, v, y, hd => by
    simp only [dec, gTup_eq] at hd
    obtain ⟨u, h1, h2⟩ := bind_some hd
    have h3 := decs_casts l h2
    simp [cast, enc, h1, h3]
  | .bx id off, v, y, hd => by simp only [dec, gC_eq] at hd; obtain ⟨c, h1, h2⟩ := bind_some hd; rw [gBx_eq] at h2; simp [cast, enc, h1, h2]
  | .row id kd, v, y, hd => by simp only [dec, gC_eq] at hd; obtain ⟨c, h1, h2⟩ := bind_some hd; rw [gRow_eq] at h2; simp [cast, enc, h1, h2]
  | .err, v, y, hd => by simp only [dec, gC_eq] at hd; obtain ⟨c, h1, h2⟩ := bind_some hd; rw [gErr_eq] at h2; simp [cast, enc, h1, h2]
theorem decs_casts : ∀ (l : List Sh) {v : V} {j : Nat} {y : ShTys l}, decs l v j = some y → casts v j l = some (encs l y)
  | [], v, j, y, hd => by simp [casts, encs]
  | s :: l, v, j, y, hd => by
    simp only [decs, gPart_eq] at hd
    obtain ⟨a, h1, hd⟩ := bind_some hd
    obtain ⟨b, h2, hd⟩ := bind_some hd
    obtain ⟨c, h3, hd⟩ := bind_some hd
    simp at hd; subst hd
    have h4 := dec_cast s h2
    have h5 := decs_casts l h3
    simp [casts, encs, h1, h4, h5]
end

mutual
theorem encK_some : ∀ (s : Sh) {y : ShTy s} {k : V → Option α}, encK s y k = some x → k (enc s y) = some x
  | .err, b, k, hk => by
    unfold encK at hk
    rcases br_some hk with ⟨rfl, h2⟩ | ⟨rfl, h2⟩ <;> exact h2
  | .tup l, y, k, hk => by
    unfold encK at hk
    have := encsK_some l hk
    unfold enc
    exact this
  | .raw, y, k, hk => by unfold encK at hk; exact hk
  | .bool, y, k, hk => by unfold encK at hk; exact hk
  | .int, y, k, hk => by unfold encK at hk; exact hk
  | .u8, y, k, hk => by unfold encK at hk; exact hk
  | .str, y, k, hk => by unfold encK at hk; exact hk
  | .sl kd, y, k, hk => by unfold encK at hk; exact hk
  | .el kd, y, k, hk => by unfold encK at hk; exact hk
  | .cert, y, k, hk => by unfold encK at hk; exact hk
  | .client, y, k, hk => by unfold encK at hk; exact hk
  | .server, y, k, hk => by unfold encK at hk; exact hk
  | .world, y, k, hk => by unfold encK at hk; exact hk
  | .tt, y, k, hk => by unfold encK at hk; exact hk
  | .bx id off, y, k, hk => by unfold encK at hk; exact hk
  | .row id kd, y, k, hk => by unfold encK at hk; exact hk
theorem encsK_some : ∀ (l : List Sh) {y : ShTys l} {k : List V → Option α}, encsK l y k = some x → k (encs l y) = some x
  | [], y, k, hk => by unfold encsK at hk; exact hk
  | s :: l, y, k, hk => by
    unfold encsK at hk
    have h1 := encK_some s hk
    have h2 := encsK_some l h1
    unfold encs
    exact h2
end

theorem decC_cast {o n : C} {y : CTy o} (hd : decC o n = some y) : castC o n = some (encC o y) := by
  unfold decC at hd
  split at hd
  · rw [gBool_eq] at hd; simp [castC, encC, hd]
  · rw [gInt_eq] at hd; simp [castC, encC, hd]
  · rw [gStr_eq] at hd; simp [castC, encC, hd]
  · rw [gSl_eq] at hd; simp [castC, encC, hd]
  · rename_i id kd
    rw [gRow_eq] at hd
    unfold fRow at hd
    split at hd
    · rename_i id' kd'
      cases hc : Id.beq id' id && decide (kd' = kd) with
      | false => rw [hc] at hd; cases hd
      | true =>
        simp only [Bool.and_eq_true, decide_eq_true_eq] at hc
        have := Id.beq_true.1 hc.1
        simp [castC, encC, this, hc.2]
    · cases hd
  · cases hd

theorem isNil_iff {β : Type} {l : List β} (h : isNil l = true) : l = [] := by
  cases l with
  | nil => rfl
  | cons => cases h

theorem head_len {β : Type} {l : List β} {n : β} (h : l.head? = some n) : l.length = l.tail.length + 1 := by
  cases l with
  | nil => cases h
  | cons => simp

theorem decCs_cast : ∀ {os ns : List C} {y : CTys os}, decCs os ns = some y → ns.length = os.length ∧ castCs os ns = some (encCs os y)
  | [], [], y, hd => ⟨rfl, by simp [castCs, encCs]⟩
  | [], _ :: _, y, hd => by cases hd
  | o :: os, [], y, hd => by cases hd
  | o :: os, n :: ns, y, hd => by
    simp only [decCs] at hd
    obtain ⟨a, h1, hd⟩ := bind_some hd
    obtain ⟨b, h2, hd⟩ := bind_some hd
    simp at hd; subst hd
    obtain ⟨hl, h3⟩ := decCs_cast h2
    have h4 := decC_cast h1
    exact ⟨by simp [hl], by simp [castCs, encCs, h3, h4]⟩

theorem decOb_cast {o n : Obj} {y : ObTy o} (hd : decOb o n = some y) : castO o n = some (encOb o y) := by
  cases o with
  | box cs =>
    simp only [decOb, gBox_eq] at hd
    obtain ⟨ds, h1, h2⟩ := bind_some hd
    obtain ⟨hl, h3⟩ := decCs_cast h2
    have h5 : Nat.beq ds.length cs.length = true := by rw [hl]; simp
    simp only [castO, encOb, h1, Option.bind_some, h3, h5, cond_true]
  | row w kd l =>
    simp only [decOb, gRowO_eq] at hd
    simp [castO, encOb, hd]
  | dead =>
    simp only [decOb] at hd
    split at hd
    · rfl
    · cases hd

theorem decObs_cast : ∀ {os ns : List Obj} {y : ObTys os}, decObs os ns = some y → ns.length = os.length ∧ castOs os ns = some (encObs os y)
  | [], [], y, hd => ⟨rfl, by simp [castOs, encObs]⟩
  | [], _ :: _, y, hd => by cases hd
  | o :: os, [], y, hd => by cases hd
  | o :: os, n :: ns, y, hd => by
    simp only [decObs] at hd
    obtain ⟨a, h1, hd⟩ := bind_some hd
    obtain ⟨b, h2, hd⟩ := bind_some hd
    simp at hd; subst hd
    obtain ⟨hl, h3⟩ := decObs_cast h2
    have h4 := decOb_cast h1
    exact ⟨by simp [hl], by simp [castOs, encObs, h3, h4]⟩

/-! ### Calls -/

def KOK (IK : CallK α) (Ti : CallSem) : Prop := ∀ f args objs k x, IK f args objs k = some x → ∃ r, Ti f args objs = some r ∧ k r.1 r.2.1 r.2.2 = some x

theorem pcallK_some {f : FuncId} {args : List V} {sh : Sh} {k : V → Option α} (hk : pcallK T h f args sh k = some x) : ∃ v, pcall T h f args sh = some v ∧ k v = some x := by
  unfold pcallK at hk
  obtain ⟨as, h1, h2⟩ := bind_some hk
  obtain ⟨y, h3, h4⟩ := qb_some h2
  unfold presT at h3
  obtain ⟨v, h3, h5⟩ := bind_some h3
  have h5 := dec_cast sh h5
  have h4 := encK_some sh h4
  cases hc : noRefs args || flatV (enc sh y) with
  | false => rw [hc] at h4; cases h4
  | true =>
    rw [hc] at h4
    exact ⟨enc sh y, by simp [pcall, h1, h3, h5, hc], h4⟩

theorem hqT_some {f : FuncId} {args : List V} {os : List Obj} {sh : Sh} {y : ShTy sh × ObTys os} (hq' : hqT T f args os sh = some y) : ∃ r, frzT T f args os = some r ∧ isNil r.2.2 = true ∧ cast r.1 sh = some (enc sh y.1) ∧ r.2.1.length = os.length ∧ castOs os r.2.1 = some (encObs os y.2) := by
  unfold hqT at hq'
  obtain ⟨r, h1, hq'⟩ := bind_some hq'
  cases hn : isNil r.2.2 with
  | false => rw [hn] at hq'; cases hq'
  | true =>
    rw [hn] at hq'
    simp only [cond_true] at hq'
    obtain ⟨a, h2, hq'⟩ := bind_some hq'
    obtain ⟨b, h3, hq'⟩ := bind_some hq'
    simp at hq'; subst hq'
    obtain ⟨h4, h5⟩ := decObs_cast h3
    exact ⟨r, h1, hn, dec_cast sh h2, h4, h5⟩

theorem hput_same {h : Hp} {i : Id} {o : Obj} (hi : h i = some o) : hput h i o = h := by
  funext j
  by_cases hj : j = i
  · subst hj; rw [hput_self, hi]
  · rw [hput_ne _ _ hj]

theorem forceIds_some : ∀ {ids : List Id} {h : Hp} {k : Hp → Option α}, forceIds h ids k = some x → k h = some x
  | [], h, k, hk => hk
  | i :: r, h, k, hk => by
    unfold forceIds at hk
    cases hi : h i with
    | none => rw [hi] at hk; exact forceIds_some hk
    | some o =>
      rw [hi] at hk
      have h1 := forceO_some hk
      rw [hput_same hi] at h1
      exact forceIds_some h1

theorem forceE_some {ids : List Id} {e : Eff} {k : Eff → Option α} (hk : forceE ids e k = some x) : k e = some x := by
  cases e with
  | heap h => exact forceIds_some hk
  | none => exact hk
  | put i o => exact hk

theorem forceL_some {l : List Id} : ∀ {k : List Id → Option α}, forceL l k = some x → k l = some x := by
  induction l with
  | nil => intro k hk; exact hk
  | cons i r ih =>
    intro k hk
    exact ih (k := fun r' => k (i :: r')) hk

theorem hcallSK_some {d : Nat} {f : FuncId} {args : List V} {sh : Sh} {k : V → Eff → Option α} (hk : hcallSK T h d f args sh k = some x) : ∃ r, hcallS (frzT T) h d f args sh = some r ∧ k r.1 r.2 = some x := by
  unfold hcallSK at hk
  have hk := forceL_some hk
  unfold hcallS
  simp only at hk ⊢
  cases hd : distinct (reach h 3 (addNew [] (refsVs args))) with
  | false => rw [hd] at hk; cases hk
  | true =>
    rw [hd] at hk
    simp only [cond_true] at hk ⊢
    obtain ⟨os, h1, h2⟩ := bind_some hk
    obtain ⟨y, h3, h4⟩ := qb_some h2
    obtain ⟨r, h3, hn, h5, hl, h7⟩ := hqT_some h3
    obtain ⟨p, h11, h12⟩ := bind_some h4
    have h12 := forceE_some h12
    have h9 : (Nat.beq r.2.1.length os.length && isNil r.2.2) = true := by rw [hn, hl]; simp
    exact ⟨p, by rw [h1]; simp only [Option.bind_some]; rw [h3]; simp only [Option.bind_some]; rw [h5]; simp only [Option.bind_some]; rw [h7]; simp only [Option.bind_some]; rw [h9]; exact h11, h12⟩

theorem hcallK_some (hIK : KOK IK Ti) {d : Nat} {f : FuncId} {args : List V} {k : V → Eff → Option α} (hk : hcallK IK h d f args k = some x) : ∃ r, hcall Ti h d f args = some r ∧ k r.1 r.2 = some x := by
  unfold hcallK at hk
  have hk := forceL_some hk
  unfold hcall
  simp only at hk ⊢
  cases hd : distinct (reach h 3 (addNew [] (refsVs args))) with
  | false => rw [hd] at hk; cases hk
  | true =>
    rw [hd] at hk
    simp only [cond_true] at hk ⊢
    obtain ⟨os, h1, h2⟩ := bind_some hk
    obtain ⟨r, h3, h4⟩ := hIK _ _ _ _ _ h2
    obtain ⟨p, h11, h12⟩ := bind_some h4
    exact ⟨p, by rw [h1]; simp only [Option.bind_some]; rw [h3]; exact h11, h12⟩

theorem natK_some {d : Nat} {nt : Nt} {args : List V} {k : V → Eff → Option α} (hk : natK h d nt args k = some x) : ∃ r, natV h d nt args = some r ∧ k r.1 r.2 = some x := by
  unfold natK at hk
  split at hk
  · rename_i kd y
    have hk_ := bind_some hk; clear hk; obtain ⟨l, h1, hk⟩ := hk_
    cases hs : slV y with
    | false => rw [hs] at hk; cases hk
    | true =>
      rw [hs] at hk
      simp only [cond_true] at hk
      rcases br_some hk with ⟨h4, h5⟩ | ⟨h4, h5⟩
      · exact ⟨(.c (.row (.own d) kd), .put (.own d) (.row true kd l)), by simp only [natV, h1, Option.bind_some, hs, h4, Bool.and_self, cond_true], h5⟩
      · cases h5
  · cases hk

theorem callVK_some (hIK : KOK IK Ti) {d : Nat} {ty : TypeId} {f : V} {args : List V} {k : V → Eff → Option α} (hk : callVK cfg T IK me h d ty f args k = some x) : ∃ r, callV cfg T Ti me h d ty f args = some r ∧ k r.1 r.2 = some x := by
  unfold callVK at hk
  unfold callV
  split at hk
  · rename_i g caps
    cases hn : cfg.nat g with
    | some nt =>
      rw [hn] at hk
      simp only at hk
      cases hc : isNil caps with
      | false => rw [hc] at hk; cases hk
      | true =>
        rw [hc] at hk
        obtain ⟨r, h1, h2⟩ := natK_some hk
        exact ⟨r, by simp only [hn, hc, cond_true]; exact h1, h2⟩
    | none =>
    rw [hn] at hk
    simp only at hk
    cases hm : cfg.hm me g with
    | pure =>
      rw [hm] at hk
      obtain ⟨v, h1, h2⟩ := pcallK_some hk
      exact ⟨(v, .none), by simp only [hn, hm, retH]; rw [h1]; rfl, h2⟩
    | heap =>
      rw [hm] at hk
      obtain ⟨r, h1, h2⟩ := hcallSK_some hk
      exact ⟨r, by simp only [hn, hm]; exact h1, h2⟩
    | inline =>
      rw [hm] at hk
      obtain ⟨r, h1, h2⟩ := hcallK_some hIK hk
      exact ⟨r, by simp only [hn, hm]; exact h1, h2⟩
  · cases hk

/-! ### Operations -/

theorem binIK_some {op : BinOp} {kd : IntKind} {a b : Int} {k : F → Option α} (hk : binIK op kd a b k = some x) : ∃ v, binI op kd a b = some v ∧ k v = some x := by
  unfold binIK at hk
  split at hk
  · obtain ⟨_, h1, h2⟩ := qb_some hk; exact ⟨_, by simp [binI, h1], h2⟩
  · obtain ⟨_, h1, h2⟩ := qb_some hk; exact ⟨_, by simp [binI, h1], h2⟩
  · exact bind_some hk

theorem shfK_some {op : BinOp} {kd : IntKind} {a b : Int} {k : F → Option α} (hk : shfK op kd a b k = some x) : ∃ v, shf op kd a b = some v ∧ k v = some x := by
  unfold shfK at hk
  split at hk
  · obtain ⟨_, h1, h2⟩ := qb_some hk; exact ⟨_, by simp [shf, h1], h2⟩
  · obtain ⟨_, h1, h2⟩ := qb_some hk; exact ⟨_, by simp [shf, h1], h2⟩
  · cases hk

theorem binSK_some {op : BinOp} {a b : ByteArray} {k : F → Option α} (hk : binSK op a b k = some x) : ∃ v, binS op a b = some v ∧ k v = some x := by
  unfold binSK at hk
  split at hk
  · obtain ⟨_, h1, h2⟩ := qb_some hk; exact ⟨_, by simp [binS, h1], h2⟩
  · exact bind_some hk

theorem binK_some {op : BinOp} {ty : TypeId} {cy : Bool} {u v : V} {k : V → Option α} (hk : binK cfg op ty cy u v k = some x) : ∃ r, bin cfg op ty cy u v = some r ∧ k r = some x := by
  unfold binK at hk
  split at hk
  · rename_i kd a kd' b
    simp only [bin]
    cases hs : isShift op with
    | true =>
      rw [hs] at hk
      simp only [cond_true] at hk
      obtain ⟨r, h1, h2⟩ := shfK_some hk
      exact ⟨_, by simp [h1], h2⟩
    | false =>
      rw [hs] at hk
      cases hd : decide (kd = kd') with
      | false => rw [hd] at hk; cases hk
      | true =>
        rw [hd] at hk
        simp only [cond_true, cond_false] at hk
        obtain ⟨r, h1, h2⟩ := binIK_some hk
        exact ⟨_, by simp [h1], h2⟩
  · rename_i a b
    obtain ⟨r, h1, h2⟩ := binSK_some hk
    exact ⟨_, by simp [bin, h1], h2⟩
  · exact bind_some hk

theorem ixAK_some {ty : TypeId} {u i : V} {k : V → Option α} (hk : ixAK cfg h ty u i k = some x) : ∃ r, ixA cfg h ty u i = some r ∧ k r = some x := by
  unfold ixAK at hk
  unfold ixA
  have hk_ := bind_some hk; clear hk; obtain ⟨kd, h1, hk⟩ := hk_
  have hk_ := bind_some hk; clear hk; obtain ⟨n, h2, hk⟩ := hk_
  rw [h1, h2]
  simp only [Option.bind_some]
  split at hk
  · rename_i t k' l
    cases hd : decide (k' = kd) with
    | false => rw [hd] at hk; cases hk
    | true =>
      rw [hd] at hk
      obtain ⟨y, h3, h4⟩ := qb_some hk
      exact ⟨_, by simp only [hd, cond_true, h3, Option.bind_some], h4⟩
  · rename_i id k'
    cases hd : decide (k' = kd) with
    | false => rw [hd] at hk; cases hk
    | true =>
      rw [hd] at hk
      simp only [cond_true] at hk ⊢
      obtain ⟨o, h3, h4⟩ := bind_some hk
      rw [h3]
      simp only [Option.bind_some]
      split at h4
      · rename_i k2 l
        cases hd2 : decide (k2 = k') with
        | false => rw [hd2] at h4; cases h4
        | true =>
          rw [hd2] at h4
          obtain ⟨y, h5, h6⟩ := qb_some h4
          exact ⟨_, by simp only [hd, hd2, cond_true, h5, Option.bind_some], h6⟩
      · cases h4
  · cases hk

theorem ixK_some {ty : TypeId} {u i : V} {k : V → Option α} (hk : ixK cfg ty u i k = some x) : ∃ r, ix cfg ty u i = some r ∧ k r = some x := by
  unfold ixK at hk
  unfold ix
  have hk_ := bind_some hk; clear hk; obtain ⟨t, h1, hk⟩ := hk_
  rw [h1]
  simp only [Option.bind_some]
  split at hk
  · rename_i s hd
    have hk_ := bind_some hk; clear hk; obtain ⟨n, h2, hk⟩ := hk_
    obtain ⟨b, h3, h4⟩ := qb_some hk
    exact ⟨_, by simp [hd, h2, h3], h4⟩
  · cases hk

theorem slcK_some {ty : TypeId} {u : V} {lo hi mx : Option Operand} {k : V → Option α} (hk : slcK cfg fr ty u lo hi mx k = some x) : ∃ r, slc cfg fr ty u lo hi mx = some r ∧ k r = some x := by
  unfold slcK at hk
  have hk_ := bind_some hk; clear hk; obtain ⟨t, h1, hk⟩ := hk_
  have hk_ := bind_some hk; clear hk; obtain ⟨l, h2, hk⟩ := hk_
  have hk_ := bind_some hk; clear hk; obtain ⟨hh, h3, hk⟩ := hk_
  split at hk
  · rename_i s hd
    obtain ⟨p, h4, h5⟩ := qb_some hk
    exact ⟨_, by simp [slc, h1, h2, h3, hd, h4], h5⟩
  · rename_i e t' kd y hd
    cases hdd : decide (t.kind = some kd) with
    | false => rw [hdd] at hk; cases hk
    | true =>
      rw [hdd] at hk
      obtain ⟨p, h4, h5⟩ := qb_some hk
      exact ⟨_, by simp only [slc, h1, h2, h3, Option.bind_some, hd, hdd, cond_true, h4], h5⟩
  · exact bind_some hk

theorem ldK_some {ty : TypeId} {u : V} {k : V → Option α} (hk : ldK cfg h ty u k = some x) : ∃ r, ld cfg h ty u = some r ∧ k r = some x := by
  unfold ldK at hk
  split at hk
  · rename_i id kd j off
    have hk_ := bind_some hk; clear hk; obtain ⟨i, h1, hk⟩ := hk_
    have hk_ := bind_some hk; clear hk; obtain ⟨o, h2, hk⟩ := hk_
    unfold ld
    rw [h1]
    simp only [Option.bind_some]
    rw [h2]
    simp only [Option.bind_some]
    split at hk
    · rename_i wr k' l
      by_cases e : k' = kd
      · subst e
        simp only [dite_true] at hk ⊢
        obtain ⟨y, h3, h4⟩ := qb_some hk
        rw [h3]
        simp only [Option.bind_some]
        cases hb : Nat.ble (off + i.size) (szOf k') with
        | false => rw [hb] at h4; cases h4
        | true =>
          rw [hb] at h4
          exact bind_some h4
      · simp [e] at hk
    · cases hk
  · exact bind_some hk

theorem stK_some {ty : TypeId} {u v : V} {k : Hp → Option α} (hk : stK cfg h ty u v k = some x) : ∃ r, st cfg h ty u v = some r ∧ k r = some x := by
  unfold stK at hk
  split at hk
  · rename_i id kd j off
    have hk_ := bind_some hk; clear hk; obtain ⟨i, h1, hk⟩ := hk_
    have hk_ := bind_some hk; clear hk; obtain ⟨vs, h2, hk⟩ := hk_
    unfold st
    rw [h1]
    simp only [Option.bind_some]
    rw [h2]
    simp only [Option.bind_some]
    cases hl : Nat.beq vs.length i.size with
    | false => rw [hl] at hk; cases hk
    | true =>
      rw [hl] at hk
      simp only [cond_true] at hk ⊢
      have hk_ := bind_some hk; clear hk; obtain ⟨o, h3, hk⟩ := hk_
      rw [h3]
      simp only [Option.bind_some]
      split at hk
      · rename_i k' l
        by_cases e : k' = kd
        · subst e
          simp only [dite_true] at hk ⊢
          obtain ⟨y, h4, h5⟩ := qb_some hk
          rw [h4]
          simp only [Option.bind_some]
          cases hb : Nat.ble (off + i.size) (szOf k') with
          | false => rw [hb] at h5; cases h5
          | true =>
            rw [hb] at h5
            simp only [cond_true] at h5 ⊢
            obtain ⟨fs, h6, h7⟩ := bind_some h5
            obtain ⟨z, h8, h9⟩ := bind_some h7
            exact ⟨_, by rw [h6]; simp only [Option.bind_some]; rw [h8]; rfl, h9⟩
        · simp [e] at hk
      · cases hk
  · exact bind_some hk

theorem isNil_false {β : Type} {l : List β} (hn : isNil l = false) : ∃ y ys, l = y :: ys := by cases l <;> simp [isNil] at hn ⊢

theorem appRowK_some {d : Nat} {kd : Kind} {id : Id} {l xs : List (El kd)} {k : V → Eff → Option α} (hk : appRowK h d kd id l xs k = some x) : ∃ r, appRow h d kd id l xs = some r ∧ k r.1 r.2 = some x := by
  unfold appRowK at hk
  rcases br_some hk with ⟨h1, h2⟩ | ⟨h1, h2⟩
  · obtain rfl := isNil_ok h1
    exact ⟨_, rfl, h2⟩
  · obtain ⟨y, ys, rfl⟩ := isNil_false h1
    unfold appRow
    simp only
    split at h2
    · rename_i h3
      rcases br_some h2 with ⟨h4, h5⟩ | ⟨h4, h5⟩
      · exact ⟨(_, _), by simp only [h3, h4, cond_true], h5⟩
      · cases h5
    · cases h2

theorem appTightK_some {d : Nat} {kd : Kind} {l xs : List (El kd)} {k : V → Eff → Option α} (hk : appTightK d kd l xs k = some x) : ∃ r, appTight d kd l xs = some r ∧ k r.1 r.2 = some x := by
  unfold appTightK at hk
  rcases br_some hk with ⟨h1, h2⟩ | ⟨h1, h2⟩
  · obtain rfl := isNil_ok h1
    exact ⟨_, rfl, h2⟩
  · obtain ⟨y, ys, rfl⟩ := isNil_false h1
    rcases br_some h2 with ⟨h4, h5⟩ | ⟨h4, h5⟩
    · exact ⟨(_, _), by simp only [appTight, h4, cond_true], h5⟩
    · cases h5

theorem appK_some {d : Nat} {kd : Kind} {s u : V} {k : V → Eff → Option α} (hk : appK h d kd s u k = some x) : ∃ r, app h d kd s u = some r ∧ k r.1 r.2 = some x := by
  unfold appK at hk
  have hk_ := bind_some hk; clear hk; obtain ⟨xs, h1, hk⟩ := hk_
  unfold app
  rw [h1]
  simp only [Option.bind_some]
  split at hk
  · rename_i k' l
    by_cases e : k' = kd
    · subst e
      simp only [dite_true] at hk ⊢
      exact appTightK_some hk
    · simp [e] at hk
  · rename_i id k'
    have hk_ := bind_some hk; clear hk; obtain ⟨o, h2, hk⟩ := hk_
    simp only [h2, Option.bind_some]
    split at hk
    · rename_i wr k2 l
      by_cases e : k2 = kd
      · subst e
        simp only [dite_true] at hk ⊢
        cases hn : notRow id u with
        | false => rw [hn] at hk; cases hk
        | true =>
          rw [hn] at hk
          simp only [cond_true] at hk ⊢
          exact appRowK_some hk
      · simp [e] at hk
    · cases hk
  · cases hk

theorem mkK_some {d : Nat} {ty : TypeId} {n c : V} {k : V → Eff → Option α} (hk : mkK cfg d ty n c k = some x) : ∃ r, mk cfg d ty n c = some r ∧ k r.1 r.2 = some x := by
  unfold mkK at hk
  have hk_ := bind_some hk; clear hk; obtain ⟨kd, h1, hk⟩ := hk_
  have hk_ := bind_some hk; clear hk; obtain ⟨n', h2, hk⟩ := hk_
  have hk_ := bind_some hk; clear hk; obtain ⟨c', h3, hk⟩ := hk_
  rcases br_some hk with ⟨h4, h5⟩ | ⟨h4, h5⟩
  · exact ⟨(_, _), by simp only [mk, h1, h2, h3, Option.bind_some, h4, cond_true], h5⟩
  · cases h5

theorem appNewK_some {d : Nat} {kd : Kind} {s u : V} {k : V → Eff → Option α} (hk : appNewK h d kd s u k = some x) : ∃ r, appNew h d kd s u = some r ∧ k r.1 r.2 = some x := by
  unfold appNewK at hk
  have hk_ := bind_some hk; clear hk; obtain ⟨xs, h1, hk⟩ := hk_
  unfold appNew
  rw [h1]
  simp only [Option.bind_some]
  split at hk
  · rename_i k'
    cases e : decide (k' = kd) with
    | false => rw [e] at hk; cases hk
    | true =>
      rw [e] at hk
      simp only [cond_true] at hk
      rcases br_some hk with ⟨h4, h5⟩ | ⟨h4, h5⟩
      · exact ⟨(.c (.row (.own d) kd), .put (.own d) (.row true kd xs)), by simp only [e, h4, Bool.and_self, cond_true], h5⟩
      · cases h5
  · cases hk

theorem bltK_some {nw : Bool} {d : Nat} {b : Builtin} {args : List V} {tys : List TypeId} {k : V → Eff → Option α} (hk : bltK cfg nw h d b args tys k = some x) : ∃ r, blt cfg nw h d b args tys = some r ∧ k r.1 r.2 = some x := by
  unfold bltK at hk
  split at hk
  · rename_i s u t t2
    have hk_ := bind_some hk; clear hk; obtain ⟨kd, h1, hk⟩ := hk_
    have hk_ := bind_some hk; clear hk; obtain ⟨i, h2, hk⟩ := hk_
    simp only [blt, h1, h2, Option.bind_some]
    cases hs : seqT i.desc u with
    | false => rw [hs] at hk; cases hk
    | true =>
      rw [hs] at hk
      simp only [cond_true] at hk ⊢
      cases nw with
      | false => exact appK_some hk
      | true => exact appNewK_some hk
  · exact bind_some hk

theorem aop_noCall {dst : Option Nat} {ty : TypeId} {op : Op} (hc : ∀ c, op = .call c → False) : aop cfg T T me fr h dst ty op = aop cfg T Ti me fr h dst ty op := by
  cases op <;> try (simp only [aop]; done)
  case makeFunc f first caps => cases f <;> simp only [aop]
  case call c => exact (hc c rfl).elim

theorem ofCellsK_some {kd : Kind} {fs : List F} {k : El kd → Option α} (hk : ofCellsK kd fs k = some x) : ∃ y, ofCells kd fs = some y ∧ k y = some x := by
  unfold ofCellsK at hk
  split at hk
  · exact qb_some hk
  · exact bind_some hk

theorem bldSK_some {T : TypeId} {n : Nat} {ps : List (Nat × Operand)} {k : V → Option α} (hk : bldSK cfg fr T n ps k = some x) : ∃ v, bldS cfg fr T n ps = some v ∧ k v = some x := by
  unfold bldSK at hk
  have hk_ := bind_some hk; clear hk; obtain ⟨kd, h1, hk⟩ := hk_
  have hk_ := bind_some hk; clear hk; obtain ⟨e, h2, hk⟩ := hk_
  cases hb : (Nat.beq ps.length n && inOrder 0 ps && Nat.ble (n * szOf kd) 1000) with
  | false => rw [hb] at hk; cases hk
  | true =>
    rw [hb] at hk
    simp only [cond_true] at hk
    have main : ∀ (l : List (Nat × Operand)) (k : List (El kd) → Option α), lmapQ (fun (p : Nat × Operand) k => (evT cfg fr e p.2).bind fun v => (cellsV v).bind fun cs => (lmapM frzC cs).bind fun fs => ofCellsK kd fs k) l k = some x →
        ∃ r, lmapM (fun p : Nat × Operand => (evT cfg fr e p.2).bind fun v => (cellsV v).bind fun cs => (lmapM frzC cs).bind (ofCells kd)) l = some r ∧ k r = some x := by
      intro l
      induction l with
      | nil => intro k h; exact ⟨[], rfl, h⟩
      | cons p l ih =>
        intro k h
        unfold lmapQ at h
        obtain ⟨v, q1, h⟩ := bind_some h
        obtain ⟨cs, q2, h⟩ := bind_some h
        obtain ⟨fs, q3, h⟩ := bind_some h
        obtain ⟨y, q4, h⟩ := ofCellsK_some h
        obtain ⟨r, q5, h⟩ := ih _ h
        exact ⟨y :: r, by simp [lmapM, q1, q2, q3, q4, q5], h⟩
    obtain ⟨r, h3, h4⟩ := main _ _ hk
    exact ⟨.sl true kd r, by unfold bldS; rw [h1, Option.bind_some, h2, Option.bind_some, hb]; simp only [cond_true]; rw [h3]; rfl, h4⟩

theorem aopK_some (hIK : KOK IK Ti) {dst : Option Nat} {ty : TypeId} {op : Op} {k : V → Eff → Option α} (hk : aopK cfg T IK me fr h dst ty op k = some x) : ∃ r, aop cfg T Ti me fr h dst ty op = some r ∧ k r.1 r.2 = some x := by
  unfold aopK at hk
  split at hk
  · rename_i c a b
    have hk_ := bind_some hk; clear hk; obtain ⟨cv, h1, hk⟩ := hk_
    have hk_ := bind_some hk; clear hk; obtain ⟨t, h2, hk⟩ := hk_
    simp only [aop, h1, h2, Option.bind_some]
    rcases br_some hk with ⟨rfl, h3⟩ | ⟨rfl, h3⟩
    · obtain ⟨v, h4, h5⟩ := bind_some h3
      exact ⟨(v, .none), by simp [retH, h4], h5⟩
    · obtain ⟨v, h4, h5⟩ := bind_some h3
      exact ⟨(v, .none), by simp [retH, h4], h5⟩
  · rename_i t a
    have hk_ := bind_some hk; clear hk; obtain ⟨av, h1, hk⟩ := hk_
    obtain ⟨v, h2, h3⟩ := ldK_some hk
    exact ⟨(v, .none), by simp [aop, h1, retH, h2], h3⟩
  · rename_i t a y
    have hk_ := bind_some hk; clear hk; obtain ⟨av, h1, hk⟩ := hk_
    have hk_ := bind_some hk; clear hk; obtain ⟨yv, h2, hk⟩ := hk_
    obtain ⟨h', h3, h4⟩ := stK_some hk
    exact ⟨_, by simp [aop, h1, h2, h3]; rfl, h4⟩
  · rename_i op t a b q
    have hk_ := bind_some hk; clear hk; obtain ⟨av, h1, hk⟩ := hk_
    have hk_ := bind_some hk; clear hk; obtain ⟨bv, h2, hk⟩ := hk_
    obtain ⟨v, h3, h4⟩ := binK_some hk
    exact ⟨(v, .none), by simp [aop, h1, h2, retH, h3], h4⟩
  · rename_i t n c
    have hk_ := bind_some hk; clear hk; obtain ⟨d, h0, hk⟩ := hk_
    have hk_ := bind_some hk; clear hk; obtain ⟨nv, h1, hk⟩ := hk_
    have hk_ := bind_some hk; clear hk; obtain ⟨cv, h2, hk⟩ := hk_
    obtain ⟨r, h3, h4⟩ := mkK_some hk
    exact ⟨r, by simp [aop, h0, h1, h2, h3], h4⟩
  · rename_i t n ps
    obtain ⟨v, h1, h2⟩ := bldSK_some hk
    obtain ⟨r, h3, h4⟩ := bind_some h2
    exact ⟨r, by simp [aop, h1, h3], h4⟩
  · rename_i t y lo hi mx
    have hk_ := bind_some hk; clear hk; obtain ⟨yv, h1, hk⟩ := hk_
    obtain ⟨v, h2, h3⟩ := slcK_some hk
    exact ⟨(v, .none), by simp [aop, h1, retH, h2], h3⟩
  · rename_i t y i
    have hk_ := bind_some hk; clear hk; obtain ⟨yv, h1, hk⟩ := hk_
    have hk_ := bind_some hk; clear hk; obtain ⟨iv, h2, hk⟩ := hk_
    obtain ⟨v, h3, h4⟩ := ixAK_some hk
    exact ⟨(v, .none), by simp [aop, h1, h2, retH, h3], h4⟩
  · rename_i t y i
    have hk_ := bind_some hk; clear hk; obtain ⟨yv, h1, hk⟩ := hk_
    have hk_ := bind_some hk; clear hk; obtain ⟨iv, h2, hk⟩ := hk_
    obtain ⟨v, h3, h4⟩ := ixK_some hk
    exact ⟨(v, .none), by simp [aop, h1, h2, retH, h3], h4⟩
  · rename_i c
    have hk_ := bind_some hk; clear hk; obtain ⟨d, h0, hk⟩ := hk_
    have hk_ := bind_some hk; clear hk; obtain ⟨args, h1, hk⟩ := hk_
    simp only [aop, h0, h1, Option.bind_some]
    split at hk
    · rename_i f hc
      have hk_ := bind_some hk; clear hk; obtain ⟨fv, h2, hk⟩ := hk_
      obtain ⟨r, h3, h4⟩ := callVK_some hIK hk
      exact ⟨r, by simp [hc, h2, h3], h4⟩
    · rename_i b hc
      obtain ⟨r, h3, h4⟩ := bltK_some hk
      exact ⟨r, by simp [hc, h3], h4⟩
    · cases hk
  · rename_i op h1 h2 h3 h4 h5 h6 h7 h8 h9 h9b
    obtain ⟨r, h10, h11⟩ := bind_some hk
    exact ⟨r, by rw [← aop_noCall (T := T) (fun c hc => h9b c hc)]; exact h10, h11⟩

/-! ### Regions -/

theorem applyK_some {e : Eff} {k : Hp → Option α} (hk : applyK h e k = some x) : ∃ h', applyE h e = some h' ∧ k h' = some x := by
  cases e with
  | none => exact ⟨h, rfl, hk⟩
  | heap h' => exact ⟨h', rfl, hk⟩
  | put i o =>
    simp only [applyK] at hk
    simp only [applyE]
    cases hi : h i with
    | none => rw [hi] at hk; exact ⟨_, rfl, forceO_some hk⟩
    | some y => rw [hi] at hk; cases hk

theorem putK_some {dst : Option Nat} {v : V} {k : Fr → Option α} (hk : putK nt fr dst v k = some x) : ∃ fr', putD nt fr dst v = some fr' ∧ k fr' = some x := by
  cases dst with
  | none => exact ⟨fr, rfl, hk⟩
  | some d =>
    simp only [putK] at hk
    simp only [putD]
    cases hb : Nat.blt d nt with
    | false => rw [hb] at hk; cases hk
    | true => rw [hb] at hk; exact ⟨_, rfl, forceV_some (k := fun v' => k (upd fr d v')) hk⟩

theorem upd_same {t : Nat} {v : V} (hv : fr t = v) : upd fr t v = fr := by
  funext s
  by_cases hs : s = t
  · subst hs; rw [upd_self, hv]
  · rw [upd_ne _ _ hs]

theorem guardK_some {ops : List Oper} {g : Option (Nat × Bool)} {k : Fr → Bool → Option α} (hk : guardK fr ops g k = some x) : ∃ b, guardA fr ops g = some b ∧ k fr b = some x := by
  cases g with
  | none => exact ⟨true, rfl, hk⟩
  | some p =>
    obtain ⟨j, want⟩ := p
    simp only [guardK] at hk
    simp only [guardA]
    have hk_ := bind_some hk; clear hk; obtain ⟨t, h1, hk⟩ := hk_
    rw [h1]
    simp only [Option.bind_some]
    split at hk
    · rename_i b hfr
      rcases br_some hk with ⟨rfl, h2⟩ | ⟨rfl, h2⟩
      · rw [upd_same hfr] at h2
        exact ⟨want, by rw [hfr]; cases want <;> rfl, h2⟩
      · rw [upd_same hfr] at h2
        exact ⟨!want, by rw [hfr]; cases want <;> rfl, h2⟩
    · rename_i hfr
      exact ⟨false, by rw [hfr], hk⟩
    · cases hk

theorem stepOK_some (hIK : KOK IK Ti) {ops : List Oper} {o : Oper} {k : Fr → Hp → Option α} (hk : stepOK cfg T IK me nt ops o fr h k = some x) : ∃ s, stepO cfg T Ti me nt ops o ⟨fr, h⟩ = some s ∧ k s.fr s.h = some x := by
  unfold stepOK at hk
  have hk_ := guardK_some hk; clear hk; obtain ⟨g, h1, hk⟩ := hk_
  simp only [stepO, h1, Option.bind_some]
  cases g with
  | true =>
    simp only [cond_true] at hk ⊢
    have hk_ := aopK_some hIK hk; clear hk; obtain ⟨r, h2, hk⟩ := hk_
    have hk_ := applyK_some hk; clear hk; obtain ⟨h', h3, hk⟩ := hk_
    have hk_ := putK_some hk; clear hk; obtain ⟨fr', h4, hk⟩ := hk_
    exact ⟨⟨fr', h'⟩, by rw [h2]; simp only [Option.bind_some]; rw [h3]; simp only [Option.bind_some]; rw [h4]; rfl, hk⟩
  | false =>
    simp only [cond_false] at hk ⊢
    have hk_ := putK_some hk; clear hk; obtain ⟨fr', h4, hk⟩ := hk_
    exact ⟨⟨fr', h⟩, by rw [h4]; rfl, hk⟩

theorem runOpsK_some (hIK : KOK IK Ti) {ops : List Oper} : ∀ {l : List Oper} {fr : Fr} {h : Hp} {k : Fr → Hp → Option α}, runOpsK cfg T IK me nt ops l fr h k = some x → ∃ s, runOps cfg T Ti me nt ops l ⟨fr, h⟩ = some s ∧ k s.fr s.h = some x
  | [], fr, h, k, hk => ⟨⟨fr, h⟩, rfl, hk⟩
  | o :: l, fr, h, k, hk => by
    unfold runOpsK at hk
    have hk_ := stepOK_some hIK hk; clear hk; obtain ⟨s, h1, hk⟩ := hk_
    have hk_ := runOpsK_some hIK hk; clear hk; obtain ⟨s', h2, hk⟩ := hk_
    exact ⟨s', by simp only [runOps, h1, Option.bind_some]; exact h2, hk⟩

theorem stepDK_some (hIK : KOK IK Ti) {dl : List Id} {ops : List Oper} {c : Cls} {o : Oper} {k : Fr → Hp → Hp → Option α} (hk : stepDK cfg T IK me nt dl ops c o fr h hr k = some x) : ∃ s, stepD cfg T Ti me nt dl ops c o ⟨fr, h, hr⟩ = some s ∧ k s.fr s.h s.hr = some x := by
  unfold stepDK at hk
  have hk_ := guardK_some hk; clear hk; obtain ⟨g, h1, hk⟩ := hk_
  simp only [stepD, h1, Option.bind_some]
  cases g with
  | true =>
    simp only [cond_true] at hk ⊢
    cases hok : okD dl c fr o with
    | false => rw [hok] at hk; cases hk
    | true =>
      rw [hok] at hk
      simp only [cond_true] at hk ⊢
      have hk_ := aopK_some hIK hk; clear hk; obtain ⟨r, h2, hk⟩ := hk_
      cases hq : (c.isW || quietE r.2) with
      | false => rw [hq] at hk; cases hk
      | true =>
        rw [hq] at hk
        simp only [cond_true] at hk
        have hk_ := applyK_some hk; clear hk; obtain ⟨h', h3, hk⟩ := hk_
        have hk_ := putK_some hk; clear hk; obtain ⟨fr', h4, hk⟩ := hk_
        exact ⟨⟨fr', h', nextHr dl c fr o.op h' hr⟩, by rw [h2]; simp only [Option.bind_some, hq, cond_true]; rw [h3]; simp only [Option.bind_some]; rw [h4]; rfl, hk⟩
  | false =>
    simp only [cond_false] at hk ⊢
    have hk_ := putK_some hk; clear hk; obtain ⟨fr', h4, hk⟩ := hk_
    exact ⟨⟨fr', h, hr⟩, by rw [h4]; rfl, hk⟩

theorem runDK_some (hIK : KOK IK Ti) {dl : List Id} {ops : List Oper} : ∀ {l : List Oper} {i : Nat} {fr : Fr} {h hr : Hp} {k : Fr → Hp → Option α}, runDK cfg T IK me nt dl ops i l fr h hr k = some x → ∃ s, runD cfg T Ti me nt dl ops i l ⟨fr, h, hr⟩ = some s ∧ k s.fr s.h = some x
  | [], i, fr, h, hr, k, hk => ⟨⟨fr, h, hr⟩, rfl, hk⟩
  | o :: l, i, fr, h, hr, k, hk => by
    unfold runDK at hk
    have hk_ := stepDK_some hIK hk; clear hk; obtain ⟨s, h1, hk⟩ := hk_
    have hk_ := runDK_some hIK hk; clear hk; obtain ⟨s', h2, hk⟩ := hk_
    exact ⟨s', by simp only [runD, h1, Option.bind_some]; exact h2, hk⟩

theorem regionK_some (hIK : KOK IK Ti) {id : Nat} {ops : Array Oper} {draw : Bool} {k : Fr → Hp → Option α} (hk : regionK cfg T IK me nt id ops draw fr h k = some x) : ∃ s, region cfg T Ti me nt id ops draw ⟨fr, h⟩ = some s ∧ k s.fr s.h = some x := by
  unfold regionK at hk
  unfold region
  cases draw with
  | false => exact runOpsK_some hIK hk
  | true =>
    simp only [cond_true] at hk ⊢
    cases hd : drawOk cfg me ops with
    | false => rw [hd] at hk; cases hk
    | true =>
      rw [hd] at hk
      have hk_ := runDK_some hIK hk; clear hk; obtain ⟨s, h1, hk⟩ := hk_
      exact ⟨⟨s.fr, s.h⟩, by simp only [cond_true]; rw [h1]; rfl, hk⟩

/-! ### Code -/

theorem cOf_unC {v : V} {c : C} (h : unC v = some c) : cOf v = c := by
  cases v <;> simp [unC] at h
  subst h; rfl

theorem enc_cell {s : Sh} {c : C} {y : ShTy s} (hd : dec s (.c c) = some y) : unC (enc s y) = some (cOf (enc s y)) := by
  cases s with
  | raw => simp [dec] at hd; subst hd; rfl
  | el kd => simp [dec, gEl] at hd
  | cert => simp [dec, gCert] at hd
  | client => simp [dec, gClient] at hd
  | server => simp [dec, gServer] at hd
  | world => simp [dec, gWorld] at hd
  | tt => simp [dec, gTt] at hd
  | tup l => simp [dec, gTup] at hd
  | _ => simp [enc, unC, cOf]

theorem decBx_cast : ∀ {l : List Sh} {cs : List C} {y : ShTys l} (pre : List C), decBx l cs = some y → cs.length = l.length ∧ castBox (pre ++ cs) pre.length l = some ((encs l y).map cOf)
  | [], [], y, pre, hd => ⟨rfl, by simp [castBox, encs]⟩
  | [], _ :: _, y, pre, hd => by cases hd
  | s :: l, [], y, pre, hd => by cases hd
  | s :: l, c :: cs, y, pre, hd => by
    simp only [decBx] at hd
    obtain ⟨a, h1, hd⟩ := bind_some hd
    obtain ⟨b, h2, hd⟩ := bind_some hd
    simp at hd; subst hd
    obtain ⟨hl, h3⟩ := decBx_cast (pre ++ [c]) h2
    have h4 := dec_cast s h1
    have h5 := enc_cell h1
    have h6 : (pre ++ c :: cs)[pre.length]? = some c := by simp
    have h7 : pre ++ c :: cs = pre ++ [c] ++ cs := by simp
    have h8 : (pre ++ [c]).length = pre.length + 1 := by simp
    rw [h8, ← h7] at h3
    exact ⟨by simp [hl], by simp only [castBox, h6, Option.bind_some, h4, h5, h3, encs, List.map_cons]⟩

theorem decOsh_cast {o : Obj} {s : OSh} {y : OshTy s} (hd : decOsh s o = some y) : castObj o s = some (encOsh s y) := by
  cases s with
  | box l =>
    simp only [decOsh, gBox_eq] at hd
    obtain ⟨cs, h1, h2⟩ := bind_some hd
    obtain ⟨hl, h3⟩ := decBx_cast [] h2
    simp only [List.nil_append, List.length_nil] at h3
    have h5 : Nat.beq cs.length l.length = true := by rw [hl]; simp
    simp only [castObj, encOsh, h1, Option.bind_some, h3, h5, cond_true]
  | row w kd =>
    simp only [decOsh, gRowO_eq] at hd
    simp [castObj, encOsh, hd]
  | recd s =>
    simp only [decOsh, gBox_eq] at hd
    obtain ⟨cs, h1, h2⟩ := bind_some hd
    have h3 := dec_cast s h2
    have h4 : asAggC (enc s y) = some (aggOf (enc s y)) := by
      cases s with
      | raw => simp [dec] at h2; subst h2; rfl
      | tup l => simp [dec, gTup] at h2
      | el kd => rfl
      | cert => rfl
      | client => rfl
      | server => rfl
      | world => rfl
      | tt => rfl
      | _ => simp [dec, gC] at h2
    simp only [castObj, encOsh, h1, Option.bind_some, h3, h4]

theorem decOs_cast : ∀ {l : List (Id × OSh)} {y : OsTys l}, decOs l h = some y → castObjs h l = some (encOs l y)
  | [], y, hd => by simp [castObjs, encOs]
  | p :: l, y, hd => by
    simp only [decOs] at hd
    obtain ⟨o, h1, hd⟩ := bind_some hd
    obtain ⟨a, h2, hd⟩ := bind_some hd
    obtain ⟨b, h3, hd⟩ := bind_some hd
    simp at hd; subst hd
    have h4 := decOsh_cast h2
    have h5 := decOs_cast h3
    simp [castObjs, encOs, h1, h4, h5]

theorem decSl_cast : ∀ {l : List (Nat × Sh)} {y : SlTys l}, decSl l fr = some y → castSlots fr l = some (encSl l y)
  | [], y, hd => by simp [castSlots, encSl]
  | p :: l, y, hd => by
    simp only [decSl] at hd
    obtain ⟨a, h2, hd⟩ := bind_some hd
    obtain ⟨b, h3, hd⟩ := bind_some hd
    simp at hd; subst hd
    have h4 := dec_cast p.2 h2
    have h5 := decSl_cast h3
    simp [castSlots, encSl, h4, h5]

theorem exIds_some {e : Ex} {k : Ex → Option α} : ∀ {l : List Nat}, exIds e k l = some x → k e = some x
  | [], hk => by cases hk
  | i :: l, hk => by
    unfold exIds at hk
    rcases br_some hk with ⟨h1, h2⟩ | ⟨h1, h2⟩
    · cases e with
      | ext j =>
        simp only [isExt] at h1
        rw [Nat.eq_of_beq_eq_true h1]
        exact h2
      | nrm => cases h1
      | ret => cases h1
    · exact exIds_some h2

theorem aexecK_some (hIK : KOK IK Ti) {n : Nat} : ∀ (c : Code) {fr : Fr} {h : Hp} {k : Ex → Fr → Hp → Option α}, aexecK cfg T Ti IK me nt na n c fr h k = some x → ∃ r, aexec cfg T Ti me nt na n c ⟨fr, h⟩ = some r ∧ k r.1 r.2.fr r.2.h = some x
  | .skip, fr, h, k, hk => ⟨(.nrm, ⟨fr, h⟩), rfl, hk⟩
  | .region id ops draw, fr, h, k, hk => by
    unfold aexecK at hk
    have hk_ := regionK_some hIK hk; clear hk; obtain ⟨s, h1, hk⟩ := hk_
    exact ⟨(.nrm, s), by simp [aexec, h1], hk⟩
  | .seq a b, fr, h, k, hk => by
    unfold aexecK at hk
    have hk_ := aexecK_some hIK a hk; clear hk; obtain ⟨⟨e, s⟩, h1, hk⟩ := hk_
    simp only at hk
    cases e with
    | nrm =>
      have hk_ := aexecK_some hIK b hk; clear hk; obtain ⟨r, h2, hk⟩ := hk_
      exact ⟨r, by simp only [aexec, h1, Option.bind_some, isN, cond_true]; exact h2, hk⟩
    | ext id => exact ⟨(.ext id, s), by simp [aexec, h1, isN], hk⟩
    | ret => exact ⟨(.ret, s), by simp [aexec, h1, isN], hk⟩
  | .cond c a b, fr, h, k, hk => by
    have fin : ∀ v t, ev fr c = some v → asB v = some t → (∃ r, (bif t then aexec cfg T Ti me nt na n a ⟨fr, h⟩ else aexec cfg T Ti me nt na n b ⟨fr, h⟩) = some r ∧ k r.1 r.2.fr r.2.h = some x) → ∃ r, aexec cfg T Ti me nt na n (.cond c a b) ⟨fr, h⟩ = some r ∧ k r.1 r.2.fr r.2.h = some x := by
      rintro v t h1 h2 ⟨r, h3, h4⟩
      exact ⟨r, by simp only [aexec, h1, h2, Option.bind_some]; exact h3, h4⟩
    unfold aexecK at hk
    split at hk
    · rename_i t
      have hk_ := bind_some hk; clear hk; obtain ⟨t', h1, hk⟩ := hk_
      have hft : fr t = .bool t' := by
        unfold asB at h1
        split at h1
        · rename_i b hfr; simp at h1; subst h1; exact hfr
        · cases h1
      refine fin (fr t) t' rfl h1 ?_
      rcases br_some hk with ⟨rfl, h2⟩ | ⟨rfl, h2⟩
      · rw [upd_same hft] at h2
        exact aexecK_some hIK a h2
      · rw [upd_same hft] at h2
        exact aexecK_some hIK b h2
    · obtain ⟨v, h1, hk⟩ := bind_some hk
      have hk_ := bind_some hk; clear hk; obtain ⟨t, h2, hk⟩ := hk_
      refine fin v t h1 h2 ?_
      rcases br_some hk with ⟨rfl, h3⟩ | ⟨rfl, h3⟩
      · exact aexecK_some hIK a h3
      · exact aexecK_some hIK b h3
  | .block id b, fr, h, k, hk => by
    unfold aexecK at hk
    have hk_ := aexecK_some hIK b hk; clear hk; obtain ⟨r, h1, hk⟩ := hk_
    exact ⟨(leave id r.1, r.2), by simp [aexec, h1], hk⟩
  | .loop b, fr, h, k, hk => by
    unfold aexecK at hk
    simp only at hk
    have hk_ := bind_some hk; clear hk; obtain ⟨s, h1, hk⟩ := hk_
    have hk_ := qb_some hk; clear hk; obtain ⟨y, h2, hk⟩ := hk_
    unfold loopT at h2
    obtain ⟨r, h2', g3⟩ := bind_some h2
    clear h2
    have h2 := h2'
    obtain ⟨a, g4, g5⟩ := bind_some g3
    obtain ⟨b', g6, g7⟩ := bind_some g5
    simp at g7; subst g7
    have h3 := decSl_cast g4
    have h4 := decOs_cast g6
    cases hc : distinct ((cfg.lh me (firstRegion b)).osh.map (·.1)) && allIn ((cfg.lh me (firstRegion b)).osh.map (·.1)) ((List.range na).map Id.arg) with
    | false => rw [hc] at hk; cases hk
    | true =>
      rw [hc] at hk
      simp only [cond_true] at hk
      refine ⟨(r.1, ⟨frOf ((encSl _ a).map fun p => (p.1, renV (idMap (cfg.lh me (firstRegion b)).osh) p.2)), hpIds ((encOs _ b').map fun p => (p.1, renO (idMap (cfg.lh me (firstRegion b)).osh) p.2))⟩), ?_, ?_⟩
      · simp only [aexec, h1, Option.bind_some]
        rw [h2]
        simp only [Option.bind_some, castSt]
        rw [h3]
        simp only [Option.bind_some]
        rw [h4]
        simp only [Option.bind_some]
        rw [hc]
        rfl
      · rcases br_some hk with ⟨h5, h6⟩ | ⟨h5, h6⟩
        · cases hr1 : r.1 with
          | ret => exact h6
          | nrm => rw [hr1] at h5; cases h5
          | ext j => rw [hr1] at h5; cases h5
        · exact exIds_some h6
  | .exit id, fr, h, k, hk => ⟨(.ext id, ⟨fr, h⟩), rfl, hk⟩
  | .ret, fr, h, k, hk => ⟨(.ret, ⟨fr, h⟩), rfl, hk⟩
  | .goto l, fr, h, k, hk => by simp [aexecK] at hk
  | .label l, fr, h, k, hk => by simp [aexecK] at hk

theorem bodyK_some (hIK : KOK IK Ti) {n f : Nat} {fn : Func} {c : Code} {args : List V} {objs : List Obj} {k : V → List Obj → List Obj → Option α} (hk : bodyK cfg T Ti IK n f fn c args objs k = some x) :
    ∃ r, bodyA cfg T Ti n f fn c args objs = some r ∧ k r.1 r.2.1 r.2.2 = some x := by
  unfold bodyK at hk
  unfold bodyA
  cases hle : Nat.ble args.length fn.ntmps with
  | false => rw [hle] at hk; cases hk
  | true =>
    rw [hle] at hk
    simp only [cond_true] at hk ⊢
    have hk_ := aexecK_some hIK c hk; clear hk; obtain ⟨⟨e, s⟩, h1, hk⟩ := hk_
    rw [h1]
    simp only [Option.bind_some] at hk ⊢
    cases e with
    | ext id => cases hk
    | nrm =>
      simp only at hk ⊢
      have hk_ := bind_some hk; clear hk; obtain ⟨vs, h2, hk⟩ := hk_
      have hk_ := bind_some hk; clear hk; obtain ⟨r, h3, hk⟩ := hk_
      exact ⟨r, by rw [h2]; exact h3, forceV_some hk⟩
    | ret =>
      simp only at hk ⊢
      have hk_ := bind_some hk; clear hk; obtain ⟨vs, h2, hk⟩ := hk_
      have hk_ := bind_some hk; clear hk; obtain ⟨r, h3, hk⟩ := hk_
      exact ⟨r, by rw [h2]; exact h3, forceV_some hk⟩

end

theorem runK_some {α : Type} {P : Program} {cfg : Cfg} {T : CallSem} {n : Nat} : ∀ d, KOK (runK (α := α) P cfg T n d) (runI P cfg T n d)
  | 0 => fun f args objs k x hk => by simp [runK] at hk
  | d + 1 => fun f args objs k x hk => by
    simp only [runK] at hk
    simp only [runI]
    split at hk
    · rename_i g hg
      obtain ⟨r, h1, h2⟩ := qb_some hk
      exact ⟨r, h1, h2⟩
    · split at hk
      · rename_i fn hfn
        split at hk
        · rename_i c hb
          exact bodyK_some (runK_some d) hk
        · cases hk
      · cases hk

/-- One function over the others' answers: it answers. -/
theorem rn_of_resid {P : Program} {cfg : Cfg} {n : Nat} {f : FuncId} {args : List V} {objs : List Obj} {r : V × List Obj × List Obj} (h : resid P cfg (rn P cfg) n f args objs = some r) : rn P cfg f args objs = some r := by
  unfold resid at h
  obtain ⟨q, h1, h2⟩ := runK_some 6 f args objs _ _ h
  simp at h2
  rw [← h2]
  exact rn_of_runI h1

/-- The same, as plain data. -/
theorem presT_of {P : Program} {cfg : Cfg} {n : Nat} {f : FuncId} {args : List V} {sh : Sh} {y : ShTy sh} (h : residT P cfg (rn P cfg) n f args sh = some y) : presT (rn P cfg) f args sh = some y := by
  unfold residT at h
  obtain ⟨q, h1, h2⟩ := runK_some 6 f args [] _ _ h
  obtain ⟨v, h3, h4⟩ := bind_some h2
  unfold presT pres
  rw [rn_of_runI h1]
  simp only [Option.bind_some]
  rw [h3]
  exact h4

theorem hqT_of {P : Program} {cfg : Cfg} {n : Nat} {f : FuncId} {args : List V} {objs : List Obj} {sh : Sh} {y : ShTy sh × ObTys objs} (h : residH P cfg (rn P cfg) n f args objs sh = some y) : hqT (rn P cfg) f args objs sh = some y := by
  unfold residH at h
  obtain ⟨q, h1, h2⟩ := runK_some 6 f args objs _ _ h
  unfold hqT hq frzT
  rw [rn_of_runI h1]
  exact h2

end Go.Vm
