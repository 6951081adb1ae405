/-
  Calls: a callee that is handed local memory.
-/
import Derived.Test.YtepghohkfnmhmaaDoorVmCallA
namespace Go.Vm
variable {G : Gl}
set_option linter.unusedVariables false
set_option linter.unusedSimpArgs false

section
variable {P : Program} {cfg : Cfg} {U : Nat → Prop} {h h' h2 : Hp} {loc loc' loc2 : Loc} {w w' : World} {a : Act} {fr : Fr} {M' : Nat → Prop}

/-- What the caller keeps to itself. -/
def Priv (U : Nat → Prop) (h : Hp) (loc : Loc) (ids : List Id) (b : Nat) : Prop :=
  U b ∨ ∃ id o c, h id = some o ∧ o.live = true ∧ loc id = some (b, c) ∧ id ∉ ids

/-- Where the callee finds what it is handed. -/
def argLoc (loc : Loc) (ids : List Id) : Loc := fun i => match i with | .arg j => (ids[j]?).bind loc | _ => none

theorem hand_heap {ids : List Id} {os : List Obj} {m : List (Id × Id)} (hg : getAll h ids = some os) {b : Id} {o' : Obj} (hb : hpOf .arg 0 (os.map (renO m)) b = some o') :
    ∃ j i o, b = .arg j ∧ ids[j]? = some i ∧ h i = some o ∧ o' = renO m o := by
  obtain ⟨j, rfl, hj⟩ := hpOf_some hb
  obtain ⟨h1, h2⟩ := getAll_some hg
  rw [List.getElem?_map, Option.map_eq_some_iff] at hj
  obtain ⟨o, ho, rfl⟩ := hj
  have hlt : j < ids.length := by rw [← h1]; exact (List.getElem?_eq_some_iff.1 ho).1
  obtain ⟨o2, ho2, ho3⟩ := h2 j ids[j] (List.getElem?_eq_getElem hlt)
  rw [ho] at ho3
  obtain rfl := Option.some.inj ho3
  exact ⟨j, ids[j], o, by simp, List.getElem?_eq_getElem hlt, ho2, rfl⟩

theorem hand_get {ids : List Id} {os : List Obj} {m : List (Id × Id)} (hg : getAll h ids = some os) {j : Nat} {i : Id} (hj : ids[j]? = some i) :
    ∃ o, h i = some o ∧ hpOf .arg 0 (os.map (renO m)) (.arg j) = some (renO m o) := by
  obtain ⟨h1, h2⟩ := getAll_some hg
  obtain ⟨o, ho, hos⟩ := h2 j i hj
  exact ⟨o, ho, by rw [hpOf_arg, List.getElem?_map, hos]; rfl⟩

theorem hand_ren {ids : List Id} {os : List Obj} (hd : distinct ids = true) (hg : getAll h ids = some os) :
    Ren (numFrom .arg 0 ids) h loc (hpOf .arg 0 (os.map (renO (numFrom .arg 0 ids)))) (argLoc loc ids) := by
  refine ⟨fun i b o hl ho => ?_⟩
  obtain ⟨j, hj, rfl⟩ := look_numFrom hl
  obtain ⟨o2, ho2, hh⟩ := hand_get (m := numFrom .arg 0 ids) hg hj
  rw [ho] at ho2
  obtain rfl := Option.some.inj ho2
  rw [Nat.zero_add]
  exact ⟨_, hh, renO_same o, by simp [argLoc, hj]⟩

theorem hand_src {ids : List Id} {os : List Obj} (hd : distinct ids = true) (hg : getAll h ids = some os) :
    Src' (numFrom .arg 0 ids) h loc (hpOf .arg 0 (os.map (renO (numFrom .arg 0 ids)))) (argLoc loc ids) := by
  intro b o' blk c hb hl hlo
  obtain ⟨j, i, o, rfl, hj, ho, rfl⟩ := hand_heap hg hb
  refine ⟨i, o, by have := look_numFrom_get (mk := Id.arg) (n := 0) hd hj; rw [Nat.zero_add] at this; exact this, ho, ?_, by simpa [argLoc, hj] using hlo⟩
  rw [← hl, (renO_same o).live]

theorem priv_mut {ids : List Id} : ∀ b, Priv U h loc ids b → Mut U h loc b := by
  rintro b (hu | ⟨id, o, c, ho, hl, hlo, _⟩)
  · exact .inl hu
  · exact .inr ⟨id, o, c, ho, hl, hlo⟩

theorem hand_mut {ids : List Id} {os : List Obj} (hd : distinct ids = true) (hg : getAll h ids = some os) (b : Nat) :
    Mut (Priv U h loc ids) (hpOf .arg 0 (os.map (renO (numFrom .arg 0 ids)))) (argLoc loc ids) b ↔ Mut U h loc b := by
  constructor
  · exact Mut.ren priv_mut (hand_src hd hg) b
  · rintro (hu | ⟨id, o, c, ho, hl, hlo⟩)
    · exact .inl (.inl hu)
    · by_cases hid : id ∈ ids
      · obtain ⟨j, hj⟩ := List.getElem?_of_mem hid
        obtain ⟨o2, ho2, hh⟩ := hand_get (m := numFrom .arg 0 ids) hg hj
        rw [ho] at ho2
        obtain rfl := Option.some.inj ho2
        exact .inr ⟨.arg j, _, c, hh, by rw [(renO_same o).live]; exact hl, by simp [argLoc, hj, hlo]⟩
      · exact .inl (.inr ⟨id, o, c, ho, hl, hlo, hid⟩)

theorem hand_hw (hw : HW G U h loc w) {ids : List Id} {os : List Obj} (hd : distinct ids = true) (hg : getAll h ids = some os) :
    HW G (Priv U h loc ids) (hpOf .arg 0 (os.map (renO (numFrom .arg 0 ids)))) (argLoc loc ids) w := by
  refine hw.ren (fun b hb => .inl hb) priv_mut (hand_src hd hg) ?_ ?_
  · intro i b o blk c hl ho hlv hlo hp
    obtain ⟨j, hj, rfl⟩ := look_numFrom hl
    rcases hp with hu | ⟨id, o2, c2, ho2, hl2, hlo2, hn⟩
    · exact (hw.sep i o blk c ho hlv hlo).1 hu
    · have := hw.inj i id o o2 blk c c2 ho hlv ho2 hl2 hlo hlo2
      subst this
      exact hn (List.mem_of_getElem? hj)
  · intro b o' hb
    obtain ⟨j, i, o, rfl, hj, ho, rfl⟩ := hand_heap hg hb
    exact OW.ren (hand_ren hd hg) (fun b hb => (hand_mut hd hg b).1 hb) (by simp [argLoc, hj]) (hw.obj i o ho)

/-- Memory is handed over. -/
theorem hand_ok (hw : HW G U h loc w) {f : FuncId} {us : List Value} {args : List V} {ids : List Id} {os : List Obj} {r : V × List Obj × List Obj} (hd : distinct ids = true) (hg : getAll h ids = some os) (hargs : VWs w (Mut U h loc) h loc us args)
    (hf : FnOK G P f (renVs (numFrom .arg 0 ids) args) (os.map (renO (numFrom .arg 0 ids))) r) :
    Calls P f us.toArray w fun e w' => ∃ u loc', e = .returned u ∧ PostV G (Priv U h loc ids) (hpOf .arg 0 (os.map (renO (numFrom .arg 0 ids)))) (argLoc loc ids) w (outHp r.2.1 r.2.2) r.1 u w' loc' :=
  hf.calls _ _ w us (hand_hw hw hd hg) (VWs.ren (hand_ren hd hg) (fun b hb => (hand_mut hd hg b).1 hb) args hargs)

/-! ### And handed back -/

theorem putAll_ne : ∀ {ids : List Id} {os : List Obj} {h h' : Hp}, putAll h ids os = some h' → ∀ i, i ∉ ids → h' i = h i
  | [], [], h, h', hp, i, _ => by simp [putAll] at hp; subst hp; rfl
  | [], _ :: _, h, h', hp, _, _ => by simp [putAll] at hp
  | _ :: _, [], h, h', hp, _, _ => by simp [putAll] at hp
  | x :: ids, o :: os, h, h', hp, i, hi => by
    simp only [putAll] at hp
    rw [putAll_ne hp i (fun h => hi (List.mem_cons_of_mem _ h)), hput_ne _ _ (fun e => hi (by rw [e]; exact List.mem_cons_self ..))]

theorem putAll_get : ∀ {ids : List Id} {os : List Obj} {h h' : Hp}, distinct ids = true → putAll h ids os = some h' → os.length = ids.length ∧ ∀ (j : Nat) (i : Id), ids[j]? = some i → h' i = os[j]?
  | [], [], h, h', _, hp => ⟨rfl, fun j i hi => by simp at hi⟩
  | [], _ :: _, h, h', _, hp => by simp [putAll] at hp
  | _ :: _, [], h, h', _, hp => by simp [putAll] at hp
  | x :: ids, o :: os, h, h', hd, hp => by
    simp only [putAll] at hp
    simp only [distinct, Bool.and_eq_true, Bool.not_eq_true'] at hd
    obtain ⟨h1, h2⟩ := putAll_get hd.2 hp
    refine ⟨by simp [h1], fun j i hi => ?_⟩
    cases j with
    | zero =>
      simp at hi; subst hi
      have hno : x ∉ ids := fun h => by rw [memId_iff.2 h] at hd; exact absurd hd.1 (by simp)
      rw [putAll_ne hp x hno, hput_self]
      rfl
    | succ j => simpa using h2 j i (by simpa using hi)

theorem fresh_none : ∀ {l : List Id}, fresh h l = true → ∀ i ∈ l, h i = none
  | [], _, i, hi => by simp at hi
  | x :: l, hf, i, hi => by
    simp only [fresh, Bool.and_eq_true] at hf
    rcases List.mem_cons.1 hi with rfl | hi
    · cases hx : h i with
      | none => rfl
      | some o => rw [hx] at hf; simp at hf
    · exact fresh_none hf.2 i hi

def retIds (d n : Nat) : List Id := (List.range n).map (Id.ret d)

theorem distinct_of : ∀ {l : List Id}, (∀ (i j : Nat) (x : Id), l[i]? = some x → l[j]? = some x → i = j) → distinct l = true
  | [], _ => rfl
  | y :: l, hh => by
    simp only [distinct, Bool.and_eq_true, Bool.not_eq_true']
    refine ⟨?_, distinct_of fun i j x hi hj => by have := hh (i + 1) (j + 1) x (by simpa using hi) (by simpa using hj); omega⟩
    cases hm : memId y l with
    | false => rfl
    | true =>
      obtain ⟨j, hj⟩ := List.getElem?_of_mem (memId_iff.1 hm)
      have := hh 0 (j + 1) y rfl (by simpa using hj)
      omega

theorem retIds_get {d n j : Nat} (hj : j < n) : (retIds d n)[j]? = some (.ret d j) := by simp [retIds, hj]

theorem retIds_mem {d n : Nat} {i : Id} : i ∈ retIds d n ↔ ∃ j, j < n ∧ i = .ret d j := by
  simp only [retIds, List.mem_map, List.mem_range]
  constructor
  · rintro ⟨j, h1, h2⟩; exact ⟨j, h1, h2.symm⟩
  · rintro ⟨j, h1, h2⟩; exact ⟨j, h1, h2.symm⟩

theorem retIds_distinct (d n : Nat) : distinct (retIds d n) = true := by
  refine distinct_of fun i j x hi hj => ?_
  have h1 : i < n := by simpa [retIds] using (List.getElem?_eq_some_iff.1 hi).1
  have h2 : j < n := by simpa [retIds] using (List.getElem?_eq_some_iff.1 hj).1
  rw [retIds_get h1] at hi
  rw [retIds_get h2] at hj
  rw [← hj] at hi
  simpa using hi

/-- Names handed back. -/
def backMap (ids : List Id) (d n : Nat) : List (Id × Id) := swap (numFrom .arg 0 ids) ++ (List.range n).map fun j => (Id.ret 0 j, Id.ret d j)

theorem look_append {m1 m2 : List (Id × Id)} {i : Id} : look (m1 ++ m2) i = (look m1 i).or (look m2 i) := by
  induction m1 with
  | nil => simp [look]
  | cons p m1 ih =>
    obtain ⟨x, y⟩ := p
    simp only [List.cons_append, look]
    cases Id.beq x i <;> simp [ih]

theorem look_swap {ids : List Id} : ∀ {n : Nat} {i b : Id}, look (swap (numFrom .arg n ids)) i = some b → ∃ j, i = .arg (n + j) ∧ ids[j]? = some b := by
  induction ids with
  | nil => intro n i b h; simp [swap, numFrom, look] at h
  | cons x ids ih =>
    intro n i b h
    simp only [swap, numFrom, List.map_cons, look] at h
    cases hb : Id.beq (Id.arg n) i with
    | true =>
      rw [hb] at h
      simp at h
      exact ⟨0, (Id.beq_true.1 hb).symm, by simp [h]⟩
    | false =>
      rw [hb] at h
      obtain ⟨j, h1, h2⟩ := ih h
      exact ⟨j + 1, by rw [h1]; congr 1; omega, by simpa using h2⟩

theorem look_rets {d : Nat} : ∀ {l : List Nat} {i b : Id}, look (l.map fun j => (Id.ret 0 j, Id.ret d j)) i = some b → ∃ j ∈ l, i = .ret 0 j ∧ b = .ret d j := by
  intro l
  induction l with
  | nil => intro i b h; simp [look] at h
  | cons x l ih =>
    intro i b h
    simp only [List.map_cons, look] at h
    cases hb : Id.beq (Id.ret 0 x) i with
    | true =>
      rw [hb] at h
      simp at h
      exact ⟨x, by simp, (Id.beq_true.1 hb).symm, h.symm⟩
    | false =>
      rw [hb] at h
      obtain ⟨j, h1, h2, h3⟩ := ih h
      exact ⟨j, by simp [h1], h2, h3⟩

theorem look_back {ids : List Id} {d n : Nat} {i b : Id} (hl : look (backMap ids d n) i = some b) : (∃ j, i = .arg j ∧ ids[j]? = some b) ∨ ∃ j, j < n ∧ i = .ret 0 j ∧ b = .ret d j := by
  unfold backMap at hl
  rw [look_append] at hl
  rcases Option.or_eq_some_iff.1 hl with h1 | ⟨_, h1⟩
  · obtain ⟨j, h2, h3⟩ := look_swap h1
    exact .inl ⟨j, by rw [h2]; simp, h3⟩
  · obtain ⟨j, h2, h3, h4⟩ := look_rets h1
    exact .inr ⟨j, by simpa using h2, h3, h4⟩

/-- Where things lie behind the call. -/
def backLoc (loc loc2 : Loc) (d n : Nat) : Loc := fun i => match i with
  | .ret s j => if s = d ∧ j < n then loc2 (.ret 0 j) else loc (.ret s j)
  | i => loc i

theorem backLoc_ret {d n j : Nat} (hj : j < n) : backLoc loc loc2 d n (.ret d j) = loc2 (.ret 0 j) := by simp [backLoc, hj]
theorem backLoc_ne {d n : Nat} {i : Id} (hi : i ∉ retIds d n) : backLoc loc loc2 d n i = loc i := by
  unfold backLoc
  split
  · rename_i s j
    rw [if_neg]
    rintro ⟨rfl, hj⟩
    exact hi (retIds_mem.2 ⟨j, hj, rfl⟩)
  · rfl

theorem Turns.renO {m : List (Id × Id)} {id : Id} {o o' : Obj} (h : Turns loc id o o') : Turns loc id o (Go.Vm.renO m o') := by
  cases o' <;> cases o <;> exact h

theorem Turns.unren {m : List (Id × Id)} {id : Id} {o o' : Obj} (h : Turns loc id (Go.Vm.renO m o) o') : Turns loc id o o' := by
  cases o <;> cases o' <;> exact h

theorem Turns.atLoc {id id' : Id} {o o' : Obj} (hl : loc' id' = loc id) (h : Turns loc' id' o o') : Turns loc id o o' := by
  cases o <;> cases o' <;> simp [Turns] at h ⊢
  rw [← hl]
  exact h

theorem lookS : ∀ {ids : List Id} {n j : Nat} {i : Id}, ids[j]? = some i → look (swap (numFrom .arg n ids)) (.arg (n + j)) = some i
  | [], n, j, i, h => by simp at h
  | x :: ids, n, 0, i, h => by simp at h; subst h; simp [swap, numFrom, look, Id.beq_self]
  | x :: ids, n, j + 1, i, h => by
    have hne : Id.arg n ≠ Id.arg (n + (j + 1)) := by simp
    simp only [swap, numFrom, List.map_cons, look, Id.beq_ne hne, cond_false]
    have := lookS (ids := ids) (n := n + 1) (j := j) (i := i) (by simpa using h)
    rw [show n + (j + 1) = n + 1 + j by omega]
    exact this
theorem lookA {ids : List Id} {d n j : Nat} {i : Id} (h : ids[j]? = some i) : look (backMap ids d n) (.arg j) = some i := by
  unfold backMap
  rw [look_append]
  have := lookS (n := 0) h
  rw [Nat.zero_add] at this
  rw [this]
  rfl
theorem lookRl {d : Nat} : ∀ {l : List Nat} {j : Nat}, j ∈ l → look (l.map fun j => (Id.ret 0 j, Id.ret d j)) (.ret 0 j) = some (.ret d j)
  | [], j, h => by simp at h
  | x :: l, j, h => by
    simp only [List.map_cons, look]
    by_cases hx : x = j
    · subst hx; simp [Id.beq_self]
    · have hne : Id.ret 0 x ≠ Id.ret 0 j := by simp [hx]
      simp only [Id.beq_ne hne, cond_false]
      exact lookRl (by rcases List.mem_cons.1 h with h | h; exact absurd h.symm hx; exact h)
theorem lookR {ids : List Id} {d n j : Nat} (h : j < n) : look (backMap ids d n) (.ret 0 j) = some (.ret d j) := by
  unfold backMap
  rw [look_append]
  have h1 : look (swap (numFrom .arg 0 ids)) (.ret 0 j) = none := by
    cases hl : look (swap (numFrom .arg 0 ids)) (.ret 0 j) with
    | none => rfl
    | some b => obtain ⟨k, hk, _⟩ := look_swap hl; cases hk
  rw [h1, Option.none_or]
  exact lookRl (by simpa using h)

theorem back_ok (hw : HW G U h loc w) {ids : List Id} {os os2 ns : List Obj} {d : Nat} {v v' : V} {u : Value} (hd : distinct ids = true) (hg : getAll h ids = some os)
    (hp : PostV G (Priv U h loc ids) (hpOf .arg 0 (os.map (renO (numFrom .arg 0 ids)))) (argLoc loc ids) w (outHp os2 ns) v u w' loc2)
    (hb : handBack h d ids v os2 ns = some (v', .heap h')) : ∃ loc', PostV G U h loc w h' v' u w' loc' := by
  unfold handBack at hb
  simp only at hb
  cases hf : fresh h ((List.range ns.length).map (Id.ret d)) with
  | false => rw [hf] at hb; simp at hb
  | true =>
    rw [hf] at hb
    simp only [cond_true, Option.bind_eq_some_iff, Option.some.injEq, Prod.mk.injEq, Eff.heap.injEq] at hb
    obtain ⟨h1, hp1, h2', hp2, rfl, rfl⟩ := hb
    have hfr : ∀ i ∈ retIds d ns.length, h i = none := fresh_none hf
    change putAll h ids (os2.map (renO (backMap ids d ns.length))) = some h1 at hp1
    change putAll h1 (retIds d ns.length) (ns.map (renO (backMap ids d ns.length))) = some h2' at hp2
    change ∃ loc', PostV G U h loc w h2' (renV (backMap ids d ns.length) v) u w' loc'
    obtain ⟨hw2, hex, hv⟩ := hp
    obtain ⟨hl1, hg1⟩ := putAll_get hd hp1
    obtain ⟨hl2, hg2⟩ := putAll_get (retIds_distinct d ns.length) hp2
    obtain ⟨hl3, hg3⟩ := getAll_some hg
    rw [List.length_map] at hl1
    generalize hm2 : backMap ids d ns.length = m2 at *
    -- names
    have hidn : ∀ i ∈ ids, i ∉ retIds d ns.length := fun i hi hr => by
      obtain ⟨j, hj⟩ := List.getElem?_of_mem hi
      obtain ⟨o, ho, _⟩ := hg3 j i hj
      rw [hfr i hr] at ho
      cases ho
    have hA : ∀ (j : Nat) (i : Id), ids[j]? = some i → ∃ o2, os2[j]? = some o2 ∧ h2' i = some (renO m2 o2) ∧ outHp os2 ns (.arg j) = some o2 := by
      intro j i hj
      have hlt : j < os2.length := by rw [hl1]; exact (List.getElem?_eq_some_iff.1 hj).1
      refine ⟨os2[j], List.getElem?_eq_getElem hlt, ?_, ?_⟩
      · rw [putAll_ne hp2 i (hidn i (List.mem_of_getElem? hj)), hg1 j i hj, List.getElem?_map, List.getElem?_eq_getElem hlt]
        rfl
      · unfold outHp
        rw [hpOf_arg, List.getElem?_eq_getElem hlt]
    have hB : ∀ (j : Nat), j < ns.length → ∃ o2, ns[j]? = some o2 ∧ h2' (.ret d j) = some (renO m2 o2) ∧ outHp os2 ns (.ret 0 j) = some o2 := by
      intro j hj
      refine ⟨ns[j], List.getElem?_eq_getElem hj, ?_, ?_⟩
      · rw [hg2 j _ (retIds_get hj), List.getElem?_map, List.getElem?_eq_getElem hj]
        rfl
      · unfold outHp
        rw [hpOf_arg_ne (fun k => by simp), hpOf_ret, List.getElem?_eq_getElem hj]
    have hC : ∀ i, i ∉ ids → i ∉ retIds d ns.length → h2' i = h i := fun i hi hr => by rw [putAll_ne hp2 i hr, putAll_ne hp1 i hi]
    have hO : ∀ i o, outHp os2 ns i = some o → (∃ j id, i = .arg j ∧ ids[j]? = some id ∧ os2[j]? = some o) ∨ ∃ j, j < ns.length ∧ i = .ret 0 j ∧ ns[j]? = some o := by
      intro i o ho
      unfold outHp at ho
      split at ho
      · rename_i o2 hh
        obtain ⟨j, hj, hos⟩ := hpOf_some hh
        simp at ho; subst ho
        have hlt : j < ids.length := by rw [← hl1]; exact (List.getElem?_eq_some_iff.1 hos).1
        exact .inl ⟨j, ids[j], by rw [hj]; simp, List.getElem?_eq_getElem hlt, hos⟩
      · obtain ⟨j, hj, hos⟩ := hpOf_some ho
        exact .inr ⟨j, (List.getElem?_eq_some_iff.1 hos).1, by rw [hj]; simp, hos⟩
    have hlA : ∀ (j : Nat) (i : Id), ids[j]? = some i → loc2 (.arg j) = loc i := by
      intro j i hj
      obtain ⟨o, ho, hh⟩ := hand_get (m := numFrom .arg 0 ids) hg hj
      rw [hex.lc _ _ hh]
      simp [argLoc, hj]
    have hbl : ∀ (j : Nat) (i : Id), ids[j]? = some i → backLoc loc loc2 d ns.length i = loc i := fun j i hj => backLoc_ne (hidn i (List.mem_of_getElem? hj))
    -- where an object comes from
    have hsrc : ∀ i o, h2' i = some o → (∃ j o2, ids[j]? = some i ∧ os2[j]? = some o2 ∧ o = renO m2 o2 ∧ outHp os2 ns (.arg j) = some o2) ∨
        (∃ j o2, j < ns.length ∧ i = .ret d j ∧ o = renO m2 o2 ∧ outHp os2 ns (.ret 0 j) = some o2) ∨ (i ∉ ids ∧ i ∉ retIds d ns.length ∧ h i = some o) := by
      intro i o ho
      by_cases hi : i ∈ ids
      · obtain ⟨j, hj⟩ := List.getElem?_of_mem hi
        obtain ⟨o2, q1, q2, q3⟩ := hA j i hj
        rw [ho] at q2
        exact .inl ⟨j, o2, hj, q1, Option.some.inj q2, q3⟩
      · by_cases hr : i ∈ retIds d ns.length
        · obtain ⟨j, hj, rfl⟩ := retIds_mem.1 hr
          obtain ⟨o2, q1, q2, q3⟩ := hB j hj
          rw [ho] at q2
          exact .inr (.inl ⟨j, o2, hj, rfl, Option.some.inj q2, q3⟩)
        · exact .inr (.inr ⟨hi, hr, by rw [← hC i hi hr]; exact ho⟩)
    -- what may be written
    have hmut : ∀ b, Mut U h2' (backLoc loc loc2 d ns.length) b ↔ Mut (Priv U h loc ids) (outHp os2 ns) loc2 b := by
      intro b
      constructor
      · rintro (hu | ⟨i, o, c, ho, hlv, hlo⟩)
        · exact .inl (.inl hu)
        · rcases hsrc i o ho with ⟨j, o2, q1, q2, rfl, q3⟩ | ⟨j, o2, q1, rfl, rfl, q3⟩ | ⟨q1, q2, q3⟩
          · rw [hbl j i q1] at hlo
            exact .inr ⟨.arg j, o2, c, q3, by rw [← (renO_same (m := m2) o2).live]; exact hlv, by rw [hlA j i q1]; exact hlo⟩
          · rw [backLoc_ret q1] at hlo
            exact .inr ⟨.ret 0 j, o2, c, q3, by rw [← (renO_same (m := m2) o2).live]; exact hlv, hlo⟩
          · rw [backLoc_ne q2] at hlo
            exact .inl (.inr ⟨i, o, c, q3, hlv, hlo, q1⟩)
      · rintro ((hu | ⟨i, o, c, ho, hlv, hlo, hn⟩) | ⟨i, o, c, ho, hlv, hlo⟩)
        · exact .inl hu
        · have hr : i ∉ retIds d ns.length := fun hr => by rw [hfr i hr] at ho; cases ho
          exact .inr ⟨i, o, c, by rw [hC i hn hr]; exact ho, hlv, by rw [backLoc_ne hr]; exact hlo⟩
        · rcases hO i o ho with ⟨j, id, rfl, q1, q2⟩ | ⟨j, q1, rfl, q2⟩
          · obtain ⟨o2, r1, r2, r3⟩ := hA j id q1
            rw [q2] at r1
            obtain rfl := Option.some.inj r1
            exact .inr ⟨id, _, c, r2, by rw [(renO_same (m := m2) o).live]; exact hlv, by rw [hbl j id q1, ← hlA j id q1]; exact hlo⟩
          · obtain ⟨o2, r1, r2, r3⟩ := hB j q1
            rw [q2] at r1
            obtain rfl := Option.some.inj r1
            exact .inr ⟨.ret d j, _, c, r2, by rw [(renO_same (m := m2) o).live]; exact hlv, by rw [backLoc_ret q1]; exact hlo⟩
    have hren : Ren m2 (outHp os2 ns) loc2 h2' (backLoc loc loc2 d ns.length) := by
      refine ⟨fun i b o hl ho => ?_⟩
      rw [← hm2] at hl
      rcases look_back hl with ⟨j, rfl, hj⟩ | ⟨j, hj, rfl, rfl⟩
      · obtain ⟨o2, q1, q2, q3⟩ := hA j b hj
        rw [ho] at q3
        obtain rfl := Option.some.inj q3
        exact ⟨_, q2, renO_same o, by rw [hbl j b hj, hlA j b hj]⟩
      · obtain ⟨o2, q1, q2, q3⟩ := hB j hj
        rw [ho] at q3
        obtain rfl := Option.some.inj q3
        exact ⟨_, q2, renO_same o, backLoc_ret hj⟩
    have hex' : Ext U h loc w h2' (backLoc loc loc2 d ns.length) w' := by
      refine ⟨hex.os, hex.tape, hex.output, ⟨hex.keeps.size, fun b hb hm => ?_⟩, ?_, ?_, fun b hb hu => hex.old b hb (.inl hu)⟩
      · have := hex.keeps.same b hb (fun hm2 => hm ((hand_mut hd hg b).1 hm2))
        exact ⟨fun hm3 => this.1 ((hmut b).1 hm3), this.2⟩
      · intro i o ho
        exact backLoc_ne fun hr => by rw [hfr i hr] at ho; cases ho
      · intro i o ho
        have hr : i ∉ retIds d ns.length := fun hr => by rw [hfr i hr] at ho; cases ho
        by_cases hi : i ∈ ids
        · obtain ⟨j, hj⟩ := List.getElem?_of_mem hi
          obtain ⟨o2, q1, q2, q3⟩ := hA j i hj
          obtain ⟨o3, ho3, hh⟩ := hand_get (m := numFrom .arg 0 ids) hg hj
          rw [ho] at ho3
          obtain rfl := Option.some.inj ho3
          obtain ⟨o4, ho4, ht⟩ := hex.ent _ _ hh
          rw [q3] at ho4
          obtain rfl := Option.some.inj ho4
          exact ⟨_, q2, ((Turns.atLoc (loc := loc) (id := i) (by simp [argLoc, hj]) ht).unren).renO⟩
        · exact ⟨o, by rw [hC i hi hr]; exact ho, Turns.refl _ _ _⟩
    have hM : ∀ b, Mut U h2' (backLoc loc loc2 d ns.length) b → Mut (Priv U h loc ids) (outHp os2 ns) loc2 b := fun b hb => (hmut b).1 hb
    -- a live object's block: the callee's, or the caller's own
    have hown : ∀ i o b c, h2' i = some o → o.live = true → backLoc loc loc2 d ns.length i = some (b, c) →
        (∃ x o2, outHp os2 ns x = some o2 ∧ o2.live = true ∧ loc2 x = some (b, c) ∧ look m2 x = some i) ∨ (i ∉ ids ∧ h i = some o ∧ loc i = some (b, c) ∧ Priv U h loc ids b) := by
      intro i o b c ho hlv hlo
      rcases hsrc i o ho with ⟨j, o2, q1, q2, rfl, q3⟩ | ⟨j, o2, q1, rfl, rfl, q3⟩ | ⟨q1, q2, q3⟩
      · rw [hbl j i q1] at hlo
        refine .inl ⟨.arg j, o2, q3, by rw [← (renO_same (m := m2) o2).live]; exact hlv, by rw [hlA j i q1]; exact hlo, ?_⟩
        rw [← hm2]
        exact lookA q1
      · rw [backLoc_ret q1] at hlo
        refine .inl ⟨.ret 0 j, o2, q3, by rw [← (renO_same (m := m2) o2).live]; exact hlv, hlo, ?_⟩
        rw [← hm2]
        exact lookR q1
      · rw [backLoc_ne q2] at hlo
        exact .inr ⟨q1, q3, hlo, .inr ⟨i, o, c, q3, hlv, hlo, q1⟩⟩
    refine ⟨backLoc loc loc2 d ns.length, ⟨?_, ?_, ?_, fun b hb => Nat.lt_of_lt_of_le (hw.low b hb) hex.keeps.size, hw2.gl.1, (hw.gl.step hex').2⟩, hex', VW.ren hren hM v hv⟩
    · intro i o ho
      rcases hsrc i o ho with ⟨j, o2, q1, q2, rfl, q3⟩ | ⟨j, o2, q1, rfl, rfl, q3⟩ | ⟨q1, q2, q3⟩
      · exact OW.ren hren hM (by rw [hbl j i q1, hlA j i q1]) (hw2.obj _ _ q3)
      · exact OW.ren hren hM (backLoc_ret q1) (hw2.obj _ _ q3)
      · exact OW.ext hex' (hw.obj i o q3) (fun _ => backLoc_ne q2) (fun b c hlv hlo => hex.old b (hw.sep i o b c q3 hlv hlo).2 (.inr ⟨i, o, c, q3, hlv, hlo, q1⟩))
    · intro i1 i2 o1 o2 b c1 c2 ho1 hl1' ho2 hl2' hb1 hb2
      rcases hown i1 o1 b c1 ho1 hl1' hb1 with ⟨x1, p1, q1, q2, q3, q4⟩ | ⟨q1, q2, q3, q4⟩ <;> rcases hown i2 o2 b c2 ho2 hl2' hb2 with ⟨x2, p2, r1, r2, r3, r4⟩ | ⟨r1, r2, r3, r4⟩
      · have := hw2.inj x1 x2 p1 p2 b c1 c2 q1 q2 r1 r2 q3 r3
        subst this
        rw [q4] at r4
        exact Option.some.inj r4
      · exact absurd r4 (hw2.sep x1 p1 b c1 q1 q2 q3).1
      · exact absurd q4 (hw2.sep x2 p2 b c2 r1 r2 r3).1
      · exact hw.inj i1 i2 o1 o2 b c1 c2 q2 hl1' r2 hl2' q3 r3
    · intro i o b c ho hlv hlo
      rcases hown i o b c ho hlv hlo with ⟨x1, p1, q1, q2, q3, q4⟩ | ⟨q1, q2, q3, q4⟩
      · have := hw2.sep x1 p1 b c q1 q2 q3
        exact ⟨fun hu => this.1 (.inl hu), this.2⟩
      · have := hw.sep i o b c q2 hlv q3
        exact ⟨this.1, Nat.lt_of_lt_of_le this.2 hex.keeps.size⟩

end
end Go.Vm
