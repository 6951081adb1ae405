/-
  Loops: what is kept at a head, what a state is taken for behind.
-/
import Derived.Test.YtepghohkfnmhmaaDoorVmDrawC
namespace Go.Vm
variable {G : Gl}
set_option linter.unusedVariables false
set_option linter.unusedSimpArgs false

section
variable {P : Program} {cfg : Cfg} {T Ti : CallSem} {me nt na : Nat} {U : Nat → Prop} {loc0 : Loc} {w0 : World} {fr fr' : Fr} {h h' : Hp} {loc loc' : Loc} {a : Act} {w : World} {objs : List Obj}

/-! ### Lists of names -/

theorem distinct_nodup : ∀ {l : List Id}, distinct l = true ↔ l.Nodup
  | [] => by simp [distinct]
  | i :: l => by
    simp only [distinct, Bool.and_eq_true, Bool.not_eq_true', List.nodup_cons, distinct_nodup (l := l)]
    constructor
    · rintro ⟨h1, h2⟩
      exact ⟨fun h => (by rw [memId_iff.2 h] at h1; cases h1), h2⟩
    · rintro ⟨h1, h2⟩
      refine ⟨?_, h2⟩
      cases hm : memId i l with
      | false => rfl
      | true => exact absurd (memId_iff.1 hm) h1

theorem look_mem {m : List (Id × Id)} : ∀ {a b : Id}, look m a = some b → (a, b) ∈ m := by
  induction m with
  | nil => intro a b h; simp [look] at h
  | cons p m ih =>
    intro a b h
    obtain ⟨x, y⟩ := p
    simp only [look] at h
    cases hb : Id.beq x a with
    | true =>
      rw [hb] at h
      simp at h
      rw [Id.beq_true.1 hb, h]
      exact List.mem_cons_self ..
    | false => rw [hb] at h; exact List.mem_cons_of_mem _ (ih h)

theorem look_of_mem {m : List (Id × Id)} (hd : (m.map (·.1)).Nodup) : ∀ {a b : Id}, (a, b) ∈ m → look m a = some b := by
  induction m with
  | nil => intro a b h; cases h
  | cons p m ih =>
    intro a b h
    obtain ⟨x, y⟩ := p
    simp only [List.map_cons, List.nodup_cons] at hd
    simp only [look]
    rcases List.mem_cons.1 h with h | h
    · simp only [Prod.mk.injEq] at h
      obtain ⟨rfl, rfl⟩ := h
      simp [Id.beq_self]
    · have hne : x ≠ a := by
        rintro rfl
        exact hd.1 (List.mem_map.2 ⟨_, h, rfl⟩)
      rw [Id.beq_ne hne]
      exact ih hd.2 h

theorem hpIds_mem {l : List (Id × Obj)} : ∀ {b : Id} {o : Obj}, hpIds l b = some o → (b, o) ∈ l := by
  induction l with
  | nil => intro b o h; simp [hpIds] at h
  | cons p l ih =>
    intro b o h
    obtain ⟨x, y⟩ := p
    simp only [hpIds] at h
    cases hb : Id.beq b x with
    | true =>
      rw [hb] at h
      simp at h
      rw [Id.beq_true.1 hb, h]
      exact List.mem_cons_self ..
    | false => rw [hb] at h; exact List.mem_cons_of_mem _ (ih h)

theorem hpIds_of_mem {l : List (Id × Obj)} (hd : (l.map (·.1)).Nodup) : ∀ {b : Id} {o : Obj}, (b, o) ∈ l → hpIds l b = some o := by
  induction l with
  | nil => intro b o h; cases h
  | cons p l ih =>
    intro b o h
    obtain ⟨x, y⟩ := p
    simp only [List.map_cons, List.nodup_cons] at hd
    simp only [hpIds]
    rcases List.mem_cons.1 h with h | h
    · simp only [Prod.mk.injEq] at h
      obtain ⟨rfl, rfl⟩ := h
      simp [Id.beq_self]
    · have hne : b ≠ x := by
        intro e
        exact hd.1 (List.mem_map.2 ⟨(b, o), h, e⟩)
      rw [Id.beq_ne hne]
      exact ih hd.2 h

theorem frOf_mem : ∀ {l : List (Nat × V)} {t : Nat}, (t, frOf l t) ∈ l ∨ frOf l t = .c .hole
  | [], t => .inr rfl
  | (s, v) :: l, t => by
    simp only [frOf]
    cases hb : Nat.beq t s with
    | true =>
      have := Nat.eq_of_beq_eq_true hb
      subst this
      exact .inl (List.mem_cons_self ..)
    | false =>
      rcases frOf_mem (l := l) (t := t) with h | h
      · exact .inl (List.mem_cons_of_mem _ h)
      · exact .inr h

/-! ### The entry's objects -/

theorem arg_lt {os : List Obj} {id : Id} {o : Obj} (h : hpOf .arg 0 os id = some o) : ∃ j, j < os.length ∧ id = .arg j := by
  obtain ⟨j, rfl, hj⟩ := hpOf_some h
  exact ⟨j, (List.getElem?_eq_some_iff.1 hj).1, by simp⟩

theorem allIn_args {l : List Id} (ha : allIn l ((List.range na).map Id.arg) = true) {j : Nat} (hj : j < na) : Id.arg j ∈ l :=
  allIn_iff.1 ha _ (List.mem_map.2 ⟨j, List.mem_range.2 hj, rfl⟩)

/-- A table of objects in the place of another: nothing in memory has changed. -/
theorem Ext.turnTo (hex : Ext U (hpOf .arg 0 objs) loc0 w0 h loc w) (hM : ∀ b, Mut U h' loc' b → Mut U h loc b)
    (hk : ∀ j, j < objs.length → loc' (.arg j) = loc (.arg j) ∧ ∀ o, h (.arg j) = some o → ∃ o', h' (.arg j) = some o' ∧ Same o o') : Ext U (hpOf .arg 0 objs) loc0 w0 h' loc' w := by
  refine ⟨hex.os, hex.tape, hex.output, ⟨hex.keeps.size, fun b hb hm => ?_⟩, ?_, ?_, hex.old⟩
  · have := hex.keeps.same b hb hm
    exact ⟨fun h => this.1 (hM b h), this.2⟩
  · intro id o ho
    obtain ⟨j, hj, rfl⟩ := arg_lt ho
    rw [(hk j hj).1, hex.lc _ _ ho]
  · intro id o ho
    obtain ⟨j, hj, rfl⟩ := arg_lt ho
    obtain ⟨o1, ho1, ht⟩ := hex.ent _ _ ho
    obtain ⟨o2, ho2, hs⟩ := (hk j hj).2 o1 ho1
    refine ⟨o2, ho2, ?_⟩
    cases o1 with
    | box cs => cases o2 <;> simp [Same] at hs; cases o <;> exact ht
    | row wr k l => simp only [Same] at hs; rw [hs]; exact ht
    | dead => cases o2 <;> simp [Same] at hs; exact ht

theorem Same.trans {a b c : Obj} (h1 : Same a b) (h2 : Same b c) : Same a c := by
  cases a with
  | box cs => cases b <;> simp [Same] at h1; cases c <;> simp [Same] at h2 ⊢
  | row wr k l => simp only [Same] at h1; rw [h1] at h2; exact h2
  | dead => cases b <;> simp [Same] at h1; cases c <;> simp [Same] at h2 ⊢

/-! ### A loop's head -/

theorem findRow_mem {p : Place} : ∀ {rows : List (Place × Id)} {j : Id}, findRow p rows = some j → (p, j) ∈ rows
  | [], j, h => by simp [findRow] at h
  | (q, i) :: rows, j, h => by
    simp only [findRow] at h
    cases hb : Place.beq q p with
    | true =>
      rw [hb] at h
      simp at h
      have : q = p := by
        cases q <;> cases p <;> simp [Place.beq] at hb
        · rw [hb]
        · rw [Id.beq_true.1 hb.1, hb.2]
      rw [this, h]
      exact List.mem_cons_self ..
    | false => rw [hb] at h; exact List.mem_cons_of_mem _ (findRow_mem h)

theorem mem_keepObjs {s : St} {m : List (Id × Id)} {rows : List (Place × Id)} : ∀ {l : List Id} {b : Id} {o : Obj}, (b, o) ∈ keepObjs s m rows l ↔ b ∈ l ∧ ∃ o0, s.h b = some o0 ∧ o = thawO rows b (renO m o0)
  | [], b, o => by simp [keepObjs]
  | i :: l, b, o => by
    simp only [keepObjs, List.mem_append, mem_keepObjs (l := l), List.mem_cons]
    constructor
    · rintro (h1 | ⟨h1, h2⟩)
      · cases hi : s.h i with
        | none => rw [hi] at h1; simp at h1
        | some o0 =>
          rw [hi] at h1
          simp only [List.mem_singleton, Prod.mk.injEq] at h1
          obtain ⟨rfl, rfl⟩ := h1
          exact ⟨.inl rfl, o0, hi, rfl⟩
      · exact ⟨.inr h1, h2⟩
    · rintro ⟨rfl | h1, o0, h2, rfl⟩
      · left; rw [h2]; simp
      · exact .inr ⟨h1, o0, h2, rfl⟩

theorem mem_keepRows {s : St} {m : List (Id × Id)} : ∀ {rows : List (Place × Id)} {b : Id} {o : Obj}, (b, o) ∈ keepRows s m rows ↔
    ∃ p, (p, b) ∈ rows ∧ ((∃ i kk o0, atPlace s p = some (.row i kk) ∧ s.h i = some o0 ∧ o = renO m o0) ∨ ∃ k l, atPlace s p = some (.f (.sl true k l)) ∧ o = .row (isNil l) k l)
  | [], b, o => by simp [keepRows]
  | (p, j) :: rows, b, o => by
    simp only [keepRows, List.mem_append, mem_keepRows (rows := rows), List.mem_cons, Prod.mk.injEq]
    constructor
    · rintro (h1 | ⟨q, h1, h2⟩)
      · split at h1
        · rename_i i kk hp
          cases hi : s.h i with
          | none => rw [hi] at h1; simp at h1
          | some o0 =>
            rw [hi] at h1
            simp only [List.mem_singleton, Prod.mk.injEq] at h1
            obtain ⟨rfl, rfl⟩ := h1
            exact ⟨p, .inl ⟨rfl, rfl⟩, .inl ⟨i, kk, o0, hp, hi, rfl⟩⟩
        · rename_i k l hp
          simp only [List.mem_singleton, Prod.mk.injEq] at h1
          obtain ⟨rfl, rfl⟩ := h1
          exact ⟨p, .inl ⟨rfl, rfl⟩, .inr ⟨k, l, hp, rfl⟩⟩
        · simp at h1
      · exact ⟨q, .inr h1, h2⟩
    · rintro ⟨q, ⟨rfl, rfl⟩ | h1, h2⟩
      · left
        rcases h2 with ⟨i, kk, o0, hp, hi, rfl⟩ | ⟨k, l, hp, rfl⟩
        · rw [hp]; simp only; rw [hi]; simp
        · rw [hp]; simp
      · exact .inr ⟨q, h1, h2⟩

theorem keepObjs_names {s : St} {m : List (Id × Id)} {rows : List (Place × Id)} : ∀ {l : List Id}, ((keepObjs s m rows l).map (·.1)).Sublist l
  | [] => by simp [keepObjs]
  | i :: l => by
    simp only [keepObjs, List.map_append]
    cases s.h i with
    | none => exact (keepObjs_names (l := l)).cons i
    | some o => exact (keepObjs_names (l := l)).cons_cons i

theorem keepRows_names {s : St} {m : List (Id × Id)} : ∀ {rows : List (Place × Id)}, ((keepRows s m rows).map (·.1)).Sublist (rows.map (·.2))
  | [] => by simp [keepRows]
  | (p, j) :: rows => by
    simp only [keepRows, List.map_append, List.map_cons]
    split
    · rename_i i kk _
      cases s.h i with
      | none => exact (keepRows_names (rows := rows)).cons j
      | some o => exact (keepRows_names (rows := rows)).cons_cons j
    · exact (keepRows_names (rows := rows)).cons_cons j
    · exact (keepRows_names (rows := rows)).cons j

theorem mem_keepMap {s : St} {k : Keep} {a b : Id} : (a, b) ∈ keepMap s k ↔ (a = b ∧ b ∈ k.objs) ∨ ∃ p kk, (p, b) ∈ k.rows ∧ atPlace s p = some (.row a kk) := by
  unfold keepMap
  simp only [List.mem_append, List.mem_map, List.mem_filterMap, Prod.mk.injEq]
  constructor
  · rintro (⟨i, hi, rfl, rfl⟩ | ⟨⟨p, j⟩, hp, h1⟩)
    · exact .inl ⟨rfl, hi⟩
    · simp only at h1
      split at h1
      · rename_i i kk hat
        simp only [Option.some.injEq, Prod.mk.injEq] at h1
        obtain ⟨rfl, rfl⟩ := h1
        exact .inr ⟨p, kk, hp, hat⟩
      · cases h1
  · rintro (⟨rfl, h1⟩ | ⟨p, kk, h1, h2⟩)
    · exact .inl ⟨a, h1, rfl, rfl⟩
    · exact .inr ⟨(p, b), h1, by simp only [h2]⟩

theorem thawO_same {rows : List (Place × Id)} {i : Id} (o : Obj) : Same o (thawO rows i o) := by cases o <;> simp [Same, thawO]

theorem renC_tight {m : List (Id × Id)} {c : C} {k : Kind} {l : List (El k)} (h : renC m c = .f (.sl true k l)) : c = .f (.sl true k l) := by
  cases c with
  | f x => unfold renC at h; exact h
  | bx id off => unfold renC at h; cases hl : look m id <;> rw [hl] at h <;> simp at h
  | row id kk => unfold renC at h; cases hl : look m id <;> rw [hl] at h <;> simp at h
  | re id kk i off => unfold renC at h; cases hl : look m id <;> rw [hl] at h <;> simp at h
  | fn f caps => unfold renC at h; simp at h
  | hole => unfold renC at h; simp at h
  | und => unfold renC at h; simp at h

theorem swap_mem {m : List (Id × Id)} {a b : Id} : (b, a) ∈ swap m ↔ (a, b) ∈ m := by
  unfold swap
  simp only [List.mem_map, Prod.mk.injEq]
  constructor
  · rintro ⟨⟨x, y⟩, h1, rfl, rfl⟩; exact h1
  · intro h; exact ⟨(a, b), h, rfl, rfl⟩

theorem thaw_cell {M : Nat → Prop} {v : Value} {j : Id} {c : C} (hc : CW w M h loc v c) (hj : ∀ k l, c = .f (.sl true k l) → h j = some (.row (isNil l) k l) ∧ loc j = none) : CW w M h loc v (thawAt j c) := by
  unfold thawAt
  split
  · rename_i k l
    obtain ⟨h1, h2⟩ := hj k l rfl
    unfold CW at hc ⊢
    obtain ⟨n, hn⟩ := hc
    cases n with
    | zero => exact hn.elim
    | succ n =>
      have hn' := hn
      obtain ⟨A, c, rfl, _⟩ := hn
      refine ⟨⟨_, _, _, rfl⟩, by rw [h1]; rfl, fun wr k' l' hl => ?_⟩
      rw [h1] at hl
      simp only [Option.some.injEq, Obj.row.injEq] at hl
      obtain ⟨rfl, rfl, hl⟩ := hl
      obtain rfl := eq_of_heq hl
      exact ⟨rfl, fun b c hb => (by rw [h2] at hb; cases hb), fun _ => ⟨n + 1, hn'⟩⟩
  · exact hc

theorem thaw_cells {M : Nat → Prop} {rows : List (Place × Id)} {i : Id} : ∀ {cs : List C} {vs : List Value} {off : Nat}, CWs w M h loc vs cs →
    (∀ x c j, cs[x]? = some c → findRow (.cell i (off + x)) rows = some j → ∀ k l, c = .f (.sl true k l) → h j = some (.row (isNil l) k l) ∧ loc j = none) → CWs w M h loc vs (thawCs rows i off cs)
  | [], [], off, _, _ => by unfold thawCs CWs; trivial
  | [], _ :: _, off, hc, _ => by unfold CWs at hc; exact hc.elim
  | c :: cs, [], off, hc, _ => by unfold CWs at hc; exact hc.elim
  | c :: cs, v :: vs, off, hc, hj => by
    unfold thawCs
    unfold CWs at hc ⊢
    refine ⟨?_, thaw_cells hc.2 fun x c' j hx hf => hj (x + 1) c' j (by simpa using hx) (by rw [show off + (x + 1) = off + 1 + x by omega]; exact hf)⟩
    split
    · rename_i j hf
      exact thaw_cell hc.1 (hj 0 c j rfl (by simpa using hf))
    · exact hc.1

theorem mem_keepSlots {s : St} {m : List (Id × Id)} {rows : List (Place × Id)} : ∀ {l : List Nat} {t : Nat} {v : V}, (t, v) ∈ keepSlots s m rows l → v = (match findRow (.slot t) rows with | some j => thawV j (renV m (s.fr t)) | none => renV m (s.fr t))
  | [], t, v, h => by simp [keepSlots] at h
  | x :: l, t, v, h => by
    simp only [keepSlots, List.mem_cons, Prod.mk.injEq] at h
    rcases h with ⟨rfl, rfl⟩ | h
    · rfl
    · exact mem_keepSlots h

theorem renCs_get {m : List (Id × Id)} : ∀ {cs : List C} {x : Nat} {c : C}, (renCs m cs)[x]? = some c → ∃ c0, cs[x]? = some c0 ∧ c = renC m c0
  | [], x, c, h => by unfold renCs at h; simp at h
  | d :: cs, x, c, h => by
    unfold renCs at h
    cases x with
    | zero => simp at h; subst h; exact ⟨d, rfl, rfl⟩
    | succ x => obtain ⟨c0, h1, h2⟩ := renCs_get (cs := cs) (x := x) (by simpa using h); exact ⟨c0, by simpa using h1, h2⟩

theorem clean_ok {k : Keep} {s' : St} (hr : Rp G U (hpOf .arg 0 objs) loc0 w0 nt fr h a w) (hc : clean objs.length k ⟨fr, h⟩ = some s') : Rp G U (hpOf .arg 0 objs) loc0 w0 nt s'.fr s'.h a w := by
  obtain ⟨loc, hw, hf, hex, hn, hd⟩ := hr
  unfold clean at hc
  simp only at hc
  generalize hm : keepMap ⟨fr, h⟩ k = m at hc
  cases hcond : distinct (k.objs ++ k.rows.map (·.2)) && distinct (m.map (·.1)) && allIn k.objs ((List.range objs.length).map Id.arg) with
  | false => rw [hcond] at hc; simp at hc
  | true =>
    rw [hcond] at hc
    simp only [cond_true, Option.some.injEq] at hc
    subst hc
    simp only [Bool.and_eq_true] at hcond
    have d1 := distinct_nodup.1 hcond.1.1
    have d2 := distinct_nodup.1 hcond.1.2
    have d3 := hcond.2
    -- the pairs
    have hpair : ∀ {p q : Place} {b : Id}, (p, b) ∈ k.rows → (q, b) ∈ k.rows → p = q := by
      intro p q b h1 h2
      have dr : (k.rows.map (·.2)).Nodup := (List.nodup_append.1 d1).2.1
      exact nodup_snd dr h1 h2
    have hdisj : ∀ {p : Place} {b : Id}, (p, b) ∈ k.rows → b ∉ k.objs := by
      intro p b h1 h2
      exact (List.nodup_append.1 d1).2.2 b h2 b (List.mem_map.2 ⟨_, h1, rfl⟩) rfl
    have huniq : ∀ {x y b : Id}, (x, b) ∈ m → (y, b) ∈ m → x = y := by
      intro x y b h1 h2
      rw [← hm] at h1 h2
      rcases mem_keepMap.1 h1 with ⟨rfl, h3⟩ | ⟨p, kk, h3, h4⟩ <;> rcases mem_keepMap.1 h2 with ⟨rfl, h5⟩ | ⟨q, kk', h5, h6⟩
      · rfl
      · exact absurd h3 (hdisj h5)
      · exact absurd h5 (hdisj h3)
      · have := hpair h3 h5
        subst this
        rw [h4] at h6
        simp at h6
        exact h6.1
    have hl1 : ∀ {x b : Id}, look m x = some b ↔ (x, b) ∈ m := fun {x b} => ⟨look_mem, look_of_mem d2⟩
    have hl2 : ∀ {x b : Id}, (x, b) ∈ m → look (swap m) b = some x := by
      intro x b h1
      cases hl : look (swap m) b with
      | none =>
        exfalso
        have : ∀ {l : List (Id × Id)} {y : Id}, (b, y) ∈ l → look l b ≠ none := by
          intro l
          induction l with
          | nil => intro y h; cases h
          | cons q l ih =>
            intro y h
            obtain ⟨u, v⟩ := q
            simp only [look]
            cases hb : Id.beq u b with
            | true => simp
            | false =>
              simp only [cond_false]
              rcases List.mem_cons.1 h with h | h
              · simp only [Prod.mk.injEq] at h
                rw [h.1, Id.beq_self] at hb
                cases hb
              · exact ih h
        exact this (swap_mem.2 h1) hl
      | some y =>
        have := swap_mem.1 (look_mem hl)
        rw [huniq this h1]
    generalize hloc : (fun b => (look (swap m) b).bind loc) = loc'
    have hlocp : ∀ {x b : Id}, (x, b) ∈ m → loc' b = loc x := fun h1 => by rw [← hloc]; simp [hl2 h1]
    have hnames : ((keepObjs ⟨fr, h⟩ m k.rows k.objs ++ keepRows ⟨fr, h⟩ m k.rows).map (·.1)).Nodup := by
      rw [List.map_append]
      exact d1.sublist (keepObjs_names.append keepRows_names)
    generalize hh' : hpIds (keepObjs ⟨fr, h⟩ m k.rows k.objs ++ keepRows ⟨fr, h⟩ m k.rows) = h'
    have hin : ∀ {b : Id} {o : Obj}, h' b = some o ↔ (b ∈ k.objs ∧ ∃ o0, h b = some o0 ∧ o = thawO k.rows b (renO m o0)) ∨
        ∃ p, (p, b) ∈ k.rows ∧ ((∃ i kk o0, atPlace ⟨fr, h⟩ p = some (.row i kk) ∧ h i = some o0 ∧ o = renO m o0) ∨ ∃ kk l, atPlace ⟨fr, h⟩ p = some (.f (.sl true kk l)) ∧ o = .row (isNil l) kk l) := by
      intro b o
      rw [← hh']
      constructor
      · intro h1
        rcases List.mem_append.1 (hpIds_mem h1) with h2 | h2
        · exact .inl (mem_keepObjs.1 h2)
        · exact .inr (mem_keepRows.1 h2)
      · intro h1
        refine hpIds_of_mem hnames (List.mem_append.2 ?_)
        exact h1.imp mem_keepObjs.2 mem_keepRows.2
    have hthaw : ∀ {p : Place} {j : Id} {kk : Kind} {l : List (El kk)}, (p, j) ∈ k.rows → atPlace ⟨fr, h⟩ p = some (.f (.sl true kk l)) → h' j = some (.row (isNil l) kk l) ∧ loc' j = none := by
      intro p j kk l h1 h2
      refine ⟨hin.2 (.inr ⟨p, h1, .inr ⟨kk, l, h2, rfl⟩⟩), ?_⟩
      rw [← hloc]
      cases hl : look (swap m) j with
      | none => simp only [hl]; rfl
      | some x =>
        exfalso
        have h3 := swap_mem.1 (look_mem hl)
        rw [← hm] at h3
        rcases mem_keepMap.1 h3 with ⟨rfl, h4⟩ | ⟨q, kk', h4, h5⟩
        · exact hdisj h1 h4
        · have := hpair h1 h4
          subst this
          rw [h2] at h5
          cases h5
    have hren : Ren m h loc h' loc' := by
      refine ⟨fun x b o hl ho => ?_⟩
      have hxb := hl1.1 hl
      refine (?_ : ∃ o', h' b = some o' ∧ Same o o').elim fun o' h1 => ⟨o', h1.1, h1.2, hlocp hxb⟩
      rw [← hm] at hxb
      rcases mem_keepMap.1 hxb with ⟨rfl, h4⟩ | ⟨q, kk', h4, h5⟩
      · exact ⟨_, hin.2 (.inl ⟨h4, o, ho, rfl⟩), (renO_same o).trans (thawO_same _)⟩
      · exact ⟨_, hin.2 (.inr ⟨q, h4, .inl ⟨x, kk', o, h5, ho, rfl⟩⟩), renO_same o⟩
    have hsrc : Src' m h loc h' loc' := by
      intro b o' blk c hb hlv hlo
      rw [← hloc] at hlo
      simp only [Option.bind_eq_some_iff] at hlo
      obtain ⟨x, hx, hlx⟩ := hlo
      have hxb := swap_mem.1 (look_mem hx)
      refine ⟨x, ?_⟩
      rcases hin.1 hb with ⟨h1, o0, h2, rfl⟩ | ⟨p, h1, ⟨i, kk, o0, h2, h3, rfl⟩ | ⟨kk, l, h2, rfl⟩⟩
      · have hbb : (b, b) ∈ m := by rw [← hm]; exact mem_keepMap.2 (.inl ⟨rfl, h1⟩)
        have := huniq hxb hbb
        subst this
        exact ⟨o0, hl1.2 hxb, h2, by rw [← ((renO_same o0).trans (thawO_same _)).live]; exact hlv, hlx⟩
      · have hib : (i, b) ∈ m := by rw [← hm]; exact mem_keepMap.2 (.inr ⟨p, kk, h1, h2⟩)
        have := huniq hxb hib
        subst this
        exact ⟨o0, hl1.2 hxb, h3, by rw [← (renO_same (m := m) o0).live]; exact hlv, hlx⟩
      · have := (hthaw h1 h2).2
        rw [hlocp hxb, hlx] at this
        cases this
    have hM : ∀ b, Mut U h' loc' b → Mut U h loc b := Mut.ren (fun b hb => .inl hb) hsrc
    refine ⟨loc', hw.ren (fun b hb => hb) (fun b hb => .inl hb) hsrc (fun x b o blk c hl ho hlv hlo => (hw.sep x o blk c ho hlv hlo).1) ?_, ?_, ?_, hn, hd⟩
    · intro b o' hb
      rcases hin.1 hb with ⟨h1, o0, h2, rfl⟩ | ⟨p, h1, ⟨i, kk, o0, h2, h3, rfl⟩ | ⟨kk, l, h2, rfl⟩⟩
      · have hbb : (b, b) ∈ m := by rw [← hm]; exact mem_keepMap.2 (.inl ⟨rfl, h1⟩)
        have ho := OW.ren hren hM (hlocp hbb) (hw.obj b o0 h2)
        cases o0 with
        | box cs =>
          obtain ⟨blk, c, us, T, q1, q2, q3⟩ := ho
          refine ⟨blk, c, us, T, q1, q2, thaw_cells q3 fun x d j hx hfr kk l hd => ?_⟩
          obtain ⟨d0, hd0, hd1⟩ := renCs_get hx
          rw [hd1] at hd
          have hd2 := renC_tight hd
          exact hthaw (findRow_mem hfr) (by simp only [atPlace, h2, Nat.zero_add]; rw [hd0, hd2])
        | row wr kk l => exact ho
        | dead => trivial
      · have hib : (i, b) ∈ m := by rw [← hm]; exact mem_keepMap.2 (.inr ⟨p, kk, h1, h2⟩)
        exact OW.ren hren hM (hlocp hib) (hw.obj i o0 h3)
      · have := (hthaw h1 h2).2
        exact ⟨fun _ hnil => isNil_ok hnil, fun blk c hl => by rw [this] at hl; cases hl⟩
    · intro t
      show VW w (Mut U h' loc') h' loc' (a.tmps.getD t undef) (frOf (keepSlots ⟨fr, h⟩ m k.rows k.slots) t)
      rcases frOf_mem (l := keepSlots ⟨fr, h⟩ m k.rows k.slots) (t := t) with h1 | h1
      · rw [mem_keepSlots h1]
        have hv := VW.ren hren hM (fr t) (hf t)
        show VW w (Mut U h' loc') h' loc' (a.tmps.getD t undef) (match findRow (.slot t) k.rows with | some j => thawV j (renV m (fr t)) | none => renV m (fr t))
        cases hfr : findRow (.slot t) k.rows with
        | some j =>
          simp only
          have hat : ∀ c, fr t = .c c → atPlace ⟨fr, h⟩ (.slot t) = some c := fun c hc => by simp only [atPlace, hc]
          cases hft : fr t with
          | c c =>
            rw [hft] at hv
            unfold renV at hv ⊢
            unfold thawV
            unfold VW at hv ⊢
            refine thaw_cell hv fun kk l hd => hthaw (findRow_mem hfr) ?_
            rw [hat c hft, renC_tight hd]
          | agg cs => rw [hft] at hv; unfold renV at hv ⊢; exact hv
          | tup vs => rw [hft] at hv; unfold renV at hv ⊢; exact hv
        | none => exact hv
      · rw [h1]; unfold VW CW; trivial
    · refine hex.turnTo hM fun j hj => ?_
      have hjo := allIn_args d3 hj
      have hbb : (Id.arg j, Id.arg j) ∈ m := by rw [← hm]; exact mem_keepMap.2 (.inl ⟨rfl, hjo⟩)
      exact ⟨hlocp hbb, fun o ho => ⟨_, hin.2 (.inl ⟨hjo, o, ho, rfl⟩), (renO_same o).trans (thawO_same _)⟩⟩
where
  nodup_snd {rows : List (Place × Id)} (hd : (rows.map (·.2)).Nodup) {p q : Place} {b : Id} (h1 : (p, b) ∈ rows) (h2 : (q, b) ∈ rows) : p = q := by
    induction rows with
    | nil => cases h1
    | cons r rows ih =>
      simp only [List.map_cons, List.nodup_cons] at hd
      rcases List.mem_cons.1 h1 with h1 | h1 <;> rcases List.mem_cons.1 h2 with h2 | h2
      · rw [← h1] at h2; simp at h2; exact h2.symm
      · exact absurd (List.mem_map.2 ⟨_, h2, by rw [← h1]⟩) hd.1
      · exact absurd (List.mem_map.2 ⟨_, h1, by rw [← h2]⟩) hd.1
      · exact ih hd.2 h1 h2

end
end Go.Vm
