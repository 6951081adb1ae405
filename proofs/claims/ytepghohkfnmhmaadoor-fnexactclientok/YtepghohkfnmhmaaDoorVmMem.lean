/-
  What a step does to memory: a new object, a store, an append.
-/
import Derived.Test.YtepghohkfnmhmaaDoorVmRel
namespace Go.Vm
variable {G : Gl}
set_option linter.unusedVariables false
set_option linter.unusedSimpArgs false

theorem Id.beq_true {a b : Id} : Id.beq a b = true ↔ a = b := by
  cases a <;> cases b <;> simp [Id.beq]

theorem Id.beq_self (a : Id) : Id.beq a a = true := Id.beq_true.2 rfl

theorem Id.beq_ne {a b : Id} (h : a ≠ b) : Id.beq a b = false := by
  cases hb : Id.beq a b with
  | false => rfl
  | true => exact absurd (Id.beq_true.1 hb) h

theorem hput_self (h : Hp) (i : Id) (o : Obj) : hput h i o i = some o := by simp [hput, Id.beq_self]
theorem hput_ne (h : Hp) {i j : Id} (o : Obj) (hn : j ≠ i) : hput h i o j = h j := by simp [hput, Id.beq_ne hn]

theorem upd_self (fr : Fr) (d : Nat) (v : V) : upd fr d v d = v := by simp [upd]
theorem upd_ne (fr : Fr) {d t : Nat} (v : V) (h : t ≠ d) : upd fr d v t = fr t := by
  have : Nat.beq t d = false := by cases hb : Nat.beq t d with | false => rfl | true => exact absurd (Nat.eq_of_beq_eq_true hb) h
  simp [upd, this]

def lput (loc : Loc) (i : Id) (p : Option (Nat × Nat)) : Loc := fun j => bif Id.beq j i then p else loc j
theorem lput_self (loc : Loc) (i : Id) (p : Option (Nat × Nat)) : lput loc i p i = p := by simp [lput, Id.beq_self]
theorem lput_ne (loc : Loc) {i j : Id} (p : Option (Nat × Nat)) (hn : j ≠ i) : lput loc i p j = loc j := by simp [lput, Id.beq_ne hn]

theorem OW.ext {U : Nat → Prop} {h h' : Hp} {loc loc' : Loc} {w w' : World} (e : Ext U h loc w h' loc' w') {id : Id} : ∀ {o : Obj}, OW w (Mut U h loc) h loc id o →
    (o.live = true → loc' id = loc id) → (∀ b c, o.live = true → loc id = some (b, c) → w'.heap[b]? = w.heap[b]?) → OW w' (Mut U h' loc') h' loc' id o
  | .box cs, ⟨b, c, us, T, hl, hb, hc⟩, h1, h2 => ⟨b, c, us, T, by rw [h1 rfl]; exact hl, by rw [h2 b c rfl hl]; exact hb, CWs.ext e cs hc⟩
  | .row wr k l, ⟨ha, hb⟩, h1, h2 => by
    refine ⟨fun hn => ha (by rw [← h1 rfl]; exact hn), fun b c hl => ?_⟩
    rw [h1 rfl] at hl
    obtain ⟨us, T, h3, h4, h5, h6⟩ := hb b c hl
    exact ⟨us, T, by rw [h2 b c rfl hl]; exact h3, h4, h5, fun i x j f hx hf => by
      obtain ⟨u, n, hu, hr⟩ := h6 i x j f hx hf
      exact ⟨u, n, hu, hr.keeps e.keeps⟩⟩
  | .dead, _, _, _ => trivial

theorem Gl.In.step {G : Gl} {U : Nat → Prop} {h h' : Hp} {loc loc' : Loc} {w w' : World} (hg : G.In U h loc w) (e : Ext U h loc w h' loc' w') : G.In U h' loc' w' := by
  refine ⟨G.dep _ _ (fun b hb => ?_) hg.1, fun b hb => ?_⟩
  · obtain ⟨hlt, hu | hm⟩ := hg.2 b hb
    · exact e.old b hlt hu
    · exact (e.keeps.same b hlt hm).2
  · obtain ⟨hlt, hu | hm⟩ := hg.2 b hb
    · exact ⟨Nat.lt_of_lt_of_le hlt e.keeps.size, .inl hu⟩
    · exact ⟨Nat.lt_of_lt_of_le hlt e.keeps.size, .inr (e.keeps.same b hlt hm).1⟩

/-- A table of objects behind a step: each object is as it was, or is told anew. -/
theorem HW.step {U : Nat → Prop} {h h' : Hp} {loc loc' : Loc} {w w' : World} (hw : HW G U h loc w) (e : Ext U h loc w h' loc' w')
    (hobj : ∀ id o, h' id = some o → (h id = some o ∧ (o.live = true → loc' id = loc id) ∧ ∀ b c, o.live = true → loc id = some (b, c) → w'.heap[b]? = w.heap[b]?) ∨ OW w' (Mut U h' loc') h' loc' id o)
    (inj : ∀ id id' o o' b c c', h' id = some o → o.live = true → h' id' = some o' → o'.live = true → loc' id = some (b, c) → loc' id' = some (b, c') → id = id')
    (sep : ∀ id o b c, h' id = some o → o.live = true → loc' id = some (b, c) → ¬ U b ∧ b < w'.heap.size) : HW G U h' loc' w' :=
  ⟨fun id o ho => (hobj id o ho).elim (fun ⟨h1, h2, h3⟩ => OW.ext e (hw.obj id o h1) h2 h3) id_, inj, sep, fun b hb => Nat.lt_of_lt_of_le (hw.low b hb) e.keeps.size, hw.gl.step e⟩
where id_ {p : Prop} (x : p) : p := x

/-- The heap is the same. -/
theorem Ext.of_heap {U : Nat → Prop} {h : Hp} {loc : Loc} {w w' : World} (hh : w'.heap = w.heap) (h1 : w'.os = w.os) (h2 : w'.tape = w.tape) (h3 : w'.output = w.output) : Ext U h loc w h loc w' :=
  ⟨h1, h2, h3, ⟨by rw [hh]; exact Nat.le_refl _, fun _ _ hm => ⟨hm, by rw [hh]⟩⟩, fun _ _ _ => rfl, fun id o ho => ⟨o, ho, Turns.refl _ _ _⟩, fun _ _ _ => by rw [hh]⟩

theorem HW.of_heap {U : Nat → Prop} {h : Hp} {loc : Loc} {w w' : World} (hw : HW G U h loc w) (hh : w'.heap = w.heap) (h1 : w'.os = w.os) (h2 : w'.tape = w.tape) (h3 : w'.output = w.output) : HW G U h loc w' :=
  hw.step (Ext.of_heap hh h1 h2 h3) (fun id o ho => .inl ⟨ho, fun _ => rfl, fun _ _ _ _ => by rw [hh]⟩) hw.inj (fun id o b c ho hl hb => by rw [hh]; exact hw.sep id o b c ho hl hb)

theorem Ext.drew (U : Nat → Prop) (h : Hp) (loc : Loc) (w : World) : Ext U h loc w h loc { w with drawn := w.drawn + 1 } := Ext.of_heap rfl rfl rfl rfl
theorem HW.drew {U : Nat → Prop} {h : Hp} {loc : Loc} {w : World} (hw : HW G U h loc w) : HW G U h loc { w with drawn := w.drawn + 1 } := hw.of_heap rfl rfl rfl rfl

/-- A new object. -/
theorem Ext.alloc {U : Nat → Prop} {h : Hp} {loc : Loc} {w : World} (hw : HW G U h loc w) {id : Id} (hn : h id = none) (o : Obj) (x : Go.Obj) (c : Nat) :
    Ext U h loc w (hput h id o) (lput loc id (some (w.heap.size, c))) (w.alloc x) := by
  refine ⟨rfl, rfl, rfl, ⟨by simp, fun b hb hm => ⟨?_, Go.RowKit.Below.heap_alloc w x b hb⟩⟩, ?_, ?_, fun b hb _ => Go.RowKit.Below.heap_alloc w x b hb⟩
  · rintro (hu | ⟨id', o', c', ho', hl, hloc⟩)
    · exact hm (.inl hu)
    · by_cases hid : id' = id
      · subst hid
        rw [lput_self] at hloc
        simp at hloc
        omega
      · rw [hput_ne _ _ hid] at ho'
        rw [lput_ne _ _ hid] at hloc
        exact hm (.inr ⟨id', o', c', ho', hl, hloc⟩)
  · intro id' o1 h1
    have hid : id' ≠ id := by rintro rfl; rw [hn] at h1; cases h1
    rw [lput_ne _ _ hid]
  · intro id' o1 h1
    have hid : id' ≠ id := by rintro rfl; rw [hn] at h1; cases h1
    exact ⟨o1, by rw [hput_ne _ _ hid]; exact h1, Turns.refl _ _ _⟩

theorem HW.alloc {U : Nat → Prop} {h : Hp} {loc : Loc} {w : World} (hw : HW G U h loc w) {id : Id} (hn : h id = none) (o : Obj) (x : Go.Obj) (c : Nat)
    (ho : OW (w.alloc x) (Mut U (hput h id o) (lput loc id (some (w.heap.size, c)))) (hput h id o) (lput loc id (some (w.heap.size, c))) id o) :
    HW G U (hput h id o) (lput loc id (some (w.heap.size, c))) (w.alloc x) := by
  refine hw.step (Ext.alloc hw hn o x c) ?_ ?_ ?_
  · intro id' o' ho'
    by_cases hid : id' = id
    · subst hid
      rw [hput_self] at ho'
      obtain rfl := Option.some.inj ho'
      exact .inr ho
    · rw [hput_ne _ _ hid] at ho'
      exact .inl ⟨ho', fun _ => lput_ne _ _ hid, fun b c hl hb => Go.RowKit.Below.heap_alloc w x b (hw.sep id' o' b c ho' hl hb).2⟩
  · intro i1 i2 o1 o2 b c1 c2 h1 l1 h2 l2 b1 b2
    by_cases e1 : i1 = id <;> by_cases e2 : i2 = id
    · rw [e1, e2]
    · subst e1
      rw [lput_self] at b1
      rw [lput_ne _ _ e2] at b2
      rw [hput_ne _ _ e2] at h2
      have := (hw.sep i2 o2 b c2 h2 l2 b2).2
      simp at b1
      omega
    · subst e2
      rw [lput_self] at b2
      rw [lput_ne _ _ e1] at b1
      rw [hput_ne _ _ e1] at h1
      have := (hw.sep i1 o1 b c1 h1 l1 b1).2
      simp at b2
      omega
    · rw [hput_ne _ _ e1] at h1
      rw [hput_ne _ _ e2] at h2
      rw [lput_ne _ _ e1] at b1
      rw [lput_ne _ _ e2] at b2
      exact hw.inj i1 i2 o1 o2 b c1 c2 h1 l1 h2 l2 b1 b2
  · intro i o' b c' ho' hl hb
    by_cases e1 : i = id
    · subst e1
      rw [lput_self] at hb
      simp at hb
      obtain ⟨rfl, rfl⟩ := hb
      refine ⟨fun hu => ?_, by simp⟩
      have := hw.low _ hu
      omega
    · rw [hput_ne _ _ e1] at ho'
      rw [lput_ne _ _ e1] at hb
      have := hw.sep i o' b c' ho' hl hb
      exact ⟨this.1, by simp; omega⟩

/-- An object whose block is written: it turns. -/
theorem Ext.turn {U : Nat → Prop} {h : Hp} {loc : Loc} {w w' : World} {id : Id} {o o' : Obj} (ho : h id = some o) (hl : o.live = true) (ht : Turns loc id o o') {b c : Nat} (hb : loc id = some (b, c))
    (hs : w'.heap.size = w.heap.size) (hsame : ∀ k, k ≠ b → w'.heap[k]? = w.heap[k]?) (hU : ¬ U b) (h1 : w'.os = w.os) (h2 : w'.tape = w.tape) (h3 : w'.output = w.output) :
    Ext U h loc w (hput h id o') loc w' := by
  refine ⟨h1, h2, h3, ⟨by omega, fun k hk hm => ?_⟩, fun _ _ _ => rfl, ?_, fun k hk hu => hsame k (fun e => hU (e ▸ hu))⟩
  · have hne : k ≠ b := by rintro rfl; exact hm (.inr ⟨id, o, c, ho, hl, hb⟩)
    refine ⟨?_, hsame k hne⟩
    rintro (hu | ⟨i, o2, c2, ho2, hl2, hb2⟩)
    · exact hm (.inl hu)
    · by_cases e : i = id
      · subst e
        rw [hb] at hb2
        simp at hb2
        exact hne hb2.1.symm
      · rw [hput_ne _ _ e] at ho2
        exact hm (.inr ⟨i, o2, c2, ho2, hl2, hb2⟩)
  · intro i o1 h4
    by_cases e : i = id
    · subst e
      rw [ho] at h4
      obtain rfl := Option.some.inj h4
      exact ⟨o', hput_self _ _ _, ht⟩
    · exact ⟨o1, by rw [hput_ne _ _ e]; exact h4, Turns.refl _ _ _⟩

theorem HW.turn {U : Nat → Prop} {h : Hp} {loc : Loc} {w w' : World} (hw : HW G U h loc w) {id : Id} {o o' : Obj} (ho : h id = some o) (hl : o.live = true) (ht : Turns loc id o o') {b c : Nat} (hb : loc id = some (b, c))
    (hs : w'.heap.size = w.heap.size) (hsame : ∀ k, k ≠ b → w'.heap[k]? = w.heap[k]?) (h1 : w'.os = w.os) (h2 : w'.tape = w.tape) (h3 : w'.output = w.output)
    (hO : OW w' (Mut U (hput h id o') loc) (hput h id o') loc id o') : HW G U (hput h id o') loc w' := by
  have hU := (hw.sep id o b c ho hl hb).1
  refine hw.step (Ext.turn ho hl ht hb hs hsame hU h1 h2 h3) ?_ ?_ ?_
  · intro i o2 h4
    by_cases e : i = id
    · subst e
      rw [hput_self] at h4
      obtain rfl := Option.some.inj h4
      exact .inr hO
    · rw [hput_ne _ _ e] at h4
      refine .inl ⟨h4, fun _ => rfl, fun b2 c2 hl2 hb2 => hsame b2 ?_⟩
      rintro rfl
      exact e (hw.inj i id o2 o b2 c2 c h4 hl2 ho hl hb2 hb)
  · intro i1 i2 o1 o2 b0 c1 c2 h5 l1 h6 l2 b1 b2
    have f : ∀ i oo, hput h id o' i = some oo → oo.live = true → ∃ o3, h i = some o3 ∧ o3.live = true := by
      intro i oo h7 h8
      by_cases e : i = id
      · subst e; exact ⟨o, ho, hl⟩
      · rw [hput_ne _ _ e] at h7; exact ⟨oo, h7, h8⟩
    obtain ⟨o3, h9, h10⟩ := f i1 o1 h5 l1
    obtain ⟨o4, h11, h12⟩ := f i2 o2 h6 l2
    exact hw.inj i1 i2 o3 o4 b0 c1 c2 h9 h10 h11 h12 b1 b2
  · intro i oo b0 c0 h7 h8 h9
    rw [hs]
    by_cases e : i = id
    · subst e
      exact hw.sep i o b0 c0 ho hl h9
    · rw [hput_ne _ _ e] at h7
      exact hw.sep i oo b0 c0 h7 h8 h9

/-- An object is gone: its block is never written again. -/
theorem Ext.kill {U : Nat → Prop} {h : Hp} {loc : Loc} {w : World} {id : Id} {wr : Bool} {kk : Kind} {ll : List (El kk)} (ho : h id = some (.row wr kk ll)) : Ext U h loc w (hput h id .dead) loc w := by
  refine ⟨rfl, rfl, rfl, ⟨Nat.le_refl _, fun k hk hm => ⟨?_, rfl⟩⟩, fun _ _ _ => rfl, ?_, fun _ _ _ => rfl⟩
  · rintro (hu | ⟨i, o2, c2, ho2, hl2, hb2⟩)
    · exact hm (.inl hu)
    · by_cases e : i = id
      · subst e
        rw [hput_self] at ho2
        obtain rfl := Option.some.inj ho2
        simp [Obj.live] at hl2
      · rw [hput_ne _ _ e] at ho2
        exact hm (.inr ⟨i, o2, c2, ho2, hl2, hb2⟩)
  · intro i o1 h4
    by_cases e : i = id
    · subst e
      rw [ho] at h4
      obtain rfl := Option.some.inj h4
      exact ⟨.dead, hput_self _ _ _, by simp [Turns]⟩
    · exact ⟨o1, by rw [hput_ne _ _ e]; exact h4, Turns.refl _ _ _⟩

theorem HW.kill {U : Nat → Prop} {h : Hp} {loc : Loc} {w : World} (hw : HW G U h loc w) {id : Id} {wr : Bool} {kk : Kind} {ll : List (El kk)} (ho : h id = some (.row wr kk ll)) : HW G U (hput h id .dead) loc w := by
  have f : ∀ i oo, hput h id .dead i = some oo → oo.live = true → i ≠ id ∧ h i = some oo := by
    intro i oo h7 h8
    by_cases e : i = id
    · subst e
      rw [hput_self] at h7
      obtain rfl := Option.some.inj h7
      simp [Obj.live] at h8
    · rw [hput_ne _ _ e] at h7; exact ⟨e, h7⟩
  refine hw.step (Ext.kill ho) ?_ ?_ ?_
  · intro i o2 h4
    by_cases e : i = id
    · subst e
      rw [hput_self] at h4
      obtain rfl := Option.some.inj h4
      exact .inr trivial
    · rw [hput_ne _ _ e] at h4
      exact .inl ⟨h4, fun _ => rfl, fun _ _ _ _ => rfl⟩
  · intro i1 i2 o1 o2 b0 c1 c2 h5 l1 h6 l2 b1 b2
    exact hw.inj i1 i2 o1 o2 b0 c1 c2 (f _ _ h5 l1).2 l1 (f _ _ h6 l2).2 l2 b1 b2
  · intro i oo b0 c0 h7 h8 h9
    exact hw.sep i oo b0 c0 (f _ _ h7 h8).2 h8 h9

end Go.Vm
