/-
  The machine's operations against the model's: append, make.
-/
import Derived.Test.YtepghohkfnmhmaaDoorVmOpsD
import Derived.Laws.AppendOwn
namespace Go.Vm
variable {G : Gl}
set_option linter.unusedVariables false
set_option linter.unusedSimpArgs false

section
variable {P : Program} {cfg : Cfg} {U : Nat → Prop} {h h' : Hp} {loc loc' : Loc} {w w' : World} {a : Act} {fr : Fr}

theorem zms_length : ∀ {vs : List Value} {cs : List C}, zms vs cs = true → vs.length = cs.length
  | [], [], _ => rfl
  | [], _ :: _, h => by simp [zms] at h
  | _ :: _, [], h => by simp [zms] at h
  | v :: vs, c :: cs, h => by
    simp only [zms, Bool.and_eq_true] at h
    simp [zms_length h.2]

/-- A kind's table entry: its element type. -/
theorem kindT_zero (ht : TabOK P cfg) {T : TypeId} {k : Kind} (hk : kindT cfg T = some k) : ∃ e, P.underlying T = some (.slice e) ∧ ∃ x z, P.info? e = some x ∧ x.zero = some z ∧ x.size = szOf k ∧ 0 < x.bytes ∧ x.bytes ≤ 1000 ∧ z.cells.size = szOf k ∧
    zms z.cells.toList ((cellsOf k (zeroEl k)).map fun f => match f with | .sl _ q _ => .f (.sl true q []) | f => .f f) = true := by
  unfold kindT at hk
  rw [Option.bind_eq_some_iff] at hk
  obtain ⟨i, hT, hk⟩ := hk
  split at hk
  · rename_i e hd
    obtain ⟨x, z, h1, h2, h3, h4, h5, h6⟩ := ht.kin T i k e hT hd hk
    refine ⟨e, by rw [ht.und T i hT, hd], x, z, h1, h2, h3, h5, h6, ?_, h4⟩
    have := zms_length h4
    simp [cells_length] at this
    exact this
  · simp at hk

theorem heap_drew (w : World) : w.drew.heap = w.heap := rfl

/-- The new row. -/
theorem newRow_ok (hw : HW G U h loc w) {d c : Nat} {k : Kind} {l : List (El k)} {us : List Value} {zs : Array Value} {T : TypeId} (h0 : h (.own d) = none) (hcs : CWs w (Mut U h loc) h loc us ((flat k l).map C.f)) (hc : l.length ≤ c)
    (hz : zs.size = (c - l.length) * szOf k) :
    ∃ loc', PostV G U h loc w (hput h (.own d) (.row true k l)) (.c (.row (.own d) k)) (.slice (some ⟨w.heap.size, 0, none⟩) l.length c) (w.drew.alloc (.cells (us.toArray ++ zs) T)) loc' := by
  have hw1 : HW G U h loc w.drew := hw.drew
  have ex1 : Ext U h loc w h loc w.drew := Ext.drew U h loc w
  have ex := Ext.alloc hw1 h0 (.row true k l) (.cells (us.toArray ++ zs) T) c
  have hlen := hcs.length
  rw [List.length_map, flat_length] at hlen
  refine ⟨_, hw1.alloc h0 (.row true k l) (.cells (us.toArray ++ zs) T) c ?_, ex1.trans ex, ?_⟩
  · refine ⟨fun hn => (by rw [lput_self] at hn; cases hn), fun b c' hl => ?_⟩
    rw [lput_self] at hl
    simp only [Option.some.injEq, Prod.mk.injEq] at hl
    obtain ⟨rfl, rfl⟩ := hl
    refine ⟨us.toArray ++ zs, T, heap_alloc_new w.drew _, ?_, hc, ?_⟩
    · rw [Array.size_append, hz, List.size_toArray, hlen, ← Nat.add_mul]
      congr 1
      omega
    · refine cells_row ((hcs.ext ex1).ext ex) (fun p u hp => ?_)
      have hlt := (List.getElem?_eq_some_iff.1 hp).1
      rw [Array.getElem?_append_left (by simpa using hlt)]
      simpa using hp
  · unfold VW CW
    refine ⟨⟨_, _, _, rfl⟩, by rw [hput_self]; rfl, fun wr k' l' hl => ?_⟩
    rw [hput_self] at hl
    simp only [Option.some.injEq, Obj.row.injEq] at hl
    obtain ⟨rfl, rfl, hl⟩ := hl
    obtain rfl := eq_of_heq hl
    refine ⟨rfl, fun b c' hl => ?_, fun hn => ?_⟩
    · rw [lput_self] at hl
      simp only [Option.some.injEq, Prod.mk.injEq] at hl
      obtain ⟨rfl, rfl⟩ := hl
      rfl
    · rw [lput_self] at hn; cases hn

/-- A row grows: a new one. -/
theorem grow_ok (ht : TabOK P cfg) (hw : HW G U h loc w) {T T2 ty : TypeId} {d : Nat} {k : Kind} (hk : kindT cfg T = some k) {base : Option Addr} {sCap : Nat} {l xs : List (El k)} {olds news : List Value} {x : Value} (h0 : h (.own d) = none)
    (hold : (Builtin.firstCells (szOf k) l.length (.slice base l.length sCap)).run P w.drew = .ok olds.toArray w.drew) (ho : CWs w (Mut U h loc) h loc olds ((flat k l).map C.f))
    (hs : Src P (szOf k) T2 x xs.length news w) (hn : CWs w (Mut U h loc) h loc news ((flat k xs).map C.f)) (hg : sCap < l.length + xs.length) (hm : l.length + xs.length ≤ appMax) :
    ∃ u w' loc', (Builtin.append_ #[T, T2] ty #[.slice base l.length sCap, x]).run P w = .ok u w' ∧ PostV G U h loc w (hput h (.own d) (.row true k (l ++ xs))) (.c (.row (.own d) k)) u w' loc' := by
  obtain ⟨e, hu, i, z, hi, hz, hsz, hb1, hb2, hzs, _⟩ := kindT_zero ht hk
  rw [← hsz] at hs hold
  have hmm : l.length + xs.length ≤ 1000000000 := hm
  have hbytes : (l.length + xs.length) * i.bytes ≤ 140737488355328 := Nat.le_trans (Nat.mul_le_mul hmm hb2) (by omega)
  have hr := run_append_grow_src w T T2 ty e i z hu hi hz base l.length sCap olds hold x xs.length news hs hg (by omega) (growslice_fits hg hbytes)
  have hge := grownCap_ge w (l.length + xs.length) sCap e
  obtain ⟨loc', hp⟩ := newRow_ok (d := d) (l := l ++ xs) (us := olds ++ news) (zs := Builtin.zeroCells z.cells (grownCap w (l.length + xs.length) sCap e - (l.length + xs.length))) (T := e) (c := grownCap w (l.length + xs.length) sCap e)
    hw h0 (by rw [flat_append, List.map_append]; exact ho.append hn) (by simpa using hge) (by rw [size_zeroCells, hzs]; simp)
  rw [List.length_append] at hp
  exact ⟨_, _, loc', hr, hp⟩

/-- A row that has room: the new name takes its place. -/
theorem Ext.move {id id2 : Id} {wr : Bool} {k : Kind} {l : List (El k)} {o' : Obj} {b c : Nat} (hw : HW G U h loc w) (ho : h id = some (.row wr k l)) (hb : loc id = some (b, c)) (hn : h id2 = none)
    (hs : w'.heap.size = w.heap.size) (hsame : ∀ k, k ≠ b → w'.heap[k]? = w.heap[k]?) (h1 : w'.os = w.os) (h2 : w'.tape = w.tape) (h3 : w'.output = w.output) :
    Ext U h loc w (hput (hput h id .dead) id2 o') (lput loc id2 (some (b, c))) w' := by
  have hne : id ≠ id2 := by rintro rfl; rw [hn] at ho; cases ho
  have hU := (hw.sep id _ b c ho rfl hb).1
  refine ⟨h1, h2, h3, ⟨by omega, fun q hq hm => ?_⟩, ?_, ?_, fun q hq hu => hsame q (fun e => hU (e ▸ hu))⟩
  · have hqb : q ≠ b := by rintro rfl; exact hm (.inr ⟨id, _, c, ho, rfl, hb⟩)
    refine ⟨?_, hsame q hqb⟩
    rintro (hu | ⟨i, o2, c2, ho2, hl2, hb2⟩)
    · exact hm (.inl hu)
    · by_cases e : i = id2
      · subst e
        rw [lput_self] at hb2
        simp at hb2
        exact hqb hb2.1.symm
      · rw [hput_ne _ _ e] at ho2
        rw [lput_ne _ _ e] at hb2
        by_cases e2 : i = id
        · subst e2
          rw [hput_self] at ho2
          obtain rfl := Option.some.inj ho2
          simp [Obj.live] at hl2
        · rw [hput_ne _ _ e2] at ho2
          exact hm (.inr ⟨i, o2, c2, ho2, hl2, hb2⟩)
  · intro i o1 h4
    have : i ≠ id2 := by rintro rfl; rw [hn] at h4; cases h4
    rw [lput_ne _ _ this]
  · intro i o1 h4
    have e : i ≠ id2 := by rintro rfl; rw [hn] at h4; cases h4
    rw [hput_ne _ _ e]
    by_cases e2 : i = id
    · subst e2
      rw [ho] at h4
      obtain rfl := Option.some.inj h4
      exact ⟨.dead, hput_self _ _ _, by simp [Turns]⟩
    · exact ⟨o1, by rw [hput_ne _ _ e2]; exact h4, Turns.refl _ _ _⟩

theorem HW.move {id id2 : Id} {wr : Bool} {k : Kind} {l : List (El k)} {o' : Obj} {b c : Nat} (hw : HW G U h loc w) (ho : h id = some (.row wr k l)) (hb : loc id = some (b, c)) (hn : h id2 = none)
    (hs : w'.heap.size = w.heap.size) (hsame : ∀ k, k ≠ b → w'.heap[k]? = w.heap[k]?) (h1 : w'.os = w.os) (h2 : w'.tape = w.tape) (h3 : w'.output = w.output)
    (hO : OW w' (Mut U (hput (hput h id .dead) id2 o') (lput loc id2 (some (b, c)))) (hput (hput h id .dead) id2 o') (lput loc id2 (some (b, c))) id2 o') :
    HW G U (hput (hput h id .dead) id2 o') (lput loc id2 (some (b, c))) w' := by
  have hne : id ≠ id2 := by rintro rfl; rw [hn] at ho; cases ho
  have f : ∀ i oo, hput (hput h id .dead) id2 o' i = some oo → oo.live = true → i ≠ id2 → i ≠ id ∧ h i = some oo := by
    intro i oo h7 h8 h9
    rw [hput_ne _ _ h9] at h7
    by_cases e : i = id
    · subst e
      rw [hput_self] at h7
      obtain rfl := Option.some.inj h7
      simp [Obj.live] at h8
    · rw [hput_ne _ _ e] at h7; exact ⟨e, h7⟩
  refine hw.step (Ext.move hw ho hb hn hs hsame h1 h2 h3) ?_ ?_ ?_
  · intro i o2 h4
    by_cases e : i = id2
    · subst e
      rw [hput_self] at h4
      obtain rfl := Option.some.inj h4
      exact .inr hO
    · by_cases e2 : i = id
      · subst e2
        rw [hput_ne _ _ e, hput_self] at h4
        obtain rfl := Option.some.inj h4
        exact .inr trivial
      · rw [hput_ne _ _ e, hput_ne _ _ e2] at h4
        refine .inl ⟨h4, fun _ => lput_ne _ _ e, fun b2 c2 hl2 hb2 => hsame b2 ?_⟩
        rintro rfl
        exact e2 (hw.inj i id o2 _ b2 c2 c h4 hl2 ho rfl hb2 hb)
  · intro i1 i2 o1 o2 b0 c1 c2 h5 l1 h6 l2 b1 b2
    by_cases e1 : i1 = id2 <;> by_cases e2 : i2 = id2
    · rw [e1, e2]
    · exfalso
      obtain ⟨e3, h7⟩ := f i2 o2 h6 l2 e2
      subst e1
      rw [lput_self] at b1
      rw [lput_ne _ _ e2] at b2
      simp at b1
      obtain ⟨rfl, rfl⟩ := b1
      exact e3 (hw.inj i2 id o2 _ b c2 c h7 l2 ho rfl b2 hb)
    · exfalso
      obtain ⟨e3, h7⟩ := f i1 o1 h5 l1 e1
      subst e2
      rw [lput_self] at b2
      rw [lput_ne _ _ e1] at b1
      simp at b2
      obtain ⟨rfl, rfl⟩ := b2
      exact e3 (hw.inj i1 id o1 _ b c1 c h7 l1 ho rfl b1 hb)
    · obtain ⟨_, h7⟩ := f i1 o1 h5 l1 e1
      obtain ⟨_, h8⟩ := f i2 o2 h6 l2 e2
      rw [lput_ne _ _ e1] at b1
      rw [lput_ne _ _ e2] at b2
      exact hw.inj i1 i2 o1 o2 b0 c1 c2 h7 l1 h8 l2 b1 b2
  · intro i oo b0 c0 h7 h8 h9
    rw [hs]
    by_cases e : i = id2
    · subst e
      rw [lput_self] at h9
      simp at h9
      obtain ⟨rfl, rfl⟩ := h9
      exact hw.sep id _ b c ho rfl hb
    · rw [lput_ne _ _ e] at h9
      obtain ⟨_, h10⟩ := f i oo h7 h8 e
      exact hw.sep i oo b0 c0 h10 h8 h9

theorem firstCells_len {size n c : Nat} {b o : Nat} {us : List Value} (hl : us.length = n * size) (hu : ∀ (p : Nat) (u : Value), us[p]? = some u → w.cell? ⟨b, o + p, none⟩ = some u) :
    (Builtin.firstCells size n (.slice (some ⟨b, o, none⟩) n c)).run P w.drew = .ok us.toArray w.drew :=
  run_firstCells_some w.drew size n _ n c us hl (fun j v hv => by rw [Addr.add_mid]; simpa using hu j v hv)

/-- What a frozen slice holds, as 'append' asks for it. -/
theorem sl_first {M : Nat → Prop} {n : Nat} {v : Value} {t : Bool} {k : Kind} {l : List (El k)} (hc : CellW w M n v (.sl t k l)) :
    ∃ A c us, v = .slice A l.length c ∧ l.length ≤ c ∧ (t = true → c = l.length) ∧ CWs w M h loc us ((flat k l).map C.f) ∧ (Builtin.firstCells (szOf k) l.length (.slice A l.length c)).run P w.drew = .ok us.toArray w.drew := by
  obtain ⟨A, c, us, rfl, h1, h2, h3, h4, h5⟩ := sl_cells (h := h) (loc := loc) hc
  refine ⟨A, c, us, rfl, h1, h2, h3, ?_⟩
  by_cases hl : l = []
  · subst hl
    obtain rfl := h5 rfl
    cases A with
    | none => exact run_firstCells_none w.drew _ _ _ _
    | some ad => exact run_firstCells_some w.drew _ _ ad _ _ [] (by simp) (fun j v hv => by simp at hv)
  · obtain ⟨b, o, rfl, _, _, hcell⟩ := h4 hl
    exact firstCells_len (by rw [h3.length, List.length_map, flat_length]) hcell

theorem run_nothing (ht : TabOK P cfg) {T T2 ty : TypeId} {k : Kind} (hk : kindT cfg T = some k) {base : Option Addr} {n c : Nat} (hc : n ≤ c) {x : Value} {news : List Value} (hs : Src P (szOf k) T2 x 0 news w) :
    (Builtin.append_ #[T, T2] ty #[.slice base n c, x]).run P w = .ok (.slice base n c) w := by
  obtain ⟨e, hu, i, z, hi, hz, hsz, _⟩ := kindT_zero ht hk
  rw [← hsz] at hs
  have : news = [] := List.eq_nil_of_length_eq_zero (by simpa using hs.newsLen)
  subst this
  exact run_append_nothing w T T2 ty e i hu hi base n c hc x hs

/-- Room. -/
theorem room_ok (ht : TabOK P cfg) (hw : HW G U h loc w) {T T2 ty : TypeId} {d : Nat} {k : Kind} (hk : kindT cfg T = some k) {id : Id} {wr : Bool} {l xs : List (El k)} {news : List Value} {x : Value} {b c : Nat} (h0 : h (.own d) = none)
    (ho : h id = some (.row wr k l)) (hb : loc id = some (b, c)) (hs : Src P (szOf k) T2 x xs.length news w) (hn : CWs w (Mut U h loc) h loc news ((flat k xs).map C.f)) (hr : l.length + xs.length ≤ c) :
    ∃ u w' loc', (Builtin.append_ #[T, T2] ty #[.slice (some ⟨b, 0, none⟩) l.length c, x]).run P w = .ok u w' ∧ PostV G U h loc w (hput (hput h id .dead) (.own d) (.row true k (l ++ xs))) (.c (.row (.own d) k)) u w' loc' := by
  obtain ⟨e, hu, i, z, hi, hz, hsz, hb1, hb2, hzs, _⟩ := kindT_zero ht hk
  obtain ⟨us, T', hblk, hus, hlc, hcells⟩ := (hw.obj id _ ho).2 b c hb
  have hnl : news.length = xs.length * szOf k := hs.newsLen
  have hfit : l.length * szOf k + news.length ≤ us.size := by rw [hnl, hus, ← Nat.add_mul]; exact Nat.mul_le_mul_right _ hr
  have hs' := hs
  rw [← hsz] at hs'
  have hrun := run_append_room_src w T T2 ty e i hu hi b 0 l.length c x xs.length news hs' hr
    (fun j hj => by rw [cell_heap hblk, hsz, Array.getElem?_eq_getElem (by omega)]; rfl) (fun j hj => frozen_heap hblk)
  rw [hsz, Nat.zero_add] at hrun
  have hrest := setCells_rest b news (l.length * szOf k) w
  have hh := setCells_heap b news (l.length * szOf k) w us T' (0, 0) hblk hfit
  have ex : Ext U h loc w (hput (hput h id .dead) (.own d) (.row true k (l ++ xs))) (lput loc (.own d) (some (b, c))) (w.setCells b (l.length * szOf k) news) :=
    Ext.move hw ho hb h0 (setCells_size _ _ _ _) (setCells_other b _ _ w) hrest.1 hrest.2.1 hrest.2.2
  refine ⟨_, _, _, hrun, ?_, ex, ?_⟩
  · refine hw.move ho hb h0 (setCells_size _ _ _ _) (setCells_other b _ _ w) hrest.1 hrest.2.1 hrest.2.2 ?_
    refine ⟨fun hn => (by rw [lput_self] at hn; cases hn), fun b' c' hl => ?_⟩
    rw [lput_self] at hl
    simp only [Option.some.injEq, Prod.mk.injEq] at hl
    obtain ⟨rfl, rfl⟩ := hl
    refine ⟨_, T', hh, by simp [putAt_length, hus], by simpa using hr, ?_⟩
    have hle : l.length * szOf k ≤ us.size := by omega
    have hold : CWs w (Mut U h loc) h loc (us.toList.take (l.length * szOf k)) ((flat k l).map C.f) := row_cells hle hcells
    refine cells_row (us := us.toList.take (l.length * szOf k) ++ news) (by rw [flat_append, List.map_append]; exact (hold.append hn).ext ex) (fun p u hp => ?_)
    rw [show (Array.mk (Go.Vm.putAt us.toList (l.length * szOf k) news))[p]? = (Go.Vm.putAt us.toList (l.length * szOf k) news)[p]? from List.getElem?_toArray]
    rw [putAt_get]
    have htl : (us.toList.take (l.length * szOf k)).length = l.length * szOf k := by simp; omega
    rcases Nat.lt_or_ge p (l.length * szOf k) with hp1 | hp1
    · rw [List.getElem?_append_left (by omega), List.getElem?_take, if_pos hp1] at hp
      rw [if_neg (by omega)]
      exact hp
    · rw [List.getElem?_append_right (by omega), htl] at hp
      have hlt := (List.getElem?_eq_some_iff.1 hp).1
      rw [if_pos ⟨hp1, by omega, by simp; omega⟩]
      exact hp
  · unfold VW CW
    refine ⟨⟨_, _, _, rfl⟩, by rw [hput_self]; rfl, fun wr k' l' hl => ?_⟩
    rw [hput_self] at hl
    simp only [Option.some.injEq, Obj.row.injEq] at hl
    obtain ⟨rfl, rfl, hl⟩ := hl
    obtain rfl := eq_of_heq hl
    refine ⟨rfl, fun b c' hl => ?_, fun hn => ?_⟩
    · rw [lput_self] at hl
      simp only [Option.some.injEq, Prod.mk.injEq] at hl
      obtain ⟨rfl, rfl⟩ := hl
      rw [List.length_append]
    · rw [lput_self] at hn; cases hn

theorem app_ok (ht : TabOK P cfg) (hw : HW G U h loc w) {T T2 ty : TypeId} {i2 : TI} {d : Nat} {k : Kind} {s x v : V} {us ux : Value} {e : Eff} (hk : kindT cfg T = some k) (hT2 : cfg.tb T2 = some i2) (hq : seqT i2.desc x = true)
    (hs : VW w (Mut U h loc) h loc us s) (hx : VW w (Mut U h loc) h loc ux x) (ha : app h d k s x = some (v, e)) (he : applyE h e = some h') :
    ∃ u w' loc', (Builtin.append_ #[T, T2] ty #[us, ux]).run P w = .ok u w' ∧ PostV G U h loc w h' v u w' loc' := by
  unfold app at ha
  rw [Option.bind_eq_some_iff] at ha
  obtain ⟨xs, hxs, ha⟩ := ha
  obtain ⟨news, hnews, hsrc⟩ := items_ok ht hw (e := T) hT2 hq hx hxs
  split at ha
  · rename_i k' l
    by_cases hkk : k' = k
    · subst hkk
      simp only [dite_true] at ha
      have hs0 := hs
      unfold VW CW at hs
      obtain ⟨n, hn⟩ := hs
      obtain ⟨A, c, olds, rfl, h1, h2, h3, h4⟩ := sl_first (P := P) (h := h) (loc := loc) hn
      unfold appTight at ha
      split at ha
      · simp at ha
        obtain ⟨rfl, rfl⟩ := ha
        simp [applyE] at he
        subst he
        exact ⟨_, w, loc, run_nothing ht hk h1 hsrc, hw, Ext.refl _ _ _ _, hs0⟩
      · rename_i y ys
        cases hle : Nat.ble (l.length + (y :: ys).length) appMax with
        | false => rw [hle] at ha; simp at ha
        | true =>
          rw [hle] at ha
          simp only [cond_true, Option.some.injEq, Prod.mk.injEq] at ha
          obtain ⟨rfl, rfl⟩ := ha
          simp only [applyE] at he
          split at he
          · rename_i h0
            simp at he
            subst he
            exact grow_ok ht hw hk h0 h4 h3 hsrc hnews (by rw [h2 rfl]; simp) (Nat.le_of_ble_eq_true hle)
          · simp at he
    · simp [hkk] at ha
  · rename_i id k'
    rw [Option.bind_eq_some_iff] at ha
    obtain ⟨ob, hob, ha⟩ := ha
    split at ha
    · rename_i wr k2 l
      by_cases hkk : k2 = k
      · subst hkk
        simp only [dite_true] at ha
        cases hnr : notRow id x with
        | false => simp [hnr] at ha
        | true =>
          simp only [hnr, cond_true] at ha
          have hs0 := hs
          unfold VW CW at hs
          obtain ⟨_, _, hrow⟩ := hs
          obtain ⟨rfl, hown, htight⟩ := hrow _ _ _ hob
          unfold appRow at ha
          split at ha
          · simp at ha
            obtain ⟨rfl, rfl⟩ := ha
            simp [applyE] at he
            subst he
            cases hloc : loc id with
            | none =>
              obtain ⟨n, hn⟩ := htight hloc
              obtain ⟨A, c, olds, rfl, h1, h2, h3, h4⟩ := sl_first (P := P) (h := h) (loc := loc) hn
              exact ⟨_, w, loc, run_nothing ht hk h1 hsrc, hw, Ext.refl _ _ _ _, hs0⟩
            | some bc =>
              obtain ⟨b, c⟩ := bc
              obtain rfl := hown b c hloc
              obtain ⟨_, _, _, _, hlc, _⟩ := (hw.obj id _ hob).2 b c hloc
              exact ⟨_, w, loc, run_nothing ht hk hlc hsrc, hw, Ext.refl _ _ _ _, hs0⟩
          · rename_i y ys
            split at ha
            · rename_i h0
              cases hle : Nat.ble (l.length + (y :: ys).length) appMax with
              | false => rw [hle] at ha; simp at ha
              | true =>
                rw [hle] at ha
                simp only [cond_true, Option.some.injEq, Prod.mk.injEq] at ha
                obtain ⟨rfl, rfl⟩ := ha
                simp only [applyE, Option.some.injEq] at he
                subst he
                have hle := Nat.le_of_ble_eq_true hle
                have hne : (Id.own d) ≠ id := by rintro rfl; rw [h0] at hob; cases hob
                have exk : Ext U h loc w (hput h id .dead) loc w := Ext.kill hob
                have hwk : HW G U (hput h id .dead) loc w := hw.kill hob
                have h0k : hput h id .dead (.own d) = none := by rw [hput_ne _ _ hne]; exact h0
                cases hloc : loc id with
                | none =>
                  obtain ⟨n, hn⟩ := htight hloc
                  obtain ⟨A, c, olds, rfl, h1, h2, h3, h4⟩ := sl_first (P := P) (h := h) (loc := loc) hn
                  obtain ⟨u, w', loc', hr, hp1, hp2, hp3⟩ := grow_ok (ty := ty) ht hwk hk h0k h4 (h3.ext exk) hsrc (hnews.ext exk) (by rw [h2 rfl]; simp) hle
                  exact ⟨u, w', loc', hr, hp1, exk.trans hp2, hp3⟩
                | some bc =>
                  obtain ⟨b, c⟩ := bc
                  obtain rfl := hown b c hloc
                  rcases Nat.lt_or_ge c (l.length + (y :: ys).length) with hg | hg
                  · obtain ⟨us, T', hb, hus, hlc, hcells⟩ := (hw.obj id _ hob).2 b c hloc
                    have hl1 : l.length * szOf k2 ≤ us.size := by rw [hus]; exact Nat.mul_le_mul_right _ hlc
                    have hold : CWs w (Mut U h loc) h loc (us.toList.take (l.length * szOf k2)) ((flat k2 l).map C.f) := row_cells hl1 hcells
                    have hfc : (Builtin.firstCells (szOf k2) l.length (.slice (some ⟨b, 0, none⟩) l.length c)).run P w.drew = .ok (us.toList.take (l.length * szOf k2)).toArray w.drew :=
                      firstCells_len (by rw [hold.length, List.length_map, flat_length]) (fun p u hp => by
                        rw [cell_heap hb, Nat.zero_add]
                        rw [List.getElem?_take] at hp
                        split at hp
                        · simpa using hp
                        · cases hp)
                    obtain ⟨u, w', loc', hr, hp1, hp2, hp3⟩ := grow_ok (ty := ty) ht hwk hk h0k hfc (hold.ext exk) hsrc (hnews.ext exk) hg hle
                    exact ⟨u, w', loc', hr, hp1, exk.trans hp2, hp3⟩
                  · exact room_ok ht hw hk h0 hob hloc hsrc hnews hg
            · simp at ha
      · simp [hkk] at ha
    · simp at ha
  · simp at ha

end
end Go.Vm
