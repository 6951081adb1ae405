/-
  The machine's operations against the model's: values that are put together, new memory, stores.
-/
import Derived.Test.YtepghohkfnmhmaaDoorVmOpsB
import Derived.Laws.MakeOwn
import Derived.Great.BuildSlice
import Derived.Laws.IdiomStrings
namespace Go.Vm
variable {G : Gl}
set_option linter.unusedVariables false
set_option linter.unusedSimpArgs false

theorem putAt_length {α : Type} : ∀ (l : List α) (o : Nat) (ys : List α), (putAt l o ys).length = l.length
  | l, o, [] => by cases l <;> cases o <;> rfl
  | [], o, y :: ys => by cases o <;> rfl
  | x :: l, 0, y :: ys => by simp [putAt, putAt_length l 0 ys]
  | x :: l, o + 1, y :: ys => by simp [putAt, putAt_length l o (y :: ys)]

theorem putAt_get {α : Type} : ∀ (l : List α) (o : Nat) (ys : List α) (j : Nat), (putAt l o ys)[j]? = if o ≤ j ∧ j < o + ys.length ∧ j < l.length then ys[j - o]? else l[j]?
  | l, o, [], j => by
    rw [if_neg (by simp; omega)]
    cases l <;> cases o <;> rfl
  | [], o, y :: ys, j => by
    rw [if_neg (by simp)]
    cases o <;> rfl
  | x :: l, 0, y :: ys, 0 => by simp [putAt]
  | x :: l, 0, y :: ys, j + 1 => by
    simp only [putAt, List.getElem?_cons_succ]
    rw [putAt_get l 0 ys j]
    by_cases hc : j < ys.length ∧ j < l.length
    · rw [if_pos ⟨by omega, by omega, hc.2⟩, if_pos ⟨by omega, by simp; omega, by simp; omega⟩]
      simp
    · rw [if_neg (by omega), if_neg (by simp; omega)]
  | x :: l, o + 1, y :: ys, 0 => by simp [putAt]
  | x :: l, o + 1, y :: ys, j + 1 => by
    simp only [putAt, List.getElem?_cons_succ]
    rw [putAt_get l o (y :: ys) j]
    by_cases hc : o ≤ j ∧ j < o + (y :: ys).length ∧ j < l.length
    · rw [if_pos hc, if_pos ⟨by omega, by omega, by simp; omega⟩]
      congr 1
      omega
    · rw [if_neg hc, if_neg (by simp at hc ⊢; omega)]

theorem putAt_set {α : Type} : ∀ (l : List α) (o : Nat) (y : α) (ys : List α), o < l.length → putAt l o (y :: ys) = putAt (l.set o y) (o + 1) ys := by
  intro l o y ys ho
  apply List.ext_getElem?
  intro j
  rw [putAt_get, putAt_get]
  by_cases h1 : j = o
  · subst h1
    rw [if_pos ⟨by omega, by simp, ho⟩, if_neg (by omega)]
    simp [ho]
  · rw [List.getElem?_set_ne (by omega)]
    by_cases h2 : o + 1 ≤ j ∧ j < o + 1 + ys.length ∧ j < (l.set o y).length
    · rw [if_pos h2, if_pos ⟨by omega, by simp; omega, by simpa using h2.2.2⟩]
      rw [show j - o = (j - (o + 1)) + 1 by omega]
      simp
    · rw [if_neg h2]
      by_cases h3 : o ≤ j ∧ j < o + (y :: ys).length ∧ j < l.length
      · exfalso
        apply h2
        refine ⟨by omega, ?_, by simpa using h3.2.2⟩
        have := h3.2.1
        simp at this
        omega
      · rw [if_neg h3]

section
variable {P : Program} {cfg : Cfg} {U : Nat → Prop} {h h' : Hp} {loc loc' : Loc} {w w' : World} {a : Act} {fr : Fr}

theorem CWs.putAt {M : Nat → Prop} {us vs : List Value} {cs ds : List C} {o : Nat} (h1 : CWs w M h loc us cs) (h2 : CWs w M h loc vs ds) : CWs w M h loc (Go.Vm.putAt us o vs) (Go.Vm.putAt cs o ds) := by
  have e1 := h1.length
  have e2 := h2.length
  refine CWs.mk (by rw [putAt_length, putAt_length, e1]) (fun j c hj => ?_)
  rw [putAt_get] at hj ⊢
  rw [e1, e2]
  split
  · rename_i hc
    rw [if_pos hc] at hj
    exact h2.get hj
  · rename_i hc
    rw [if_neg hc] at hj
    exact h1.get hj

theorem CW.one {M : Nat → Prop} {v : Value} {c : C} (hc : CW w M h loc v c) (hd : defC c = true) : v.oneCell' = true := by
  cases c with
  | f x => unfold CW at hc; obtain ⟨n, hn⟩ := hc; exact hn.one
  | bx id off => unfold CW at hc; obtain ⟨_, b, c, _, rfl⟩ := hc; rfl
  | row id k => unfold CW at hc; obtain ⟨⟨A, n, c, rfl⟩, _⟩ := hc; rfl
  | re id k i off => unfold CW at hc; obtain ⟨_, _, b, c, _, rfl⟩ := hc; rfl
  | fn f caps => unfold CW at hc; obtain ⟨us, rfl, _⟩ := hc; rfl
  | hole => simp [defC] at hd
  | und => simp [defC] at hd

theorem cells_one {v : Value} (h1 : v.oneCell' = true) : v.cells = #[v] := by cases v <;> first | rfl | simp [Value.oneCell'] at h1

/-- A value's cells. -/
theorem cellsV_ok {M : Nat → Prop} {u : Value} {v : V} {cs : List C} (hv : VW w M h loc u v) (hc : cellsV v = some cs) : CWs w M h loc u.cells.toList cs := by
  cases v with
  | c x =>
    simp only [cellsV] at hc
    cases hd : defC x with
    | false => simp [hd] at hc
    | true =>
      simp [hd] at hc
      subst hc
      unfold VW at hv
      rw [cells_one (hv.one hd)]
      unfold CWs CWs
      exact ⟨hv, trivial⟩
  | agg ds =>
    simp [cellsV] at hc
    subst hc
    unfold VW at hv
    obtain ⟨us, rfl, hs⟩ := hv
    exact hs
  | tup vs => simp [cellsV] at hc

theorem CWs.ones {M : Nat → Prop} : ∀ {us : List Value} {cs : List C}, CWs w M h loc us cs → cs.all defC = true → ∀ u ∈ us, u.oneCell' = true
  | [], [], _, _ => fun u hu => by simp at hu
  | [], _ :: _, hc, _ => by unfold CWs at hc; exact hc.elim
  | _ :: _, [], hc, _ => by unfold CWs at hc; exact hc.elim
  | u :: us, c :: cs, hc, hd => by
    unfold CWs at hc
    simp only [List.all_cons, Bool.and_eq_true] at hd
    intro x hx
    rcases List.mem_cons.1 hx with rfl | hx
    · exact hc.1.one hd.1
    · exact CWs.ones hc.2 hd.2 x hx

/-- What is stored: the value's shape. -/
theorem cellsV_shape {M : Nat → Prop} {u : Value} {v : V} {cs : List C} (hv : VW w M h loc u v) (hc : cellsV v = some cs) : (∃ us, u = .agg us) ∨ u.oneCell' = true := by
  cases v with
  | c x =>
    simp only [cellsV] at hc
    cases hd : defC x with
    | false => simp [hd] at hc
    | true => unfold VW at hv; exact .inr (hv.one hd)
  | agg ds => unfold VW at hv; obtain ⟨us, rfl, _⟩ := hv; exact .inl ⟨_, rfl⟩
  | tup vs => simp [cellsV] at hc

theorem zm_ok {M : Nat → Prop} {v : Value} {c : C} (hz : zm v c = true) : CW w M h loc v c := by
  unfold zm at hz
  split at hz <;> first
    | (unfold CW; trivial)
    | (simp at hz; done)
    | skip
  · simp at hz; subst hz; unfold CW; exact ⟨0, rfl, rfl⟩
  · simp at hz; obtain ⟨rfl, rfl⟩ := hz; unfold CW; exact ⟨0, rfl, rfl⟩
  · rename_i s t
    have : s = t := by
      obtain ⟨⟨s⟩⟩ := s
      obtain ⟨⟨t⟩⟩ := t
      simp at hz
      rw [hz]
    subst this
    unfold CW; exact ⟨0, rfl, rfl⟩
  · unfold CW; exact ⟨1, none, 0, rfl, by simp, fun _ => rfl, fun i x hx => by simp at hx⟩
  · unfold CW; exact ⟨0, rfl, rfl⟩

theorem zms_ok {M : Nat → Prop} : ∀ {us : List Value} {cs : List C}, zms us cs = true → CWs w M h loc us cs
  | [], [], _ => by unfold CWs; trivial
  | [], _ :: _, hz => by simp [zms] at hz
  | _ :: _, [], hz => by simp [zms] at hz
  | u :: us, c :: cs, hz => by
    simp only [zms, Bool.and_eq_true] at hz
    unfold CWs
    exact ⟨zm_ok hz.1, zms_ok hz.2⟩

/-! ### New boxes -/

theorem nbox_ok (hw : HW G U h loc w) {d : Nat} {cs : List C} {us : Array Value} {T : TypeId} {v : V} {e : Eff} (hc : CWs w (Mut U h loc) h loc us.toList cs) (hn : nbox d cs = some (v, e)) (he : applyE h e = some h') :
    ∃ loc', PostV G U h loc w h' v (.pointer (some ⟨w.heap.size, 0, none⟩)) (w.alloc (.cells us T)) loc' := by
  simp [nbox] at hn
  obtain ⟨rfl, rfl⟩ := hn
  simp only [applyE] at he
  split at he
  · rename_i h0
    simp at he
    subst he
    have ex := Ext.alloc hw h0 (.box cs) (.cells us T) 0
    refine ⟨_, hw.alloc h0 (.box cs) (.cells us T) 0 ?_, ex, ?_⟩
    · exact ⟨w.heap.size, 0, us, T, lput_self _ _ _, heap_alloc_new w _, CWs.ext ex cs hc⟩
    · unfold VW CW
      exact ⟨⟨cs, hput_self _ _ _⟩, w.heap.size, 0, lput_self _ _ _, rfl⟩
  · simp at he

/-! ### Stores -/

theorem setCells_heap (b : Nat) : ∀ (vs : List Value) (o : Nat) (w : World) (us : Array Value) (T : TypeId) (f : Nat × Nat), w.heap[b]? = some (.cells us T f) → o + vs.length ≤ us.size →
    (w.setCells b o vs).heap[b]? = some (.cells (putAt us.toList o vs).toArray T f)
  | [], o, w, us, T, f, hb, _ => by
    rw [World.setCells, hb]
    congr 2
    apply Array.ext'
    apply List.ext_getElem?
    intro j
    rw [putAt_get, if_neg (by simp; omega)]
  | v :: vs, o, w, us, T, f, hb, hl => by
    simp at hl
    have h1 : (w.setCell ⟨b, o, none⟩ v).heap[b]? = some (.cells (us.setIfInBounds o v) T f) := by
      simp only [World.setCell, Array.getElem?_modify, if_true, hb, Option.map_some]
      rfl
    rw [World.setCells, setCells_heap b vs (o + 1) _ _ T f h1 (by simp; omega)]
    congr 3
    rw [putAt_set _ _ _ _ (by simp; omega)]
    simp

theorem setCells_other (b : Nat) : ∀ (vs : List Value) (o : Nat) (w : World) (k : Nat), k ≠ b → (w.setCells b o vs).heap[k]? = w.heap[k]?
  | [], o, w, k, hk => rfl
  | v :: vs, o, w, k, hk => by
    rw [World.setCells, setCells_other b vs (o + 1) _ k hk]
    exact Go.RowKit.Below.heap_setCell w ⟨b, o, none⟩ v k hk

theorem setCells_size (b : Nat) : ∀ (vs : List Value) (o : Nat) (w : World), (w.setCells b o vs).heap.size = w.heap.size
  | [], o, w => rfl
  | v :: vs, o, w => by rw [World.setCells, setCells_size b vs (o + 1) _]; simp [World.setCell]

theorem setCells_rest (b : Nat) : ∀ (vs : List Value) (o : Nat) (w : World), (w.setCells b o vs).os = w.os ∧ (w.setCells b o vs).tape = w.tape ∧ (w.setCells b o vs).output = w.output
  | [], o, w => ⟨rfl, rfl, rfl⟩
  | v :: vs, o, w => by rw [World.setCells]; exact setCells_rest b vs (o + 1) _

/-- Cells behind 'ofCells': a slice is no longer told to be tight. -/
def Wk : List F → List F → Prop
  | [], [] => True
  | f :: fs, g :: gs => (g = f ∨ ∃ t k l, f = .sl t k l ∧ g = .sl false k l) ∧ Wk fs gs
  | _, _ => False

theorem Wk.get : ∀ {fs gs : List F} {j : Nat} {g : F}, Wk fs gs → gs[j]? = some g → ∃ f, fs[j]? = some f ∧ (g = f ∨ ∃ t k l, f = .sl t k l ∧ g = .sl false k l)
  | [], [], j, g, _, hj => by simp at hj
  | [], _ :: _, _, _, hw, _ => by unfold Wk at hw; exact hw.elim
  | _ :: _, [], _, _, hw, _ => by unfold Wk at hw; exact hw.elim
  | f :: fs, g :: gs, 0, x, hw, hj => by unfold Wk at hw; simp at hj; subst hj; exact ⟨f, rfl, hw.1⟩
  | f :: fs, g :: gs, j + 1, x, hw, hj => by unfold Wk at hw; simp at hj; obtain ⟨y, h1, h2⟩ := Wk.get hw.2 hj; exact ⟨y, by simpa using h1, h2⟩

theorem Wk.cell {M : Nat → Prop} {n : Nat} {u : Value} {f g : F} (hc : CellW w M n u f) (hw : g = f ∨ ∃ t k l, f = .sl t k l ∧ g = .sl false k l) : CellW w M n u g := by
  rcases hw with rfl | ⟨t, k, l, rfl, rfl⟩
  · exact hc
  · exact hc.loose

theorem ofCells_wk {k : Kind} {fs : List F} {z : El k} (hz : ofCells k fs = some z) : Wk fs (cellsOf k z) := by
  unfold ofCells at hz
  split at hz
  case h_2 =>
    split at hz
    · rename_i n h0
      simp only [Option.some.injEq] at hz
      subst hz
      have : (UInt8.ofNat n.toNat).toNat = n.toNat := by simp; omega
      simp only [cellsOf, Wk, this]
      refine ⟨.inl ?_, trivial⟩
      congr 2
      omega
    · simp at hz
  all_goals first
    | (simp only [Option.some.injEq] at hz; subst hz; simp [cellsOf, Wk, Term.cells, Policy.cells, Letter.cells, Note.cells, Host.cells, CallD.cells, Talk.cells, Deed.cells]; done)
    | (simp at hz; done)

theorem lmapM_frz : ∀ {vs : List C} {fs : List F}, lmapM frzC vs = some fs → vs = fs.map C.f
  | [], fs, hf => by simp [lmapM] at hf; subst hf; rfl
  | c :: vs, fs, hf => by
    simp only [lmapM, Option.bind_eq_some_iff] at hf
    obtain ⟨f, h1, gs, h2, h3⟩ := hf
    simp at h3
    subst h3
    cases c <;> simp [frzC] at h1
    subst h1
    simp [lmapM_frz h2]

theorem all_def : ∀ (fs : List F), (fs.map C.f).all defC = true
  | [] => rfl
  | f :: fs => by simp [defC]

theorem apart_mul {i j sz q off n : Nat} (hij : i ≠ j) (hq : q < sz) (ho : off + n ≤ sz) : ¬ (j * sz + off ≤ i * sz + q ∧ i * sz + q < j * sz + off + n) := by
  rcases Nat.lt_or_gt_of_ne hij with h | h
  · have := Nat.mul_le_mul_right sz (show i + 1 ≤ j from h)
    rw [Nat.add_mul] at this
    omega
  · have := Nat.mul_le_mul_right sz (show j + 1 ≤ i from h)
    rw [Nat.add_mul] at this
    omega

theorem run_storeAt (ht : TabOK P cfg) {T : TypeId} {i : TI} (hT : cfg.tb T = some i) {b o : Nat} {u : Value} {us : Array Value} {T' : TypeId} (hb : w.heap[b]? = some (.cells us T' (0, 0))) (hsz : u.cells.size = i.size) (ho : o + i.size ≤ us.size)
    (h1 : ∀ x ∈ u.cells.toList, x.oneCell' = true) : (Instr.storeAt T (.pointer (some ⟨b, o, none⟩)) u).run P w = .ok () (w.setCells b o u.cells.toList) := by
  have hc : ∀ j, j < u.cells.toList.length → (w.cell? ⟨b, o + 0 + j, none⟩).isSome = true := fun j hj => by
    rw [cell_heap hb]
    have : o + 0 + j < us.size := by simp at hj; omega
    rw [Array.getElem?_eq_getElem this]; rfl
  have hr := run_storeCells_cells (P := P) b o u.cells.toList 0 w hc (fun j hj => frozen_heap hb) h1
  obtain ⟨x, hx, _, hs, _⟩ := ht.inf T i hT
  simp only [Nat.add_zero] at hr
  simp [Instr.storeAt, Instr.sureAddr, storeVar, Sem.run_bind, sizeOf, typeInfo, hx, hs, hsz, hr]

theorem st_ok (ht : TabOK P cfg) (hw : HW G U h loc w) {T : TypeId} {p u : Value} {x v : V} {h2 : Hp} (hp : VW w (Mut U h loc) h loc p x) (hu : VW w (Mut U h loc) h loc u v) (hs : st cfg h T x v = some h2) :
    ∃ w', (Instr.storeAt T p u).run P w = .ok () w' ∧ HW G U h2 loc w' ∧ Ext U h loc w h2 loc w' := by
  unfold st at hs
  rw [Option.bind_eq_some_iff] at hs
  obtain ⟨i, hT, hs⟩ := hs
  rw [Option.bind_eq_some_iff] at hs
  obtain ⟨vs, hvs, hs⟩ := hs
  have hcs := cellsV_ok hu hvs
  cases hsz : Nat.beq vs.length i.size with
  | false => simp [hsz] at hs
  | true =>
    simp only [hsz, cond_true] at hs
    have hsz := Nat.eq_of_beq_eq_true hsz
    have hlen := hcs.length
    simp at hlen
    split at hs
    · rename_i id off
      rw [Option.bind_eq_some_iff] at hs
      obtain ⟨ob, hob, hs⟩ := hs
      split at hs
      · rename_i cs
        cases hle : Nat.ble (off + i.size) cs.length && vs.all defC with
        | false => simp [hle] at hs
        | true =>
          simp only [hle, cond_true, Option.some.injEq] at hs
          subst hs
          simp only [Bool.and_eq_true] at hle
          have hle1 := Nat.le_of_ble_eq_true hle.1
          unfold VW CW at hp
          obtain ⟨_, b, c, hloc, rfl⟩ := hp
          obtain ⟨b', c', us, T', hloc', hb, hc⟩ := hw.box hob
          rw [hloc] at hloc'
          obtain ⟨rfl, rfl⟩ : b = b' ∧ c = c' := by simpa using hloc'
          have hcl := hc.length
          simp at hcl
          have hrun := run_storeAt (P := P) (w := w) ht hT (o := off) (u := u) hb (by omega) (by omega) (hcs.ones hle.2)
          have hrest := setCells_rest b u.cells.toList off w
          have hh := setCells_heap b u.cells.toList off w us T' (0, 0) hb (by simp; omega)
          have ex : Ext U h loc w (hput h id (.box (Go.Vm.putAt cs off vs))) loc (w.setCells b off u.cells.toList) :=
            Ext.turn hob rfl (by simp [Turns]) hloc (setCells_size _ _ _ _) (setCells_other b _ _ w) (hw.sep id _ b c hob rfl hloc).1 hrest.1 hrest.2.1 hrest.2.2
          refine ⟨_, hrun, ?_, ex⟩
          refine hw.turn hob rfl (by simp [Turns]) hloc (setCells_size _ _ _ _) (setCells_other b _ _ w) hrest.1 hrest.2.1 hrest.2.2 ?_
          exact ⟨b, c, _, T', hloc, hh, by simpa using (hc.putAt hcs).ext ex⟩
      · simp at hs
    · rename_i id k j off
      rw [Option.bind_eq_some_iff] at hs
      obtain ⟨ob, hob, hs⟩ := hs
      split at hs
      · rename_i k' l
        by_cases e : k' = k
        · subst e
          simp only [dite_true] at hs
          rw [Option.bind_eq_some_iff] at hs
          obtain ⟨y, hy, hs⟩ := hs
          cases hle : Nat.ble (off + i.size) (szOf k') with
          | false => simp [hle] at hs
          | true =>
            simp only [hle, cond_true] at hs
            rw [Option.bind_eq_some_iff] at hs
            obtain ⟨fs, hfs, hs⟩ := hs
            rw [Option.bind_eq_some_iff] at hs
            obtain ⟨z, hz, hs⟩ := hs
            simp only [Option.some.injEq] at hs
            subst hs
            have hle1 := Nat.le_of_ble_eq_true hle
            unfold VW CW at hp
            obtain ⟨_, _, b, c, hloc, rfl⟩ := hp
            obtain ⟨us, T', hb, hus, hlc, hcells⟩ := (hw.obj id _ hob).2 b c hloc
            have hvf := lmapM_frz hfs
            subst hvf
            have hj : j < l.length := by
              rcases Nat.lt_or_ge j l.length with h | h
              · exact h
              · rw [List.getElem?_eq_none h] at hy; cases hy
            have hjc : j * szOf k' + szOf k' ≤ us.size := by
              rw [hus]
              have := Nat.mul_le_mul_right (szOf k') (show j + 1 ≤ c by omega)
              rw [Nat.add_mul] at this
              omega
            have hrun := run_storeAt (P := P) (w := w) ht hT (o := j * szOf k' + off) (u := u) hb (by omega) (by omega) (hcs.ones (all_def fs))
            have hrest := setCells_rest b u.cells.toList (j * szOf k' + off) w
            have hh := setCells_heap b u.cells.toList (j * szOf k' + off) w us T' (0, 0) hb (by simp; omega)
            have htn : Turns loc id (.row true k' l) (.row true k' (l.set j z)) := ⟨rfl, rfl, by simp, fun hn => by rw [hloc] at hn; cases hn⟩
            have ex : Ext U h loc w (hput h id (.row true k' (l.set j z))) loc (w.setCells b (j * szOf k' + off) u.cells.toList) :=
              Ext.turn hob rfl htn hloc (setCells_size _ _ _ _) (setCells_other b _ _ w) (hw.sep id _ b c hob rfl hloc).1 hrest.1 hrest.2.1 hrest.2.2
            refine ⟨_, hrun, ?_, ex⟩
            refine hw.turn hob rfl htn hloc (setCells_size _ _ _ _) (setCells_other b _ _ w) hrest.1 hrest.2.1 hrest.2.2 ?_
            refine ⟨fun hn => (by rw [hloc] at hn; cases hn), fun b' c' hl' => ?_⟩
            rw [hloc] at hl'
            obtain ⟨rfl, rfl⟩ : b = b' ∧ c = c' := by simpa using hl'
            refine ⟨_, T', hh, by simp [putAt_length, hus], by simpa using hlc, fun r x q f hx hf => ?_⟩
            have hq : q < szOf k' := by
              rw [← cells_length k' x]
              exact (List.getElem?_eq_some_iff.1 hf).1
            rw [show (Array.mk (Go.Vm.putAt us.toList (j * szOf k' + off) u.cells.toList))[r * szOf k' + q]? = (Go.Vm.putAt us.toList (j * szOf k' + off) u.cells.toList)[r * szOf k' + q]? from List.getElem?_toArray]
            rw [putAt_get]
            have hfl : (fs.map C.f).length = fs.length := List.length_map _
            by_cases hij : r = j
            · subst hij
              rw [List.getElem?_set_self hj] at hx
              obtain rfl := Option.some.inj hx
              obtain ⟨f0, hf0, hwk⟩ := (ofCells_wk hz).get hf
              rw [putAt_get] at hf0
              by_cases hin : off ≤ q ∧ q < off + fs.length ∧ q < (cellsOf k' y).length
              · rw [if_pos hin] at hf0
                rw [if_pos ⟨by omega, by simp; omega, by simp; omega⟩]
                obtain ⟨v0, hv0, hr0⟩ := hcs.get (j := q - off) (c := .f f0) (by rw [List.getElem?_map, hf0]; rfl)
                unfold CW at hr0
                obtain ⟨n, hn⟩ := hr0
                exact ⟨v0, n, by rw [show r * szOf k' + q - (r * szOf k' + off) = q - off by omega]; exact hv0, Wk.cell (hn.keeps ex.keeps) hwk⟩
              · rw [if_neg hin] at hf0
                have hq2 : q < (cellsOf k' y).length := by rw [cells_length]; exact hq
                rw [if_neg (by simp; omega)]
                obtain ⟨v0, n, hv0, hr0⟩ := hcells r y q f0 hy hf0
                exact ⟨v0, n, by simpa using hv0, Wk.cell (hr0.keeps ex.keeps) hwk⟩
            · rw [List.getElem?_set_ne (by omega)] at hx
              obtain ⟨v0, n, hv0, hr0⟩ := hcells r x q f hx hf
              have hap := apart_mul (n := i.size) hij hq hle1
              rw [if_neg (by simp; omega)]
              exact ⟨v0, n, by simpa using hv0, hr0.keeps ex.keeps⟩
        · simp [e] at hs
      · simp at hs
    · simp at hs

end
end Go.Vm
