/-
  The machine's operations against the model's: places and parts.
-/
import Derived.Test.YtepghohkfnmhmaaDoorVmOpsA
namespace Go.Vm
variable {G : Gl}
set_option linter.unusedVariables false
set_option linter.unusedSimpArgs false

section
variable {P : Program} {cfg : Cfg} {U : Nat → Prop} {h h' : Hp} {loc loc' : Loc} {w w' : World} {a : Act} {fr : Fr}

theorem getElem?_cut {α : Type} (l : List α) (o n j : Nat) (x : α) : (cut l o n)[j]? = some x ↔ j < n ∧ l[o + j]? = some x := by
  unfold cut
  rw [List.getElem?_take, List.getElem?_drop]
  split
  · rename_i hlt; exact ⟨fun h => ⟨hlt, h⟩, fun h => h.2⟩
  · rename_i hge; exact ⟨fun h => by simp at h, fun h => absurd h.1 hge⟩

theorem cut_length {α : Type} (l : List α) (o n : Nat) (h : o + n ≤ l.length) : (cut l o n).length = n := by
  unfold cut
  simp
  omega

theorem cells_choice {M : Nat → Prop} {b : Nat} : ∀ (cs : List C) (o : Nat), (∀ (j : Nat) (c : C), cs[j]? = some c → ∃ u, w.cell? ⟨b, o + j, none⟩ = some u ∧ CW w M h loc u c) →
    ∃ us : List Value, CWs w M h loc us cs ∧ ∀ (j : Nat) (u : Value), us[j]? = some u → w.cell? ⟨b, o + j, none⟩ = some u
  | [], o, _ => ⟨[], by unfold CWs; trivial, fun j u hu => by simp at hu⟩
  | c :: cs, o, hc => by
    obtain ⟨u, hu, hr⟩ := hc 0 c rfl
    obtain ⟨us, h1, h2⟩ := cells_choice cs (o + 1) (fun j c' hj => by
      have := hc (j + 1) c' (by simpa using hj)
      rwa [show o + (j + 1) = o + 1 + j by omega] at this)
    refine ⟨u :: us, by unfold CWs; exact ⟨hr, h1⟩, fun j v hv => ?_⟩
    cases j with
    | zero => simp at hv; subst hv; exact hu
    | succ j =>
      have := h2 j v (by simpa using hv)
      rwa [show o + (j + 1) = o + 1 + j by omega]

theorem isAggD_row (d : TypeDesc) : isAggD d = d.isRow := by cases d <;> rfl

theorem run_isAgg_false (ht : TabOK P cfg) {T : TypeId} {i : TI} (hT : cfg.tb T = some i) (hd : isAggD i.desc = false) : (isAgg T).run P w = .ok false w := by
  have h1 := ht.und T i hT
  unfold isAgg
  rw [Sem.run_bind, run_underlying h1 w]
  cases hdesc : i.desc <;> simp_all [isAggD]

theorem sizeI (ht : TabOK P cfg) {T : TypeId} {i : TI} (hT : cfg.tb T = some i) : (P.info? T).map (·.size) = some i.size := by
  obtain ⟨x, h1, _, h3, _⟩ := ht.inf T i hT
  simp [h1, h3]

/-- Cells that lie in a row, loaded as one value. -/
theorem load_cells (ht : TabOK P cfg) {M : Nat → Prop} {T : TypeId} {i : TI} (hT : cfg.tb T = some i) {b o : Nat} {cs : List C} {v : V} (hl : cs.length = i.size)
    (hc : ∀ (j : Nat) (c : C), cs[j]? = some c → ∃ u, w.cell? ⟨b, o + j, none⟩ = some u ∧ CW w M h loc u c) (hv : valOf (isAggD i.desc) cs = some v) :
    ∃ u, (Instr.loadAt T (.pointer (some ⟨b, o, none⟩))).run P w = .ok u w ∧ VW w M h loc u v := by
  obtain ⟨us, h1, h2⟩ := cells_choice cs o hc
  cases hd : isAggD i.desc with
  | true =>
    simp [valOf, hd] at hv
    subst hv
    refine ⟨.agg us.toArray, run_loadAt_mid w b o T us i.desc (fun j v hv => h2 j v hv) (ht.und T i hT) (by rw [← isAggD_row]; exact hd) ?_, ?_⟩
    · rw [sizeI ht hT, ← hl, h1.length]
    · unfold VW
      exact ⟨us, rfl, h1⟩
  | false =>
    simp only [valOf, hd, cond_false] at hv
    match cs, hv, hl, h1 with
    | [c], hv, hl, h1 =>
      simp at hv
      subst hv
      match us, h1 with
      | [u], h1 =>
        unfold CWs at h1
        refine ⟨u, ?_, by unfold VW; exact h1.1⟩
        have hu := h2 0 u rfl
        simp at hu
        simp [Instr.loadAt, Instr.sureAddr, loadVar, Sem.run_bind, run_isAgg_false ht hT hd, run_load, hu]

theorem HW.box (hw : HW G U h loc w) {id : Id} {cs : List C} (hi : h id = some (.box cs)) : ∃ b c us T, loc id = some (b, c) ∧ w.heap[b]? = some (.cells us T (0, 0)) ∧ CWs w (Mut U h loc) h loc us.toList cs := hw.obj id _ hi

theorem cell_heap {b j : Nat} {us : Array Value} {T : TypeId} {f : Nat × Nat} (hb : w.heap[b]? = some (.cells us T f)) : w.cell? ⟨b, j, none⟩ = us[j]? := by simp [World.cell?, hb]
theorem frozen_heap {b j : Nat} {us : Array Value} {T : TypeId} (hb : w.heap[b]? = some (.cells us T (0, 0))) : w.frozen? ⟨b, j, none⟩ = false := by simp [World.frozen?, hb]

/-- An element's cells, from an address. -/
theorem elem_cells {M : Nat → Prop} {n b o : Nat} {k : Kind} {x : El k} (hc : ∀ (j : Nat) (f : F), (cellsOf k x)[j]? = some f → ∃ u, w.cell? ⟨b, o + j, none⟩ = some u ∧ CellW w M n u f) (off sz : Nat) :
    ∀ (j : Nat) (c : C), ((cut (cellsOf k x) off sz).map C.f)[j]? = some c → ∃ u, w.cell? ⟨b, o + off + j, none⟩ = some u ∧ CW w M h loc u c := by
  intro j c hj
  rw [List.getElem?_map, Option.map_eq_some_iff] at hj
  obtain ⟨f, hf, rfl⟩ := hj
  obtain ⟨hlt, hf⟩ := (getElem?_cut _ _ _ _ _).1 hf
  obtain ⟨u, hu, hr⟩ := hc (off + j) f hf
  exact ⟨u, by rw [Nat.add_assoc]; exact hu, by unfold CW; exact ⟨n, hr⟩⟩

theorem idx_row {us : Array Value} {b i j sz : Nat} {T : TypeId} (hb : w.heap[b]? = some (.cells us T (0, 0))) : w.cell? ⟨b, i * sz + j, none⟩ = us[i * sz + j]? := cell_heap hb

theorem ld_ok (ht : TabOK P cfg) (hw : HW G U h loc w) {T : TypeId} {p : Value} {x v : V} (hp : VW w (Mut U h loc) h loc p x) (hl : ld cfg h T x = some v) :
    ∃ u, (Instr.loadAt T p).run P w = .ok u w ∧ VW w (Mut U h loc) h loc u v := by
  unfold ld at hl
  rw [Option.bind_eq_some_iff] at hl
  obtain ⟨i, hT, hl⟩ := hl
  split at hl
  · rename_i id off
    rw [Option.bind_eq_some_iff] at hl
    obtain ⟨o, ho, hl⟩ := hl
    split at hl
    · rename_i cs
      cases hle : Nat.ble (off + i.size) cs.length with
      | false => simp [hle] at hl
      | true =>
        simp only [hle, cond_true] at hl
        have hle := Nat.le_of_ble_eq_true hle
        unfold VW CW at hp
        obtain ⟨_, b, c, hloc, rfl⟩ := hp
        obtain ⟨b', c', us, T', hloc', hb, hc⟩ := hw.box ho
        rw [hloc] at hloc'
        obtain ⟨rfl, rfl⟩ : b = b' ∧ c = c' := by simpa using hloc'
        refine load_cells ht hT (cut_length _ _ _ hle) (fun j c hj => ?_) hl
        obtain ⟨hlt, hj⟩ := (getElem?_cut _ _ _ _ _).1 hj
        obtain ⟨u, hu, hr⟩ := hc.get hj
        exact ⟨u, by rw [cell_heap hb]; simpa using hu, hr⟩
    · simp at hl
  · rename_i k y off
    cases hle : Nat.ble (off + i.size) (szOf k) with
    | false => simp [hle] at hl
    | true =>
      simp only [hle, cond_true] at hl
      have hle := Nat.le_of_ble_eq_true hle
      unfold VW CW at hp
      obtain ⟨n, hn⟩ := hp
      cases n with
      | zero => exact hn.elim
      | succ n =>
        obtain ⟨b, o, rfl, _, _, hc⟩ := hn
        exact load_cells ht hT (by rw [List.length_map]; exact cut_length _ _ _ (by rw [cells_length]; exact hle)) (elem_cells hc off i.size) hl
  · rename_i id k j off
    rw [Option.bind_eq_some_iff] at hl
    obtain ⟨o, ho, hl⟩ := hl
    split at hl
    · rename_i wr k' l
      by_cases e : k' = k
      · subst e
        simp only [dite_true] at hl
        rw [Option.bind_eq_some_iff] at hl
        obtain ⟨y, hy, hl⟩ := hl
        cases hle : Nat.ble (off + i.size) (szOf k') with
        | false => simp [hle] at hl
        | true =>
          simp only [hle, cond_true] at hl
          have hle := Nat.le_of_ble_eq_true hle
          unfold VW CW at hp
          obtain ⟨_, _, b, c, hloc, rfl⟩ := hp
          obtain ⟨us, T', hb, hsz, hlen, hcells⟩ := (hw.obj id _ ho).2 b c hloc
          refine load_cells ht hT (by rw [List.length_map]; exact cut_length _ _ _ (by rw [cells_length]; exact hle)) (fun q c hq => ?_) hl
          rw [List.getElem?_map, Option.map_eq_some_iff] at hq
          obtain ⟨f, hf, rfl⟩ := hq
          obtain ⟨hlt, hf⟩ := (getElem?_cut _ _ _ _ _).1 hf
          obtain ⟨u, n, hu, hr⟩ := hcells j y (off + q) f hy hf
          exact ⟨u, by rw [cell_heap hb, show j * szOf k' + off + q = j * szOf k' + (off + q) by omega]; exact hu, by unfold CW; exact ⟨n, hr⟩⟩
      · simp [e] at hl
    · simp at hl
  · simp at hl

theorem fieldOf_ok (ht : TabOK P cfg) {T : TypeId} {j o : Nat} {u : TypeId} (hf : fieldOf cfg T j = some (o, u)) : ∃ fs f, P.underlying T = some (.struct fs) ∧ fs[j]? = some f ∧ f.offset = o ∧ f.type = u := by
  unfold fieldOf at hf
  rw [Option.bind_eq_some_iff] at hf
  obtain ⟨i, hT, hf⟩ := hf
  split at hf
  · rename_i fs hd
    rw [Option.map_eq_some_iff] at hf
    obtain ⟨f, hf, he⟩ := hf
    simp at he
    exact ⟨fs, f, by rw [ht.und T i hT, hd], hf, he.1, he.2⟩
  · simp at hf

theorem run_fieldAt (ht : TabOK P cfg) {T : TypeId} {i : TI} {j b o : Nat} {fs : Array Field} {f : Field} (hu : P.underlying T = some (.struct fs)) (hf : fs[j]? = some f) (hT : cfg.tb f.type = some i) (hs : 0 < i.size) :
    (Instr.fieldAt T (.pointer (some ⟨b, o, none⟩)) j).run P w = .ok (.pointer (some ⟨b, o + f.offset, none⟩)) w := by
  obtain ⟨x, h1, _, h3, _⟩ := ht.inf _ i hT
  have h0 : x.size ≠ 0 := by omega
  simp [Instr.fieldAt, Sem.run_bind, run_underlying hu, hf, Instr.sureAddr, fieldPlace, sizeOf, typeInfo, h1, h0, Addr.add_mid]

theorem fldA_ok (ht : TabOK P cfg) {M : Nat → Prop} {T : TypeId} {j : Nat} {p : Value} {x v : V} (hp : VW w M h loc p x) (hl : fldA cfg T x j = some v) :
    ∃ u, (Instr.fieldAt T p j).run P w = .ok u w ∧ VW w M h loc u v := by
  unfold fldA at hl
  rw [Option.bind_eq_some_iff] at hl
  obtain ⟨q, hq, hl⟩ := hl
  obtain ⟨o, ft⟩ := q
  obtain ⟨fs, f, hu, hf, rfl, rfl⟩ := fieldOf_ok ht hq
  rw [Option.bind_eq_some_iff] at hl
  obtain ⟨i, hT, hl⟩ := hl
  cases hb : Nat.blt 0 i.size with
  | false => simp [hb] at hl
  | true =>
    have hs : 0 < i.size := by simp [Nat.blt] at hb; omega
    simp only [hb, cond_true] at hl
    split at hl
    · simp at hl; subst hl
      unfold VW CW at hp
      obtain ⟨h1, b, c, hloc, rfl⟩ := hp
      refine ⟨_, run_fieldAt ht hu hf hT hs, ?_⟩
      unfold VW CW
      exact ⟨h1, b, c, hloc, rfl⟩
    · simp at hl; subst hl
      unfold VW CW at hp
      obtain ⟨n, hn⟩ := hp
      cases n with
      | zero => exact hn.elim
      | succ n =>
        obtain ⟨b, o, rfl, hr⟩ := hn
        refine ⟨_, run_fieldAt ht hu hf hT hs, ?_⟩
        unfold VW CW
        exact ⟨n + 1, b, o, by rw [Nat.add_assoc], hr⟩
    · simp at hl; subst hl
      unfold VW CW at hp
      obtain ⟨h1, h2, b, c, hloc, rfl⟩ := hp
      refine ⟨_, run_fieldAt ht hu hf hT hs, ?_⟩
      unfold VW CW
      exact ⟨h1, h2, b, c, hloc, by rw [Nat.add_assoc]⟩
    · simp at hl

/-- Some of the cells, taken for one value. -/
theorem part_cells (ht : TabOK P cfg) {M : Nat → Prop} {T : TypeId} {i : TI} (hT : cfg.tb T = some i) {us : List Value} {cs : List C} {o : Nat} {v : V} (hc : CWs w M h loc us cs) (ho : o + i.size ≤ cs.length)
    (hv : valOf (isAggD i.desc) (cut cs o i.size) = some v) : ∃ u, (Go.part T us.toArray o).run P w = .ok u w ∧ VW w M h loc u v := by
  have h1 := ht.und T i hT
  cases hd : isAggD i.desc with
  | true =>
    simp [valOf, hd] at hv
    subst hv
    have h2 : (isAgg T).run P w = .ok true w := by
      unfold isAgg
      rw [Sem.run_bind, run_underlying h1 w]
      cases hdesc : i.desc <;> simp_all [isAggD]
    obtain ⟨x, hx, _, hs, _⟩ := ht.inf T i hT
    refine ⟨.agg (us.toArray.extract o (o + i.size)), by simp [Go.part, Sem.run_bind, h2, sizeOf, typeInfo, hx, hs], ?_⟩
    unfold VW
    refine ⟨cut us o i.size, ?_, hc.cut o i.size⟩
    simp [cut, List.extract_eq_take_drop, Nat.add_sub_cancel_left]
  | false =>
    simp only [valOf, hd, cond_false] at hv
    have hl := cut_length cs o i.size ho
    match hcc : cut cs o i.size, hv, hl with
    | [c], hv, hl =>
      simp at hv
      subst hv
      have hcut := hc.cut o i.size
      rw [hcc] at hcut
      match huu : cut us o i.size, hcut with
      | [u], hcut =>
        unfold CWs at hcut
        have : (cut us o i.size)[0]? = some u := by rw [huu]; rfl
        have := (getElem?_cut _ _ _ _ _).1 this
        exact ⟨u, run_part_one ht hT hd (by simpa using this.2), by unfold VW; exact hcut.1⟩

theorem fld_ok (ht : TabOK P cfg) {M : Nat → Prop} {T : TypeId} {j : Nat} {p : Value} {x v : V} (hp : VW w M h loc p x) (hl : fld cfg T x j = some v) :
    ∃ u, (Instr.field T p j).run P w = .ok u w ∧ VW w M h loc u v := by
  unfold fld at hl
  rw [Option.bind_eq_some_iff] at hl
  obtain ⟨q, hq, hl⟩ := hl
  obtain ⟨o, ft⟩ := q
  obtain ⟨fs, f, hu, hf, rfl, rfl⟩ := fieldOf_ok ht hq
  rw [Option.bind_eq_some_iff] at hl
  obtain ⟨i, hT, hl⟩ := hl
  split at hl
  · rename_i cs
    cases hle : Nat.ble (f.offset + i.size) cs.length with
    | false => simp [hle] at hl
    | true =>
      simp only [hle, cond_true] at hl
      unfold VW at hp
      obtain ⟨us, rfl, hc⟩ := hp
      obtain ⟨u, h1, h2⟩ := part_cells ht hT hc (Nat.le_of_ble_eq_true hle) hl
      exact ⟨u, by simp [Instr.field, Sem.run_bind, run_underlying hu, hf, asAgg, h1], h2⟩
  · simp at hl

theorem kindT_ok (ht : TabOK P cfg) {T : TypeId} {k : Kind} (hk : kindT cfg T = some k) : ∃ e, P.underlying T = some (.slice e) ∧ ∃ x z, P.info? e = some x ∧ x.zero = some z ∧ x.size = szOf k ∧ 0 < x.bytes ∧ x.bytes ≤ 1000 := by
  unfold kindT at hk
  rw [Option.bind_eq_some_iff] at hk
  obtain ⟨i, hT, hk⟩ := hk
  split at hk
  · rename_i e hd
    obtain ⟨x, z, h1, h2, h3, h4, h5, h6⟩ := ht.kin T i k e hT hd hk
    exact ⟨e, by rw [ht.und T i hT, hd], x, z, h1, h2, h3, h5, h6⟩
  · simp at hk

theorem idx_some {α : Type} {l : List α} {i : Int} {x : α} (hi : idx l i = some x) : 0 ≤ i ∧ i < l.length ∧ l[i.toNat]? = some x := by
  unfold idx at hi
  split at hi
  · rename_i h0
    have : i.toNat < l.length := by
      rcases Nat.lt_or_ge i.toNat l.length with h | h
      · exact h
      · rw [List.getElem?_eq_none h] at hi; cases hi
    exact ⟨h0, by omega, hi⟩
  · simp at hi

theorem run_indexAt {T e : TypeId} {i : Int} {n c b o : Nat} {x : TypeInfo} (hu : P.underlying T = some (.slice e)) (hx : P.info? e = some x) (h0 : 0 ≤ i) (h1 : i < n) :
    (Instr.indexAt T (.slice (some ⟨b, o, none⟩) n c) (.int .i64 i)).run P w = .ok (.pointer (some ⟨b, o + i.toNat * x.size, none⟩)) w := by
  simp [Instr.indexAt, Sem.run_bind, run_underlying hu, asIntOf, h0, h1, sizeOf, typeInfo, hx, Addr.add_mid]

theorem ixA_ok (ht : TabOK P cfg) (hw : HW G U h loc w) {T : TypeId} {p q : Value} {x i v : V} (hp : VW w (Mut U h loc) h loc p x) (hq : VW w (Mut U h loc) h loc q i) (hl : ixA cfg h T x i = some v) :
    ∃ u, (Instr.indexAt T p q).run P w = .ok u w ∧ VW w (Mut U h loc) h loc u v := by
  unfold ixA at hl
  rw [Option.bind_eq_some_iff] at hl
  obtain ⟨k, hk, hl⟩ := hl
  obtain ⟨e, hu, ti, _, hti, _, hsz, _, _⟩ := kindT_ok ht hk
  rw [Option.bind_eq_some_iff] at hl
  obtain ⟨n, hn, hl⟩ := hl
  obtain ⟨rfl, rfl⟩ := asI_ok hq hn
  split at hl
  · rename_i t k' l
    by_cases hkk : k' = k
    · subst hkk
      simp only [decide_true, cond_true] at hl
      rw [Option.bind_eq_some_iff] at hl
      obtain ⟨y, hy, hl⟩ := hl
      simp at hl; subst hl
      obtain ⟨h0, h1, hget⟩ := idx_some hy
      unfold VW CW at hp
      obtain ⟨m, hm⟩ := hp
      cases m with
      | zero => exact hm.elim
      | succ m =>
        obtain ⟨A, c, rfl, _, _, hcells⟩ := hm
        obtain ⟨b, o, rfl, hr⟩ := hcells _ _ hget
        refine ⟨_, run_indexAt hu hti h0 h1, ?_⟩
        rw [hsz]
        unfold VW CW
        exact ⟨m + 1, b, o + n.toNat * szOf k', by simp, hr⟩
    · simp [hkk] at hl
  · rename_i id k'
    by_cases hkk : k' = k
    · subst hkk
      simp only [decide_true, cond_true] at hl
      rw [Option.bind_eq_some_iff] at hl
      obtain ⟨ob, hob, hl⟩ := hl
      split at hl
      · rename_i k2 l
        by_cases hk2 : k2 = k'
        · subst hk2
          simp only [decide_true, cond_true] at hl
          rw [Option.bind_eq_some_iff] at hl
          obtain ⟨y, hy, hl⟩ := hl
          simp at hl; subst hl
          obtain ⟨h0, h1, hget⟩ := idx_some hy
          unfold VW CW at hp
          obtain ⟨_, hs, hrow⟩ := hp
          obtain ⟨_, hown, hti2⟩ := hrow _ _ _ hob
          cases hloc : loc id with
          | none =>
            have := (hw.obj id _ hob).1 hloc rfl
            subst this
            simp at h1
            omega
          | some bc =>
            obtain ⟨b, c⟩ := bc
            obtain rfl := hown b c hloc
            refine ⟨_, run_indexAt hu hti h0 h1, ?_⟩
            rw [hsz]
            unfold VW CW
            exact ⟨hs, fun wr' k'' l' he => by rw [hob] at he; cases he; rfl, b, c, hloc, by simp⟩
        · simp [hk2] at hl
      · simp at hl
    · simp [hkk] at hl
  · simp at hl

theorem byteAt_some {s : ByteArray} {i : Int} {b : Int} (h : byteAt s i = some b) : 0 ≤ i ∧ ∃ c : UInt8, s[i.toNat]? = some c ∧ b = c.toNat := by
  unfold byteAt at h
  split at h
  · rename_i h0
    rw [Option.map_eq_some_iff] at h
    obtain ⟨c, hc, rfl⟩ := h
    exact ⟨h0, c, hc, rfl⟩
  · simp at h

theorem ix_ok (ht : TabOK P cfg) {M : Nat → Prop} {T : TypeId} {p q : Value} {x i v : V} (hp : VW w M h loc p x) (hq : VW w M h loc q i) (hl : ix cfg T x i = some v) :
    ∃ u, (Instr.index T p q).run P w = .ok u w ∧ VW w M h loc u v := by
  unfold ix at hl
  rw [Option.bind_eq_some_iff] at hl
  obtain ⟨t, hT, hl⟩ := hl
  have h1 := ht.und T t hT
  split at hl
  · rename_i s hd
    rw [Option.bind_eq_some_iff] at hl
    obtain ⟨n, hn, hl⟩ := hl
    obtain ⟨rfl, rfl⟩ := asI_ok hq hn
    rw [Option.bind_eq_some_iff] at hl
    obtain ⟨b, hb, hl⟩ := hl
    simp at hl; subst hl
    obtain rfl := hp.sc
    obtain ⟨h0, c, hc, rfl⟩ := byteAt_some hb
    rw [hd] at h1
    exact ⟨_, by simp [Instr.index, Sem.run_bind, asIntOf, run_underlying h1, h0, hc], VW.mk_int _ _⟩
  · simp at hl

theorem bnds_some {n : Nat} {lo hi : Option Int} {a b : Nat} (hb : bnds n lo hi = some (a, b)) :
    0 ≤ lo.getD 0 ∧ lo.getD 0 ≤ hi.getD n ∧ hi.getD n ≤ n ∧ a = (lo.getD 0).toNat ∧ b = (hi.getD n).toNat := by
  unfold bnds at hb
  simp only at hb
  split at hb
  · rename_i h0
    simp at hb
    exact ⟨h0.1, h0.2.1, h0.2.2, hb.1.symm, hb.2.symm⟩
  · simp at hb

theorem optI_ok {o : Option Operand} {r : Option Int} (hf : FrW w (Mut U h loc) h loc a fr) (ho : optI fr o = some r) : o.map a.eval = r.map (Value.int .i64) := by
  cases o with
  | none => simp [optI] at ho; subst ho; rfl
  | some x =>
    simp only [optI, Option.bind_eq_some_iff] at ho
    obtain ⟨v, hv, n, hn, hr⟩ := ho
    simp at hr
    subst hr
    have := asI_ok (ev_ok hf hv) hn
    simp [this.1]

theorem run_sliceBounds {isS : Bool} {n c : Nat} {lo hi : Option Int} {p q : Nat} (hb : bnds n lo hi = some (p, q)) (hc : n ≤ c) :
    (Instr.sliceBounds isS n c (lo.map (Value.int .i64)) (hi.map (Value.int .i64)) none).run P w = .ok (p, q, c) w := by
  obtain ⟨h1, h2, h3, rfl, rfl⟩ := bnds_some hb
  cases lo with
  | none =>
    cases hi with
    | none => simp [Instr.sliceBounds, Sem.run_bind]
    | some y =>
      simp at h2 h3
      have h4 : y ≤ (c : Int) := by omega
      simp [Instr.sliceBounds, Sem.run_bind, Instr.sliceBound, asIntOf, h2, h4]
  | some x =>
    cases hi with
    | none =>
      simp at h1 h2
      simp [Instr.sliceBounds, Sem.run_bind, Instr.sliceBound, asIntOf, h1, h2]
    | some y =>
      simp at h1 h2 h3
      have h4 : y ≤ (c : Int) := by omega
      have h5 : 0 ≤ y := by omega
      have h6 : (max y 0 : Int) = y := by omega
      have h7 : x ≤ max y 0 := by omega
      simp [Instr.sliceBounds, Sem.run_bind, Instr.sliceBound, asIntOf, h1, h2, h4, h5, h6]

/-- A frozen slice, cut. -/
theorem CellW.cutSl {M : Nat → Prop} {n : Nat} {A : Option Addr} {len c : Nat} {t : Bool} {k : Kind} {l : List (El k)} {p q : Nat} (hc : CellW w M (n + 1) (.slice A len c) (.sl t k l)) (h1 : p ≤ q) (h2 : q ≤ l.length) :
    CellW w M (n + 1) (.slice (if c = p then A else A.map (·.add (p * szOf k))) (q - p) (c - p)) (.sl false k ((l.take q).drop p)) := by
  obtain ⟨A', c', he, hlen, _, hcells⟩ := hc
  simp at he
  obtain ⟨rfl, rfl, rfl⟩ := he
  have hl : ((l.take q).drop p).length = q - p := by simp; omega
  refine ⟨_, _, by rw [hl], by rw [hl]; omega, fun h => by simp at h, fun i x hx => ?_⟩
  have hi : i < ((l.take q).drop p).length := by
    rcases Nat.lt_or_ge i ((l.take q).drop p).length with h | h
    · exact h
    · rw [List.getElem?_eq_none h] at hx; cases hx
  have hx' : l[p + i]? = some x := by
    rw [List.getElem?_drop, List.getElem?_take] at hx
    split at hx
    · exact hx
    · cases hx
  obtain ⟨b, o, rfl, hm, hb, hr⟩ := hcells _ _ hx'
  have hne : c ≠ p := by omega
  refine ⟨b, o + p * szOf k, by simp [hne, Addr.add_mid], hm, hb, fun j f hf => ?_⟩
  obtain ⟨u, hu, hr⟩ := hr j f hf
  exact ⟨u, by rw [show o + p * szOf k + i * szOf k + j = o + (p + i) * szOf k + j by rw [Nat.add_mul]; omega]; exact hu, hr⟩

theorem slc_ok (ht : TabOK P cfg) {T : TypeId} {p : Value} {x v : V} {lo hi mx : Option Operand} (hf : FrW w (Mut U h loc) h loc a fr) (hp : VW w (Mut U h loc) h loc p x) (hl : slc cfg fr T x lo hi mx = some v) :
    ∃ u, (Instr.sliceAt T p (lo.map a.eval) (hi.map a.eval) (mx.map a.eval)).run P w = .ok u w ∧ VW w (Mut U h loc) h loc u v := by
  unfold slc at hl
  rw [Option.bind_eq_some_iff] at hl
  obtain ⟨t, hT, hl⟩ := hl
  have h1 := ht.und T t hT
  rw [Option.bind_eq_some_iff] at hl
  obtain ⟨l', hlo, hl⟩ := hl
  rw [Option.bind_eq_some_iff] at hl
  obtain ⟨h', hhi, hl⟩ := hl
  rw [optI_ok hf hlo, optI_ok hf hhi]
  split at hl
  · rename_i s hd
    rw [hd] at h1
    rw [Option.bind_eq_some_iff] at hl
    obtain ⟨⟨pa, pb⟩, hb, hl⟩ := hl
    simp at hl; subst hl
    obtain rfl := hp.sc
    refine ⟨.string (s.extract pa pb), ?_, VW.mk_str _⟩
    have := run_sliceBounds (P := P) (w := w) (isS := false) hb (Nat.le_refl s.size)
    simp [Instr.sliceAt, Instr.slice, Sem.run_bind, run_underlying h1, this]
  · rename_i e t' k y hd
    rw [hd] at h1
    by_cases hk : t.kind = some k
    · simp only [hk, decide_true, cond_true, Option.bind_eq_some_iff] at hl
      obtain ⟨⟨pa, pb⟩, hb, hl⟩ := hl
      simp at hl; subst hl
      obtain ⟨e', hu', ti, _, hti, _, hsz, _, _⟩ := kindT_ok ht (k := k) (T := T) (by simp [kindT, hT, hd, hk])
      have he : e' = e := by rw [h1] at hu'; simp at hu'; exact hu'.symm
      subst he
      unfold VW CW at hp
      obtain ⟨m, hm⟩ := hp
      cases m with
      | zero => exact hm.elim
      | succ m =>
        have hm' := hm
        obtain ⟨A, c, rfl, hlen, _, _⟩ := hm
        have := run_sliceBounds (P := P) (w := w) (isS := true) hb hlen
        obtain ⟨g1, g2, g3, rfl, rfl⟩ := bnds_some hb
        refine ⟨_, by simp [Instr.sliceAt, Instr.slice, Sem.run_bind, run_underlying h1, this, sizeOf, typeInfo, hti, hsz]; rfl, ?_⟩
        unfold VW CW
        exact ⟨m + 1, hm'.cutSl (by omega) (by omega)⟩
    · simp [hk] at hl
  · rename_i e t' k y hd
    rw [hd] at h1
    split at hl
    · by_cases hk : t.kind = some k
      · simp [hk] at hl
        subst hl
        obtain ⟨e', hu', ti, _, hti, _, hsz, _, _⟩ := kindT_ok ht (k := k) (T := T) (by simp [kindT, hT, hd, hk])
        have he : e' = e := by rw [h1] at hu'; simp at hu'; exact hu'.symm
        subst he
        unfold VW CW at hp
        obtain ⟨m, hm⟩ := hp
        cases m with
        | zero => exact hm.elim
        | succ m =>
          obtain ⟨A, c, rfl, hlen, _, _⟩ := hm
          refine ⟨.slice A 0 0, by simp [Instr.sliceAt, Instr.slice, Instr.sliceBounds, Instr.sliceBound, asIntOf, Act.eval, Sem.run_bind, run_underlying h1, sizeOf, typeInfo, hti], ?_⟩
          unfold VW CW
          exact ⟨m + 1, A, 0, rfl, by simp, fun _ => rfl, fun i x hx => by simp at hx⟩
      · simp [hk] at hl
    · simp at hl
  · simp at hl

theorem un_ok {M : Nat → Prop} {op : UnOp} {p : Value} {x v : V} (hp : VW w M h loc p x) (hl : un op x = some v) : ∃ u, (Op.unary op p).run P w = .ok u w ∧ VW w M h loc u v := by
  unfold un at hl
  split at hl
  · simp at hl; subst hl
    obtain rfl := hp.sc
    exact ⟨_, by simp [Op.unary], VW.mk_bool _⟩
  · simp at hl; subst hl
    obtain rfl := hp.sc
    exact ⟨_, by simp [Op.unary, Op.intArith], VW.mk_int _ _⟩
  · simp at hl

theorem part_ok {M : Nat → Prop} {p : Value} {x v : V} {j : Nat} (hp : VW w M h loc p x) (hl : Go.Vm.part x j = some v) : ∃ u, (Instr.extract p j).run P w = .ok u w ∧ VW w M h loc u v := by
  unfold Go.Vm.part at hl
  split at hl
  · rename_i vs
    unfold VW at hp
    obtain ⟨us, rfl, hs⟩ := hp
    have : ∀ (us : List Value) (vs : List V) (j : Nat), VWs w M h loc us vs → vs[j]? = some v → ∃ u, us[j]? = some u ∧ VW w M h loc u v := by
      intro us
      induction us with
      | nil => intro vs j hv hj; cases vs with | nil => simp at hj | cons _ _ => unfold VWs at hv; exact hv.elim
      | cons u us ih =>
        intro vs j hv hj
        cases vs with
        | nil => simp at hj
        | cons x vs =>
          unfold VWs at hv
          cases j with
          | zero => simp at hj; subst hj; exact ⟨u, rfl, hv.1⟩
          | succ j => simp at hj; obtain ⟨y, h1, h2⟩ := ih vs j hv.2 hj; exact ⟨y, by simpa using h1, h2⟩
    obtain ⟨u, hu, hr⟩ := this us vs j hs hl
    exact ⟨u, by simp [Instr.extract, hu], hr⟩
  · simp at hl

end
end Go.Vm
