/-
  The machine's operations against the model's: make, composite literals, conversions, the other builtins.
-/
import Derived.Test.YtepghohkfnmhmaaDoorVmOpsE
namespace Go.Vm
variable {G : Gl}
set_option linter.unusedVariables false
set_option linter.unusedSimpArgs false

section
variable {P : Program} {cfg : Cfg} {U : Nat → Prop} {h h' : Hp} {loc loc' : Loc} {w w' : World} {a : Act} {fr : Fr}

/-! ### New memory that stays frozen -/

theorem Ext.allocF (hw : HW G U h loc w) (x : Go.Obj) : Ext U h loc w h loc (w.alloc x) := by
  refine ⟨rfl, rfl, rfl, ⟨by simp, fun b hb hm => ⟨hm, Go.RowKit.Below.heap_alloc w x b hb⟩⟩, fun _ _ _ => rfl, fun id o ho => ⟨o, ho, Turns.refl _ _ _⟩, fun b hb _ => Go.RowKit.Below.heap_alloc w x b hb⟩

theorem HW.allocF (hw : HW G U h loc w) (x : Go.Obj) : HW G U h loc (w.alloc x) :=
  hw.step (Ext.allocF hw x) (fun id o ho => .inl ⟨ho, fun _ => rfl, fun b c hl hb => Go.RowKit.Below.heap_alloc w x b (hw.sep id o b c ho hl hb).2⟩) hw.inj
    (fun id o b c ho hl hb => ⟨(hw.sep id o b c ho hl hb).1, by have := (hw.sep id o b c ho hl hb).2; simp; omega⟩)

theorem HW.notMut (hw : HW G U h loc w) {b : Nat} (hb : w.heap.size ≤ b) : ¬ Mut U h loc b := by
  rintro (hu | ⟨id, o, c, ho, hl, hloc⟩)
  · have := hw.low b hu; omega
  · have := (hw.sep id o b c ho hl hloc).2; omega

/-! ### make -/

theorem madeCells_get {z : Array Value} {n sz j : Nat} {u : Value} (hz : z.size = sz) (hj : j < n) (hu : z[j % sz]? = some u) : (madeCells z n)[j]? = some u := by
  unfold madeCells
  rw [Array.getElem?_map, Array.getElem?_range, if_pos hj, Option.map_some, hz]
  congr 1
  obtain ⟨h1, h2⟩ := Array.getElem?_eq_some_iff.1 hu
  rw [getElem!_pos z _ h1, h2]

/-- A kind's zero element, in a zero value's cells. -/
theorem zero_cell {M : Nat → Prop} {k : Kind} {z : Value} (hz : zms z.cells.toList ((cellsOf k (zeroEl k)).map fun f => match f with | .sl _ q _ => .f (.sl true q []) | f => .f f) = true) {j : Nat} {f : F} (hf : (cellsOf k (zeroEl k))[j]? = some f) :
    ∃ u n, z.cells[j]? = some u ∧ CellW w M n u f := by
  have hc : CWs w M (fun _ => none) (fun _ => none) z.cells.toList _ := zms_ok hz
  obtain ⟨u, hu, hr⟩ := hc.get (j := j) (by rw [List.getElem?_map, hf]; rfl)
  have hu' : z.cells[j]? = some u := by simpa using hu
  have hz0 : ∀ t q l, f = .sl t q l → t = false ∧ l = [] := by
    intro t q l he
    subst he
    have hlt := (List.getElem?_eq_some_iff.1 hf).1
    rw [cells_length] at hlt
    cases k <;> simp [szOf] at hlt <;> first
      | (have : j = 0 := by omega
         subst this
         simp [cellsOf, zeroEl] at hf
         done)
      | skip
    all_goals
      simp only [cellsOf, zeroEl, Term.cells, Policy.cells, Letter.cells, Note.cells, Host.cells, CallD.cells, Talk.cells, Deed.cells, zeroT, zeroClient, zeroServer] at hf
      rcases j with _ | _ | _ | _ | _ | _ | _ | _ | _ | _ | _ | _ | _ | _ | _ | _ | _ | j <;> simp at hf <;> first
        | (obtain ⟨rfl, rfl, hl⟩ := hf; exact ⟨rfl, by simpa using (eq_of_heq hl).symm⟩)
        | omega
  refine ⟨u, 1, hu', ?_⟩
  cases f with
  | sc v =>
    unfold CW at hr
    obtain ⟨n, hn⟩ := hr
    cases n <;> exact hn
  | sl t q l =>
    obtain ⟨rfl, rfl⟩ := hz0 t q l rfl
    unfold CW at hr
    obtain ⟨n, hn⟩ := hr
    cases n with
    | zero => exact hn.elim
    | succ n =>
      obtain ⟨A, c, rfl, h2, _, _⟩ := hn
      exact ⟨A, c, rfl, h2, fun hh => by simp at hh, fun i x hx => by simp at hx⟩
  | ep q x off =>
    exfalso
    have hlt := (List.getElem?_eq_some_iff.1 hf).1
    rw [cells_length] at hlt
    cases k <;> simp [szOf] at hlt <;>
      simp only [cellsOf, zeroEl, Term.cells, Policy.cells, Letter.cells, Note.cells, Host.cells, CallD.cells, Talk.cells, Deed.cells] at hf <;>
      rcases j with _ | _ | _ | _ | _ | _ | _ | _ | _ | _ | _ | _ | _ | _ | _ | _ | _ | j <;> simp at hf
  | err =>
    exfalso
    have hlt := (List.getElem?_eq_some_iff.1 hf).1
    rw [cells_length] at hlt
    cases k <;> simp [szOf] at hlt <;>
      simp only [cellsOf, zeroEl, Term.cells, Policy.cells, Letter.cells, Note.cells, Host.cells, CallD.cells, Talk.cells, Deed.cells] at hf <;>
      rcases j with _ | _ | _ | _ | _ | _ | _ | _ | _ | _ | _ | _ | _ | _ | _ | _ | _ | j <;> simp at hf

theorem mk_ok (ht : TabOK P cfg) (hw : HW G U h loc w) {d : Nat} {T : TypeId} {n c v : V} {un uc : Value} {e : Eff} (hn : VW w (Mut U h loc) h loc un n) (hc : VW w (Mut U h loc) h loc uc c) (hm : mk cfg d T n c = some (v, e)) (he : applyE h e = some h') :
    ∃ u w' loc', (Instr.makeSlice T un uc).run P w = .ok u w' ∧ PostV G U h loc w h' v u w' loc' := by
  unfold mk at hm
  rw [Option.bind_eq_some_iff] at hm
  obtain ⟨k, hk, hm⟩ := hm
  rw [Option.bind_eq_some_iff] at hm
  obtain ⟨n', hn', hm⟩ := hm
  rw [Option.bind_eq_some_iff] at hm
  obtain ⟨c', hc', hm⟩ := hm
  obtain ⟨rfl, rfl⟩ := asI_ok hn hn'
  obtain ⟨rfl, rfl⟩ := asI_ok hc hc'
  cases hcond : (decide (n' = c') && decide (0 ≤ n') && Nat.ble n'.toNat appMax) with
  | false => rw [hcond] at hm; simp at hm
  | true =>
    rw [hcond] at hm
    simp only [cond_true, Option.some.injEq, Prod.mk.injEq] at hm
    obtain ⟨rfl, rfl⟩ := hm
    simp only [Bool.and_eq_true, decide_eq_true_eq] at hcond
    obtain ⟨⟨rfl, h0⟩, hle⟩ := hcond
    have hle : n'.toNat ≤ 1000000000 := Nat.le_of_ble_eq_true hle
    obtain ⟨e, hu, i, z, hi, hz, hsz, hb1, hb2, hzs, hzm⟩ := kindT_zero ht hk
    have hbytes : (i.bytes : Int) * n' ≤ 281474976710656 := by
      have h1 : i.bytes * n'.toNat ≤ 1000 * 1000000000 := Nat.mul_le_mul hb2 hle
      have hnn : ((n'.toNat : Nat) : Int) = n' := Int.toNat_of_nonneg h0
      rw [← hnn, ← Int.natCast_mul]
      generalize i.bytes * n'.toNat = q at h1
      omega
    have hr := run_make (P := P) w T e i z hu hi hz .i64 .i64 n' n' h0 (Int.le_refl _) hbytes (by omega)
    simp only [applyE] at he
    split at he
    · rename_i hnone
      simp at he
      subst he
      have ex := Ext.alloc hw hnone (.row true k (List.replicate n'.toNat (zeroEl k))) (.cells (madeCells z.cells (n'.toNat * i.size)) e) n'.toNat
      refine ⟨_, _, _, hr, hw.alloc hnone (.row true k (List.replicate n'.toNat (zeroEl k))) (.cells (madeCells z.cells (n'.toNat * i.size)) e) n'.toNat ?_, ex, ?_⟩
      · refine ⟨fun hn => (by rw [lput_self] at hn; cases hn), fun b c' hl => ?_⟩
        rw [lput_self] at hl
        simp only [Option.some.injEq, Prod.mk.injEq] at hl
        obtain ⟨rfl, rfl⟩ := hl
        refine ⟨_, e, heap_alloc_new w _, by rw [size_madeCells, hsz], by simp, fun r x j f hx hf => ?_⟩
        have hx2 : x = zeroEl k := by
          have := List.mem_of_getElem? hx
          exact (List.mem_replicate.1 this).2
        subst hx2
        have hrl : r < n'.toNat := by simpa using (List.getElem?_eq_some_iff.1 hx).1
        have hj : j < szOf k := by rw [← cells_length k (zeroEl k)]; exact (List.getElem?_eq_some_iff.1 hf).1
        obtain ⟨u, m, hu2, hr2⟩ := zero_cell (w := w) (M := Mut U h loc) hzm hf
        refine ⟨u, m, ?_, hr2.keeps ex.keeps⟩
        rw [hsz]
        refine madeCells_get hzs ?_ ?_
        · have := Nat.mul_le_mul_right (szOf k) (show r + 1 ≤ n'.toNat from hrl)
          rw [Nat.add_mul] at this
          omega
        · rw [Nat.mul_comm r, Nat.mul_add_mod, Nat.mod_eq_of_lt hj]
          exact hu2
      · unfold VW CW
        refine ⟨⟨_, _, _, rfl⟩, by rw [hput_self]; rfl, fun wr k' l' hl => ?_⟩
        rw [hput_self] at hl
        simp only [Option.some.injEq, Obj.row.injEq] at hl
        obtain ⟨rfl, rfl, hl⟩ := hl
        obtain rfl := eq_of_heq hl
        refine ⟨rfl, fun b c' hl => ?_, fun hn => ?_⟩
        · rw [lput_self] at hl
          simp only [Option.some.injEq, Prod.mk.injEq] at hl
          obtain ⟨rfl, rfl⟩ := hl
          simp
        · rw [lput_self] at hn; cases hn
    · simp at he

/-! ### Composite literals -/

theorem foldl_putAt : ∀ (vs : List Value) (n o : Nat) (cs : Array Value), o + n + vs.length ≤ cs.size → ((vs.zipIdx n).foldl (fun cs p => cs.setIfInBounds (o + p.2) p.1) cs).toList = Go.Vm.putAt cs.toList (o + n) vs
  | [], n, o, cs, _ => by
    simp only [List.zipIdx_nil, List.foldl_nil]
    generalize o + n = q
    cases cs.toList <;> cases q <;> rfl
  | v :: vs, n, o, cs, hl => by
    simp at hl
    rw [List.zipIdx_cons, List.foldl_cons, foldl_putAt vs (n + 1) o _ (by simp; omega), putAt_set _ _ _ _ (by simp; omega)]
    simp [Nat.add_assoc]

theorem fill_step {place : Nat → Option (Nat × Nat)} {cells : Array Value} {j off : Nat} {v : Value} {rest : List (Nat × Value)} (hp : place j = some (off, v.cells.size)) (hl : off + v.cells.size ≤ cells.size) :
    ∃ cells' : Array Value, Instr.fill place cells ((j, v) :: rest) = Instr.fill place cells' rest ∧ cells'.toList = Go.Vm.putAt cells.toList off v.cells.toList := by
  refine ⟨v.cells.zipIdx.foldl (fun cs (c, j) => cs.setIfInBounds (off + j) c) cells, ?_, ?_⟩
  · simp only [Instr.fill, hp]
    rw [if_neg (by simp; omega)]
  · rw [← Array.foldl_toList, Array.toList_zipIdx]
    have := foldl_putAt v.cells.toList 0 off cells (by simpa using hl)
    simpa using this

theorem size_toList {α : Type} {a : Array α} {l : List α} (h : a.toList = l) : a.size = l.length := by rw [← h]; simp

theorem bld_fill (ht : TabOK P cfg) {T : TypeId} {fs : Array Field} {places : List (Nat × Nat)} (hu : P.underlying T = some (.struct fs)) (hp : fs.toList.mapM (fun f => (P.info? f.type).map fun i => (f.offset, i.size)) = some places)
    (hf : FrW w (Mut U h loc) h loc a fr) : ∀ (ps : List (Nat × Operand)) (cs ds : List C) (cells : Array Value), CWs w (Mut U h loc) h loc cells.toList cs →
    ps.foldl (fun acc (p : Nat × Operand) => acc.bind fun (cs : List C) =>
      (fieldOf cfg T p.1).bind fun (o, u) => (cfg.tb u).bind fun ui => (evT cfg fr u p.2).bind fun v => (cellsV v).bind fun vs =>
        bif Nat.beq vs.length ui.size && Nat.ble (o + vs.length) cs.length then some (Go.Vm.putAt cs o vs) else none) (some cs) = some ds →
    ∃ out, Instr.fill (places.toArray[·]?) cells (ps.map fun p => (p.1, a.eval p.2)) = some out ∧ CWs w (Mut U h loc) h loc out.toList ds
  | [], cs, ds, cells, hc, he => by
    simp at he; subst he
    exact ⟨cells, rfl, hc⟩
  | p :: ps, cs, ds, cells, hc, he => by
    rw [List.foldl_cons, Option.bind_some] at he
    cases hq : (fieldOf cfg T p.1).bind fun (o, u) => (cfg.tb u).bind fun ui => (evT cfg fr u p.2).bind fun v => (cellsV v).bind fun vs =>
        bif Nat.beq vs.length ui.size && Nat.ble (o + vs.length) cs.length then some (Go.Vm.putAt cs o vs) else none with
    | none =>
      rw [hq] at he
      exfalso
      have : ∀ (l : List (Nat × Operand)), l.foldl (fun acc (p : Nat × Operand) => acc.bind fun (cs : List C) =>
          (fieldOf cfg T p.1).bind fun (o, u) => (cfg.tb u).bind fun ui => (evT cfg fr u p.2).bind fun v => (cellsV v).bind fun vs =>
          bif Nat.beq vs.length ui.size && Nat.ble (o + vs.length) cs.length then some (Go.Vm.putAt cs o vs) else none) none = none := by
        intro l; induction l with
        | nil => rfl
        | cons q l ih => rw [List.foldl_cons, Option.bind_none]; exact ih
      rw [this] at he
      cases he
    | some cs2 =>
      rw [hq] at he
      simp only [Option.bind_eq_some_iff] at hq
      obtain ⟨⟨o, u⟩, hfo, ui, hui, v, hv, vs, hvs, hq⟩ := hq
      cases hcond : (Nat.beq vs.length ui.size && Nat.ble (o + vs.length) cs.length) with
      | false => rw [hcond] at hq; simp at hq
      | true =>
        rw [hcond] at hq
        simp only [cond_true, Option.some.injEq] at hq
        subst hq
        simp only [Bool.and_eq_true] at hcond
        have h1 := Nat.eq_of_beq_eq_true hcond.1
        have h2 := Nat.le_of_ble_eq_true hcond.2
        obtain ⟨fs', f, hu', hfj, ho, hft⟩ := fieldOf_ok ht hfo
        rw [hu] at hu'
        simp at hu'
        subst hu'
        have hvw := evT_ok hf hv
        have hvc := cellsV_ok hvw hvs
        obtain ⟨x, hx, _, hxs, _⟩ := ht.inf u ui hui
        have hplace : places.toArray[p.1]? = some (o, (a.eval p.2).cells.size) := by
          have hl := hvc.length
          simp at hl
          have := mapM_get hp (j := p.1) (f := f) (by simpa using hfj)
          obtain ⟨q, hq1, hq2⟩ := this
          rw [hft, hx] at hq1
          simp at hq1
          rw [List.getElem?_toArray, hq2, ← hq1, ho, hxs, hl, h1]
        have hlen := hc.length
        have hlv := hvc.length
        simp at hlen hlv
        obtain ⟨cells', hfill, hcl⟩ := fill_step (rest := ps.map fun p => (p.1, a.eval p.2)) (cells := cells) hplace (by omega)
        rw [List.map_cons, hfill]
        exact bld_fill ht hu hp hf ps _ ds cells' (by rw [hcl]; exact hc.putAt hvc) he
where
  mapM_get {fs : List Field} {places : List (Nat × Nat)} (hp : fs.mapM (fun f => (P.info? f.type).map fun i => (f.offset, i.size)) = some places) {j : Nat} {f : Field} (hj : fs[j]? = some f) :
      ∃ q, ((P.info? f.type).map fun i => (f.offset, i.size)) = some q ∧ places[j]? = some q := by
    induction fs generalizing places j with
    | nil => simp at hj
    | cons g fs ih =>
      simp only [List.mapM_cons, Option.bind_eq_bind, Option.pure_def] at hp
      rw [Option.bind_eq_some_iff] at hp
      obtain ⟨q, hq, hp⟩ := hp
      rw [Option.bind_eq_some_iff] at hp
      obtain ⟨qs, hqs, hp⟩ := hp
      simp at hp
      subst hp
      cases j with
      | zero => simp at hj; subst hj; exact ⟨q, hq, rfl⟩
      | succ j => simp at hj; obtain ⟨q', h1, h2⟩ := ih hqs hj; exact ⟨q', h1, by simpa using h2⟩

theorem places_some : ∀ (fs : List Field), (∀ f ∈ fs, ∃ x, P.info? f.type = some x) → ∃ places, fs.mapM (fun f => (P.info? f.type).map fun i => (f.offset, i.size)) = some places
  | [], _ => ⟨[], rfl⟩
  | f :: fs, hf => by
    obtain ⟨x, hx⟩ := hf f (List.mem_cons_self ..)
    obtain ⟨ps, hps⟩ := places_some fs (fun g hg => hf g (List.mem_cons_of_mem _ hg))
    exact ⟨(f.offset, x.size) :: ps, by simp [List.mapM_cons, hx, hps]⟩

theorem bld_ok (ht : TabOK P cfg) (hf : FrW w (Mut U h loc) h loc a fr) {T : TypeId} {ps : Array (Nat × Operand)} {v : V} (hb : bld cfg fr T ps.toList = some v) :
    ∃ u, (Instr.build T (ps.map fun (i, x) => (i, a.eval x))).run P w = .ok u w ∧ VW w (Mut U h loc) h loc u v := by
  unfold bld at hb
  rw [Option.bind_eq_some_iff] at hb
  obtain ⟨i, hT, hb⟩ := hb
  cases hd : isStr i.desc with
  | false => simp [hd] at hb
  | true =>
    simp only [hd, cond_true] at hb
    rw [Option.map_eq_some_iff] at hb
    obtain ⟨ds, hds, rfl⟩ := hb
    obtain ⟨x, hx, hxz, hxs, _⟩ := ht.inf T i hT
    have hz : CWs w (Mut U h loc) h loc i.zv.cells.toList i.zero := zms_ok (ht.zer T i hT)
    have hund := ht.und T i hT
    cases hdesc : i.desc with
    | struct fs =>
      rw [hdesc] at hund
      obtain ⟨places, hpl⟩ := places_some fs.toList (ht.flds T i fs hT hdesc)
      obtain ⟨out, hfill, hout⟩ := bld_fill ht hund hpl hf ps.toList i.zero ds i.zv.cells hz hds
      refine ⟨.agg out, run_build w T _ out ?_, ?_⟩
      · unfold Program.built
        simp only [hx, hund, hxz, hpl]
        rw [← hfill]
        simp
      · unfold VW
        exact ⟨out.toList, by simp, hout⟩
    | _ => simp [hdesc, isStr] at hd

end
end Go.Vm
