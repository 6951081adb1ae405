/-
  The machine's operations against the model's: slice literals, conversions, the other builtins.
-/
import Derived.Test.YtepghohkfnmhmaaDoorVmOpsF
namespace Go.Vm
variable {G : Gl}
set_option linter.unusedVariables false
set_option linter.unusedSimpArgs false

section
variable {P : Program} {cfg : Cfg} {U : Nat → Prop} {h h' : Hp} {loc loc' : Loc} {w w' : World} {a : Act} {fr : Fr}

theorem CWs.wk {M : Nat → Prop} : ∀ {us : List Value} {fs gs : List F}, CWs w M h loc us (fs.map C.f) → Wk fs gs → CWs w M h loc us (gs.map C.f)
  | [], [], [], _, _ => by simp; unfold CWs; trivial
  | [], [], _ :: _, _, hk => by unfold Wk at hk; exact hk.elim
  | [], _ :: _, _, hc, _ => by simp only [List.map_cons] at hc; unfold CWs at hc; exact hc.elim
  | _ :: _, [], _, hc, _ => by simp only [List.map_nil] at hc; unfold CWs at hc; exact hc.elim
  | _ :: _, _ :: _, [], _, hk => by unfold Wk at hk; exact hk.elim
  | u :: us, f :: fs, g :: gs, hc, hk => by
    simp only [List.map_cons] at hc ⊢
    unfold CWs at hc ⊢
    unfold Wk at hk
    refine ⟨?_, CWs.wk hc.2 hk.2⟩
    have h1 := hc.1
    unfold CW at h1 ⊢
    obtain ⟨n, hn⟩ := h1
    exact ⟨n, Wk.cell hn hk.1⟩

theorem putAt_take {α : Type} : ∀ (l : List α) (o : Nat) (ys : List α), o + ys.length ≤ l.length → (Go.Vm.putAt l o ys).take (o + ys.length) = l.take o ++ ys := by
  intro l o ys ho
  apply List.ext_getElem?
  intro j
  rw [List.getElem?_take, putAt_get]
  by_cases h1 : j < o
  · rw [if_pos (by omega), if_neg (by omega), List.getElem?_append_left (by simp; omega), List.getElem?_take, if_pos h1]
  · by_cases h2 : j < o + ys.length
    · rw [if_pos h2, if_pos ⟨by omega, h2, by omega⟩, List.getElem?_append_right (by simp; omega)]
      congr 1
      simp
      omega
    · rw [if_neg h2, List.getElem?_eq_none (by simp; omega)]

/-- Parts in order, all of them. -/
theorem bldS_fill {sz : Nat} : ∀ (ps : List (Nat × Value)) (j : Nat) (cells : Array Value), (∀ p ∈ ps, p.2.cells.size = sz) → (∀ (i : Nat) (p : Nat × Value), ps[i]? = some p → p.1 = j + i) → (j + ps.length) * sz = cells.size →
    ∃ out, Instr.fill (fun i => some (i * sz, sz)) cells ps = some out ∧ out.toList = cells.toList.take (j * sz) ++ ps.flatMap (fun p => p.2.cells.toList)
  | [], j, cells, _, _, hs => ⟨cells, rfl, by simp at hs; rw [hs, List.take_of_length_le (by simp)]; simp⟩
  | p :: ps, j, cells, h1, h2, hs => by
    have hp1 : p.1 = j := by simpa using h2 0 p rfl
    have hp2 : p.2.cells.size = sz := h1 p (List.mem_cons_self ..)
    simp only [List.length_cons] at hs
    have hsz : (j + 1) * sz ≤ cells.size := by rw [← hs]; exact Nat.mul_le_mul_right _ (by omega)
    rw [Nat.add_mul] at hsz
    obtain ⟨cells', hfill, hcl⟩ := fill_step (place := fun i => some (i * sz, sz)) (cells := cells) (j := p.1) (off := j * sz) (v := p.2) (rest := ps) (by rw [hp1, hp2]) (by omega)
    have hcs := size_toList hcl
    rw [putAt_length] at hcs
    simp at hcs
    obtain ⟨out, ho1, ho2⟩ := bldS_fill ps (j + 1) cells' (fun q hq => h1 q (List.mem_cons_of_mem _ hq)) (fun i q hq => by have := h2 (i + 1) q (by simpa using hq); omega) (by rw [hcs, ← hs]; congr 1; omega)
    refine ⟨out, by rw [show p :: ps = (p.1, p.2) :: ps from rfl, hfill]; exact ho1, ?_⟩
    have hpl : p.2.cells.toList.length = sz := by simp [hp2]
    rw [ho2, hcl, show (j + 1) * sz = j * sz + p.2.cells.toList.length by rw [hpl, Nat.add_mul, Nat.one_mul], putAt_take _ _ _ (by simp; omega)]
    simp

theorem inOrder_get : ∀ (ps : List (Nat × Operand)) (n : Nat), inOrder n ps = true → ∀ (i : Nat) (p : Nat × Operand), ps[i]? = some p → p.1 = n + i
  | [], n, _, i, p, hp => by simp at hp
  | q :: ps, n, ho, i, p, hp => by
    simp only [inOrder, Bool.and_eq_true] at ho
    cases i with
    | zero => simp at hp; subst hp; exact Nat.eq_of_beq_eq_true ho.1
    | succ i => have := inOrder_get ps (n + 1) ho.2 i p (by simpa using hp); omega

theorem bldS_parts (ht : TabOK P cfg) (hf : FrW w (Mut U h loc) h loc a fr) {k : Kind} {e : TypeId} : ∀ (ps : List (Nat × Operand)) (l : List (El k)),
    lmapM (fun p : Nat × Operand => (evT cfg fr e p.2).bind fun v => (cellsV v).bind fun cs => (lmapM frzC cs).bind (ofCells k)) ps = some l →
    l.length = ps.length ∧ (∀ p ∈ ps, (a.eval p.2).cells.size = szOf k) ∧ CWs w (Mut U h loc) h loc (ps.flatMap fun p => (a.eval p.2).cells.toList) ((flat k l).map C.f)
  | [], l, hl => by
    simp [lmapM] at hl; subst hl
    exact ⟨rfl, fun p hp => by simp at hp, by simp [flat]; unfold CWs; trivial⟩
  | p :: ps, l, hl => by
    simp only [lmapM, Option.bind_eq_some_iff] at hl
    obtain ⟨x, ⟨v, hv, cs, hcs, fs, hfs, hx⟩, r, hr, hl⟩ := hl
    simp only [Option.some.injEq] at hl
    subst hl
    obtain ⟨h1, h2, h3⟩ := bldS_parts ht hf ps r hr
    have hvw := cellsV_ok (evT_ok hf hv) hcs
    obtain rfl := lmapM_frz hfs
    have hw2 := hvw.wk (ofCells_wk hx)
    have hsz : (a.eval p.2).cells.size = szOf k := by
      have := hw2.length
      rw [List.length_map, cells_length] at this
      simpa using this
    refine ⟨by simp [h1], fun q hq => ?_, ?_⟩
    · rcases List.mem_cons.1 hq with rfl | hq
      · exact hsz
      · exact h2 q hq
    · rw [List.flatMap_cons, show flat k (x :: r) = cellsOf k x ++ flat k r from by simp [flat], List.map_append]
      exact hw2.append h3

/-- A new row of cells, frozen. -/
theorem newTight_ok (hw : HW G U h loc w) {k : Kind} {l : List (El k)} {us : Array Value} {T : TypeId} (hc : CWs w (Mut U h loc) h loc us.toList ((flat k l).map C.f)) :
    PostV G U h loc w h (.sl true k l) (.slice (some ⟨w.heap.size, 0, none⟩) l.length l.length) (w.alloc (.cells us T)) loc := by
  have ex := Ext.allocF hw (.cells us T)
  refine ⟨hw.allocF _, ex, ?_⟩
  obtain ⟨n, hn⟩ : ∃ n, ∀ i x j f, l[i]? = some x → (cellsOf k x)[j]? = some f → ∃ u, us[i * szOf k + j]? = some u ∧ CellW (w.alloc (.cells us T)) (Mut U h loc) n u f := by
    have hc2 := hc.ext ex
    obtain ⟨n, hn⟩ := CWs.bound hc2
    refine ⟨n, fun i x j f hx hf => ?_⟩
    have hg := flat_get k l i j x f hx hf
    obtain ⟨u, hu, _⟩ := hc2.get (j := i * szOf k + j) (c := .f f) (by rw [List.getElem?_map, hg]; rfl)
    exact ⟨u, by simpa using hu, hn _ u f hu (by rw [List.getElem?_map, hg]; rfl)⟩
  unfold VW CW
  refine ⟨n + 1, _, _, rfl, Nat.le_refl _, fun _ => rfl, fun i x hx => ⟨w.heap.size, 0, rfl, hw.notMut (Nat.le_refl _), by simp, fun j f hf => ?_⟩⟩
  obtain ⟨u, hu, hr⟩ := hn i x j f hx hf
  exact ⟨u, by rw [cell_heap (heap_alloc_new w _), Nat.zero_add]; exact hu, hr⟩
where
  CWs.bound {w : World} {M : Nat → Prop} : ∀ {us : List Value} {cs : List C}, CWs w M h loc us cs → ∃ n, ∀ (p : Nat) (u : Value) (f : F), us[p]? = some u → cs[p]? = some (.f f) → CellW w M n u f
    | [], _, _ => ⟨0, fun p u f hu _ => by simp at hu⟩
    | _ :: _, [], hc => by unfold CWs at hc; exact hc.elim
    | u :: us, c :: cs, hc => by
      unfold CWs at hc
      obtain ⟨n, hn⟩ := CWs.bound hc.2
      have h1 : ∃ m, ∀ f, c = .f f → CellW w M m u f := by
        cases c with
        | f x =>
          have h2 := hc.1
          unfold CW at h2
          obtain ⟨m, hm⟩ := h2
          exact ⟨m, fun f hf => by simp at hf; subst hf; exact hm⟩
        | _ => exact ⟨0, fun f hf => by simp at hf⟩
      obtain ⟨m, hm⟩ := h1
      refine ⟨max n m, fun p v f hv hf => ?_⟩
      cases p with
      | zero =>
        simp at hv hf
        subst hv
        exact (hm f hf).le (Nat.le_max_right _ _)
      | succ p => exact (hn p v f (by simpa using hv) (by simpa using hf)).le (Nat.le_max_left _ _)

theorem bldS_ok (ht : TabOK P cfg) (hw : HW G U h loc w) (hf : FrW w (Mut U h loc) h loc a fr) {T : TypeId} {n : Nat} {ps : Array (Nat × Operand)} {v : V} (hb : bldS cfg fr T n ps.toList = some v) :
    ∃ u w', (Instr.buildSlice T n (ps.map fun (i, x) => (i, a.eval x))).run P w = .ok u w' ∧ PostV G U h loc w h v u w' loc := by
  unfold bldS at hb
  rw [Option.bind_eq_some_iff] at hb
  obtain ⟨k, hk, hb⟩ := hb
  rw [Option.bind_eq_some_iff] at hb
  obtain ⟨e, he, hb⟩ := hb
  cases hcond : (Nat.beq ps.toList.length n && inOrder 0 ps.toList && Nat.ble (n * szOf k) 1000) with
  | false => rw [hcond] at hb; simp at hb
  | true =>
    rw [hcond] at hb
    simp only [cond_true, Option.map_eq_some_iff] at hb
    obtain ⟨l, hl, rfl⟩ := hb
    simp only [Bool.and_eq_true] at hcond
    have h1 := Nat.eq_of_beq_eq_true hcond.1.1
    have h3 := Nat.le_of_ble_eq_true hcond.2
    obtain ⟨e', hu, i, z, hi, hz, hsz, hb1, hb2, hzs, hzm⟩ := kindT_zero ht hk
    obtain ⟨p1, p2, p3⟩ := bldS_parts ht hf ps.toList l hl
    have hmap : (ps.map fun (i, x) => (i, a.eval x)).toList = ps.toList.map fun p => (p.1, a.eval p.2) := by simp
    have hflat : ∀ q : List (Nat × Operand), (q.map fun p => (p.1, a.eval p.2)).flatMap (fun p => p.2.cells.toList) = q.flatMap fun p => (a.eval p.2).cells.toList := by
      intro q; induction q with
      | nil => rfl
      | cons p q ih => simp [ih]
    have hln : l.length = n := by omega
    have hfill : ∀ cells : Array Value, cells.size = n * szOf k → ∃ out, Instr.fill (fun i => some (i * szOf k, szOf k)) cells (ps.map fun (i, x) => (i, a.eval x)).toList = some out ∧ out.toList = ps.toList.flatMap fun p => (a.eval p.2).cells.toList := by
      intro cells hcs
      obtain ⟨out, ho1, ho2⟩ := bldS_fill (sz := szOf k) (ps.map fun (i, x) => (i, a.eval x)).toList 0 cells (fun p hp => by
          rw [hmap] at hp
          obtain ⟨q, hq, rfl⟩ := List.mem_map.1 hp
          exact p2 q hq) (fun i p hp => by
          rw [hmap, List.getElem?_map, Option.map_eq_some_iff] at hp
          obtain ⟨q, hq, rfl⟩ := hp
          exact inOrder_get _ 0 hcond.1.2 i q hq) (by rw [hmap, List.length_map, Nat.zero_add, h1, hcs])
      refine ⟨out, ho1, ?_⟩
      rw [ho2, hmap, hflat]
      simp
    by_cases hn0 : n * szOf k = 0
    · obtain ⟨out, ho1, ho2⟩ := hfill #[] (by simp [hn0])
      refine ⟨.slice (some ⟨w.heap.size, 0, none⟩) n n, w.alloc (.cells out e'), ?_, ?_⟩
      · rw [← hsz] at ho1 hn0
        rw [hmap] at ho1
        have h0 : ∀ g : Nat → Value, (Array.range 0).map g = #[] := fun g => by simp [Array.range]
        simp [Instr.buildSlice, run_underlying hu, sizeOf, typeInfo, hi, hn0, newRow, h0, ho1]
      · have := newTight_ok (T := e') hw (us := out) (by rw [ho2]; exact p3)
        rw [hln] at this
        exact this
    · obtain ⟨out, ho1, ho2⟩ := hfill ((Array.range (n * i.size)).map (z.cells[· % z.cells.size]!)) (by simp [hsz])
      rw [← hsz] at ho1 hn0 h3
      refine ⟨_, _, run_buildSlice w T e' n _ out i z hu hi hz (by omega) hn0 ho1, ?_⟩
      have := newTight_ok (T := e') hw (us := out) (by rw [ho2]; exact p3)
      rw [hln] at this
      exact this

/-! ### Conversions -/

theorem cnv_ok (ht : TabOK P cfg) {M : Nat → Prop} {s d : TypeId} {p : Value} {x v : V} (hp : VW w M h loc p x) (hl : cnv cfg s d x = some v) :
    ∃ u, (convert s d p).run P w = .ok u w ∧ VW w M h loc u v := by
  unfold cnv at hl
  rw [Option.bind_eq_some_iff] at hl
  obtain ⟨si, hs, hl⟩ := hl
  rw [Option.bind_eq_some_iff] at hl
  obtain ⟨di, hd, hl⟩ := hl
  have us := ht.und s si hs
  have ud := ht.und d di hd
  split at hl
  · rename_i k1 k2 _ n h1 h2
    simp at hl; subst hl
    obtain rfl := hp.sc
    rw [h1] at us
    rw [h2] at ud
    exact ⟨_, by simp [convert, run_underlying us, run_underlying ud, Conv.intToInt], VW.mk_int _ _⟩
  · rename_i e t l h1 h2
    cases hc : (isU8 (cfg.tb e) && decide (si.kind = some .byte)) with
    | false => rw [hc] at hl; simp at hl
    | true =>
      rw [hc] at hl
      simp at hl; subst hl
      simp only [Bool.and_eq_true] at hc
      rw [h1] at us
      rw [h2] at ud
      have ue : P.underlying e = some (.int .u8) := by
        have h3 := hc.1
        unfold isU8 at h3
        split at h3
        · rename_i he
          exact ht.und e _ he
        · cases h3
      unfold VW CW at hp
      obtain ⟨n, hn⟩ := hp
      cases n with
      | zero => exact hn.elim
      | succ n =>
        obtain ⟨A, c, rfl, _, _, hcells⟩ := hn
        cases A with
        | none =>
          have hl0 : l = [] := by
            cases l with
            | nil => rfl
            | cons y l => obtain ⟨b, o, hA, _⟩ := hcells 0 y rfl; cases hA
          subst hl0
          refine ⟨.string .empty, ?_, VW.mk_str _⟩
          rw [run_convert_bytes_string w s d e none _ _ us ue ud]
          rfl
        | some ad =>
          refine ⟨_, run_convert_bytes_back w s d e ad c l us ue ud (fun j hj => ?_), VW.mk_str _⟩
          obtain ⟨b, o, hA, _, _, hcl⟩ := hcells j l[j] (by rw [List.getElem?_eq_getElem hj])
          simp at hA
          subst hA
          obtain ⟨u, hu, hr⟩ := hcl 0 _ rfl
          rw [Addr.add_mid]
          have hu2 : u = .int .u8 (l[j].toNat : Int) := by cases n <;> exact hr.1
          rw [← hu2, ← hu]
          simp [szOf]
  · simp at hl

/-! ### Builtins -/

theorem len_ok (ht : TabOK P cfg) (hw : HW G U h loc w) {T ty : TypeId} {ts : List TypeId} {i : TI} {p : Value} {x : V} {n : Nat} (hT : cfg.tb T = some i) (hq : seqT i.desc x = true) (hp : VW w (Mut U h loc) h loc p x) (hl : slen h x = some n) :
    (Builtin.len_ (T :: ts).toArray ty #[p]).run P w = .ok (.int .i64 n) w := by
  have hu := ht.und T i hT
  have hsl : ∀ (e : TypeId) (A : Option Addr) (c : Nat), i.desc = .slice e → p = .slice A n c → (Builtin.len_ (T :: ts).toArray ty #[p]).run P w = .ok (.int .i64 n) w := by
    intro e A c hd he
    subst he
    rw [hd] at hu
    simp [Builtin.len_, run_underlying hu, goInt]
  unfold slen at hl
  split at hl
  · rename_i s
    simp at hl; subst hl
    obtain rfl := hp.sc
    unfold seqT at hq
    split at hq
    · rename_i hd _
      rw [hd] at hu
      simp [Builtin.len_, run_underlying hu, goInt]
    · rename_i heq; cases heq
    · rename_i heq; cases heq
    · cases hq
  · rename_i t k l
    simp at hl; subst hl
    have hd : ∃ e, i.desc = .slice e := by unfold seqT at hq; split at hq <;> simp_all
    obtain ⟨e, hd⟩ := hd
    unfold VW CW at hp
    obtain ⟨m, hm⟩ := hp
    cases m with
    | zero => exact hm.elim
    | succ m => obtain ⟨A, c, rfl, _⟩ := hm; exact hsl e A c hd rfl
  · rename_i id k
    have hd : ∃ e, i.desc = .slice e := by unfold seqT at hq; split at hq <;> simp_all
    obtain ⟨e, hd⟩ := hd
    rw [Option.bind_eq_some_iff] at hl
    obtain ⟨ob, hob, hl⟩ := hl
    split at hl
    · rename_i wr k2 l
      simp at hl; subst hl
      unfold VW CW at hp
      obtain ⟨_, _, hrow⟩ := hp
      obtain ⟨rfl, hown, htight⟩ := hrow _ _ _ hob
      cases hloc : loc id with
      | none =>
        obtain ⟨m, hm⟩ := htight hloc
        cases m with
        | zero => exact hm.elim
        | succ m => obtain ⟨A, c, rfl, _⟩ := hm; exact hsl e A c hd rfl
      | some bc => obtain ⟨b, c⟩ := bc; exact hsl e _ c hd (hown b c hloc)
    · simp at hl
  · simp at hl

theorem VWs.get {M : Nat → Prop} : ∀ {us : List Value} {vs : List V} {j : Nat} {v : V}, VWs w M h loc us vs → vs[j]? = some v → ∃ u, us[j]? = some u ∧ VW w M h loc u v
  | [], [], j, v, _, hj => by simp at hj
  | [], _ :: _, _, _, hc, _ => by unfold VWs at hc; exact hc.elim
  | _ :: _, [], _, _, _, hj => by simp at hj
  | u :: us, v :: vs, 0, x, hc, hj => by unfold VWs at hc; simp at hj; subst hj; exact ⟨u, rfl, hc.1⟩
  | u :: us, v :: vs, j + 1, x, hc, hj => by unfold VWs at hc; simp at hj; obtain ⟨y, h1, h2⟩ := VWs.get hc.2 hj; exact ⟨y, by simpa using h1, h2⟩

theorem VWs.len {M : Nat → Prop} : ∀ {us : List Value} {vs : List V}, VWs w M h loc us vs → us.length = vs.length
  | [], [], _ => rfl
  | [], _ :: _, hc => by unfold VWs at hc; exact hc.elim
  | _ :: _, [], hc => by unfold VWs at hc; exact hc.elim
  | u :: us, v :: vs, hc => by unfold VWs at hc; simp [VWs.len hc.2]

theorem evTs_ok (hf : FrW w (Mut U h loc) h loc a fr) : ∀ {xs : List Operand} {Ts : List TypeId} {vs : List V}, evTs cfg fr xs Ts = some vs → VWs w (Mut U h loc) h loc (xs.map a.eval) vs
  | [], Ts, vs, he => by simp [evTs] at he; subst he; simp; unfold VWs; trivial
  | x :: xs, [], vs, he => by simp [evTs] at he
  | x :: xs, T :: Ts, vs, he => by
    simp only [evTs, Option.bind_eq_some_iff, Option.some.injEq] at he
    obtain ⟨v, hv, r, hr, rfl⟩ := he
    simp only [List.map_cons]
    unfold VWs
    exact ⟨evT_ok hf hv, evTs_ok hf hr⟩

theorem mnmx_ok {M : Nat → Prop} {mx : Bool} {us : List Value} {vs : List V} {v : V} (hv : VWs w M h loc us vs) (hm : mnmx mx vs = some v) {ts : Array TypeId} {ty : TypeId} :
    ∃ u, (match mx with | true => Builtin.max_ ts ty us.toArray | false => Builtin.min_ ts ty us.toArray : Sem Value).run P w = .ok u w ∧ VW w M h loc u v := by
  unfold mnmx at hm
  split at hm
  · rename_i x y
    match us, hv with
    | [p, q], hv =>
      unfold VWs VWs VWs at hv
      rw [Option.bind_eq_some_iff] at hm
      obtain ⟨n, hn, hm⟩ := hm
      rw [Option.bind_eq_some_iff] at hm
      obtain ⟨m, hmm, hm⟩ := hm
      obtain ⟨rfl, rfl⟩ := asI_ok hv.1 hn
      obtain ⟨rfl, rfl⟩ := asI_ok hv.2.1 hmm
      simp only [Option.some.injEq] at hm
      subst hm
      refine ⟨_, ?_, VW.mk_int .i64 _⟩
      cases mx
      · simp only [Builtin.min_, Builtin.min2, List.foldlM_cons, List.foldlM_nil, cond_false]
        simp
      · simp only [Builtin.max_, Builtin.max2, List.foldlM_cons, List.foldlM_nil, cond_true]
        simp
    | [], hv => unfold VWs at hv; exact hv.elim
    | [_], hv => unfold VWs VWs at hv; exact hv.2.elim
    | _ :: _ :: _ :: _, hv => unfold VWs VWs VWs at hv; exact hv.2.2.elim
  · simp at hm

theorem ptrV_ok {M : Nat → Prop} {p : Value} {x v : V} (hp : VW w M h loc p x) (hl : ptrV x = some v) : v = x ∧ ∃ ad, p = .pointer (some ad) := by
  unfold ptrV at hl
  split at hl
  · simp at hl; subst hl
    unfold VW CW at hp
    obtain ⟨_, b, c, _, rfl⟩ := hp
    exact ⟨rfl, _, rfl⟩
  · simp at hl; subst hl
    unfold VW CW at hp
    obtain ⟨_, _, b, c, _, rfl⟩ := hp
    exact ⟨rfl, _, rfl⟩
  · simp at hl; subst hl
    unfold VW CW at hp
    obtain ⟨n, hn⟩ := hp
    cases n with
    | zero => exact hn.elim
    | succ n => obtain ⟨b, o, rfl, _⟩ := hn; exact ⟨rfl, _, rfl⟩
  · simp at hl

theorem caps_ok (hf : FrW w (Mut U h loc) h loc a fr) : ∀ {xs : List Operand} {cs : List C}, lmapM (fun x => (ev fr x).bind oneC) xs = some cs → CWs w (Mut U h loc) h loc (xs.map a.eval) cs
  | [], cs, he => by simp [lmapM] at he; subst he; simp; unfold CWs; trivial
  | x :: xs, cs, he => by
    simp only [lmapM, Option.bind_eq_some_iff, Option.some.injEq] at he
    obtain ⟨c, ⟨v, hv, hc⟩, r, hr, rfl⟩ := he
    simp only [List.map_cons]
    unfold CWs
    refine ⟨?_, caps_ok hf hr⟩
    cases v with
    | c y =>
      simp [oneC] at hc
      subst hc
      have := ev_ok hf hv
      unfold VW at this
      exact this
    | agg cs => simp [oneC] at hc
    | tup vs => simp [oneC] at hc

end
end Go.Vm
