/-
  One operation of the program, whichever.
-/
import Derived.Test.YtepghohkfnmhmaaDoorVmCallC
namespace Go.Vm
variable {G : Gl}
set_option linter.unusedVariables false
set_option linter.unusedSimpArgs false

section
variable {P : Program} {cfg : Cfg} {U : Nat → Prop} {h h' h2 : Hp} {loc loc' loc2 : Loc} {w w' : World} {a : Act} {fr : Fr} {M' : Nat → Prop}

theorem run_v {s : Sem Value} {u : Value} (hs : s.run P w = .ok u w') : (do pure (Next.value (← s)) : Sem Next).run P w = .ok (.value u) w' := by simp [Sem.run_bind, hs]

theorem arr_map {α β : Type} (g : α → β) (l : Array α) : l.map g = (l.toList.map g).toArray := by apply Array.ext'; simp

theorem run_u {s : Sem Unit} (hs : s.run P w = .ok () w') : (do s; pure Next.skip : Sem Next).run P w = .ok .skip w' := by simp [Sem.run_bind, hs]

theorem OpOK.ofRun (hw : HW G U h loc w) {s : Sem Value} {v : V} (hs : ∃ u, s.run P w = .ok u w ∧ VW w (Mut U h loc) h loc u v) : OpOK P G U h loc w h v ((do pure (Next.value (← s)) : Sem Next).run P w) := by
  obtain ⟨u, h1, h2⟩ := hs
  rw [run_v h1]
  exact OpOK.val hw h2

theorem retH_ok {x : Option V} {v : V} {e : Eff} (hr : retH x = some (v, e)) (he : applyE h e = some h') : x = some v ∧ h' = h := by
  unfold retH at hr
  rw [Option.map_eq_some_iff] at hr
  obtain ⟨y, rfl, heq⟩ := hr
  simp only [Prod.mk.injEq] at heq
  obtain ⟨rfl, rfl⟩ := heq
  simp only [applyE, Option.some.injEq] at he
  exact ⟨rfl, he.symm⟩

theorem isConst_ok {y : Operand} (hy : isConst y = true) : ∃ c, y = .const c := by
  cases y <;> simp [isConst] at hy
  exact ⟨_, rfl⟩

theorem blt_ok (ht : TabOK P cfg) (hw : HW G U h loc w) {d : Nat} {b : Builtin} {us : List Value} {args : List V} {tys : List TypeId} {ty : TypeId} {consts : Array Bool} {v : V} {e : Eff} (hargs : VWs w (Mut U h loc) h loc us args)
    (hb : blt cfg h d b args tys = some (v, e)) (he : applyE h e = some h') : OpOK P G U h loc w h' v ((builtin b tys.toArray ty consts us.toArray).run P w) := by
  unfold blt at hb
  split at hb
  · rename_i x T rest
    rw [Option.bind_eq_some_iff] at hb
    obtain ⟨i, hT, hb⟩ := hb
    cases hq : seqT i.desc x with
    | false => rw [hq] at hb; simp at hb
    | true =>
      rw [hq] at hb
      simp only [cond_true, Option.map_eq_some_iff, Prod.mk.injEq] at hb
      obtain ⟨n, hn, rfl, rfl⟩ := hb
      simp only [applyE, Option.some.injEq] at he
      subst he
      simp only [Option.bind_eq_bind, Option.bind_eq_some_iff, Option.pure_def, Option.some.injEq] at hn
      obtain ⟨n', hn, rfl⟩ := hn
      match us, hargs with
      | [], hargs => unfold VWs at hargs; exact hargs.elim
      | [p], hargs =>
        unfold VWs at hargs
        have := len_ok (ty := ty) (ts := rest) ht hw hT hq hargs.1 hn
        exact OpOK.ofRun hw ⟨_, this, VW.mk_int _ _⟩
      | _ :: _ :: _, hargs => unfold VWs VWs at hargs; exact hargs.2.elim
  · rename_i s x T T2
    rw [Option.bind_eq_some_iff] at hb
    obtain ⟨k, hk, hb⟩ := hb
    rw [Option.bind_eq_some_iff] at hb
    obtain ⟨i2, hT2, hb⟩ := hb
    cases hq : seqT i2.desc x with
    | false => rw [hq] at hb; simp at hb
    | true =>
      rw [hq] at hb
      simp only [cond_true] at hb
      match us, hargs with
      | [], hargs => unfold VWs at hargs; exact hargs.elim
      | [_], hargs => unfold VWs VWs at hargs; exact hargs.2.elim
      | [p, q], hargs =>
        unfold VWs VWs at hargs
        obtain ⟨u, w', loc', h1, h2⟩ := app_ok (ty := ty) ht hw hk hT2 hq hargs.1 hargs.2.1 hb he
        show OpOK P G U h loc w h' v ((do pure (Next.value (← Builtin.append_ [T, T2].toArray ty [p, q].toArray)) : Sem Next).run P w)
        rw [run_v (show (Builtin.append_ [T, T2].toArray ty [p, q].toArray).run P w = .ok u w' from h1)]
        exact ⟨loc', h2⟩
      | _ :: _ :: _ :: _, hargs => unfold VWs VWs VWs at hargs; exact hargs.2.2.elim
  · rename_i l ts
    obtain ⟨h1, rfl⟩ := retH_ok hb he
    have := mnmx_ok (mx := false) (P := P) (ts := tys.toArray) (ty := ty) hargs h1
    exact OpOK.ofRun hw this
  · rename_i l ts
    obtain ⟨h1, rfl⟩ := retH_ok hb he
    have := mnmx_ok (mx := true) (P := P) (ts := tys.toArray) (ty := ty) hargs h1
    exact OpOK.ofRun hw this
  · simp at hb

theorem run_alloc (ht : TabOK P cfg) {T : TypeId} {i : TI} (hT : cfg.tb T = some i) : (Instr.alloc T true (.tuple #[])).run P w = .ok (.pointer (some ⟨w.heap.size, 0, none⟩)) (w.alloc (.cells i.zv.cells T)) := by
  obtain ⟨x, hx, hz, _⟩ := ht.inf T i hT
  simp [Instr.alloc, zeroValue, typeInfo, Sem.run_bind, hx, hz, newVar, newRow]

theorem run_boxV (T : TypeId) (u : Value) : (Instr.box T u).run P w = .ok (.pointer (some ⟨w.heap.size, 0, none⟩)) (w.alloc (.cells u.cells T)) := by
  simp [Instr.box, newVar, newRow]

theorem aop_ok (ht : TabOK P cfg) {T Ti : CallSem} (hT : TOK G P T) (hTi : TOK G P Ti) (hw : HW G U h loc w) (hf : FrW w (Mut U h loc) h loc a fr) {me : FuncId} {o : Oper} {v : V} {e : Eff}
    (ha : aop cfg T Ti me fr h o.dst o.type o.op = some (v, e)) (he : applyE h e = some h') : OpOK P G U h loc w h' v ((execOp a.eval o).run P w) := by
  unfold aop at ha
  split at ha
  · rename_i x hop
    obtain ⟨h1, rfl⟩ := retH_ok ha he
    simp only [execOp, hop]
    exact OpOK.val hw (evT_ok hf h1)
  · rename_i x hop
    obtain ⟨h1, rfl⟩ := retH_ok ha he
    simp only [execOp, hop]
    exact OpOK.val hw (evT_ok hf h1)
  · rename_i c x y hop
    rw [Option.bind_eq_some_iff] at ha
    obtain ⟨cv, hcv, ha⟩ := ha
    rw [Option.bind_eq_some_iff] at ha
    obtain ⟨b, hb, ha⟩ := ha
    obtain ⟨hcb, _⟩ := asB_ok (ev_ok hf hcv) hb
    simp only [execOp, hop, hcb]
    cases b with
    | true =>
      simp only [cond_true] at ha
      obtain ⟨h1, rfl⟩ := retH_ok ha he
      simp [asBool]
      exact OpOK.val hw (evT_ok hf h1)
    | false =>
      simp only [cond_false] at ha
      obtain ⟨h1, rfl⟩ := retH_ok ha he
      simp [asBool]
      exact OpOK.val hw (evT_ok hf h1)
  · rename_i t hop
    rw [Option.bind_eq_some_iff] at ha
    obtain ⟨d, hd, ha⟩ := ha
    rw [Option.bind_eq_some_iff] at ha
    obtain ⟨i, hi, ha⟩ := ha
    simp only [execOp, hop]
    rw [run_v (run_alloc ht hi)]
    exact nbox_ok hw (zms_ok (ht.zer _ _ hi)) ha he
  · rename_i t x hop
    rw [Option.bind_eq_some_iff] at ha
    obtain ⟨d, hd, ha⟩ := ha
    rw [Option.bind_eq_some_iff] at ha
    obtain ⟨i, hi, ha⟩ := ha
    rw [Option.bind_eq_some_iff] at ha
    obtain ⟨xv, hx, ha⟩ := ha
    rw [Option.bind_eq_some_iff] at ha
    obtain ⟨cs, hcs, ha⟩ := ha
    cases hb : Nat.beq cs.length i.size with
    | false => rw [hb] at ha; simp at ha
    | true =>
      rw [hb] at ha
      simp only [cond_true] at ha
      simp only [execOp, hop]
      rw [run_v (run_boxV _ _)]
      exact nbox_ok hw (cellsV_ok (evT_ok hf hx) hcs) ha he
  · rename_i t ps hop
    obtain ⟨h1, rfl⟩ := retH_ok ha he
    simp only [execOp, hop]
    exact OpOK.ofRun hw (bld_ok ht hf h1)
  · rename_i t n ps hop
    obtain ⟨h1, rfl⟩ := retH_ok ha he
    simp only [execOp, hop]
    obtain ⟨u, w', h2, h3⟩ := bldS_ok ht hw hf h1
    rw [run_v h2]
    exact ⟨loc, h3⟩
  · rename_i t x hop
    rw [Option.bind_eq_some_iff] at ha
    obtain ⟨av, hav, ha⟩ := ha
    obtain ⟨h1, rfl⟩ := retH_ok ha he
    simp only [execOp, hop]
    exact OpOK.ofRun hw (ld_ok ht hw (ev_ok hf hav) h1)
  · rename_i t x y hop
    rw [Option.bind_eq_some_iff] at ha
    obtain ⟨av, hav, ha⟩ := ha
    rw [Option.bind_eq_some_iff] at ha
    obtain ⟨xv, hxv, ha⟩ := ha
    rw [Option.map_eq_some_iff] at ha
    obtain ⟨h'', hst, heq⟩ := ha
    simp only [Prod.mk.injEq] at heq
    obtain ⟨rfl, rfl⟩ := heq
    simp only [applyE, Option.some.injEq] at he
    subst he
    simp only [execOp, hop]
    obtain ⟨w', h1, h2, h3⟩ := st_ok ht hw (ev_ok hf hav) (evT_ok hf hxv) hst
    rw [run_u h1]
    exact ⟨loc, h2, h3, by unfold VW CW; rfl⟩
  · rename_i x hop
    rw [Option.bind_eq_some_iff] at ha
    obtain ⟨xv, hxv, ha⟩ := ha
    obtain ⟨h1, rfl⟩ := retH_ok ha he
    obtain ⟨rfl, ad, hp⟩ := ptrV_ok (ev_ok hf hxv) h1
    have hv := ev_ok hf hxv
    simp only [execOp, hop]
    rw [hp] at hv ⊢
    exact OpOK.val hw hv
  · rename_i op t x y q hop
    rw [Option.bind_eq_some_iff] at ha
    obtain ⟨av, hav, ha⟩ := ha
    rw [Option.bind_eq_some_iff] at ha
    obtain ⟨bv, hbv, ha⟩ := ha
    obtain ⟨h1, rfl⟩ := retH_ok ha he
    simp only [execOp, hop]
    obtain ⟨z, h2, h3⟩ := bin_ok (x := x) ht (ev_ok hf hav) (ev_ok hf hbv) isConst_ok h1
    exact OpOK.ofRun hw ⟨z, h3, h2⟩
  · rename_i op t x hop
    rw [Option.bind_eq_some_iff] at ha
    obtain ⟨av, hav, ha⟩ := ha
    obtain ⟨h1, rfl⟩ := retH_ok ha he
    simp only [execOp, hop]
    exact OpOK.ofRun hw (un_ok (ev_ok hf hav) h1)
  · rename_i s d x hop
    rw [Option.bind_eq_some_iff] at ha
    obtain ⟨av, hav, ha⟩ := ha
    obtain ⟨h1, rfl⟩ := retH_ok ha he
    simp only [execOp, hop]
    exact OpOK.ofRun hw (cnv_ok ht (ev_ok hf hav) h1)
  · rename_i t n c hop
    rw [Option.bind_eq_some_iff] at ha
    obtain ⟨d, hd, ha⟩ := ha
    rw [Option.bind_eq_some_iff] at ha
    obtain ⟨nv, hnv, ha⟩ := ha
    rw [Option.bind_eq_some_iff] at ha
    obtain ⟨cv, hcv, ha⟩ := ha
    simp only [execOp, hop]
    obtain ⟨u, w', loc', h1, h2⟩ := mk_ok ht hw (ev_ok hf hnv) (ev_ok hf hcv) ha he
    rw [run_v h1]
    exact ⟨loc', h2⟩
  · rename_i f first caps hop
    cases hfe : first.isEmpty with
    | false => rw [hfe] at ha; simp at ha
    | true =>
      rw [hfe] at ha
      simp only [cond_true, Option.map_eq_some_iff, Prod.mk.injEq] at ha
      obtain ⟨cs, hcs, rfl, rfl⟩ := ha
      simp only [applyE, Option.some.injEq] at he
      subst he
      have hemp : first = #[] := by simpa using hfe
      subst hemp
      simp only [execOp, hop]
      refine OpOK.ofRun hw ⟨.func (.func f) #[] (caps.map a.eval), by simp [Instr.makeFunc], ?_⟩
      unfold VW CW
      exact ⟨caps.toList.map a.eval, by rw [arr_map], caps_ok hf hcs⟩
  · rename_i t x lo hi mx hop
    rw [Option.bind_eq_some_iff] at ha
    obtain ⟨xv, hxv, ha⟩ := ha
    obtain ⟨h1, rfl⟩ := retH_ok ha he
    simp only [execOp, hop]
    exact OpOK.ofRun hw (slc_ok ht hf (ev_ok hf hxv) h1)
  · rename_i t x j hop
    rw [Option.bind_eq_some_iff] at ha
    obtain ⟨xv, hxv, ha⟩ := ha
    obtain ⟨h1, rfl⟩ := retH_ok ha he
    simp only [execOp, hop]
    exact OpOK.ofRun hw (fldA_ok ht (ev_ok hf hxv) h1)
  · rename_i t x j hop
    rw [Option.bind_eq_some_iff] at ha
    obtain ⟨xv, hxv, ha⟩ := ha
    obtain ⟨h1, rfl⟩ := retH_ok ha he
    simp only [execOp, hop]
    exact OpOK.ofRun hw (fld_ok ht (ev_ok hf hxv) h1)
  · rename_i t x j hop
    rw [Option.bind_eq_some_iff] at ha
    obtain ⟨xv, hxv, ha⟩ := ha
    rw [Option.bind_eq_some_iff] at ha
    obtain ⟨jv, hjv, ha⟩ := ha
    obtain ⟨h1, rfl⟩ := retH_ok ha he
    simp only [execOp, hop]
    exact OpOK.ofRun hw (ixA_ok ht hw (ev_ok hf hxv) (ev_ok hf hjv) h1)
  · rename_i t x j hop
    rw [Option.bind_eq_some_iff] at ha
    obtain ⟨xv, hxv, ha⟩ := ha
    rw [Option.bind_eq_some_iff] at ha
    obtain ⟨jv, hjv, ha⟩ := ha
    obtain ⟨h1, rfl⟩ := retH_ok ha he
    simp only [execOp, hop]
    exact OpOK.ofRun hw (ix_ok ht (ev_ok hf hxv) (ev_ok hf hjv) h1)
  · rename_i x j hop
    rw [Option.bind_eq_some_iff] at ha
    obtain ⟨xv, hxv, ha⟩ := ha
    obtain ⟨h1, rfl⟩ := retH_ok ha he
    simp only [execOp, hop]
    exact OpOK.ofRun hw (part_ok (ev_ok hf hxv) h1)
  · rename_i c hop
    rw [Option.bind_eq_some_iff] at ha
    obtain ⟨d, hd, ha⟩ := ha
    rw [Option.bind_eq_some_iff] at ha
    obtain ⟨args, hargs, ha⟩ := ha
    have hav := evTs_ok hf hargs
    have harr : c.args.map a.eval = (c.args.toList.map a.eval).toArray := arr_map _ _
    simp only [execOp, hop]
    cases hcal : c.callee with
    | value f =>
      rw [hcal] at ha
      simp only [Option.bind_eq_some_iff] at ha
      obtain ⟨fv, hfv, ha⟩ := ha
      obtain ⟨g, cap, h1, h2, h3⟩ := callV_ok hT hTi hw (ev_ok hf hfv) hav ha he
      have hr : (do let d ← resolve a.eval c o.type; invoke d.target d.args : Sem Next).run P w = .ok (.enter g ((c.args.toList.map a.eval).toArray ++ cap)) w := by
        unfold Go.resolve
        rw [harr, hcal]
        simp only [h1, Deferred.ofValue]
        simp [Sem.run_bind, Go.invoke]
        simpa using h2
      rw [hr]
      exact h3
    | builtin b =>
      rw [hcal] at ha
      have := blt_ok (ty := o.type) (consts := c.args.map fun | .const _ => true | _ => false) ht hw hav ha he
      have hr : (do let d ← resolve a.eval c o.type; invoke d.target d.args : Sem Next).run P w = (builtin b c.argTypes.toList.toArray o.type (c.args.map fun | .const _ => true | _ => false) (c.args.toList.map a.eval).toArray).run P w := by
        unfold Go.resolve
        rw [harr, hcal]
        simp [Sem.run_bind, Go.invoke]
        rfl
      rw [hr]
      exact this
    | invoke r n => rw [hcal] at ha; simp at ha
  · simp at ha

end
end Go.Vm
