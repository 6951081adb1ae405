/-
  What the machine answers, the program answers.
-/
import Derived.Test.YtepghohkfnmhmaaDoorVmCodeB
namespace Go.Vm
variable {G : Gl}
set_option linter.unusedVariables false
set_option linter.unusedSimpArgs false

/-- What the machine asks of the program. -/
structure ProgOK (G : Gl) (P : Program) (cfg : Cfg) : Prop where
  wide : P.follows .mixedOrders = true
  tab : TabOK P cfg
  nm : ∀ (f : FuncId) (fn : Func), P.funcs[f]? = some fn → (fn.name == "runtime.NumGoroutine") = false
  ext : ∀ f g args objs r, cfg.ext f = some g → g args objs = some r → FnOK G P f args objs r

section
variable {P : Program} {cfg : Cfg} {T Ti : CallSem} {me nt na : Nat} {U : Nat → Prop} {loc0 : Loc} {w0 : World} {fr fr' : Fr} {h h' : Hp} {loc loc' : Loc} {a : Act} {w : World} {objs : List Obj}

/-- Where things lie behind the call, as the caller sees it. -/
def outLoc (loc : Loc) (ns : List Id) : Loc := fun i => match i with
  | .arg j => loc (.arg j)
  | .ret _ j => (ns[j]?).bind loc
  | _ => none

def argIds (n : Nat) : List Id := (List.range n).map Id.arg

theorem argIds_get {n j : Nat} (hj : j < n) : (argIds n)[j]? = some (.arg j) := by simp [argIds, hj]

theorem look_argIds {n : Nat} : ∀ {a b : Id}, look ((argIds n).map fun i => (i, i)) a = some b → ∃ j, j < n ∧ a = .arg j ∧ b = .arg j := by
  intro a b hl
  have := look_mem hl
  simp only [argIds, List.map_map, List.mem_map, List.mem_range, Function.comp, Prod.mk.injEq] at this
  obtain ⟨j, hj, rfl, rfl⟩ := this
  exact ⟨j, hj, rfl, rfl⟩

theorem look_argIds_get {n j : Nat} (hj : j < n) : look ((argIds n).map fun i => (i, i)) (.arg j) = some (.arg j) := by
  refine look_of_mem ?_ ?_
  · rw [List.map_map]
    have : (Prod.fst ∘ fun i : Id => (i, i)) = id := by funext i; rfl
    rw [this, List.map_id]
    unfold argIds
    exact List.Pairwise.map Id.arg (fun a b h => by simpa using h) List.nodup_range
  · simp [argIds, hj]

theorem finishA_ok {v : V} {r : V × List Obj × List Obj} {u : Value} (hw : HW G U h loc w) (hex : Ext U (hpOf .arg 0 objs) loc0 w0 h loc w) (hv : VW w (Mut U h loc) h loc u v) (hf : finishA h objs.length v = some r) :
    r.2.1.length = objs.length ∧ ∃ loc', PostV G U (hpOf .arg 0 objs) loc0 w0 (outHp r.2.1 r.2.2) r.1 u w loc' := by
  unfold finishA at hf
  simp only at hf
  generalize hns : ((reach h 3 (addNew ((List.range objs.length).map Id.arg) (refsV v))).filter fun i => !isArg i) = ns at hf
  cases hd : distinct ns with
  | false => rw [hd] at hf; simp at hf
  | true =>
    rw [hd] at hf
    simp only [cond_true, Option.bind_eq_some_iff, Option.some.injEq] at hf
    obtain ⟨os, hos, os2, hos2, rfl⟩ := hf
    change getAll h (argIds objs.length) = some os at hos
    have hna : ∀ j, Id.arg j ∉ ns := by
      intro j hj
      rw [← hns] at hj
      have := (List.mem_filter.1 hj).2
      simp [isArg] at this
    generalize hm : ((List.range objs.length).map Id.arg).map (fun i => (i, i)) ++ numFrom (.ret 0) 0 ns = m
    simp only
    obtain ⟨l1, g1⟩ := getAll_some hos
    obtain ⟨l2, g2⟩ := getAll_some hos2
    have l1' : os.length = objs.length := by rw [l1]; simp [argIds]
    refine ⟨by simp [l1'], outLoc loc ns, ?_⟩
    have hA : ∀ j, j < objs.length → ∃ o, h (.arg j) = some o ∧ outHp (os.map (renO m)) (os2.map (renO m)) (.arg j) = some (renO m o) := by
      intro j hj
      obtain ⟨o, ho, ho2⟩ := g1 j _ (argIds_get hj)
      refine ⟨o, ho, ?_⟩
      unfold outHp
      rw [hpOf_arg, List.getElem?_map, ho2]
      rfl
    have hB : ∀ (j : Nat) (i : Id), ns[j]? = some i → ∃ o, h i = some o ∧ outHp (os.map (renO m)) (os2.map (renO m)) (.ret 0 j) = some (renO m o) := by
      intro j i hj
      obtain ⟨o, ho, ho2⟩ := g2 j i hj
      refine ⟨o, ho, ?_⟩
      unfold outHp
      rw [hpOf_arg_ne (fun k => by simp), hpOf_ret, List.getElem?_map, ho2]
      rfl
    have hO : ∀ b o', outHp (os.map (renO m)) (os2.map (renO m)) b = some o' → (∃ j o, j < objs.length ∧ b = .arg j ∧ h (.arg j) = some o ∧ o' = renO m o) ∨ ∃ j i o, ns[j]? = some i ∧ b = .ret 0 j ∧ h i = some o ∧ o' = renO m o := by
      intro b o' hb
      unfold outHp at hb
      split at hb
      · rename_i o2 hh
        simp at hb; subst hb
        obtain ⟨j, rfl, hj⟩ := hpOf_some hh
        rw [List.getElem?_map, Option.map_eq_some_iff] at hj
        obtain ⟨o, ho, rfl⟩ := hj
        have hlt : j < objs.length := by rw [← l1']; exact (List.getElem?_eq_some_iff.1 ho).1
        obtain ⟨o3, ho3, ho4⟩ := g1 j _ (argIds_get hlt)
        rw [ho] at ho4
        obtain rfl := Option.some.inj ho4
        exact .inl ⟨j, o, hlt, by simp, ho3, rfl⟩
      · obtain ⟨j, rfl, hj⟩ := hpOf_some hb
        rw [List.getElem?_map, Option.map_eq_some_iff] at hj
        obtain ⟨o, ho, rfl⟩ := hj
        have hlt : j < ns.length := by rw [← l2]; exact (List.getElem?_eq_some_iff.1 ho).1
        obtain ⟨o3, ho3, ho4⟩ := g2 j _ (List.getElem?_eq_getElem hlt)
        rw [ho] at ho4
        obtain rfl := Option.some.inj ho4
        exact .inr ⟨j, ns[j], o, List.getElem?_eq_getElem hlt, by simp, ho3, rfl⟩
    have hlook : ∀ x b, look m x = some b → (∃ j, j < objs.length ∧ x = .arg j ∧ b = .arg j) ∨ ∃ j, ns[j]? = some x ∧ b = .ret 0 j := by
      intro x b hl
      rw [← hm, look_append] at hl
      rcases Option.or_eq_some_iff.1 hl with h1 | ⟨_, h1⟩
      · exact .inl (look_argIds h1)
      · obtain ⟨j, h2, h3⟩ := look_numFrom h1
        exact .inr ⟨j, h2, by rw [h3]; simp⟩
    have hlA : ∀ j, j < objs.length → look m (.arg j) = some (.arg j) := by
      intro j hj
      rw [← hm, look_append]
      have := look_argIds_get hj
      unfold argIds at this
      rw [this]
      rfl
    have hlN : ∀ (j : Nat) (i : Id), ns[j]? = some i → look m i = some (.ret 0 j) := by
      intro j i hj
      rw [← hm, look_append]
      have h1 : look (((List.range objs.length).map Id.arg).map fun i => (i, i)) i = none := by
        cases hl : look (((List.range objs.length).map Id.arg).map fun i => (i, i)) i with
        | none => rfl
        | some b =>
          obtain ⟨k, _, rfl, _⟩ := look_argIds hl
          exact absurd (List.mem_of_getElem? hj) (hna k)
      rw [h1, Option.none_or]
      have := look_numFrom_get (mk := Id.ret 0) (n := 0) hd hj
      rw [Nat.zero_add] at this
      exact this
    have hren : Ren m h loc (outHp (os.map (renO m)) (os2.map (renO m))) (outLoc loc ns) := by
      refine ⟨fun x b o hl ho => ?_⟩
      rcases hlook x b hl with ⟨j, hj, rfl, rfl⟩ | ⟨j, hj, rfl⟩
      · obtain ⟨o2, q1, q2⟩ := hA j hj
        rw [ho] at q1
        obtain rfl := Option.some.inj q1
        exact ⟨_, q2, renO_same o, rfl⟩
      · obtain ⟨o2, q1, q2⟩ := hB j x hj
        rw [ho] at q1
        obtain rfl := Option.some.inj q1
        exact ⟨_, q2, renO_same o, by simp [outLoc, hj]⟩
    have hsrc : Src' m h loc (outHp (os.map (renO m)) (os2.map (renO m))) (outLoc loc ns) := by
      intro b o' blk c hb hlv hlo
      rcases hO b o' hb with ⟨j, o, hj, rfl, ho, rfl⟩ | ⟨j, i, o, hj, rfl, ho, rfl⟩
      · exact ⟨.arg j, o, hlA j hj, ho, by rw [← (renO_same (m := m) o).live]; exact hlv, hlo⟩
      · exact ⟨i, o, hlN j i hj, ho, by rw [← (renO_same (m := m) o).live]; exact hlv, by simpa [outLoc, hj] using hlo⟩
    have hM : ∀ b, Mut U (outHp (os.map (renO m)) (os2.map (renO m))) (outLoc loc ns) b → Mut U h loc b := Mut.ren (fun b hb => .inl hb) hsrc
    refine ⟨hw.ren (fun b hb => hb) (fun b hb => .inl hb) hsrc (fun x b o blk c hl ho hlv hlo => (hw.sep x o blk c ho hlv hlo).1) ?_, ?_, VW.ren hren hM v hv⟩
    · intro b o' hb
      rcases hO b o' hb with ⟨j, o, hj, rfl, ho, rfl⟩ | ⟨j, i, o, hj, rfl, ho, rfl⟩
      · exact OW.ren hren hM rfl (hw.obj _ o ho)
      · exact OW.ren hren hM (by simp [outLoc, hj]) (hw.obj i o ho)
    · refine hex.turnTo hM fun j hj => ⟨rfl, fun o ho => ?_⟩
      obtain ⟨o2, q1, q2⟩ := hA j hj
      rw [ho] at q1
      obtain rfl := Option.some.inj q1
      exact ⟨_, q2, renO_same o⟩

theorem bodyA_ok (hP : ProgOK G P cfg) (hT : TOK G P T) (hTi : TOK G P Ti) {n f : Nat} {fn : Func} {c : Code} {args : List V} {r : V × List Obj × List Obj} (hfn : P.funcs[f]? = some fn) (hb : fn.body = some c)
    (hr : bodyA cfg T Ti n f fn c args objs = some r) : FnOK G P f args objs r := by
  unfold bodyA at hr
  cases hle : Nat.ble args.length fn.ntmps with
  | false => rw [hle] at hr; simp at hr
  | true =>
    rw [hle] at hr
    simp only [cond_true, Option.bind_eq_some_iff] at hr
    obtain ⟨⟨e, s⟩, hs, hr⟩ := hr
    have hfin : ∃ vs, resVs cfg s fn.results.toList = some vs ∧ finishA s.h objs.length (packV vs) = some r ∧ (e = .nrm ∨ e = .ret) := by
      cases e with
      | ext id => simp at hr
      | nrm => simp only [Option.bind_eq_some_iff] at hr; obtain ⟨vs, h1, h2⟩ := hr; exact ⟨vs, h1, h2, .inl rfl⟩
      | ret => simp only [Option.bind_eq_some_iff] at hr; obtain ⟨vs, h1, h2⟩ := hr; exact ⟨vs, h1, h2, .inr rfl⟩
    obtain ⟨vs, hvs, hfi, he⟩ := hfin
    have hlen : r.2.1.length = objs.length := by
      unfold finishA at hfi
      simp only at hfi
      cases hd : distinct ((reach s.h 3 (addNew ((List.range objs.length).map Id.arg) (refsV (packV vs)))).filter fun i => !isArg i) with
      | false => rw [hd] at hfi; simp at hfi
      | true =>
        rw [hd] at hfi
        simp only [cond_true, Option.bind_eq_some_iff, Option.some.injEq] at hfi
        obtain ⟨os, hos, os2, hos2, rfl⟩ := hfi
        simp [(getAll_some hos).1]
    refine ⟨⟨fn, c, hfn, hb, hP.nm f fn hfn⟩, hlen, fun U loc w us hw hv => ?_⟩
    refine calls_of_wp hfn hb ?_
    have hst : Rp G U (hpOf .arg 0 objs) loc w fn.ntmps (frArgs args) (hpOf .arg 0 objs) { tmps := us.toArray ++ Array.replicate (fn.ntmps - us.toArray.size) undef, defers := [] } w := by
      refine ⟨loc, hw, start_fr hv (Nat.le_of_ble_eq_true hle), Ext.refl _ _ _ _, ?_, rfl⟩
      have := hv.len
      have := Nat.le_of_ble_eq_true hle
      simp
      omega
    refine aexec_wp hP.wide hP.tab hT hTi c (s := ⟨frArgs args, hpOf .arg 0 objs⟩) hst hs fun a' w' hr' => ?_
    obtain ⟨loc', hw', hf', hex', _, hd'⟩ := hr'
    obtain ⟨u, h1, h2⟩ := results_ok hP.tab hw' hf' (vs := vs) hvs
    obtain ⟨_, loc2, hpost⟩ := finishA_ok hw' hex' h2 hfi
    rcases he with rfl | rfl
    · exact ⟨hd', u, h1, u, loc2, rfl, hpost⟩
    · exact ⟨hd', u, h1, u, loc2, rfl, hpost⟩

/-- With whatever fuel. -/
theorem run_ok (hP : ProgOK G P cfg) : ∀ n, TOK G P (run P cfg n)
  | 0 => fun f args objs r hr => by simp [run] at hr
  | n + 1 => fun f args objs r hr => by
    simp only [run] at hr
    split at hr
    · rename_i g hg
      exact hP.ext f g args objs r hg hr
    · split at hr
      · rename_i fn hfn
        split at hr
        · rename_i c hb
          exact bodyA_ok hP (run_ok hP n) (run_ok hP n) hfn hb hr
        · cases hr
      · cases hr

theorem rn_some {f : FuncId} {args : List V} {r : V × List Obj × List Obj} : rn P cfg f args objs = some r ↔ ∃ N, ∀ n, N ≤ n → run P cfg n f args objs = some r := by
  unfold rn
  constructor
  · intro h
    split at h
    · rename_i hx
      simp at h
      rw [← h]
      exact Classical.choose_spec hx
    · cases h
  · rintro ⟨N, hN⟩
    have hx : ∃ r, ∃ N, ∀ n, N ≤ n → run P cfg n f args objs = some r := ⟨r, N, hN⟩
    rw [dif_pos hx]
    obtain ⟨N', hN'⟩ := Classical.choose_spec hx
    have h1 := hN (max N N') (Nat.le_max_left _ _)
    have h2 := hN' (max N N') (Nat.le_max_right _ _)
    rw [h1] at h2
    exact h2.symm

theorem rn_ok (hP : ProgOK G P cfg) : TOK G P (rn P cfg) := fun f args objs r hr => by
  obtain ⟨N, hN⟩ := rn_some.1 hr
  exact run_ok hP N f args objs r (hN N (Nat.le_refl _))

end
end Go.Vm
