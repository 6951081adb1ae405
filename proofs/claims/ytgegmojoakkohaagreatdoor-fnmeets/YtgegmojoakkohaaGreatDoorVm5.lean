/-
  One function over whatever the others answer in the limit: it answers in the limit.
-/
import Derived.Test.YtgegmojoakkohaaGreatDoorVm4
import Derived.Test.YtgegmojoakkohaaGreatDoorVm1k
namespace Go.Vm
set_option linter.unusedVariables false
set_option linter.unusedSimpArgs false

/-- From some fuel on. -/
def Evt {α : Type} (F : Nat → Option α) (r : α) : Prop := ∃ N, ∀ n, N ≤ n → F n = some r

section
variable {α β : Type}

theorem Evt.const {x : Option α} {r : α} (h : x = some r) : Evt (fun _ => x) r := ⟨0, fun _ _ => h⟩

theorem Evt.bind {A : Nat → Option α} {B : Nat → α → Option β} {a : α} {b : β} (h1 : Evt A a) (h2 : Evt (fun n => B n a) b) : Evt (fun n => (A n).bind (B n)) b := by
  obtain ⟨N1, h1⟩ := h1
  obtain ⟨N2, h2⟩ := h2
  exact ⟨max N1 N2, fun n hn => by show (A n).bind (B n) = some b; rw [h1 n (Nat.le_trans (Nat.le_max_left _ _) hn)]; exact h2 n (Nat.le_trans (Nat.le_max_right _ _) hn)⟩

theorem Evt.map {A : Nat → Option α} {f : α → β} {a : α} {b : β} (h1 : Evt A a) (h2 : f a = b) : Evt (fun n => (A n).map f) b := by
  obtain ⟨N1, h1⟩ := h1
  exact ⟨N1, fun n hn => by show (A n).map f = some b; rw [h1 n hn]; simp [h2]⟩

theorem Evt.same {A B : Nat → Option α} {a : α} (h1 : Evt A a) (h2 : ∀ n, A n = B n) : Evt B a := by
  obtain ⟨N1, h1⟩ := h1
  exact ⟨N1, fun n hn => by rw [← h2]; exact h1 n hn⟩

end

def Lim (S : Nat → CallSem) (T : CallSem) : Prop := ∀ f a o r, T f a o = some r → Evt (fun N => S N f a o) r

section
variable {P : Program} {cfg : Cfg} {S : Nat → CallSem} {T Ti : CallSem} {me nt na : Nat} {fr : Fr} {h : Hp}

theorem pcall_evt (hT : Lim S T) {f : FuncId} {args : List V} {sh : Sh} {v : V} (hr : pcall T h f args sh = some v) : Evt (fun N => pcall (S N) h f args sh) v := by
  unfold pcall at hr ⊢
  simp only [Option.bind_eq_some_iff] at hr
  obtain ⟨as, h1, v1, h2, hr⟩ := hr
  refine Evt.bind (.const h1) (Evt.bind ?_ (.const (by simpa [Option.bind_eq_some_iff] using hr)))
  unfold pres at h2 ⊢
  simp only [Option.bind_eq_some_iff] at h2
  obtain ⟨r, h3, h4⟩ := h2
  exact Evt.bind (hT _ _ _ _ h3) (.const h4)

theorem hcall_evt (hT : Lim S T) {d : Nat} {f : FuncId} {args : List V} {r : V × Eff} (hr : hcall T h d f args = some r) : Evt (fun N => hcall (S N) h d f args) r := by
  unfold hcall at hr ⊢
  simp only at hr ⊢
  cases hd : distinct (reach h 3 (addNew [] (refsVs args))) with
  | false => rw [hd] at hr; simp at hr
  | true =>
    rw [hd] at hr
    simp only [cond_true, Option.bind_eq_some_iff] at hr ⊢
    obtain ⟨os, h1, q, h2, hr⟩ := hr
    exact Evt.bind (.const h1) (Evt.bind (hT _ _ _ _ h2) (.const hr))

theorem Lim.frz (hT : Lim S T) : Lim (fun N => frzT (S N)) (frzT T) := by
  intro f args objs r hr
  unfold frzT at hr ⊢
  rw [Option.bind_eq_some_iff] at hr
  obtain ⟨r0, h0, hz⟩ := hr
  exact Evt.bind (hT _ _ _ _ h0) (.const hz)

theorem hcallS_evt (hT : Lim S T) {d : Nat} {f : FuncId} {args : List V} {sh : Sh} {r : V × Eff} (hr : hcallS T h d f args sh = some r) : Evt (fun N => hcallS (S N) h d f args sh) r := by
  unfold hcallS at hr ⊢
  simp only at hr ⊢
  cases hd : distinct (reach h 3 (addNew [] (refsVs args))) with
  | false => rw [hd] at hr; simp at hr
  | true =>
    rw [hd] at hr
    simp only [cond_true, Option.bind_eq_some_iff] at hr ⊢
    obtain ⟨os, h1, q, h2, v, h3, os', h4, hr⟩ := hr
    exact Evt.bind (.const h1) (Evt.bind (hT _ _ _ _ h2) (.const (by rw [h3]; simp only [Option.bind_some]; rw [h4]; exact hr)))

theorem aop_evt (hT : Lim S T) (hTi : Lim S Ti) {dst : Option Nat} {ty : TypeId} {op : Op} {r : V × Eff} (hr : aop cfg T Ti me fr h dst ty op = some r) : Evt (fun N => aop cfg (S N) (S N) me fr h dst ty op) r := by
  cases op <;> try exact .const hr
  case makeFunc f first caps => cases f <;> exact .const hr
  case call c =>
    simp only [aop, Option.bind_eq_some_iff] at hr ⊢
    obtain ⟨d, hd, args, hargs, hr⟩ := hr
    refine Evt.bind (.const hd) (Evt.bind (.const hargs) ?_)
    cases hc : c.callee with
    | builtin b => rw [hc] at hr; exact .const hr
    | invoke x m => rw [hc] at hr; cases hr
    | value f =>
      rw [hc] at hr
      simp only [Option.bind_eq_some_iff] at hr ⊢
      obtain ⟨fv, hfv, hr⟩ := hr
      refine Evt.bind (.const hfv) ?_
      unfold callV at hr ⊢
      split at hr
      · rename_i g caps
        cases hn : cfg.nat g with
        | some nt => rw [hn] at hr; exact .const hr
        | none =>
        rw [hn] at hr
        simp only at hr ⊢
        cases hm : cfg.hm me g with
        | pure =>
          rw [hm] at hr
          unfold retH at hr ⊢
          rw [Option.map_eq_some_iff] at hr
          obtain ⟨v, h1, h2⟩ := hr
          exact Evt.map (pcall_evt hT h1) h2
        | heap => rw [hm] at hr; exact hcallS_evt hT.frz hr
        | inline => rw [hm] at hr; exact hcall_evt hTi hr
      · cases hr

theorem stepO_evt (hT : Lim S T) (hTi : Lim S Ti) {ops : List Oper} {o : Oper} {s r : St} (hr : stepO cfg T Ti me nt ops o s = some r) : Evt (fun N => stepO cfg (S N) (S N) me nt ops o s) r := by
  unfold stepO at hr ⊢
  simp only [Option.bind_eq_some_iff] at hr
  obtain ⟨g, hg, hr⟩ := hr
  refine Evt.bind (.const hg) ?_
  cases g with
  | false => exact .const hr
  | true =>
    simp only [cond_true, Option.bind_eq_some_iff] at hr ⊢
    obtain ⟨q, hq, hr⟩ := hr
    exact Evt.bind (aop_evt hT hTi hq) (.const (by simpa [Option.bind_eq_some_iff] using hr))

theorem runOps_evt (hT : Lim S T) (hTi : Lim S Ti) {ops : List Oper} : ∀ {l : List Oper} {s r : St}, runOps cfg T Ti me nt ops l s = some r → Evt (fun N => runOps cfg (S N) (S N) me nt ops l s) r
  | [], s, r, hr => .const hr
  | o :: l, s, r, hr => by
    simp only [runOps, Option.bind_eq_some_iff] at hr ⊢
    obtain ⟨s1, h1, hr⟩ := hr
    exact Evt.bind (stepO_evt hT hTi h1) (runOps_evt hT hTi hr)

theorem stepD_evt (hT : Lim S T) (hTi : Lim S Ti) {dl : List Id} {ops : List Oper} {c : Cls} {o : Oper} {s r : SD} (hr : stepD cfg T Ti me nt dl ops c o s = some r) : Evt (fun N => stepD cfg (S N) (S N) me nt dl ops c o s) r := by
  unfold stepD at hr ⊢
  simp only [Option.bind_eq_some_iff] at hr
  obtain ⟨g, hg, hr⟩ := hr
  refine Evt.bind (.const hg) ?_
  cases g with
  | false => exact .const hr
  | true =>
    simp only [cond_true] at hr ⊢
    cases hok : okD dl c s.fr o with
    | false => rw [hok] at hr; cases hr
    | true =>
      rw [hok] at hr
      simp only [cond_true, Option.bind_eq_some_iff] at hr ⊢
      obtain ⟨q, hq, hr⟩ := hr
      exact Evt.bind (aop_evt hT hTi hq) (.const hr)

theorem runD_evt (hT : Lim S T) (hTi : Lim S Ti) {dl : List Id} {ops : List Oper} : ∀ {l : List Oper} {i : Nat} {s r : SD}, runD cfg T Ti me nt dl ops i l s = some r → Evt (fun N => runD cfg (S N) (S N) me nt dl ops i l s) r
  | [], i, s, r, hr => .const hr
  | o :: l, i, s, r, hr => by
    simp only [runD, Option.bind_eq_some_iff] at hr ⊢
    obtain ⟨s1, h1, hr⟩ := hr
    exact Evt.bind (stepD_evt hT hTi h1) (runD_evt hT hTi hr)

theorem region_evt (hT : Lim S T) (hTi : Lim S Ti) {id : Nat} {ops : Array Oper} {draw : Bool} {s r : St} (hr : region cfg T Ti me nt id ops draw s = some r) : Evt (fun N => region cfg (S N) (S N) me nt id ops draw s) r := by
  unfold region at hr ⊢
  cases draw with
  | false => exact runOps_evt hT hTi hr
  | true =>
    simp only [cond_true] at hr ⊢
    cases hd : drawOk cfg me ops with
    | false => rw [hd] at hr; simp at hr
    | true =>
      rw [hd] at hr
      simp only [cond_true, Option.map_eq_some_iff] at hr ⊢
      obtain ⟨s1, h1, h2⟩ := hr
      exact Evt.map (runD_evt hT hTi h1) h2

theorem loopA_evt {body : St → Option (Ex × St)} {bodyN : Nat → St → Option (Ex × St)} {k ko : Keep} (hb : ∀ s r, body s = some r → Evt (fun N => bodyN N s) r) :
    ∀ {n : Nat} {s : St} {r : Ex × St}, loopA na body k ko n s = some r → ∃ N, ∀ N', N ≤ N' → ∀ q, n ≤ q → loopA na (bodyN N') k ko q s = some r
  | 0, s, r, hr => by simp [loopA] at hr
  | n + 1, s, r, hr => by
    simp only [loopA, Option.bind_eq_some_iff] at hr
    obtain ⟨⟨e, s1⟩, h1, hr⟩ := hr
    obtain ⟨N1, h2⟩ := hb _ _ h1
    simp only at h2
    cases e with
    | nrm =>
      simp only [Option.bind_eq_some_iff] at hr
      obtain ⟨s2, h3, hr⟩ := hr
      obtain ⟨N2, h4⟩ := loopA_evt hb hr
      refine ⟨max N1 N2, fun N' hN q hq => ?_⟩
      obtain ⟨q, rfl⟩ : ∃ q', q = q' + 1 := ⟨q - 1, by omega⟩
      simp only [loopA]
      rw [h2 N' (Nat.le_trans (Nat.le_max_left _ _) hN)]
      simp only [Option.bind_some]
      rw [h3]
      exact h4 N' (Nat.le_trans (Nat.le_max_right _ _) hN) q (by omega)
    | ext id =>
      refine ⟨N1, fun N' hN q hq => ?_⟩
      obtain ⟨q, rfl⟩ : ∃ q', q = q' + 1 := ⟨q - 1, by omega⟩
      simp only [loopA]
      rw [h2 N' hN]
      exact hr
    | ret =>
      refine ⟨N1, fun N' hN q hq => ?_⟩
      obtain ⟨q, rfl⟩ : ∃ q', q = q' + 1 := ⟨q - 1, by omega⟩
      simp only [loopA]
      rw [h2 N' hN]
      exact hr

theorem aexec_evt (hT : Lim S T) (hTi : Lim S Ti) {n : Nat} : ∀ (c : Code) {s : St} {r : Ex × St}, aexec cfg T Ti me nt na n c s = some r → Evt (fun N => aexec cfg (S N) (S N) me nt na N c s) r
  | .skip, s, r, hr => .const hr
  | .region id ops draw, s, r, hr => by
    simp only [aexec, Option.map_eq_some_iff] at hr ⊢
    obtain ⟨s1, h1, h2⟩ := hr
    exact Evt.map (region_evt hT hTi h1) h2
  | .seq a b, s, r, hr => by
    simp only [aexec, Option.bind_eq_some_iff] at hr ⊢
    obtain ⟨⟨e, s1⟩, h1, hr⟩ := hr
    refine Evt.bind (aexec_evt hT hTi a h1) ?_
    cases hb : isN e with
    | true =>
      simp only [hb, cond_true] at hr ⊢
      exact aexec_evt hT hTi b hr
    | false =>
      simp only [hb, cond_false] at hr ⊢
      exact .const hr
  | .cond c a b, s, r, hr => by
    simp only [aexec, Option.bind_eq_some_iff] at hr ⊢
    obtain ⟨v, h1, t, h2, hr⟩ := hr
    refine Evt.bind (.const h1) (Evt.bind (.const h2) ?_)
    cases t with
    | true => exact aexec_evt hT hTi a hr
    | false => exact aexec_evt hT hTi b hr
  | .block id b, s, r, hr => by
    simp only [aexec, Option.map_eq_some_iff] at hr ⊢
    obtain ⟨s1, h1, h2⟩ := hr
    exact Evt.map (aexec_evt hT hTi b h1) h2
  | .loop b, s, r, hr => by
    simp only [aexec, Option.bind_eq_some_iff, Option.some.injEq] at hr ⊢
    obtain ⟨s1, h1, q, h2, s2, h3, h4⟩ := hr
    refine Evt.bind (.const h1) (Evt.bind (a := q) ?_ (.const (by rw [h3, ← h4]; rfl)))
    obtain ⟨N, hN⟩ := loopA_evt (bodyN := fun N => aexec cfg (S N) (S N) me nt na N b) (fun s r hsr => aexec_evt hT hTi b hsr) h2
    exact ⟨max N n, fun N' hN' => hN N' (Nat.le_trans (Nat.le_max_left _ _) hN') N' (Nat.le_trans (Nat.le_max_right _ _) hN')⟩
  | .exit id, s, r, hr => .const hr
  | .ret, s, r, hr => .const hr
  | .goto l, s, r, hr => by simp [aexec] at hr
  | .label l, s, r, hr => by simp [aexec] at hr

theorem bodyA_evt (hT : Lim S T) (hTi : Lim S Ti) {n f : Nat} {fn : Func} {c : Code} {args : List V} {objs : List Obj} {r : V × List Obj × List Obj} (hr : bodyA cfg T Ti n f fn c args objs = some r) :
    Evt (fun N => bodyA cfg (S N) (S N) N f fn c args objs) r := by
  unfold bodyA at hr ⊢
  cases hle : Nat.ble args.length fn.ntmps with
  | false => rw [hle] at hr; simp at hr
  | true =>
    rw [hle] at hr
    simp only [cond_true, Option.bind_eq_some_iff] at hr ⊢
    obtain ⟨q, h1, hr⟩ := hr
    exact Evt.bind (aexec_evt hT hTi c h1) (.const hr)

theorem lim_rn : Lim (run P cfg) (rn P cfg) := fun f a o r hr => rn_some.1 hr

/-- One function, run on the spot to a depth, over what the others answer in the limit. -/
theorem runI_evt (n : Nat) : ∀ d, Lim (run P cfg) (runI P cfg (rn P cfg) n d)
  | 0 => fun f a o r hr => by simp [runI] at hr
  | d + 1 => fun f a o r hr => by
    simp only [runI] at hr
    have key : ∀ N, run P cfg (N + 1) f a o = (match cfg.ext f with
      | some g => g a o
      | none => match P.funcs[f]? with
        | some fn => match fn.body with
          | some c => bodyA cfg (run P cfg N) (run P cfg N) N f fn c a o
          | none => none
        | none => none) := fun N => rfl
    have step : ∀ {F : Nat → Option (V × List Obj × List Obj)}, Evt F r → (∀ N, run P cfg (N + 1) f a o = F N) → Evt (fun N => run P cfg N f a o) r := by
      intro F hF hk
      obtain ⟨N, hN⟩ := hF
      refine ⟨N + 1, fun q hq => ?_⟩
      obtain ⟨q, rfl⟩ : ∃ q', q = q' + 1 := ⟨q - 1, by omega⟩
      simp only [hk]
      exact hN q (by omega)
    split at hr
    · rename_i g hg
      exact step (.const hr) fun N => by rw [key, hg]
    · rename_i hg
      split at hr
      · rename_i fn hfn
        split at hr
        · rename_i c hb
          exact step (bodyA_evt lim_rn (runI_evt n d) hr) fun N => by rw [key, hg, hfn]; simp only; rw [hb]
        · cases hr
      · cases hr

theorem rn_of_runI {n d : Nat} {f : FuncId} {args : List V} {objs : List Obj} {r : V × List Obj × List Obj} (h : runI P cfg (rn P cfg) n d f args objs = some r) : rn P cfg f args objs = some r :=
  rn_some.2 (runI_evt n d f args objs r h)

end
end Go.Vm
