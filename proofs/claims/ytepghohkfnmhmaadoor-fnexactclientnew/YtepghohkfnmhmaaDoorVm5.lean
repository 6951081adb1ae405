/-
  One function over whatever the others answer in the limit: it answers in the limit.
-/
import Derived.Test.YtepghohkfnmhmaaDoorVm4
import Derived.Test.YtepghohkfnmhmaaDoorVm1
import Derived.Deep.Slices
import Derived.Carry
import Derived.OpenShut
import Derived.ChangeSame
import Derived.Handed
import Derived.JoinedCond
namespace Go.Vm
set_option linter.unusedVariables false
set_option linter.unusedSimpArgs false

/-- From some fuel on. -/
def Evt {α : Type} (F : Nat → Option α) (r : α) : Prop := ∃ N, ∀ n, N ≤ n → F n = some r

section
variable {α β : Type}

theorem Evt.const {x : Option α} {r : α} (h : x = some r) : Evt (fun _ => x) r := ⟨0, fun _ _ => h⟩

theorem Evt.bind {A : Nat → Option α} {B : Nat → α → Option β} {a : α} {b : β} (h1 : Evt A a) (h2 : Evt (fun n => B n a) b) : Evt (fun n => (A n).bind (B n)) b := by
  obtain ⟨N1, h1⟩ := h1
  obtain ⟨N2, h2⟩ := h2
  exact ⟨max N1 N2, fun n hn => by show (A n).bind (B n) = some b; rw [h1 n (Nat.le_trans (Nat.le_max_left _ _) hn)]; exact h2 n (Nat.le_trans (Nat.le_max_right _ _) hn)⟩

theorem Evt.map {A : Nat → Option α} {f : α → β} {a : α} {b : β} (h1 : Evt A a) (h2 : f a = b) : Evt (fun n => (A n).map f) b := by
  obtain ⟨N1, h1⟩ := h1
  exact ⟨N1, fun n hn => by show (A n).map f = some b; rw [h1 n hn]; simp [h2]⟩

theorem Evt.same {A B : Nat → Option α} {a : α} (h1 : Evt A a) (h2 : ∀ n, A n = B n) : Evt B a := by
  obtain ⟨N1, h1⟩ := h1
  exact ⟨N1, fun n hn => by rw [← h2]; exact h1 n hn⟩

end

def Lim (S : Nat → CallSem) (T : CallSem) : Prop := ∀ f a o r, T f a o = some r → Evt (fun N => S N f a o) r

section
variable {P : Program} {cfg : Cfg} {S : Nat → CallSem} {T Ti : CallSem} {me nt na : Nat} {fr : Fr} {h : Hp}

theorem pcall_evt (hT : Lim S T) {f : FuncId} {args : List V} {sh : Sh} {v : V} (hr : pcall T h f args sh = some v) : Evt (fun N => pcall (S N) h f args sh) v := by
  unfold pcall at hr ⊢
  simp only [Option.bind_eq_some_iff] at hr
  obtain ⟨as, h1, v1, h2, hr⟩ := hr
  refine Evt.bind (.const h1) (Evt.bind ?_ (.const (by simpa [Option.bind_eq_some_iff] using hr)))
  unfold pres at h2 ⊢
  simp only [Option.bind_eq_some_iff] at h2
  obtain ⟨r, h3, h4⟩ := h2
  exact Evt.bind (hT _ _ _ _ h3) (.const h4)

theorem hcall_evt (hT : Lim S T) {d : Nat} {f : FuncId} {args : List V} {r : V × Eff} (hr : hcall T h d f args = some r) : Evt (fun N => hcall (S N) h d f args) r := by
  unfold hcall at hr ⊢
  simp only at hr ⊢
  cases hd : distinct (reach h 3 (addNew [] (refsVs args))) with
  | false => rw [hd] at hr; simp at hr
  | true =>
    rw [hd] at hr
    simp only [cond_true, Option.bind_eq_some_iff] at hr ⊢
    obtain ⟨os, h1, q, h2, hr⟩ := hr
    exact Evt.bind (.const h1) (Evt.bind (hT _ _ _ _ h2) (.const hr))

theorem hcallS_evt (hT : Lim S T) {d : Nat} {f : FuncId} {args : List V} {sh : Sh} {r : V × Eff} (hr : hcallS T h d f args sh = some r) : Evt (fun N => hcallS (S N) h d f args sh) r := by
  unfold hcallS at hr ⊢
  simp only at hr ⊢
  cases hd : distinct (reach h 3 (addNew [] (refsVs args))) with
  | false => rw [hd] at hr; simp at hr
  | true =>
    rw [hd] at hr
    simp only [cond_true, Option.bind_eq_some_iff] at hr ⊢
    obtain ⟨os, h1, q, h2, v, h3, os', h4, hr⟩ := hr
    exact Evt.bind (.const h1) (Evt.bind (hT _ _ _ _ h2) (.const (by rw [h3]; simp only [Option.bind_some]; rw [h4]; exact hr)))

theorem aop_evt (hT : Lim S T) (hTi : Lim S Ti) {dst : Option Nat} {ty : TypeId} {op : Op} {r : V × Eff} (hr : aop cfg T Ti me fr h dst ty op = some r) : Evt (fun N => aop cfg (S N) (S N) me fr h dst ty op) r := by
  cases op <;> try exact .const hr
  case makeFunc f first caps => cases f <;> exact .const hr
  case call c =>
    simp only [aop, Option.bind_eq_some_iff] at hr ⊢
    obtain ⟨d, hd, args, hargs, hr⟩ := hr
    refine Evt.bind (.const hd) (Evt.bind (.const hargs) ?_)
    cases hc : c.callee with
    | builtin b => rw [hc] at hr; exact .const hr
    | invoke x m => rw [hc] at hr; cases hr
    | value f =>
      rw [hc] at hr
      simp only [Option.bind_eq_some_iff] at hr ⊢
      obtain ⟨fv, hfv, hr⟩ := hr
      refine Evt.bind (.const hfv) ?_
      unfold callV at hr ⊢
      split at hr
      · rename_i g caps
        cases hm : cfg.hm me g with
        | pure =>
          rw [hm] at hr
          unfold retH at hr ⊢
          rw [Option.map_eq_some_iff] at hr
          obtain ⟨v, h1, h2⟩ := hr
          exact Evt.map (pcall_evt hT h1) h2
        | heap => rw [hm] at hr; exact hcallS_evt hT hr
        | inline => rw [hm] at hr; exact hcall_evt hTi hr
      · cases hr

theorem stepO_evt (hT : Lim S T) (hTi : Lim S Ti) {ops : List Oper} {o : Oper} {s r : St} (hr : stepO cfg T Ti me nt ops o s = some r) : Evt (fun N => stepO cfg (S N) (S N) me nt ops o s) r := by
  unfold stepO at hr ⊢
  simp only [Option.bind_eq_some_iff] at hr
  obtain ⟨g, hg, hr⟩ := hr
  refine Evt.bind (.const hg) ?_
  cases g with
  | false => exact .const hr
  | true =>
    simp only [cond_true, Option.bind_eq_some_iff] at hr ⊢
    obtain ⟨q, hq, hr⟩ := hr
    exact Evt.bind (aop_evt hT hTi hq) (.const (by simpa [Option.bind_eq_some_iff] using hr))

theorem runOps_evt (hT : Lim S T) (hTi : Lim S Ti) {ops : List Oper} : ∀ {l : List Oper} {s r : St}, runOps cfg T Ti me nt ops l s = some r → Evt (fun N => runOps cfg (S N) (S N) me nt ops l s) r
  | [], s, r, hr => .const hr
  | o :: l, s, r, hr => by
    simp only [runOps, Option.bind_eq_some_iff] at hr ⊢
    obtain ⟨s1, h1, hr⟩ := hr
    exact Evt.bind (stepO_evt hT hTi h1) (runOps_evt hT hTi hr)

theorem stepD_evt (hT : Lim S T) (hTi : Lim S Ti) {dl : List Id} {ops : List Oper} {c : Cls} {o : Oper} {s r : SD} (hr : stepD cfg T Ti me nt dl ops c o s = some r) : Evt (fun N => stepD cfg (S N) (S N) me nt dl ops c o s) r := by
  unfold stepD at hr ⊢
  simp only [Option.bind_eq_some_iff] at hr
  obtain ⟨g, hg, hr⟩ := hr
  refine Evt.bind (.const hg) ?_
  cases g with
  | false => exact .const hr
  | true =>
    simp only [cond_true] at hr ⊢
    cases hok : okD dl c s.fr o.op with
    | false => rw [hok] at hr; cases hr
    | true =>
      rw [hok] at hr
      simp only [cond_true, Option.bind_eq_some_iff] at hr ⊢
      obtain ⟨q, hq, hr⟩ := hr
      exact Evt.bind (aop_evt hT hTi hq) (.const hr)

theorem runD_evt (hT : Lim S T) (hTi : Lim S Ti) {dl : List Id} {ops : List Oper} : ∀ {l : List Oper} {i : Nat} {s r : SD}, runD cfg T Ti me nt dl ops i l s = some r → Evt (fun N => runD cfg (S N) (S N) me nt dl ops i l s) r
  | [], i, s, r, hr => .const hr
  | o :: l, i, s, r, hr => by
    simp only [runD, Option.bind_eq_some_iff] at hr ⊢
    obtain ⟨s1, h1, hr⟩ := hr
    exact Evt.bind (stepD_evt hT hTi h1) (runD_evt hT hTi hr)

theorem region_evt (hT : Lim S T) (hTi : Lim S Ti) {id : Nat} {ops : Array Oper} {draw : Bool} {s r : St} (hr : region cfg T Ti me nt id ops draw s = some r) : Evt (fun N => region cfg (S N) (S N) me nt id ops draw s) r := by
  unfold region at hr ⊢
  cases draw with
  | false => exact runOps_evt hT hTi hr
  | true =>
    simp only [cond_true] at hr ⊢
    cases hd : drawOk cfg me ops with
    | false => rw [hd] at hr; simp at hr
    | true =>
      rw [hd] at hr
      simp only [cond_true, Option.map_eq_some_iff] at hr ⊢
      obtain ⟨s1, h1, h2⟩ := hr
      exact Evt.map (runD_evt hT hTi h1) h2

theorem loopA_evt {body : St → Option (Ex × St)} {bodyN : Nat → St → Option (Ex × St)} {k ko : Keep} (hb : ∀ s r, body s = some r → Evt (fun N => bodyN N s) r) :
    ∀ {n : Nat} {s : St} {r : Ex × St}, loopA na body k ko n s = some r → ∃ N, ∀ N', N ≤ N' → ∀ q, n ≤ q → loopA na (bodyN N') k ko q s = some r
  | 0, s, r, hr => by simp [loopA] at hr
  | n + 1, s, r, hr => by
    simp only [loopA, Option.bind_eq_some_iff] at hr
    obtain ⟨⟨e, s1⟩, h1, hr⟩ := hr
    obtain ⟨N1, h2⟩ := hb _ _ h1
    simp only at h2
    cases e with
    | nrm =>
      simp only [Option.bind_eq_some_iff] at hr
      obtain ⟨s2, h3, hr⟩ := hr
      obtain ⟨N2, h4⟩ := loopA_evt hb hr
      refine ⟨max N1 N2, fun N' hN q hq => ?_⟩
      obtain ⟨q, rfl⟩ : ∃ q', q = q' + 1 := ⟨q - 1, by omega⟩
      simp only [loopA]
      rw [h2 N' (Nat.le_trans (Nat.le_max_left _ _) hN)]
      simp only [Option.bind_some]
      rw [h3]
      exact h4 N' (Nat.le_trans (Nat.le_max_right _ _) hN) q (by omega)
    | ext id =>
      refine ⟨N1, fun N' hN q hq => ?_⟩
      obtain ⟨q, rfl⟩ : ∃ q', q = q' + 1 := ⟨q - 1, by omega⟩
      simp only [loopA]
      rw [h2 N' hN]
      exact hr
    | ret =>
      refine ⟨N1, fun N' hN q hq => ?_⟩
      obtain ⟨q, rfl⟩ : ∃ q', q = q' + 1 := ⟨q - 1, by omega⟩
      simp only [loopA]
      rw [h2 N' hN]
      exact hr

theorem aexec_evt (hT : Lim S T) (hTi : Lim S Ti) {n : Nat} : ∀ (c : Code) {s : St} {r : Ex × St}, aexec cfg T Ti me nt na n c s = some r → Evt (fun N => aexec cfg (S N) (S N) me nt na N c s) r
  | .skip, s, r, hr => .const hr
  | .region id ops draw, s, r, hr => by
    simp only [aexec, Option.map_eq_some_iff] at hr ⊢
    obtain ⟨s1, h1, h2⟩ := hr
    exact Evt.map (region_evt hT hTi h1) h2
  | .seq a b, s, r, hr => by
    simp only [aexec, Option.bind_eq_some_iff] at hr ⊢
    obtain ⟨⟨e, s1⟩, h1, hr⟩ := hr
    refine Evt.bind (aexec_evt hT hTi a h1) ?_
    cases hb : isN e with
    | true =>
      simp only [hb, cond_true] at hr ⊢
      exact aexec_evt hT hTi b hr
    | false =>
      simp only [hb, cond_false] at hr ⊢
      exact .const hr
  | .cond c a b, s, r, hr => by
    simp only [aexec, Option.bind_eq_some_iff] at hr ⊢
    obtain ⟨v, h1, t, h2, hr⟩ := hr
    refine Evt.bind (.const h1) (Evt.bind (.const h2) ?_)
    cases t with
    | true => exact aexec_evt hT hTi a hr
    | false => exact aexec_evt hT hTi b hr
  | .block id b, s, r, hr => by
    simp only [aexec, Option.map_eq_some_iff] at hr ⊢
    obtain ⟨s1, h1, h2⟩ := hr
    exact Evt.map (aexec_evt hT hTi b h1) h2
  | .loop b, s, r, hr => by
    simp only [aexec, Option.bind_eq_some_iff, Option.some.injEq] at hr ⊢
    obtain ⟨s1, h1, q, h2, s2, h3, h4⟩ := hr
    refine Evt.bind (.const h1) (Evt.bind (a := q) ?_ (.const (by rw [h3, ← h4]; rfl)))
    obtain ⟨N, hN⟩ := loopA_evt (bodyN := fun N => aexec cfg (S N) (S N) me nt na N b) (fun s r hsr => aexec_evt hT hTi b hsr) h2
    exact ⟨max N n, fun N' hN' => hN N' (Nat.le_trans (Nat.le_max_left _ _) hN') N' (Nat.le_trans (Nat.le_max_right _ _) hN')⟩
  | .exit id, s, r, hr => .const hr
  | .ret, s, r, hr => .const hr
  | .goto l, s, r, hr => by simp [aexec] at hr
  | .label l, s, r, hr => by simp [aexec] at hr

theorem bodyA_evt (hT : Lim S T) (hTi : Lim S Ti) {n f : Nat} {fn : Func} {c : Code} {args : List V} {objs : List Obj} {r : V × List Obj × List Obj} (hr : bodyA cfg T Ti n f fn c args objs = some r) :
    Evt (fun N => bodyA cfg (S N) (S N) N f fn c args objs) r := by
  unfold bodyA at hr ⊢
  cases hle : Nat.ble args.length fn.ntmps with
  | false => rw [hle] at hr; simp at hr
  | true =>
    rw [hle] at hr
    simp only [cond_true, Option.bind_eq_some_iff] at hr ⊢
    obtain ⟨q, h1, hr⟩ := hr
    exact Evt.bind (aexec_evt hT hTi c h1) (.const hr)

theorem lim_rn : Lim (run P cfg) (rn P cfg) := fun f a o r hr => rn_some.1 hr

/-- One function, run on the spot to a depth, over what the others answer in the limit. -/
theorem runI_evt (n : Nat) : ∀ d, Lim (run P cfg) (runI P cfg (rn P cfg) n d)
  | 0 => fun f a o r hr => by simp [runI] at hr
  | d + 1 => fun f a o r hr => by
    simp only [runI] at hr
    have key : ∀ N, run P cfg (N + 1) f a o = (match cfg.ext f with
      | some g => g a o
      | none => match P.funcs[f]? with
        | some fn => match fn.body with
          | some c => bodyA cfg (run P cfg N) (run P cfg N) N f fn c a o
          | none => none
        | none => none) := fun N => rfl
    have step : ∀ {F : Nat → Option (V × List Obj × List Obj)}, Evt F r → (∀ N, run P cfg (N + 1) f a o = F N) → Evt (fun N => run P cfg N f a o) r := by
      intro F hF hk
      obtain ⟨N, hN⟩ := hF
      refine ⟨N + 1, fun q hq => ?_⟩
      obtain ⟨q, rfl⟩ : ∃ q', q = q' + 1 := ⟨q - 1, by omega⟩
      simp only [hk]
      exact hN q (by omega)
    split at hr
    · rename_i g hg
      exact step (.const hr) fun N => by rw [key, hg]
    · rename_i hg
      split at hr
      · rename_i fn hfn
        split at hr
        · rename_i c hb
          exact step (bodyA_evt lim_rn (runI_evt n d) hr) fun N => by rw [key, hg, hfn]; simp only; rw [hb]
        · cases hr
      · cases hr

theorem rn_of_runI {n d : Nat} {f : FuncId} {args : List V} {objs : List Obj} {r : V × List Obj × List Obj} (h : runI P cfg (rn P cfg) n d f args objs = some r) : rn P cfg f args objs = some r :=
  rn_some.2 (runI_evt n d f args objs r h)

end
end Go.Vm

namespace Go.Vm
set_option linter.unusedVariables false
set_option linter.unusedSimpArgs false

section
variable {α : Type} {P : Program} {cfg : Cfg} {T Ti : CallSem} {IK : CallK α} {me nt na : Nat} {fr : Fr} {h hr : Hp} {x : α}

theorem qb_some {β : Type} {o : Option β} {f : β → Option α} (hq : qb o f = some x) : ∃ a, o = some a ∧ f a = some x := by
  cases o with
  | none => cases hq
  | some a => exact ⟨a, rfl, hq⟩

theorem bind_some {β : Type} {o : Option β} {f : β → Option α} (hq : o.bind f = some x) : ∃ a, o = some a ∧ f a = some x := Option.bind_eq_some_iff.1 hq

theorem br_some {b : Bool} {p q : Option α} (hb : br b p q = some x) : (b = true ∧ p = some x) ∨ (b = false ∧ q = some x) := by
  cases b
  · exact .inr ⟨rfl, hb⟩
  · exact .inl ⟨rfl, hb⟩

theorem forceC_some {c : C} {k : C → Option α} (hf : forceC c k = some x) : k c = some x := by
  unfold forceC at hf
  split at hf <;> exact hf

theorem forceCs_some : ∀ {cs : List C} {k : List C → Option α}, forceCs cs k = some x → k cs = some x
  | [], k, hf => hf
  | c :: cs, k, hf => forceCs_some (k := fun cs' => k (c :: cs')) (forceC_some (k := fun c' => forceCs cs fun cs' => k (c' :: cs')) hf)

theorem forceV_some {v : V} {k : V → Option α} (hf : forceV v k = some x) : k v = some x := by
  cases v with
  | c y => exact forceC_some (k := fun x' => k (.c x')) hf
  | agg cs => exact forceCs_some (k := fun cs' => k (.agg cs')) hf
  | tup vs => exact hf

theorem forceO_some {o : Obj} {k : Obj → Option α} (hf : forceO o k = some x) : k o = some x := by
  cases o with
  | box cs => exact forceCs_some (k := fun cs' => k (.box cs')) hf
  | row w kd l => exact hf
  | dead => exact hf

theorem gC_eq (v : V) : gC v = unC v := by cases v <;> rfl
theorem gBool_eq (c : C) : gBool c = fBool c := rfl
theorem gInt_eq (c : C) : gInt c = fInt c := rfl
theorem gU8_eq (c : C) : gU8 c = fU8 c := rfl
theorem gStr_eq (c : C) : gStr c = fStr c := rfl
theorem gSl_eq (kd : Kind) (c : C) : gSl kd c = fSl kd c := rfl
theorem gBx_eq (id : Id) (off : Nat) (c : C) : gBx id off c = fBx id off c := rfl
theorem gRow_eq (id : Id) (kd : Kind) (c : C) : gRow id kd c = fRow id kd c := rfl
theorem gTup_eq (n : Nat) (v : V) : gTup n v = fTup n v := rfl
theorem gPart_eq (v : V) (j : Nat) : gPart v j = Go.Vm.part v j := rfl
theorem gEl_eq (kd : Kind) (v : V) : gEl kd v = asEl kd v := rfl
theorem gCert_eq (v : V) : gCert v = asCert v := rfl
theorem gClient_eq (v : V) : gClient v = asClient v := rfl
theorem gServer_eq (v : V) : gServer v = asServer v := rfl
theorem gWorld_eq (v : V) : gWorld v = asWorld v := rfl
theorem gBox_eq (o : Obj) : gBox o = asBox o := rfl
theorem gRowO_eq (wr : Bool) (kd : Kind) (o : Obj) : gRowO wr kd o = asRow wr kd o := rfl

mutual
/-- What is read as plain data is what is taken for it. -/
theorem dec_cast : ∀ (s : Sh) {v : V} {y : ShTy s}, dec s v = some y → cast v s = some (enc s y)
  | .raw, v, y, hd => by simp [dec] at hd; subst hd; simp [cast, enc]
  | .bool, v, y, hd => by simp only [dec, gC_eq] at hd; obtain ⟨c, h1, h2⟩ := bind_some hd; rw [gBool_eq] at h2; simp [cast, enc, h1, h2]
  | .int, v, y, hd => by simp only [dec, gC_eq] at hd; obtain ⟨c, h1, h2⟩ := bind_some hd; rw [gInt_eq] at h2; simp [cast, enc, h1, h2]
  | .u8, v, y, hd => by simp only [dec, gC_eq] at hd; obtain ⟨c, h1, h2⟩ := bind_some hd; rw [gU8_eq] at h2; simp [cast, enc, h1, h2]
  | .str, v, y, hd => by simp only [dec, gC_eq] at hd; obtain ⟨c, h1, h2⟩ := bind_some hd; rw [gStr_eq] at h2; simp [cast, enc, h1, h2]
  | .sl kd, v, y, hd => by simp only [dec, gC_eq] at hd; obtain ⟨c, h1, h2⟩ := bind_some hd; rw [gSl_eq] at h2; simp [cast, enc, h1, h2]
  | .el kd, v, y, hd => by simp only [dec, gEl_eq] at hd; simp [cast, enc, hd]
  | .cert, v, y, hd => by simp only [dec, gCert_eq] at hd; simp [cast, enc, hd]
  | .client, v, y, hd => by simp only [dec, gClient_eq] at hd; simp [cast, enc, hd]
  | .server, v, y, hd => by simp only [dec, gServer_eq] at hd; simp [cast, enc, hd]
  | .world, v, y, hd => by simp only [dec, gWorld_eq] at hd; simp [cast, enc, hd]
  | .tup l, v, y, hd => by
    simp only [dec, gTup_eq] at hd
    obtain ⟨u, h1, h2⟩ := bind_some hd
    have h3 := decs_casts l h2
    simp [cast, enc, h1, h3]
  | .bx id off, v, y, hd => by simp only [dec, gC_eq] at hd; obtain ⟨c, h1, h2⟩ := bind_some hd; rw [gBx_eq] at h2; simp [cast, enc, h1, h2]
  | .row id kd, v, y, hd => by simp only [dec, gC_eq] at hd; obtain ⟨c, h1, h2⟩ := bind_some hd; rw [gRow_eq] at h2; simp [cast, enc, h1, h2]
theorem decs_casts : ∀ (l : List Sh) {v : V} {j : Nat} {y : ShTys l}, decs l v j = some y → casts v j l = some (encs l y)
  | [], v, j, y, hd => by simp [casts, encs]
  | s :: l, v, j, y, hd => by
    simp only [decs, gPart_eq] at hd
    obtain ⟨a, h1, hd⟩ := bind_some hd
    obtain ⟨b, h2, hd⟩ := bind_some hd
    obtain ⟨c, h3, hd⟩ := bind_some hd
    simp at hd; subst hd
    have h4 := dec_cast s h2
    have h5 := decs_casts l h3
    simp [casts, encs, h1, h4, h5]
end

theorem decC_cast {o n : C} {y : CTy o} (hd : decC o n = some y) : castC o n = some (encC o y) := by
  unfold decC at hd
  split at hd
  · rw [gBool_eq] at hd; simp [castC, encC, hd]
  · rw [gInt_eq] at hd; simp [castC, encC, hd]
  · rw [gStr_eq] at hd; simp [castC, encC, hd]
  · rw [gSl_eq] at hd; simp [castC, encC, hd]
  · rename_i id kd
    rw [gRow_eq] at hd
    unfold fRow at hd
    split at hd
    · rename_i id' kd'
      cases hc : Id.beq id' id && decide (kd' = kd) with
      | false => rw [hc] at hd; cases hd
      | true =>
        simp only [Bool.and_eq_true, decide_eq_true_eq] at hc
        have := Id.beq_true.1 hc.1
        simp [castC, encC, this, hc.2]
    · cases hd
  · cases hd

theorem isNil_iff {β : Type} {l : List β} (h : isNil l = true) : l = [] := by
  cases l with
  | nil => rfl
  | cons => cases h

theorem head_len {β : Type} {l : List β} {n : β} (h : l.head? = some n) : l.length = l.tail.length + 1 := by
  cases l with
  | nil => cases h
  | cons => simp

theorem decCs_cast : ∀ {os ns : List C} {y : CTys os}, decCs os ns = some y → ns.length = os.length ∧ castCs os ns = some (encCs os y)
  | [], [], y, hd => ⟨rfl, by simp [castCs, encCs]⟩
  | [], _ :: _, y, hd => by cases hd
  | o :: os, [], y, hd => by cases hd
  | o :: os, n :: ns, y, hd => by
    simp only [decCs] at hd
    obtain ⟨a, h1, hd⟩ := bind_some hd
    obtain ⟨b, h2, hd⟩ := bind_some hd
    simp at hd; subst hd
    obtain ⟨hl, h3⟩ := decCs_cast h2
    have h4 := decC_cast h1
    exact ⟨by simp [hl], by simp [castCs, encCs, h3, h4]⟩

theorem decOb_cast {o n : Obj} {y : ObTy o} (hd : decOb o n = some y) : castO o n = some (encOb o y) := by
  cases o with
  | box cs =>
    simp only [decOb, gBox_eq] at hd
    obtain ⟨ds, h1, h2⟩ := bind_some hd
    obtain ⟨hl, h3⟩ := decCs_cast h2
    have h5 : Nat.beq ds.length cs.length = true := by rw [hl]; simp
    simp only [castO, encOb, h1, Option.bind_some, h3, h5, cond_true]
  | row w kd l =>
    simp only [decOb, gRowO_eq] at hd
    simp [castO, encOb, hd]
  | dead =>
    simp only [decOb] at hd
    split at hd
    · rfl
    · cases hd

theorem decObs_cast : ∀ {os ns : List Obj} {y : ObTys os}, decObs os ns = some y → ns.length = os.length ∧ castOs os ns = some (encObs os y)
  | [], [], y, hd => ⟨rfl, by simp [castOs, encObs]⟩
  | [], _ :: _, y, hd => by cases hd
  | o :: os, [], y, hd => by cases hd
  | o :: os, n :: ns, y, hd => by
    simp only [decObs] at hd
    obtain ⟨a, h1, hd⟩ := bind_some hd
    obtain ⟨b, h2, hd⟩ := bind_some hd
    simp at hd; subst hd
    obtain ⟨hl, h3⟩ := decObs_cast h2
    have h4 := decOb_cast h1
    exact ⟨by simp [hl], by simp [castOs, encObs, h3, h4]⟩

/-! ### Calls -/

def KOK (IK : CallK α) (Ti : CallSem) : Prop := ∀ f args objs k x, IK f args objs k = some x → ∃ r, Ti f args objs = some r ∧ k r.1 r.2.1 r.2.2 = some x

theorem pcallK_some {f : FuncId} {args : List V} {sh : Sh} {k : V → Option α} (hk : pcallK T h f args sh k = some x) : ∃ v, pcall T h f args sh = some v ∧ k v = some x := by
  unfold pcallK at hk
  obtain ⟨as, h1, h2⟩ := bind_some hk
  obtain ⟨y, h3, h4⟩ := qb_some h2
  unfold presT at h3
  obtain ⟨v, h3, h5⟩ := bind_some h3
  have h5 := dec_cast sh h5
  cases hc : noRefs args || flatV (enc sh y) with
  | false => rw [hc] at h4; cases h4
  | true =>
    rw [hc] at h4
    exact ⟨enc sh y, by simp [pcall, h1, h3, h5, hc], h4⟩

theorem hqT_some {f : FuncId} {args : List V} {os : List Obj} {sh : Sh} {y : ShTy sh × ObTys os} (hq' : hqT T f args os sh = some y) : ∃ r, T f args os = some r ∧ isNil r.2.2 = true ∧ cast r.1 sh = some (enc sh y.1) ∧ r.2.1.length = os.length ∧ castOs os r.2.1 = some (encObs os y.2) := by
  unfold hqT at hq'
  obtain ⟨r, h1, hq'⟩ := bind_some hq'
  cases hn : isNil r.2.2 with
  | false => rw [hn] at hq'; cases hq'
  | true =>
    rw [hn] at hq'
    simp only [cond_true] at hq'
    obtain ⟨a, h2, hq'⟩ := bind_some hq'
    obtain ⟨b, h3, hq'⟩ := bind_some hq'
    simp at hq'; subst hq'
    obtain ⟨h4, h5⟩ := decObs_cast h3
    exact ⟨r, h1, hn, dec_cast sh h2, h4, h5⟩

theorem hcallSK_some {d : Nat} {f : FuncId} {args : List V} {sh : Sh} {k : V → Eff → Option α} (hk : hcallSK T h d f args sh k = some x) : ∃ r, hcallS T h d f args sh = some r ∧ k r.1 r.2 = some x := by
  unfold hcallSK at hk
  unfold hcallS
  simp only at hk ⊢
  cases hd : distinct (reach h 3 (addNew [] (refsVs args))) with
  | false => rw [hd] at hk; cases hk
  | true =>
    rw [hd] at hk
    simp only [cond_true] at hk ⊢
    obtain ⟨os, h1, h2⟩ := bind_some hk
    obtain ⟨y, h3, h4⟩ := qb_some h2
    obtain ⟨r, h3, hn, h5, hl, h7⟩ := hqT_some h3
    obtain ⟨p, h11, h12⟩ := bind_some h4
    have h9 : (Nat.beq r.2.1.length os.length && isNil r.2.2) = true := by rw [hn, hl]; simp
    exact ⟨p, by rw [h1]; simp only [Option.bind_some]; rw [h3]; simp only [Option.bind_some]; rw [h5]; simp only [Option.bind_some]; rw [h7]; simp only [Option.bind_some]; rw [h9]; exact h11, h12⟩

theorem hcallK_some (hIK : KOK IK Ti) {d : Nat} {f : FuncId} {args : List V} {k : V → Eff → Option α} (hk : hcallK IK h d f args k = some x) : ∃ r, hcall Ti h d f args = some r ∧ k r.1 r.2 = some x := by
  unfold hcallK at hk
  unfold hcall
  simp only at hk ⊢
  cases hd : distinct (reach h 3 (addNew [] (refsVs args))) with
  | false => rw [hd] at hk; cases hk
  | true =>
    rw [hd] at hk
    simp only [cond_true] at hk ⊢
    obtain ⟨os, h1, h2⟩ := bind_some hk
    obtain ⟨r, h3, h4⟩ := hIK _ _ _ _ _ h2
    obtain ⟨p, h11, h12⟩ := bind_some h4
    exact ⟨p, by rw [h1]; simp only [Option.bind_some]; rw [h3]; exact h11, h12⟩

theorem callVK_some (hIK : KOK IK Ti) {d : Nat} {ty : TypeId} {f : V} {args : List V} {k : V → Eff → Option α} (hk : callVK cfg T IK me h d ty f args k = some x) : ∃ r, callV cfg T Ti me h d ty f args = some r ∧ k r.1 r.2 = some x := by
  unfold callVK at hk
  unfold callV
  split at hk
  · rename_i g caps
    cases hm : cfg.hm me g with
    | pure =>
      rw [hm] at hk
      obtain ⟨v, h1, h2⟩ := pcallK_some hk
      exact ⟨(v, .none), by simp only [hm, retH]; rw [h1]; rfl, h2⟩
    | heap =>
      rw [hm] at hk
      obtain ⟨r, h1, h2⟩ := hcallSK_some hk
      exact ⟨r, by simp only [hm]; exact h1, h2⟩
    | inline =>
      rw [hm] at hk
      obtain ⟨r, h1, h2⟩ := hcallK_some hIK hk
      exact ⟨r, by simp only [hm]; exact h1, h2⟩
  · cases hk

/-! ### Operations -/

theorem binIK_some {op : BinOp} {kd : IntKind} {a b : Int} {k : F → Option α} (hk : binIK op kd a b k = some x) : ∃ v, binI op kd a b = some v ∧ k v = some x := by
  unfold binIK at hk
  split at hk
  · obtain ⟨_, h1, h2⟩ := qb_some hk; exact ⟨_, by simp [binI, h1], h2⟩
  · obtain ⟨_, h1, h2⟩ := qb_some hk; exact ⟨_, by simp [binI, h1], h2⟩
  · exact bind_some hk

theorem shfK_some {op : BinOp} {kd : IntKind} {a b : Int} {k : F → Option α} (hk : shfK op kd a b k = some x) : ∃ v, shf op kd a b = some v ∧ k v = some x := by
  unfold shfK at hk
  split at hk
  · obtain ⟨_, h1, h2⟩ := qb_some hk; exact ⟨_, by simp [shf, h1], h2⟩
  · obtain ⟨_, h1, h2⟩ := qb_some hk; exact ⟨_, by simp [shf, h1], h2⟩
  · cases hk

theorem binSK_some {op : BinOp} {a b : ByteArray} {k : F → Option α} (hk : binSK op a b k = some x) : ∃ v, binS op a b = some v ∧ k v = some x := by
  unfold binSK at hk
  split at hk
  · obtain ⟨_, h1, h2⟩ := qb_some hk; exact ⟨_, by simp [binS, h1], h2⟩
  · exact bind_some hk

theorem binK_some {op : BinOp} {ty : TypeId} {cy : Bool} {u v : V} {k : V → Option α} (hk : binK cfg op ty cy u v k = some x) : ∃ r, bin cfg op ty cy u v = some r ∧ k r = some x := by
  unfold binK at hk
  split at hk
  · rename_i kd a kd' b
    simp only [bin]
    cases hs : isShift op with
    | true =>
      rw [hs] at hk
      simp only [cond_true] at hk
      obtain ⟨r, h1, h2⟩ := shfK_some hk
      exact ⟨_, by simp [h1], h2⟩
    | false =>
      rw [hs] at hk
      cases hd : decide (kd = kd') with
      | false => rw [hd] at hk; cases hk
      | true =>
        rw [hd] at hk
        simp only [cond_true, cond_false] at hk
        obtain ⟨r, h1, h2⟩ := binIK_some hk
        exact ⟨_, by simp [h1], h2⟩
  · rename_i a b
    obtain ⟨r, h1, h2⟩ := binSK_some hk
    exact ⟨_, by simp [bin, h1], h2⟩
  · exact bind_some hk

theorem ixAK_some {ty : TypeId} {u i : V} {k : V → Option α} (hk : ixAK cfg h ty u i k = some x) : ∃ r, ixA cfg h ty u i = some r ∧ k r = some x := by
  unfold ixAK at hk
  unfold ixA
  have hk_ := bind_some hk; clear hk; obtain ⟨kd, h1, hk⟩ := hk_
  have hk_ := bind_some hk; clear hk; obtain ⟨n, h2, hk⟩ := hk_
  rw [h1, h2]
  simp only [Option.bind_some]
  split at hk
  · rename_i t k' l
    cases hd : decide (k' = kd) with
    | false => rw [hd] at hk; cases hk
    | true =>
      rw [hd] at hk
      obtain ⟨y, h3, h4⟩ := qb_some hk
      exact ⟨_, by simp only [hd, cond_true, h3, Option.bind_some], h4⟩
  · rename_i id k'
    cases hd : decide (k' = kd) with
    | false => rw [hd] at hk; cases hk
    | true =>
      rw [hd] at hk
      simp only [cond_true] at hk ⊢
      obtain ⟨o, h3, h4⟩ := bind_some hk
      rw [h3]
      simp only [Option.bind_some]
      split at h4
      · rename_i k2 l
        cases hd2 : decide (k2 = k') with
        | false => rw [hd2] at h4; cases h4
        | true =>
          rw [hd2] at h4
          obtain ⟨y, h5, h6⟩ := qb_some h4
          exact ⟨_, by simp only [hd, hd2, cond_true, h5, Option.bind_some], h6⟩
      · cases h4
  · cases hk

theorem ixK_some {ty : TypeId} {u i : V} {k : V → Option α} (hk : ixK cfg ty u i k = some x) : ∃ r, ix cfg ty u i = some r ∧ k r = some x := by
  unfold ixK at hk
  unfold ix
  have hk_ := bind_some hk; clear hk; obtain ⟨t, h1, hk⟩ := hk_
  rw [h1]
  simp only [Option.bind_some]
  split at hk
  · rename_i s hd
    have hk_ := bind_some hk; clear hk; obtain ⟨n, h2, hk⟩ := hk_
    obtain ⟨b, h3, h4⟩ := qb_some hk
    exact ⟨_, by simp [hd, h2, h3], h4⟩
  · cases hk

theorem slcK_some {ty : TypeId} {u : V} {lo hi mx : Option Operand} {k : V → Option α} (hk : slcK cfg fr ty u lo hi mx k = some x) : ∃ r, slc cfg fr ty u lo hi mx = some r ∧ k r = some x := by
  unfold slcK at hk
  have hk_ := bind_some hk; clear hk; obtain ⟨t, h1, hk⟩ := hk_
  have hk_ := bind_some hk; clear hk; obtain ⟨l, h2, hk⟩ := hk_
  have hk_ := bind_some hk; clear hk; obtain ⟨hh, h3, hk⟩ := hk_
  split at hk
  · rename_i s hd
    obtain ⟨p, h4, h5⟩ := qb_some hk
    exact ⟨_, by simp [slc, h1, h2, h3, hd, h4], h5⟩
  · rename_i e t' kd y hd
    cases hdd : decide (t.kind = some kd) with
    | false => rw [hdd] at hk; cases hk
    | true =>
      rw [hdd] at hk
      obtain ⟨p, h4, h5⟩ := qb_some hk
      exact ⟨_, by simp only [slc, h1, h2, h3, Option.bind_some, hd, hdd, cond_true, h4], h5⟩
  · exact bind_some hk

theorem ldK_some {ty : TypeId} {u : V} {k : V → Option α} (hk : ldK cfg h ty u k = some x) : ∃ r, ld cfg h ty u = some r ∧ k r = some x := by
  unfold ldK at hk
  split at hk
  · rename_i id kd j off
    have hk_ := bind_some hk; clear hk; obtain ⟨i, h1, hk⟩ := hk_
    have hk_ := bind_some hk; clear hk; obtain ⟨o, h2, hk⟩ := hk_
    unfold ld
    rw [h1]
    simp only [Option.bind_some]
    rw [h2]
    simp only [Option.bind_some]
    split at hk
    · rename_i wr k' l
      by_cases e : k' = kd
      · subst e
        simp only [dite_true] at hk ⊢
        obtain ⟨y, h3, h4⟩ := qb_some hk
        rw [h3]
        simp only [Option.bind_some]
        cases hb : Nat.ble (off + i.size) (szOf k') with
        | false => rw [hb] at h4; cases h4
        | true =>
          rw [hb] at h4
          exact bind_some h4
      · simp [e] at hk
    · cases hk
  · exact bind_some hk

theorem stK_some {ty : TypeId} {u v : V} {k : Hp → Option α} (hk : stK cfg h ty u v k = some x) : ∃ r, st cfg h ty u v = some r ∧ k r = some x := by
  unfold stK at hk
  split at hk
  · rename_i id kd j off
    have hk_ := bind_some hk; clear hk; obtain ⟨i, h1, hk⟩ := hk_
    have hk_ := bind_some hk; clear hk; obtain ⟨vs, h2, hk⟩ := hk_
    unfold st
    rw [h1]
    simp only [Option.bind_some]
    rw [h2]
    simp only [Option.bind_some]
    cases hl : Nat.beq vs.length i.size with
    | false => rw [hl] at hk; cases hk
    | true =>
      rw [hl] at hk
      simp only [cond_true] at hk ⊢
      have hk_ := bind_some hk; clear hk; obtain ⟨o, h3, hk⟩ := hk_
      rw [h3]
      simp only [Option.bind_some]
      split at hk
      · rename_i k' l
        by_cases e : k' = kd
        · subst e
          simp only [dite_true] at hk ⊢
          obtain ⟨y, h4, h5⟩ := qb_some hk
          rw [h4]
          simp only [Option.bind_some]
          cases hb : Nat.ble (off + i.size) (szOf k') with
          | false => rw [hb] at h5; cases h5
          | true =>
            rw [hb] at h5
            simp only [cond_true] at h5 ⊢
            obtain ⟨fs, h6, h7⟩ := bind_some h5
            obtain ⟨z, h8, h9⟩ := bind_some h7
            exact ⟨_, by rw [h6]; simp only [Option.bind_some]; rw [h8]; rfl, h9⟩
        · simp [e] at hk
      · cases hk
  · exact bind_some hk

theorem isNil_false {β : Type} {l : List β} (hn : isNil l = false) : ∃ y ys, l = y :: ys := by cases l <;> simp [isNil] at hn ⊢

theorem appRowK_some {d : Nat} {kd : Kind} {id : Id} {l xs : List (El kd)} {k : V → Eff → Option α} (hk : appRowK h d kd id l xs k = some x) : ∃ r, appRow h d kd id l xs = some r ∧ k r.1 r.2 = some x := by
  unfold appRowK at hk
  rcases br_some hk with ⟨h1, h2⟩ | ⟨h1, h2⟩
  · obtain rfl := isNil_ok h1
    exact ⟨_, rfl, h2⟩
  · obtain ⟨y, ys, rfl⟩ := isNil_false h1
    unfold appRow
    simp only
    split at h2
    · rename_i h3
      rcases br_some h2 with ⟨h4, h5⟩ | ⟨h4, h5⟩
      · exact ⟨(_, _), by simp only [h3, h4, cond_true], h5⟩
      · cases h5
    · cases h2

theorem appTightK_some {d : Nat} {kd : Kind} {l xs : List (El kd)} {k : V → Eff → Option α} (hk : appTightK d kd l xs k = some x) : ∃ r, appTight d kd l xs = some r ∧ k r.1 r.2 = some x := by
  unfold appTightK at hk
  rcases br_some hk with ⟨h1, h2⟩ | ⟨h1, h2⟩
  · obtain rfl := isNil_ok h1
    exact ⟨_, rfl, h2⟩
  · obtain ⟨y, ys, rfl⟩ := isNil_false h1
    rcases br_some h2 with ⟨h4, h5⟩ | ⟨h4, h5⟩
    · exact ⟨(_, _), by simp only [appTight, h4, cond_true], h5⟩
    · cases h5

theorem appK_some {d : Nat} {kd : Kind} {s u : V} {k : V → Eff → Option α} (hk : appK h d kd s u k = some x) : ∃ r, app h d kd s u = some r ∧ k r.1 r.2 = some x := by
  unfold appK at hk
  have hk_ := bind_some hk; clear hk; obtain ⟨xs, h1, hk⟩ := hk_
  unfold app
  rw [h1]
  simp only [Option.bind_some]
  split at hk
  · rename_i k' l
    by_cases e : k' = kd
    · subst e
      simp only [dite_true] at hk ⊢
      exact appTightK_some hk
    · simp [e] at hk
  · rename_i id k'
    have hk_ := bind_some hk; clear hk; obtain ⟨o, h2, hk⟩ := hk_
    simp only [h2, Option.bind_some]
    split at hk
    · rename_i wr k2 l
      by_cases e : k2 = kd
      · subst e
        simp only [dite_true] at hk ⊢
        cases hn : notRow id u with
        | false => rw [hn] at hk; cases hk
        | true =>
          rw [hn] at hk
          simp only [cond_true] at hk ⊢
          exact appRowK_some hk
      · simp [e] at hk
    · cases hk
  · cases hk

theorem mkK_some {d : Nat} {ty : TypeId} {n c : V} {k : V → Eff → Option α} (hk : mkK cfg d ty n c k = some x) : ∃ r, mk cfg d ty n c = some r ∧ k r.1 r.2 = some x := by
  unfold mkK at hk
  have hk_ := bind_some hk; clear hk; obtain ⟨kd, h1, hk⟩ := hk_
  have hk_ := bind_some hk; clear hk; obtain ⟨n', h2, hk⟩ := hk_
  have hk_ := bind_some hk; clear hk; obtain ⟨c', h3, hk⟩ := hk_
  rcases br_some hk with ⟨h4, h5⟩ | ⟨h4, h5⟩
  · exact ⟨(_, _), by simp only [mk, h1, h2, h3, Option.bind_some, h4, cond_true], h5⟩
  · cases h5

theorem bltK_some {d : Nat} {b : Builtin} {args : List V} {tys : List TypeId} {k : V → Eff → Option α} (hk : bltK cfg h d b args tys k = some x) : ∃ r, blt cfg h d b args tys = some r ∧ k r.1 r.2 = some x := by
  unfold bltK at hk
  split at hk
  · rename_i s u t t2
    have hk_ := bind_some hk; clear hk; obtain ⟨kd, h1, hk⟩ := hk_
    have hk_ := bind_some hk; clear hk; obtain ⟨i, h2, hk⟩ := hk_
    simp only [blt, h1, h2, Option.bind_some]
    cases hs : seqT i.desc u with
    | false => rw [hs] at hk; cases hk
    | true =>
      rw [hs] at hk
      simp only [cond_true] at hk ⊢
      exact appK_some hk
  · exact bind_some hk

theorem aop_noCall {dst : Option Nat} {ty : TypeId} {op : Op} (hc : ∀ c, op = .call c → False) : aop cfg T T me fr h dst ty op = aop cfg T Ti me fr h dst ty op := by
  cases op <;> try (simp only [aop]; done)
  case makeFunc f first caps => cases f <;> simp only [aop]
  case call c => exact (hc c rfl).elim

theorem ofCellsK_some {kd : Kind} {fs : List F} {k : El kd → Option α} (hk : ofCellsK kd fs k = some x) : ∃ y, ofCells kd fs = some y ∧ k y = some x := by
  unfold ofCellsK at hk
  split at hk
  · exact qb_some hk
  · exact bind_some hk

theorem bldSK_some {T : TypeId} {n : Nat} {ps : List (Nat × Operand)} {k : V → Option α} (hk : bldSK cfg fr T n ps k = some x) : ∃ v, bldS cfg fr T n ps = some v ∧ k v = some x := by
  unfold bldSK at hk
  have hk_ := bind_some hk; clear hk; obtain ⟨kd, h1, hk⟩ := hk_
  have hk_ := bind_some hk; clear hk; obtain ⟨e, h2, hk⟩ := hk_
  cases hb : (Nat.beq ps.length n && inOrder 0 ps && Nat.ble (n * szOf kd) 1000) with
  | false => rw [hb] at hk; cases hk
  | true =>
    rw [hb] at hk
    simp only [cond_true] at hk
    have main : ∀ (l : List (Nat × Operand)) (k : List (El kd) → Option α), lmapQ (fun (p : Nat × Operand) k => (evT cfg fr e p.2).bind fun v => (cellsV v).bind fun cs => (lmapM frzC cs).bind fun fs => ofCellsK kd fs k) l k = some x →
        ∃ r, lmapM (fun p : Nat × Operand => (evT cfg fr e p.2).bind fun v => (cellsV v).bind fun cs => (lmapM frzC cs).bind (ofCells kd)) l = some r ∧ k r = some x := by
      intro l
      induction l with
      | nil => intro k h; exact ⟨[], rfl, h⟩
      | cons p l ih =>
        intro k h
        unfold lmapQ at h
        obtain ⟨v, q1, h⟩ := bind_some h
        obtain ⟨cs, q2, h⟩ := bind_some h
        obtain ⟨fs, q3, h⟩ := bind_some h
        obtain ⟨y, q4, h⟩ := ofCellsK_some h
        obtain ⟨r, q5, h⟩ := ih _ h
        exact ⟨y :: r, by simp [lmapM, q1, q2, q3, q4, q5], h⟩
    obtain ⟨r, h3, h4⟩ := main _ _ hk
    exact ⟨.sl true kd r, by unfold bldS; rw [h1, Option.bind_some, h2, Option.bind_some, hb]; simp only [cond_true]; rw [h3]; rfl, h4⟩

theorem aopK_some (hIK : KOK IK Ti) {dst : Option Nat} {ty : TypeId} {op : Op} {k : V → Eff → Option α} (hk : aopK cfg T IK me fr h dst ty op k = some x) : ∃ r, aop cfg T Ti me fr h dst ty op = some r ∧ k r.1 r.2 = some x := by
  unfold aopK at hk
  split at hk
  · rename_i c a b
    have hk_ := bind_some hk; clear hk; obtain ⟨cv, h1, hk⟩ := hk_
    have hk_ := bind_some hk; clear hk; obtain ⟨t, h2, hk⟩ := hk_
    simp only [aop, h1, h2, Option.bind_some]
    rcases br_some hk with ⟨rfl, h3⟩ | ⟨rfl, h3⟩
    · obtain ⟨v, h4, h5⟩ := bind_some h3
      exact ⟨(v, .none), by simp [retH, h4], h5⟩
    · obtain ⟨v, h4, h5⟩ := bind_some h3
      exact ⟨(v, .none), by simp [retH, h4], h5⟩
  · rename_i t a
    have hk_ := bind_some hk; clear hk; obtain ⟨av, h1, hk⟩ := hk_
    obtain ⟨v, h2, h3⟩ := ldK_some hk
    exact ⟨(v, .none), by simp [aop, h1, retH, h2], h3⟩
  · rename_i t a y
    have hk_ := bind_some hk; clear hk; obtain ⟨av, h1, hk⟩ := hk_
    have hk_ := bind_some hk; clear hk; obtain ⟨yv, h2, hk⟩ := hk_
    obtain ⟨h', h3, h4⟩ := stK_some hk
    exact ⟨_, by simp [aop, h1, h2, h3]; rfl, h4⟩
  · rename_i op t a b q
    have hk_ := bind_some hk; clear hk; obtain ⟨av, h1, hk⟩ := hk_
    have hk_ := bind_some hk; clear hk; obtain ⟨bv, h2, hk⟩ := hk_
    obtain ⟨v, h3, h4⟩ := binK_some hk
    exact ⟨(v, .none), by simp [aop, h1, h2, retH, h3], h4⟩
  · rename_i t n c
    have hk_ := bind_some hk; clear hk; obtain ⟨d, h0, hk⟩ := hk_
    have hk_ := bind_some hk; clear hk; obtain ⟨nv, h1, hk⟩ := hk_
    have hk_ := bind_some hk; clear hk; obtain ⟨cv, h2, hk⟩ := hk_
    obtain ⟨r, h3, h4⟩ := mkK_some hk
    exact ⟨r, by simp [aop, h0, h1, h2, h3], h4⟩
  · rename_i t n ps
    obtain ⟨v, h1, h2⟩ := bldSK_some hk
    exact ⟨(v, .none), by simp [aop, retH, h1], h2⟩
  · rename_i t y lo hi mx
    have hk_ := bind_some hk; clear hk; obtain ⟨yv, h1, hk⟩ := hk_
    obtain ⟨v, h2, h3⟩ := slcK_some hk
    exact ⟨(v, .none), by simp [aop, h1, retH, h2], h3⟩
  · rename_i t y i
    have hk_ := bind_some hk; clear hk; obtain ⟨yv, h1, hk⟩ := hk_
    have hk_ := bind_some hk; clear hk; obtain ⟨iv, h2, hk⟩ := hk_
    obtain ⟨v, h3, h4⟩ := ixAK_some hk
    exact ⟨(v, .none), by simp [aop, h1, h2, retH, h3], h4⟩
  · rename_i t y i
    have hk_ := bind_some hk; clear hk; obtain ⟨yv, h1, hk⟩ := hk_
    have hk_ := bind_some hk; clear hk; obtain ⟨iv, h2, hk⟩ := hk_
    obtain ⟨v, h3, h4⟩ := ixK_some hk
    exact ⟨(v, .none), by simp [aop, h1, h2, retH, h3], h4⟩
  · rename_i c
    have hk_ := bind_some hk; clear hk; obtain ⟨d, h0, hk⟩ := hk_
    have hk_ := bind_some hk; clear hk; obtain ⟨args, h1, hk⟩ := hk_
    simp only [aop, h0, h1, Option.bind_some]
    split at hk
    · rename_i f hc
      have hk_ := bind_some hk; clear hk; obtain ⟨fv, h2, hk⟩ := hk_
      obtain ⟨r, h3, h4⟩ := callVK_some hIK hk
      exact ⟨r, by simp [hc, h2, h3], h4⟩
    · rename_i b hc
      obtain ⟨r, h3, h4⟩ := bltK_some hk
      exact ⟨r, by simp [hc, h3], h4⟩
    · cases hk
  · rename_i op h1 h2 h3 h4 h5 h6 h7 h8 h9 h9b
    obtain ⟨r, h10, h11⟩ := bind_some hk
    exact ⟨r, by rw [← aop_noCall (T := T) (fun c hc => h9b c hc)]; exact h10, h11⟩

/-! ### Regions -/

theorem applyK_some {e : Eff} {k : Hp → Option α} (hk : applyK h e k = some x) : ∃ h', applyE h e = some h' ∧ k h' = some x := by
  cases e with
  | none => exact ⟨h, rfl, hk⟩
  | heap h' => exact ⟨h', rfl, hk⟩
  | put i o =>
    simp only [applyK] at hk
    simp only [applyE]
    cases hi : h i with
    | none => rw [hi] at hk; exact ⟨_, rfl, forceO_some hk⟩
    | some y => rw [hi] at hk; cases hk

theorem putK_some {dst : Option Nat} {v : V} {k : Fr → Option α} (hk : putK nt fr dst v k = some x) : ∃ fr', putD nt fr dst v = some fr' ∧ k fr' = some x := by
  cases dst with
  | none => exact ⟨fr, rfl, hk⟩
  | some d =>
    simp only [putK] at hk
    simp only [putD]
    cases hb : Nat.blt d nt with
    | false => rw [hb] at hk; cases hk
    | true => rw [hb] at hk; exact ⟨_, rfl, forceV_some (k := fun v' => k (upd fr d v')) hk⟩

theorem upd_same {t : Nat} {v : V} (hv : fr t = v) : upd fr t v = fr := by
  funext s
  by_cases hs : s = t
  · subst hs; rw [upd_self, hv]
  · rw [upd_ne _ _ hs]

theorem guardK_some {ops : List Oper} {g : Option (Nat × Bool)} {k : Fr → Bool → Option α} (hk : guardK fr ops g k = some x) : ∃ b, guardA fr ops g = some b ∧ k fr b = some x := by
  cases g with
  | none => exact ⟨true, rfl, hk⟩
  | some p =>
    obtain ⟨j, want⟩ := p
    simp only [guardK] at hk
    simp only [guardA]
    have hk_ := bind_some hk; clear hk; obtain ⟨t, h1, hk⟩ := hk_
    rw [h1]
    simp only [Option.bind_some]
    split at hk
    · rename_i b hfr
      rcases br_some hk with ⟨rfl, h2⟩ | ⟨rfl, h2⟩
      · rw [upd_same hfr] at h2
        exact ⟨want, by rw [hfr]; cases want <;> rfl, h2⟩
      · rw [upd_same hfr] at h2
        exact ⟨!want, by rw [hfr]; cases want <;> rfl, h2⟩
    · rename_i hfr
      exact ⟨false, by rw [hfr], hk⟩
    · cases hk

theorem stepOK_some (hIK : KOK IK Ti) {ops : List Oper} {o : Oper} {k : Fr → Hp → Option α} (hk : stepOK cfg T IK me nt ops o fr h k = some x) : ∃ s, stepO cfg T Ti me nt ops o ⟨fr, h⟩ = some s ∧ k s.fr s.h = some x := by
  unfold stepOK at hk
  have hk_ := guardK_some hk; clear hk; obtain ⟨g, h1, hk⟩ := hk_
  simp only [stepO, h1, Option.bind_some]
  cases g with
  | true =>
    simp only [cond_true] at hk ⊢
    have hk_ := aopK_some hIK hk; clear hk; obtain ⟨r, h2, hk⟩ := hk_
    have hk_ := applyK_some hk; clear hk; obtain ⟨h', h3, hk⟩ := hk_
    have hk_ := putK_some hk; clear hk; obtain ⟨fr', h4, hk⟩ := hk_
    exact ⟨⟨fr', h'⟩, by rw [h2]; simp only [Option.bind_some]; rw [h3]; simp only [Option.bind_some]; rw [h4]; rfl, hk⟩
  | false =>
    simp only [cond_false] at hk ⊢
    have hk_ := putK_some hk; clear hk; obtain ⟨fr', h4, hk⟩ := hk_
    exact ⟨⟨fr', h⟩, by rw [h4]; rfl, hk⟩

theorem runOpsK_some (hIK : KOK IK Ti) {ops : List Oper} : ∀ {l : List Oper} {fr : Fr} {h : Hp} {k : Fr → Hp → Option α}, runOpsK cfg T IK me nt ops l fr h k = some x → ∃ s, runOps cfg T Ti me nt ops l ⟨fr, h⟩ = some s ∧ k s.fr s.h = some x
  | [], fr, h, k, hk => ⟨⟨fr, h⟩, rfl, hk⟩
  | o :: l, fr, h, k, hk => by
    unfold runOpsK at hk
    have hk_ := stepOK_some hIK hk; clear hk; obtain ⟨s, h1, hk⟩ := hk_
    have hk_ := runOpsK_some hIK hk; clear hk; obtain ⟨s', h2, hk⟩ := hk_
    exact ⟨s', by simp only [runOps, h1, Option.bind_some]; exact h2, hk⟩

theorem stepDK_some (hIK : KOK IK Ti) {dl : List Id} {ops : List Oper} {c : Cls} {o : Oper} {k : Fr → Hp → Hp → Option α} (hk : stepDK cfg T IK me nt dl ops c o fr h hr k = some x) : ∃ s, stepD cfg T Ti me nt dl ops c o ⟨fr, h, hr⟩ = some s ∧ k s.fr s.h s.hr = some x := by
  unfold stepDK at hk
  have hk_ := guardK_some hk; clear hk; obtain ⟨g, h1, hk⟩ := hk_
  simp only [stepD, h1, Option.bind_some]
  cases g with
  | true =>
    simp only [cond_true] at hk ⊢
    cases hok : okD dl c fr o.op with
    | false => rw [hok] at hk; cases hk
    | true =>
      rw [hok] at hk
      simp only [cond_true] at hk ⊢
      have hk_ := aopK_some hIK hk; clear hk; obtain ⟨r, h2, hk⟩ := hk_
      cases hq : (c.isW || quietE r.2) with
      | false => rw [hq] at hk; cases hk
      | true =>
        rw [hq] at hk
        simp only [cond_true] at hk
        have hk_ := applyK_some hk; clear hk; obtain ⟨h', h3, hk⟩ := hk_
        have hk_ := putK_some hk; clear hk; obtain ⟨fr', h4, hk⟩ := hk_
        exact ⟨⟨fr', h', nextHr c fr o.op h' hr⟩, by rw [h2]; simp only [Option.bind_some, hq, cond_true]; rw [h3]; simp only [Option.bind_some]; rw [h4]; rfl, hk⟩
  | false =>
    simp only [cond_false] at hk ⊢
    have hk_ := putK_some hk; clear hk; obtain ⟨fr', h4, hk⟩ := hk_
    exact ⟨⟨fr', h, hr⟩, by rw [h4]; rfl, hk⟩

theorem runDK_some (hIK : KOK IK Ti) {dl : List Id} {ops : List Oper} : ∀ {l : List Oper} {i : Nat} {fr : Fr} {h hr : Hp} {k : Fr → Hp → Option α}, runDK cfg T IK me nt dl ops i l fr h hr k = some x → ∃ s, runD cfg T Ti me nt dl ops i l ⟨fr, h, hr⟩ = some s ∧ k s.fr s.h = some x
  | [], i, fr, h, hr, k, hk => ⟨⟨fr, h, hr⟩, rfl, hk⟩
  | o :: l, i, fr, h, hr, k, hk => by
    unfold runDK at hk
    have hk_ := stepDK_some hIK hk; clear hk; obtain ⟨s, h1, hk⟩ := hk_
    have hk_ := runDK_some hIK hk; clear hk; obtain ⟨s', h2, hk⟩ := hk_
    exact ⟨s', by simp only [runD, h1, Option.bind_some]; exact h2, hk⟩

theorem regionK_some (hIK : KOK IK Ti) {id : Nat} {ops : Array Oper} {draw : Bool} {k : Fr → Hp → Option α} (hk : regionK cfg T IK me nt id ops draw fr h k = some x) : ∃ s, region cfg T Ti me nt id ops draw ⟨fr, h⟩ = some s ∧ k s.fr s.h = some x := by
  unfold regionK at hk
  unfold region
  cases draw with
  | false => exact runOpsK_some hIK hk
  | true =>
    simp only [cond_true] at hk ⊢
    cases hd : drawOk cfg me ops with
    | false => rw [hd] at hk; cases hk
    | true =>
      rw [hd] at hk
      have hk_ := runDK_some hIK hk; clear hk; obtain ⟨s, h1, hk⟩ := hk_
      exact ⟨⟨s.fr, s.h⟩, by simp only [cond_true]; rw [h1]; rfl, hk⟩

/-! ### Code -/

theorem cOf_unC {v : V} {c : C} (h : unC v = some c) : cOf v = c := by
  cases v <;> simp [unC] at h
  subst h; rfl

theorem enc_cell {s : Sh} {c : C} {y : ShTy s} (hd : dec s (.c c) = some y) : unC (enc s y) = some (cOf (enc s y)) := by
  cases s with
  | raw => simp [dec] at hd; subst hd; rfl
  | el kd => simp [dec, gEl] at hd
  | cert => simp [dec, gCert] at hd
  | client => simp [dec, gClient] at hd
  | server => simp [dec, gServer] at hd
  | world => simp [dec, gWorld] at hd
  | tup l => simp [dec, gTup] at hd
  | _ => simp [enc, unC, cOf]

theorem decBx_cast : ∀ {l : List Sh} {cs : List C} {y : ShTys l} (pre : List C), decBx l cs = some y → cs.length = l.length ∧ castBox (pre ++ cs) pre.length l = some ((encs l y).map cOf)
  | [], [], y, pre, hd => ⟨rfl, by simp [castBox, encs]⟩
  | [], _ :: _, y, pre, hd => by cases hd
  | s :: l, [], y, pre, hd => by cases hd
  | s :: l, c :: cs, y, pre, hd => by
    simp only [decBx] at hd
    obtain ⟨a, h1, hd⟩ := bind_some hd
    obtain ⟨b, h2, hd⟩ := bind_some hd
    simp at hd; subst hd
    obtain ⟨hl, h3⟩ := decBx_cast (pre ++ [c]) h2
    have h4 := dec_cast s h1
    have h5 := enc_cell h1
    have h6 : (pre ++ c :: cs)[pre.length]? = some c := by simp
    have h7 : pre ++ c :: cs = pre ++ [c] ++ cs := by simp
    have h8 : (pre ++ [c]).length = pre.length + 1 := by simp
    rw [h8, ← h7] at h3
    exact ⟨by simp [hl], by simp only [castBox, h6, Option.bind_some, h4, h5, h3, encs, List.map_cons]⟩

theorem decOsh_cast {o : Obj} {s : OSh} {y : OshTy s} (hd : decOsh s o = some y) : castObj o s = some (encOsh s y) := by
  cases s with
  | box l =>
    simp only [decOsh, gBox_eq] at hd
    obtain ⟨cs, h1, h2⟩ := bind_some hd
    obtain ⟨hl, h3⟩ := decBx_cast [] h2
    simp only [List.nil_append, List.length_nil] at h3
    have h5 : Nat.beq cs.length l.length = true := by rw [hl]; simp
    simp only [castObj, encOsh, h1, Option.bind_some, h3, h5, cond_true]
  | row w kd =>
    simp only [decOsh, gRowO_eq] at hd
    simp [castObj, encOsh, hd]
  | recd s =>
    simp only [decOsh, gBox_eq] at hd
    obtain ⟨cs, h1, h2⟩ := bind_some hd
    have h3 := dec_cast s h2
    have h4 : asAggC (enc s y) = some (aggOf (enc s y)) := by
      cases s with
      | raw => simp [dec] at h2; subst h2; rfl
      | tup l => simp [dec, gTup] at h2
      | el kd => rfl
      | cert => rfl
      | client => rfl
      | server => rfl
      | world => rfl
      | _ => simp [dec, gC] at h2
    simp only [castObj, encOsh, h1, Option.bind_some, h3, h4]

theorem decOs_cast : ∀ {l : List (Id × OSh)} {y : OsTys l}, decOs l h = some y → castObjs h l = some (encOs l y)
  | [], y, hd => by simp [castObjs, encOs]
  | p :: l, y, hd => by
    simp only [decOs] at hd
    obtain ⟨o, h1, hd⟩ := bind_some hd
    obtain ⟨a, h2, hd⟩ := bind_some hd
    obtain ⟨b, h3, hd⟩ := bind_some hd
    simp at hd; subst hd
    have h4 := decOsh_cast h2
    have h5 := decOs_cast h3
    simp [castObjs, encOs, h1, h4, h5]

theorem decSl_cast : ∀ {l : List (Nat × Sh)} {y : SlTys l}, decSl l fr = some y → castSlots fr l = some (encSl l y)
  | [], y, hd => by simp [castSlots, encSl]
  | p :: l, y, hd => by
    simp only [decSl] at hd
    obtain ⟨a, h2, hd⟩ := bind_some hd
    obtain ⟨b, h3, hd⟩ := bind_some hd
    simp at hd; subst hd
    have h4 := dec_cast p.2 h2
    have h5 := decSl_cast h3
    simp [castSlots, encSl, h4, h5]

theorem exIds_some {e : Ex} {k : Ex → Option α} : ∀ {l : List Nat}, exIds e k l = some x → k e = some x
  | [], hk => by cases hk
  | i :: l, hk => by
    unfold exIds at hk
    rcases br_some hk with ⟨h1, h2⟩ | ⟨h1, h2⟩
    · cases e with
      | ext j =>
        simp only [isExt] at h1
        rw [Nat.eq_of_beq_eq_true h1]
        exact h2
      | nrm => cases h1
      | ret => cases h1
    · exact exIds_some h2

theorem aexecK_some (hIK : KOK IK Ti) {n : Nat} : ∀ (c : Code) {fr : Fr} {h : Hp} {k : Ex → Fr → Hp → Option α}, aexecK cfg T Ti IK me nt na n c fr h k = some x → ∃ r, aexec cfg T Ti me nt na n c ⟨fr, h⟩ = some r ∧ k r.1 r.2.fr r.2.h = some x
  | .skip, fr, h, k, hk => ⟨(.nrm, ⟨fr, h⟩), rfl, hk⟩
  | .region id ops draw, fr, h, k, hk => by
    unfold aexecK at hk
    have hk_ := regionK_some hIK hk; clear hk; obtain ⟨s, h1, hk⟩ := hk_
    exact ⟨(.nrm, s), by simp [aexec, h1], hk⟩
  | .seq a b, fr, h, k, hk => by
    unfold aexecK at hk
    have hk_ := aexecK_some hIK a hk; clear hk; obtain ⟨⟨e, s⟩, h1, hk⟩ := hk_
    simp only at hk
    cases e with
    | nrm =>
      have hk_ := aexecK_some hIK b hk; clear hk; obtain ⟨r, h2, hk⟩ := hk_
      exact ⟨r, by simp only [aexec, h1, Option.bind_some, isN, cond_true]; exact h2, hk⟩
    | ext id => exact ⟨(.ext id, s), by simp [aexec, h1, isN], hk⟩
    | ret => exact ⟨(.ret, s), by simp [aexec, h1, isN], hk⟩
  | .cond c a b, fr, h, k, hk => by
    have fin : ∀ v t, ev fr c = some v → asB v = some t → (∃ r, (bif t then aexec cfg T Ti me nt na n a ⟨fr, h⟩ else aexec cfg T Ti me nt na n b ⟨fr, h⟩) = some r ∧ k r.1 r.2.fr r.2.h = some x) → ∃ r, aexec cfg T Ti me nt na n (.cond c a b) ⟨fr, h⟩ = some r ∧ k r.1 r.2.fr r.2.h = some x := by
      rintro v t h1 h2 ⟨r, h3, h4⟩
      exact ⟨r, by simp only [aexec, h1, h2, Option.bind_some]; exact h3, h4⟩
    unfold aexecK at hk
    split at hk
    · rename_i t
      have hk_ := bind_some hk; clear hk; obtain ⟨t', h1, hk⟩ := hk_
      have hft : fr t = .bool t' := by
        unfold asB at h1
        split at h1
        · rename_i b hfr; simp at h1; subst h1; exact hfr
        · cases h1
      refine fin (fr t) t' rfl h1 ?_
      rcases br_some hk with ⟨rfl, h2⟩ | ⟨rfl, h2⟩
      · rw [upd_same hft] at h2
        exact aexecK_some hIK a h2
      · rw [upd_same hft] at h2
        exact aexecK_some hIK b h2
    · obtain ⟨v, h1, hk⟩ := bind_some hk
      have hk_ := bind_some hk; clear hk; obtain ⟨t, h2, hk⟩ := hk_
      refine fin v t h1 h2 ?_
      rcases br_some hk with ⟨rfl, h3⟩ | ⟨rfl, h3⟩
      · exact aexecK_some hIK a h3
      · exact aexecK_some hIK b h3
  | .block id b, fr, h, k, hk => by
    unfold aexecK at hk
    have hk_ := aexecK_some hIK b hk; clear hk; obtain ⟨r, h1, hk⟩ := hk_
    exact ⟨(leave id r.1, r.2), by simp [aexec, h1], hk⟩
  | .loop b, fr, h, k, hk => by
    unfold aexecK at hk
    simp only at hk
    have hk_ := bind_some hk; clear hk; obtain ⟨s, h1, hk⟩ := hk_
    have hk_ := qb_some hk; clear hk; obtain ⟨y, h2, hk⟩ := hk_
    unfold loopT at h2
    obtain ⟨r, h2', g3⟩ := bind_some h2
    clear h2
    have h2 := h2'
    obtain ⟨a, g4, g5⟩ := bind_some g3
    obtain ⟨b', g6, g7⟩ := bind_some g5
    simp at g7; subst g7
    have h3 := decSl_cast g4
    have h4 := decOs_cast g6
    cases hc : distinct ((cfg.lh me (firstRegion b)).osh.map (·.1)) && allIn ((cfg.lh me (firstRegion b)).osh.map (·.1)) ((List.range na).map Id.arg) with
    | false => rw [hc] at hk; cases hk
    | true =>
      rw [hc] at hk
      simp only [cond_true] at hk
      refine ⟨(r.1, ⟨frOf ((encSl _ a).map fun p => (p.1, renV (idMap (cfg.lh me (firstRegion b)).osh) p.2)), hpIds ((encOs _ b').map fun p => (p.1, renO (idMap (cfg.lh me (firstRegion b)).osh) p.2))⟩), ?_, ?_⟩
      · simp only [aexec, h1, Option.bind_some]
        rw [h2]
        simp only [Option.bind_some, castSt]
        rw [h3]
        simp only [Option.bind_some]
        rw [h4]
        simp only [Option.bind_some]
        rw [hc]
        rfl
      · rcases br_some hk with ⟨h5, h6⟩ | ⟨h5, h6⟩
        · cases hr1 : r.1 with
          | ret => exact h6
          | nrm => rw [hr1] at h5; cases h5
          | ext j => rw [hr1] at h5; cases h5
        · exact exIds_some h6
  | .exit id, fr, h, k, hk => ⟨(.ext id, ⟨fr, h⟩), rfl, hk⟩
  | .ret, fr, h, k, hk => ⟨(.ret, ⟨fr, h⟩), rfl, hk⟩
  | .goto l, fr, h, k, hk => by simp [aexecK] at hk
  | .label l, fr, h, k, hk => by simp [aexecK] at hk

theorem bodyK_some (hIK : KOK IK Ti) {n f : Nat} {fn : Func} {c : Code} {args : List V} {objs : List Obj} {k : V → List Obj → List Obj → Option α} (hk : bodyK cfg T Ti IK n f fn c args objs k = some x) :
    ∃ r, bodyA cfg T Ti n f fn c args objs = some r ∧ k r.1 r.2.1 r.2.2 = some x := by
  unfold bodyK at hk
  unfold bodyA
  cases hle : Nat.ble args.length fn.ntmps with
  | false => rw [hle] at hk; cases hk
  | true =>
    rw [hle] at hk
    simp only [cond_true] at hk ⊢
    have hk_ := aexecK_some hIK c hk; clear hk; obtain ⟨⟨e, s⟩, h1, hk⟩ := hk_
    rw [h1]
    simp only [Option.bind_some] at hk ⊢
    cases e with
    | ext id => cases hk
    | nrm =>
      simp only at hk ⊢
      have hk_ := bind_some hk; clear hk; obtain ⟨vs, h2, hk⟩ := hk_
      have hk_ := bind_some hk; clear hk; obtain ⟨r, h3, hk⟩ := hk_
      exact ⟨r, by rw [h2]; exact h3, forceV_some hk⟩
    | ret =>
      simp only at hk ⊢
      have hk_ := bind_some hk; clear hk; obtain ⟨vs, h2, hk⟩ := hk_
      have hk_ := bind_some hk; clear hk; obtain ⟨r, h3, hk⟩ := hk_
      exact ⟨r, by rw [h2]; exact h3, forceV_some hk⟩

end

theorem runK_some {α : Type} {P : Program} {cfg : Cfg} {T : CallSem} {n : Nat} : ∀ d, KOK (runK (α := α) P cfg T n d) (runI P cfg T n d)
  | 0 => fun f args objs k x hk => by simp [runK] at hk
  | d + 1 => fun f args objs k x hk => by
    simp only [runK] at hk
    simp only [runI]
    split at hk
    · rename_i g hg
      obtain ⟨r, h1, h2⟩ := qb_some hk
      exact ⟨r, h1, h2⟩
    · split at hk
      · rename_i fn hfn
        split at hk
        · rename_i c hb
          exact bodyK_some (runK_some d) hk
        · cases hk
      · cases hk

/-- One function over the others' answers: it answers. -/
theorem rn_of_resid {P : Program} {cfg : Cfg} {n : Nat} {f : FuncId} {args : List V} {objs : List Obj} {r : V × List Obj × List Obj} (h : resid P cfg (rn P cfg) n f args objs = some r) : rn P cfg f args objs = some r := by
  unfold resid at h
  obtain ⟨q, h1, h2⟩ := runK_some 6 f args objs _ _ h
  simp at h2
  rw [← h2]
  exact rn_of_runI h1

/-- The same, as plain data. -/
theorem presT_of {P : Program} {cfg : Cfg} {n : Nat} {f : FuncId} {args : List V} {sh : Sh} {y : ShTy sh} (h : residT P cfg (rn P cfg) n f args sh = some y) : presT (rn P cfg) f args sh = some y := by
  unfold residT at h
  obtain ⟨q, h1, h2⟩ := runK_some 6 f args [] _ _ h
  obtain ⟨v, h3, h4⟩ := bind_some h2
  unfold presT pres
  rw [rn_of_runI h1]
  simp only [Option.bind_some]
  rw [h3]
  exact h4

theorem hqT_of {P : Program} {cfg : Cfg} {n : Nat} {f : FuncId} {args : List V} {objs : List Obj} {sh : Sh} {y : ShTy sh × ObTys objs} (h : residH P cfg (rn P cfg) n f args objs sh = some y) : hqT (rn P cfg) f args objs sh = some y := by
  unfold residH at h
  obtain ⟨q, h1, h2⟩ := runK_some 6 f args objs _ _ h
  unfold hqT hq
  rw [rn_of_runI h1]
  exact h2

end Go.Vm

namespace Go.Vm
set_option linter.unusedVariables false
set_option linter.unusedSimpArgs false

def lookK (ks : List (TypeId × Kind)) (t : TypeId) : Option Kind :=
  match ks with
  | [] => none
  | (s, k) :: r => bif Nat.beq s t then some k else lookK r t

/-- What each cell of a type is: a slice of some kind, or none. -/
def flatK (P : Program) (ks : List (TypeId × Kind)) : Nat → TypeId → List (Option Kind)
  | 0, _ => []
  | n + 1, t => match P.underlying t with
    | some (.struct fs) => fs.toList.flatMap fun f => flatK P ks n f.type
    | some (.slice _) => [lookK ks t]
    | _ => [none]

def zeroC : Value → Option Kind → C
  | .bool b, _ => .f (.sc (.bool b))
  | .int k n, _ => .f (.sc (.int k n))
  | .string s, _ => .f (.sc (.string s))
  | .slice none 0 0, some k => .f (.sl true k [])
  | .nilIface, _ => .f (.sc .nilIface)
  | _, _ => .hole

def zeroCs : List Value → List (Option Kind) → List C
  | [], _ => []
  | v :: vs, [] => zeroC v none :: zeroCs vs []
  | v :: vs, k :: ks => zeroC v k :: zeroCs vs ks

def kinOk (P : Program) : TypeDesc → Option Kind → Bool
  | .slice e, some k => match P.info? e with
    | some x => match x.zero with
      | some z => Nat.beq x.size (szOf k) && zms z.cells.toList ((cellsOf k (zeroEl k)).map fun f => match f with | .sl _ q _ => .f (.sl true q []) | f => .f f) && Nat.blt 0 x.bytes && Nat.ble x.bytes 1000
      | none => false
    | none => false
  | _, _ => true

def fldOk (P : Program) : TypeDesc → Bool
  | .struct fs => fs.toList.all fun f => (P.info? f.type).isSome
  | _ => true

def kindD (ks : List (TypeId × Kind)) (t : TypeId) : TypeDesc → Option Kind
  | .slice _ => lookK ks t
  | _ => none

def tbOf (P : Program) (ks : List (TypeId × Kind)) (t : TypeId) : Option TI :=
  match P.underlying t with
  | some d => match P.info? t with
    | some x => match x.zero with
      | some z => bif zms z.cells.toList (zeroCs z.cells.toList (flatK P ks 6 t)) && kinOk P d (kindD ks t d) && fldOk P d then
          some ⟨d, x.size, x.bytes, z, zeroCs z.cells.toList (flatK P ks 6 t), kindD ks t d⟩ else none
      | none => none
    | none => none
  | none => none

def eqOf (P : Program) (es : List TypeId) (t : TypeId) : Bool := es.contains t && !(P.eqGuardType P.depth t) && !(P.stoodInHeld t)

theorem tbOf_some {P : Program} {ks : List (TypeId × Kind)} {t : TypeId} {i : TI} (h : tbOf P ks t = some i) :
    ∃ x, P.underlying t = some i.desc ∧ P.info? t = some x ∧ x.zero = some i.zv ∧ x.size = i.size ∧ x.bytes = i.bytes ∧ zms i.zv.cells.toList i.zero = true ∧ i.kind = kindD ks t i.desc ∧ kinOk P i.desc i.kind = true ∧ fldOk P i.desc = true := by
  unfold tbOf at h
  split at h
  · rename_i d hd
    split at h
    · rename_i x hx
      split at h
      · rename_i z hz
        cases hc : zms z.cells.toList (zeroCs z.cells.toList (flatK P ks 6 t)) && kinOk P d (kindD ks t d) && fldOk P d with
        | false => rw [hc] at h; cases h
        | true =>
          rw [hc] at h
          simp only [cond_true, Option.some.injEq] at h
          subst h
          simp only [Bool.and_eq_true] at hc
          exact ⟨x, hd, hx, hz, rfl, rfl, hc.1.1, rfl, hc.1.2, hc.2⟩
      · cases h
    · cases h
  · cases h

theorem tabOK_of {P : Program} {cfg : Cfg} {ks : List (TypeId × Kind)} {es : List TypeId} (htb : cfg.tb = tbOf P ks) (heq : cfg.eqT = eqOf P es) : TabOK P cfg := by
  refine ⟨?_, ?_, ?_, ?_, ?_, ?_⟩
  · intro t i h; rw [htb] at h; obtain ⟨x, h1, _⟩ := tbOf_some h; exact h1
  · intro t i h; rw [htb] at h; obtain ⟨x, h1, h2, h3, h4, h5, _⟩ := tbOf_some h; exact ⟨x, h2, h3, h4, h5⟩
  · intro t i h; rw [htb] at h; obtain ⟨x, h1, h2, h3, h4, h5, h6, _⟩ := tbOf_some h; exact h6
  · intro t i k e h hd hk
    rw [htb] at h
    obtain ⟨x, h1, h2, h3, h4, h5, h6, h7, h8, h9⟩ := tbOf_some h
    rw [hd, hk] at h8
    unfold kinOk at h8
    simp only at h8
    split at h8
    · rename_i y hy
      split at h8
      · rename_i z hz
        simp only [Bool.and_eq_true] at h8
        refine ⟨y, z, hy, hz, Nat.eq_of_beq_eq_true h8.1.1.1, h8.1.1.2, ?_, Nat.le_of_ble_eq_true h8.2⟩
        have := h8.1.2
        simp [Nat.blt] at this
        omega
      · cases h8
    · cases h8
  · intro t i fs h hd f hf
    rw [htb] at h
    obtain ⟨x, h1, h2, h3, h4, h5, h6, h7, h8, h9⟩ := tbOf_some h
    rw [hd] at h9
    unfold fldOk at h9
    rw [List.all_eq_true] at h9
    exact Option.isSome_iff_exists.1 (h9 f hf)
  · intro t h
    rw [heq] at h
    simp only [eqOf, Bool.and_eq_true, Bool.not_eq_true'] at h
    exact ⟨h.1.2, h.2⟩

def namesOk (P : Program) : Bool := P.funcs.all fun fn => !(fn.name == "runtime.NumGoroutine")

theorem names_of {P : Program} (h : namesOk P = true) : ∀ (f : FuncId) (fn : Func), P.funcs[f]? = some fn → (fn.name == "runtime.NumGoroutine") = false := by
  intro f fn hf
  unfold namesOk at h
  rw [Array.all_eq_true_iff_forall_mem] at h
  have := h fn (Array.mem_of_getElem? hf)
  simpa using this

end Go.Vm

namespace Go.Vm
variable {G : Gl}
set_option linter.unusedVariables false
set_option linter.unusedSimpArgs false

inductive Leaf where
  | int | u8 | str | bool
  | sl (k : Kind)
  deriving DecidableEq

def leavesOf : Kind → List Leaf
  | .int => [.int]
  | .byte => [.u8]
  | .str => [.str]
  | .term => [.int, .int, .str, .sl .term]
  | .policy => [.str, .int, .sl .str, .int]
  | .letter => [.str, .int, .int, .int, .int]
  | .note => [.int, .int, .str, .int, .int]
  | .host => [.str, .int, .bool]
  | .call => [.int, .int, .str, .bool, .int, .int, .int, .int, .str, .sl .term, .int, .int, .bool, .bool, .bool]
  | .talk => [.int, .int, .str, .int, .int, .int, .int, .str, .sl .term, .int, .int, .str, .sl .term, .int, .int, .bool, .sl .int]
  | .deed => [.int, .int, .str, .int, .int, .str, .sl .term]
  | .terms => [.sl .term]
  | .world => [.int, .int, .sl .term, .sl .policy, .sl .host, .sl .letter, .str, .int, .sl .call, .sl .talk, .sl .int]

def Fit : Leaf → F → Prop
  | .int, f => ∃ n : Int, f = .sc (.int .i64 n)
  | .u8, f => ∃ b : UInt8, f = .sc (.int .u8 b.toNat)
  | .str, f => ∃ s : ByteArray, f = .sc (.string s)
  | .bool, f => ∃ b : Bool, f = .sc (.bool b)
  | .sl k, f => ∃ (t : Bool) (l : List (El k)), f = .sl t k l

def Fits : List Leaf → List F → Prop
  | [], [] => True
  | a :: l, f :: fs => Fit a f ∧ Fits l fs
  | _, _ => False

theorem Fits.cons {a : Leaf} {l : List Leaf} {fs : List F} (h : Fits (a :: l) fs) : ∃ f r, fs = f :: r ∧ Fit a f ∧ Fits l r := by
  cases fs with
  | nil => exact h.elim
  | cons f r => exact ⟨f, r, rfl, h.1, h.2⟩

theorem Fits.nil {fs : List F} (h : Fits [] fs) : fs = [] := by
  cases fs with
  | nil => rfl
  | cons f r => exact h.elim

theorem Fits.append : ∀ {a b : List Leaf} {fs gs : List F}, Fits a fs → Fits b gs → Fits (a ++ b) (fs ++ gs)
  | [], b, [], gs, _, h2 => h2
  | [], b, _ :: _, gs, h1, _ => h1.elim
  | _ :: _, b, [], gs, h1, _ => h1.elim
  | x :: a, b, f :: fs, gs, h1, h2 => ⟨h1.1, Fits.append h1.2 h2⟩

theorem Fits.len : ∀ {a : List Leaf} {fs : List F}, Fits a fs → fs.length = a.length
  | [], [], _ => rfl
  | [], _ :: _, h1 => h1.elim
  | _ :: _, [], h1 => h1.elim
  | x :: a, f :: fs, h1 => by simp [Fits.len h1.2]

theorem ofFits {k : Kind} {fs : List F} (h : Fits (leavesOf k) fs) : ∃ x, ofCells k fs = some x := by
  cases k with
  | int =>
      obtain ⟨f0, r0, rfl, q0, h⟩ := h.cons
      obtain rfl := h.nil
      obtain ⟨v0, rfl⟩ := q0
      exact ⟨_, rfl⟩
  | byte =>
      obtain ⟨f0, r0, rfl, q0, h⟩ := h.cons
      obtain rfl := h.nil
      obtain ⟨v0, rfl⟩ := q0
      exact ⟨UInt8.ofNat (v0.toNat : Int).toNat, by simp only [ofCells]; rw [if_pos ⟨by omega, by have := v0.toNat_lt; omega⟩]⟩
  | str =>
      obtain ⟨f0, r0, rfl, q0, h⟩ := h.cons
      obtain rfl := h.nil
      obtain ⟨v0, rfl⟩ := q0
      exact ⟨_, rfl⟩
  | term =>
      obtain ⟨f0, r0, rfl, q0, h⟩ := h.cons
      obtain ⟨f1, r1, rfl, q1, h⟩ := h.cons
      obtain ⟨f2, r2, rfl, q2, h⟩ := h.cons
      obtain ⟨f3, r3, rfl, q3, h⟩ := h.cons
      obtain rfl := h.nil
      obtain ⟨v0, rfl⟩ := q0
      obtain ⟨v1, rfl⟩ := q1
      obtain ⟨v2, rfl⟩ := q2
      obtain ⟨t3, v3, rfl⟩ := q3
      exact ⟨_, rfl⟩
  | policy =>
      obtain ⟨f0, r0, rfl, q0, h⟩ := h.cons
      obtain ⟨f1, r1, rfl, q1, h⟩ := h.cons
      obtain ⟨f2, r2, rfl, q2, h⟩ := h.cons
      obtain ⟨f3, r3, rfl, q3, h⟩ := h.cons
      obtain rfl := h.nil
      obtain ⟨v0, rfl⟩ := q0
      obtain ⟨v1, rfl⟩ := q1
      obtain ⟨t2, v2, rfl⟩ := q2
      obtain ⟨v3, rfl⟩ := q3
      exact ⟨_, rfl⟩
  | letter =>
      obtain ⟨f0, r0, rfl, q0, h⟩ := h.cons
      obtain ⟨f1, r1, rfl, q1, h⟩ := h.cons
      obtain ⟨f2, r2, rfl, q2, h⟩ := h.cons
      obtain ⟨f3, r3, rfl, q3, h⟩ := h.cons
      obtain ⟨f4, r4, rfl, q4, h⟩ := h.cons
      obtain rfl := h.nil
      obtain ⟨v0, rfl⟩ := q0
      obtain ⟨v1, rfl⟩ := q1
      obtain ⟨v2, rfl⟩ := q2
      obtain ⟨v3, rfl⟩ := q3
      obtain ⟨v4, rfl⟩ := q4
      exact ⟨_, rfl⟩
  | note =>
      obtain ⟨f0, r0, rfl, q0, h⟩ := h.cons
      obtain ⟨f1, r1, rfl, q1, h⟩ := h.cons
      obtain ⟨f2, r2, rfl, q2, h⟩ := h.cons
      obtain ⟨f3, r3, rfl, q3, h⟩ := h.cons
      obtain ⟨f4, r4, rfl, q4, h⟩ := h.cons
      obtain rfl := h.nil
      obtain ⟨v0, rfl⟩ := q0
      obtain ⟨v1, rfl⟩ := q1
      obtain ⟨v2, rfl⟩ := q2
      obtain ⟨v3, rfl⟩ := q3
      obtain ⟨v4, rfl⟩ := q4
      exact ⟨_, rfl⟩
  | host =>
      obtain ⟨f0, r0, rfl, q0, h⟩ := h.cons
      obtain ⟨f1, r1, rfl, q1, h⟩ := h.cons
      obtain ⟨f2, r2, rfl, q2, h⟩ := h.cons
      obtain rfl := h.nil
      obtain ⟨v0, rfl⟩ := q0
      obtain ⟨v1, rfl⟩ := q1
      obtain ⟨v2, rfl⟩ := q2
      exact ⟨_, rfl⟩
  | call =>
      obtain ⟨f0, r0, rfl, q0, h⟩ := h.cons
      obtain ⟨f1, r1, rfl, q1, h⟩ := h.cons
      obtain ⟨f2, r2, rfl, q2, h⟩ := h.cons
      obtain ⟨f3, r3, rfl, q3, h⟩ := h.cons
      obtain ⟨f4, r4, rfl, q4, h⟩ := h.cons
      obtain ⟨f5, r5, rfl, q5, h⟩ := h.cons
      obtain ⟨f6, r6, rfl, q6, h⟩ := h.cons
      obtain ⟨f7, r7, rfl, q7, h⟩ := h.cons
      obtain ⟨f8, r8, rfl, q8, h⟩ := h.cons
      obtain ⟨f9, r9, rfl, q9, h⟩ := h.cons
      obtain ⟨f10, r10, rfl, q10, h⟩ := h.cons
      obtain ⟨f11, r11, rfl, q11, h⟩ := h.cons
      obtain ⟨f12, r12, rfl, q12, h⟩ := h.cons
      obtain ⟨f13, r13, rfl, q13, h⟩ := h.cons
      obtain ⟨f14, r14, rfl, q14, h⟩ := h.cons
      obtain rfl := h.nil
      obtain ⟨v0, rfl⟩ := q0
      obtain ⟨v1, rfl⟩ := q1
      obtain ⟨v2, rfl⟩ := q2
      obtain ⟨v3, rfl⟩ := q3
      obtain ⟨v4, rfl⟩ := q4
      obtain ⟨v5, rfl⟩ := q5
      obtain ⟨v6, rfl⟩ := q6
      obtain ⟨v7, rfl⟩ := q7
      obtain ⟨v8, rfl⟩ := q8
      obtain ⟨t9, v9, rfl⟩ := q9
      obtain ⟨v10, rfl⟩ := q10
      obtain ⟨v11, rfl⟩ := q11
      obtain ⟨v12, rfl⟩ := q12
      obtain ⟨v13, rfl⟩ := q13
      obtain ⟨v14, rfl⟩ := q14
      exact ⟨_, rfl⟩
  | talk =>
      obtain ⟨f0, r0, rfl, q0, h⟩ := h.cons
      obtain ⟨f1, r1, rfl, q1, h⟩ := h.cons
      obtain ⟨f2, r2, rfl, q2, h⟩ := h.cons
      obtain ⟨f3, r3, rfl, q3, h⟩ := h.cons
      obtain ⟨f4, r4, rfl, q4, h⟩ := h.cons
      obtain ⟨f5, r5, rfl, q5, h⟩ := h.cons
      obtain ⟨f6, r6, rfl, q6, h⟩ := h.cons
      obtain ⟨f7, r7, rfl, q7, h⟩ := h.cons
      obtain ⟨f8, r8, rfl, q8, h⟩ := h.cons
      obtain ⟨f9, r9, rfl, q9, h⟩ := h.cons
      obtain ⟨f10, r10, rfl, q10, h⟩ := h.cons
      obtain ⟨f11, r11, rfl, q11, h⟩ := h.cons
      obtain ⟨f12, r12, rfl, q12, h⟩ := h.cons
      obtain ⟨f13, r13, rfl, q13, h⟩ := h.cons
      obtain ⟨f14, r14, rfl, q14, h⟩ := h.cons
      obtain ⟨f15, r15, rfl, q15, h⟩ := h.cons
      obtain ⟨f16, r16, rfl, q16, h⟩ := h.cons
      obtain rfl := h.nil
      obtain ⟨v0, rfl⟩ := q0
      obtain ⟨v1, rfl⟩ := q1
      obtain ⟨v2, rfl⟩ := q2
      obtain ⟨v3, rfl⟩ := q3
      obtain ⟨v4, rfl⟩ := q4
      obtain ⟨v5, rfl⟩ := q5
      obtain ⟨v6, rfl⟩ := q6
      obtain ⟨v7, rfl⟩ := q7
      obtain ⟨t8, v8, rfl⟩ := q8
      obtain ⟨v9, rfl⟩ := q9
      obtain ⟨v10, rfl⟩ := q10
      obtain ⟨v11, rfl⟩ := q11
      obtain ⟨t12, v12, rfl⟩ := q12
      obtain ⟨v13, rfl⟩ := q13
      obtain ⟨v14, rfl⟩ := q14
      obtain ⟨v15, rfl⟩ := q15
      obtain ⟨t16, v16, rfl⟩ := q16
      exact ⟨_, rfl⟩
  | deed =>
      obtain ⟨f0, r0, rfl, q0, h⟩ := h.cons
      obtain ⟨f1, r1, rfl, q1, h⟩ := h.cons
      obtain ⟨f2, r2, rfl, q2, h⟩ := h.cons
      obtain ⟨f3, r3, rfl, q3, h⟩ := h.cons
      obtain ⟨f4, r4, rfl, q4, h⟩ := h.cons
      obtain ⟨f5, r5, rfl, q5, h⟩ := h.cons
      obtain ⟨f6, r6, rfl, q6, h⟩ := h.cons
      obtain rfl := h.nil
      obtain ⟨v0, rfl⟩ := q0
      obtain ⟨v1, rfl⟩ := q1
      obtain ⟨v2, rfl⟩ := q2
      obtain ⟨v3, rfl⟩ := q3
      obtain ⟨v4, rfl⟩ := q4
      obtain ⟨v5, rfl⟩ := q5
      obtain ⟨t6, v6, rfl⟩ := q6
      exact ⟨_, rfl⟩
  | terms =>
      obtain ⟨f0, r0, rfl, q0, h⟩ := h.cons
      obtain rfl := h.nil
      obtain ⟨t0, v0, rfl⟩ := q0
      exact ⟨_, rfl⟩
  | world =>
      obtain ⟨f0, r0, rfl, q0, h⟩ := h.cons
      obtain ⟨f1, r1, rfl, q1, h⟩ := h.cons
      obtain ⟨f2, r2, rfl, q2, h⟩ := h.cons
      obtain ⟨f3, r3, rfl, q3, h⟩ := h.cons
      obtain ⟨f4, r4, rfl, q4, h⟩ := h.cons
      obtain ⟨f5, r5, rfl, q5, h⟩ := h.cons
      obtain ⟨f6, r6, rfl, q6, h⟩ := h.cons
      obtain ⟨f7, r7, rfl, q7, h⟩ := h.cons
      obtain ⟨f8, r8, rfl, q8, h⟩ := h.cons
      obtain ⟨f9, r9, rfl, q9, h⟩ := h.cons
      obtain ⟨f10, r10, rfl, q10, h⟩ := h.cons
      obtain rfl := h.nil
      obtain ⟨v0, rfl⟩ := q0
      obtain ⟨v1, rfl⟩ := q1
      obtain ⟨t2, v2, rfl⟩ := q2
      obtain ⟨t3, v3, rfl⟩ := q3
      obtain ⟨t4, v4, rfl⟩ := q4
      obtain ⟨t5, v5, rfl⟩ := q5
      obtain ⟨v6, rfl⟩ := q6
      obtain ⟨v7, rfl⟩ := q7
      obtain ⟨t8, v8, rfl⟩ := q8
      obtain ⟨t9, v9, rfl⟩ := q9
      obtain ⟨t10, v10, rfl⟩ := q10
      exact ⟨_, rfl⟩

/-- A type's leaves: what its cells are, one behind the other. -/
def flatFs (P : Program) (g : TypeId → Option (List Leaf)) : List Field → Nat → Option (List Leaf)
  | [], _ => some []
  | f :: r, off => bif Nat.beq f.offset off then (g f.type).bind fun l => bif Nat.beq (P.cellsOf f.type) l.length then (flatFs P g r (off + l.length)).bind fun q => some (l ++ q) else none else none

def flatTy (P : Program) (ks : List (TypeId × Kind)) : Nat → TypeId → Option (List Leaf)
  | 0, _ => none
  | n + 1, t => match P.underlying t with
    | some (.int .i64) => some [.int]
    | some (.int .u8) => some [.u8]
    | some .bool => some [.bool]
    | some .string => some [.str]
    | some (.slice _) => (lookK ks t).map fun k => [.sl k]
    | some (.struct fs) => (flatFs P (flatTy P ks n) fs.toList 0).bind fun l => bif Nat.beq (P.cellsOf t) l.length then some l else none
    | _ => none

/-- The table of slices tells the truth. -/
def ksOk (P : Program) : List (TypeId × Kind) → List (TypeId × Kind) → Bool
  | ks, [] => true
  | ks, (t, k) :: r => (match P.underlying t with | some (.slice e) => decide (flatTy P ks 6 e = some (leavesOf k)) && Nat.beq (P.cellsOf e) (szOf k) | _ => true) && ksOk P ks r

theorem ksOk_look {P : Program} {ks : List (TypeId × Kind)} : ∀ {r : List (TypeId × Kind)}, ksOk P ks r = true → ∀ {t e : TypeId} {k : Kind}, lookK r t = some k → P.underlying t = some (.slice e) → flatTy P ks 6 e = some (leavesOf k) ∧ P.cellsOf e = szOf k
  | [], _, t, e, k, hl, _ => by simp [lookK] at hl
  | (s, q) :: r, hk, t, e, k, hl, hu => by
    simp only [ksOk, Bool.and_eq_true] at hk
    simp only [lookK] at hl
    cases hb : Nat.beq s t with
    | true =>
      rw [hb] at hl
      simp at hl
      subst hl
      obtain rfl := Nat.eq_of_beq_eq_true hb
      have h1 := hk.1
      rw [hu] at h1
      simp only [Bool.and_eq_true, decide_eq_true_eq] at h1
      exact ⟨h1.1, Nat.eq_of_beq_eq_true h1.2⟩
    | false => rw [hb] at hl; exact ksOk_look hk.2 hl hu

section
variable {H : Type} {enc : TypeId × Value → H} {P : Program} {ks : List (TypeId × Kind)} {W : World} {sp : Nat → Bool} {held : Bool}

abbrev NoM : Nat → Prop := fun _ => False

/-- What is read is of a size that fits. -/
def BdF : Nat → F → Prop
  | _, .sc (.string s) => s.size ≤ maxLen
  | _, .sc (.int k n) => k.min ≤ n ∧ n ≤ k.max
  | n + 1, .sl _ k l => l.length ≤ maxLen ∧ ∀ x ∈ l, ∀ f ∈ cellsOf k x, BdF n f
  | 0, .sl _ _ _ => False
  | _, _ => True

theorem BdF.succ : ∀ {n : Nat} {f : F}, BdF n f → BdF (n + 1) f
  | n, .sc u, h => by cases u <;> simp only [BdF] at h ⊢ <;> exact h
  | n + 1, .sl t k l, h => ⟨h.1, fun x hx f hf => BdF.succ (h.2 x hx f hf)⟩
  | 0, .sl t k l, h => h.elim
  | n, .ep k x off, h => trivial
  | n, .err, h => trivial

theorem Wk.bd {n : Nat} : ∀ {fs gs : List F}, Wk fs gs → (∀ f ∈ fs, BdF n f) → ∀ g ∈ gs, BdF n g
  | [], [], _, _ => fun g hg => by cases hg
  | [], _ :: _, hk, _ => by unfold Wk at hk; exact hk.elim
  | _ :: _, [], hk, _ => by unfold Wk at hk; exact hk.elim
  | f :: fs, g :: gs, hk, hb => by
    unfold Wk at hk
    intro x hx
    rcases List.mem_cons.1 hx with rfl | hx
    · have h1 := hb f (List.mem_cons_self ..)
      rcases hk.1 with rfl | ⟨t, k, l, rfl, rfl⟩
      · exact h1
      · cases n with
        | zero => exact h1.elim
        | succ n => exact h1
    · exact Wk.bd hk.2 (fun y hy => hb y (List.mem_cons_of_mem _ hy)) x hx

theorem bd_one {n : Nat} {f : F} (h : BdF n f) : ∀ g ∈ [f], BdF n g := fun g hg => by
  rcases List.mem_cons.1 hg with rfl | hg
  · exact h
  · cases hg

/-- Cells and what they are taken for. -/
def RdCells (W : World) (n : Nat) (cs : List Value) (fs : List F) : Prop := cs.length = fs.length ∧ ∀ (j : Nat) (c : Value) (f : F), cs[j]? = some c → fs[j]? = some f → CellW W NoM n c f

theorem RdCells.append {n : Nat} {a b : List Value} {fs gs : List F} (h1 : RdCells W n a fs) (h2 : RdCells W n b gs) : RdCells W n (a ++ b) (fs ++ gs) := by
  refine ⟨by simp [h1.1, h2.1], fun j c f hc hf => ?_⟩
  rcases Nat.lt_or_ge j a.length with h | h
  · rw [List.getElem?_append_left h] at hc
    rw [List.getElem?_append_left (by rw [← h1.1]; exact h)] at hf
    exact h1.2 j c f hc hf
  · rw [List.getElem?_append_right h] at hc
    rw [List.getElem?_append_right (by rw [← h1.1]; exact h), ← h1.1] at hf
    exact h2.2 _ c f hc hf

theorem RdCells.one {n : Nat} {v : Value} {f : F} (h : CellW W NoM n v f) : RdCells W n [v] [f] := by
  refine ⟨rfl, fun j c g hc hg => ?_⟩
  cases j with
  | zero => simp at hc hg; subst hc; subst hg; exact h
  | succ j => simp at hc

theorem RdCells.wk {n : Nat} {cs : List Value} : ∀ {fs gs : List F}, RdCells W n cs fs → Wk fs gs → RdCells W n cs gs := by
  intro fs gs h hk
  have hl : fs.length = gs.length := by
    clear h
    induction fs generalizing gs with
    | nil => cases gs with
      | nil => rfl
      | cons g gs => unfold Wk at hk; exact hk.elim
    | cons f fs ih => cases gs with
      | nil => unfold Wk at hk; exact hk.elim
      | cons g gs => unfold Wk at hk; simp [ih hk.2]
  refine ⟨h.1.trans hl, fun j c g hc hg => ?_⟩
  obtain ⟨f, hf, hw⟩ := hk.get hg
  exact Wk.cell (h.2 j c f hc hf) hw

/-- A struct's fields, one behind the other. -/
theorem read_fields {n : Nat} {g : TypeId → Option (List Leaf)} (ih : ∀ t ls cs x, g t = some ls → DataW.trod enc P W 0 sp held n t cs = some x → ∃ fs, Fits ls fs ∧ RdCells W n cs fs ∧ ∀ f ∈ fs, BdF n f) :
    ∀ (fl : List Field) (off : Nat) (ls : List Leaf) (cs : List Value), flatFs P g fl off = some ls → cs.length = off + ls.length →
      (∀ f ∈ fl, ∃ x, DataW.trod enc P W 0 sp held n f.type ((cs.drop f.offset).take (P.cellsOf f.type)) = some x) → ∃ fs, Fits ls fs ∧ RdCells W n (cs.drop off) fs ∧ ∀ f ∈ fs, BdF n f
  | [], off, ls, cs, hf, hl, hx => by
    simp only [flatFs, Option.some.injEq] at hf
    subst hf
    have : cs.drop off = [] := List.eq_nil_of_length_eq_zero (by simp at hl ⊢; omega)
    rw [this]
    exact ⟨[], trivial, ⟨rfl, fun j c f hc => by simp at hc⟩, fun f hf => by cases hf⟩
  | f :: fl, off, ls, cs, hf, hl, hx => by
    simp only [flatFs] at hf
    cases h1 : Nat.beq f.offset off with
    | false => rw [h1] at hf; cases hf
    | true =>
      rw [h1] at hf
      simp only [cond_true, Option.bind_eq_some_iff] at hf
      obtain ⟨l, hl1, hf⟩ := hf
      cases h2 : Nat.beq (P.cellsOf f.type) l.length with
      | false => rw [h2] at hf; cases hf
      | true =>
        rw [h2] at hf
        simp only [cond_true, Option.bind_eq_some_iff, Option.some.injEq] at hf
        obtain ⟨q, hq, rfl⟩ := hf
        have e1 := Nat.eq_of_beq_eq_true h1
        have e2 := Nat.eq_of_beq_eq_true h2
        obtain ⟨x, hx1⟩ := hx f (List.mem_cons_self ..)
        rw [e1, e2] at hx1
        obtain ⟨fs1, p1, p2, p5⟩ := ih _ _ _ _ hl1 hx1
        obtain ⟨fs2, p3, p4, p6⟩ := read_fields ih fl (off + l.length) q cs hq (by simp at hl; omega) (fun g hg => hx g (List.mem_cons_of_mem _ hg))
        refine ⟨fs1 ++ fs2, p1.append p3, ?_, fun f hf => (List.mem_append.1 hf).elim (p5 f) (p6 f)⟩
        have hd : cs.drop off = (cs.drop off).take l.length ++ cs.drop (off + l.length) := by
          rw [← List.drop_drop]
          exact (List.take_append_drop l.length (cs.drop off)).symm
        rw [hd]
        exact p2.append p4

theorem cells?_get {b0 n : Nat} {a : Addr} {cs : List Value} (h : W.cells? b0 a n = some cs) : cs.length = n ∧ ∀ (j : Nat) (c : Value), cs[j]? = some c → W.cell? (a.add j) = some c := by
  unfold World.cells? at h
  split at h
  · have : ∀ (l : List Nat) (cs : List Value), (l.mapM fun i => W.cell? (a.add i)) = some cs → cs.length = l.length ∧ ∀ (j : Nat) (c : Value), cs[j]? = some c → ∃ i, l[j]? = some i ∧ W.cell? (a.add i) = some c := by
      intro l
      induction l with
      | nil => intro cs h; simp at h; subst h; exact ⟨rfl, fun j c hc => by simp at hc⟩
      | cons i l ih =>
        intro cs h
        simp only [List.mapM_cons, Option.bind_eq_bind, Option.pure_def, Option.bind_eq_some_iff, Option.some.injEq] at h
        obtain ⟨v, hv, r, hr, rfl⟩ := h
        obtain ⟨h1, h2⟩ := ih r hr
        refine ⟨by simp [h1], fun j c hc => ?_⟩
        cases j with
        | zero => simp at hc; subst hc; exact ⟨i, rfl, hv⟩
        | succ j => obtain ⟨i', h3, h4⟩ := h2 j c (by simpa using hc); exact ⟨i', by simpa using h3, h4⟩
    obtain ⟨h1, h2⟩ := this _ _ h
    refine ⟨by simpa using h1, fun j c hc => ?_⟩
    obtain ⟨i, h3, h4⟩ := h2 j c hc
    have hj : j < n := by rw [← show cs.length = n by simpa using h1]; exact (List.getElem?_eq_some_iff.1 hc).1
    rw [List.getElem?_range hj] at h3
    simp at h3
    rw [h3]
    exact h4
  · cases h

theorem cell_spot {a : Addr} {c : Value} (h : W.cell? a = some c) : a.spot = none ∧ a.block < W.heap.size := by
  unfold World.cell? at h
  split at h
  · rename_i hb
    refine ⟨?_, (Array.getElem?_eq_some_iff.1 hb).1⟩
    split at h
    · cases h
    · rename_i hs; simpa using hs
  · cases h

/-- WHAT IS READ. -/
theorem read_cells (hks : ksOk P ks ks = true) : ∀ (n m : Nat) (t : TypeId) (ls : List Leaf) (cs : List Value) (x : DataW H × List MemPlace), flatTy P ks m t = some ls → DataW.trod enc P W 0 sp held n t cs = some x → ∃ fs, Fits ls fs ∧ RdCells W n cs fs ∧ ∀ f ∈ fs, BdF n f
  | 0, m, t, ls, cs, x, hf, hx => by simp [DataW.trod] at hx
  | n + 1, 0, t, ls, cs, x, hf, hx => by simp [flatTy] at hf
  | n + 1, m + 1, t, ls, cs, x, hf, hx => by
    simp only [flatTy] at hf
    split at hf
    · rename_i hu
      simp at hf; subst hf
      obtain ⟨v, hc, _, hw⟩ := DataW.trod_int hu hx
      subst hc
      exact ⟨[.sc (.int .i64 v)], ⟨⟨v, rfl⟩, trivial⟩, RdCells.one ⟨rfl, rfl⟩, bd_one (by unfold BdF; simpa [Lit.wf] using hw)⟩
    · rename_i hu
      simp at hf; subst hf
      obtain ⟨v, hc, _, hw⟩ := DataW.trod_int hu hx
      subst hc
      have hb : 0 ≤ v ∧ v ≤ 255 := by simpa [Lit.wf, IntKind.min, IntKind.max, IntKind.signed, IntKind.bits] using hw
      refine ⟨[.sc (.int .u8 v)], ⟨⟨UInt8.ofNat v.toNat, ?_⟩, trivial⟩, RdCells.one ⟨rfl, rfl⟩, bd_one (by unfold BdF; simpa [Lit.wf] using hw)⟩
      have : (UInt8.ofNat v.toNat).toNat = v.toNat := by simp; omega
      rw [this]
      congr 2
      omega
    · rename_i hu
      simp at hf; subst hf
      obtain ⟨v, hc, _⟩ := DataW.trod_bool hu hx
      subst hc
      exact ⟨[.sc (.bool v)], ⟨⟨v, rfl⟩, trivial⟩, RdCells.one ⟨rfl, rfl⟩, bd_one trivial⟩
    · rename_i hu
      simp at hf; subst hf
      obtain ⟨v, hc, _, hsz⟩ := DataW.trod_string hu hx
      subst hc
      exact ⟨[.sc (.string v)], ⟨⟨v, rfl⟩, trivial⟩, RdCells.one ⟨rfl, rfl⟩, bd_one (by unfold BdF; exact hsz)⟩
    · rename_i e hu
      rw [Option.map_eq_some_iff] at hf
      obtain ⟨k, hk, rfl⟩ := hf
      obtain ⟨he, hce⟩ := ksOk_look hks hk hu
      rcases DataW.trod_slice hu hx with ⟨rfl, _⟩ | ⟨a, len, cap, elems, rest, n', hn', rfl, rfl, hb, hl, hm, hlen, hel, _, _⟩
      · refine ⟨[.sl false k []], ⟨⟨false, [], rfl⟩, trivial⟩, RdCells.one ?_, bd_one ⟨by simp, fun x hx => by cases hx⟩⟩
        exact ⟨none, 0, rfl, by simp, fun h => by simp at h, fun i x hx => by simp at hx⟩
      · obtain rfl : n' = n := by omega
        have each : ∀ i, i < len → ∃ y : El k, (∀ j f, (cellsOf k y)[j]? = some f → ∃ u, W.cell? ((a.add (i * szOf k)).add j) = some u ∧ CellW W NoM n' u f) ∧ ∀ f ∈ cellsOf k y, BdF n' f := by
          intro i hi
          have h1 := hel i hi
          rw [hce, List.getElem?_eq_getElem (by rw [hlen]; exact hi), Option.bind_eq_some_iff] at h1
          obtain ⟨ci, hci, htr⟩ := h1
          obtain ⟨fs, p1, p2, p5⟩ := read_cells hks n' 6 e _ ci _ he htr
          obtain ⟨y, hy⟩ := ofFits p1
          have p3 := p2.wk (ofCells_wk hy)
          obtain ⟨q1, q2⟩ := cells?_get hci
          refine ⟨y, fun j f hf => ?_, (ofCells_wk hy).bd p5⟩
          have hj : j < ci.length := by rw [p3.1]; exact (List.getElem?_eq_some_iff.1 hf).1
          exact ⟨ci[j], q2 j _ (List.getElem?_eq_getElem hj), p3.2 j _ f (List.getElem?_eq_getElem hj) hf⟩
        have list : ∀ m, m ≤ len → ∃ l : List (El k), (l.length = m ∧ ∀ i y, l[i]? = some y → ∀ j f, (cellsOf k y)[j]? = some f → ∃ u, W.cell? ((a.add (i * szOf k)).add j) = some u ∧ CellW W NoM n' u f) ∧ ∀ y ∈ l, ∀ f ∈ cellsOf k y, BdF n' f := by
          intro m
          induction m with
          | zero => intro _; exact ⟨[], ⟨rfl, fun i y hy => by simp at hy⟩, fun y hy => by cases hy⟩
          | succ m ih =>
            intro hm
            obtain ⟨l, ⟨h1, h2⟩, h3⟩ := ih (by omega)
            obtain ⟨y, hy, hbd⟩ := each m (by omega)
            refine ⟨l ++ [y], ⟨by simp [h1], fun i z hz => ?_⟩, fun z hz => (List.mem_append.1 hz).elim (h3 z) (fun hz => by rw [List.mem_singleton.1 hz]; exact hbd)⟩
            rcases Nat.lt_or_ge i l.length with h | h
            · rw [List.getElem?_append_left h] at hz; exact h2 i z hz
            · rw [List.getElem?_append_right h] at hz
              have : i - l.length = 0 := by
                rcases Nat.eq_zero_or_pos (i - l.length) with h0 | h0
                · exact h0
                · rw [List.getElem?_eq_none (by simp; omega)] at hz; cases hz
              rw [this] at hz
              simp at hz
              subst hz
              obtain rfl : i = m := by omega
              exact hy
        obtain ⟨l, ⟨hl1, hl2⟩, hl3⟩ := list len (Nat.le_refl _)
        refine ⟨[.sl false k l], ⟨⟨false, l, rfl⟩, trivial⟩, RdCells.one ?_, bd_one ⟨by omega, hl3⟩⟩
        refine ⟨some a, cap, by rw [hl1], by omega, fun h => by simp at h, fun i y hy => ?_⟩
        have hsp : a.spot = none ∧ a.block < W.heap.size := by
          have h0 : 0 < len := by
            have := (List.getElem?_eq_some_iff.1 hy).1
            omega
          obtain ⟨y0, hy0⟩ : ∃ y0, l[0]? = some y0 := ⟨_, List.getElem?_eq_getElem (by omega)⟩
          obtain ⟨c0, hc0⟩ : ∃ c0, (cellsOf k y0)[0]? = some c0 := ⟨_, List.getElem?_eq_getElem (by rw [cells_length]; exact szOf_pos k)⟩
          obtain ⟨u, hu0, _⟩ := hl2 0 _ hy0 0 _ hc0
          simp [Addr.add] at hu0
          exact cell_spot hu0
        have ha : a = ⟨a.block, a.off, none⟩ := by
          obtain ⟨b, o, sp0⟩ := a
          simp at hsp
          rw [hsp.1]
        refine ⟨a.block, a.off, by rw [← ha], fun h => h, hsp.2, fun j f hf => ?_⟩
        obtain ⟨u, hu0, hr⟩ := hl2 i y hy j f hf
        rw [ha, Addr.add_mid, Addr.add_mid] at hu0
        exact ⟨u, hu0, hr⟩
    · rename_i fs hu
      obtain ⟨xs, n', hn', rfl, hlen, hxl, hxs⟩ := DataW.trod_struct hu hx
      obtain rfl : n' = n := by omega
      rw [Option.bind_eq_some_iff] at hf
      obtain ⟨l, hl, hf⟩ := hf
      cases hb : Nat.beq (P.cellsOf t) l.length with
      | false => rw [hb] at hf; cases hf
      | true =>
        rw [hb] at hf
        simp only [cond_true, Option.some.injEq] at hf
        subst hf
        have := read_fields (fun t ls cs x h1 h2 => read_cells hks n' m t ls cs x h1 h2) fs.toList 0 l cs hl (by rw [hlen, Nat.eq_of_beq_eq_true hb]; omega) (fun f hfm => by
          obtain ⟨i, hi⟩ := List.getElem?_of_mem hfm
          have hi' : fs[i]? = some f := by simpa using hi
          have := hxs i f hi'
          have hlt : i < xs.length := by rw [hxl]; exact (Array.getElem?_eq_some_iff.1 hi').1
          exact ⟨xs[i], by rw [this, List.getElem?_eq_getElem hlt]⟩)
        obtain ⟨gs, p1, p2, p5⟩ := this
        rw [List.drop_zero] at p2
        exact ⟨gs, p1, ⟨p2.1, fun j c f hc hf => (p2.2 j c f hc hf).succ⟩, fun f hf => (p5 f hf).succ⟩
    · cases hf

/-- One cell: the value itself. -/
theorem ok_one' {b0 : Nat} {t : TypeId} {v : Value} {c : Value} (hs : ∀ fs, P.underlying t ≠ some (.struct fs)) (ha : ∀ n e, P.underlying t ≠ some (.array n e)) (hv : Value.okWide P W .any b0 t v) (hc : v.cells.toList = [c]) : v = c := by
  have hne : ∀ us, v ≠ .agg us := by
    rintro us rfl
    unfold Value.okWide at hv
    cases hu : P.underlying t with
    | none => rw [hu] at hv; unfold Cell.okWide at hv; rw [hu] at hv; unfold Cell.ok at hv; rw [hu] at hv; exact hv
    | some d =>
      rw [hu] at hv
      cases d <;> first
        | (exact hs _ hu)
        | (exact ha _ _ hu)
        | (simp only at hv; unfold Cell.okWide at hv; rw [hu] at hv; simp only at hv; first | (exact hv) | (unfold Cell.ok at hv; rw [hu] at hv; simp only at hv))
  have : v.cells = #[v] := by cases v <;> first | rfl | exact absurd rfl (hne _)
  rw [this] at hc
  simpa using hc

theorem read_one {h : Hp} {loc : Loc} (hks : ksOk P ks ks = true) {m b0 : Nat} {t : TypeId} {a : Leaf} {v : Value} {d : DataW H} {ps : List MemPlace} (hs : ∀ fs, P.underlying t ≠ some (.struct fs)) (ha : ∀ n e, P.underlying t ≠ some (.array n e))
    (hf : flatTy P ks m t = some [a]) (hv : Value.okWide P W .any b0 t v) (hd : DataW.Trod enc P W 0 sp held t v d ps) : ∃ f, Fit a f ∧ VW W NoM h loc v (.c (.f f)) ∧ ∃ n, BdF n f := by
  obtain ⟨n, hn⟩ := hd
  obtain ⟨fs, h1, h2, hbd⟩ := read_cells hks n m t _ _ _ hf hn
  obtain ⟨f, r, rfl, h3, h4⟩ := h1.cons
  obtain rfl := h4.nil
  have hl : v.cells.toList.length = 1 := h2.1
  obtain ⟨c, hc⟩ : ∃ c, v.cells.toList = [c] := List.length_eq_one_iff.1 hl
  have := ok_one' hs ha hv hc
  subst this
  refine ⟨f, h3, ?_, n, hbd f (List.mem_cons_self ..)⟩
  unfold VW CW
  exact ⟨n, h2.2 0 v f (by rw [hc]; rfl) rfl⟩

theorem cws_of {h : Hp} {loc : Loc} {n : Nat} : ∀ {cs : List Value} {fs : List F}, RdCells W n cs fs → CWs W NoM h loc cs (fs.map C.f)
  | [], [], _ => by simp; unfold CWs; trivial
  | [], _ :: _, hr => by have := hr.1; simp at this
  | _ :: _, [], hr => by have := hr.1; simp at this
  | c :: cs, f :: fs, hr => by
    simp only [List.map_cons]
    unfold CWs
    refine ⟨by unfold CW; exact ⟨n, hr.2 0 c f rfl rfl⟩, cws_of ⟨by have := hr.1; simpa using this, fun j c' f' hc hf => hr.2 (j + 1) c' f' (by simpa using hc) (by simpa using hf)⟩⟩

theorem read_agg {h : Hp} {loc : Loc} (hks : ksOk P ks ks = true) {m b0 : Nat} {t : TypeId} {fl : Array Field} {ls : List Leaf} {v : Value} {d : DataW H} {ps : List MemPlace} (hu : P.underlying t = some (.struct fl))
    (hf : flatTy P ks m t = some ls) (hv : Value.okWide P W .any b0 t v) (hd : DataW.Trod enc P W 0 sp held t v d ps) : ∃ fs, Fits ls fs ∧ VW W NoM h loc v (.agg (fs.map C.f)) ∧ ∃ n, ∀ f ∈ fs, BdF n f := by
  obtain ⟨n, hn⟩ := hd
  obtain ⟨fs, h1, h2, hbd⟩ := read_cells hks n m t _ _ _ hf hn
  unfold Value.okWide at hv
  rw [hu] at hv
  obtain ⟨cs, rfl, _⟩ := hv
  refine ⟨fs, h1, ?_, n, hbd⟩
  unfold VW
  exact ⟨cs.toList, by simp, cws_of h2⟩

theorem read_el {h : Hp} {loc : Loc} (hks : ksOk P ks ks = true) {m b0 : Nat} {t : TypeId} {fl : Array Field} {k : Kind} {v : Value} {d : DataW H} {ps : List MemPlace} (hu : P.underlying t = some (.struct fl))
    (hf : flatTy P ks m t = some (leavesOf k)) (hv : Value.okWide P W .any b0 t v) (hd : DataW.Trod enc P W 0 sp held t v d ps) : ∃ x : El k, VW W NoM h loc v (elV k x) ∧ ∃ n, ∀ f ∈ cellsOf k x, BdF n f := by
  obtain ⟨fs, h1, h2, n, hbd⟩ := read_agg (h := h) (loc := loc) hks hu hf hv hd
  obtain ⟨x, hx⟩ := ofFits h1
  exact ⟨x, h2.ofWk (ofCells_wk hx), n, (ofCells_wk hx).bd hbd⟩

def isStrT (P : Program) (t : TypeId) : Bool := match P.underlying t with | some (.struct _) => true | _ => false
def isRowT (P : Program) (t : TypeId) : Bool := match P.underlying t with | some (.struct _) => true | some (.array _ _) => true | _ => false

theorem rd_one {h : Hp} {loc : Loc} (hks : ksOk P ks ks = true) {b0 : Nat} {t : TypeId} {a : Leaf} {v : Value} {d : DataW H} {ps : List MemPlace} (hs : isRowT P t = false)
    (hf : flatTy P ks 6 t = some [a]) (hv : Value.okWide P W .any b0 t v) (hd : DataW.Trod enc P W 0 sp held t v d ps) : ∃ f, Fit a f ∧ VW W NoM h loc v (.c (.f f)) ∧ ∃ n, BdF n f :=
  read_one hks (fun fs h => by unfold isRowT at hs; rw [h] at hs; cases hs) (fun n e h => by unfold isRowT at hs; rw [h] at hs; cases hs) hf hv hd

theorem rd_agg {h : Hp} {loc : Loc} (hks : ksOk P ks ks = true) {b0 : Nat} {t : TypeId} {ls : List Leaf} {v : Value} {d : DataW H} {ps : List MemPlace} (hs : isStrT P t = true)
    (hf : flatTy P ks 6 t = some ls) (hv : Value.okWide P W .any b0 t v) (hd : DataW.Trod enc P W 0 sp held t v d ps) : ∃ fs, Fits ls fs ∧ VW W NoM h loc v (.agg (fs.map C.f)) ∧ ∃ n, ∀ f ∈ fs, BdF n f := by
  unfold isStrT at hs
  split at hs
  · rename_i fl hu
    exact read_agg hks hu hf hv hd
  · cases hs

theorem rd_el {h : Hp} {loc : Loc} (hks : ksOk P ks ks = true) {b0 : Nat} {t : TypeId} {k : Kind} {v : Value} {d : DataW H} {ps : List MemPlace} (hs : isStrT P t = true)
    (hf : flatTy P ks 6 t = some (leavesOf k)) (hv : Value.okWide P W .any b0 t v) (hd : DataW.Trod enc P W 0 sp held t v d ps) : ∃ x : El k, VW W NoM h loc v (elV k x) ∧ ∃ n, ∀ f ∈ cellsOf k x, BdF n f := by
  obtain ⟨fs, h1, h2, n, hbd⟩ := rd_agg (h := h) (loc := loc) hks hs hf hv hd
  obtain ⟨x, hx⟩ := ofFits h1
  exact ⟨x, h2.ofWk (ofCells_wk hx), n, (ofCells_wk hx).bd hbd⟩

/-! ### The law -/

theorem NoMut {h : Hp} (hh : h = hpOf .arg 0 []) {M : Nat → Prop} {loc : Loc} : ∀ b, Mut M h loc b → M b := by
  rintro b (hb | ⟨id, o, c, ho, _⟩)
  · exact hb
  · rw [hh] at ho; simp [hpOf] at ho

/-- A law that answers true: it leaves memory as it was; what is told of memory is told ahead of it. -/
theorem law_calls_at {cfg : Cfg} (hP : ProgOK G P cfg) (hG : G.ok W) (hlt : ∀ b, G.bl b → b < W.heap.size) {f : FuncId} {args : List V} {vs : List Value} {r : V × List Obj × List Obj} (hr : rn P cfg f args [] = some r) (ht : r.1 = .bool true)
    (hargs : VWs W NoM (hpOf .arg 0 []) (fun _ => none) vs args) : Calls P f vs.toArray W fun e W' => e = .returned (.bool true) ∧ W'.os = W.os ∧ W'.output = W.output ∧ W.heap.size ≤ W'.heap.size ∧ ∀ b, b < W.heap.size → W'.heap[b]? = W.heap[b]? := by
  have hf := rn_ok hP f args [] r hr
  refine (hf.calls NoM (fun _ => none) W vs (HW.empty (fun b hb => hb.elim) ⟨hG, fun b hb => ⟨hlt b hb, .inr fun hm => NoMut rfl b hm⟩⟩) (VWs.shape (Shape.refl _ _) (NoMut rfl) args hargs)).mono fun e W' => ?_
  rintro ⟨u, loc', rfl, hw, hex, hv⟩
  rw [ht] at hv
  have := hv.sc
  subst this
  exact ⟨rfl, hex.os, hex.output, hex.keeps.size, fun b hb => (hex.keeps.same b hb (fun h => NoMut rfl b h)).2⟩

/-- A law that answers true: it leaves memory as it was. -/
theorem law_calls {cfg : Cfg} (hP : ProgOK Gl.none P cfg) {f : FuncId} {args : List V} {vs : List Value} {r : V × List Obj × List Obj} (hr : rn P cfg f args [] = some r) (ht : r.1 = .bool true)
    (hargs : VWs W NoM (hpOf .arg 0 []) (fun _ => none) vs args) : Calls P f vs.toArray W fun e W' => e = .returned (.bool true) ∧ W'.os = W.os ∧ W'.output = W.output ∧ W.heap.size ≤ W'.heap.size ∧ ∀ b, b < W.heap.size → W'.heap[b]? = W.heap[b]? :=
  law_calls_at (G := Gl.none) hP trivial (fun _ h => h.elim) hr ht hargs

end
end Go.Vm

namespace Go.Vm
open Go.ChangeShapes
set_option linter.unusedVariables false
set_option linter.unusedSimpArgs false

section
variable {H : Type} {enc : TypeId × Value → H} {P : Program} {W : World} {sp : Nat → Bool} {held : Bool} {ks : List (TypeId × Kind)}

def certLeaves : List Leaf := [.str, .int, .int, .str, .sl .term, .int]

theorem rd_cert {h : Hp} {loc : Loc} (hks : ksOk P ks ks = true) {b0 : Nat} {t : TypeId} {v : Value} {d : DataW H} {ps : List MemPlace} (hs : isStrT P t = true)
    (hf : flatTy P ks 6 t = some certLeaves) (hv : Value.okWide P W .any b0 t v) (hd : DataW.Trod enc P W 0 sp held t v d ps) : ∃ x : Cert, VW W NoM h loc v (.ag (Cert.cells x)) ∧ ∃ n, ∀ f ∈ Cert.cells x, BdF n f := by
  obtain ⟨fs, q, h2, n, hbd⟩ := rd_agg (h := h) (loc := loc) hks hs hf hv hd
  obtain ⟨f0, r0, rfl, q0, q⟩ := q.cons
  obtain ⟨f1, r1, rfl, q1, q⟩ := q.cons
  obtain ⟨f2, r2, rfl, q2, q⟩ := q.cons
  obtain ⟨f3, r3, rfl, q3, q⟩ := q.cons
  obtain ⟨f4, r4, rfl, q4, q⟩ := q.cons
  obtain ⟨f5, r5, rfl, q5, q⟩ := q.cons
  obtain rfl := q.nil
  obtain ⟨v0, rfl⟩ := q0
  obtain ⟨v1, rfl⟩ := q1
  obtain ⟨v2, rfl⟩ := q2
  obtain ⟨v3, rfl⟩ := q3
  obtain ⟨t4, v4, rfl⟩ := q4
  obtain ⟨v5, rfl⟩ := q5
  have hw : Wk [.str v0, .int v1, .int v2, .str v3, .sl t4 .term v4, .int v5] (Cert.cells ⟨v0, ⟨v1, v2, v3, v4⟩, v5⟩) := by simp [Wk, Cert.cells]
  exact ⟨_, h2.ofWk hw, n, hw.bd hbd⟩

def clientLeaves : List Leaf := [.int, .str, .bool, .int, .int, .int, .int, .str, .sl .term, .int, .int, .bool, .bool]

theorem rd_client {h : Hp} {loc : Loc} (hks : ksOk P ks ks = true) {b0 : Nat} {t : TypeId} {v : Value} {d : DataW H} {ps : List MemPlace} (hs : isStrT P t = true)
    (hf : flatTy P ks 6 t = some clientLeaves) (hv : Value.okWide P W .any b0 t v) (hd : DataW.Trod enc P W 0 sp held t v d ps) : ∃ x : Client, VW W NoM h loc v (.ag (Client.cells x)) ∧ ∃ n, ∀ f ∈ Client.cells x, BdF n f := by
  obtain ⟨fs, q, h2, n, hbd⟩ := rd_agg (h := h) (loc := loc) hks hs hf hv hd
  obtain ⟨f0, r0, rfl, q0, q⟩ := q.cons
  obtain ⟨f1, r1, rfl, q1, q⟩ := q.cons
  obtain ⟨f2, r2, rfl, q2, q⟩ := q.cons
  obtain ⟨f3, r3, rfl, q3, q⟩ := q.cons
  obtain ⟨f4, r4, rfl, q4, q⟩ := q.cons
  obtain ⟨f5, r5, rfl, q5, q⟩ := q.cons
  obtain ⟨f6, r6, rfl, q6, q⟩ := q.cons
  obtain ⟨f7, r7, rfl, q7, q⟩ := q.cons
  obtain ⟨f8, r8, rfl, q8, q⟩ := q.cons
  obtain ⟨f9, r9, rfl, q9, q⟩ := q.cons
  obtain ⟨f10, r10, rfl, q10, q⟩ := q.cons
  obtain ⟨f11, r11, rfl, q11, q⟩ := q.cons
  obtain ⟨f12, r12, rfl, q12, q⟩ := q.cons
  obtain rfl := q.nil
  obtain ⟨v0, rfl⟩ := q0
  obtain ⟨v1, rfl⟩ := q1
  obtain ⟨v2, rfl⟩ := q2
  obtain ⟨v3, rfl⟩ := q3
  obtain ⟨v4, rfl⟩ := q4
  obtain ⟨v5, rfl⟩ := q5
  obtain ⟨v6, rfl⟩ := q6
  obtain ⟨v7, rfl⟩ := q7
  obtain ⟨t8, v8, rfl⟩ := q8
  obtain ⟨v9, rfl⟩ := q9
  obtain ⟨v10, rfl⟩ := q10
  obtain ⟨v11, rfl⟩ := q11
  obtain ⟨v12, rfl⟩ := q12
  have hw : Wk [.int v0, .str v1, .bool v2, .int v3, .int v4, .int v5, .int v6, .str v7, .sl t8 .term v8, .int v9, .int v10, .bool v11, .bool v12] (Client.cells ⟨v0, v1, v2, v3, v4, ⟨v5, v6, v7, v8⟩, v9, v10, v11, v12⟩) := by simp [Wk, Client.cells]
  exact ⟨_, h2.ofWk hw, n, hw.bd hbd⟩

def serverLeaves : List Leaf := [.int, .str, .int, .int, .int, .int, .str, .sl .term, .int, .int, .str, .sl .term, .int, .int, .bool, .sl .int]

theorem rd_server {h : Hp} {loc : Loc} (hks : ksOk P ks ks = true) {b0 : Nat} {t : TypeId} {v : Value} {d : DataW H} {ps : List MemPlace} (hs : isStrT P t = true)
    (hf : flatTy P ks 6 t = some serverLeaves) (hv : Value.okWide P W .any b0 t v) (hd : DataW.Trod enc P W 0 sp held t v d ps) : ∃ x : Server, VW W NoM h loc v (.ag (Server.cells x)) ∧ ∃ n, ∀ f ∈ Server.cells x, BdF n f := by
  obtain ⟨fs, q, h2, n, hbd⟩ := rd_agg (h := h) (loc := loc) hks hs hf hv hd
  obtain ⟨f0, r0, rfl, q0, q⟩ := q.cons
  obtain ⟨f1, r1, rfl, q1, q⟩ := q.cons
  obtain ⟨f2, r2, rfl, q2, q⟩ := q.cons
  obtain ⟨f3, r3, rfl, q3, q⟩ := q.cons
  obtain ⟨f4, r4, rfl, q4, q⟩ := q.cons
  obtain ⟨f5, r5, rfl, q5, q⟩ := q.cons
  obtain ⟨f6, r6, rfl, q6, q⟩ := q.cons
  obtain ⟨f7, r7, rfl, q7, q⟩ := q.cons
  obtain ⟨f8, r8, rfl, q8, q⟩ := q.cons
  obtain ⟨f9, r9, rfl, q9, q⟩ := q.cons
  obtain ⟨f10, r10, rfl, q10, q⟩ := q.cons
  obtain ⟨f11, r11, rfl, q11, q⟩ := q.cons
  obtain ⟨f12, r12, rfl, q12, q⟩ := q.cons
  obtain ⟨f13, r13, rfl, q13, q⟩ := q.cons
  obtain ⟨f14, r14, rfl, q14, q⟩ := q.cons
  obtain ⟨f15, r15, rfl, q15, q⟩ := q.cons
  obtain rfl := q.nil
  obtain ⟨v0, rfl⟩ := q0
  obtain ⟨v1, rfl⟩ := q1
  obtain ⟨v2, rfl⟩ := q2
  obtain ⟨v3, rfl⟩ := q3
  obtain ⟨v4, rfl⟩ := q4
  obtain ⟨v5, rfl⟩ := q5
  obtain ⟨v6, rfl⟩ := q6
  obtain ⟨t7, v7, rfl⟩ := q7
  obtain ⟨v8, rfl⟩ := q8
  obtain ⟨v9, rfl⟩ := q9
  obtain ⟨v10, rfl⟩ := q10
  obtain ⟨t11, v11, rfl⟩ := q11
  obtain ⟨v12, rfl⟩ := q12
  obtain ⟨v13, rfl⟩ := q13
  obtain ⟨v14, rfl⟩ := q14
  obtain ⟨t15, v15, rfl⟩ := q15
  have hw : Wk [.int v0, .str v1, .int v2, .int v3, .int v4, .int v5, .str v6, .sl t7 .term v7, .int v8, .int v9, .str v10, .sl t11 .term v11, .int v12, .int v13, .bool v14, .sl t15 .int v15] (Server.cells ⟨v0, v1, v2, v3, ⟨v4, v5, v6, v7⟩, ⟨v8, v9, v10, v11⟩, v12, v13, v14, v15⟩) := by simp [Wk, Server.cells]
  exact ⟨_, h2.ofWk hw, n, hw.bd hbd⟩

def worldLeaves : List Leaf := [.int, .int, .sl .term, .sl .policy, .sl .host, .sl .letter, .str, .int, .sl .call, .sl .talk, .sl .int]

theorem rd_world {h : Hp} {loc : Loc} (hks : ksOk P ks ks = true) {b0 : Nat} {t : TypeId} {v : Value} {d : DataW H} {ps : List MemPlace} (hs : isStrT P t = true)
    (hf : flatTy P ks 6 t = some worldLeaves) (hv : Value.okWide P W .any b0 t v) (hd : DataW.Trod enc P W 0 sp held t v d ps) : ∃ x : WorldD, VW W NoM h loc v (.ag (WorldD.cells x)) ∧ ∃ n, ∀ f ∈ WorldD.cells x, BdF n f := by
  obtain ⟨fs, q, h2, n, hbd⟩ := rd_agg (h := h) (loc := loc) hks hs hf hv hd
  obtain ⟨f0, r0, rfl, q0, q⟩ := q.cons
  obtain ⟨f1, r1, rfl, q1, q⟩ := q.cons
  obtain ⟨f2, r2, rfl, q2, q⟩ := q.cons
  obtain ⟨f3, r3, rfl, q3, q⟩ := q.cons
  obtain ⟨f4, r4, rfl, q4, q⟩ := q.cons
  obtain ⟨f5, r5, rfl, q5, q⟩ := q.cons
  obtain ⟨f6, r6, rfl, q6, q⟩ := q.cons
  obtain ⟨f7, r7, rfl, q7, q⟩ := q.cons
  obtain ⟨f8, r8, rfl, q8, q⟩ := q.cons
  obtain ⟨f9, r9, rfl, q9, q⟩ := q.cons
  obtain ⟨f10, r10, rfl, q10, q⟩ := q.cons
  obtain rfl := q.nil
  obtain ⟨v0, rfl⟩ := q0
  obtain ⟨v1, rfl⟩ := q1
  obtain ⟨t2, v2, rfl⟩ := q2
  obtain ⟨t3, v3, rfl⟩ := q3
  obtain ⟨t4, v4, rfl⟩ := q4
  obtain ⟨t5, v5, rfl⟩ := q5
  obtain ⟨v6, rfl⟩ := q6
  obtain ⟨v7, rfl⟩ := q7
  obtain ⟨t8, v8, rfl⟩ := q8
  obtain ⟨t9, v9, rfl⟩ := q9
  obtain ⟨t10, v10, rfl⟩ := q10
  have hw : Wk [.int v0, .int v1, .sl t2 .term v2, .sl t3 .policy v3, .sl t4 .host v4, .sl t5 .letter v5, .str v6, .int v7, .sl t8 .call v8, .sl t9 .talk v9, .sl t10 .int v10] (WorldD.cells ⟨v0, v1, v2, v3, v4, v5, v6, v7, v8, v9, v10⟩) := by simp [Wk, WorldD.cells]
  exact ⟨_, h2.ofWk hw, n, hw.bd hbd⟩

end
end Go.Vm

namespace Go.Vm
open Go.ChangeShapes
set_option linter.unusedVariables false
set_option linter.unusedSimpArgs false

section
variable {H : Type} {enc : TypeId × Value → H} {P : Program} {W W' : World}

theorem br_if {α : Type} (b : Bool) (x y : α) : br b x y = if b = true then x else y := by cases b <;> rfl

theorem VW.loosen {M : Nat → Prop} {h : Hp} {loc : Loc} {v : Value} {t : Bool} {k : Kind} {l : List (El k)} (hv : VW W M h loc v (.c (.f (.sl t k l)))) : VW W M h loc v (.sl false k l) := by
  unfold VW at hv ⊢
  exact hv.loose

theorem keptBut_of (h1 : W'.os = W.os) (h2 : W'.output = W.output) (hb : ∀ b, b < W.heap.size → W'.heap[b]? = W.heap[b]?) (may : MemPlace → Prop) : W.keptBut W' may := by
  refine ⟨h1, h2, fun i hi => ?_⟩
  rw [hb i hi]
  cases W.heap[i]? with
  | none => rfl
  | some o => cases o <;> first | exact ⟨rfl, rfl, rfl, fun _ _ => rfl⟩ | exact .inr ⟨rfl, rfl⟩ | rfl

theorem trodAll_stays (hl : laidOutB P = true) (hb : ∀ b, b < W.heap.size → W'.heap[b]? = W.heap[b]?) : ∀ {ts : List TypeId} {vs : List Value} {ds : List (DataW H)} {ps : List MemPlace}, (∀ t ∈ ts, P.readableRec t = true ∧ t < P.types.size) →
    (∀ p ∈ ps, p.block < W.heap.size) → DataW.TrodAll enc P W 0 (fun _ => true) true ts vs ds ps → DataW.TrodAll enc P W' 0 (fun b => decide (b < W.heap.size)) true ts vs ds ps
  | [], [], [], ps, _, _, h => h
  | [], _ :: _, _, ps, _, _, h => h.elim
  | [], [], _ :: _, ps, _, _, h => h.elim
  | _ :: _, [], _, ps, _, _, h => h.elim
  | _ :: _, _ :: _, [], ps, _, _, h => h.elim
  | t :: ts, v :: vs, d :: ds, ps, hr, hlt, ⟨p, q, h1, h2, e⟩ => by
    subst e
    refine ⟨p, q, WideElems.Trod_stays hl (hr t (List.mem_cons_self ..)).1 (hr t (List.mem_cons_self ..)).2 h1 (fun x hx => ?_) (fun x hx => by simpa using hlt x (List.mem_append_left _ hx)), ?_, rfl⟩
    · have := hb x.block (hlt x (List.mem_append_left _ hx))
      cases x <;> simp only [MemPlace.block] at this <;> simp only [World.sameAt, World.cell?] <;> rw [this]
    · exact trodAll_stays hl hb (fun t ht => hr t (List.mem_cons_of_mem _ ht)) (fun x hx => hlt x (List.mem_append_right _ hx)) h2

theorem law_post {fn : Func} {s : ChangeSpec} {args : Array Value} {ds gs : List (DataW H)} {before : List MemPlace} {tb : TypeId} (hvars : s.vars = []) (hfn : s.fn H (ds ++ gs) = { results := [.lit (.bool true)], args := ds }) (hres : fn.resultTypes = #[tb])
    (htb : P.underlying tb = some .bool) (hl : laidOutB P = true) (hro : ∀ t ∈ fn.params.toList, P.readableRec t = true ∧ t < P.types.size)
    (hW : DataW.Whole enc P fn.params.toList s.vars false W args.toList ds gs before) (h1 : W'.os = W.os) (h2 : W'.output = W.output) (hb : ∀ b, b < W.heap.size → W'.heap[b]? = W.heap[b]?) :
    s.post enc P fn false true false false W args (.bool true) W' := by
  have hW0 := hW
  have hlt := hW.lt
  obtain ⟨p, q, hA, hV, rfl, _, _⟩ := hW
  rw [hvars] at hV
  obtain ⟨rfl, rfl⟩ := trodVars_none hV
  refine ⟨ds, [], p ++ [], [], p, [], hW0, ?_, ?_, ?_, keptBut_of h1 h2 hb _, fun h => by cases h⟩
  · rw [hfn, hres]
    exact ⟨[], [], ⟨1, by simp [DataW.trod, Value.cells, htb]⟩, rfl, rfl⟩
  · rw [hfn]
    exact trodAll_stays hl hb hro (fun x hx => hlt x (by simpa using hx)) hA
  · rw [hfn, hvars]
    exact rfl

end
end Go.Vm

namespace Go.Vm
set_option linter.unusedVariables false
set_option linter.unusedSimpArgs false

section
variable {P : Program} {cfg : Cfg} {T : CallSem} {n d f r na q : Nat} {s s' : St} {e : Ex} {x : Ex × St}

theorem round_some (h : roundK P cfg T n d f r na s = some x) : ∃ b, loopBody P f r = some b ∧ ∃ y, aexec cfg T (runI P cfg T n d) f b.1 na n b.2 s = some y ∧
    (match y.1 with | .nrm => (clean na (cfg.lh f r).head y.2).bind fun s => some (.nrm, s) | e => (clean na (cfg.lh f r).out y.2).bind fun s => some (e, s)) = some x := by
  unfold roundK at h
  split at h
  · rename_i b hb
    obtain ⟨y, h1, h2⟩ := aexecK_some (runK_some d) b.2 h
    exact ⟨b, hb, y, h1, h2⟩
  · cases h

theorem lp_next (h : roundK P cfg T n d f r na s = some (.nrm, s')) (hl : lp P cfg T n d f r na q s' = some x) : lp P cfg T n d f r na (q + 1) s = some x := by
  obtain ⟨b, hb, ⟨e, y⟩, h1, h2⟩ := round_some h
  unfold lp at hl ⊢
  rw [hb] at hl ⊢
  simp only at hl ⊢
  simp only [loopA, h1, Option.bind_some]
  cases e with
  | nrm =>
    simp only [Option.bind_eq_some_iff, Option.some.injEq, Prod.mk.injEq, true_and] at h2 ⊢
    obtain ⟨s1, h3, rfl⟩ := h2
    exact ⟨s1, h3, hl⟩
  | ext id =>
    simp only [Option.bind_eq_some_iff, Option.some.injEq, Prod.mk.injEq] at h2
    obtain ⟨s1, h3, h4, _⟩ := h2
    cases h4
  | ret =>
    simp only [Option.bind_eq_some_iff, Option.some.injEq, Prod.mk.injEq] at h2
    obtain ⟨s1, h3, h4, _⟩ := h2
    cases h4

theorem lp_out (h : roundK P cfg T n d f r na s = some (e, s')) (he : isN e = false) : lp P cfg T n d f r na (q + 1) s = some (e, s') := by
  obtain ⟨b, hb, ⟨e1, y⟩, h1, h2⟩ := round_some h
  unfold lp
  rw [hb]
  simp only
  simp only [loopA, h1, Option.bind_some]
  cases e1 with
  | nrm =>
    simp only [Option.bind_eq_some_iff, Option.some.injEq, Prod.mk.injEq] at h2
    obtain ⟨s1, h3, h4, _⟩ := h2
    rw [← h4] at he
    cases he
  | ext id => exact h2
  | ret => exact h2

theorem pres_f {f : FuncId} {xs : List V} {y : F} (h : T f xs [] = some (.c (.f y), [], [])) : pres T f xs = some (.c (.f y)) := by
  unfold pres
  rw [h]
  rfl

theorem snap_fs (h : Hp) : ∀ (fs : List F), lmapM (snapC h) (fs.map C.f) = some (fs.map C.f)
  | [] => rfl
  | f :: fs => by simp only [List.map_cons, lmapM, snapC, Option.bind_some, snap_fs h fs]

theorem pres_ag {f : FuncId} {xs : List V} {fs : List F} (h : T f xs [] = some (.ag fs, [], [])) : pres T f xs = some (.ag fs) := by
  unfold pres
  rw [h]
  simp only [Option.bind_some, frzBack, snap_fs, Option.map_some]

end
end Go.Vm
