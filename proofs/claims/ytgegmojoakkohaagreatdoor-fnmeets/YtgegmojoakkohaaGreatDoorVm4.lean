/-
  Regions that draw their order: what an operation depends on.
-/
import Derived.Test.YtgegmojoakkohaaGreatDoorVm3
import Derived.Tactics
import Derived.Orders
import Derived.LoopN
namespace Go.Vm
set_option linter.unusedVariables false
set_option linter.unusedSimpArgs false

section
variable {P : Program} {cfg : Cfg} {T Ti : CallSem} {me : FuncId} {fr fr2 : Fr} {h h2 : Hp} {dst : Option Nat} {ty : TypeId} {op : Op} {v : V} {e : Eff}

/-! ### On the frame -/

theorem evT_congr {T : TypeId} {x : Operand} (hx : ∀ t, x = .tmp t → fr t = fr2 t) : evT cfg fr T x = evT cfg fr2 T x := by
  cases x <;> simp only [evT]
  rw [hx _ rfl]

theorem ev_congr {x : Operand} (hx : ∀ t, x = .tmp t → fr t = fr2 t) : ev fr x = ev fr2 x := by
  cases x <;> simp only [ev]
  · rw [hx _ rfl]
  · rename_i v; cases v <;> rfl

theorem optI_congr {x : Option Operand} (hx : ∀ t, x = some (.tmp t) → fr t = fr2 t) : optI fr x = optI fr2 x := by
  cases x with
  | none => rfl
  | some y => simp only [optI]; rw [ev_congr fun t ht => hx t (by rw [ht])]

theorem evTs_congr : ∀ {xs : List Operand} {Ts : List TypeId}, (∀ t, .tmp t ∈ xs → fr t = fr2 t) → evTs cfg fr xs Ts = evTs cfg fr2 xs Ts
  | [], _, _ => rfl
  | x :: xs, [], _ => rfl
  | x :: xs, T :: Ts, hx => by
    simp only [evTs]
    rw [evT_congr fun t ht => hx t (by rw [← ht]; exact List.mem_cons_self ..), evTs_congr fun t ht => hx t (List.mem_cons_of_mem _ ht)]

theorem lmapM_congr {α β : Type} {f g : α → Option β} : ∀ {l : List α}, (∀ x ∈ l, f x = g x) → lmapM f l = lmapM g l
  | [], _ => rfl
  | x :: l, hx => by simp only [lmapM]; rw [hx x (List.mem_cons_self ..), lmapM_congr fun y hy => hx y (List.mem_cons_of_mem _ hy)]

theorem foldl_congr' {α β : Type} {f g : β → α → β} : ∀ {l : List α} {b : β}, (∀ x ∈ l, ∀ b, f b x = g b x) → l.foldl f b = l.foldl g b
  | [], _, _ => rfl
  | x :: l, b, hx => by simp only [List.foldl_cons]; rw [hx x (List.mem_cons_self ..), foldl_congr' fun y hy => hx y (List.mem_cons_of_mem _ hy)]

theorem bld_congr {T : TypeId} {ps : List (Nat × Operand)} (hx : ∀ p ∈ ps, ∀ t, p.2 = .tmp t → fr t = fr2 t) : bld cfg fr T ps = bld cfg fr2 T ps := by
  unfold bld
  congr 1
  funext i
  congr 2
  refine foldl_congr' fun p hp b => ?_
  have : ∀ u, evT cfg fr u p.2 = evT cfg fr2 u p.2 := fun u => evT_congr (hx p hp)
  simp only [this]

theorem bldS_congr {T : TypeId} {n : Nat} {ps : List (Nat × Operand)} (hx : ∀ p ∈ ps, ∀ t, p.2 = .tmp t → fr t = fr2 t) : bldS cfg fr T n ps = bldS cfg fr2 T n ps := by
  unfold bldS
  have : ∀ (k : Kind) (e : TypeId), lmapM (fun p : Nat × Operand => (evT cfg fr e p.2).bind fun v => (cellsV v).bind fun cs => (lmapM frzC cs).bind (ofCells k)) ps =
      lmapM (fun p : Nat × Operand => (evT cfg fr2 e p.2).bind fun v => (cellsV v).bind fun cs => (lmapM frzC cs).bind (ofCells k)) ps := fun k e =>
    lmapM_congr fun p hp => by rw [evT_congr (hx p hp)]
  simp only [this]

theorem slc_congr {T : TypeId} {x : V} {lo hi mx : Option Operand} (h1 : ∀ t, lo = some (.tmp t) → fr t = fr2 t) (h2 : ∀ t, hi = some (.tmp t) → fr t = fr2 t) : slc cfg fr T x lo hi mx = slc cfg fr2 T x lo hi mx := by
  unfold slc
  rw [optI_congr h1, optI_congr h2]

theorem aop_congr (hx : ∀ t, .tmp t ∈ op.operands → fr t = fr2 t) : aop cfg T Ti me fr h dst ty op = aop cfg T Ti me fr2 h dst ty op := by
  cases op <;> simp only [aop] <;> simp only [Op.operands] at hx <;> try rfl
  case move x => rw [evT_congr fun t ht => hx t (by simp [ht])]
  case assign x => rw [evT_congr fun t ht => hx t (by simp [ht])]
  case pick c a b => rw [ev_congr (x := c) fun t ht => hx t (by simp [ht]), evT_congr (x := a) fun t ht => hx t (by simp [ht]), evT_congr (x := b) fun t ht => hx t (by simp [ht])]
  case box t x => simp only [evT_congr (x := x) (fr := fr) (fr2 := fr2) fun t ht => hx t (by simp [ht])]
  case build t ps => rw [bld_congr fun p hp t ht => hx t (by rw [← ht]; simp; exact ⟨p.1, by simpa using hp⟩)]
  case buildSlice t n ps => rw [bldS_congr fun p hp t ht => hx t (by rw [← ht]; simp; exact ⟨p.1, by simpa using hp⟩)]
  case load t x => rw [ev_congr (x := x) fun t ht => hx t (by simp [ht])]
  case store t x y => rw [ev_congr (x := x) fun t ht => hx t (by simp [ht])]; simp only [evT_congr (x := y) (fr := fr) (fr2 := fr2) fun t ht => hx t (by simp [ht])]
  case nilCheck x => rw [ev_congr (x := x) fun t ht => hx t (by simp [ht])]
  case binOp op t x y q => rw [ev_congr (x := x) fun t ht => hx t (by simp [ht]), ev_congr (x := y) fun t ht => hx t (by simp [ht])]
  case unOp op t x => rw [ev_congr (x := x) fun t ht => hx t (by simp [ht])]
  case convert s t x => rw [ev_congr (x := x) fun t ht => hx t (by simp [ht])]
  case makeSlice t x y => rw [ev_congr (x := x) fun t ht => hx t (by simp [ht]), ev_congr (x := y) fun t ht => hx t (by simp [ht])]
  case makeFunc f first caps =>
    cases f <;> simp only [aop]
    rw [lmapM_congr fun x hxx => by rw [ev_congr (x := x) (fr := fr) (fr2 := fr2) fun t ht => hx t (by rw [← ht]; simp; exact .inr (by simpa using hxx))]]
  case slice t x lo hi mx =>
    rw [ev_congr (x := x) fun t ht => hx t (by simp [ht])]
    simp only [slc_congr (fr := fr) (fr2 := fr2) (lo := lo) (hi := hi) (fun t ht => hx t (by simp [ht])) (fun t ht => hx t (by simp [ht]))]
  case fieldAddr t x j => rw [ev_congr (x := x) fun t ht => hx t (by simp [ht])]
  case field t x j => rw [ev_congr (x := x) fun t ht => hx t (by simp [ht])]
  case indexAddr t x j => rw [ev_congr (x := x) fun t ht => hx t (by simp [ht]), ev_congr (x := j) fun t ht => hx t (by simp [ht])]
  case index t x j => rw [ev_congr (x := x) fun t ht => hx t (by simp [ht]), ev_congr (x := j) fun t ht => hx t (by simp [ht])]
  case extract x j => rw [ev_congr (x := x) fun t ht => hx t (by simp [ht])]
  case call c =>
    rw [evTs_congr fun t ht => hx t (by simp [Call.operands]; exact .inr (by simpa using ht))]
    cases hc : c.callee with
    | value f =>
      simp only [Call.operands, hc] at hx
      simp only [ev_congr (x := f) (fr := fr) (fr2 := fr2) fun t ht => hx t (by simp [ht])]
    | builtin b => rfl
    | invoke r m => rfl

/-! ### On memory: not at all -/

theorem retH_none {x : Option V} (hr : retH x = some (v, e)) : x = some v ∧ e = .none := by
  unfold retH at hr
  rw [Option.map_eq_some_iff] at hr
  obtain ⟨y, rfl, heq⟩ := hr
  simp only [Prod.mk.injEq] at heq
  exact ⟨by rw [heq.1], heq.2.symm⟩

theorem aop_pure (hc : clsOf cfg me op = .pure) (ha : aop cfg T Ti me fr h dst ty op = some (v, e)) : e = .none ∧ ∀ h2, aop cfg T Ti me fr h2 dst ty op = some (v, .none) := by
  cases op <;> simp only [aop] at ha ⊢ <;> simp only [clsOf] at hc <;> try (first | (cases ha; done) | (cases hc; done))
  case move x => obtain ⟨h1, rfl⟩ := retH_none ha; exact ⟨rfl, fun _ => ha⟩
  case assign x => obtain ⟨h1, rfl⟩ := retH_none ha; exact ⟨rfl, fun _ => ha⟩
  case pick c a b =>
    have : e = .none := by
      simp only [Option.bind_eq_some_iff] at ha
      obtain ⟨_, _, b, _, ha⟩ := ha
      cases b <;> simp at ha <;> exact (retH_none ha).2
    subst this
    exact ⟨rfl, fun _ => ha⟩
  case build t ps => obtain ⟨h1, rfl⟩ := retH_none ha; exact ⟨rfl, fun _ => ha⟩
  case buildSlice t n ps =>
    cases hb : cfg.br me with
    | true => rw [hb] at hc; cases hc
    | false =>
      rw [hb] at ha
      simp only [rowOf, cond_false, Option.bind_eq_some_iff, Option.some.injEq, Prod.mk.injEq] at ha
      obtain ⟨v', h1, rfl, rfl⟩ := ha
      refine ⟨rfl, fun _ => ?_⟩
      simp only [h1, Option.bind_some, rowOf, cond_false]
  case nilCheck x =>
    have : e = .none := by
      simp only [Option.bind_eq_some_iff] at ha
      obtain ⟨_, _, ha⟩ := ha
      exact (retH_none ha).2
    subst this
    exact ⟨rfl, fun _ => ha⟩
  case binOp op t x y q =>
    have : e = .none := by
      simp only [Option.bind_eq_some_iff] at ha
      obtain ⟨_, _, _, _, ha⟩ := ha
      exact (retH_none ha).2
    subst this
    exact ⟨rfl, fun _ => ha⟩
  case unOp op t x =>
    have : e = .none := by
      simp only [Option.bind_eq_some_iff] at ha
      obtain ⟨_, _, ha⟩ := ha
      exact (retH_none ha).2
    subst this
    exact ⟨rfl, fun _ => ha⟩
  case convert s t x =>
    have : e = .none := by
      simp only [Option.bind_eq_some_iff] at ha
      obtain ⟨_, _, ha⟩ := ha
      exact (retH_none ha).2
    subst this
    exact ⟨rfl, fun _ => ha⟩
  case makeFunc f first caps =>
    cases f <;> simp only [aop] at ha ⊢ <;> try (cases ha; done)
    have : e = .none := by
      cases hf : first.isEmpty <;> rw [hf] at ha <;> simp at ha
      obtain ⟨_, _, _, he⟩ := ha
      exact he.symm
    subst this
    exact ⟨rfl, fun _ => ha⟩
  case slice t x lo hi mx =>
    have : e = .none := by
      simp only [Option.bind_eq_some_iff] at ha
      obtain ⟨_, _, ha⟩ := ha
      exact (retH_none ha).2
    subst this
    exact ⟨rfl, fun _ => ha⟩
  case fieldAddr t x j =>
    have : e = .none := by
      simp only [Option.bind_eq_some_iff] at ha
      obtain ⟨_, _, ha⟩ := ha
      exact (retH_none ha).2
    subst this
    exact ⟨rfl, fun _ => ha⟩
  case field t x j =>
    have : e = .none := by
      simp only [Option.bind_eq_some_iff] at ha
      obtain ⟨_, _, ha⟩ := ha
      exact (retH_none ha).2
    subst this
    exact ⟨rfl, fun _ => ha⟩
  case index t x j =>
    have : e = .none := by
      simp only [Option.bind_eq_some_iff] at ha
      obtain ⟨_, _, _, _, ha⟩ := ha
      exact (retH_none ha).2
    subst this
    exact ⟨rfl, fun _ => ha⟩
  case extract x j =>
    have : e = .none := by
      simp only [Option.bind_eq_some_iff] at ha
      obtain ⟨_, _, ha⟩ := ha
      exact (retH_none ha).2
    subst this
    exact ⟨rfl, fun _ => ha⟩
  case call c =>
    cases hcal : c.callee with
    | value f =>
      obtain ⟨callee, args, tys⟩ := c
      simp only at hcal
      subst hcal
      exfalso
      cases f <;> simp at hc
      split at hc <;> cases hc
    | invoke r m =>
      rw [hcal] at ha
      simp only [Option.bind_eq_some_iff] at ha
      obtain ⟨_, _, _, _, ha⟩ := ha
      cases ha
    | builtin b =>
      obtain ⟨callee, args, tys⟩ := c
      simp only at hcal
      subst hcal
      simp only [Option.bind_eq_some_iff] at ha ⊢
      obtain ⟨d, hd, as, has, ha⟩ := ha
      cases b <;> simp only [blt] at ha hc ⊢ <;> try (first | (cases ha; done) | (cases hc; done))
      · obtain ⟨h1, rfl⟩ := retH_none ha
        exact ⟨rfl, fun _ => ⟨d, hd, as, has, ha⟩⟩
      · obtain ⟨h1, rfl⟩ := retH_none ha
        exact ⟨rfl, fun _ => ⟨d, hd, as, has, ha⟩⟩

/-! ### On memory: on what is there -/

def HLe (h h2 : Hp) : Prop := ∀ i o, h i = some o → h2 i = some o

theorem HLe.bind {α : Type} (hle : HLe h h2) {i : Id} {f : Go.Vm.Obj → Option α} {r : α} (hb : (h i).bind f = some r) : (h2 i).bind f = some r := by
  rw [Option.bind_eq_some_iff] at hb
  obtain ⟨o, ho, hb⟩ := hb
  rw [hle i o ho]
  exact hb

theorem ld_mono (hle : HLe h h2) {T : TypeId} {x : V} (hl : ld cfg h T x = some v) : ld cfg h2 T x = some v := by
  unfold ld at hl ⊢
  rw [Option.bind_eq_some_iff] at hl
  obtain ⟨i, hT, hl⟩ := hl
  rw [hT]
  simp only [Option.bind_some]
  split at hl
  · exact hle.bind hl
  · exact hl
  · exact hle.bind hl
  · cases hl

theorem ixA_mono (hle : HLe h h2) {T : TypeId} {x i : V} (hl : ixA cfg h T x i = some v) : ixA cfg h2 T x i = some v := by
  unfold ixA at hl ⊢
  rw [Option.bind_eq_some_iff] at hl
  obtain ⟨k, hk, hl⟩ := hl
  rw [Option.bind_eq_some_iff] at hl
  obtain ⟨n, hn, hl⟩ := hl
  rw [hk, hn]
  simp only [Option.bind_some]
  split at hl
  · exact hl
  · rename_i id k'
    cases hd : decide (k' = k) with
    | false => rw [hd] at hl; simp at hl
    | true =>
      rw [hd] at hl
      simp only [cond_true] at hl ⊢
      exact hle.bind hl
  · cases hl

theorem slen_mono (hle : HLe h h2) {x : V} {n : Nat} (hl : slen h x = some n) : slen h2 x = some n := by
  unfold slen at hl ⊢
  split at hl
  · exact hl
  · exact hl
  · exact hle.bind hl
  · cases hl

theorem items_mono (hle : HLe h h2) {k : Kind} {x : V} {l : List (El k)} (hl : items h k x = some l) : items h2 k x = some l := by
  unfold items at hl ⊢
  split at hl
  · exact hl
  · exact hle.bind hl
  · exact hl
  · cases hl

theorem lmapM_mono {α β : Type} {f g : α → Option β} (hfg : ∀ x y, f x = some y → g x = some y) : ∀ {l : List α} {r : List β}, lmapM f l = some r → lmapM g l = some r
  | [], r, hl => hl
  | x :: l, r, hl => by
    simp only [lmapM, Option.bind_eq_some_iff] at hl ⊢
    obtain ⟨y, hy, ys, hys, hr⟩ := hl
    exact ⟨y, hfg _ _ hy, ys, lmapM_mono hfg hys, hr⟩

theorem snapB_mono (hle : HLe h h2) {c d : C} (hl : snapB h c = some d) : snapB h2 c = some d := by
  unfold snapB at hl ⊢
  split at hl
  · exact hl
  · exact hle.bind hl
  · cases hl

theorem snapC_mono (hle : HLe h h2) {c d : C} (hl : snapC h c = some d) : snapC h2 c = some d := by
  unfold snapC at hl ⊢
  split at hl
  · exact hl
  · exact hle.bind hl
  · exact hle.bind hl
  · exact snapB_mono hle hl
  · simp only [Option.map_eq_some_iff] at hl ⊢
    obtain ⟨y, hy, hd⟩ := hl
    exact ⟨y, lmapM_mono (fun _ _ => snapB_mono hle) hy, hd⟩
  · exact hl
  · cases hl

theorem snapV_mono (hle : HLe h h2) {c d : V} (hl : snapV h c = some d) : snapV h2 c = some d := by
  cases c with
  | c x =>
    simp only [snapV, Option.map_eq_some_iff] at hl ⊢
    obtain ⟨y, hy, hd⟩ := hl
    exact ⟨y, snapC_mono hle hy, hd⟩
  | agg cs =>
    simp only [snapV, Option.map_eq_some_iff] at hl ⊢
    obtain ⟨y, hy, hd⟩ := hl
    exact ⟨y, lmapM_mono (fun _ _ => snapC_mono hle) hy, hd⟩
  | tup vs => simp [snapV] at hl

theorem pcall_mono (hle : HLe h h2) {f : FuncId} {args : List V} {sh : Sh} (hl : pcall T h f args sh = some v) : pcall T h2 f args sh = some v := by
  unfold pcall at hl ⊢
  rw [Option.bind_eq_some_iff] at hl
  obtain ⟨as, has, hl⟩ := hl
  rw [lmapM_mono (fun _ _ => snapV_mono hle) has]
  exact hl

theorem hcall_heap {d : Nat} {f : FuncId} {args : List V} (hl : hcall T h d f args = some (v, e)) : ∃ h', e = .heap h' := by
  unfold hcall at hl
  simp only at hl
  cases hd : distinct (reach h 3 (addNew [] (refsVs args))) with
  | false => rw [hd] at hl; simp at hl
  | true =>
    rw [hd] at hl
    simp only [cond_true, Option.bind_eq_some_iff] at hl
    obtain ⟨os, _, r, _, hb⟩ := hl
    exact handBack_heap hb

theorem hcallS_heap {d : Nat} {f : FuncId} {args : List V} {sh : Sh} (hl : hcallS T h d f args sh = some (v, e)) : ∃ h', e = .heap h' := by
  unfold hcallS at hl
  simp only at hl
  cases hd : distinct (reach h 3 (addNew [] (refsVs args))) with
  | false => rw [hd] at hl; simp at hl
  | true =>
    rw [hd] at hl
    simp only [cond_true, Option.bind_eq_some_iff] at hl
    obtain ⟨os, _, r, _, v1, _, os', _, hb⟩ := hl
    cases hcond : (Nat.beq r.2.1.length os.length && isNil r.2.2) with
    | false => rw [hcond] at hb; simp at hb
    | true => rw [hcond] at hb; simp only [cond_true] at hb; exact handBack_heap hb

theorem appRow_quiet {d : Nat} {k : Kind} {id : Id} {l xs : List (El k)} (ha : appRow h d k id l xs = some (v, e)) (hq : quietE e = true) : appRow h2 d k id l xs = some (v, e) := by
  unfold appRow at ha ⊢
  split at ha
  · exact ha
  · exfalso
    split at ha
    · rename_i y ys _ _
      cases hb : Nat.ble (l.length + (y :: ys).length) appMax with
      | false => rw [hb] at ha; simp at ha
      | true =>
        rw [hb] at ha
        simp at ha
        simp [← ha.2, quietE] at hq
    · simp at ha

theorem app_mono (hle : HLe h h2) {d : Nat} {k : Kind} {s x : V} (ha : app h d k s x = some (v, e)) (hq : quietE e = true) : app h2 d k s x = some (v, e) := by
  unfold app at ha ⊢
  rw [Option.bind_eq_some_iff] at ha
  obtain ⟨xs, hxs, ha⟩ := ha
  rw [items_mono hle hxs]
  simp only [Option.bind_some]
  split at ha
  · exact ha
  · rename_i id k'
    rw [Option.bind_eq_some_iff] at ha
    obtain ⟨o, ho, ha⟩ := ha
    rw [hle _ _ ho]
    simp only [Option.bind_some]
    split at ha
    · rename_i wr k2 l
      by_cases hk : k2 = k
      · subst hk
        simp only [dite_true] at ha ⊢
        cases hn : notRow id x with
        | false => rw [hn] at ha; simp at ha
        | true =>
          rw [hn] at ha
          simp only [cond_true] at ha ⊢
          exact appRow_quiet ha hq
      · simp [hk] at ha
    · simp at ha
  · cases ha

theorem appNew_mono (hle : HLe h h2) {d : Nat} {k : Kind} {s x : V} (ha : appNew h d k s x = some (v, e)) : appNew h2 d k s x = some (v, e) := by
  unfold appNew at ha ⊢
  rw [Option.bind_eq_some_iff] at ha
  obtain ⟨xs, hxs, ha⟩ := ha
  rw [items_mono hle hxs]
  exact ha

theorem natV_mono (hle : HLe h h2) {d : Nat} {nt : Nt} {args : List V} (ha : natV h d nt args = some (v, e)) (hq : quietE e = true) : natV h2 d nt args = some (v, e) := by
  unfold natV at ha ⊢
  split at ha
  · rw [Option.bind_eq_some_iff] at ha
    obtain ⟨xs, hxs, ha⟩ := ha
    simp only [items_mono hle hxs, Option.bind_some]
    exact ha
  · cases ha

theorem aop_mono (hle : HLe h h2) (ha : aop cfg T Ti me fr h dst ty op = some (v, e)) (hq : quietE e = true) : aop cfg T Ti me fr h2 dst ty op = some (v, e) := by
  cases op <;> simp only [aop] at ha ⊢ <;> try exact ha
  case load t x =>
    simp only [Option.bind_eq_some_iff] at ha ⊢
    obtain ⟨a, ha1, ha⟩ := ha
    obtain ⟨h1, rfl⟩ := retH_none ha
    exact ⟨a, ha1, by unfold retH; rw [ld_mono hle h1]; rfl⟩
  case store t x y =>
    exfalso
    simp only [Option.bind_eq_some_iff, Option.map_eq_some_iff, Prod.mk.injEq] at ha
    obtain ⟨_, _, _, _, _, _, _, rfl⟩ := ha
    simp [quietE] at hq
  case makeFunc f first caps => cases f <;> simp only [aop] at ha ⊢ <;> exact ha
  case indexAddr t x j =>
    simp only [Option.bind_eq_some_iff] at ha ⊢
    obtain ⟨a, ha1, b, hb1, ha⟩ := ha
    obtain ⟨h1, rfl⟩ := retH_none ha
    exact ⟨a, ha1, b, hb1, by unfold retH; rw [ixA_mono hle h1]; rfl⟩
  case call c =>
    simp only [Option.bind_eq_some_iff] at ha ⊢
    obtain ⟨d, hd, args, hargs, ha⟩ := ha
    refine ⟨d, hd, args, hargs, ?_⟩
    cases hc : c.callee with
    | value f =>
      rw [hc] at ha
      simp only [Option.bind_eq_some_iff] at ha ⊢
      obtain ⟨fv, hfv, ha⟩ := ha
      refine ⟨fv, hfv, ?_⟩
      unfold callV at ha ⊢
      split at ha
      · rename_i g caps
        cases hn : cfg.nat g with
        | some nt =>
          rw [hn] at ha
          simp only at ha ⊢
          cases hcs : isNil caps with
          | false => rw [hcs] at ha; cases ha
          | true => rw [hcs] at ha; exact natV_mono hle ha hq
        | none =>
        rw [hn] at ha
        simp only at ha ⊢
        split at ha
        · obtain ⟨h1, rfl⟩ := retH_none ha
          unfold retH
          rw [pcall_mono hle h1]
          rfl
        · obtain ⟨_, rfl⟩ := hcallS_heap ha; simp [quietE] at hq
        · obtain ⟨_, rfl⟩ := hcall_heap ha; simp [quietE] at hq
      · cases ha
    | invoke r m => rw [hc] at ha; cases ha
    | builtin b =>
      rw [hc] at ha
      simp only at ha ⊢
      unfold blt at ha ⊢
      split at ha
      · simp only [Option.bind_eq_some_iff, cond_eq_ite] at ha ⊢
        obtain ⟨i, hT, ha⟩ := ha
        refine ⟨i, hT, ?_⟩
        split at ha
        · rename_i hs
          rw [if_pos hs]
          simp only [Option.map_eq_some_iff] at ha ⊢
          obtain ⟨n, hn, he⟩ := ha
          simp only [Option.bind_eq_bind, Option.bind_eq_some_iff] at hn ⊢
          obtain ⟨m, hm, hn⟩ := hn
          exact ⟨n, ⟨m, slen_mono hle hm, hn⟩, he⟩
        · cases ha
      · simp only [Option.bind_eq_some_iff, cond_eq_ite] at ha ⊢
        obtain ⟨k, hk, i, hT, ha⟩ := ha
        refine ⟨k, hk, i, hT, ?_⟩
        split at ha
        · rename_i hs
          rw [if_pos hs]
          by_cases hn : cfg.ar me d = true
          · rw [if_pos hn] at ha ⊢
            exact appNew_mono hle ha
          · rw [if_neg hn] at ha ⊢
            exact app_mono hle ha hq
        · cases ha
      · exact ha
      · exact ha
      · cases ha

end
end Go.Vm

namespace Go.Vm
variable {G : Gl}
set_option linter.unusedVariables false
set_option linter.unusedSimpArgs false

/-- The machine's state stands for the frame and the world; what has become of memory since the start. -/
def Rp (G : Gl) (U : Nat → Prop) (h0 : Hp) (loc0 : Loc) (w0 : World) (nt : Nat) (fr : Fr) (h : Hp) (a : Act) (w : World) : Prop :=
  ∃ loc, HW G U h loc w ∧ FrW w (Mut U h loc) h loc a fr ∧ Ext U h0 loc0 w0 h loc w ∧ a.tmps.size = nt ∧ a.defers = []

section
variable {P : Program} {cfg : Cfg} {T Ti : CallSem} {me nt : Nat} {U : Nat → Prop} {h0 : Hp} {loc0 : Loc} {w0 : World} {fr fr' : Fr} {h h' : Hp} {a : Act} {w : World} {ops : Array Oper}

theorem guardA_ok {M : Nat → Prop} {loc : Loc} {o : Oper} {g : Bool} (hf : FrW w M h loc a fr) (hg : guardA fr ops.toList o.guard = some g) : Region.wanted o (yielded ops a.tmps) = g := by
  unfold Region.wanted
  cases hgd : o.guard with
  | none => rw [hgd] at hg; simp [guardA] at hg; rw [hg]
  | some p =>
    obtain ⟨j, want⟩ := p
    rw [hgd] at hg
    simp only [guardA, Option.bind_eq_some_iff] at hg
    obtain ⟨t, ⟨oj, hoj, hdst⟩, hg⟩ := hg
    have hoj' : ops[j]? = some oj := by simpa using hoj
    have hft := hf t
    simp only [yielded, hoj', Option.bind_some, hdst]
    split at hg
    · rename_i b hfr
      rw [hfr] at hft
      have hv := hft.sc
      simp at hg
      subst hg
      have : a.tmps[t]? = some (.bool b) := by
        rw [Array.getD_eq_getD_getElem?] at hv
        cases hx : a.tmps[t]? with
        | none => rw [hx] at hv; simp [undef] at hv
        | some x => rw [hx] at hv; simp at hv; rw [hv]
      rw [this]
      simp
    · rename_i hfr
      rw [hfr] at hft
      unfold VW CW at hft
      simp at hg
      subst hg
      rw [Array.getD_eq_getD_getElem?] at hft
      cases hx : a.tmps[t]? with
      | none => simp
      | some x =>
        rw [hx] at hft
        simp only [Option.getD_some] at hft
        subst hft
        simp [undef]
    · cases hg

theorem FrW.put {M : Nat → Prop} {loc : Loc} {dst : Option Nat} {u : Value} {v : V} (hf : FrW w M h loc a fr) (hv : VW w M h loc u v) (hp : putD nt fr dst v = some fr') (hn : a.tmps.size = nt) :
    FrW w M h loc (a.put dst u) fr' ∧ (a.put dst u).tmps.size = nt ∧ (a.put dst u).defers = a.defers := by
  cases dst with
  | none => simp [putD] at hp; subst hp; exact ⟨hf, hn, rfl⟩
  | some d =>
    simp only [putD] at hp
    cases hb : Nat.blt d nt with
    | false => rw [hb] at hp; simp at hp
    | true =>
      rw [hb] at hp
      simp at hp
      subst hp
      have hlt : d < a.tmps.size := by rw [hn]; simp [Nat.blt] at hb; omega
      refine ⟨fun t => ?_, by simpa [Act.put] using hn, rfl⟩
      simp only [Act.put]
      by_cases ht : t = d
      · subst ht
        rw [upd_self]
        rw [Array.getD_eq_getD_getElem?, Array.getElem?_setIfInBounds_self_of_lt hlt]
        exact hv
      · rw [upd_ne _ _ ht, Array.getD_eq_getD_getElem?, Array.getElem?_setIfInBounds_ne (Ne.symm ht), ← Array.getD_eq_getD_getElem?]
        exact hf t

theorem FrW.ext {loc loc' : Loc} {w' : World} (e : Ext U h loc w h' loc' w') (hf : FrW w (Mut U h loc) h loc a fr) : FrW w' (Mut U h' loc') h' loc' a fr := fun t => VW.ext e _ (hf t)

theorem Rp.post {loc loc' : Loc} {w' : World} {dst : Option Nat} {u : Value} {v : V} (hf : FrW w (Mut U h loc) h loc a fr) (hex : Ext U h0 loc0 w0 h loc w) (hn : a.tmps.size = nt) (hd : a.defers = []) (hp : PostV G U h loc w h' v u w' loc') (hput : putD nt fr dst v = some fr') :
    Rp G U h0 loc0 w0 nt fr' h' (a.put dst u) w' := by
  obtain ⟨h1, h2, h3⟩ := (hf.ext hp.2.1).put hp.2.2 hput hn
  exact ⟨loc', hp.1, h1, hex.trans hp.2.1, h2, by rw [h3, hd]⟩

/-- One operation that has been carried out by the machine. -/
theorem op_wp (ht : TabOK P cfg) (hT : TOK G P T) (hTi : TOK G P Ti) {o : Oper} {v : V} {e : Eff} {K : Act → World → Prop} {Q : Exit → Act → World → Prop} (hr : Rp G U h0 loc0 w0 nt fr h a w)
    (ha : aop cfg T Ti me fr h o.dst o.type o.op = some (v, e)) (he : applyE h e = some h') (hp : putD nt fr o.dst v = some fr') (hK : ∀ a' w', Rp G U h0 loc0 w0 nt fr' h' a' w' → K a' w') : o.wp P a w K Q := by
  obtain ⟨loc, hw, hf, hex, hn, hd⟩ := hr
  have hok := aop_ok ht hT hTi hw hf ha he
  unfold Oper.wp
  generalize (execOp a.eval o).run P w = r at hok ⊢
  cases r with
  | halt x w' => exact hok.elim
  | ok n w' =>
    cases n with
    | value u => obtain ⟨loc', hpv⟩ := hok; exact hK _ _ (Rp.post hf hex hn hd hpv hp)
    | skip => obtain ⟨loc', hpv⟩ := hok; exact hK _ _ (Rp.post hf hex hn hd hpv hp)
    | enter f args =>
      obtain ⟨rfl, hc⟩ := hok
      refine hc.mono fun e' w'' => ?_
      rintro ⟨u, loc', rfl, hpv⟩
      exact hK _ _ (Rp.post hf hex hn hd hpv hp)
    | _ => exact hok.elim

theorem skip_wp {o : Oper} (hr : Rp G U h0 loc0 w0 nt fr h a w) (hp : putD nt fr o.dst (.c .und) = some fr') : Rp G U h0 loc0 w0 nt fr' h (a.put o.dst undef) w := by
  obtain ⟨loc, hw, hf, hex, hn, hd⟩ := hr
  exact Rp.post hf hex hn hd ⟨hw, Ext.refl _ _ _ _, by unfold VW CW; rfl⟩ hp

/-- The operations, one behind the other. -/
theorem ops_wp (ht : TabOK P cfg) (hT : TOK G P T) (hTi : TOK G P Ti) {Q : Exit → Act → World → Prop} {s' : St} : ∀ (l : List Oper) (s : St) (a : Act) (w : World), Rp G U h0 loc0 w0 nt s.fr s.h a w →
    runOps cfg T Ti me nt ops.toList l s = some s' → (∀ a' w', Rp G U h0 loc0 w0 nt s'.fr s'.h a' w' → Q .normal a' w') → wpList P ops Q l a w
  | [], s, a, w, hr, hs, hQ => by simp [runOps] at hs; subst hs; exact hQ a w hr
  | o :: l, s, a, w, hr, hs, hQ => by
    simp only [runOps, Option.bind_eq_some_iff] at hs
    obtain ⟨s1, h1, hs⟩ := hs
    simp only [stepO, Option.bind_eq_some_iff] at h1
    obtain ⟨g, hg, h1⟩ := h1
    have hwant : Region.wanted o (yielded ops a.tmps) = g := by
      obtain ⟨loc, hw, hf, _⟩ := hr
      exact guardA_ok hf hg
    simp only [wpList, hwant]
    cases g with
    | false =>
      simp only [cond_false, Option.bind_eq_some_iff, Option.some.injEq] at h1
      obtain ⟨fr', hp, rfl⟩ := h1
      exact ops_wp ht hT hTi l ⟨fr', s.h⟩ _ _ (skip_wp hr hp) hs hQ
    | true =>
      simp only [cond_true, Option.bind_eq_some_iff, Option.some.injEq] at h1
      obtain ⟨⟨v, e⟩, ha, h', he, fr', hp, rfl⟩ := h1
      exact .inl (op_wp ht hT hTi hr ha he hp fun a' w' hr' => ops_wp ht hT hTi l _ _ _ hr' hs hQ)

/-! ### Whatever order -/

def stepAt (cfg : Cfg) (T Ti : CallSem) (me nt : Nat) (dl : List Id) (ops : Array Oper) (i : Nat) (s : SD) : Option SD :=
  match ops[i]? with
  | none => some s
  | some o => stepD cfg T Ti me nt dl ops.toList (clsIn cfg me ops.toList i o) o s

def anyD (cfg : Cfg) (T Ti : CallSem) (me nt : Nat) (dl : List Id) (ops : Array Oper) (Q : SD → Prop) : Nat → Array Bool → SD → Prop
  | 0, listed, s => Region.ready .any ops listed = [] ∧ Q s
  | fuel + 1, listed, s => (Region.ready .any ops listed = [] → Q s) ∧
    ∀ i ∈ Region.ready .any ops listed, ∃ s', stepAt cfg T Ti me nt dl ops i s = some s' ∧ anyD cfg T Ti me nt dl ops Q fuel (listed.setIfInBounds i true) s'

variable {dl : List Id}

/-- What one operation yields, whatever it does to the table. -/
def evD (cfg : Cfg) (T Ti : CallSem) (me : Nat) (dl : List Id) (ops : List Oper) (c : Cls) (o : Oper) (fr : Fr) (h hr : Hp) : Option (Bool × V × Eff) :=
  (guardA fr ops o.guard).bind fun g => bif g then bif okD dl c fr o then (aop cfg T Ti me fr (tabD dl c h hr) o.dst o.type o.op).bind fun r => bif c.isW || quietE r.2 then some (true, r.1, r.2) else none
    else none else some (false, .c .und, .none)

def hrD (dl : List Id) (c : Cls) (g : Bool) (fr : Fr) (op : Op) (h' hr : Hp) : Hp := bif g then nextHr dl c fr op h' hr else hr

theorem effD_none {c : Cls} : effD dl c h .none = .none := by cases c <;> rfl

theorem effD_id {c : Cls} {e : Eff} (hc : c ≠ .lcall) : effD dl c h e = e := by cases c <;> first | rfl | exact absurd rfl hc

theorem tabD_quiet {c : Cls} {hr : Hp} (hc : c.isW = false) : tabD dl c h hr = hr := by cases c <;> simp [Cls.isW] at hc <;> rfl

theorem tabD_W {c : Cls} {hr hr2 : Hp} (hc : c.isW = true) : tabD dl c h hr = tabD dl c h hr2 := by cases c <;> simp [Cls.isW] at hc <;> rfl

theorem not_lcall {c : Cls} (hc : c.isW = false) : c ≠ .lcall := by rintro rfl; cases hc

theorem stepD_eq {c : Cls} {o : Oper} {s : SD} : stepD cfg T Ti me nt dl ops.toList c o s =
    (evD cfg T Ti me dl ops.toList c o s.fr s.h s.hr).bind fun r => (applyE s.h (effD dl c s.h r.2.2)).bind fun h' => (putD nt s.fr o.dst r.2.1).bind fun fr' => some ⟨fr', h', hrD dl c r.1 s.fr o.op h' s.hr⟩ := by
  unfold stepD evD hrD
  cases guardA s.fr ops.toList o.guard with
  | none => rfl
  | some g =>
    cases g with
    | false => simp [applyE, effD_none]
    | true =>
      simp only [Option.bind_some, cond_true]
      cases okD dl c s.fr o with
      | false => rfl
      | true =>
        simp only [cond_true]
        cases aop cfg T Ti me s.fr (tabD dl c s.h s.hr) o.dst o.type o.op with
        | none => rfl
        | some r => cases hq : (c.isW || quietE r.2) <;> simp [hq]

theorem guardA_congr {o : Oper} (hx : ∀ t ∈ o.looksAt ops, fr t = fr' t) : guardA fr ops.toList o.guard = guardA fr' ops.toList o.guard := by
  cases hg : o.guard with
  | none => rfl
  | some p =>
    obtain ⟨j, want⟩ := p
    simp only [guardA]
    cases ho : ops.toList[j]? with
    | none => rfl
    | some oj =>
      cases hdst : oj.dst with
      | none => simp [hdst]
      | some t =>
        simp only [Option.bind_some, hdst]
        have ho' : ops[j]? = some oj := by simpa using ho
        rw [hx t (by simp [Oper.looksAt, hg, ho', hdst])]

theorem looks_op {o : Oper} {t : Tmp} (h : .tmp t ∈ o.op.operands) : t ∈ o.looksAt ops := by
  unfold Oper.looksAt
  exact List.mem_append_left _ (List.mem_filterMap.2 ⟨.tmp t, by simpa using h, rfl⟩)

theorem stId_congr {op : Op} (hx : ∀ t, .tmp t ∈ op.operands → fr t = fr' t) : stId fr op = stId fr' op := by
  cases op <;> simp only [stId]
  rw [ev_congr fun t ht => hx t (by simp [Op.operands, ht])]

theorem ldId_congr {op : Op} (hx : ∀ t, .tmp t ∈ op.operands → fr t = fr' t) : ldId fr op = ldId fr' op := by
  cases op <;> simp only [ldId]
  · rw [ev_congr fun t ht => hx t (by simp [Op.operands, ht])]
  · rw [ev_congr fun t ht => hx t (by simp [Op.operands, ht])]

theorem okD_congr {c : Cls} {o : Oper} (hx : ∀ t, .tmp t ∈ o.op.operands → fr t = fr' t) : okD dl c fr o = okD dl c fr' o := by
  cases c <;> simp only [okD]
  · rw [ldId_congr hx]
  · rw [stId_congr hx]

theorem hrD_congr {c : Cls} {g : Bool} {op : Op} {h1 h2 : Hp} (hx : ∀ t, .tmp t ∈ op.operands → fr t = fr' t) : hrD dl c g fr op h1 h2 = hrD dl c g fr' op h1 h2 := by
  unfold hrD
  cases g with
  | false => rfl
  | true => cases c <;> simp only [nextHr, cond_true]; rw [stId_congr hx]

theorem evD_congr {c : Cls} {o : Oper} {hr : Hp} (hx : ∀ t ∈ o.looksAt ops, fr t = fr' t) : evD cfg T Ti me dl ops.toList c o fr h hr = evD cfg T Ti me dl ops.toList c o fr' h hr := by
  unfold evD
  rw [guardA_congr hx, okD_congr fun t ht => hx t (looks_op ht)]
  have : ∀ hh, aop cfg T Ti me fr hh o.dst o.type o.op = aop cfg T Ti me fr' hh o.dst o.type o.op := fun hh => aop_congr fun t ht' => hx t (looks_op ht')
  rw [this]

theorem putD_looks {o oi : Oper} {v : V} (hd : ∀ d, oi.dst = some d → d ∉ o.looksAt ops) (hp : putD nt fr oi.dst v = some fr') : ∀ t ∈ o.looksAt ops, fr' t = fr t := by
  intro t htm
  unfold putD at hp
  split at hp
  · rename_i d hdst
    cases hb : Nat.blt d nt with
    | false => rw [hb] at hp; simp at hp
    | true =>
      rw [hb] at hp
      simp at hp
      subst hp
      exact upd_ne _ _ (fun e => hd d hdst (e ▸ htm))
  · simp at hp; subst hp; rfl

theorem clsOf_plain {op : Op} : clsOf cfg me op = .pure ∨ clsOf cfg me op = .reads ∨ clsOf cfg me op = .writes := by
  unfold clsOf
  split <;> first | exact .inl rfl | exact .inr (.inl rfl) | exact .inr (.inr rfl) | (split <;> first | exact .inr (.inl rfl) | exact .inr (.inr rfl)) | (cases cfg.br me <;> first | exact .inl rfl | exact .inr (.inl rfl))

/-- What an operation's class tells of it. -/
theorem clsIn_tells {o : Oper} {i : Nat} {c : Cls} (hc : clsIn cfg me ops.toList i o = c) :
    (c = .pure → clsOf cfg me o.op = .pure) ∧ (c = .lload → isLoad o.op = true) ∧ (c = .lstore → isStore o.op = true) ∧ (c = .lcall → isHC cfg me o.op = true) ∧ (c = .lalloc → isAlloc o.op = true) := by
  subst hc
  unfold clsIn
  cases h1 : isAppend o.op with
  | true =>
    simp only [cond_true]
    cases ordered cfg me ops.toList i o <;> simp
  | false =>
    simp only [cond_false]
    cases h2 : isLoad o.op with
    | true =>
      simp only [cond_true]
      cases (looseTo isStore ops.toList i o || looseTo (isHC cfg me) ops.toList i o) <;> simp
    | false =>
      simp only [cond_false]
      cases h3 : isStore o.op with
      | true =>
        simp only [cond_true]
        cases looseTo isLoad ops.toList i o <;> simp
      | false =>
        simp only [cond_false]
        cases h4 : isHC cfg me o.op with
        | true =>
          simp only [cond_true]
          cases (looseTo isLoad ops.toList i o || looseTo isAlloc ops.toList i o) <;> simp
        | false =>
          simp only [cond_false]
          cases h5 : isAlloc o.op with
          | true =>
            simp only [cond_true]
            cases looseTo (isHC cfg me) ops.toList i o <;> simp
          | false =>
            simp only [cond_false]
            rcases clsOf_plain (cfg := cfg) (me := me) (op := o.op) with h | h | h <;> simp [h]

theorem clsIn_pure {o : Oper} {i : Nat} (hc : clsIn cfg me ops.toList i o = .pure) : clsOf cfg me o.op = .pure := (clsIn_tells hc).1 rfl

theorem load_form {op : Op} (h : isLoad op = true) : (∃ t x, op = .load t x) ∨ ∃ t x i, op = .indexAddr t x i := by
  cases op <;> cases h
  · exact .inl ⟨_, _, rfl⟩
  · exact .inr ⟨_, _, _, rfl⟩

theorem alloc_form {op : Op} (h : isAlloc op = true) : ∃ t, op = .alloc t := by
  cases op <;> cases h
  exact ⟨_, rfl⟩

theorem evD_pure {o : Oper} {i : Nat} {hr h2 hr2 : Hp} {r : Bool × V × Eff} (hc : clsIn cfg me ops.toList i o = .pure) (he : evD cfg T Ti me dl ops.toList .pure o fr h hr = some r) :
    r.2.2 = .none ∧ evD cfg T Ti me dl ops.toList .pure o fr h2 hr2 = some r := by
  have hcl := clsIn_pure hc
  unfold evD at he ⊢
  rw [Option.bind_eq_some_iff] at he
  obtain ⟨g, hg, he⟩ := he
  rw [hg]
  cases g with
  | false => simp at he; subst he; exact ⟨rfl, rfl⟩
  | true =>
    simp only [cond_true, Cls.isW, tabD, cond_false, okD, Option.bind_eq_some_iff] at he
    obtain ⟨⟨v, e⟩, ha, he⟩ := he
    obtain ⟨rfl, h3⟩ := aop_pure hcl ha
    simp [quietE] at he
    subst he
    refine ⟨rfl, ?_⟩
    simp only [Option.bind_some, cond_true, Cls.isW, tabD, cond_false, okD]
    rw [h3]
    simp [quietE]

theorem putD_comm {d d' : Option Nat} {v v' : V} {f1 f2 : Fr} (hne : ∀ x, d = some x → d' ≠ some x) (h1 : putD nt fr d v = some f1) (h2 : putD nt f1 d' v' = some f2) :
    ∃ f3, putD nt fr d' v' = some f3 ∧ putD nt f3 d v = some f2 := by
  cases d with
  | none =>
    simp [putD] at h1; subst h1
    exact ⟨f2, h2, rfl⟩
  | some x =>
    cases d' with
    | none =>
      simp [putD] at h2; subst h2
      exact ⟨fr, rfl, h1⟩
    | some y =>
      have hxy : x ≠ y := fun e => hne x rfl (by rw [e])
      simp only [putD] at h1 h2 ⊢
      cases hb1 : Nat.blt x nt with
      | false => rw [hb1] at h1; simp at h1
      | true =>
        cases hb2 : Nat.blt y nt with
        | false => rw [hb2] at h2; simp at h2
        | true =>
          rw [hb1] at h1
          rw [hb2] at h2
          simp at h1 h2
          subst h1
          subst h2
          refine ⟨_, rfl, ?_⟩
          simp only [cond_true, Option.some.injEq]
          funext t
          by_cases h3 : t = x
          · subst h3; rw [upd_self, upd_ne _ _ hxy, upd_self]
          · by_cases h4 : t = y
            · subst h4; rw [upd_ne _ _ h3, upd_self, upd_self]
            · rw [upd_ne _ _ h3, upd_ne _ _ h4, upd_ne _ _ h4, upd_ne _ _ h3]

theorem applyE_comm {e e' : Eff} {h1 h2 : Hp} (hq : quietE e = true) (hq' : quietE e' = true) (ha : applyE h e = some h1) (hb : applyE h1 e' = some h2) : ∃ h3, applyE h e' = some h3 ∧ applyE h3 e = some h2 := by
  cases e with
  | heap => simp [quietE] at hq
  | none =>
    simp [applyE] at ha; subst ha
    exact ⟨h2, hb, rfl⟩
  | put i o =>
    cases e' with
    | heap => simp [quietE] at hq'
    | none =>
      simp [applyE] at hb; subst hb
      exact ⟨h, rfl, ha⟩
    | put j o' =>
      simp only [applyE] at ha hb ⊢
      cases hi : h i with
      | some x => rw [hi] at ha; cases ha
      | none =>
        rw [hi] at ha
        simp at ha
        subst ha
        have hji : j ≠ i := by
          rintro rfl
          rw [hput_self] at hb
          cases hb
        rw [hput_ne _ _ hji] at hb
        cases hj : h j with
        | some x => rw [hj] at hb; cases hb
        | none =>
          rw [hj] at hb
          simp at hb
          subst hb
          refine ⟨_, rfl, ?_⟩
          rw [hput_ne _ _ (Ne.symm hji), hi]
          simp only [Option.some.injEq]
          funext t
          by_cases h3 : t = i
          · subst h3; rw [hput_self, hput_ne _ _ (Ne.symm hji), hput_self]
          · by_cases h4 : t = j
            · subst h4; rw [hput_ne _ _ h3, hput_self, hput_self]
            · rw [hput_ne _ _ h3, hput_ne _ _ h4, hput_ne _ _ h4, hput_ne _ _ h3]

theorem evD_quiet {c : Cls} {o : Oper} {hr : Hp} {r : Bool × V × Eff} (hc : c.isW = false) (he : evD cfg T Ti me dl ops.toList c o fr h hr = some r) : quietE r.2.2 = true ∧ ∀ h2, evD cfg T Ti me dl ops.toList c o fr h2 hr = some r := by
  unfold evD at he ⊢
  rw [hc, tabD_quiet hc] at he
  simp only [hc, tabD_quiet hc]
  rw [Option.bind_eq_some_iff] at he
  obtain ⟨g, hg, he⟩ := he
  rw [hg]
  cases g with
  | false => simp at he; subst he; exact ⟨rfl, fun _ => rfl⟩
  | true =>
    cases hok : okD dl c fr o with
    | false => rw [hok] at he; simp at he
    | true =>
      rw [hok] at he
      simp only [cond_true, cond_false, Bool.false_or, Option.bind_eq_some_iff] at he
      obtain ⟨r0, ha, he⟩ := he
      cases hq : quietE r0.2 with
      | false => rw [hq] at he; simp at he
      | true =>
        rw [hq] at he
        simp at he
        subst he
        refine ⟨hq, fun h2 => ?_⟩
        simp only [Option.bind_some, cond_true, cond_false, Bool.false_or]
        rw [ha]
        simp [hq]

theorem hrD_quiet {c : Cls} {g : Bool} {op : Op} {h' hr : Hp} (hc : c.isW = false) : hrD dl c g fr op h' hr = hr := by
  unfold hrD
  cases g <;> cases c <;> simp [Cls.isW] at hc <;> rfl

/-- A load sees the object that it looks at, and no other. -/
theorem ld_agree {T : TypeId} {a : V} {h1 h2 : Hp} (hx : ∀ j, addrId a = some j → h1 j = h2 j) : ld cfg h1 T a = ld cfg h2 T a := by
  unfold ld
  cases cfg.tb T with
  | none => rfl
  | some i =>
    simp only [Option.bind_some]
    split
    · rename_i j off
      rw [hx j rfl]
    · rfl
    · rename_i j k x off
      rw [hx j rfl]
    · rfl

theorem ixA_agree {t : TypeId} {x i : V} {h1 h2 : Hp} (hx : ∀ j, rowIdV x = some j → h1 j = h2 j) : ixA cfg h1 t x i = ixA cfg h2 t x i := by
  unfold ixA
  cases kindT cfg t with
  | none => rfl
  | some k =>
    simp only [Option.bind_some]
    cases asI i with
    | none => rfl
    | some i =>
      simp only [Option.bind_some]
      split
      · rfl
      · rename_i id' k'
        rw [hx id' rfl]
      · rfl

theorem lload_agree {o : Oper} {i : Nat} {h1 h2 : Hp} (hc : clsIn cfg me ops.toList i o = .lload) (hag : ∀ j, j ∉ dl → h1 j = h2 j) : evD cfg T Ti me dl ops.toList .lload o fr h h1 = evD cfg T Ti me dl ops.toList .lload o fr h h2 := by
  have hld := load_form ((clsIn_tells hc).2.1 rfl)
  unfold evD
  cases guardA fr ops.toList o.guard with
  | none => rfl
  | some g =>
    cases g with
    | false => rfl
    | true =>
      simp only [Option.bind_some, cond_true]
      cases hok : okD dl .lload fr o with
      | false => rfl
      | true =>
        simp only [cond_true, tabD, Cls.isW, cond_false]
        have hnot : ∀ j, ldId fr o.op = some j → j ∉ dl := by
          intro j hj hm
          simp only [okD, hj] at hok
          rw [memId_iff.2 hm] at hok
          cases hok
        rcases hld with ⟨t, x, hop⟩ | ⟨t, x, ii, hop⟩
        · rw [hop] at hnot ⊢
          simp only [aop]
          cases hev : ev fr x with
          | none => rfl
          | some a =>
            simp only [Option.bind_some]
            rw [ld_agree fun j hj => hag j (hnot j (by simp only [ldId, hev, Option.bind_some, hj]))]
        · rw [hop] at hnot ⊢
          simp only [aop]
          cases hev : ev fr x with
          | none => rfl
          | some a =>
            simp only [Option.bind_some]
            cases hevi : ev fr ii with
            | none => rfl
            | some bb =>
              simp only [Option.bind_some]
              rw [ixA_agree fun j hj => hag j (hnot j (by simp only [ldId, hev, Option.bind_some, hj]))]

theorem lload_other {o : Oper} {i : Nat} {id : Id} {ob : Vm.Obj} {hr : Hp} (hc : clsIn cfg me ops.toList i o = .lload) (hid : id ∈ dl) : evD cfg T Ti me dl ops.toList .lload o fr h (hput hr id ob) = evD cfg T Ti me dl ops.toList .lload o fr h hr :=
  lload_agree hc fun j hj => hput_ne _ _ (fun e => hj (e ▸ hid))

theorem overlay_out {a b : Hp} {j : Id} (hj : j ∉ dl) : overlay dl a b j = b j := by
  unfold overlay
  cases hm : memId j dl with
  | false => rfl
  | true => exact absurd (memId_iff.1 hm) hj

theorem overlay_in {a b : Hp} {j : Id} (hj : j ∈ dl) : overlay dl a b j = a j := by
  unfold overlay
  rw [memId_iff.2 hj]
  rfl

theorem lload_over {o : Oper} {i : Nat} {a hr : Hp} (hc : clsIn cfg me ops.toList i o = .lload) : evD cfg T Ti me dl ops.toList .lload o fr h (overlay dl a hr) = evD cfg T Ti me dl ops.toList .lload o fr h hr :=
  lload_agree hc fun j hj => overlay_out hj

/-- A loose store writes one object, on both tables. -/
theorem lstore_at {o : Oper} {i : Nat} {hr h' : Hp} {r : Bool × V × Eff} (hc : clsIn cfg me ops.toList i o = .lstore) (he : evD cfg T Ti me dl ops.toList .lstore o fr h hr = some r) :
    ∃ k : Hp → Hp, (∀ hr', hrD dl .lstore r.1 fr o.op h' hr' = k hr') ∧ ((∀ hr', k hr' = hr') ∨ ∃ id ob, id ∈ dl ∧ ∀ hr', k hr' = hput hr' id ob) := by
  unfold evD at he
  rw [Option.bind_eq_some_iff] at he
  obtain ⟨g, hg, he⟩ := he
  cases g with
  | false =>
    simp at he; subst he
    exact ⟨fun x => x, fun _ => rfl, .inl fun _ => rfl⟩
  | true =>
    cases hok : okD dl .lstore fr o with
    | false => rw [hok] at he; simp at he
    | true =>
      rw [hok] at he
      simp only [cond_true, Cls.isW, tabD, Bool.true_or, Option.bind_eq_some_iff, Option.some.injEq] at he
      obtain ⟨r0, ha, rfl⟩ := he
      simp only [okD] at hok
      split at hok
      · rename_i id hid
        simp only [hrD, cond_true, nextHr, hid]
        cases hx : h' id with
        | none => exact ⟨fun x => x, fun _ => rfl, .inl fun _ => rfl⟩
        | some ob => exact ⟨fun x => hput x id ob, fun _ => rfl, .inr ⟨id, ob, memId_iff.1 hok, fun _ => rfl⟩⟩
      · cases hok

theorem evD_hr {c : Cls} {o : Oper} {hr hr2 : Hp} (hc : c.isW = true) : evD cfg T Ti me dl ops.toList c o fr h hr = evD cfg T Ti me dl ops.toList c o fr h hr2 := by
  unfold evD
  rw [tabD_W (hr2 := hr2) hc]

/-- A load has no effect. -/
theorem lload_none {o : Oper} {i : Nat} {hr : Hp} {r : Bool × V × Eff} (hc : clsIn cfg me ops.toList i o = .lload) (he : evD cfg T Ti me dl ops.toList .lload o fr h hr = some r) : r.2.2 = .none := by
  have hld := load_form ((clsIn_tells hc).2.1 rfl)
  unfold evD at he
  rw [Option.bind_eq_some_iff] at he
  obtain ⟨g, hg, he⟩ := he
  cases g with
  | false => simp at he; subst he; rfl
  | true =>
    cases hok : okD dl .lload fr o with
    | false => rw [hok] at he; simp at he
    | true =>
      rw [hok] at he
      simp only [cond_true, tabD, Cls.isW, cond_false, Bool.false_or, Option.bind_eq_some_iff] at he
      obtain ⟨r0, ha, he⟩ := he
      have h2 : r0.2 = .none := by
        rcases hld with ⟨t, x, hop⟩ | ⟨t, x, ii, hop⟩
        · rw [hop] at ha
          simp only [aop, Option.bind_eq_some_iff] at ha
          obtain ⟨a, _, ha⟩ := ha
          exact (retH_none (v := r0.1) (e := r0.2) ha).2
        · rw [hop] at ha
          simp only [aop, Option.bind_eq_some_iff] at ha
          obtain ⟨a, _, b, _, ha⟩ := ha
          exact (retH_none (v := r0.1) (e := r0.2) ha).2
      cases hq : quietE r0.2 with
      | false => rw [hq] at he; simp at he
      | true => rw [hq] at he; simp at he; subst he; exact h2

/-- A loose call is told by the objects that it may write. -/
theorem lcall_only {o : Oper} {h1 h2 hr1 hr2 : Hp} (hag : ∀ j, j ∈ dl → h1 j = h2 j) : evD cfg T Ti me dl ops.toList .lcall o fr h1 hr1 = evD cfg T Ti me dl ops.toList .lcall o fr h2 hr2 := by
  have : only dl h1 = only dl h2 := by
    funext j
    unfold only
    cases hm : memId j dl with
    | false => rfl
    | true => exact hag j (memId_iff.1 hm)
  unfold evD
  simp only [tabD, this]

/-- What an allocation yields. -/
theorem lalloc_at {o : Oper} {i : Nat} {hr : Hp} {r : Bool × V × Eff} (hc : clsIn cfg me ops.toList i o = .lalloc) (he : evD cfg T Ti me dl ops.toList .lalloc o fr h hr = some r) :
    (∀ h2 hr2, evD cfg T Ti me dl ops.toList .lalloc o fr h2 hr2 = some r) ∧ (r.2.2 = .none ∨ ∃ d ob, r.2.2 = .put (.own d) ob ∧ Id.own d ∉ dl) := by
  obtain ⟨t, hop⟩ := alloc_form ((clsIn_tells hc).2.2.2.2 rfl)
  have hsame : ∀ h2 hr2, evD cfg T Ti me dl ops.toList .lalloc o fr h2 hr2 = evD cfg T Ti me dl ops.toList .lalloc o fr h hr := by
    intro h2 hr2
    unfold evD
    rw [hop]
    simp only [aop]
  refine ⟨fun h2 hr2 => (hsame h2 hr2).trans he, ?_⟩
  unfold evD at he
  rw [Option.bind_eq_some_iff] at he
  obtain ⟨g, hg, he⟩ := he
  cases g with
  | false => simp at he; subst he; exact .inl rfl
  | true =>
    cases hok : okD dl .lalloc fr o with
    | false => rw [hok] at he; simp at he
    | true =>
      rw [hok] at he
      simp only [cond_true, Option.bind_eq_some_iff] at he
      obtain ⟨r0, ha, he⟩ := he
      rw [hop] at ha
      simp only [aop, Option.bind_eq_some_iff] at ha
      obtain ⟨d, hd, ii, _, ha⟩ := ha
      simp only [nbox, Option.some.injEq] at ha
      cases hq : ((Cls.lalloc).isW || quietE r0.2) with
      | false => rw [hq] at he; simp at he
      | true =>
        rw [hq] at he
        simp only [cond_true, Option.some.injEq] at he
        subst he
        refine .inr ⟨d, _, by rw [← ha], fun hm => ?_⟩
        simp only [okD, hd] at hok
        rw [memId_iff.2 hm] at hok
        cases hok

theorem call_form {op : Op} (h : isHC cfg me op = true) : ∃ f as ts, op = .call ⟨.value (.func f), as, ts⟩ ∧ cfg.hm me f = .heap ∧ cfg.nat f = none := by
  unfold isHC at h
  split at h
  · rename_i f as ts
    refine ⟨f, _, _, rfl, ?_⟩
    cases hn : cfg.nat f with
    | some nt => rw [hn] at h; cases h
    | none =>
      rw [hn] at h
      cases hm : cfg.hm me f <;> rw [hm] at h <;> first | exact ⟨rfl, rfl⟩ | cases h
  · cases h

theorem call_heap {op : Op} {dst : Option Nat} {ty : TypeId} {v : V} {e : Eff} (hc : isHC cfg me op = true) (ha : aop cfg T Ti me fr h dst ty op = some (v, e)) : ∃ a, e = .heap a := by
  obtain ⟨f, as, ts, rfl, hm, hn⟩ := call_form hc
  simp only [aop, Option.bind_eq_some_iff] at ha
  obtain ⟨d, _, args, _, fv, hf, ha⟩ := ha
  simp only [ev, Option.some.injEq] at hf
  subst hf
  simp only [callV, hm, hn] at ha
  exact hcallS_heap ha

/-- A loose call's effect. -/
theorem lcall_eff {o : Oper} {i : Nat} {hr : Hp} {r : Bool × V × Eff} (hc : clsIn cfg me ops.toList i o = .lcall) (he : evD cfg T Ti me dl ops.toList .lcall o fr h hr = some r) : r.2.2 = .none ∨ ∃ a, r.2.2 = .heap a := by
  have hld := (clsIn_tells hc).2.2.2.1 rfl
  unfold evD at he
  rw [Option.bind_eq_some_iff] at he
  obtain ⟨g, hg, he⟩ := he
  cases g with
  | false => simp at he; subst he; exact .inl rfl
  | true =>
    simp only [okD, cond_true, tabD, Cls.isW, Bool.true_or, Option.bind_eq_some_iff, Option.some.injEq] at he
    obtain ⟨r0, ha, rfl⟩ := he
    exact .inr (call_heap hld ha)

/-- Two operations that are apart may change places. -/
theorem stepD_swap {i j : Nat} {oi oj : Oper} {s s1 s2 : SD} (hap : oi.apart ops oj = true) (hcm : compat (clsIn cfg me ops.toList i oi) (clsIn cfg me ops.toList j oj) = true)
    (h1 : stepD cfg T Ti me nt dl ops.toList (clsIn cfg me ops.toList i oi) oi s = some s1) (h2 : stepD cfg T Ti me nt dl ops.toList (clsIn cfg me ops.toList j oj) oj s1 = some s2) :
    ∃ s3, stepD cfg T Ti me nt dl ops.toList (clsIn cfg me ops.toList j oj) oj s = some s3 ∧ stepD cfg T Ti me nt dl ops.toList (clsIn cfg me ops.toList i oi) oi s3 = some s2 := by
  obtain ⟨a1, a2, a3⟩ := Oper.apart_spec hap
  rw [stepD_eq] at h1 h2
  simp only [stepD_eq, Option.bind_eq_some_iff, Option.some.injEq]
  simp only [Option.bind_eq_some_iff, Option.some.injEq] at h1 h2
  obtain ⟨ri, he1, hi1, hp1, fi1, hf1, rfl⟩ := h1
  obtain ⟨rj, he2, hj2, hp2, fj2, hf2, rfl⟩ := h2
  simp only at he2 hp2 hf2
  obtain ⟨f3, hf3, hf4⟩ := putD_comm a2 hf1 hf2
  rw [evD_congr (fr' := s.fr) (putD_looks a1 hf1)] at he2
  rw [hrD_congr (fr := fi1) (fr' := s.fr) fun t ht => putD_looks (o := oj) a1 hf1 t (looks_op ht)]
  have hcong : ∀ c hh hhr, evD cfg T Ti me dl ops.toList c oi f3 hh hhr = evD cfg T Ti me dl ops.toList c oi s.fr hh hhr := fun c hh hhr => evD_congr (putD_looks a3 hf3)
  have hrcong : ∀ c g x y, hrD dl c g f3 oi.op x y = hrD dl c g s.fr oi.op x y := fun c g x y => hrD_congr fun t ht => putD_looks (o := oi) a3 hf3 t (looks_op ht)
  generalize hci : clsIn cfg me ops.toList i oi = ci at *
  generalize hcj : clsIn cfg me ops.toList j oj = cj at *
  by_cases hpi : ci = .pure
  · subst hpi
    obtain ⟨n1, p1⟩ := evD_pure (h2 := s.h) (hr2 := s.hr) hci he1
    rw [n1] at hp1
    simp [effD, applyE] at hp1
    subst hp1
    rw [hrD_quiet (c := .pure) rfl] at he2 ⊢
    refine ⟨_, ⟨rj, he2, hj2, hp2, f3, hf3, rfl⟩, ri, ?_, hj2, by rw [n1]; rfl, fj2, hf4, ?_⟩
    · rw [hcong]; exact (evD_pure hci he1).2
    · rw [hrD_quiet (c := .pure) rfl]
  · by_cases hpj : cj = .pure
    · subst hpj
      obtain ⟨n2, p2⟩ := evD_pure (h2 := s.h) (hr2 := s.hr) hcj he2
      rw [n2] at hp2
      simp [effD, applyE] at hp2
      subst hp2
      rw [hrD_quiet (c := .pure) rfl]
      refine ⟨_, ⟨rj, p2, s.h, by rw [n2]; rfl, f3, hf3, rfl⟩, ri, ?_, hi1, hp1, fj2, hf4, ?_⟩
      · rw [hcong, hrD_quiet (c := .pure) rfl]; exact he1
      · simp only [hrD_quiet (c := Cls.pure) (h' := s.h) (hr := s.hr) rfl]; rw [hrcong]
    · by_cases hq : ci.isW = false ∧ cj.isW = false
      · rw [hrD_quiet hq.1] at he2 ⊢
        rw [effD_id (not_lcall hq.1)] at hp1
        rw [effD_id (not_lcall hq.2)] at hp2
        obtain ⟨q1, p1⟩ := evD_quiet hq.1 he1
        obtain ⟨q2, p2⟩ := evD_quiet hq.2 he2
        obtain ⟨h3, e1, e2⟩ := applyE_comm q1 q2 hp1 hp2
        refine ⟨_, ⟨rj, p2 s.h, h3, by rw [effD_id (not_lcall hq.2)]; exact e1, f3, hf3, rfl⟩, ri, ?_, hj2, by rw [effD_id (not_lcall hq.1)]; exact e2, fj2, hf4, ?_⟩
        · rw [hcong, hrD_quiet hq.2]; exact p1 h3
        · simp only [hrD_quiet hq.1, hrD_quiet hq.2]
      · have hcase : (ci = .lload ∧ cj = .lstore) ∨ (ci = .lstore ∧ cj = .lload) ∨ (ci = .lload ∧ cj = .lcall) ∨ (ci = .lcall ∧ cj = .lload) ∨ (ci = .lalloc ∧ cj = .lcall) ∨ (ci = .lcall ∧ cj = .lalloc) := by
          cases ci <;> cases cj <;> simp [compat, Cls.isPure, Cls.isW] at hcm hpi hpj hq ⊢
        rcases hcase with ⟨rfl, rfl⟩ | ⟨rfl, rfl⟩ | ⟨rfl, rfl⟩ | ⟨rfl, rfl⟩ | ⟨rfl, rfl⟩ | ⟨rfl, rfl⟩
        · -- a load, then a store
          have n1 := lload_none hci he1
          rw [n1] at hp1
          simp [effD, applyE] at hp1
          subst hp1
          rw [hrD_quiet (c := .lload) rfl] at he2 ⊢
          obtain ⟨k, hk1, hk2⟩ := lstore_at (h' := hj2) hcj he2
          refine ⟨_, ⟨rj, he2, hj2, hp2, f3, hf3, rfl⟩, ri, ?_, hj2, by rw [n1]; rfl, fj2, hf4, ?_⟩
          · rw [hcong]
            simp only [hk1]
            rcases hk2 with hk2 | ⟨id, ob, hid, hk2⟩
            · rw [hk2]; exact (evD_quiet rfl he1).2 _
            · rw [hk2, lload_other hci hid]; exact (evD_quiet rfl he1).2 _
          · rw [hrD_quiet (c := .lload) rfl]
        · -- a store, then a load
          have n2 := lload_none hcj he2
          rw [n2] at hp2
          simp [effD, applyE] at hp2
          subst hp2
          obtain ⟨k, hk1, hk2⟩ := lstore_at (h' := hi1) hci he1
          rw [hrD_quiet (c := .lload) rfl]
          have he3 : evD cfg T Ti me dl ops.toList .lload oj s.fr s.h s.hr = some rj := by
            simp only [hk1] at he2
            rcases hk2 with hk2 | ⟨id, ob, hid, hk2⟩
            · rw [hk2] at he2; exact (evD_quiet rfl he2).2 _
            · rw [hk2, lload_other hcj hid] at he2; exact (evD_quiet rfl he2).2 _
          refine ⟨_, ⟨rj, he3, s.h, by rw [n2]; rfl, f3, hf3, rfl⟩, ri, ?_, hi1, hp1, fj2, hf4, ?_⟩
          · rw [hcong, hrD_quiet (c := .lload) rfl]; exact he1
          · simp only [hrD_quiet (c := Cls.lload) (h' := s.h) (hr := s.hr) rfl]; rw [hrcong]
        · -- a load, then a call
          have n1 := lload_none hci he1
          rw [n1] at hp1
          simp [effD, applyE] at hp1
          subst hp1
          rw [hrD_quiet (c := .lload) rfl] at he2 ⊢
          refine ⟨_, ⟨rj, he2, hj2, hp2, f3, hf3, rfl⟩, ri, ?_, hj2, by rw [n1]; rfl, fj2, hf4, ?_⟩
          · rw [hcong]
            have : evD cfg T Ti me dl ops.toList .lload oi s.fr hj2 (hrD dl .lcall rj.1 s.fr oj.op hj2 s.hr) = evD cfg T Ti me dl ops.toList .lload oi s.fr hj2 s.hr := by
              unfold hrD
              cases rj.1 with
              | false => rfl
              | true => exact lload_over hci
            exact this.trans ((evD_quiet rfl he1).2 _)
          · rw [hrD_quiet (c := .lload) rfl]
        · -- a call, then a load
          have n2 := lload_none hcj he2
          rw [n2] at hp2
          simp [effD, applyE] at hp2
          subst hp2
          rw [hrD_quiet (c := .lload) rfl]
          have he3 : evD cfg T Ti me dl ops.toList .lload oj s.fr s.h s.hr = some rj := by
            have : evD cfg T Ti me dl ops.toList .lload oj s.fr hi1 (hrD dl .lcall ri.1 s.fr oi.op hi1 s.hr) = evD cfg T Ti me dl ops.toList .lload oj s.fr hi1 s.hr := by
              unfold hrD
              cases ri.1 with
              | false => rfl
              | true => exact lload_over hcj
            rw [this] at he2
            exact (evD_quiet rfl he2).2 _
          refine ⟨_, ⟨rj, he3, s.h, by rw [n2]; rfl, f3, hf3, rfl⟩, ri, ?_, hi1, hp1, fj2, hf4, ?_⟩
          · rw [hcong, hrD_quiet (c := .lload) rfl]; exact he1
          · simp only [hrD_quiet (c := Cls.lload) (h' := s.h) (hr := s.hr) rfl]; rw [hrcong]
        · -- an allocation, then a call
          obtain ⟨p1, q1⟩ := lalloc_at hci he1
          rw [hrD_quiet (c := .lalloc) rfl] at he2 ⊢
          rw [effD_id (by simp)] at hp1
          have hag : ∀ j, j ∈ dl → hi1 j = s.h j := by
            intro j hj
            rcases q1 with q1 | ⟨d, ob, q1, q2⟩
            · rw [q1] at hp1; simp [applyE] at hp1; rw [hp1]
            · rw [q1] at hp1
              simp only [applyE] at hp1
              cases hd : s.h (.own d) with
              | some y => rw [hd] at hp1; cases hp1
              | none =>
                rw [hd] at hp1
                simp at hp1
                subst hp1
                exact hput_ne _ _ (fun e => q2 (by rw [← e]; exact hj))
          have he3 := (lcall_only (fr := s.fr) (o := oj) (hr1 := s.hr) (hr2 := s.hr) hag).symm.trans he2
          rcases (by cases rj.2.2 with | none => exact .inl rfl | put id ob => exact .inr (.inl ⟨id, ob, rfl⟩) | heap a => exact .inr (.inr ⟨a, rfl⟩) : rj.2.2 = .none ∨ (∃ id ob, rj.2.2 = .put id ob) ∨ ∃ a, rj.2.2 = .heap a) with e0 | ⟨id, ob, e0⟩ | ⟨a, e0⟩
          · rw [e0] at hp2
            simp [effD, applyE] at hp2
            subst hp2
            refine ⟨_, ⟨rj, he3, s.h, by rw [e0]; rfl, f3, hf3, rfl⟩, ri, ?_, hi1, by rw [effD_id (by simp)]; exact hp1, fj2, hf4, ?_⟩
            · rw [hcong]; exact p1 _ _
            · rw [hrD_quiet (c := .lalloc) rfl]
              have hov : ∀ x y, hrD dl .lcall rj.1 s.fr oj.op x y = bif rj.1 then overlay dl x y else y := fun x y => rfl
              simp only [hov]
              have : overlay dl s.h s.hr = overlay dl hi1 s.hr := by
                funext j
                by_cases hj : j ∈ dl
                · rw [overlay_in hj, overlay_in hj, hag j hj]
                · rw [overlay_out hj, overlay_out hj]
              rw [this]
          · have hE := lcall_eff (i := j) hcj he2
            rcases hE with h0 | ⟨a, h0⟩
            · rw [h0] at e0; cases e0
            · rw [h0] at e0; cases e0
          · rw [e0] at hp2
            simp only [effD, applyE, Option.some.injEq] at hp2
            subst hp2
            have hup : applyE (overlay dl a s.h) ri.2.2 = some (overlay dl a hi1) := by
              rcases q1 with q1 | ⟨d, ob, q1, q2⟩
              · rw [q1] at hp1 ⊢; simp [applyE] at hp1 ⊢; rw [hp1]
              · rw [q1] at hp1 ⊢
                simp only [applyE] at hp1 ⊢
                cases hd : s.h (.own d) with
                | some y => rw [hd] at hp1; cases hp1
                | none =>
                  rw [hd] at hp1
                  simp at hp1
                  subst hp1
                  rw [overlay_out q2, hd]
                  simp only [Option.some.injEq]
                  funext j
                  by_cases hj : j = .own d
                  · subst hj; rw [hput_self, overlay_out q2, hput_self]
                  · rw [hput_ne _ _ hj]
                    by_cases hjd : j ∈ dl
                    · rw [overlay_in hjd, overlay_in hjd]
                    · rw [overlay_out hjd, overlay_out hjd, hput_ne _ _ hj]
            refine ⟨_, ⟨rj, he3, overlay dl a s.h, by rw [e0]; rfl, f3, hf3, rfl⟩, ri, ?_, overlay dl a hi1, by rw [effD_id (by simp)]; exact hup, fj2, hf4, ?_⟩
            · rw [hcong]; exact p1 _ _
            · rw [hrD_quiet (c := .lalloc) rfl]
              have hov : ∀ x y, hrD dl .lcall rj.1 s.fr oj.op x y = bif rj.1 then overlay dl x y else y := fun x y => rfl
              simp only [hov]
              have : overlay dl (overlay dl a s.h) s.hr = overlay dl (overlay dl a hi1) s.hr := by
                funext j
                by_cases hj : j ∈ dl
                · rw [overlay_in hj, overlay_in hj, overlay_in hj, overlay_in hj]
                · rw [overlay_out hj, overlay_out hj]
              rw [this]
        · -- a call, then an allocation
          obtain ⟨p2, q2⟩ := lalloc_at hcj he2
          rw [hrD_quiet (c := .lalloc) rfl]
          rw [effD_id (by simp)] at hp2
          rcases lcall_eff (i := i) hci he1 with e0 | ⟨a, e0⟩
          · rw [e0] at hp1
            simp [effD, applyE] at hp1
            subst hp1
            have hag : ∀ j, j ∈ dl → s.h j = hj2 j := by
              intro j hj
              rcases q2 with q2 | ⟨d, ob, q2, q3⟩
              · rw [q2] at hp2; simp [applyE] at hp2; rw [hp2]
              · rw [q2] at hp2
                simp only [applyE] at hp2
                cases hd : s.h (.own d) with
                | some y => rw [hd] at hp2; cases hp2
                | none =>
                  rw [hd] at hp2
                  simp at hp2
                  subst hp2
                  exact (hput_ne _ _ (fun e => q3 (by rw [← e]; exact hj))).symm
            refine ⟨_, ⟨rj, p2 _ _, hj2, by rw [effD_id (by simp)]; exact hp2, f3, hf3, rfl⟩, ri, ?_, hj2, by rw [e0]; rfl, fj2, hf4, ?_⟩
            · rw [hcong]; exact (lcall_only (fr := s.fr) (o := oi) (hr2 := s.hr) fun j hj => (hag j hj).symm).trans he1
            · rw [hrcong, hrD_quiet (c := .lalloc) rfl]
              have hov : ∀ x y, hrD dl .lcall ri.1 s.fr oi.op x y = bif ri.1 then overlay dl x y else y := fun x y => rfl
              simp only [hov]
              have : overlay dl hj2 s.hr = overlay dl s.h s.hr := by
                funext j
                by_cases hj : j ∈ dl
                · rw [overlay_in hj, overlay_in hj, hag j hj]
                · rw [overlay_out hj, overlay_out hj]
              rw [this]
          · rw [e0] at hp1
            simp only [effD, applyE, Option.some.injEq] at hp1
            subst hp1
            obtain ⟨h3, hup, hag, hdn⟩ : ∃ h3, applyE s.h rj.2.2 = some h3 ∧ (∀ j, j ∈ dl → s.h j = h3 j) ∧ hj2 = overlay dl a h3 := by
              rcases q2 with q2 | ⟨d, ob, q2, q3⟩
              · rw [q2] at hp2 ⊢
                simp [applyE] at hp2
                exact ⟨s.h, rfl, fun _ _ => rfl, hp2.symm⟩
              · rw [q2] at hp2 ⊢
                simp only [applyE, overlay_out q3] at hp2 ⊢
                cases hd : s.h (.own d) with
                | some y => rw [hd] at hp2; cases hp2
                | none =>
                  rw [hd] at hp2
                  simp at hp2
                  subst hp2
                  refine ⟨_, rfl, fun j hj => (hput_ne _ _ (fun e => q3 (by rw [← e]; exact hj))).symm, ?_⟩
                  funext j
                  by_cases hj : j = .own d
                  · subst hj; rw [hput_self, overlay_out q3, hput_self]
                  · rw [hput_ne _ _ hj]
                    by_cases hjd : j ∈ dl
                    · rw [overlay_in hjd, overlay_in hjd]
                    · rw [overlay_out hjd, overlay_out hjd, hput_ne _ _ hj]
            refine ⟨_, ⟨rj, p2 _ _, h3, by rw [effD_id (by simp)]; exact hup, f3, hf3, rfl⟩, ri, ?_, overlay dl a h3, by rw [e0]; rfl, fj2, hf4, ?_⟩
            · rw [hcong]; exact (lcall_only (fr := s.fr) (o := oi) (hr2 := s.hr) fun j hj => (hag j hj).symm).trans he1
            · rw [hrcong, hrD_quiet (c := .lalloc) rfl, hdn]
              have hov : ∀ x y, hrD dl .lcall ri.1 s.fr oi.op x y = bif ri.1 then overlay dl x y else y := fun x y => rfl
              simp only [hov]
              have : overlay dl (overlay dl a h3) s.hr = overlay dl (overlay dl a s.h) s.hr := by
                funext j
                by_cases hj : j ∈ dl
                · rw [overlay_in hj, overlay_in hj, overlay_in hj, overlay_in hj]
                · rw [overlay_out hj, overlay_out hj]
              rw [this]

/-- What is listed, with all that it waits for. -/
def Closed (ops : Array Oper) (listed : Array Bool) : Prop :=
  ∀ j oj, ops[j]? = some oj → listed.getD j false = true → ∀ e ∈ oj.after, Region.binds .any e = true → listed.getD e.on false = true

theorem maskOf_bit {acc : List Nat} {o : Oper} {j : Nat} (h : Nat.testBit (maskOf acc o) j = true) : ∃ e ∈ o.after.toList, Region.binds .any e = true ∧ (e.on = j ∨ Nat.testBit (acc.getD e.on 0) j = true) := by
  unfold maskOf at h
  have main : ∀ (l : List _) (m : Nat), Nat.testBit (l.foldl (fun m e => bif Region.binds .any e then Nat.lor m (Nat.lor (Nat.shiftLeft 1 e.on) (acc.getD e.on 0)) else m) m) j = true →
      Nat.testBit m j = true ∨ ∃ e ∈ l, Region.binds .any e = true ∧ (e.on = j ∨ Nat.testBit (acc.getD e.on 0) j = true) := by
    intro l
    induction l with
    | nil => intro m h; exact .inl h
    | cons e l ih =>
      intro m h
      rw [List.foldl_cons] at h
      rcases ih _ h with h1 | ⟨e', he', h1⟩
      · cases hb : Region.binds .any e with
        | false => rw [hb] at h1; exact .inl h1
        | true =>
          rw [hb] at h1
          simp only [cond_true] at h1
          have e1 : Nat.testBit (m ||| ((1 <<< e.on) ||| acc.getD e.on 0)) j = true := h1
          rw [Nat.testBit_or, Nat.testBit_or, Nat.one_shiftLeft, Nat.testBit_two_pow] at e1
          simp only [Bool.or_eq_true, decide_eq_true_eq] at e1
          rcases e1 with e1 | e1 | e1
          · exact .inl e1
          · exact .inr ⟨e, List.mem_cons_self .., hb, .inl e1⟩
          · exact .inr ⟨e, List.mem_cons_self .., hb, .inr e1⟩
      · exact .inr ⟨e', List.mem_cons_of_mem _ he', h1⟩
  rcases main _ 0 h with h0 | h0
  · simp at h0
  · exact h0

theorem masksFrom_spec : ∀ (l pre : List Oper) (acc : List Nat), acc.length = pre.length → (∀ k m, acc[k]? = some m → ∃ o, pre[k]? = some o ∧ m = maskOf (acc.take k) o) →
    ∀ k m, (masksFrom acc l)[k]? = some m → ∃ o, (pre ++ l)[k]? = some o ∧ m = maskOf ((masksFrom acc l).take k) o
  | [], pre, acc, _, hg, k, m, hk => by simpa [masksFrom] using hg k m hk
  | o :: l, pre, acc, hl, hg, k, m, hk => by
    have h := masksFrom_spec l (pre ++ [o]) (acc ++ [maskOf acc o]) (by simp [hl]) (fun k m hk => by
      rcases Nat.lt_or_ge k acc.length with h' | h'
      · rw [List.getElem?_append_left h'] at hk
        obtain ⟨x, hx, hm⟩ := hg k m hk
        refine ⟨x, ?_, ?_⟩
        · rw [List.getElem?_append_left (by omega)]; exact hx
        · rw [List.take_append_of_le_length (by omega)]; exact hm
      · rw [List.getElem?_append_right h'] at hk
        have hk0 : k = acc.length := by
          rcases Nat.lt_or_ge (k - acc.length) 1 with h2 | h2
          · omega
          · rw [List.getElem?_eq_none (by simpa using h2)] at hk; cases hk
        subst hk0
        simp at hk
        refine ⟨o, ?_, ?_⟩
        · rw [List.getElem?_append_right (by omega)]; simp [hl]
        · rw [List.take_left' rfl]; exact hk.symm) k m hk
    simpa [masksFrom] using h

theorem waitsT_listed {listed : Array Bool} (hcl : Closed ops listed) {i : Nat} (n : Nat) (o : Oper) (hd : ∀ e ∈ o.after, Region.binds .any e = true → listed.getD e.on false = true) (h : waitsT ops.toList n o i = true) : listed.getD i false = true := by
  have hsp := masksFrom_spec ops.toList [] [] rfl (fun k m hk => by simp at hk)
  simp only [List.nil_append] at hsp
  have main : ∀ k m, (masksFrom [] ops.toList)[k]? = some m → listed.getD k false = true → Nat.testBit m i = true → listed.getD i false = true := by
    intro k
    induction k using Nat.strongRecOn with
    | _ k ih =>
      intro m hk hl hb
      obtain ⟨ok, hok, rfl⟩ := hsp k m hk
      obtain ⟨e, he, heb, h1⟩ := maskOf_bit hb
      have hle := hcl k ok (by simpa using hok) hl e (by simpa using he) heb
      rcases h1 with h1 | h1
      · rw [← h1]; exact hle
      · cases hx : ((masksFrom [] ops.toList).take k)[e.on]? with
        | none => rw [List.getD_eq_getElem?_getD, hx] at h1; simp at h1
        | some m' =>
          rw [List.getD_eq_getElem?_getD, hx] at h1
          rw [List.getElem?_take] at hx
          split at hx
          · rename_i hlt; exact ih e.on hlt m' hx hle h1
          · cases hx
  unfold waitsT at h
  obtain ⟨e, he, heb, h1⟩ := maskOf_bit h
  have hle := hd e (by simpa using he) heb
  rcases h1 with h1 | h1
  · rw [← h1]; exact hle
  · cases hx : (masksFrom [] ops.toList)[e.on]? with
    | none => rw [List.getD_eq_getElem?_getD, hx] at h1; simp at h1
    | some m' =>
      rw [List.getD_eq_getElem?_getD, hx] at h1
      exact main e.on m' hx hle h1

theorem Closed.set {listed : Array Bool} (hcl : Closed ops listed) {j : Nat} {oj : Oper} (hoj : ops[j]? = some oj) (hall : ∀ e ∈ oj.after, Region.binds .any e = true → listed.getD e.on false = true) : Closed ops (listed.setIfInBounds j true) := by
  have hmono : ∀ k, listed.getD k false = true → (listed.setIfInBounds j true).getD k false = true := by
    intro k hk
    by_cases hjk : j = k
    · subst hjk
      rw [Array.getD_eq_getD_getElem?] at hk ⊢
      rcases Nat.lt_or_ge j listed.size with h' | h'
      · rw [Array.getElem?_setIfInBounds_self_of_lt h']; rfl
      · rw [Array.getElem?_eq_none h'] at hk; cases hk
    · rw [getD_set_ne false hjk]; exact hk
  intro k ok hk hl e he hb
  by_cases hjk : j = k
  · subst hjk
    rw [hoj] at hk
    cases hk
    exact hmono _ (hall e he hb)
  · rw [getD_set_ne false hjk] at hl
    exact hmono _ (hcl k ok hk hl e he hb)

theorem anyD_first {Q : SD → Prop} {i : Nat} {oi : Oper} (hi : ops[i]? = some oi) :
    ∀ (fuel : Nat) (listed : Array Bool) (s s1 : SD), Closed ops listed →
      (∀ j oj, ops[j]? = some oj → j ≠ i → listed.getD j true = false → waitsT ops.toList 8 oj i = false → oi.apart ops oj = true ∧ compat (clsIn cfg me ops.toList i oi) (clsIn cfg me ops.toList j oj) = true) →
      i ∈ Region.ready .any ops listed → stepAt cfg T Ti me nt dl ops i s = some s1 →
      anyD cfg T Ti me nt dl ops Q fuel (listed.setIfInBounds i true) s1 → anyD cfg T Ti me nt dl ops Q (fuel + 1) listed s := by
  intro fuel
  induction fuel with
  | zero =>
    intro listed s s1 _ _ hr hy H
    refine ⟨fun h => (by rw [h] at hr; cases hr), fun j hj => ?_⟩
    by_cases hji : j = i
    · subst hji; exact ⟨s1, hy, H⟩
    · have := ready_mono hj hji
      rw [H.1] at this
      cases this
  | succ fuel ih =>
    intro listed s s1 hcl hfree hr hy H
    refine ⟨fun h => (by rw [h] at hr; cases hr), fun j hj => ?_⟩
    by_cases hji : j = i
    · subst hji; exact ⟨s1, hy, H⟩
    · obtain ⟨s12, h1, h2⟩ := H.2 j (ready_mono hj hji)
      obtain ⟨hjun, oj, hoj, hall⟩ := mem_ready.1 hj
      have hnot : waitsT ops.toList 8 oj i = false := by
        cases hw : waitsT ops.toList 8 oj i with
        | false => rfl
        | true =>
          have h1 := waitsT_listed hcl 8 oj hall hw
          have h0 := (mem_ready.1 hr).1
          rcases Nat.lt_or_ge i listed.size with h' | h'
          · simp [h'] at h0 h1; rw [h0] at h1; cases h1
          · simp [Array.getElem?_eq_none h'] at h1
      obtain ⟨hap, hcm⟩ := hfree j oj hoj hji hjun hnot
      have hy' := hy
      simp only [stepAt, hi] at hy'
      simp only [stepAt, hoj] at h1
      obtain ⟨s3, h3, h4⟩ := stepD_swap hap hcm hy' h1
      refine ⟨s3, by simp only [stepAt, hoj]; exact h3, ?_⟩
      have hfree' : ∀ k ok, ops[k]? = some ok → k ≠ i → (listed.setIfInBounds j true).getD k true = false →
          waitsT ops.toList 8 ok i = false → oi.apart ops ok = true ∧ compat (clsIn cfg me ops.toList i oi) (clsIn cfg me ops.toList k ok) = true := fun k ok hk hki hun hno => by
        refine hfree k ok hk hki ?_ hno
        by_cases hjk : j = k
        · subst hjk; exact hjun
        · rw [getD_set_ne true hjk] at hun; exact hun
      exact ih (listed.setIfInBounds j true) s3 s12 (hcl.set hoj hall) hfree' (ready_mono hr (Ne.symm hji)) (by simp only [stepAt, hi]; exact h4) (by rw [Array.setIfInBounds_comm _ _ hji]; exact h2)

end
end Go.Vm

namespace Go.Vm
variable {G : Gl}
set_option linter.unusedVariables false
set_option linter.unusedSimpArgs false

section
variable {P : Program} {cfg : Cfg} {T Ti : CallSem} {me nt : Nat} {U : Nat → Prop} {h0 : Hp} {loc0 : Loc} {w0 : World} {fr fr' : Fr} {h h' : Hp} {a : Act} {w : World} {ops : Array Oper} {dl : List Id}

theorem all_zipIdx {α : Type} {l : List α} {p : α × Nat → Bool} (h : l.zipIdx.all p = true) {i : Nat} {x : α} (hi : l[i]? = some x) : p (x, i) = true := by
  rw [List.all_eq_true] at h
  exact h _ (List.mk_mem_zipIdx_iff_getElem?.2 hi)

theorem drawOk_spec (hd : drawOk cfg me ops = true) {i : Nat} {o : Oper} (hi : ops[i]? = some o) : freeAt cfg me ops i o = true ∧ ∀ e ∈ o.after, Region.binds .any e = true → e.on < i := by
  have h1 := all_zipIdx hd (i := i) (x := o) (by simpa using hi)
  simp only [Bool.and_eq_true] at h1
  refine ⟨h1.1.2, fun e he hb => ?_⟩
  have h2 := h1.2
  rw [List.all_eq_true] at h2
  have := h2 e (by simpa using he)
  rw [hb] at this
  simp [Nat.blt] at this
  omega

theorem freeAt_spec {i : Nat} {o : Oper} (hf : freeAt cfg me ops i o = true) {j : Nat} {oj : Oper} (hj : ops[j]? = some oj) (hlt : i < j) (hw : waitsT ops.toList 8 oj i = false) :
    o.apart ops oj = true ∧ compat (clsIn cfg me ops.toList i o) (clsIn cfg me ops.toList j oj) = true := by
  have h1 := all_zipIdx hf (i := j) (x := oj) (by simpa using hj)
  simp only [Bool.or_eq_true, Bool.and_eq_true] at h1
  rcases h1 with (h1 | h1) | h1
  · have := Nat.le_of_ble_eq_true h1; omega
  · rw [hw] at h1; cases h1
  · exact h1

def Lk (n k : Nat) (listed : Array Bool) : Prop := listed.size = n ∧ ∀ j, j < n → listed[j]? = some (decide (j < k))

theorem Lk.set {n k : Nat} {listed : Array Bool} (hl : Lk n k listed) (hk : k < n) : Lk n (k + 1) (listed.setIfInBounds k true) := by
  refine ⟨by simp [hl.1], fun j hj => ?_⟩
  by_cases hjk : j = k
  · subst hjk
    rw [Array.getElem?_setIfInBounds_self_of_lt (by rw [hl.1]; exact hj)]
    simp
  · rw [Array.getElem?_setIfInBounds_ne (Ne.symm hjk), hl.2 j hj]
    congr 1
    by_cases h : j < k
    · simp [h]; omega
    · simp [h]; omega

theorem Lk.un {n k : Nat} {listed : Array Bool} (hl : Lk n k listed) {j : Nat} : listed.getD j true = false ↔ k ≤ j ∧ j < n := by
  rw [Array.getD_eq_getD_getElem?]
  rcases Nat.lt_or_ge j n with h | h
  · rw [hl.2 j h]
    simp
    omega
  · rw [Array.getElem?_eq_none (by rw [hl.1]; exact h)]
    simp
    omega

theorem Lk.done {n k : Nat} {listed : Array Bool} (hl : Lk n k listed) {j : Nat} (hj : j < k) (hn : j < n) : listed.getD j false = true := by
  rw [Array.getD_eq_getD_getElem?, hl.2 j hn]
  simp [hj]

theorem anyD_lex {Q : SD → Prop} (hd : drawOk cfg me ops = true) {s' : SD} (hQ : Q s') : ∀ (l : List Oper) (k : Nat) (listed : Array Bool) (s : SD), (∀ j, l[j]? = ops[k + j]?) → Lk ops.size k listed →
    runD cfg T Ti me nt dl ops.toList k l s = some s' → anyD cfg T Ti me nt dl ops Q l.length listed s
  | [], k, listed, s, hl, hL, hr => by
    simp [runD] at hr; subst hr
    refine ⟨?_, hQ⟩
    have hk : ops.size ≤ k := by
      rcases Nat.lt_or_ge k ops.size with h | h
      · have := hl 0
        simp [h] at this
      · exact h
    cases hrd : Region.ready .any ops listed with
    | nil => rfl
    | cons j js =>
      have hj : j ∈ Region.ready .any ops listed := by rw [hrd]; exact List.mem_cons_self ..
      have := hL.un.1 (mem_ready.1 hj).1
      omega
  | o :: l, k, listed, s, hl, hL, hr => by
    have h0 : ops[k]? = some o := by simpa using (hl 0).symm
    have hk : k < ops.size := (Array.getElem?_eq_some_iff.1 h0).1
    simp only [runD, Option.bind_eq_some_iff] at hr
    obtain ⟨s1, h1, hr⟩ := hr
    obtain ⟨hfree, hbefore⟩ := drawOk_spec hd h0
    have hclosed : Closed ops listed := fun j oj hj hlj e he hb => by
      obtain ⟨_, hb4⟩ := drawOk_spec hd hj
      have hjn : j < ops.size := (Array.getElem?_eq_some_iff.1 hj).1
      have hjk : j < k := by
        rw [Array.getD_eq_getD_getElem?, hL.2 j hjn] at hlj
        simpa using hlj
      have := hb4 e he hb
      exact hL.done (by omega) (by omega)
    refine anyD_first h0 l.length listed s s1 hclosed ?_ ?_ (by simp only [stepAt, h0]; exact h1)
      (anyD_lex hd hQ l (k + 1) _ s1 (fun j => by have := hl (j + 1); simpa [Nat.add_assoc, Nat.add_comm 1 j] using this) (hL.set hk) hr)
    · intro j oj hj hne hun hno
      have := hL.un.1 hun
      exact freeAt_spec hfree hj (by omega) hno
    · rw [mem_ready]
      refine ⟨hL.un.2 ⟨Nat.le_refl _, hk⟩, o, h0, fun e he hb => ?_⟩
      have := hbefore e he hb
      exact hL.done this (by omega)

theorem applyE_le {e : Eff} (hq : quietE e = true) (he : applyE h e = some h') : HLe h h' := by
  cases e with
  | heap => simp [quietE] at hq
  | none => simp [applyE] at he; subst he; exact fun i o ho => ho
  | put j x =>
    simp only [applyE] at he
    cases hj : h j with
    | some y => rw [hj] at he; cases he
    | none =>
      rw [hj] at he
      simp at he
      subst he
      intro i o ho
      rw [hput_ne]
      · exact ho
      · rintro rfl
        rw [hj] at ho
        cases ho

theorem HLe.trans {a b c : Hp} (h1 : HLe a b) (h2 : HLe b c) : HLe a c := fun i o ho => h2 i o (h1 i o ho)

theorem nextHr_quiet {c : Cls} {op : Op} {hr : Hp} (hc : c.isW = false) : nextHr dl c fr op h' hr = hr := by
  cases c <;> simp [Cls.isW] at hc <;> rfl

/-- A store writes one object. -/
theorem st_at {T : TypeId} {x v : V} (hs : st cfg h T x v = some h') : ∃ id ob, addrId x = some id ∧ h' = hput h id ob := by
  unfold st at hs
  simp only [Option.bind_eq_some_iff] at hs
  obtain ⟨i, _, vs, _, hs⟩ := hs
  cases hb : Nat.beq vs.length i.size with
  | false => rw [hb] at hs; simp at hs
  | true =>
    rw [hb] at hs
    simp only [cond_true] at hs
    split at hs
    · rename_i id off
      rw [Option.bind_eq_some_iff] at hs
      obtain ⟨ob, hob, hs⟩ := hs
      cases ob with
      | box cs =>
        simp only at hs
        cases hc : (Nat.ble (off + i.size) cs.length && vs.all defC) with
        | false => rw [hc] at hs; simp at hs
        | true => rw [hc] at hs; simp at hs; exact ⟨id, _, rfl, hs.symm⟩
      | _ => cases hs
    · rename_i id k j off
      rw [Option.bind_eq_some_iff] at hs
      obtain ⟨ob, hob, hs⟩ := hs
      split at hs
      · split at hs
        · rw [Option.bind_eq_some_iff] at hs
          obtain ⟨x, _, hs⟩ := hs
          cases hc : Nat.ble (off + i.size) (szOf k) with
          | false => rw [hc] at hs; simp at hs
          | true =>
            rw [hc] at hs
            simp only [cond_true, Option.bind_eq_some_iff, Option.some.injEq] at hs
            obtain ⟨fs, _, y, _, hs⟩ := hs
            exact ⟨id, _, rfl, hs.symm⟩
        · cases hs
      · cases hs
    · cases hs

/-! ### A call that is told by some objects is told by all -/

theorem only_le (dl : List Id) (h : Hp) : HLe (only dl h) h := by
  intro i o ho
  unfold only at ho
  cases hm : memId i dl with
  | false => rw [hm] at ho; cases ho
  | true => rw [hm] at ho; exact ho

theorem only_some {i : Id} {o : Vm.Obj} (ho : only dl h i = some o) : i ∈ dl := by
  unfold only at ho
  cases hm : memId i dl with
  | false => rw [hm] at ho; cases ho
  | true => exact memId_iff.1 hm

theorem overlay_only : overlay dl (only dl h) h = h := by
  funext i
  unfold overlay only
  cases memId i dl <;> rfl

theorem addNew_left {i : Id} : ∀ {r l : List Id}, i ∈ l → i ∈ addNew l r
  | [], l, hi => hi
  | j :: r, l, hi => by
    unfold addNew
    cases memId j l with
    | true => exact addNew_left hi
    | false => exact addNew_left (List.mem_append_left _ hi)

theorem reach_left {i : Id} : ∀ {n : Nat} {l : List Id}, i ∈ l → i ∈ reach h n l
  | 0, l, hi => hi
  | n + 1, l, hi => reach_left (n := n) (addNew_left hi)

theorem refsAt_le {h2 : Hp} (hle : HLe h h2) : ∀ {l : List Id}, (∀ i ∈ l, (h i).isSome = true) → refsAt h2 l = refsAt h l
  | [], _ => rfl
  | i :: r, hl => by
    have h1 := hl i (List.mem_cons_self ..)
    cases ho : h i with
    | none => rw [ho] at h1; cases h1
    | some o =>
      simp only [refsAt, ho, hle i o ho]
      rw [refsAt_le hle fun j hj => hl j (List.mem_cons_of_mem _ hj)]

theorem reach_le {h2 : Hp} (hle : HLe h h2) : ∀ {n : Nat} {l : List Id}, (∀ i ∈ reach h n l, (h i).isSome = true) → reach h2 n l = reach h n l
  | 0, l, _ => rfl
  | n + 1, l, hl => by
    have h1 := refsAt_le hle (l := l) fun i hi => hl i (reach_left (n := n + 1) hi)
    simp only [reach]
    rw [h1]
    exact reach_le hle hl

theorem getAll_is : ∀ {l : List Id} {os : List Vm.Obj}, getAll h l = some os → ∀ i ∈ l, ∃ o, h i = some o
  | [], os, _, i, hi => by cases hi
  | j :: r, os, hg, i, hi => by
    simp only [getAll, Option.bind_eq_some_iff] at hg
    obtain ⟨o, ho, os', hg, _⟩ := hg
    rcases List.mem_cons.1 hi with rfl | hi
    · exact ⟨o, ho⟩
    · exact getAll_is hg i hi

theorem getAll_le {h2 : Hp} (hle : HLe h h2) : ∀ {l : List Id} {os : List Vm.Obj}, getAll h l = some os → getAll h2 l = some os
  | [], os, hg => hg
  | j :: r, os, hg => by
    simp only [getAll, Option.bind_eq_some_iff] at hg ⊢
    obtain ⟨o, ho, os', hg, he⟩ := hg
    exact ⟨o, hle j o ho, os', getAll_le hle hg, he⟩

theorem putAll_over : ∀ {l : List Id} {os : List Vm.Obj} {a a' : Hp}, (∀ i ∈ l, i ∈ dl) → putAll a l os = some a' → putAll (overlay dl a h) l os = some (overlay dl a' h)
  | [], [], a, a', _, hp => by simp [putAll] at hp ⊢; rw [hp]
  | [], _ :: _, a, a', _, hp => by simp [putAll] at hp
  | _ :: _, [], a, a', _, hp => by simp [putAll] at hp
  | i :: l, o :: os, a, a', hl, hp => by
    simp only [putAll] at hp ⊢
    have hi := hl i (List.mem_cons_self ..)
    have : hput (overlay dl a h) i o = overlay dl (hput a i o) h := by
      funext j
      by_cases hj : j = i
      · subst hj; rw [hput_self, overlay_in hi, hput_self]
      · rw [hput_ne _ _ hj]
        by_cases hjd : j ∈ dl
        · rw [overlay_in hjd, overlay_in hjd, hput_ne _ _ hj]
        · rw [overlay_out hjd, overlay_out hjd]
    rw [this]
    exact putAll_over (fun k hk => hl k (List.mem_cons_of_mem _ hk)) hp

theorem handBack_frame {d : Nat} {ids : List Id} {r v : V} {os : List Vm.Obj} {e : Eff} (hids : ∀ i ∈ ids, i ∈ dl) (hb : handBack (only dl h) d ids r os [] = some (v, e)) :
    ∃ a, e = .heap a ∧ handBack h d ids r os [] = some (v, .heap (overlay dl a h)) := by
  unfold handBack at hb ⊢
  simp only [List.length_nil, List.range_zero, List.map_nil, List.append_nil, fresh, cond_true, Option.bind_eq_some_iff, putAll, Option.some.injEq, Prod.mk.injEq] at hb ⊢
  obtain ⟨h1, hp, h2, rfl, hv, he⟩ := hb
  refine ⟨h1, he.symm, overlay dl h1 h, ?_, _, rfl, hv, rfl⟩
  have := putAll_over (h := h) hids hp
  rw [overlay_only] at this
  exact this

theorem hcallS_frame {d : Nat} {f : FuncId} {args : List V} {sh : Sh} {v : V} {e : Eff} (hl : hcallS T (only dl h) d f args sh = some (v, e)) :
    ∃ a, e = .heap a ∧ hcallS T h d f args sh = some (v, .heap (overlay dl a h)) := by
  unfold hcallS at hl
  simp only at hl
  cases hd : distinct (reach (only dl h) 3 (addNew [] (refsVs args))) with
  | false => rw [hd] at hl; simp at hl
  | true =>
    rw [hd] at hl
    simp only [cond_true, Option.bind_eq_some_iff] at hl
    obtain ⟨os, hos, r, hr, v1, hv1, os', hos', hb⟩ := hl
    cases hcond : (Nat.beq r.2.1.length os.length && isNil r.2.2) with
    | false => rw [hcond] at hb; simp at hb
    | true =>
      rw [hcond] at hb
      simp only [cond_true] at hb
      have hin : ∀ i ∈ reach (only dl h) 3 (addNew [] (refsVs args)), i ∈ dl := fun i hi => by
        obtain ⟨o, ho⟩ := getAll_is hos i hi
        exact only_some ho
      have hre : reach h 3 (addNew [] (refsVs args)) = reach (only dl h) 3 (addNew [] (refsVs args)) := reach_le (only_le dl h) fun i hi => by
        obtain ⟨o, ho⟩ := getAll_is hos i hi
        rw [ho]; rfl
      obtain ⟨a, rfl, hb2⟩ := handBack_frame hin hb
      refine ⟨a, rfl, ?_⟩
      unfold hcallS
      simp only [hre, hd, cond_true, getAll_le (only_le dl h) hos, Option.bind_some, hr, hv1, hos', hcond]
      exact hb2

theorem aop_frame {op : Op} {dst : Option Nat} {ty : TypeId} {v : V} {e : Eff} (hc : isHC cfg me op = true) (ha : aop cfg T Ti me fr (only dl h) dst ty op = some (v, e)) :
    ∃ a, e = .heap a ∧ aop cfg T Ti me fr h dst ty op = some (v, .heap (overlay dl a h)) := by
  obtain ⟨f, as, ts, rfl, hm, hn⟩ := call_form hc
  simp only [aop, Option.bind_eq_some_iff] at ha ⊢
  obtain ⟨d, hd, args, hargs, fv, hf, ha⟩ := ha
  simp only [ev, Option.some.injEq] at hf
  subst hf
  simp only [callV, hm, hn] at ha
  obtain ⟨a, he, hc2⟩ := hcallS_frame ha
  refine ⟨a, he, d, hd, args, hargs, _, rfl, ?_⟩
  simp only [callV, hm, hn]
  exact hc2

theorem nextHr_le {c : Cls} {o : Oper} {hr : Hp} {v : V} {e : Eff} (hc : c.isW = true) (hc2 : c ≠ .lcall) (hok : okD dl c fr o = true) (ha : aop cfg T Ti me fr h o.dst o.type o.op = some (v, e)) (he : applyE h e = some h') (hle : HLe hr h) : HLe (nextHr dl c fr o.op h' hr) h' := by
  cases c with
  | writes => exact fun i o ho => ho
  | lcall => exact absurd rfl hc2
  | lstore =>
    simp only [nextHr]
    simp only [okD] at hok
    cases hop : o.op <;> rw [hop] at ha hok <;> simp only [stId] at hok ⊢
    case store t x y =>
      simp only [aop, Option.bind_eq_some_iff, Option.map_eq_some_iff] at ha
      obtain ⟨a1, hev, v1, _, h1, hs, hve⟩ := ha
      cases hve
      simp [applyE] at he
      subst he
      obtain ⟨id, ob, hid, rfl⟩ := st_at hs
      simp only [hev, Option.bind_some, hid, hput_self]
      intro i o ho
      by_cases hi : i = id
      · subst hi; rw [hput_self] at ho ⊢; exact ho
      · rw [hput_ne _ _ hi] at ho ⊢; exact hle i o ho
    all_goals cases hok
  | _ => cases hc

theorem over_le {a hr : Hp} (hle : HLe hr h) : HLe (overlay dl (overlay dl a h) hr) (overlay dl a h) := by
  intro i o ho
  by_cases hi : i ∈ dl
  · rw [overlay_in hi] at ho; exact ho
  · rw [overlay_out hi] at ho ⊢; exact hle i o ho

/-- Whatever order is drawn. -/
theorem any_wp (ht : TabOK P cfg) (hT : TOK G P T) (hTi : TOK G P Ti) {Q : SD → Prop} {Q' : Exit → Act → World → Prop} (hQ : ∀ s a w, Rp G U h0 loc0 w0 nt s.fr s.h a w → Q s → Q' .normal a w) : ∀ (fuel : Nat) (listed : Array Bool) (s : SD) (a : Act) (w : World),
    Rp G U h0 loc0 w0 nt s.fr s.h a w → HLe s.hr s.h → anyD cfg T Ti me nt dl ops Q fuel listed s → wpAny P .any ops Q' fuel listed a w
  | 0, _, s, a, w, hr, _, h => ⟨h.1, hQ s a w hr h.2⟩
  | fuel + 1, listed, s, a, w, hr, hle, h => by
    refine ⟨fun h0 => hQ s a w hr (h.1 h0), fun i hi => ?_⟩
    obtain ⟨s1, h1, h2⟩ := h.2 i hi
    unfold wpOp
    unfold stepAt at h1
    cases ho : ops[i]? with
    | none =>
      rw [ho] at h1
      simp at h1
      subst h1
      exact any_wp ht hT hTi hQ fuel _ _ _ _ hr hle h2
    | some o =>
      rw [ho] at h1
      simp only at h1 ⊢
      simp only [stepD, Option.bind_eq_some_iff] at h1
      obtain ⟨g, hg, h1⟩ := h1
      have hwant : Region.wanted o (yielded ops a.tmps) = g := by
        obtain ⟨loc, hw, hf, _⟩ := hr
        exact guardA_ok hf hg
      simp only [hwant]
      cases g with
      | false =>
        simp only [cond_false, Option.bind_eq_some_iff, Option.some.injEq] at h1
        obtain ⟨fr', hp, rfl⟩ := h1
        exact any_wp ht hT hTi hQ fuel _ ⟨fr', s.h, s.hr⟩ _ _ (skip_wp hr hp) hle h2
      | true =>
        simp only [cond_true] at h1
        refine .inl ?_
        cases hok : okD dl (clsIn cfg me ops.toList i o) s.fr o with
        | false => rw [hok] at h1; simp at h1
        | true =>
          rw [hok] at h1
          simp only [cond_true, Option.bind_eq_some_iff] at h1
          obtain ⟨⟨v, e⟩, ha, h1⟩ := h1
          cases hw : (clsIn cfg me ops.toList i o).isW with
          | false =>
            rw [tabD_quiet hw] at ha
            rw [hw] at h1
            simp only [Bool.false_or] at h1
            cases hq : quietE e with
            | false => rw [hq] at h1; simp at h1
            | true =>
              rw [hq, effD_id (not_lcall hw)] at h1
              simp only [cond_true, Option.bind_eq_some_iff, Option.some.injEq] at h1
              obtain ⟨h', he, fr', hp, rfl⟩ := h1
              rw [nextHr_quiet hw] at h2
              exact op_wp ht hT hTi hr (aop_mono hle ha hq) he hp fun a' w' hr' => any_wp ht hT hTi hQ fuel _ ⟨fr', h', s.hr⟩ _ _ hr' (hle.trans (applyE_le hq he)) h2
          | true =>
            rw [hw] at h1
            simp only [Bool.true_or, cond_true, Option.bind_eq_some_iff, Option.some.injEq] at h1
            by_cases hlc : clsIn cfg me ops.toList i o = .lcall
            · rw [hlc] at ha h1
              simp only [tabD] at ha
              obtain ⟨a1, rfl, ha2⟩ := aop_frame ((clsIn_tells hlc).2.2.2.1 rfl) ha
              obtain ⟨h', he, fr', hp, rfl⟩ := h1
              simp only [effD, applyE, Option.some.injEq] at he
              subst he
              exact op_wp ht hT hTi hr ha2 rfl hp fun a' w' hr' => any_wp ht hT hTi hQ fuel _ ⟨fr', _, _⟩ _ _ hr' (over_le hle) h2
            · have htab : tabD dl (clsIn cfg me ops.toList i o) s.h s.hr = s.h := by
                cases hcc : clsIn cfg me ops.toList i o <;> rw [hcc] at hw hlc <;> first | rfl | exact absurd rfl hlc | cases hw
              rw [htab] at ha
              rw [effD_id hlc] at h1
              obtain ⟨h', he, fr', hp, rfl⟩ := h1
              exact op_wp ht hT hTi hr ha he hp fun a' w' hr' => any_wp ht hT hTi hQ fuel _ ⟨fr', h', _⟩ _ _ hr' (nextHr_le hw hlc hok ha he hle) h2

theorem Rp.drew (hr : Rp G U h0 loc0 w0 nt fr h a w) : Rp G U h0 loc0 w0 nt fr h a { w with drawn := w.drawn + 1 } := by
  obtain ⟨loc, hw, hf, hex, hn, hd⟩ := hr
  exact ⟨loc, hw.drew, hf.ext (Ext.drew U h loc w), hex.trans (Ext.drew U h loc w), hn, hd⟩

theorem region_wp (hm : P.follows .mixedOrders = true) (ht : TabOK P cfg) (hT : TOK G P T) (hTi : TOK G P Ti) {Q : Exit → Act → World → Prop} {s s' : St} {id : Nat} {draw : Bool} (hr : Rp G U h0 loc0 w0 nt s.fr s.h a w)
    (hs : region cfg T Ti me nt id ops draw s = some s') (hQ : ∀ a' w', Rp G U h0 loc0 w0 nt s'.fr s'.h a' w' → Q .normal a' w') : (Code.region id ops draw).wp P Q a w := by
  unfold region at hs
  cases draw with
  | false =>
    simp only [cond_false] at hs
    exact wp_region_list (ops_wp ht hT hTi _ _ _ _ hr hs hQ)
  | true =>
    simp only [cond_true] at hs
    cases hd : drawOk cfg me ops with
    | false => rw [hd] at hs; simp at hs
    | true =>
      rw [hd] at hs
      simp only [cond_true, Option.map_eq_some_iff] at hs
      obtain ⟨s1, h1, rfl⟩ := hs
      refine wp_region_any hm ?_
      have := anyD_lex (Q := fun s => s = s1) hd rfl ops.toList 0 (Array.replicate ops.size false) ⟨s.fr, s.h, s.h⟩ (by simp) ⟨by simp, fun j hj => by simp [hj]⟩ h1
      rw [Array.length_toList] at this
      exact any_wp ht hT hTi (fun s2 a w hr2 he => by subst he; exact hQ a w hr2) _ _ _ _ _ hr.drew (fun i o ho => ho) this

end
end Go.Vm

namespace Go.Vm
variable {G : Gl}
set_option linter.unusedVariables false
set_option linter.unusedSimpArgs false

section
variable {P : Program} {cfg : Cfg} {T Ti : CallSem} {me nt na : Nat} {U : Nat → Prop} {loc0 : Loc} {w0 : World} {fr fr' : Fr} {h h' : Hp} {loc loc' : Loc} {a : Act} {w : World} {objs : List Obj}

/-! ### Lists of names -/

theorem distinct_nodup : ∀ {l : List Id}, distinct l = true ↔ l.Nodup
  | [] => by simp [distinct]
  | i :: l => by
    simp only [distinct, Bool.and_eq_true, Bool.not_eq_true', List.nodup_cons, distinct_nodup (l := l)]
    constructor
    · rintro ⟨h1, h2⟩
      exact ⟨fun h => (by rw [memId_iff.2 h] at h1; cases h1), h2⟩
    · rintro ⟨h1, h2⟩
      refine ⟨?_, h2⟩
      cases hm : memId i l with
      | false => rfl
      | true => exact absurd (memId_iff.1 hm) h1

theorem look_mem {m : List (Id × Id)} : ∀ {a b : Id}, look m a = some b → (a, b) ∈ m := by
  induction m with
  | nil => intro a b h; simp [look] at h
  | cons p m ih =>
    intro a b h
    obtain ⟨x, y⟩ := p
    simp only [look] at h
    cases hb : Id.beq x a with
    | true =>
      rw [hb] at h
      simp at h
      rw [Id.beq_true.1 hb, h]
      exact List.mem_cons_self ..
    | false => rw [hb] at h; exact List.mem_cons_of_mem _ (ih h)

theorem look_of_mem {m : List (Id × Id)} (hd : (m.map (·.1)).Nodup) : ∀ {a b : Id}, (a, b) ∈ m → look m a = some b := by
  induction m with
  | nil => intro a b h; cases h
  | cons p m ih =>
    intro a b h
    obtain ⟨x, y⟩ := p
    simp only [List.map_cons, List.nodup_cons] at hd
    simp only [look]
    rcases List.mem_cons.1 h with h | h
    · simp only [Prod.mk.injEq] at h
      obtain ⟨rfl, rfl⟩ := h
      simp [Id.beq_self]
    · have hne : x ≠ a := by
        rintro rfl
        exact hd.1 (List.mem_map.2 ⟨_, h, rfl⟩)
      rw [Id.beq_ne hne]
      exact ih hd.2 h

theorem hpIds_mem {l : List (Id × Obj)} : ∀ {b : Id} {o : Obj}, hpIds l b = some o → (b, o) ∈ l := by
  induction l with
  | nil => intro b o h; simp [hpIds] at h
  | cons p l ih =>
    intro b o h
    obtain ⟨x, y⟩ := p
    simp only [hpIds] at h
    cases hb : Id.beq b x with
    | true =>
      rw [hb] at h
      simp at h
      rw [Id.beq_true.1 hb, h]
      exact List.mem_cons_self ..
    | false => rw [hb] at h; exact List.mem_cons_of_mem _ (ih h)

theorem hpIds_of_mem {l : List (Id × Obj)} (hd : (l.map (·.1)).Nodup) : ∀ {b : Id} {o : Obj}, (b, o) ∈ l → hpIds l b = some o := by
  induction l with
  | nil => intro b o h; cases h
  | cons p l ih =>
    intro b o h
    obtain ⟨x, y⟩ := p
    simp only [List.map_cons, List.nodup_cons] at hd
    simp only [hpIds]
    rcases List.mem_cons.1 h with h | h
    · simp only [Prod.mk.injEq] at h
      obtain ⟨rfl, rfl⟩ := h
      simp [Id.beq_self]
    · have hne : b ≠ x := by
        intro e
        exact hd.1 (List.mem_map.2 ⟨(b, o), h, e⟩)
      rw [Id.beq_ne hne]
      exact ih hd.2 h

theorem frOf_mem : ∀ {l : List (Nat × V)} {t : Nat}, (t, frOf l t) ∈ l ∨ frOf l t = .c .hole
  | [], t => .inr rfl
  | (s, v) :: l, t => by
    simp only [frOf]
    cases hb : Nat.beq t s with
    | true =>
      have := Nat.eq_of_beq_eq_true hb
      subst this
      exact .inl (List.mem_cons_self ..)
    | false =>
      rcases frOf_mem (l := l) (t := t) with h | h
      · exact .inl (List.mem_cons_of_mem _ h)
      · exact .inr h

/-! ### The entry's objects -/

theorem arg_lt {os : List Obj} {id : Id} {o : Obj} (h : hpOf .arg 0 os id = some o) : ∃ j, j < os.length ∧ id = .arg j := by
  obtain ⟨j, rfl, hj⟩ := hpOf_some h
  exact ⟨j, (List.getElem?_eq_some_iff.1 hj).1, by simp⟩

theorem allIn_args {l : List Id} (ha : allIn l ((List.range na).map Id.arg) = true) {j : Nat} (hj : j < na) : Id.arg j ∈ l :=
  allIn_iff.1 ha _ (List.mem_map.2 ⟨j, List.mem_range.2 hj, rfl⟩)

/-- A table of objects in the place of another: nothing in memory has changed. -/
theorem Ext.turnTo (hex : Ext U (hpOf .arg 0 objs) loc0 w0 h loc w) (hM : ∀ b, Mut U h' loc' b → Mut U h loc b)
    (hk : ∀ j, j < objs.length → loc' (.arg j) = loc (.arg j) ∧ ∀ o, h (.arg j) = some o → ∃ o', h' (.arg j) = some o' ∧ Same o o') : Ext U (hpOf .arg 0 objs) loc0 w0 h' loc' w := by
  refine ⟨hex.os, hex.tape, hex.output, ⟨hex.keeps.size, fun b hb hm => ?_⟩, ?_, ?_, hex.old⟩
  · have := hex.keeps.same b hb hm
    exact ⟨fun h => this.1 (hM b h), this.2⟩
  · intro id o ho
    obtain ⟨j, hj, rfl⟩ := arg_lt ho
    rw [(hk j hj).1, hex.lc _ _ ho]
  · intro id o ho
    obtain ⟨j, hj, rfl⟩ := arg_lt ho
    obtain ⟨o1, ho1, ht⟩ := hex.ent _ _ ho
    obtain ⟨o2, ho2, hs⟩ := (hk j hj).2 o1 ho1
    refine ⟨o2, ho2, ?_⟩
    cases o1 with
    | box cs => cases o2 <;> simp [Same] at hs; cases o <;> exact ht
    | row wr k l => simp only [Same] at hs; rw [hs]; exact ht
    | dead => cases o2 <;> simp [Same] at hs; exact ht

theorem Same.trans {a b c : Obj} (h1 : Same a b) (h2 : Same b c) : Same a c := by
  cases a with
  | box cs => cases b <;> simp [Same] at h1; cases c <;> simp [Same] at h2 ⊢
  | row wr k l => simp only [Same] at h1; rw [h1] at h2; exact h2
  | dead => cases b <;> simp [Same] at h1; cases c <;> simp [Same] at h2 ⊢

/-! ### A loop's head -/

theorem findRow_mem {p : Place} : ∀ {rows : List (Place × Id)} {j : Id}, findRow p rows = some j → (p, j) ∈ rows
  | [], j, h => by simp [findRow] at h
  | (q, i) :: rows, j, h => by
    simp only [findRow] at h
    cases hb : Place.beq q p with
    | true =>
      rw [hb] at h
      simp at h
      have : q = p := by
        cases q <;> cases p <;> simp [Place.beq] at hb
        · rw [hb]
        · rw [Id.beq_true.1 hb.1, hb.2]
      rw [this, h]
      exact List.mem_cons_self ..
    | false => rw [hb] at h; exact List.mem_cons_of_mem _ (findRow_mem h)

theorem mem_keepObjs {s : St} {m : List (Id × Id)} {rows : List (Place × Id)} : ∀ {l : List Id} {b : Id} {o : Obj}, (b, o) ∈ keepObjs s m rows l ↔ b ∈ l ∧ ∃ o0, s.h b = some o0 ∧ o = thawO rows b (renO m o0)
  | [], b, o => by simp [keepObjs]
  | i :: l, b, o => by
    simp only [keepObjs, List.mem_append, mem_keepObjs (l := l), List.mem_cons]
    constructor
    · rintro (h1 | ⟨h1, h2⟩)
      · cases hi : s.h i with
        | none => rw [hi] at h1; simp at h1
        | some o0 =>
          rw [hi] at h1
          simp only [List.mem_singleton, Prod.mk.injEq] at h1
          obtain ⟨rfl, rfl⟩ := h1
          exact ⟨.inl rfl, o0, hi, rfl⟩
      · exact ⟨.inr h1, h2⟩
    · rintro ⟨rfl | h1, o0, h2, rfl⟩
      · left; rw [h2]; simp
      · exact .inr ⟨h1, o0, h2, rfl⟩

theorem mem_keepRows {s : St} {m : List (Id × Id)} : ∀ {rows : List (Place × Id)} {b : Id} {o : Obj}, (b, o) ∈ keepRows s m rows ↔
    ∃ p, (p, b) ∈ rows ∧ ((∃ i kk o0, atPlace s p = some (.row i kk) ∧ s.h i = some o0 ∧ o = renO m o0) ∨ ∃ k l, atPlace s p = some (.f (.sl true k l)) ∧ o = .row (isNil l) k l)
  | [], b, o => by simp [keepRows]
  | (p, j) :: rows, b, o => by
    simp only [keepRows, List.mem_append, mem_keepRows (rows := rows), List.mem_cons, Prod.mk.injEq]
    constructor
    · rintro (h1 | ⟨q, h1, h2⟩)
      · split at h1
        · rename_i i kk hp
          cases hi : s.h i with
          | none => rw [hi] at h1; simp at h1
          | some o0 =>
            rw [hi] at h1
            simp only [List.mem_singleton, Prod.mk.injEq] at h1
            obtain ⟨rfl, rfl⟩ := h1
            exact ⟨p, .inl ⟨rfl, rfl⟩, .inl ⟨i, kk, o0, hp, hi, rfl⟩⟩
        · rename_i k l hp
          simp only [List.mem_singleton, Prod.mk.injEq] at h1
          obtain ⟨rfl, rfl⟩ := h1
          exact ⟨p, .inl ⟨rfl, rfl⟩, .inr ⟨k, l, hp, rfl⟩⟩
        · simp at h1
      · exact ⟨q, .inr h1, h2⟩
    · rintro ⟨q, ⟨rfl, rfl⟩ | h1, h2⟩
      · left
        rcases h2 with ⟨i, kk, o0, hp, hi, rfl⟩ | ⟨k, l, hp, rfl⟩
        · rw [hp]; simp only; rw [hi]; simp
        · rw [hp]; simp
      · exact .inr ⟨q, h1, h2⟩

theorem keepObjs_names {s : St} {m : List (Id × Id)} {rows : List (Place × Id)} : ∀ {l : List Id}, ((keepObjs s m rows l).map (·.1)).Sublist l
  | [] => by simp [keepObjs]
  | i :: l => by
    simp only [keepObjs, List.map_append]
    cases s.h i with
    | none => exact (keepObjs_names (l := l)).cons i
    | some o => exact (keepObjs_names (l := l)).cons_cons i

theorem keepRows_names {s : St} {m : List (Id × Id)} : ∀ {rows : List (Place × Id)}, ((keepRows s m rows).map (·.1)).Sublist (rows.map (·.2))
  | [] => by simp [keepRows]
  | (p, j) :: rows => by
    simp only [keepRows, List.map_append, List.map_cons]
    split
    · rename_i i kk _
      cases s.h i with
      | none => exact (keepRows_names (rows := rows)).cons j
      | some o => exact (keepRows_names (rows := rows)).cons_cons j
    · exact (keepRows_names (rows := rows)).cons_cons j
    · exact (keepRows_names (rows := rows)).cons j

theorem mem_keepMap {s : St} {k : Keep} {a b : Id} : (a, b) ∈ keepMap s k ↔ (a = b ∧ b ∈ k.objs) ∨ ∃ p kk, (p, b) ∈ k.rows ∧ atPlace s p = some (.row a kk) := by
  unfold keepMap
  simp only [List.mem_append, List.mem_map, List.mem_filterMap, Prod.mk.injEq]
  constructor
  · rintro (⟨i, hi, rfl, rfl⟩ | ⟨⟨p, j⟩, hp, h1⟩)
    · exact .inl ⟨rfl, hi⟩
    · simp only at h1
      split at h1
      · rename_i i kk hat
        simp only [Option.some.injEq, Prod.mk.injEq] at h1
        obtain ⟨rfl, rfl⟩ := h1
        exact .inr ⟨p, kk, hp, hat⟩
      · cases h1
  · rintro (⟨rfl, h1⟩ | ⟨p, kk, h1, h2⟩)
    · exact .inl ⟨a, h1, rfl, rfl⟩
    · exact .inr ⟨(p, b), h1, by simp only [h2]⟩

theorem thawO_same {rows : List (Place × Id)} {i : Id} (o : Obj) : Same o (thawO rows i o) := by cases o <;> simp [Same, thawO]

theorem renC_tight {m : List (Id × Id)} {c : C} {k : Kind} {l : List (El k)} (h : renC m c = .f (.sl true k l)) : c = .f (.sl true k l) := by
  cases c with
  | f x => unfold renC at h; exact h
  | bx id off => unfold renC at h; cases hl : look m id <;> rw [hl] at h <;> simp at h
  | row id kk => unfold renC at h; cases hl : look m id <;> rw [hl] at h <;> simp at h
  | re id kk i off => unfold renC at h; cases hl : look m id <;> rw [hl] at h <;> simp at h
  | fn f caps => unfold renC at h; simp at h
  | hole => unfold renC at h; simp at h
  | und => unfold renC at h; simp at h

theorem swap_mem {m : List (Id × Id)} {a b : Id} : (b, a) ∈ swap m ↔ (a, b) ∈ m := by
  unfold swap
  simp only [List.mem_map, Prod.mk.injEq]
  constructor
  · rintro ⟨⟨x, y⟩, h1, rfl, rfl⟩; exact h1
  · intro h; exact ⟨(a, b), h, rfl, rfl⟩

theorem thaw_cell {M : Nat → Prop} {v : Value} {j : Id} {c : C} (hc : CW w M h loc v c) (hj : ∀ k l, c = .f (.sl true k l) → h j = some (.row (isNil l) k l) ∧ loc j = none) : CW w M h loc v (thawAt j c) := by
  unfold thawAt
  split
  · rename_i k l
    obtain ⟨h1, h2⟩ := hj k l rfl
    unfold CW at hc ⊢
    obtain ⟨n, hn⟩ := hc
    cases n with
    | zero => exact hn.elim
    | succ n =>
      have hn' := hn
      obtain ⟨A, c, rfl, _⟩ := hn
      refine ⟨⟨_, _, _, rfl⟩, by rw [h1]; rfl, fun wr k' l' hl => ?_⟩
      rw [h1] at hl
      simp only [Option.some.injEq, Obj.row.injEq] at hl
      obtain ⟨rfl, rfl, hl⟩ := hl
      obtain rfl := eq_of_heq hl
      exact ⟨rfl, fun b c hb => (by rw [h2] at hb; cases hb), fun _ => ⟨n + 1, hn'⟩⟩
  · exact hc

theorem thaw_cells {M : Nat → Prop} {rows : List (Place × Id)} {i : Id} : ∀ {cs : List C} {vs : List Value} {off : Nat}, CWs w M h loc vs cs →
    (∀ x c j, cs[x]? = some c → findRow (.cell i (off + x)) rows = some j → ∀ k l, c = .f (.sl true k l) → h j = some (.row (isNil l) k l) ∧ loc j = none) → CWs w M h loc vs (thawCs rows i off cs)
  | [], [], off, _, _ => by unfold thawCs CWs; trivial
  | [], _ :: _, off, hc, _ => by unfold CWs at hc; exact hc.elim
  | c :: cs, [], off, hc, _ => by unfold CWs at hc; exact hc.elim
  | c :: cs, v :: vs, off, hc, hj => by
    unfold thawCs
    unfold CWs at hc ⊢
    refine ⟨?_, thaw_cells hc.2 fun x c' j hx hf => hj (x + 1) c' j (by simpa using hx) (by rw [show off + (x + 1) = off + 1 + x by omega]; exact hf)⟩
    split
    · rename_i j hf
      exact thaw_cell hc.1 (hj 0 c j rfl (by simpa using hf))
    · exact hc.1

theorem mem_keepSlots {s : St} {m : List (Id × Id)} {rows : List (Place × Id)} : ∀ {l : List Nat} {t : Nat} {v : V}, (t, v) ∈ keepSlots s m rows l → v = (match findRow (.slot t) rows with | some j => thawV j (renV m (s.fr t)) | none => renV m (s.fr t))
  | [], t, v, h => by simp [keepSlots] at h
  | x :: l, t, v, h => by
    simp only [keepSlots, List.mem_cons, Prod.mk.injEq] at h
    rcases h with ⟨rfl, rfl⟩ | h
    · rfl
    · exact mem_keepSlots h

theorem renCs_get {m : List (Id × Id)} : ∀ {cs : List C} {x : Nat} {c : C}, (renCs m cs)[x]? = some c → ∃ c0, cs[x]? = some c0 ∧ c = renC m c0
  | [], x, c, h => by unfold renCs at h; simp at h
  | d :: cs, x, c, h => by
    unfold renCs at h
    cases x with
    | zero => simp at h; subst h; exact ⟨d, rfl, rfl⟩
    | succ x => obtain ⟨c0, h1, h2⟩ := renCs_get (cs := cs) (x := x) (by simpa using h); exact ⟨c0, by simpa using h1, h2⟩

theorem clean_ok {k : Keep} {s' : St} (hr : Rp G U (hpOf .arg 0 objs) loc0 w0 nt fr h a w) (hc : clean objs.length k ⟨fr, h⟩ = some s') : Rp G U (hpOf .arg 0 objs) loc0 w0 nt s'.fr s'.h a w := by
  obtain ⟨loc, hw, hf, hex, hn, hd⟩ := hr
  unfold clean at hc
  simp only at hc
  generalize hm : keepMap ⟨fr, h⟩ k = m at hc
  cases hcond : distinct (k.objs ++ k.rows.map (·.2)) && distinct (m.map (·.1)) && allIn k.objs ((List.range objs.length).map Id.arg) with
  | false => rw [hcond] at hc; simp at hc
  | true =>
    rw [hcond] at hc
    simp only [cond_true, Option.some.injEq] at hc
    subst hc
    simp only [Bool.and_eq_true] at hcond
    have d1 := distinct_nodup.1 hcond.1.1
    have d2 := distinct_nodup.1 hcond.1.2
    have d3 := hcond.2
    -- the pairs
    have hpair : ∀ {p q : Place} {b : Id}, (p, b) ∈ k.rows → (q, b) ∈ k.rows → p = q := by
      intro p q b h1 h2
      have dr : (k.rows.map (·.2)).Nodup := (List.nodup_append.1 d1).2.1
      exact nodup_snd dr h1 h2
    have hdisj : ∀ {p : Place} {b : Id}, (p, b) ∈ k.rows → b ∉ k.objs := by
      intro p b h1 h2
      exact (List.nodup_append.1 d1).2.2 b h2 b (List.mem_map.2 ⟨_, h1, rfl⟩) rfl
    have huniq : ∀ {x y b : Id}, (x, b) ∈ m → (y, b) ∈ m → x = y := by
      intro x y b h1 h2
      rw [← hm] at h1 h2
      rcases mem_keepMap.1 h1 with ⟨rfl, h3⟩ | ⟨p, kk, h3, h4⟩ <;> rcases mem_keepMap.1 h2 with ⟨rfl, h5⟩ | ⟨q, kk', h5, h6⟩
      · rfl
      · exact absurd h3 (hdisj h5)
      · exact absurd h5 (hdisj h3)
      · have := hpair h3 h5
        subst this
        rw [h4] at h6
        simp at h6
        exact h6.1
    have hl1 : ∀ {x b : Id}, look m x = some b ↔ (x, b) ∈ m := fun {x b} => ⟨look_mem, look_of_mem d2⟩
    have hl2 : ∀ {x b : Id}, (x, b) ∈ m → look (swap m) b = some x := by
      intro x b h1
      cases hl : look (swap m) b with
      | none =>
        exfalso
        have : ∀ {l : List (Id × Id)} {y : Id}, (b, y) ∈ l → look l b ≠ none := by
          intro l
          induction l with
          | nil => intro y h; cases h
          | cons q l ih =>
            intro y h
            obtain ⟨u, v⟩ := q
            simp only [look]
            cases hb : Id.beq u b with
            | true => simp
            | false =>
              simp only [cond_false]
              rcases List.mem_cons.1 h with h | h
              · simp only [Prod.mk.injEq] at h
                rw [h.1, Id.beq_self] at hb
                cases hb
              · exact ih h
        exact this (swap_mem.2 h1) hl
      | some y =>
        have := swap_mem.1 (look_mem hl)
        rw [huniq this h1]
    generalize hloc : (fun b => (look (swap m) b).bind loc) = loc'
    have hlocp : ∀ {x b : Id}, (x, b) ∈ m → loc' b = loc x := fun h1 => by rw [← hloc]; simp [hl2 h1]
    have hnames : ((keepObjs ⟨fr, h⟩ m k.rows k.objs ++ keepRows ⟨fr, h⟩ m k.rows).map (·.1)).Nodup := by
      rw [List.map_append]
      exact d1.sublist (keepObjs_names.append keepRows_names)
    generalize hh' : hpIds (keepObjs ⟨fr, h⟩ m k.rows k.objs ++ keepRows ⟨fr, h⟩ m k.rows) = h'
    have hin : ∀ {b : Id} {o : Obj}, h' b = some o ↔ (b ∈ k.objs ∧ ∃ o0, h b = some o0 ∧ o = thawO k.rows b (renO m o0)) ∨
        ∃ p, (p, b) ∈ k.rows ∧ ((∃ i kk o0, atPlace ⟨fr, h⟩ p = some (.row i kk) ∧ h i = some o0 ∧ o = renO m o0) ∨ ∃ kk l, atPlace ⟨fr, h⟩ p = some (.f (.sl true kk l)) ∧ o = .row (isNil l) kk l) := by
      intro b o
      rw [← hh']
      constructor
      · intro h1
        rcases List.mem_append.1 (hpIds_mem h1) with h2 | h2
        · exact .inl (mem_keepObjs.1 h2)
        · exact .inr (mem_keepRows.1 h2)
      · intro h1
        refine hpIds_of_mem hnames (List.mem_append.2 ?_)
        exact h1.imp mem_keepObjs.2 mem_keepRows.2
    have hthaw : ∀ {p : Place} {j : Id} {kk : Kind} {l : List (El kk)}, (p, j) ∈ k.rows → atPlace ⟨fr, h⟩ p = some (.f (.sl true kk l)) → h' j = some (.row (isNil l) kk l) ∧ loc' j = none := by
      intro p j kk l h1 h2
      refine ⟨hin.2 (.inr ⟨p, h1, .inr ⟨kk, l, h2, rfl⟩⟩), ?_⟩
      rw [← hloc]
      cases hl : look (swap m) j with
      | none => simp only [hl]; rfl
      | some x =>
        exfalso
        have h3 := swap_mem.1 (look_mem hl)
        rw [← hm] at h3
        rcases mem_keepMap.1 h3 with ⟨rfl, h4⟩ | ⟨q, kk', h4, h5⟩
        · exact hdisj h1 h4
        · have := hpair h1 h4
          subst this
          rw [h2] at h5
          cases h5
    have hren : Ren m h loc h' loc' := by
      refine ⟨fun x b o hl ho => ?_⟩
      have hxb := hl1.1 hl
      refine (?_ : ∃ o', h' b = some o' ∧ Same o o').elim fun o' h1 => ⟨o', h1.1, h1.2, hlocp hxb⟩
      rw [← hm] at hxb
      rcases mem_keepMap.1 hxb with ⟨rfl, h4⟩ | ⟨q, kk', h4, h5⟩
      · exact ⟨_, hin.2 (.inl ⟨h4, o, ho, rfl⟩), (renO_same o).trans (thawO_same _)⟩
      · exact ⟨_, hin.2 (.inr ⟨q, h4, .inl ⟨x, kk', o, h5, ho, rfl⟩⟩), renO_same o⟩
    have hsrc : Src' m h loc h' loc' := by
      intro b o' blk c hb hlv hlo
      rw [← hloc] at hlo
      simp only [Option.bind_eq_some_iff] at hlo
      obtain ⟨x, hx, hlx⟩ := hlo
      have hxb := swap_mem.1 (look_mem hx)
      refine ⟨x, ?_⟩
      rcases hin.1 hb with ⟨h1, o0, h2, rfl⟩ | ⟨p, h1, ⟨i, kk, o0, h2, h3, rfl⟩ | ⟨kk, l, h2, rfl⟩⟩
      · have hbb : (b, b) ∈ m := by rw [← hm]; exact mem_keepMap.2 (.inl ⟨rfl, h1⟩)
        have := huniq hxb hbb
        subst this
        exact ⟨o0, hl1.2 hxb, h2, by rw [← ((renO_same o0).trans (thawO_same _)).live]; exact hlv, hlx⟩
      · have hib : (i, b) ∈ m := by rw [← hm]; exact mem_keepMap.2 (.inr ⟨p, kk, h1, h2⟩)
        have := huniq hxb hib
        subst this
        exact ⟨o0, hl1.2 hxb, h3, by rw [← (renO_same (m := m) o0).live]; exact hlv, hlx⟩
      · have := (hthaw h1 h2).2
        rw [hlocp hxb, hlx] at this
        cases this
    have hM : ∀ b, Mut U h' loc' b → Mut U h loc b := Mut.ren (fun b hb => .inl hb) hsrc
    refine ⟨loc', hw.ren (fun b hb => hb) (fun b hb => .inl hb) hsrc (fun x b o blk c hl ho hlv hlo => (hw.sep x o blk c ho hlv hlo).1) ?_, ?_, ?_, hn, hd⟩
    · intro b o' hb
      rcases hin.1 hb with ⟨h1, o0, h2, rfl⟩ | ⟨p, h1, ⟨i, kk, o0, h2, h3, rfl⟩ | ⟨kk, l, h2, rfl⟩⟩
      · have hbb : (b, b) ∈ m := by rw [← hm]; exact mem_keepMap.2 (.inl ⟨rfl, h1⟩)
        have ho := OW.ren hren hM (hlocp hbb) (hw.obj b o0 h2)
        cases o0 with
        | box cs =>
          obtain ⟨blk, c, us, T, q1, q2, q3⟩ := ho
          refine ⟨blk, c, us, T, q1, q2, thaw_cells q3 fun x d j hx hfr kk l hd => ?_⟩
          obtain ⟨d0, hd0, hd1⟩ := renCs_get hx
          rw [hd1] at hd
          have hd2 := renC_tight hd
          exact hthaw (findRow_mem hfr) (by simp only [atPlace, h2, Nat.zero_add]; rw [hd0, hd2])
        | row wr kk l => exact ho
        | dead => trivial
      · have hib : (i, b) ∈ m := by rw [← hm]; exact mem_keepMap.2 (.inr ⟨p, kk, h1, h2⟩)
        exact OW.ren hren hM (hlocp hib) (hw.obj i o0 h3)
      · have := (hthaw h1 h2).2
        exact ⟨fun _ hnil => isNil_ok hnil, fun blk c hl => by rw [this] at hl; cases hl⟩
    · intro t
      show VW w (Mut U h' loc') h' loc' (a.tmps.getD t undef) (frOf (keepSlots ⟨fr, h⟩ m k.rows k.slots) t)
      rcases frOf_mem (l := keepSlots ⟨fr, h⟩ m k.rows k.slots) (t := t) with h1 | h1
      · rw [mem_keepSlots h1]
        have hv := VW.ren hren hM (fr t) (hf t)
        show VW w (Mut U h' loc') h' loc' (a.tmps.getD t undef) (match findRow (.slot t) k.rows with | some j => thawV j (renV m (fr t)) | none => renV m (fr t))
        cases hfr : findRow (.slot t) k.rows with
        | some j =>
          simp only
          have hat : ∀ c, fr t = .c c → atPlace ⟨fr, h⟩ (.slot t) = some c := fun c hc => by simp only [atPlace, hc]
          cases hft : fr t with
          | c c =>
            rw [hft] at hv
            unfold renV at hv ⊢
            unfold thawV
            unfold VW at hv ⊢
            refine thaw_cell hv fun kk l hd => hthaw (findRow_mem hfr) ?_
            rw [hat c hft, renC_tight hd]
          | agg cs => rw [hft] at hv; unfold renV at hv ⊢; exact hv
          | tup vs => rw [hft] at hv; unfold renV at hv ⊢; exact hv
        | none => exact hv
      · rw [h1]; unfold VW CW; trivial
    · refine hex.turnTo hM fun j hj => ?_
      have hjo := allIn_args d3 hj
      have hbb : (Id.arg j, Id.arg j) ∈ m := by rw [← hm]; exact mem_keepMap.2 (.inl ⟨rfl, hjo⟩)
      exact ⟨hlocp hbb, fun o ho => ⟨_, hin.2 (.inl ⟨hjo, o, ho, rfl⟩), (renO_same o).trans (thawO_same _)⟩⟩
where
  nodup_snd {rows : List (Place × Id)} (hd : (rows.map (·.2)).Nodup) {p q : Place} {b : Id} (h1 : (p, b) ∈ rows) (h2 : (q, b) ∈ rows) : p = q := by
    induction rows with
    | nil => cases h1
    | cons r rows ih =>
      simp only [List.map_cons, List.nodup_cons] at hd
      rcases List.mem_cons.1 h1 with h1 | h1 <;> rcases List.mem_cons.1 h2 with h2 | h2
      · rw [← h1] at h2; simp at h2; exact h2.symm
      · exact absurd (List.mem_map.2 ⟨_, h2, by rw [← h1]⟩) hd.1
      · exact absurd (List.mem_map.2 ⟨_, h1, by rw [← h2]⟩) hd.1
      · exact ih hd.2 h1 h2

end
end Go.Vm

namespace Go.Vm
variable {G : Gl}
set_option linter.unusedVariables false
set_option linter.unusedSimpArgs false

section
variable {P : Program} {cfg : Cfg} {T Ti : CallSem} {me nt na : Nat} {U : Nat → Prop} {loc0 : Loc} {w0 : World} {fr fr' : Fr} {h h' : Hp} {loc loc' : Loc} {a : Act} {w : World} {objs : List Obj}

theorem castBox_ok {M : Nat → Prop} {cs : List C} {us : List Value} (hc : CWs w M h loc us cs) : ∀ {l : List Sh} {j : Nat} {r : List C}, castBox cs j l = some r → cs.length = j + l.length → CWs w M h loc (us.drop j) r
  | [], j, r, hr, hl => by
    simp [castBox] at hr; subst hr
    have : us.drop j = [] := by
      apply List.eq_nil_of_length_eq_zero
      have := hc.length
      simp at hl ⊢
      omega
    rw [this]
    unfold CWs; trivial
  | s :: l, j, r, hr, hl => by
    simp only [castBox, Option.bind_eq_some_iff, Option.some.injEq] at hr
    obtain ⟨c, hcj, v, hv, c', hc', l', hl', rfl⟩ := hr
    obtain ⟨u, hu, hcw⟩ := hc.get hcj
    have hd : us.drop j = u :: us.drop (j + 1) := by
      obtain ⟨h1, h2⟩ := List.getElem?_eq_some_iff.1 hu
      rw [List.drop_eq_getElem_cons h1, h2]
    rw [hd]
    unfold CWs
    refine ⟨?_, castBox_ok hc hl' (by simp at hl; omega)⟩
    have h1 : VW w M h loc u v := cast_ok s (v := .c c) (by unfold VW; exact hcw) hv
    rw [unC_ok hc'] at h1
    unfold VW at h1
    exact h1

theorem castObj_ok {M : Nat → Prop} {id : Id} {o x : Obj} {s : OSh} (hk : castObj o s = some x) : Weak w M h loc id o x := by
  cases s with
  | box l =>
    simp only [castObj, Option.bind_eq_some_iff] at hk
    obtain ⟨cs, h1, r, h2, hk⟩ := hk
    obtain rfl := asBox_ok h1
    cases hb : Nat.beq cs.length l.length with
    | false => rw [hb] at hk; simp at hk
    | true =>
      rw [hb] at hk
      simp at hk; subst hk
      refine ⟨by simp [Same], fun ⟨b, c, us, T, q1, q2, q3⟩ => ⟨b, c, us, T, q1, q2, ?_⟩⟩
      have := castBox_ok q3 h2 (by have := Nat.eq_of_beq_eq_true hb; omega)
      simpa using this
  | row wr k =>
    simp only [castObj, Option.bind_eq_some_iff, Option.some.injEq] at hk
    obtain ⟨l', h1, rfl⟩ := hk
    obtain rfl := asRow_ok h1
    exact ⟨by simp [Same], fun h => h⟩
  | recd s =>
    simp only [castObj, Option.bind_eq_some_iff, Option.some.injEq] at hk
    obtain ⟨cs, h1, v, h2, r, h3, rfl⟩ := hk
    obtain rfl := asBox_ok h1
    have h3 : v = .agg r := by
      unfold asAggC at h3
      split at h3
      · simp at h3; subst h3; rfl
      · cases h3
    subst h3
    refine ⟨by simp [Same], fun ⟨b, c, us, T, q1, q2, q3⟩ => ⟨b, c, us, T, q1, q2, ?_⟩⟩
    have h4 : VW w M h loc (.agg us) (.agg cs) := by unfold VW; exact ⟨us.toList, by simp, q3⟩
    have h5 := cast_ok s h4 h2
    unfold VW at h5
    obtain ⟨us', e, h6⟩ := h5
    simp at e
    rw [e]
    exact h6

theorem castObjs_ok : ∀ {l : List (Id × OSh)} {r : List (Id × Obj)}, castObjs h l = some r → r.map (·.1) = l.map (·.1) ∧ ∀ b x, (b, x) ∈ r → ∃ o s, h b = some o ∧ castObj o s = some x
  | [], r, hr => by simp [castObjs] at hr; subst hr; exact ⟨rfl, fun b x hx => by cases hx⟩
  | p :: l, r, hr => by
    simp only [castObjs, Option.bind_eq_some_iff, Option.some.injEq] at hr
    obtain ⟨o, ho, x, hx, l', hl', rfl⟩ := hr
    obtain ⟨h1, h2⟩ := castObjs_ok hl'
    refine ⟨by simp [h1], fun b y hy => ?_⟩
    rcases List.mem_cons.1 hy with hy | hy
    · simp only [Prod.mk.injEq] at hy
      obtain ⟨rfl, rfl⟩ := hy
      exact ⟨o, p.2, ho, hx⟩
    · exact h2 b y hy

theorem castSlots_ok : ∀ {l : List (Nat × Sh)} {r : List (Nat × V)}, castSlots fr l = some r → ∀ t v, (t, v) ∈ r → ∃ s, cast (fr t) s = some v
  | [], r, hr => by simp [castSlots] at hr; subst hr; exact fun t v h => by cases h
  | p :: l, r, hr => by
    simp only [castSlots, Option.bind_eq_some_iff, Option.some.injEq] at hr
    obtain ⟨x, hx, l', hl', rfl⟩ := hr
    intro t v hm
    rcases List.mem_cons.1 hm with hm | hm
    · simp only [Prod.mk.injEq] at hm
      obtain ⟨rfl, rfl⟩ := hm
      exact ⟨p.2, hx⟩
    · exact castSlots_ok hl' t v hm

theorem look_idMap : ∀ {l : List (Id × OSh)} {a b : Id}, look (idMap l) a = some b ↔ a = b ∧ b ∈ l.map (·.1)
  | [], a, b => by simp [idMap, look]
  | p :: l, a, b => by
    simp only [idMap, List.map_cons, look, List.mem_cons]
    cases hb : Id.beq p.1 a with
    | true =>
      have := Id.beq_true.1 hb
      simp only [cond_true, Option.some.injEq]
      constructor
      · rintro rfl; exact ⟨this.symm, .inl rfl⟩
      · rintro ⟨rfl, _⟩; exact this
    | false =>
      simp only [cond_false]
      have ih := look_idMap (l := l) (a := a) (b := b)
      unfold idMap at ih
      rw [ih]
      constructor
      · rintro ⟨h1, h2⟩; exact ⟨h1, .inr h2⟩
      · rintro ⟨rfl, h2 | h2⟩
        · rw [h2, Id.beq_self] at hb; cases hb
        · exact ⟨rfl, h2⟩

theorem castSt_ok {s' : St} {sh : List (Nat × Sh)} {osh : List (Id × OSh)} (hr : Rp G U (hpOf .arg 0 objs) loc0 w0 nt fr h a w) (hc : castSt objs.length ⟨fr, h⟩ sh osh = some s') : Rp G U (hpOf .arg 0 objs) loc0 w0 nt s'.fr s'.h a w := by
  obtain ⟨loc, hw, hf, hex, hn, hd⟩ := hr
  simp only [castSt, Option.bind_eq_some_iff] at hc
  obtain ⟨sl, hsl, ob, hob, hc⟩ := hc
  cases hcond : distinct (osh.map (·.1)) && allIn (osh.map (·.1)) ((List.range objs.length).map Id.arg) with
  | false => rw [hcond] at hc; simp at hc
  | true =>
    rw [hcond] at hc
    simp only [cond_true, Option.some.injEq] at hc
    subst hc
    simp only [Bool.and_eq_true] at hcond
    have d1 := distinct_nodup.1 hcond.1
    obtain ⟨hnm, hobs⟩ := castObjs_ok hob
    generalize hm : idMap osh = m
    have hnames : ((ob.map fun p => (p.1, renO m p.2)).map (·.1)).Nodup := by
      rw [List.map_map]
      have : (Prod.fst ∘ fun p : Id × Obj => (p.1, renO m p.2)) = Prod.fst := by funext p; rfl
      rw [this, hnm]
      exact d1
    generalize hh' : hpIds (ob.map fun p => (p.1, renO m p.2)) = h'
    have hin : ∀ {b : Id} {o : Obj}, h' b = some o ↔ ∃ x, (b, x) ∈ ob ∧ o = renO m x := by
      intro b o
      rw [← hh']
      constructor
      · intro h1
        obtain ⟨⟨b', x⟩, h2, h3⟩ := List.mem_map.1 (hpIds_mem h1)
        simp only [Prod.mk.injEq] at h3
        obtain ⟨rfl, rfl⟩ := h3
        exact ⟨x, h2, rfl⟩
      · rintro ⟨x, h2, rfl⟩
        exact hpIds_of_mem hnames (List.mem_map.2 ⟨(b, x), h2, rfl⟩)
    have hhas : ∀ {b : Id}, b ∈ osh.map (·.1) → ∃ x, (b, x) ∈ ob := by
      intro b hb
      rw [← hnm] at hb
      obtain ⟨⟨b', x⟩, h2, rfl⟩ := List.mem_map.1 hb
      exact ⟨x, h2⟩
    have hren : Ren m h loc h' loc := by
      refine ⟨fun x b o hl ho => ?_⟩
      rw [← hm] at hl
      obtain ⟨rfl, hb⟩ := look_idMap.1 hl
      obtain ⟨y, hy⟩ := hhas hb
      obtain ⟨o2, s, ho2, hs⟩ := hobs _ _ hy
      rw [ho] at ho2
      obtain rfl := Option.some.inj ho2
      exact ⟨_, hin.2 ⟨y, hy, rfl⟩, (castObj_ok (w := w) (M := Mut U h loc) (h := h) (loc := loc) (id := x) hs).1.trans (renO_same y), rfl⟩
    have hsrc : Src' m h loc h' loc := by
      intro b o' blk c hb hlv hlo
      obtain ⟨y, hy, rfl⟩ := hin.1 hb
      obtain ⟨o2, s, ho2, hs⟩ := hobs _ _ hy
      have hw1 := (castObj_ok (w := w) (M := Mut U h loc) (h := h) (loc := loc) (id := b) hs).1
      refine ⟨b, o2, ?_, ho2, ?_, hlo⟩
      · rw [← hm]
        exact look_idMap.2 ⟨rfl, by rw [← hnm]; exact List.mem_map.2 ⟨_, hy, rfl⟩⟩
      · rw [← (hw1.trans (renO_same y)).live]; exact hlv
    have hM : ∀ b, Mut U h' loc b → Mut U h loc b := Mut.ren (fun b hb => .inl hb) hsrc
    refine ⟨loc, hw.ren (fun b hb => hb) (fun b hb => .inl hb) hsrc (fun x b o blk c hl ho hlv hlo => (hw.sep x o blk c ho hlv hlo).1) ?_, ?_, ?_, hn, hd⟩
    · intro b o' hb
      obtain ⟨y, hy, rfl⟩ := hin.1 hb
      obtain ⟨o2, s, ho2, hs⟩ := hobs _ _ hy
      exact OW.ren hren hM rfl ((castObj_ok hs).2 (hw.obj b o2 ho2))
    · intro t
      show VW w (Mut U h' loc) h' loc (a.tmps.getD t undef) (frOf (sl.map fun p => (p.1, renV m p.2)) t)
      rcases frOf_mem (l := sl.map fun p => (p.1, renV m p.2)) (t := t) with h1 | h1
      · obtain ⟨⟨t', v⟩, h2, h3⟩ := List.mem_map.1 h1
        simp only [Prod.mk.injEq] at h3
        obtain ⟨rfl, h3⟩ := h3
        rw [← h3]
        obtain ⟨s, hs⟩ := castSlots_ok hsl _ _ h2
        exact VW.ren hren hM v (cast_ok s (hf t') hs)
      · rw [h1]; unfold VW CW; trivial
    · refine hex.turnTo hM fun j hj => ⟨rfl, fun o ho => ?_⟩
      obtain ⟨y, hy⟩ := hhas (allIn_args hcond.2 hj)
      obtain ⟨o2, s, ho2, hs⟩ := hobs _ _ hy
      rw [ho] at ho2
      obtain rfl := Option.some.inj ho2
      exact ⟨_, hin.2 ⟨y, hy, rfl⟩, (castObj_ok (w := w) (M := Mut U h loc) (h := h) (loc := loc) (id := .arg j) hs).1.trans (renO_same y)⟩

/-! ### Code -/

def exOf : Ex → Exit
  | .nrm => .normal
  | .ext id => .exit id
  | .ret => .ret

theorem aexec_wp (hm : P.follows .mixedOrders = true) (ht : TabOK P cfg) (hT : TOK G P T) (hTi : TOK G P Ti) {n : Nat} : ∀ (c : Code) {Q : Exit → Act → World → Prop} {s : St} {r : Ex × St} {a : Act} {w : World},
    Rp G U (hpOf .arg 0 objs) loc0 w0 nt s.fr s.h a w → aexec cfg T Ti me nt objs.length n c s = some r → (∀ a' w', Rp G U (hpOf .arg 0 objs) loc0 w0 nt r.2.fr r.2.h a' w' → Q (exOf r.1) a' w') → c.wp P Q a w
  | .skip, Q, s, r, a, w, hr, hs, hQ => by
    simp only [aexec, Option.some.injEq] at hs
    subst hs
    exact wp_skip (hQ a w hr)
  | .region id ops draw, Q, s, r, a, w, hr, hs, hQ => by
    simp only [aexec, Option.map_eq_some_iff] at hs
    obtain ⟨s1, h1, rfl⟩ := hs
    exact region_wp hm ht hT hTi hr h1 hQ
  | .seq x y, Q, s, r, a, w, hr, hs, hQ => by
    simp only [aexec, Option.bind_eq_some_iff] at hs
    obtain ⟨⟨e, s1⟩, h1, hs⟩ := hs
    refine wp_seq (aexec_wp hm ht hT hTi x hr h1 fun a' w' hr' => ?_)
    cases e with
    | nrm =>
      simp only [isN, cond_true] at hs
      exact aexec_wp hm ht hT hTi y hr' hs hQ
    | ext id => simp only [isN, cond_false, Option.some.injEq] at hs; subst hs; exact hQ a' w' hr'
    | ret => simp only [isN, cond_false, Option.some.injEq] at hs; subst hs; exact hQ a' w' hr'
  | .cond c x y, Q, s, r, a, w, hr, hs, hQ => by
    simp only [aexec, Option.bind_eq_some_iff] at hs
    obtain ⟨v, hv, t, hb, hs⟩ := hs
    have hc : a.eval c = .bool t := by
      obtain ⟨loc, hw, hf, _⟩ := hr
      exact (asB_ok (ev_ok hf hv) hb).1
    refine wp_cond hc ?_
    cases t with
    | true => exact aexec_wp hm ht hT hTi x hr hs hQ
    | false => exact aexec_wp hm ht hT hTi y hr hs hQ
  | .block id b, Q, s, r, a, w, hr, hs, hQ => by
    simp only [aexec, Option.map_eq_some_iff] at hs
    obtain ⟨⟨e, s1⟩, h1, rfl⟩ := hs
    refine wp_block (aexec_wp hm ht hT hTi b hr h1 fun a' w' hr' => ?_)
    have := hQ a' w' hr'
    cases e with
    | nrm => exact this
    | ret => exact this
    | ext j =>
      simp only [exOf, Exit.inBlock]
      simp only [leave] at this
      cases hb : Nat.beq j id with
      | true =>
        rw [hb] at this
        rw [if_pos (Nat.eq_of_beq_eq_true hb)]
        exact this
      | false =>
        rw [hb] at this
        have hne : j ≠ id := by rintro rfl; rw [Nat.beq_refl] at hb; cases hb
        rw [if_neg hne]
        exact this
  | .loop b, Q, s, r, a, w, hr, hs, hQ => by
    simp only [aexec, Option.bind_eq_some_iff, Option.some.injEq] at hs
    obtain ⟨s1, h1, ⟨e, s2⟩, h2, s3, h3, rfl⟩ := hs
    have rounds : ∀ (q : Nat) (s : St) (a : Act) (w : World), Rp G U (hpOf .arg 0 objs) loc0 w0 nt s.fr s.h a w →
        loopA objs.length (aexec cfg T Ti me nt objs.length n b) (cfg.lh me (firstRegion b)).head (cfg.lh me (firstRegion b)).out q s = some (e, s2) → Code.rounds P b Q q a w := by
      intro q
      induction q with
      | zero => intro s a w hr hl; simp [loopA] at hl
      | succ q ih =>
        intro s a w hr hl
        simp only [loopA, Option.bind_eq_some_iff] at hl
        obtain ⟨⟨e1, s4⟩, h4, hl⟩ := hl
        rw [rounds_succ]
        refine aexec_wp hm ht hT hTi b hr h4 fun a' w' hr' => ?_
        have out : ∀ (x : Ex), (clean objs.length (cfg.lh me (firstRegion b)).out s4).bind (fun s' => some (x, s')) = some (e, s2) → Q (exOf x) a' w' := by
          intro x hx
          simp only [Option.bind_eq_some_iff, Option.some.injEq, Prod.mk.injEq] at hx
          obtain ⟨s5, h5, rfl, rfl⟩ := hx
          exact hQ a' w' (castSt_ok (clean_ok hr' h5) h3)
        cases e1 with
        | nrm =>
          simp only [Option.bind_eq_some_iff] at hl
          obtain ⟨s5, h5, hl⟩ := hl
          exact ih s5 a' w' (clean_ok hr' h5) hl
        | ext id => exact out _ hl
        | ret => exact out _ hl
    exact wp_loop_rounds n (rounds n s1 a w (clean_ok hr h1) h2)
  | .exit id, Q, s, r, a, w, hr, hs, hQ => by
    simp only [aexec, Option.some.injEq] at hs
    subst hs
    exact wp_exit (hQ a w hr)
  | .ret, Q, s, r, a, w, hr, hs, hQ => by
    simp only [aexec, Option.some.injEq] at hs
    subst hs
    exact wp_ret (hQ a w hr)
  | .goto l, Q, s, r, a, w, hr, hs, hQ => by simp [aexec] at hs
  | .label l, Q, s, r, a, w, hr, hs, hQ => by simp [aexec] at hs

/-! ### Functions -/

theorem frArgs_get : ∀ {args : List V} {t : Nat} {v : V}, args[t]? = some v → frArgs args t = v
  | [], t, v, h => by simp at h
  | x :: args, 0, v, h => by simp at h; subst h; rfl
  | x :: args, t + 1, v, h => by simp at h; simp only [frArgs]; exact frArgs_get h

theorem frArgs_none : ∀ {args : List V} {t : Nat}, args.length ≤ t → frArgs args t = .c .und
  | [], t, h => rfl
  | x :: args, 0, h => by simp at h
  | x :: args, t + 1, h => by simp at h; simp only [frArgs]; exact frArgs_none h

theorem start_fr {M : Nat → Prop} {vs : List Value} {args : List V} {nt : Nat} (hv : VWs w M h loc vs args) (hn : args.length ≤ nt) :
    FrW w M h loc { tmps := vs.toArray ++ Array.replicate (nt - vs.toArray.size) undef, defers := [] } (frArgs args) := by
  intro t
  have hl := hv.len
  rw [Array.getD_eq_getD_getElem?]
  rcases Nat.lt_or_ge t args.length with ht | ht
  · obtain ⟨u, hu, hr⟩ := hv.get (List.getElem?_eq_getElem ht)
    rw [Array.getElem?_append_left (by simp; omega), frArgs_get (List.getElem?_eq_getElem ht)]
    have : vs.toArray[t]? = some u := by simpa using hu
    rw [this]
    exact hr
  · rw [frArgs_none ht, Array.getElem?_append_right (by simp; omega)]
    have : ((Array.replicate (nt - vs.toArray.size) undef)[t - vs.toArray.size]?).getD undef = undef := by
      rw [Array.getElem?_replicate]
      split <;> rfl
    rw [this]
    unfold VW CW
    rfl

theorem loadVar_of {T : TypeId} {p u : Value} (hl : (Instr.loadAt T p).run P w = .ok u w) : (do loadVar T (← asAddr p) : Sem Value).run P w = .ok u w := by
  unfold Instr.loadAt at hl
  cases p with
  | pointer ad =>
    cases ad with
    | none => simp [Instr.sureAddr, runtimePanic] at hl
    | some ad => simpa [Instr.sureAddr, asAddr] using hl
  | _ => simp [Instr.sureAddr] at hl

theorem resV_ok (ht : TabOK P cfg) (hw : HW G U h loc w) (hf : FrW w (Mut U h loc) h loc a fr) {r : ResultVar} {v : V} (hr : resV cfg ⟨fr, h⟩ r = some v) :
    ∃ u, (match r with | .tmp t => pure (a.tmps.getD t undef) | .cell x t => do loadVar t (← asAddr (a.tmps.getD x undef)) : Sem Value).run P w = .ok u w ∧ VW w (Mut U h loc) h loc u v := by
  cases r with
  | tmp t =>
    simp only [resV, Option.some.injEq] at hr
    subst hr
    exact ⟨_, rfl, hf t⟩
  | cell t T =>
    simp only [resV] at hr
    obtain ⟨u, h1, h2⟩ := ld_ok ht hw (hf t) hr
    exact ⟨u, loadVar_of h1, h2⟩

theorem resVs_ok (ht : TabOK P cfg) (hw : HW G U h loc w) (hf : FrW w (Mut U h loc) h loc a fr) : ∀ {rs : List ResultVar} {vs : List V}, resVs cfg ⟨fr, h⟩ rs = some vs →
    ∃ us : List Value, (rs.mapM fun r => match r with | .tmp t => pure (a.tmps.getD t undef) | .cell x t => do loadVar t (← asAddr (a.tmps.getD x undef)) : Sem (List Value)).run P w = .ok us w ∧ VWs w (Mut U h loc) h loc us vs
  | [], vs, hr => by simp [resVs] at hr; subst hr; exact ⟨[], rfl, by unfold VWs; trivial⟩
  | r :: rs, vs, hr => by
    simp only [resVs, Option.bind_eq_some_iff, Option.some.injEq] at hr
    obtain ⟨v, hv, vs', hvs, rfl⟩ := hr
    obtain ⟨u, h1, h2⟩ := resV_ok ht hw hf hv
    obtain ⟨us, h3, h4⟩ := resVs_ok ht hw hf hvs
    refine ⟨u :: us, ?_, by unfold VWs; exact ⟨h2, h4⟩⟩
    rw [List.mapM_cons, Sem.run_bind, h1, Result.andThen_ok, Sem.run_bind, h3]
    rfl

theorem results_ok (ht : TabOK P cfg) (hw : HW G U h loc w) (hf : FrW w (Mut U h loc) h loc a fr) {fn : Func} {vs : List V} (hr : resVs cfg ⟨fr, h⟩ fn.results.toList = some vs) :
    ∃ u, (results fn a.tmps).run P w = .ok u w ∧ VW w (Mut U h loc) h loc u (packV vs) := by
  obtain ⟨us, h1, h2⟩ := resVs_ok ht hw hf hr
  have hrun : ∀ f : ResultVar → Sem Value, (fn.results.mapM f).run P w = ((fn.results.toList.mapM f).run P w).andThen fun l w' => .ok l.toArray w' := by
    intro f
    rw [Array.mapM_eq_mapM_toList]
    simp [Sem.run_map]
  refine ⟨if hh : us.toArray.size = 1 then us.toArray[0] else .tuple us.toArray, ?_, ?_⟩
  · unfold results
    rw [Sem.run_bind, hrun]
    erw [h1]
    rfl
  · match vs, us, h2 with
    | [], [], h2 => simp [packV]; unfold VW; exact ⟨[], rfl, h2⟩
    | [v], [u], h2 => simp [packV]; unfold VWs at h2; exact h2.1
    | v1 :: v2 :: vs, u1 :: u2 :: us, h2 =>
      simp [packV]
      unfold VW
      exact ⟨_, rfl, h2⟩
    | [], _ :: _, h2 => unfold VWs at h2; exact h2.elim
    | _ :: _, [], h2 => unfold VWs at h2; exact h2.elim
    | [_], _ :: _ :: _, h2 => unfold VWs VWs at h2; exact h2.2.elim
    | _ :: _ :: _, [_], h2 => unfold VWs VWs at h2; exact h2.2.elim

end
end Go.Vm

namespace Go.Vm
variable {G : Gl}
set_option linter.unusedVariables false
set_option linter.unusedSimpArgs false

/-- What the machine asks of the program. -/
structure ProgOK (G : Gl) (P : Program) (cfg : Cfg) : Prop where
  wide : P.follows .mixedOrders = true
  tab : TabOK P cfg
  nm : ∀ (f : FuncId) (fn : Func), P.funcs[f]? = some fn → (fn.name == "runtime.NumGoroutine") = false
  ext : ∀ f g args objs r, cfg.ext f = some g → g args objs = some r → FnOK G P f args objs r

section
variable {P : Program} {cfg : Cfg} {T Ti : CallSem} {me nt na : Nat} {U : Nat → Prop} {loc0 : Loc} {w0 : World} {fr fr' : Fr} {h h' : Hp} {loc loc' : Loc} {a : Act} {w : World} {objs : List Obj}

/-- Where things lie behind the call, as the caller sees it. -/
def outLoc (loc : Loc) (ns : List Id) : Loc := fun i => match i with
  | .arg j => loc (.arg j)
  | .ret _ j => (ns[j]?).bind loc
  | _ => none

def argIds (n : Nat) : List Id := (List.range n).map Id.arg

theorem argIds_get {n j : Nat} (hj : j < n) : (argIds n)[j]? = some (.arg j) := by simp [argIds, hj]

theorem look_argIds {n : Nat} : ∀ {a b : Id}, look ((argIds n).map fun i => (i, i)) a = some b → ∃ j, j < n ∧ a = .arg j ∧ b = .arg j := by
  intro a b hl
  have := look_mem hl
  simp only [argIds, List.map_map, List.mem_map, List.mem_range, Function.comp, Prod.mk.injEq] at this
  obtain ⟨j, hj, rfl, rfl⟩ := this
  exact ⟨j, hj, rfl, rfl⟩

theorem look_argIds_get {n j : Nat} (hj : j < n) : look ((argIds n).map fun i => (i, i)) (.arg j) = some (.arg j) := by
  refine look_of_mem ?_ ?_
  · rw [List.map_map]
    have : (Prod.fst ∘ fun i : Id => (i, i)) = id := by funext i; rfl
    rw [this, List.map_id]
    unfold argIds
    exact List.Pairwise.map Id.arg (fun a b h => by simpa using h) List.nodup_range
  · simp [argIds, hj]

theorem finishA_ok {v : V} {r : V × List Obj × List Obj} {u : Value} (hw : HW G U h loc w) (hex : Ext U (hpOf .arg 0 objs) loc0 w0 h loc w) (hv : VW w (Mut U h loc) h loc u v) (hf : finishA h objs.length v = some r) :
    r.2.1.length = objs.length ∧ ∃ loc', PostV G U (hpOf .arg 0 objs) loc0 w0 (outHp r.2.1 r.2.2) r.1 u w loc' := by
  unfold finishA at hf
  simp only at hf
  generalize hns : ((reach h 3 (addNew ((List.range objs.length).map Id.arg) (refsV v))).filter fun i => !isArg i) = ns at hf
  cases hd : distinct ns with
  | false => rw [hd] at hf; simp at hf
  | true =>
    rw [hd] at hf
    simp only [cond_true, Option.bind_eq_some_iff, Option.some.injEq] at hf
    obtain ⟨os, hos, os2, hos2, rfl⟩ := hf
    change getAll h (argIds objs.length) = some os at hos
    have hna : ∀ j, Id.arg j ∉ ns := by
      intro j hj
      rw [← hns] at hj
      have := (List.mem_filter.1 hj).2
      simp [isArg] at this
    generalize hm : ((List.range objs.length).map Id.arg).map (fun i => (i, i)) ++ numFrom (.ret 0) 0 ns = m
    simp only
    obtain ⟨l1, g1⟩ := getAll_some hos
    obtain ⟨l2, g2⟩ := getAll_some hos2
    have l1' : os.length = objs.length := by rw [l1]; simp [argIds]
    refine ⟨by simp [l1'], outLoc loc ns, ?_⟩
    have hA : ∀ j, j < objs.length → ∃ o, h (.arg j) = some o ∧ outHp (os.map (renO m)) (os2.map (renO m)) (.arg j) = some (renO m o) := by
      intro j hj
      obtain ⟨o, ho, ho2⟩ := g1 j _ (argIds_get hj)
      refine ⟨o, ho, ?_⟩
      unfold outHp
      rw [hpOf_arg, List.getElem?_map, ho2]
      rfl
    have hB : ∀ (j : Nat) (i : Id), ns[j]? = some i → ∃ o, h i = some o ∧ outHp (os.map (renO m)) (os2.map (renO m)) (.ret 0 j) = some (renO m o) := by
      intro j i hj
      obtain ⟨o, ho, ho2⟩ := g2 j i hj
      refine ⟨o, ho, ?_⟩
      unfold outHp
      rw [hpOf_arg_ne (fun k => by simp), hpOf_ret, List.getElem?_map, ho2]
      rfl
    have hO : ∀ b o', outHp (os.map (renO m)) (os2.map (renO m)) b = some o' → (∃ j o, j < objs.length ∧ b = .arg j ∧ h (.arg j) = some o ∧ o' = renO m o) ∨ ∃ j i o, ns[j]? = some i ∧ b = .ret 0 j ∧ h i = some o ∧ o' = renO m o := by
      intro b o' hb
      unfold outHp at hb
      split at hb
      · rename_i o2 hh
        simp at hb; subst hb
        obtain ⟨j, rfl, hj⟩ := hpOf_some hh
        rw [List.getElem?_map, Option.map_eq_some_iff] at hj
        obtain ⟨o, ho, rfl⟩ := hj
        have hlt : j < objs.length := by rw [← l1']; exact (List.getElem?_eq_some_iff.1 ho).1
        obtain ⟨o3, ho3, ho4⟩ := g1 j _ (argIds_get hlt)
        rw [ho] at ho4
        obtain rfl := Option.some.inj ho4
        exact .inl ⟨j, o, hlt, by simp, ho3, rfl⟩
      · obtain ⟨j, rfl, hj⟩ := hpOf_some hb
        rw [List.getElem?_map, Option.map_eq_some_iff] at hj
        obtain ⟨o, ho, rfl⟩ := hj
        have hlt : j < ns.length := by rw [← l2]; exact (List.getElem?_eq_some_iff.1 ho).1
        obtain ⟨o3, ho3, ho4⟩ := g2 j _ (List.getElem?_eq_getElem hlt)
        rw [ho] at ho4
        obtain rfl := Option.some.inj ho4
        exact .inr ⟨j, ns[j], o, List.getElem?_eq_getElem hlt, by simp, ho3, rfl⟩
    have hlook : ∀ x b, look m x = some b → (∃ j, j < objs.length ∧ x = .arg j ∧ b = .arg j) ∨ ∃ j, ns[j]? = some x ∧ b = .ret 0 j := by
      intro x b hl
      rw [← hm, look_append] at hl
      rcases Option.or_eq_some_iff.1 hl with h1 | ⟨_, h1⟩
      · exact .inl (look_argIds h1)
      · obtain ⟨j, h2, h3⟩ := look_numFrom h1
        exact .inr ⟨j, h2, by rw [h3]; simp⟩
    have hlA : ∀ j, j < objs.length → look m (.arg j) = some (.arg j) := by
      intro j hj
      rw [← hm, look_append]
      have := look_argIds_get hj
      unfold argIds at this
      rw [this]
      rfl
    have hlN : ∀ (j : Nat) (i : Id), ns[j]? = some i → look m i = some (.ret 0 j) := by
      intro j i hj
      rw [← hm, look_append]
      have h1 : look (((List.range objs.length).map Id.arg).map fun i => (i, i)) i = none := by
        cases hl : look (((List.range objs.length).map Id.arg).map fun i => (i, i)) i with
        | none => rfl
        | some b =>
          obtain ⟨k, _, rfl, _⟩ := look_argIds hl
          exact absurd (List.mem_of_getElem? hj) (hna k)
      rw [h1, Option.none_or]
      have := look_numFrom_get (mk := Id.ret 0) (n := 0) hd hj
      rw [Nat.zero_add] at this
      exact this
    have hren : Ren m h loc (outHp (os.map (renO m)) (os2.map (renO m))) (outLoc loc ns) := by
      refine ⟨fun x b o hl ho => ?_⟩
      rcases hlook x b hl with ⟨j, hj, rfl, rfl⟩ | ⟨j, hj, rfl⟩
      · obtain ⟨o2, q1, q2⟩ := hA j hj
        rw [ho] at q1
        obtain rfl := Option.some.inj q1
        exact ⟨_, q2, renO_same o, rfl⟩
      · obtain ⟨o2, q1, q2⟩ := hB j x hj
        rw [ho] at q1
        obtain rfl := Option.some.inj q1
        exact ⟨_, q2, renO_same o, by simp [outLoc, hj]⟩
    have hsrc : Src' m h loc (outHp (os.map (renO m)) (os2.map (renO m))) (outLoc loc ns) := by
      intro b o' blk c hb hlv hlo
      rcases hO b o' hb with ⟨j, o, hj, rfl, ho, rfl⟩ | ⟨j, i, o, hj, rfl, ho, rfl⟩
      · exact ⟨.arg j, o, hlA j hj, ho, by rw [← (renO_same (m := m) o).live]; exact hlv, hlo⟩
      · exact ⟨i, o, hlN j i hj, ho, by rw [← (renO_same (m := m) o).live]; exact hlv, by simpa [outLoc, hj] using hlo⟩
    have hM : ∀ b, Mut U (outHp (os.map (renO m)) (os2.map (renO m))) (outLoc loc ns) b → Mut U h loc b := Mut.ren (fun b hb => .inl hb) hsrc
    refine ⟨hw.ren (fun b hb => hb) (fun b hb => .inl hb) hsrc (fun x b o blk c hl ho hlv hlo => (hw.sep x o blk c ho hlv hlo).1) ?_, ?_, VW.ren hren hM v hv⟩
    · intro b o' hb
      rcases hO b o' hb with ⟨j, o, hj, rfl, ho, rfl⟩ | ⟨j, i, o, hj, rfl, ho, rfl⟩
      · exact OW.ren hren hM rfl (hw.obj _ o ho)
      · exact OW.ren hren hM (by simp [outLoc, hj]) (hw.obj i o ho)
    · refine hex.turnTo hM fun j hj => ⟨rfl, fun o ho => ?_⟩
      obtain ⟨o2, q1, q2⟩ := hA j hj
      rw [ho] at q1
      obtain rfl := Option.some.inj q1
      exact ⟨_, q2, renO_same o⟩

theorem bodyA_ok (hP : ProgOK G P cfg) (hT : TOK G P T) (hTi : TOK G P Ti) {n f : Nat} {fn : Func} {c : Code} {args : List V} {r : V × List Obj × List Obj} (hfn : P.funcs[f]? = some fn) (hb : fn.body = some c)
    (hr : bodyA cfg T Ti n f fn c args objs = some r) : FnOK G P f args objs r := by
  unfold bodyA at hr
  cases hle : Nat.ble args.length fn.ntmps with
  | false => rw [hle] at hr; simp at hr
  | true =>
    rw [hle] at hr
    simp only [cond_true, Option.bind_eq_some_iff] at hr
    obtain ⟨⟨e, s⟩, hs, hr⟩ := hr
    have hfin : ∃ vs, resVs cfg s fn.results.toList = some vs ∧ finishA s.h objs.length (packV vs) = some r ∧ (e = .nrm ∨ e = .ret) := by
      cases e with
      | ext id => simp at hr
      | nrm => simp only [Option.bind_eq_some_iff] at hr; obtain ⟨vs, h1, h2⟩ := hr; exact ⟨vs, h1, h2, .inl rfl⟩
      | ret => simp only [Option.bind_eq_some_iff] at hr; obtain ⟨vs, h1, h2⟩ := hr; exact ⟨vs, h1, h2, .inr rfl⟩
    obtain ⟨vs, hvs, hfi, he⟩ := hfin
    have hlen : r.2.1.length = objs.length := by
      unfold finishA at hfi
      simp only at hfi
      cases hd : distinct ((reach s.h 3 (addNew ((List.range objs.length).map Id.arg) (refsV (packV vs)))).filter fun i => !isArg i) with
      | false => rw [hd] at hfi; simp at hfi
      | true =>
        rw [hd] at hfi
        simp only [cond_true, Option.bind_eq_some_iff, Option.some.injEq] at hfi
        obtain ⟨os, hos, os2, hos2, rfl⟩ := hfi
        simp [(getAll_some hos).1]
    refine ⟨⟨fn, c, hfn, hb, hP.nm f fn hfn⟩, hlen, fun U loc w us hw hv => ?_⟩
    refine calls_of_wp hfn hb ?_
    have hst : Rp G U (hpOf .arg 0 objs) loc w fn.ntmps (frArgs args) (hpOf .arg 0 objs) { tmps := us.toArray ++ Array.replicate (fn.ntmps - us.toArray.size) undef, defers := [] } w := by
      refine ⟨loc, hw, start_fr hv (Nat.le_of_ble_eq_true hle), Ext.refl _ _ _ _, ?_, rfl⟩
      have := hv.len
      have := Nat.le_of_ble_eq_true hle
      simp
      omega
    refine aexec_wp hP.wide hP.tab hT hTi c (s := ⟨frArgs args, hpOf .arg 0 objs⟩) hst hs fun a' w' hr' => ?_
    obtain ⟨loc', hw', hf', hex', _, hd'⟩ := hr'
    obtain ⟨u, h1, h2⟩ := results_ok hP.tab hw' hf' (vs := vs) hvs
    obtain ⟨_, loc2, hpost⟩ := finishA_ok hw' hex' h2 hfi
    rcases he with rfl | rfl
    · exact ⟨hd', u, h1, u, loc2, rfl, hpost⟩
    · exact ⟨hd', u, h1, u, loc2, rfl, hpost⟩

/-- With whatever fuel. -/
theorem run_ok (hP : ProgOK G P cfg) : ∀ n, TOK G P (run P cfg n)
  | 0 => fun f args objs r hr => by simp [run] at hr
  | n + 1 => fun f args objs r hr => by
    simp only [run] at hr
    split at hr
    · rename_i g hg
      exact hP.ext f g args objs r hg hr
    · split at hr
      · rename_i fn hfn
        split at hr
        · rename_i c hb
          exact bodyA_ok hP (run_ok hP n) (run_ok hP n) hfn hb hr
        · cases hr
      · cases hr

theorem rn_some {f : FuncId} {args : List V} {r : V × List Obj × List Obj} : rn P cfg f args objs = some r ↔ ∃ N, ∀ n, N ≤ n → run P cfg n f args objs = some r := by
  unfold rn
  constructor
  · intro h
    split at h
    · rename_i hx
      simp at h
      rw [← h]
      exact Classical.choose_spec hx
    · cases h
  · rintro ⟨N, hN⟩
    have hx : ∃ r, ∃ N, ∀ n, N ≤ n → run P cfg n f args objs = some r := ⟨r, N, hN⟩
    rw [dif_pos hx]
    obtain ⟨N', hN'⟩ := Classical.choose_spec hx
    have h1 := hN (max N N') (Nat.le_max_left _ _)
    have h2 := hN' (max N N') (Nat.le_max_right _ _)
    rw [h1] at h2
    exact h2.symm

theorem rn_ok (hP : ProgOK G P cfg) : TOK G P (rn P cfg) := fun f args objs r hr => by
  obtain ⟨N, hN⟩ := rn_some.1 hr
  exact run_ok hP N f args objs r (hN N (Nat.le_refl _))

end
end Go.Vm
