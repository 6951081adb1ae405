/-
  Regions that draw their order: what an operation depends on.
-/
import Derived.Test.YtepghohkfnmhmaaDoorVmStep
namespace Go.Vm
set_option linter.unusedVariables false
set_option linter.unusedSimpArgs false

section
variable {P : Program} {cfg : Cfg} {T Ti : CallSem} {me : FuncId} {fr fr2 : Fr} {h h2 : Hp} {dst : Option Nat} {ty : TypeId} {op : Op} {v : V} {e : Eff}

/-! ### On the frame -/

theorem evT_congr {T : TypeId} {x : Operand} (hx : ∀ t, x = .tmp t → fr t = fr2 t) : evT cfg fr T x = evT cfg fr2 T x := by
  cases x <;> simp only [evT]
  rw [hx _ rfl]

theorem ev_congr {x : Operand} (hx : ∀ t, x = .tmp t → fr t = fr2 t) : ev fr x = ev fr2 x := by
  cases x <;> simp only [ev]
  · rw [hx _ rfl]
  · rename_i v; cases v <;> rfl

theorem optI_congr {x : Option Operand} (hx : ∀ t, x = some (.tmp t) → fr t = fr2 t) : optI fr x = optI fr2 x := by
  cases x with
  | none => rfl
  | some y => simp only [optI]; rw [ev_congr fun t ht => hx t (by rw [ht])]

theorem evTs_congr : ∀ {xs : List Operand} {Ts : List TypeId}, (∀ t, .tmp t ∈ xs → fr t = fr2 t) → evTs cfg fr xs Ts = evTs cfg fr2 xs Ts
  | [], _, _ => rfl
  | x :: xs, [], _ => rfl
  | x :: xs, T :: Ts, hx => by
    simp only [evTs]
    rw [evT_congr fun t ht => hx t (by rw [← ht]; exact List.mem_cons_self ..), evTs_congr fun t ht => hx t (List.mem_cons_of_mem _ ht)]

theorem lmapM_congr {α β : Type} {f g : α → Option β} : ∀ {l : List α}, (∀ x ∈ l, f x = g x) → lmapM f l = lmapM g l
  | [], _ => rfl
  | x :: l, hx => by simp only [lmapM]; rw [hx x (List.mem_cons_self ..), lmapM_congr fun y hy => hx y (List.mem_cons_of_mem _ hy)]

theorem foldl_congr' {α β : Type} {f g : β → α → β} : ∀ {l : List α} {b : β}, (∀ x ∈ l, ∀ b, f b x = g b x) → l.foldl f b = l.foldl g b
  | [], _, _ => rfl
  | x :: l, b, hx => by simp only [List.foldl_cons]; rw [hx x (List.mem_cons_self ..), foldl_congr' fun y hy => hx y (List.mem_cons_of_mem _ hy)]

theorem bld_congr {T : TypeId} {ps : List (Nat × Operand)} (hx : ∀ p ∈ ps, ∀ t, p.2 = .tmp t → fr t = fr2 t) : bld cfg fr T ps = bld cfg fr2 T ps := by
  unfold bld
  congr 1
  funext i
  congr 2
  refine foldl_congr' fun p hp b => ?_
  have : ∀ u, evT cfg fr u p.2 = evT cfg fr2 u p.2 := fun u => evT_congr (hx p hp)
  simp only [this]

theorem bldS_congr {T : TypeId} {n : Nat} {ps : List (Nat × Operand)} (hx : ∀ p ∈ ps, ∀ t, p.2 = .tmp t → fr t = fr2 t) : bldS cfg fr T n ps = bldS cfg fr2 T n ps := by
  unfold bldS
  have : ∀ (k : Kind) (e : TypeId), lmapM (fun p : Nat × Operand => (evT cfg fr e p.2).bind fun v => (cellsV v).bind fun cs => (lmapM frzC cs).bind (ofCells k)) ps =
      lmapM (fun p : Nat × Operand => (evT cfg fr2 e p.2).bind fun v => (cellsV v).bind fun cs => (lmapM frzC cs).bind (ofCells k)) ps := fun k e =>
    lmapM_congr fun p hp => by rw [evT_congr (hx p hp)]
  simp only [this]

theorem slc_congr {T : TypeId} {x : V} {lo hi mx : Option Operand} (h1 : ∀ t, lo = some (.tmp t) → fr t = fr2 t) (h2 : ∀ t, hi = some (.tmp t) → fr t = fr2 t) : slc cfg fr T x lo hi mx = slc cfg fr2 T x lo hi mx := by
  unfold slc
  rw [optI_congr h1, optI_congr h2]

theorem aop_congr (hx : ∀ t, .tmp t ∈ op.operands → fr t = fr2 t) : aop cfg T Ti me fr h dst ty op = aop cfg T Ti me fr2 h dst ty op := by
  cases op <;> simp only [aop] <;> simp only [Op.operands] at hx <;> try rfl
  case move x => rw [evT_congr fun t ht => hx t (by simp [ht])]
  case assign x => rw [evT_congr fun t ht => hx t (by simp [ht])]
  case pick c a b => rw [ev_congr (x := c) fun t ht => hx t (by simp [ht]), evT_congr (x := a) fun t ht => hx t (by simp [ht]), evT_congr (x := b) fun t ht => hx t (by simp [ht])]
  case box t x => simp only [evT_congr (x := x) (fr := fr) (fr2 := fr2) fun t ht => hx t (by simp [ht])]
  case build t ps => rw [bld_congr fun p hp t ht => hx t (by rw [← ht]; simp; exact ⟨p.1, by simpa using hp⟩)]
  case buildSlice t n ps => rw [bldS_congr fun p hp t ht => hx t (by rw [← ht]; simp; exact ⟨p.1, by simpa using hp⟩)]
  case load t x => rw [ev_congr (x := x) fun t ht => hx t (by simp [ht])]
  case store t x y => rw [ev_congr (x := x) fun t ht => hx t (by simp [ht])]; simp only [evT_congr (x := y) (fr := fr) (fr2 := fr2) fun t ht => hx t (by simp [ht])]
  case nilCheck x => rw [ev_congr (x := x) fun t ht => hx t (by simp [ht])]
  case binOp op t x y q => rw [ev_congr (x := x) fun t ht => hx t (by simp [ht]), ev_congr (x := y) fun t ht => hx t (by simp [ht])]
  case unOp op t x => rw [ev_congr (x := x) fun t ht => hx t (by simp [ht])]
  case convert s t x => rw [ev_congr (x := x) fun t ht => hx t (by simp [ht])]
  case makeSlice t x y => rw [ev_congr (x := x) fun t ht => hx t (by simp [ht]), ev_congr (x := y) fun t ht => hx t (by simp [ht])]
  case makeFunc f first caps =>
    cases f <;> simp only [aop]
    rw [lmapM_congr fun x hxx => by rw [ev_congr (x := x) (fr := fr) (fr2 := fr2) fun t ht => hx t (by rw [← ht]; simp; exact .inr (by simpa using hxx))]]
  case slice t x lo hi mx =>
    rw [ev_congr (x := x) fun t ht => hx t (by simp [ht])]
    simp only [slc_congr (fr := fr) (fr2 := fr2) (lo := lo) (hi := hi) (fun t ht => hx t (by simp [ht])) (fun t ht => hx t (by simp [ht]))]
  case fieldAddr t x j => rw [ev_congr (x := x) fun t ht => hx t (by simp [ht])]
  case field t x j => rw [ev_congr (x := x) fun t ht => hx t (by simp [ht])]
  case indexAddr t x j => rw [ev_congr (x := x) fun t ht => hx t (by simp [ht]), ev_congr (x := j) fun t ht => hx t (by simp [ht])]
  case index t x j => rw [ev_congr (x := x) fun t ht => hx t (by simp [ht]), ev_congr (x := j) fun t ht => hx t (by simp [ht])]
  case extract x j => rw [ev_congr (x := x) fun t ht => hx t (by simp [ht])]
  case call c =>
    rw [evTs_congr fun t ht => hx t (by simp [Call.operands]; exact .inr (by simpa using ht))]
    cases hc : c.callee with
    | value f =>
      simp only [Call.operands, hc] at hx
      simp only [ev_congr (x := f) (fr := fr) (fr2 := fr2) fun t ht => hx t (by simp [ht])]
    | builtin b => rfl
    | invoke r m => rfl

/-! ### On memory: not at all -/

theorem retH_none {x : Option V} (hr : retH x = some (v, e)) : x = some v ∧ e = .none := by
  unfold retH at hr
  rw [Option.map_eq_some_iff] at hr
  obtain ⟨y, rfl, heq⟩ := hr
  simp only [Prod.mk.injEq] at heq
  exact ⟨by rw [heq.1], heq.2.symm⟩

theorem aop_pure (hc : clsOf cfg me op = .pure) (ha : aop cfg T Ti me fr h dst ty op = some (v, e)) : e = .none ∧ ∀ h2, aop cfg T Ti me fr h2 dst ty op = some (v, .none) := by
  cases op <;> simp only [aop] at ha ⊢ <;> simp only [clsOf] at hc <;> try (first | (cases ha; done) | (cases hc; done))
  case move x => obtain ⟨h1, rfl⟩ := retH_none ha; exact ⟨rfl, fun _ => ha⟩
  case assign x => obtain ⟨h1, rfl⟩ := retH_none ha; exact ⟨rfl, fun _ => ha⟩
  case pick c a b =>
    have : e = .none := by
      simp only [Option.bind_eq_some_iff] at ha
      obtain ⟨_, _, b, _, ha⟩ := ha
      cases b <;> simp at ha <;> exact (retH_none ha).2
    subst this
    exact ⟨rfl, fun _ => ha⟩
  case build t ps => obtain ⟨h1, rfl⟩ := retH_none ha; exact ⟨rfl, fun _ => ha⟩
  case buildSlice t n ps => obtain ⟨h1, rfl⟩ := retH_none ha; exact ⟨rfl, fun _ => ha⟩
  case nilCheck x =>
    have : e = .none := by
      simp only [Option.bind_eq_some_iff] at ha
      obtain ⟨_, _, ha⟩ := ha
      exact (retH_none ha).2
    subst this
    exact ⟨rfl, fun _ => ha⟩
  case binOp op t x y q =>
    have : e = .none := by
      simp only [Option.bind_eq_some_iff] at ha
      obtain ⟨_, _, _, _, ha⟩ := ha
      exact (retH_none ha).2
    subst this
    exact ⟨rfl, fun _ => ha⟩
  case unOp op t x =>
    have : e = .none := by
      simp only [Option.bind_eq_some_iff] at ha
      obtain ⟨_, _, ha⟩ := ha
      exact (retH_none ha).2
    subst this
    exact ⟨rfl, fun _ => ha⟩
  case convert s t x =>
    have : e = .none := by
      simp only [Option.bind_eq_some_iff] at ha
      obtain ⟨_, _, ha⟩ := ha
      exact (retH_none ha).2
    subst this
    exact ⟨rfl, fun _ => ha⟩
  case makeFunc f first caps =>
    cases f <;> simp only [aop] at ha ⊢ <;> try (cases ha; done)
    have : e = .none := by
      cases hf : first.isEmpty <;> rw [hf] at ha <;> simp at ha
      obtain ⟨_, _, _, he⟩ := ha
      exact he.symm
    subst this
    exact ⟨rfl, fun _ => ha⟩
  case slice t x lo hi mx =>
    have : e = .none := by
      simp only [Option.bind_eq_some_iff] at ha
      obtain ⟨_, _, ha⟩ := ha
      exact (retH_none ha).2
    subst this
    exact ⟨rfl, fun _ => ha⟩
  case fieldAddr t x j =>
    have : e = .none := by
      simp only [Option.bind_eq_some_iff] at ha
      obtain ⟨_, _, ha⟩ := ha
      exact (retH_none ha).2
    subst this
    exact ⟨rfl, fun _ => ha⟩
  case field t x j =>
    have : e = .none := by
      simp only [Option.bind_eq_some_iff] at ha
      obtain ⟨_, _, ha⟩ := ha
      exact (retH_none ha).2
    subst this
    exact ⟨rfl, fun _ => ha⟩
  case index t x j =>
    have : e = .none := by
      simp only [Option.bind_eq_some_iff] at ha
      obtain ⟨_, _, _, _, ha⟩ := ha
      exact (retH_none ha).2
    subst this
    exact ⟨rfl, fun _ => ha⟩
  case extract x j =>
    have : e = .none := by
      simp only [Option.bind_eq_some_iff] at ha
      obtain ⟨_, _, ha⟩ := ha
      exact (retH_none ha).2
    subst this
    exact ⟨rfl, fun _ => ha⟩
  case call c =>
    cases hcal : c.callee with
    | value f =>
      obtain ⟨callee, args, tys⟩ := c
      simp only at hcal
      subst hcal
      exfalso
      cases f <;> simp at hc
      split at hc <;> cases hc
    | invoke r m =>
      rw [hcal] at ha
      simp only [Option.bind_eq_some_iff] at ha
      obtain ⟨_, _, _, _, ha⟩ := ha
      cases ha
    | builtin b =>
      obtain ⟨callee, args, tys⟩ := c
      simp only at hcal
      subst hcal
      simp only [Option.bind_eq_some_iff] at ha ⊢
      obtain ⟨d, hd, as, has, ha⟩ := ha
      cases b <;> simp only [blt] at ha hc ⊢ <;> try (first | (cases ha; done) | (cases hc; done))
      · obtain ⟨h1, rfl⟩ := retH_none ha
        exact ⟨rfl, fun _ => ⟨d, hd, as, has, ha⟩⟩
      · obtain ⟨h1, rfl⟩ := retH_none ha
        exact ⟨rfl, fun _ => ⟨d, hd, as, has, ha⟩⟩

/-! ### On memory: on what is there -/

def HLe (h h2 : Hp) : Prop := ∀ i o, h i = some o → h2 i = some o

theorem HLe.bind {α : Type} (hle : HLe h h2) {i : Id} {f : Go.Vm.Obj → Option α} {r : α} (hb : (h i).bind f = some r) : (h2 i).bind f = some r := by
  rw [Option.bind_eq_some_iff] at hb
  obtain ⟨o, ho, hb⟩ := hb
  rw [hle i o ho]
  exact hb

theorem ld_mono (hle : HLe h h2) {T : TypeId} {x : V} (hl : ld cfg h T x = some v) : ld cfg h2 T x = some v := by
  unfold ld at hl ⊢
  rw [Option.bind_eq_some_iff] at hl
  obtain ⟨i, hT, hl⟩ := hl
  rw [hT]
  simp only [Option.bind_some]
  split at hl
  · exact hle.bind hl
  · exact hl
  · exact hle.bind hl
  · cases hl

theorem ixA_mono (hle : HLe h h2) {T : TypeId} {x i : V} (hl : ixA cfg h T x i = some v) : ixA cfg h2 T x i = some v := by
  unfold ixA at hl ⊢
  rw [Option.bind_eq_some_iff] at hl
  obtain ⟨k, hk, hl⟩ := hl
  rw [Option.bind_eq_some_iff] at hl
  obtain ⟨n, hn, hl⟩ := hl
  rw [hk, hn]
  simp only [Option.bind_some]
  split at hl
  · exact hl
  · rename_i id k'
    cases hd : decide (k' = k) with
    | false => rw [hd] at hl; simp at hl
    | true =>
      rw [hd] at hl
      simp only [cond_true] at hl ⊢
      exact hle.bind hl
  · cases hl

theorem slen_mono (hle : HLe h h2) {x : V} {n : Nat} (hl : slen h x = some n) : slen h2 x = some n := by
  unfold slen at hl ⊢
  split at hl
  · exact hl
  · exact hl
  · exact hle.bind hl
  · cases hl

theorem items_mono (hle : HLe h h2) {k : Kind} {x : V} {l : List (El k)} (hl : items h k x = some l) : items h2 k x = some l := by
  unfold items at hl ⊢
  split at hl
  · exact hl
  · exact hle.bind hl
  · exact hl
  · cases hl

theorem snapC_mono (hle : HLe h h2) {c d : C} (hl : snapC h c = some d) : snapC h2 c = some d := by
  unfold snapC at hl ⊢
  split at hl
  · exact hl
  · exact hle.bind hl
  · exact hle.bind hl
  · exact hl
  · exact hl
  · cases hl

theorem lmapM_mono {α β : Type} {f g : α → Option β} (hfg : ∀ x y, f x = some y → g x = some y) : ∀ {l : List α} {r : List β}, lmapM f l = some r → lmapM g l = some r
  | [], r, hl => hl
  | x :: l, r, hl => by
    simp only [lmapM, Option.bind_eq_some_iff] at hl ⊢
    obtain ⟨y, hy, ys, hys, hr⟩ := hl
    exact ⟨y, hfg _ _ hy, ys, lmapM_mono hfg hys, hr⟩

theorem snapV_mono (hle : HLe h h2) {c d : V} (hl : snapV h c = some d) : snapV h2 c = some d := by
  cases c with
  | c x =>
    simp only [snapV, Option.map_eq_some_iff] at hl ⊢
    obtain ⟨y, hy, hd⟩ := hl
    exact ⟨y, snapC_mono hle hy, hd⟩
  | agg cs =>
    simp only [snapV, Option.map_eq_some_iff] at hl ⊢
    obtain ⟨y, hy, hd⟩ := hl
    exact ⟨y, lmapM_mono (fun _ _ => snapC_mono hle) hy, hd⟩
  | tup vs => simp [snapV] at hl

theorem pcall_mono (hle : HLe h h2) {f : FuncId} {args : List V} {sh : Sh} (hl : pcall T h f args sh = some v) : pcall T h2 f args sh = some v := by
  unfold pcall at hl ⊢
  rw [Option.bind_eq_some_iff] at hl
  obtain ⟨as, has, hl⟩ := hl
  rw [lmapM_mono (fun _ _ => snapV_mono hle) has]
  exact hl

theorem hcall_heap {d : Nat} {f : FuncId} {args : List V} (hl : hcall T h d f args = some (v, e)) : ∃ h', e = .heap h' := by
  unfold hcall at hl
  simp only at hl
  cases hd : distinct (reach h 3 (addNew [] (refsVs args))) with
  | false => rw [hd] at hl; simp at hl
  | true =>
    rw [hd] at hl
    simp only [cond_true, Option.bind_eq_some_iff] at hl
    obtain ⟨os, _, r, _, hb⟩ := hl
    exact handBack_heap hb

theorem hcallS_heap {d : Nat} {f : FuncId} {args : List V} {sh : Sh} (hl : hcallS T h d f args sh = some (v, e)) : ∃ h', e = .heap h' := by
  unfold hcallS at hl
  simp only at hl
  cases hd : distinct (reach h 3 (addNew [] (refsVs args))) with
  | false => rw [hd] at hl; simp at hl
  | true =>
    rw [hd] at hl
    simp only [cond_true, Option.bind_eq_some_iff] at hl
    obtain ⟨os, _, r, _, v1, _, os', _, hb⟩ := hl
    cases hcond : (Nat.beq r.2.1.length os.length && isNil r.2.2) with
    | false => rw [hcond] at hb; simp at hb
    | true => rw [hcond] at hb; simp only [cond_true] at hb; exact handBack_heap hb

theorem appRow_quiet {d : Nat} {k : Kind} {id : Id} {l xs : List (El k)} (ha : appRow h d k id l xs = some (v, e)) (hq : quietE e = true) : appRow h2 d k id l xs = some (v, e) := by
  unfold appRow at ha ⊢
  split at ha
  · exact ha
  · exfalso
    split at ha
    · rename_i y ys _ _
      cases hb : Nat.ble (l.length + (y :: ys).length) appMax with
      | false => rw [hb] at ha; simp at ha
      | true =>
        rw [hb] at ha
        simp at ha
        simp [← ha.2, quietE] at hq
    · simp at ha

theorem app_mono (hle : HLe h h2) {d : Nat} {k : Kind} {s x : V} (ha : app h d k s x = some (v, e)) (hq : quietE e = true) : app h2 d k s x = some (v, e) := by
  unfold app at ha ⊢
  rw [Option.bind_eq_some_iff] at ha
  obtain ⟨xs, hxs, ha⟩ := ha
  rw [items_mono hle hxs]
  simp only [Option.bind_some]
  split at ha
  · exact ha
  · rename_i id k'
    rw [Option.bind_eq_some_iff] at ha
    obtain ⟨o, ho, ha⟩ := ha
    rw [hle _ _ ho]
    simp only [Option.bind_some]
    split at ha
    · rename_i wr k2 l
      by_cases hk : k2 = k
      · subst hk
        simp only [dite_true] at ha ⊢
        cases hn : notRow id x with
        | false => rw [hn] at ha; simp at ha
        | true =>
          rw [hn] at ha
          simp only [cond_true] at ha ⊢
          exact appRow_quiet ha hq
      · simp [hk] at ha
    · simp at ha
  · cases ha

theorem aop_mono (hle : HLe h h2) (ha : aop cfg T Ti me fr h dst ty op = some (v, e)) (hq : quietE e = true) : aop cfg T Ti me fr h2 dst ty op = some (v, e) := by
  cases op <;> simp only [aop] at ha ⊢ <;> try exact ha
  case load t x =>
    simp only [Option.bind_eq_some_iff] at ha ⊢
    obtain ⟨a, ha1, ha⟩ := ha
    obtain ⟨h1, rfl⟩ := retH_none ha
    exact ⟨a, ha1, by unfold retH; rw [ld_mono hle h1]; rfl⟩
  case store t x y =>
    exfalso
    simp only [Option.bind_eq_some_iff, Option.map_eq_some_iff, Prod.mk.injEq] at ha
    obtain ⟨_, _, _, _, _, _, _, rfl⟩ := ha
    simp [quietE] at hq
  case makeFunc f first caps => cases f <;> simp only [aop] at ha ⊢ <;> exact ha
  case indexAddr t x j =>
    simp only [Option.bind_eq_some_iff] at ha ⊢
    obtain ⟨a, ha1, b, hb1, ha⟩ := ha
    obtain ⟨h1, rfl⟩ := retH_none ha
    exact ⟨a, ha1, b, hb1, by unfold retH; rw [ixA_mono hle h1]; rfl⟩
  case call c =>
    simp only [Option.bind_eq_some_iff] at ha ⊢
    obtain ⟨d, hd, args, hargs, ha⟩ := ha
    refine ⟨d, hd, args, hargs, ?_⟩
    cases hc : c.callee with
    | value f =>
      rw [hc] at ha
      simp only [Option.bind_eq_some_iff] at ha ⊢
      obtain ⟨fv, hfv, ha⟩ := ha
      refine ⟨fv, hfv, ?_⟩
      unfold callV at ha ⊢
      split at ha
      · split at ha
        · obtain ⟨h1, rfl⟩ := retH_none ha
          unfold retH
          rw [pcall_mono hle h1]
          rfl
        · obtain ⟨_, rfl⟩ := hcallS_heap ha; simp [quietE] at hq
        · obtain ⟨_, rfl⟩ := hcall_heap ha; simp [quietE] at hq
      · cases ha
    | invoke r m => rw [hc] at ha; cases ha
    | builtin b =>
      rw [hc] at ha
      simp only at ha ⊢
      unfold blt at ha ⊢
      split at ha
      · simp only [Option.bind_eq_some_iff, cond_eq_ite] at ha ⊢
        obtain ⟨i, hT, ha⟩ := ha
        refine ⟨i, hT, ?_⟩
        split at ha
        · rename_i hs
          rw [if_pos hs]
          simp only [Option.map_eq_some_iff] at ha ⊢
          obtain ⟨n, hn, he⟩ := ha
          simp only [Option.bind_eq_bind, Option.bind_eq_some_iff] at hn ⊢
          obtain ⟨m, hm, hn⟩ := hn
          exact ⟨n, ⟨m, slen_mono hle hm, hn⟩, he⟩
        · cases ha
      · simp only [Option.bind_eq_some_iff, cond_eq_ite] at ha ⊢
        obtain ⟨k, hk, i, hT, ha⟩ := ha
        refine ⟨k, hk, i, hT, ?_⟩
        split at ha
        · rename_i hs
          rw [if_pos hs]
          exact app_mono hle ha hq
        · cases ha
      · exact ha
      · exact ha
      · cases ha

end
end Go.Vm
