/-
  The machine's operations against the model's: what only reads.
-/
import Derived.Test.YtgegmojoakkohaaGreatDoorVm1r
import Derived.Deep.MidRow
import Derived.Laws.StructEq
import Derived.WideLaws
import Derived.Laws.MakeOwn
import Derived.Great.BuildSlice
import Derived.Laws.IdiomStrings
import Derived.Deep.Upon
import Derived.Laws.AppendOwn
namespace Go.Vm
variable {G : Gl}
set_option linter.unusedVariables false
set_option linter.unusedSimpArgs false

/-- A zero cell's two sides. -/
def zm : Value → C → Bool
  | .bool b, .f (.sc (.bool c)) => b == c
  | .int k a, .f (.sc (.int k' b)) => decide (k = k') && a == b
  | .string s, .f (.sc (.string t)) => decide (s.data.toList = t.data.toList)
  | .slice none 0 0, .f (.sl true _ []) => true
  | .nilIface, .f (.sc .nilIface) => true
  | .agg _, .hole => false
  | .tuple _, .hole => false
  | _, .hole => true
  | _, _ => false

def zms : List Value → List C → Bool
  | [], [] => true
  | v :: vs, c :: cs => zm v c && zms vs cs
  | _, _ => false

/-- What a function does that the machine does itself. -/
def NatOK (P : Program) (g : FuncId) : Nt → Prop
  | .clone k => (∃ fn c, P.funcs[g]? = some fn ∧ fn.body = some c ∧ (fn.name == "runtime.NumGoroutine") = false) ∧
      (∀ (b off c : Nat) (l : List (El k)) (news : List Value) (w : World) (M : Nat → Prop) (h : Hp) (loc : Loc), l.length ≤ appMax → CWs w M h loc news ((l.flatMap (cellsOf k)).map C.f) → (∀ j u, news[j]? = some u → w.cell? ⟨b, off + j, none⟩ = some u) →
        Calls P g #[.slice (some ⟨b, off, none⟩) l.length c] w fun e w' => ∃ v' T, e = .returned v' ∧ w'.ownsRow w.heap.size T (szOf k) v' l.length news ∧ Go.RowKit.Below w.heap.size w w') ∧
      (∀ (c : Nat) (w : World), Calls P g #[.slice none 0 c] w fun e w' => e = .returned (.slice none 0 0) ∧ w' = w) ∧
      (∀ (a : Addr) (c : Nat) (w : World), Calls P g #[.slice (some a) 0 c] w fun e w' => ∃ v' T, e = .returned v' ∧ w'.ownsRow w.heap.size T (szOf k) v' 0 [] ∧ Go.RowKit.Below w.heap.size w w')

/-- The table tells the truth. -/
structure TabOK (P : Program) (cfg : Cfg) : Prop where
  und : ∀ t i, cfg.tb t = some i → P.underlying t = some i.desc
  inf : ∀ t i, cfg.tb t = some i → ∃ x, P.info? t = some x ∧ x.zero = some i.zv ∧ x.size = i.size ∧ x.bytes = i.bytes
  zer : ∀ t i, cfg.tb t = some i → zms i.zv.cells.toList i.zero = true
  kin : ∀ t i k e, cfg.tb t = some i → i.desc = .slice e → i.kind = some k → ∃ x z, P.info? e = some x ∧ x.zero = some z ∧ x.size = szOf k ∧ zms z.cells.toList ((cellsOf k (zeroEl k)).map fun f => match f with | .sl _ q _ => .f (.sl true q []) | f => .f f) = true ∧ 0 < x.bytes ∧ x.bytes ≤ 1000
  flds : ∀ t i fs, cfg.tb t = some i → i.desc = .struct fs → ∀ f ∈ fs.toList, ∃ x, P.info? f.type = some x
  eqf : ∀ t, cfg.eqT t = true → P.eqGuardType P.depth t = false ∧ P.stoodInHeld t = false
  nat : ∀ g nt, cfg.nat g = some nt → NatOK P g nt

/-- The frame: each slot stands for what the machine holds there. -/
def FrW (w : World) (M : Nat → Prop) (h : Hp) (loc : Loc) (a : Act) (fr : Fr) : Prop := ∀ t, VW w M h loc (a.tmps.getD t undef) (fr t)

section
variable {P : Program} {cfg : Cfg} {U : Nat → Prop} {h h' : Hp} {loc loc' : Loc} {w w' : World} {a : Act} {fr : Fr}

theorem VW.sc {M : Nat → Prop} {v u : Value} (hv : VW w M h loc v (.c (.f (.sc u)))) : v = u := by
  unfold VW CW at hv
  obtain ⟨n, hn⟩ := hv
  cases n <;> exact hn.1

theorem VW.mk_sc {M : Nat → Prop} {u : Value} (hs : scal u = true) : VW w M h loc u (.c (.f (.sc u))) := by
  unfold VW CW
  exact ⟨0, rfl, hs⟩

theorem VW.mk_bool {M : Nat → Prop} (b : Bool) : VW w M h loc (.bool b) (.bool b) := VW.mk_sc rfl
theorem VW.mk_int {M : Nat → Prop} (k : IntKind) (n : Int) : VW w M h loc (.int k n) (.c (.f (.sc (.int k n)))) := VW.mk_sc rfl
theorem VW.mk_str {M : Nat → Prop} (s : ByteArray) : VW w M h loc (.string s) (.str s) := VW.mk_sc rfl

theorem evT_ok {T : TypeId} {x : Operand} {v : V} (hf : FrW w (Mut U h loc) h loc a fr) (he : evT cfg fr T x = some v) : VW w (Mut U h loc) h loc (a.eval x) v := by
  cases x with
  | tmp t =>
    simp only [evT, Option.some.injEq] at he
    subst he
    exact hf t
  | const u =>
    simp only [evT, constV, constC] at he
    split at he
    · simp at he; subst he; exact VW.mk_sc rfl
    · simp at he; subst he; exact VW.mk_sc rfl
    · simp at he; subst he; exact VW.mk_sc rfl
    · simp at he; subst he; exact VW.mk_sc rfl
    · cases hT : cfg.tb T with
      | none => simp [hT] at he
      | some i =>
        cases hk : i.kind with
        | none => simp [hT, hk] at he
        | some k =>
          simp [hT, hk] at he
          subst he
          unfold VW CW
          exact ⟨1, none, 0, rfl, by simp, fun _ => rfl, fun i x hx => by simp at hx⟩
    · simp at he; subst he; unfold VW CW; trivial
    · simp at he
  | global g => simp [evT] at he
  | func f =>
    simp only [evT, Option.some.injEq] at he
    subst he
    unfold VW CW
    exact ⟨[], rfl, by unfold CWs; trivial⟩

theorem ev_ok {x : Operand} {v : V} (hf : FrW w (Mut U h loc) h loc a fr) (he : ev fr x = some v) : VW w (Mut U h loc) h loc (a.eval x) v := by
  cases x with
  | tmp t =>
    simp only [ev, Option.some.injEq] at he
    subst he
    exact hf t
  | const u =>
    cases u <;> simp [ev] at he <;> (subst he; exact VW.mk_sc rfl)
  | global g => simp [ev] at he
  | func f =>
    simp only [ev, Option.some.injEq] at he
    subst he
    unfold VW CW
    exact ⟨[], rfl, by unfold CWs; trivial⟩

theorem asB_ok {M : Nat → Prop} {v : Value} {x : V} {b : Bool} (hv : VW w M h loc v x) (hb : asB x = some b) : v = .bool b ∧ x = .bool b := by
  unfold asB at hb
  split at hb
  · simp at hb; subst hb; exact ⟨hv.sc, rfl⟩
  · simp at hb

theorem asI_ok {M : Nat → Prop} {v : Value} {x : V} {n : Int} (hv : VW w M h loc v x) (hb : asI x = some n) : v = .int .i64 n ∧ x = .int n := by
  unfold asI at hb
  split at hb
  · simp at hb; subst hb; exact ⟨hv.sc, rfl⟩
  · simp at hb

/-- What an operation leaves. -/
def PostV (G : Gl) (U : Nat → Prop) (h : Hp) (loc : Loc) (w : World) (h' : Hp) (v : V) (u : Value) (w' : World) (loc' : Loc) : Prop :=
  HW G U h' loc' w' ∧ Ext U h loc w h' loc' w' ∧ VW w' (Mut U h' loc') h' loc' u v

def OpOK (P : Program) (G : Gl) (U : Nat → Prop) (h : Hp) (loc : Loc) (w : World) (h' : Hp) (v : V) : Result Next → Prop
  | .ok (.value u) w' => ∃ loc', PostV G U h loc w h' v u w' loc'
  | .ok .skip w' => ∃ loc', PostV G U h loc w h' v undef w' loc'
  | .ok (.enter f args) w' => w' = w ∧ Calls P f args w fun e w'' => ∃ u loc', e = .returned u ∧ PostV G U h loc w h' v u w'' loc'
  | _ => False

theorem OpOK.val (hw : HW G U h loc w) {v : V} {u : Value} (hv : VW w (Mut U h loc) h loc u v) : OpOK P G U h loc w h v (.ok (.value u) w) := ⟨loc, hw, Ext.refl _ _ _ _, hv⟩

/-! ### Integers, strings, tests -/

theorem binI_ok {op : BinOp} {k : IntKind} {x y : Int} {v : F} {T : TypeId} (hb : binI op k x y = some v) (hs : isShift op = false) : ∃ u, v = .sc u ∧ scal u = true ∧ (binOp op T (.int k x) (.int k y)).run P w = .ok u w := by
  cases op <;> simp [binI, isShift] at hb hs <;> first
    | (subst hb; exact ⟨_, rfl, rfl, by simp [binOp, Op.intArith, Op.intBits, Op.intCmp]⟩)
    | (unfold ne0 at hb
       by_cases h0 : y = 0
       · simp [h0] at hb
       · simp [h0] at hb
         subst hb
         exact ⟨_, rfl, rfl, by simp [binOp, Op.intDiv, h0]⟩)

theorem shf_ok {op : BinOp} {k k' : IntKind} {x y : Int} {v : F} {T : TypeId} (hb : shf op k x y = some v) : ∃ u, v = .sc u ∧ scal u = true ∧ (binOp op T (.int k x) (.int k' y)).run P w = .ok u w := by
  cases op <;> simp [shf] at hb <;>
    (unfold ge0 at hb
     by_cases h0 : y < 0
     · simp [h0] at hb
     · simp [h0] at hb
       subst hb
       exact ⟨_, rfl, rfl, by simp [binOp, Op.shift, h0]⟩)

theorem binS_ok {op : BinOp} {x y : ByteArray} {v : F} {T : TypeId} (hb : binS op x y = some v) : ∃ u, v = .sc u ∧ scal u = true ∧ (binOp op T (.string x) (.string y)).run P w = .ok u w := by
  cases op <;> simp [binS] at hb <;> first
    | (subst hb; exact ⟨_, rfl, rfl, by simp [binOp, Op.stringOp]⟩)
    | (unfold catOk at hb
       by_cases h0 : (9223372036854775807 : Int) < (x.size : Int) + (y.size : Int)
       · simp [h0] at hb
       · simp [h0] at hb
         subst hb
         exact ⟨_, rfl, rfl, by simp [binOp, Op.stringOp, h0]⟩)

theorem run_eqGuard_plain (op : BinOp) (t : TypeId) (x y : Operand) (u v : Value) (h1 : ¬ (u = .nilIface ∧ v = .nilIface)) (h2 : ∀ cs ds, ¬ (u = .agg cs ∧ v = .agg ds)) : (eqGuard op t x y u v).run P w = .ok () w := by
  unfold eqGuard
  cases op <;> simp <;> (split <;> first | rfl | (exfalso; first | exact h1 ⟨rfl, rfl⟩ | exact h2 _ _ ⟨rfl, rfl⟩))

theorem CWs.length {M : Nat → Prop} : ∀ {us : List Value} {cs : List C}, CWs w M h loc us cs → us.length = cs.length
  | [], [], _ => rfl
  | [], _ :: _, hc => by unfold CWs at hc; exact hc.elim
  | _ :: _, [], hc => by unfold CWs at hc; exact hc.elim
  | u :: us, c :: cs, hc => by unfold CWs at hc; simp [CWs.length hc.2]

theorem CWs.get {M : Nat → Prop} : ∀ {us : List Value} {cs : List C} {j : Nat} {c : C}, CWs w M h loc us cs → cs[j]? = some c → ∃ u, us[j]? = some u ∧ CW w M h loc u c
  | [], [], j, c, _, hc => by simp at hc
  | [], _ :: _, _, _, hc, _ => by unfold CWs at hc; exact hc.elim
  | _ :: _, [], _, _, hc, _ => by unfold CWs at hc; exact hc.elim
  | u :: us, c :: cs, 0, c', hc, hj => by unfold CWs at hc; simp at hj; subst hj; exact ⟨u, rfl, hc.1⟩
  | u :: us, c :: cs, j + 1, c', hc, hj => by unfold CWs at hc; simp at hj; obtain ⟨v, hv, hr⟩ := CWs.get hc.2 hj; exact ⟨v, by simpa using hv, hr⟩

theorem CWs.mk {M : Nat → Prop} : ∀ {us : List Value} {cs : List C}, us.length = cs.length → (∀ (j : Nat) (c : C), cs[j]? = some c → ∃ u, us[j]? = some u ∧ CW w M h loc u c) → CWs w M h loc us cs
  | [], [], _, _ => by unfold CWs; trivial
  | [], _ :: _, hl, _ => by simp at hl
  | _ :: _, [], hl, _ => by simp at hl
  | u :: us, c :: cs, hl, hg => by
    unfold CWs
    obtain ⟨v, hv, hr⟩ := hg 0 c rfl
    simp at hv
    subst hv
    exact ⟨hr, CWs.mk (by simpa using hl) (fun j c' hj => by have := hg (j + 1) c' (by simpa using hj); simpa using this)⟩

theorem CWs.drop {M : Nat → Prop} : ∀ {us : List Value} {cs : List C} (n : Nat), CWs w M h loc us cs → CWs w M h loc (us.drop n) (cs.drop n)
  | us, cs, 0, hc => hc
  | [], [], n + 1, hc => hc
  | [], _ :: _, _, hc => by unfold CWs at hc; exact hc.elim
  | _ :: _, [], _, hc => by unfold CWs at hc; exact hc.elim
  | u :: us, c :: cs, n + 1, hc => by unfold CWs at hc; exact CWs.drop n hc.2

theorem CWs.take {M : Nat → Prop} : ∀ {us : List Value} {cs : List C} (n : Nat), CWs w M h loc us cs → CWs w M h loc (us.take n) (cs.take n)
  | us, cs, 0, hc => by simp; unfold CWs; trivial
  | [], [], n + 1, hc => hc
  | [], _ :: _, _, hc => by unfold CWs at hc; exact hc.elim
  | _ :: _, [], _, hc => by unfold CWs at hc; exact hc.elim
  | u :: us, c :: cs, n + 1, hc => by unfold CWs at hc; simp; unfold CWs; exact ⟨hc.1, CWs.take n hc.2⟩

theorem CWs.cut {M : Nat → Prop} {us : List Value} {cs : List C} (o n : Nat) (hc : CWs w M h loc us cs) : CWs w M h loc (cut us o n) (cut cs o n) := (hc.drop o).take n

theorem run_part_one {T : TypeId} {i : TI} (ht : TabOK P cfg) (hT : cfg.tb T = some i) (hd : isAggD i.desc = false) {xs : Array Value} {off : Nat} {u : Value} (hu : xs[off]? = some u) : (Go.part T xs off).run P w = .ok u w := by
  have h1 := ht.und T i hT
  have h2 : (isAgg T).run P w = .ok false w := by
    unfold isAgg
    rw [Sem.run_bind, run_underlying h1 w]
    cases hdesc : i.desc <;> simp_all [isAggD]
  simp [Go.part, Sem.run_bind, h2, hu]

theorem CW.sc {M : Nat → Prop} {u x : Value} (hc : CW w M h loc u (.f (.sc x))) : u = x := by
  unfold CW at hc
  obtain ⟨n, hn⟩ := hc
  cases n <;> exact hn.1

theorem scEqT_ok (ht : TabOK P cfg) {M : Nat → Prop} {T : TypeId} {i : TI} (hT : cfg.tb T = some i) {c d : C} {u v : Value} {b : Bool} {n : Nat}
    (hc : CW w M h loc u c) (hd : CW w M h loc v d) (he : scEqT i.desc c d = some b) :
    isAggD i.desc = false ∧ (Op.equalIn (n + 1) T u v).run P w = .ok b w := by
  have h1 := ht.und T i hT
  unfold scEqT at he
  split at he
  · rename_i hdesc
    obtain rfl := hc.sc
    obtain rfl := hd.sc
    simp at he; subst he
    exact ⟨by rw [hdesc]; rfl, run_equalIn_int w n T .i64 .i64 _ _ (by rw [h1, hdesc])⟩
  · rename_i hdesc
    obtain rfl := hc.sc
    obtain rfl := hd.sc
    simp only [Option.some.injEq] at he; subst he
    exact ⟨by rw [hdesc]; rfl, by rw [run_equalIn_string w n T _ _ (by rw [h1, hdesc]), beq_toListBytes]⟩
  · rename_i hdesc
    obtain rfl := hc.sc
    obtain rfl := hd.sc
    simp at he; subst he
    exact ⟨by rw [hdesc]; rfl, run_equalIn_bool' w n T _ _ (by rw [h1, hdesc])⟩
  · simp at he

theorem eqF_ok (ht : TabOK P cfg) {M : Nat → Prop} {d : Nat} {xs ys : Array Value} : ∀ (fs : List Field) (j : Nat) (cs ds : List C) (b : Bool),
    CWs w M h loc (xs.toList.drop j) cs → CWs w M h loc (ys.toList.drop j) ds → eqF cfg.tb j fs cs ds = some b → (Op.eqFields (d + 1) xs ys fs).run P w = .ok b w
  | [], j, [], [], b, _, _, he => by simp [eqF] at he; subst he; simp [Op.eqFields]
  | [], j, c :: cs, _, b, _, _, he => by simp [eqF] at he
  | [], j, [], _ :: _, b, _, _, he => by simp [eqF] at he
  | f :: fs, j, [], ds, b, _, _, he => by simp [eqF] at he
  | f :: fs, j, c :: cs, [], b, _, _, he => by simp [eqF] at he
  | f :: fs, j, c :: cs, e :: es, b, hx, hy, he => by
    simp only [eqF] at he
    cases hg : (f.name == "_" || !Nat.beq f.offset j) with
    | true => simp [hg] at he
    | false =>
      simp only [hg, cond_false, Option.bind_eq_some_iff] at he
      simp only [Bool.or_eq_false_iff] at hg
      obtain ⟨hnm, hoff⟩ := hg
      have hoff : f.offset = j := Nat.eq_of_beq_eq_true (by simpa using hoff)
      obtain ⟨i, hi, x, hx1, y, hy1, hb⟩ := he
      simp at hb
      subst hb
      cases hxl : xs.toList.drop j with
      | nil => rw [hxl] at hx; unfold CWs at hx; exact hx.elim
      | cons u us =>
        cases hyl : ys.toList.drop j with
        | nil => rw [hyl] at hy; unfold CWs at hy; exact hy.elim
        | cons v vs =>
          rw [hxl] at hx
          rw [hyl] at hy
          unfold CWs at hx hy
          have q := scEqT_ok ht hi hx.1 hy.1 hx1 (n := d)
          have hu : xs[f.offset]? = some u := by
            have := congrArg (fun l => l[0]?) hxl
            simp [List.getElem?_drop] at this
            rw [hoff]; exact this
          have hv : ys[f.offset]? = some v := by
            have := congrArg (fun l => l[0]?) hyl
            simp [List.getElem?_drop] at this
            rw [hoff]; exact this
          have hxs : xs.toList.drop (j + 1) = us := by
            have := congrArg List.tail hxl
            simpa [List.tail_drop] using this
          have hys : ys.toList.drop (j + 1) = vs := by
            have := congrArg List.tail hyl
            simpa [List.tail_drop] using this
          have ih := eqF_ok ht (d := d) fs (j + 1) cs es y (by rw [hxs]; exact hx.2) (by rw [hys]; exact hy.2) hy1
          have hn : f.name ≠ "_" := by simpa using hnm
          rw [Op.eqFields]
          simp only [if_pos hn, Sem.run_bind, run_part_one ht hi q.1 hu, run_part_one ht hi q.1 hv, q.2, Result.andThen_ok]
          cases x
          · simp
          · simpa using ih

/-- Two operands and an operator. -/
theorem bin_ok (ht : TabOK P cfg) {M : Nat → Prop} {op : BinOp} {T : TypeId} {x y : Operand} {u v : Value} {p q r : V} (hu : VW w M h loc u p) (hv : VW w M h loc v q)
    (hy : isConst y = true → ∃ c, y = .const c) (hb : bin cfg op T (isConst y) p q = some r) :
    ∃ z, VW w M h loc z r ∧ (do eqGuard op T x y u v; binOp op T u v : Sem Value).run P w = .ok z w := by
  unfold bin at hb
  split at hb
  · obtain rfl := hu.sc
    obtain rfl := hv.sc
    rename_i k a k' b
    have g := run_eqGuard_plain (P := P) (w := w) op T x y (.int k a) (.int k' b) (by simp) (by simp)
    cases hs : isShift op with
    | true =>
      simp only [hs, cond_true, Option.bind_eq_some_iff] at hb
      obtain ⟨f, hf, hr⟩ := hb
      obtain ⟨z, rfl, hz, hrun⟩ := shf_ok (P := P) (w := w) (k' := k') (T := T) hf
      simp at hr
      subst hr
      exact ⟨z, VW.mk_sc hz, by simp [Sem.run_bind, g, hrun]⟩
    | false =>
      simp only [hs, cond_false] at hb
      by_cases hk : k = k'
      · subst hk
        simp only [decide_true, cond_true, Option.bind_eq_some_iff] at hb
        obtain ⟨f, hf, hr⟩ := hb
        obtain ⟨z, rfl, hz, hrun⟩ := binI_ok (P := P) (w := w) (T := T) hf hs
        simp at hr
        subst hr
        exact ⟨z, VW.mk_sc hz, by simp [Sem.run_bind, g, hrun]⟩
      · simp [hk] at hb
  · obtain rfl := hu.sc
    obtain rfl := hv.sc
    rename_i a b
    have g := run_eqGuard_plain (P := P) (w := w) op T x y (.string a) (.string b) (by simp) (by simp)
    simp only [Option.bind_eq_some_iff] at hb
    obtain ⟨f, hf, hr⟩ := hb
    obtain ⟨z, rfl, hz, hrun⟩ := binS_ok (P := P) (w := w) (T := T) hf
    simp at hr
    subst hr
    exact ⟨z, VW.mk_sc hz, by simp [Sem.run_bind, g, hrun]⟩
  · obtain rfl := hu.sc
    obtain rfl := hv.sc
    rename_i a b
    have g := run_eqGuard_plain (P := P) (w := w) op T x y (.bool a) (.bool b) (by simp) (by simp)
    cases hT : cfg.tb T with
    | none => simp [hT] at hb
    | some i =>
      simp only [hT, Option.bind_some] at hb
      split at hb
      · rename_i hd
        have h1 := ht.und T i hT
        rw [hd] at h1
        simp only [Option.bind_eq_some_iff] at hb
        obtain ⟨f, hf, hr⟩ := hb
        simp at hr
        subst hr
        cases op <;> simp [eqB] at hf <;> subst hf
        · exact ⟨_, VW.mk_bool _, by simp [Sem.run_bind, g, binOp, Op.equal, Op.maxDepth, run_equalIn_bool' w 9999 T a b h1]⟩
        · exact ⟨_, VW.mk_bool _, by simp [Sem.run_bind, g, binOp, Op.equal, Op.maxDepth, run_equalIn_bool' w 9999 T a b h1]⟩
      · simp at hb
  · obtain rfl := hv.sc
    unfold VW CW at hu
    obtain ⟨n, hn⟩ := hu
    have hu2 : ∃ T2 x2, u = .iface T2 x2 := by cases n <;> exact hn
    obtain ⟨T2, x2, rfl⟩ := hu2
    have g := run_eqGuard_plain (P := P) (w := w) op T x y (.iface T2 x2) .nilIface (by simp) (by simp)
    cases hT : cfg.tb T with
    | none => simp [hT] at hb
    | some i =>
      simp only [hT, Option.bind_some] at hb
      split at hb
      · rename_i ms hd
        have h1 := ht.und T i hT
        rw [hd] at h1
        simp only [Option.bind_eq_some_iff] at hb
        obtain ⟨f, hf, hr⟩ := hb
        simp at hr
        subst hr
        cases op <;> simp [eqB] at hf <;> subst hf
        · exact ⟨_, VW.mk_bool _, by simp only [Sem.run_bind, g, Result.andThen_ok]; exact run_eql_held_nil w T T2 x2 (by simp [Program.methodsAt, h1])⟩
        · exact ⟨_, VW.mk_bool _, by simp only [Sem.run_bind, g, Result.andThen_ok]; exact run_neq_held_nil w T T2 x2 (by simp [Program.methodsAt, h1])⟩
      · simp at hb
  · obtain rfl := hv.sc
    obtain rfl := hu.sc
    cases hT : cfg.tb T with
    | none => simp [hT] at hb
    | some i =>
      simp only [hT, Option.bind_some] at hb
      split at hb
      · rename_i ms hd
        have h1 := ht.und T i hT
        rw [hd] at h1
        cases hcy : isConst y with
        | false => simp [hcy] at hb
        | true =>
          obtain ⟨c, rfl⟩ := hy hcy
          simp only [hcy, cond_true, Option.bind_eq_some_iff] at hb
          obtain ⟨f, hf, hr⟩ := hb
          simp at hr
          subst hr
          cases op <;> simp [eqB] at hf <;> subst hf
          · have g : (eqGuard .eql T x (.const c) .nilIface .nilIface).run P w = .ok () w := by simp [eqGuard]
            exact ⟨_, VW.mk_bool _, by simp only [Sem.run_bind, g, Result.andThen_ok]; exact run_eql_nil_nil w T (by simp [Program.methodsAt, h1])⟩
          · have g : (eqGuard .neq T x (.const c) .nilIface .nilIface).run P w = .ok () w := by simp [eqGuard]
            exact ⟨_, VW.mk_bool _, by simp only [Sem.run_bind, g, Result.andThen_ok]; exact run_neq_nil_nil w T (by simp [Program.methodsAt, h1])⟩
      · simp at hb
  · rename_i cs ds
    cases hq : cfg.eqT T with
    | false => simp [hq] at hb
    | true =>
      cases hT : cfg.tb T with
      | none => simp [hq, hT] at hb
      | some i =>
        simp only [hq, hT, Option.bind_some, cond_true] at hb
        split at hb
        · rename_i fs hd
          have h1 := ht.und T i hT
          rw [hd] at h1
          unfold VW at hu hv
          obtain ⟨us, rfl, hus⟩ := hu
          obtain ⟨vs, rfl, hvs⟩ := hv
          simp only [Option.bind_eq_some_iff] at hb
          obtain ⟨b, hb1, f, hf, hr⟩ := hb
          simp at hr
          subst hr
          have hfo : P.fieldsOf T = fs := by simp [Program.fieldsOf, h1]
          have e1 := eqF_ok ht (d := 9998) (xs := us.toArray) (ys := vs.toArray) (w := w) fs.toList 0 cs ds b (by simpa using hus) (by simpa using hvs) hb1
          have e2 : (Op.equalIn 10000 T (.agg us.toArray) (.agg vs.toArray)).run P w = .ok b w := by
            rw [run_equalIn_struct (P := P) w 9999 T us.toArray vs.toArray (by rw [hfo]; exact h1) (ht.eqf T hq).2, hfo]
            exact e1
          have g := run_eqGuard_agg (P := P) w op T x y us.toArray vs.toArray (ht.eqf T hq).1
          cases op <;> simp [eqB] at hf <;> subst hf
          · exact ⟨_, VW.mk_bool _, by simp only [Sem.run_bind, g, Result.andThen_ok, run_eql_struct, e2]⟩
          · exact ⟨_, VW.mk_bool _, by simp only [Sem.run_bind, g, Result.andThen_ok, run_neq_struct, e2]⟩
        · simp at hb
  · simp at hb

end
end Go.Vm

namespace Go.Vm
variable {G : Gl}
set_option linter.unusedVariables false
set_option linter.unusedSimpArgs false

section
variable {P : Program} {cfg : Cfg} {U : Nat → Prop} {h h' : Hp} {loc loc' : Loc} {w w' : World} {a : Act} {fr : Fr}

theorem getElem?_cut {α : Type} (l : List α) (o n j : Nat) (x : α) : (cut l o n)[j]? = some x ↔ j < n ∧ l[o + j]? = some x := by
  unfold cut
  rw [List.getElem?_take, List.getElem?_drop]
  split
  · rename_i hlt; exact ⟨fun h => ⟨hlt, h⟩, fun h => h.2⟩
  · rename_i hge; exact ⟨fun h => by simp at h, fun h => absurd h.1 hge⟩

theorem cut_length {α : Type} (l : List α) (o n : Nat) (h : o + n ≤ l.length) : (cut l o n).length = n := by
  unfold cut
  simp
  omega

theorem cells_choice {M : Nat → Prop} {b : Nat} : ∀ (cs : List C) (o : Nat), (∀ (j : Nat) (c : C), cs[j]? = some c → ∃ u, w.cell? ⟨b, o + j, none⟩ = some u ∧ CW w M h loc u c) →
    ∃ us : List Value, CWs w M h loc us cs ∧ ∀ (j : Nat) (u : Value), us[j]? = some u → w.cell? ⟨b, o + j, none⟩ = some u
  | [], o, _ => ⟨[], by unfold CWs; trivial, fun j u hu => by simp at hu⟩
  | c :: cs, o, hc => by
    obtain ⟨u, hu, hr⟩ := hc 0 c rfl
    obtain ⟨us, h1, h2⟩ := cells_choice cs (o + 1) (fun j c' hj => by
      have := hc (j + 1) c' (by simpa using hj)
      rwa [show o + (j + 1) = o + 1 + j by omega] at this)
    refine ⟨u :: us, by unfold CWs; exact ⟨hr, h1⟩, fun j v hv => ?_⟩
    cases j with
    | zero => simp at hv; subst hv; exact hu
    | succ j =>
      have := h2 j v (by simpa using hv)
      rwa [show o + (j + 1) = o + 1 + j by omega]

theorem isAggD_row (d : TypeDesc) : isAggD d = d.isRow := by cases d <;> rfl

theorem run_isAgg_false (ht : TabOK P cfg) {T : TypeId} {i : TI} (hT : cfg.tb T = some i) (hd : isAggD i.desc = false) : (isAgg T).run P w = .ok false w := by
  have h1 := ht.und T i hT
  unfold isAgg
  rw [Sem.run_bind, run_underlying h1 w]
  cases hdesc : i.desc <;> simp_all [isAggD]

theorem sizeI (ht : TabOK P cfg) {T : TypeId} {i : TI} (hT : cfg.tb T = some i) : (P.info? T).map (·.size) = some i.size := by
  obtain ⟨x, h1, _, h3, _⟩ := ht.inf T i hT
  simp [h1, h3]

/-- Cells that lie in a row, loaded as one value. -/
theorem load_cells (ht : TabOK P cfg) {M : Nat → Prop} {T : TypeId} {i : TI} (hT : cfg.tb T = some i) {b o : Nat} {cs : List C} {v : V} (hl : cs.length = i.size)
    (hc : ∀ (j : Nat) (c : C), cs[j]? = some c → ∃ u, w.cell? ⟨b, o + j, none⟩ = some u ∧ CW w M h loc u c) (hv : valOf (isAggD i.desc) cs = some v) :
    ∃ u, (Instr.loadAt T (.pointer (some ⟨b, o, none⟩))).run P w = .ok u w ∧ VW w M h loc u v := by
  obtain ⟨us, h1, h2⟩ := cells_choice cs o hc
  cases hd : isAggD i.desc with
  | true =>
    simp [valOf, hd] at hv
    subst hv
    refine ⟨.agg us.toArray, run_loadAt_mid w b o T us i.desc (fun j v hv => h2 j v hv) (ht.und T i hT) (by rw [← isAggD_row]; exact hd) ?_, ?_⟩
    · rw [sizeI ht hT, ← hl, h1.length]
    · unfold VW
      exact ⟨us, rfl, h1⟩
  | false =>
    simp only [valOf, hd, cond_false] at hv
    match cs, hv, hl, h1 with
    | [c], hv, hl, h1 =>
      simp at hv
      subst hv
      match us, h1 with
      | [u], h1 =>
        unfold CWs at h1
        refine ⟨u, ?_, by unfold VW; exact h1.1⟩
        have hu := h2 0 u rfl
        simp at hu
        simp [Instr.loadAt, Instr.sureAddr, loadVar, Sem.run_bind, run_isAgg_false ht hT hd, run_load, hu]

theorem HW.box (hw : HW G U h loc w) {id : Id} {cs : List C} (hi : h id = some (.box cs)) : ∃ b c us T, loc id = some (b, c) ∧ w.heap[b]? = some (.cells us T (0, 0)) ∧ CWs w (Mut U h loc) h loc us.toList cs := hw.obj id _ hi

theorem cell_heap {b j : Nat} {us : Array Value} {T : TypeId} {f : Nat × Nat} (hb : w.heap[b]? = some (.cells us T f)) : w.cell? ⟨b, j, none⟩ = us[j]? := by simp [World.cell?, hb]
theorem frozen_heap {b j : Nat} {us : Array Value} {T : TypeId} (hb : w.heap[b]? = some (.cells us T (0, 0))) : w.frozen? ⟨b, j, none⟩ = false := by simp [World.frozen?, hb]

/-- An element's cells, from an address. -/
theorem elem_cells {M : Nat → Prop} {n b o : Nat} {k : Kind} {x : El k} (hc : ∀ (j : Nat) (f : F), (cellsOf k x)[j]? = some f → ∃ u, w.cell? ⟨b, o + j, none⟩ = some u ∧ CellW w M n u f) (off sz : Nat) :
    ∀ (j : Nat) (c : C), ((cut (cellsOf k x) off sz).map C.f)[j]? = some c → ∃ u, w.cell? ⟨b, o + off + j, none⟩ = some u ∧ CW w M h loc u c := by
  intro j c hj
  rw [List.getElem?_map, Option.map_eq_some_iff] at hj
  obtain ⟨f, hf, rfl⟩ := hj
  obtain ⟨hlt, hf⟩ := (getElem?_cut _ _ _ _ _).1 hf
  obtain ⟨u, hu, hr⟩ := hc (off + j) f hf
  exact ⟨u, by rw [Nat.add_assoc]; exact hu, by unfold CW; exact ⟨n, hr⟩⟩

theorem idx_row {us : Array Value} {b i j sz : Nat} {T : TypeId} (hb : w.heap[b]? = some (.cells us T (0, 0))) : w.cell? ⟨b, i * sz + j, none⟩ = us[i * sz + j]? := cell_heap hb

theorem ld_ok (ht : TabOK P cfg) (hw : HW G U h loc w) {T : TypeId} {p : Value} {x v : V} (hp : VW w (Mut U h loc) h loc p x) (hl : ld cfg h T x = some v) :
    ∃ u, (Instr.loadAt T p).run P w = .ok u w ∧ VW w (Mut U h loc) h loc u v := by
  unfold ld at hl
  rw [Option.bind_eq_some_iff] at hl
  obtain ⟨i, hT, hl⟩ := hl
  split at hl
  · rename_i id off
    rw [Option.bind_eq_some_iff] at hl
    obtain ⟨o, ho, hl⟩ := hl
    split at hl
    · rename_i cs
      cases hle : Nat.ble (off + i.size) cs.length with
      | false => simp [hle] at hl
      | true =>
        simp only [hle, cond_true] at hl
        have hle := Nat.le_of_ble_eq_true hle
        unfold VW CW at hp
        obtain ⟨_, b, c, hloc, rfl⟩ := hp
        obtain ⟨b', c', us, T', hloc', hb, hc⟩ := hw.box ho
        rw [hloc] at hloc'
        obtain ⟨rfl, rfl⟩ : b = b' ∧ c = c' := by simpa using hloc'
        refine load_cells ht hT (cut_length _ _ _ hle) (fun j c hj => ?_) hl
        obtain ⟨hlt, hj⟩ := (getElem?_cut _ _ _ _ _).1 hj
        obtain ⟨u, hu, hr⟩ := hc.get hj
        exact ⟨u, by rw [cell_heap hb]; simpa using hu, hr⟩
    · simp at hl
  · rename_i k y off
    cases hle : Nat.ble (off + i.size) (szOf k) with
    | false => simp [hle] at hl
    | true =>
      simp only [hle, cond_true] at hl
      have hle := Nat.le_of_ble_eq_true hle
      unfold VW CW at hp
      obtain ⟨n, hn⟩ := hp
      cases n with
      | zero => exact hn.elim
      | succ n =>
        obtain ⟨b, o, rfl, _, _, hc⟩ := hn
        exact load_cells ht hT (by rw [List.length_map]; exact cut_length _ _ _ (by rw [cells_length]; exact hle)) (elem_cells hc off i.size) hl
  · rename_i id k j off
    rw [Option.bind_eq_some_iff] at hl
    obtain ⟨o, ho, hl⟩ := hl
    split at hl
    · rename_i wr k' l
      by_cases e : k' = k
      · subst e
        simp only [dite_true] at hl
        rw [Option.bind_eq_some_iff] at hl
        obtain ⟨y, hy, hl⟩ := hl
        cases hle : Nat.ble (off + i.size) (szOf k') with
        | false => simp [hle] at hl
        | true =>
          simp only [hle, cond_true] at hl
          have hle := Nat.le_of_ble_eq_true hle
          unfold VW CW at hp
          obtain ⟨_, _, b, c, hloc, rfl⟩ := hp
          obtain ⟨us, T', hb, hsz, hlen, hcells⟩ := (hw.obj id _ ho).2 b c hloc
          refine load_cells ht hT (by rw [List.length_map]; exact cut_length _ _ _ (by rw [cells_length]; exact hle)) (fun q c hq => ?_) hl
          rw [List.getElem?_map, Option.map_eq_some_iff] at hq
          obtain ⟨f, hf, rfl⟩ := hq
          obtain ⟨hlt, hf⟩ := (getElem?_cut _ _ _ _ _).1 hf
          obtain ⟨u, n, hu, hr⟩ := hcells j y (off + q) f hy hf
          exact ⟨u, by rw [cell_heap hb, show j * szOf k' + off + q = j * szOf k' + (off + q) by omega]; exact hu, by unfold CW; exact ⟨n, hr⟩⟩
      · simp [e] at hl
    · simp at hl
  · simp at hl

theorem fieldOf_ok (ht : TabOK P cfg) {T : TypeId} {j o : Nat} {u : TypeId} (hf : fieldOf cfg T j = some (o, u)) : ∃ fs f, P.underlying T = some (.struct fs) ∧ fs[j]? = some f ∧ f.offset = o ∧ f.type = u := by
  unfold fieldOf at hf
  rw [Option.bind_eq_some_iff] at hf
  obtain ⟨i, hT, hf⟩ := hf
  split at hf
  · rename_i fs hd
    rw [Option.map_eq_some_iff] at hf
    obtain ⟨f, hf, he⟩ := hf
    simp at he
    exact ⟨fs, f, by rw [ht.und T i hT, hd], hf, he.1, he.2⟩
  · simp at hf

theorem run_fieldAt (ht : TabOK P cfg) {T : TypeId} {i : TI} {j b o : Nat} {fs : Array Field} {f : Field} (hu : P.underlying T = some (.struct fs)) (hf : fs[j]? = some f) (hT : cfg.tb f.type = some i) (hs : 0 < i.size) :
    (Instr.fieldAt T (.pointer (some ⟨b, o, none⟩)) j).run P w = .ok (.pointer (some ⟨b, o + f.offset, none⟩)) w := by
  obtain ⟨x, h1, _, h3, _⟩ := ht.inf _ i hT
  have h0 : x.size ≠ 0 := by omega
  simp [Instr.fieldAt, Sem.run_bind, run_underlying hu, hf, Instr.sureAddr, fieldPlace, sizeOf, typeInfo, h1, h0, Addr.add_mid]

theorem fldA_ok (ht : TabOK P cfg) {M : Nat → Prop} {T : TypeId} {j : Nat} {p : Value} {x v : V} (hp : VW w M h loc p x) (hl : fldA cfg T x j = some v) :
    ∃ u, (Instr.fieldAt T p j).run P w = .ok u w ∧ VW w M h loc u v := by
  unfold fldA at hl
  rw [Option.bind_eq_some_iff] at hl
  obtain ⟨q, hq, hl⟩ := hl
  obtain ⟨o, ft⟩ := q
  obtain ⟨fs, f, hu, hf, rfl, rfl⟩ := fieldOf_ok ht hq
  rw [Option.bind_eq_some_iff] at hl
  obtain ⟨i, hT, hl⟩ := hl
  cases hb : Nat.blt 0 i.size with
  | false => simp [hb] at hl
  | true =>
    have hs : 0 < i.size := by simp [Nat.blt] at hb; omega
    simp only [hb, cond_true] at hl
    split at hl
    · simp at hl; subst hl
      unfold VW CW at hp
      obtain ⟨h1, b, c, hloc, rfl⟩ := hp
      refine ⟨_, run_fieldAt ht hu hf hT hs, ?_⟩
      unfold VW CW
      exact ⟨h1, b, c, hloc, rfl⟩
    · simp at hl; subst hl
      unfold VW CW at hp
      obtain ⟨n, hn⟩ := hp
      cases n with
      | zero => exact hn.elim
      | succ n =>
        obtain ⟨b, o, rfl, hr⟩ := hn
        refine ⟨_, run_fieldAt ht hu hf hT hs, ?_⟩
        unfold VW CW
        exact ⟨n + 1, b, o, by rw [Nat.add_assoc], hr⟩
    · simp at hl; subst hl
      unfold VW CW at hp
      obtain ⟨h1, h2, b, c, hloc, rfl⟩ := hp
      refine ⟨_, run_fieldAt ht hu hf hT hs, ?_⟩
      unfold VW CW
      exact ⟨h1, h2, b, c, hloc, by rw [Nat.add_assoc]⟩
    · simp at hl

/-- Some of the cells, taken for one value. -/
theorem part_cells (ht : TabOK P cfg) {M : Nat → Prop} {T : TypeId} {i : TI} (hT : cfg.tb T = some i) {us : List Value} {cs : List C} {o : Nat} {v : V} (hc : CWs w M h loc us cs) (ho : o + i.size ≤ cs.length)
    (hv : valOf (isAggD i.desc) (cut cs o i.size) = some v) : ∃ u, (Go.part T us.toArray o).run P w = .ok u w ∧ VW w M h loc u v := by
  have h1 := ht.und T i hT
  cases hd : isAggD i.desc with
  | true =>
    simp [valOf, hd] at hv
    subst hv
    have h2 : (isAgg T).run P w = .ok true w := by
      unfold isAgg
      rw [Sem.run_bind, run_underlying h1 w]
      cases hdesc : i.desc <;> simp_all [isAggD]
    obtain ⟨x, hx, _, hs, _⟩ := ht.inf T i hT
    refine ⟨.agg (us.toArray.extract o (o + i.size)), by simp [Go.part, Sem.run_bind, h2, sizeOf, typeInfo, hx, hs], ?_⟩
    unfold VW
    refine ⟨cut us o i.size, ?_, hc.cut o i.size⟩
    simp [cut, List.extract_eq_take_drop, Nat.add_sub_cancel_left]
  | false =>
    simp only [valOf, hd, cond_false] at hv
    have hl := cut_length cs o i.size ho
    match hcc : cut cs o i.size, hv, hl with
    | [c], hv, hl =>
      simp at hv
      subst hv
      have hcut := hc.cut o i.size
      rw [hcc] at hcut
      match huu : cut us o i.size, hcut with
      | [u], hcut =>
        unfold CWs at hcut
        have : (cut us o i.size)[0]? = some u := by rw [huu]; rfl
        have := (getElem?_cut _ _ _ _ _).1 this
        exact ⟨u, run_part_one ht hT hd (by simpa using this.2), by unfold VW; exact hcut.1⟩

theorem fld_ok (ht : TabOK P cfg) {M : Nat → Prop} {T : TypeId} {j : Nat} {p : Value} {x v : V} (hp : VW w M h loc p x) (hl : fld cfg T x j = some v) :
    ∃ u, (Instr.field T p j).run P w = .ok u w ∧ VW w M h loc u v := by
  unfold fld at hl
  rw [Option.bind_eq_some_iff] at hl
  obtain ⟨q, hq, hl⟩ := hl
  obtain ⟨o, ft⟩ := q
  obtain ⟨fs, f, hu, hf, rfl, rfl⟩ := fieldOf_ok ht hq
  rw [Option.bind_eq_some_iff] at hl
  obtain ⟨i, hT, hl⟩ := hl
  split at hl
  · rename_i cs
    cases hle : Nat.ble (f.offset + i.size) cs.length with
    | false => simp [hle] at hl
    | true =>
      simp only [hle, cond_true] at hl
      unfold VW at hp
      obtain ⟨us, rfl, hc⟩ := hp
      obtain ⟨u, h1, h2⟩ := part_cells ht hT hc (Nat.le_of_ble_eq_true hle) hl
      exact ⟨u, by simp [Instr.field, Sem.run_bind, run_underlying hu, hf, asAgg, h1], h2⟩
  · simp at hl

theorem kindT_ok (ht : TabOK P cfg) {T : TypeId} {k : Kind} (hk : kindT cfg T = some k) : ∃ e, P.underlying T = some (.slice e) ∧ ∃ x z, P.info? e = some x ∧ x.zero = some z ∧ x.size = szOf k ∧ 0 < x.bytes ∧ x.bytes ≤ 1000 := by
  unfold kindT at hk
  rw [Option.bind_eq_some_iff] at hk
  obtain ⟨i, hT, hk⟩ := hk
  split at hk
  · rename_i e hd
    obtain ⟨x, z, h1, h2, h3, h4, h5, h6⟩ := ht.kin T i k e hT hd hk
    exact ⟨e, by rw [ht.und T i hT, hd], x, z, h1, h2, h3, h5, h6⟩
  · simp at hk

theorem idx_some {α : Type} {l : List α} {i : Int} {x : α} (hi : idx l i = some x) : 0 ≤ i ∧ i < l.length ∧ l[i.toNat]? = some x := by
  unfold idx at hi
  split at hi
  · rename_i h0
    have : i.toNat < l.length := by
      rcases Nat.lt_or_ge i.toNat l.length with h | h
      · exact h
      · rw [List.getElem?_eq_none h] at hi; cases hi
    exact ⟨h0, by omega, hi⟩
  · simp at hi

theorem run_indexAt {T e : TypeId} {i : Int} {n c b o : Nat} {x : TypeInfo} (hu : P.underlying T = some (.slice e)) (hx : P.info? e = some x) (h0 : 0 ≤ i) (h1 : i < n) :
    (Instr.indexAt T (.slice (some ⟨b, o, none⟩) n c) (.int .i64 i)).run P w = .ok (.pointer (some ⟨b, o + i.toNat * x.size, none⟩)) w := by
  simp [Instr.indexAt, Sem.run_bind, run_underlying hu, asIntOf, h0, h1, sizeOf, typeInfo, hx, Addr.add_mid]

theorem ixA_ok (ht : TabOK P cfg) (hw : HW G U h loc w) {T : TypeId} {p q : Value} {x i v : V} (hp : VW w (Mut U h loc) h loc p x) (hq : VW w (Mut U h loc) h loc q i) (hl : ixA cfg h T x i = some v) :
    ∃ u, (Instr.indexAt T p q).run P w = .ok u w ∧ VW w (Mut U h loc) h loc u v := by
  unfold ixA at hl
  rw [Option.bind_eq_some_iff] at hl
  obtain ⟨k, hk, hl⟩ := hl
  obtain ⟨e, hu, ti, _, hti, _, hsz, _, _⟩ := kindT_ok ht hk
  rw [Option.bind_eq_some_iff] at hl
  obtain ⟨n, hn, hl⟩ := hl
  obtain ⟨rfl, rfl⟩ := asI_ok hq hn
  split at hl
  · rename_i t k' l
    by_cases hkk : k' = k
    · subst hkk
      simp only [decide_true, cond_true] at hl
      rw [Option.bind_eq_some_iff] at hl
      obtain ⟨y, hy, hl⟩ := hl
      simp at hl; subst hl
      obtain ⟨h0, h1, hget⟩ := idx_some hy
      unfold VW CW at hp
      obtain ⟨m, hm⟩ := hp
      cases m with
      | zero => exact hm.elim
      | succ m =>
        obtain ⟨A, c, rfl, _, _, hcells⟩ := hm
        obtain ⟨b, o, rfl, hr⟩ := hcells _ _ hget
        refine ⟨_, run_indexAt hu hti h0 h1, ?_⟩
        rw [hsz]
        unfold VW CW
        exact ⟨m + 1, b, o + n.toNat * szOf k', by simp, hr⟩
    · simp [hkk] at hl
  · rename_i id k'
    by_cases hkk : k' = k
    · subst hkk
      simp only [decide_true, cond_true] at hl
      rw [Option.bind_eq_some_iff] at hl
      obtain ⟨ob, hob, hl⟩ := hl
      split at hl
      · rename_i k2 l
        by_cases hk2 : k2 = k'
        · subst hk2
          simp only [decide_true, cond_true] at hl
          rw [Option.bind_eq_some_iff] at hl
          obtain ⟨y, hy, hl⟩ := hl
          simp at hl; subst hl
          obtain ⟨h0, h1, hget⟩ := idx_some hy
          unfold VW CW at hp
          obtain ⟨_, hs, hrow⟩ := hp
          obtain ⟨_, hown, hti2⟩ := hrow _ _ _ hob
          cases hloc : loc id with
          | none =>
            have := (hw.obj id _ hob).1 hloc rfl
            subst this
            simp at h1
            omega
          | some bc =>
            obtain ⟨b, c⟩ := bc
            obtain rfl := hown b c hloc
            refine ⟨_, run_indexAt hu hti h0 h1, ?_⟩
            rw [hsz]
            unfold VW CW
            exact ⟨hs, fun wr' k'' l' he => by rw [hob] at he; cases he; rfl, b, c, hloc, by simp⟩
        · simp [hk2] at hl
      · simp at hl
    · simp [hkk] at hl
  · simp at hl

theorem byteAt_some {s : ByteArray} {i : Int} {b : Int} (h : byteAt s i = some b) : 0 ≤ i ∧ ∃ c : UInt8, s[i.toNat]? = some c ∧ b = c.toNat := by
  unfold byteAt at h
  split at h
  · rename_i h0
    rw [Option.map_eq_some_iff] at h
    obtain ⟨c, hc, rfl⟩ := h
    exact ⟨h0, c, hc, rfl⟩
  · simp at h

theorem ix_ok (ht : TabOK P cfg) {M : Nat → Prop} {T : TypeId} {p q : Value} {x i v : V} (hp : VW w M h loc p x) (hq : VW w M h loc q i) (hl : ix cfg T x i = some v) :
    ∃ u, (Instr.index T p q).run P w = .ok u w ∧ VW w M h loc u v := by
  unfold ix at hl
  rw [Option.bind_eq_some_iff] at hl
  obtain ⟨t, hT, hl⟩ := hl
  have h1 := ht.und T t hT
  split at hl
  · rename_i s hd
    rw [Option.bind_eq_some_iff] at hl
    obtain ⟨n, hn, hl⟩ := hl
    obtain ⟨rfl, rfl⟩ := asI_ok hq hn
    rw [Option.bind_eq_some_iff] at hl
    obtain ⟨b, hb, hl⟩ := hl
    simp at hl; subst hl
    obtain rfl := hp.sc
    obtain ⟨h0, c, hc, rfl⟩ := byteAt_some hb
    rw [hd] at h1
    exact ⟨_, by simp [Instr.index, Sem.run_bind, asIntOf, run_underlying h1, h0, hc], VW.mk_int _ _⟩
  · simp at hl

theorem bnds_some {n : Nat} {lo hi : Option Int} {a b : Nat} (hb : bnds n lo hi = some (a, b)) :
    0 ≤ lo.getD 0 ∧ lo.getD 0 ≤ hi.getD n ∧ hi.getD n ≤ n ∧ a = (lo.getD 0).toNat ∧ b = (hi.getD n).toNat := by
  unfold bnds at hb
  simp only at hb
  split at hb
  · rename_i h0
    simp at hb
    exact ⟨h0.1, h0.2.1, h0.2.2, hb.1.symm, hb.2.symm⟩
  · simp at hb

theorem optI_ok {o : Option Operand} {r : Option Int} (hf : FrW w (Mut U h loc) h loc a fr) (ho : optI fr o = some r) : o.map a.eval = r.map (Value.int .i64) := by
  cases o with
  | none => simp [optI] at ho; subst ho; rfl
  | some x =>
    simp only [optI, Option.bind_eq_some_iff] at ho
    obtain ⟨v, hv, n, hn, hr⟩ := ho
    simp at hr
    subst hr
    have := asI_ok (ev_ok hf hv) hn
    simp [this.1]

theorem run_sliceBounds {isS : Bool} {n c : Nat} {lo hi : Option Int} {p q : Nat} (hb : bnds n lo hi = some (p, q)) (hc : n ≤ c) :
    (Instr.sliceBounds isS n c (lo.map (Value.int .i64)) (hi.map (Value.int .i64)) none).run P w = .ok (p, q, c) w := by
  obtain ⟨h1, h2, h3, rfl, rfl⟩ := bnds_some hb
  cases lo with
  | none =>
    cases hi with
    | none => simp [Instr.sliceBounds, Sem.run_bind]
    | some y =>
      simp at h2 h3
      have h4 : y ≤ (c : Int) := by omega
      simp [Instr.sliceBounds, Sem.run_bind, Instr.sliceBound, asIntOf, h2, h4]
  | some x =>
    cases hi with
    | none =>
      simp at h1 h2
      simp [Instr.sliceBounds, Sem.run_bind, Instr.sliceBound, asIntOf, h1, h2]
    | some y =>
      simp at h1 h2 h3
      have h4 : y ≤ (c : Int) := by omega
      have h5 : 0 ≤ y := by omega
      have h6 : (max y 0 : Int) = y := by omega
      have h7 : x ≤ max y 0 := by omega
      simp [Instr.sliceBounds, Sem.run_bind, Instr.sliceBound, asIntOf, h1, h2, h4, h5, h6]

/-- A frozen slice, cut. -/
theorem CellW.cutSl {M : Nat → Prop} {n : Nat} {A : Option Addr} {len c : Nat} {t : Bool} {k : Kind} {l : List (El k)} {p q : Nat} (hc : CellW w M (n + 1) (.slice A len c) (.sl t k l)) (h1 : p ≤ q) (h2 : q ≤ l.length) :
    CellW w M (n + 1) (.slice (if c = p then A else A.map (·.add (p * szOf k))) (q - p) (c - p)) (.sl false k ((l.take q).drop p)) := by
  obtain ⟨A', c', he, hlen, _, hcells⟩ := hc
  simp at he
  obtain ⟨rfl, rfl, rfl⟩ := he
  have hl : ((l.take q).drop p).length = q - p := by simp; omega
  refine ⟨_, _, by rw [hl], by rw [hl]; omega, fun h => by simp at h, fun i x hx => ?_⟩
  have hi : i < ((l.take q).drop p).length := by
    rcases Nat.lt_or_ge i ((l.take q).drop p).length with h | h
    · exact h
    · rw [List.getElem?_eq_none h] at hx; cases hx
  have hx' : l[p + i]? = some x := by
    rw [List.getElem?_drop, List.getElem?_take] at hx
    split at hx
    · exact hx
    · cases hx
  obtain ⟨b, o, rfl, hm, hb, hr⟩ := hcells _ _ hx'
  have hne : c ≠ p := by omega
  refine ⟨b, o + p * szOf k, by simp [hne, Addr.add_mid], hm, hb, fun j f hf => ?_⟩
  obtain ⟨u, hu, hr⟩ := hr j f hf
  exact ⟨u, by rw [show o + p * szOf k + i * szOf k + j = o + (p + i) * szOf k + j by rw [Nat.add_mul]; omega]; exact hu, hr⟩

theorem slc_ok (ht : TabOK P cfg) {T : TypeId} {p : Value} {x v : V} {lo hi mx : Option Operand} (hf : FrW w (Mut U h loc) h loc a fr) (hp : VW w (Mut U h loc) h loc p x) (hl : slc cfg fr T x lo hi mx = some v) :
    ∃ u, (Instr.sliceAt T p (lo.map a.eval) (hi.map a.eval) (mx.map a.eval)).run P w = .ok u w ∧ VW w (Mut U h loc) h loc u v := by
  unfold slc at hl
  rw [Option.bind_eq_some_iff] at hl
  obtain ⟨t, hT, hl⟩ := hl
  have h1 := ht.und T t hT
  rw [Option.bind_eq_some_iff] at hl
  obtain ⟨l', hlo, hl⟩ := hl
  rw [Option.bind_eq_some_iff] at hl
  obtain ⟨h', hhi, hl⟩ := hl
  rw [optI_ok hf hlo, optI_ok hf hhi]
  split at hl
  · rename_i s hd
    rw [hd] at h1
    rw [Option.bind_eq_some_iff] at hl
    obtain ⟨⟨pa, pb⟩, hb, hl⟩ := hl
    simp at hl; subst hl
    obtain rfl := hp.sc
    refine ⟨.string (s.extract pa pb), ?_, VW.mk_str _⟩
    have := run_sliceBounds (P := P) (w := w) (isS := false) hb (Nat.le_refl s.size)
    simp [Instr.sliceAt, Instr.slice, Sem.run_bind, run_underlying h1, this]
  · rename_i e t' k y hd
    rw [hd] at h1
    by_cases hk : t.kind = some k
    · simp only [hk, decide_true, cond_true, Option.bind_eq_some_iff] at hl
      obtain ⟨⟨pa, pb⟩, hb, hl⟩ := hl
      simp at hl; subst hl
      obtain ⟨e', hu', ti, _, hti, _, hsz, _, _⟩ := kindT_ok ht (k := k) (T := T) (by simp [kindT, hT, hd, hk])
      have he : e' = e := by rw [h1] at hu'; simp at hu'; exact hu'.symm
      subst he
      unfold VW CW at hp
      obtain ⟨m, hm⟩ := hp
      cases m with
      | zero => exact hm.elim
      | succ m =>
        have hm' := hm
        obtain ⟨A, c, rfl, hlen, _, _⟩ := hm
        have := run_sliceBounds (P := P) (w := w) (isS := true) hb hlen
        obtain ⟨g1, g2, g3, rfl, rfl⟩ := bnds_some hb
        refine ⟨_, by simp [Instr.sliceAt, Instr.slice, Sem.run_bind, run_underlying h1, this, sizeOf, typeInfo, hti, hsz]; rfl, ?_⟩
        unfold VW CW
        exact ⟨m + 1, hm'.cutSl (by omega) (by omega)⟩
    · simp [hk] at hl
  · rename_i e t' k y hd
    rw [hd] at h1
    split at hl
    · by_cases hk : t.kind = some k
      · simp [hk] at hl
        subst hl
        obtain ⟨e', hu', ti, _, hti, _, hsz, _, _⟩ := kindT_ok ht (k := k) (T := T) (by simp [kindT, hT, hd, hk])
        have he : e' = e := by rw [h1] at hu'; simp at hu'; exact hu'.symm
        subst he
        unfold VW CW at hp
        obtain ⟨m, hm⟩ := hp
        cases m with
        | zero => exact hm.elim
        | succ m =>
          obtain ⟨A, c, rfl, hlen, _, _⟩ := hm
          refine ⟨.slice A 0 0, by simp [Instr.sliceAt, Instr.slice, Instr.sliceBounds, Instr.sliceBound, asIntOf, Act.eval, Sem.run_bind, run_underlying h1, sizeOf, typeInfo, hti], ?_⟩
          unfold VW CW
          exact ⟨m + 1, A, 0, rfl, by simp, fun _ => rfl, fun i x hx => by simp at hx⟩
      · simp [hk] at hl
    · simp at hl
  · simp at hl

theorem un_ok {M : Nat → Prop} {op : UnOp} {p : Value} {x v : V} (hp : VW w M h loc p x) (hl : un op x = some v) : ∃ u, (Op.unary op p).run P w = .ok u w ∧ VW w M h loc u v := by
  unfold un at hl
  split at hl
  · simp at hl; subst hl
    obtain rfl := hp.sc
    exact ⟨_, by simp [Op.unary], VW.mk_bool _⟩
  · simp at hl; subst hl
    obtain rfl := hp.sc
    exact ⟨_, by simp [Op.unary, Op.intArith], VW.mk_int _ _⟩
  · simp at hl

theorem part_ok {M : Nat → Prop} {p : Value} {x v : V} {j : Nat} (hp : VW w M h loc p x) (hl : Go.Vm.part x j = some v) : ∃ u, (Instr.extract p j).run P w = .ok u w ∧ VW w M h loc u v := by
  unfold Go.Vm.part at hl
  split at hl
  · rename_i vs
    unfold VW at hp
    obtain ⟨us, rfl, hs⟩ := hp
    have : ∀ (us : List Value) (vs : List V) (j : Nat), VWs w M h loc us vs → vs[j]? = some v → ∃ u, us[j]? = some u ∧ VW w M h loc u v := by
      intro us
      induction us with
      | nil => intro vs j hv hj; cases vs with | nil => simp at hj | cons _ _ => unfold VWs at hv; exact hv.elim
      | cons u us ih =>
        intro vs j hv hj
        cases vs with
        | nil => simp at hj
        | cons x vs =>
          unfold VWs at hv
          cases j with
          | zero => simp at hj; subst hj; exact ⟨u, rfl, hv.1⟩
          | succ j => simp at hj; obtain ⟨y, h1, h2⟩ := ih vs j hv.2 hj; exact ⟨y, by simpa using h1, h2⟩
    obtain ⟨u, hu, hr⟩ := this us vs j hs hl
    exact ⟨u, by simp [Instr.extract, hu], hr⟩
  · simp at hl

end
end Go.Vm

namespace Go.Vm
variable {G : Gl}
set_option linter.unusedVariables false
set_option linter.unusedSimpArgs false

theorem putAt_length {α : Type} : ∀ (l : List α) (o : Nat) (ys : List α), (putAt l o ys).length = l.length
  | l, o, [] => by cases l <;> cases o <;> rfl
  | [], o, y :: ys => by cases o <;> rfl
  | x :: l, 0, y :: ys => by simp [putAt, putAt_length l 0 ys]
  | x :: l, o + 1, y :: ys => by simp [putAt, putAt_length l o (y :: ys)]

theorem putAt_get {α : Type} : ∀ (l : List α) (o : Nat) (ys : List α) (j : Nat), (putAt l o ys)[j]? = if o ≤ j ∧ j < o + ys.length ∧ j < l.length then ys[j - o]? else l[j]?
  | l, o, [], j => by
    rw [if_neg (by simp; omega)]
    cases l <;> cases o <;> rfl
  | [], o, y :: ys, j => by
    rw [if_neg (by simp)]
    cases o <;> rfl
  | x :: l, 0, y :: ys, 0 => by simp [putAt]
  | x :: l, 0, y :: ys, j + 1 => by
    simp only [putAt, List.getElem?_cons_succ]
    rw [putAt_get l 0 ys j]
    by_cases hc : j < ys.length ∧ j < l.length
    · rw [if_pos ⟨by omega, by omega, hc.2⟩, if_pos ⟨by omega, by simp; omega, by simp; omega⟩]
      simp
    · rw [if_neg (by omega), if_neg (by simp; omega)]
  | x :: l, o + 1, y :: ys, 0 => by simp [putAt]
  | x :: l, o + 1, y :: ys, j + 1 => by
    simp only [putAt, List.getElem?_cons_succ]
    rw [putAt_get l o (y :: ys) j]
    by_cases hc : o ≤ j ∧ j < o + (y :: ys).length ∧ j < l.length
    · rw [if_pos hc, if_pos ⟨by omega, by omega, by simp; omega⟩]
      congr 1
      omega
    · rw [if_neg hc, if_neg (by simp at hc ⊢; omega)]

theorem putAt_set {α : Type} : ∀ (l : List α) (o : Nat) (y : α) (ys : List α), o < l.length → putAt l o (y :: ys) = putAt (l.set o y) (o + 1) ys := by
  intro l o y ys ho
  apply List.ext_getElem?
  intro j
  rw [putAt_get, putAt_get]
  by_cases h1 : j = o
  · subst h1
    rw [if_pos ⟨by omega, by simp, ho⟩, if_neg (by omega)]
    simp [ho]
  · rw [List.getElem?_set_ne (by omega)]
    by_cases h2 : o + 1 ≤ j ∧ j < o + 1 + ys.length ∧ j < (l.set o y).length
    · rw [if_pos h2, if_pos ⟨by omega, by simp; omega, by simpa using h2.2.2⟩]
      rw [show j - o = (j - (o + 1)) + 1 by omega]
      simp
    · rw [if_neg h2]
      by_cases h3 : o ≤ j ∧ j < o + (y :: ys).length ∧ j < l.length
      · exfalso
        apply h2
        refine ⟨by omega, ?_, by simpa using h3.2.2⟩
        have := h3.2.1
        simp at this
        omega
      · rw [if_neg h3]

section
variable {P : Program} {cfg : Cfg} {U : Nat → Prop} {h h' : Hp} {loc loc' : Loc} {w w' : World} {a : Act} {fr : Fr}

theorem CWs.putAt {M : Nat → Prop} {us vs : List Value} {cs ds : List C} {o : Nat} (h1 : CWs w M h loc us cs) (h2 : CWs w M h loc vs ds) : CWs w M h loc (Go.Vm.putAt us o vs) (Go.Vm.putAt cs o ds) := by
  have e1 := h1.length
  have e2 := h2.length
  refine CWs.mk (by rw [putAt_length, putAt_length, e1]) (fun j c hj => ?_)
  rw [putAt_get] at hj ⊢
  rw [e1, e2]
  split
  · rename_i hc
    rw [if_pos hc] at hj
    exact h2.get hj
  · rename_i hc
    rw [if_neg hc] at hj
    exact h1.get hj

theorem CW.one {M : Nat → Prop} {v : Value} {c : C} (hc : CW w M h loc v c) (hd : defC c = true) : v.oneCell' = true := by
  cases c with
  | f x => unfold CW at hc; obtain ⟨n, hn⟩ := hc; exact hn.one
  | bx id off => unfold CW at hc; obtain ⟨_, b, c, _, rfl⟩ := hc; rfl
  | row id k => unfold CW at hc; obtain ⟨⟨A, n, c, rfl⟩, _⟩ := hc; rfl
  | re id k i off => unfold CW at hc; obtain ⟨_, _, b, c, _, rfl⟩ := hc; rfl
  | fn f caps => unfold CW at hc; obtain ⟨us, rfl, _⟩ := hc; rfl
  | hole => simp [defC] at hd
  | und => simp [defC] at hd

theorem cells_one {v : Value} (h1 : v.oneCell' = true) : v.cells = #[v] := by cases v <;> first | rfl | simp [Value.oneCell'] at h1

/-- A value's cells. -/
theorem cellsV_ok {M : Nat → Prop} {u : Value} {v : V} {cs : List C} (hv : VW w M h loc u v) (hc : cellsV v = some cs) : CWs w M h loc u.cells.toList cs := by
  cases v with
  | c x =>
    simp only [cellsV] at hc
    cases hd : defC x with
    | false => simp [hd] at hc
    | true =>
      simp [hd] at hc
      subst hc
      unfold VW at hv
      rw [cells_one (hv.one hd)]
      unfold CWs CWs
      exact ⟨hv, trivial⟩
  | agg ds =>
    simp [cellsV] at hc
    subst hc
    unfold VW at hv
    obtain ⟨us, rfl, hs⟩ := hv
    exact hs
  | tup vs => simp [cellsV] at hc

theorem CWs.ones {M : Nat → Prop} : ∀ {us : List Value} {cs : List C}, CWs w M h loc us cs → cs.all defC = true → ∀ u ∈ us, u.oneCell' = true
  | [], [], _, _ => fun u hu => by simp at hu
  | [], _ :: _, hc, _ => by unfold CWs at hc; exact hc.elim
  | _ :: _, [], hc, _ => by unfold CWs at hc; exact hc.elim
  | u :: us, c :: cs, hc, hd => by
    unfold CWs at hc
    simp only [List.all_cons, Bool.and_eq_true] at hd
    intro x hx
    rcases List.mem_cons.1 hx with rfl | hx
    · exact hc.1.one hd.1
    · exact CWs.ones hc.2 hd.2 x hx

/-- What is stored: the value's shape. -/
theorem cellsV_shape {M : Nat → Prop} {u : Value} {v : V} {cs : List C} (hv : VW w M h loc u v) (hc : cellsV v = some cs) : (∃ us, u = .agg us) ∨ u.oneCell' = true := by
  cases v with
  | c x =>
    simp only [cellsV] at hc
    cases hd : defC x with
    | false => simp [hd] at hc
    | true => unfold VW at hv; exact .inr (hv.one hd)
  | agg ds => unfold VW at hv; obtain ⟨us, rfl, _⟩ := hv; exact .inl ⟨_, rfl⟩
  | tup vs => simp [cellsV] at hc

theorem zm_ok {M : Nat → Prop} {v : Value} {c : C} (hz : zm v c = true) : CW w M h loc v c := by
  unfold zm at hz
  split at hz <;> first
    | (unfold CW; trivial)
    | (simp at hz; done)
    | skip
  · simp at hz; subst hz; unfold CW; exact ⟨0, rfl, rfl⟩
  · simp at hz; obtain ⟨rfl, rfl⟩ := hz; unfold CW; exact ⟨0, rfl, rfl⟩
  · rename_i s t
    have : s = t := by
      obtain ⟨⟨s⟩⟩ := s
      obtain ⟨⟨t⟩⟩ := t
      simp at hz
      rw [hz]
    subst this
    unfold CW; exact ⟨0, rfl, rfl⟩
  · unfold CW; exact ⟨1, none, 0, rfl, by simp, fun _ => rfl, fun i x hx => by simp at hx⟩
  · unfold CW; exact ⟨0, rfl, rfl⟩

theorem zms_ok {M : Nat → Prop} : ∀ {us : List Value} {cs : List C}, zms us cs = true → CWs w M h loc us cs
  | [], [], _ => by unfold CWs; trivial
  | [], _ :: _, hz => by simp [zms] at hz
  | _ :: _, [], hz => by simp [zms] at hz
  | u :: us, c :: cs, hz => by
    simp only [zms, Bool.and_eq_true] at hz
    unfold CWs
    exact ⟨zm_ok hz.1, zms_ok hz.2⟩

/-! ### New boxes -/

theorem nbox_ok (hw : HW G U h loc w) {d : Nat} {cs : List C} {us : Array Value} {T : TypeId} {v : V} {e : Eff} (hc : CWs w (Mut U h loc) h loc us.toList cs) (hn : nbox d cs = some (v, e)) (he : applyE h e = some h') :
    ∃ loc', PostV G U h loc w h' v (.pointer (some ⟨w.heap.size, 0, none⟩)) (w.alloc (.cells us T)) loc' := by
  simp [nbox] at hn
  obtain ⟨rfl, rfl⟩ := hn
  simp only [applyE] at he
  split at he
  · rename_i h0
    simp at he
    subst he
    have ex := Ext.alloc hw h0 (.box cs) (.cells us T) 0
    refine ⟨_, hw.alloc h0 (.box cs) (.cells us T) 0 ?_, ex, ?_⟩
    · exact ⟨w.heap.size, 0, us, T, lput_self _ _ _, heap_alloc_new w _, CWs.ext ex cs hc⟩
    · unfold VW CW
      exact ⟨⟨cs, hput_self _ _ _⟩, w.heap.size, 0, lput_self _ _ _, rfl⟩
  · simp at he

/-! ### Stores -/

theorem setCells_heap (b : Nat) : ∀ (vs : List Value) (o : Nat) (w : World) (us : Array Value) (T : TypeId) (f : Nat × Nat), w.heap[b]? = some (.cells us T f) → o + vs.length ≤ us.size →
    (w.setCells b o vs).heap[b]? = some (.cells (putAt us.toList o vs).toArray T f)
  | [], o, w, us, T, f, hb, _ => by
    rw [World.setCells, hb]
    congr 2
    apply Array.ext'
    apply List.ext_getElem?
    intro j
    rw [putAt_get, if_neg (by simp; omega)]
  | v :: vs, o, w, us, T, f, hb, hl => by
    simp at hl
    have h1 : (w.setCell ⟨b, o, none⟩ v).heap[b]? = some (.cells (us.setIfInBounds o v) T f) := by
      simp only [World.setCell, Array.getElem?_modify, if_true, hb, Option.map_some]
      rfl
    rw [World.setCells, setCells_heap b vs (o + 1) _ _ T f h1 (by simp; omega)]
    congr 3
    rw [putAt_set _ _ _ _ (by simp; omega)]
    simp

theorem setCells_other (b : Nat) : ∀ (vs : List Value) (o : Nat) (w : World) (k : Nat), k ≠ b → (w.setCells b o vs).heap[k]? = w.heap[k]?
  | [], o, w, k, hk => rfl
  | v :: vs, o, w, k, hk => by
    rw [World.setCells, setCells_other b vs (o + 1) _ k hk]
    exact Go.RowKit.Below.heap_setCell w ⟨b, o, none⟩ v k hk

theorem setCells_size (b : Nat) : ∀ (vs : List Value) (o : Nat) (w : World), (w.setCells b o vs).heap.size = w.heap.size
  | [], o, w => rfl
  | v :: vs, o, w => by rw [World.setCells, setCells_size b vs (o + 1) _]; simp [World.setCell]

theorem setCells_rest (b : Nat) : ∀ (vs : List Value) (o : Nat) (w : World), (w.setCells b o vs).os = w.os ∧ (w.setCells b o vs).tape = w.tape ∧ (w.setCells b o vs).output = w.output
  | [], o, w => ⟨rfl, rfl, rfl⟩
  | v :: vs, o, w => by rw [World.setCells]; exact setCells_rest b vs (o + 1) _

/-- Cells behind 'ofCells': a slice is no longer told to be tight. -/
def Wk : List F → List F → Prop
  | [], [] => True
  | f :: fs, g :: gs => (g = f ∨ ∃ t k l, f = .sl t k l ∧ g = .sl false k l) ∧ Wk fs gs
  | _, _ => False

theorem Wk.get : ∀ {fs gs : List F} {j : Nat} {g : F}, Wk fs gs → gs[j]? = some g → ∃ f, fs[j]? = some f ∧ (g = f ∨ ∃ t k l, f = .sl t k l ∧ g = .sl false k l)
  | [], [], j, g, _, hj => by simp at hj
  | [], _ :: _, _, _, hw, _ => by unfold Wk at hw; exact hw.elim
  | _ :: _, [], _, _, hw, _ => by unfold Wk at hw; exact hw.elim
  | f :: fs, g :: gs, 0, x, hw, hj => by unfold Wk at hw; simp at hj; subst hj; exact ⟨f, rfl, hw.1⟩
  | f :: fs, g :: gs, j + 1, x, hw, hj => by unfold Wk at hw; simp at hj; obtain ⟨y, h1, h2⟩ := Wk.get hw.2 hj; exact ⟨y, by simpa using h1, h2⟩

theorem Wk.cell {M : Nat → Prop} {n : Nat} {u : Value} {f g : F} (hc : CellW w M n u f) (hw : g = f ∨ ∃ t k l, f = .sl t k l ∧ g = .sl false k l) : CellW w M n u g := by
  rcases hw with rfl | ⟨t, k, l, rfl, rfl⟩
  · exact hc
  · exact hc.loose

theorem ofCells_wk {k : Kind} {fs : List F} {z : El k} (hz : ofCells k fs = some z) : Wk fs (cellsOf k z) := by
  unfold ofCells at hz
  split at hz
  case h_2 =>
    split at hz
    · rename_i n h0
      simp only [Option.some.injEq] at hz
      subst hz
      have : (UInt8.ofNat n.toNat).toNat = n.toNat := by simp; omega
      simp only [cellsOf, Wk, this]
      refine ⟨.inl ?_, trivial⟩
      congr 2
      omega
    · simp at hz
  all_goals first
    | (simp only [Option.some.injEq] at hz; subst hz; simp [cellsOf, Wk, Term.cells, Policy.cells, Letter.cells, Note.cells, Host.cells, CallD.cells, Talk.cells, Deed.cells, WorldD.cells]; done)
    | (simp at hz; done)

theorem lmapM_frz : ∀ {vs : List C} {fs : List F}, lmapM frzC vs = some fs → vs = fs.map C.f
  | [], fs, hf => by simp [lmapM] at hf; subst hf; rfl
  | c :: vs, fs, hf => by
    simp only [lmapM, Option.bind_eq_some_iff] at hf
    obtain ⟨f, h1, gs, h2, h3⟩ := hf
    simp at h3
    subst h3
    cases c <;> simp [frzC] at h1
    subst h1
    simp [lmapM_frz h2]

theorem all_def : ∀ (fs : List F), (fs.map C.f).all defC = true
  | [] => rfl
  | f :: fs => by simp [defC]

theorem apart_mul {i j sz q off n : Nat} (hij : i ≠ j) (hq : q < sz) (ho : off + n ≤ sz) : ¬ (j * sz + off ≤ i * sz + q ∧ i * sz + q < j * sz + off + n) := by
  rcases Nat.lt_or_gt_of_ne hij with h | h
  · have := Nat.mul_le_mul_right sz (show i + 1 ≤ j from h)
    rw [Nat.add_mul] at this
    omega
  · have := Nat.mul_le_mul_right sz (show j + 1 ≤ i from h)
    rw [Nat.add_mul] at this
    omega

theorem run_storeAt (ht : TabOK P cfg) {T : TypeId} {i : TI} (hT : cfg.tb T = some i) {b o : Nat} {u : Value} {us : Array Value} {T' : TypeId} (hb : w.heap[b]? = some (.cells us T' (0, 0))) (hsz : u.cells.size = i.size) (ho : o + i.size ≤ us.size)
    (h1 : ∀ x ∈ u.cells.toList, x.oneCell' = true) : (Instr.storeAt T (.pointer (some ⟨b, o, none⟩)) u).run P w = .ok () (w.setCells b o u.cells.toList) := by
  have hc : ∀ j, j < u.cells.toList.length → (w.cell? ⟨b, o + 0 + j, none⟩).isSome = true := fun j hj => by
    rw [cell_heap hb]
    have : o + 0 + j < us.size := by simp at hj; omega
    rw [Array.getElem?_eq_getElem this]; rfl
  have hr := run_storeCells_cells (P := P) b o u.cells.toList 0 w hc (fun j hj => frozen_heap hb) h1
  obtain ⟨x, hx, _, hs, _⟩ := ht.inf T i hT
  simp only [Nat.add_zero] at hr
  simp [Instr.storeAt, Instr.sureAddr, storeVar, Sem.run_bind, sizeOf, typeInfo, hx, hs, hsz, hr]

theorem st_ok (ht : TabOK P cfg) (hw : HW G U h loc w) {T : TypeId} {p u : Value} {x v : V} {h2 : Hp} (hp : VW w (Mut U h loc) h loc p x) (hu : VW w (Mut U h loc) h loc u v) (hs : st cfg h T x v = some h2) :
    ∃ w', (Instr.storeAt T p u).run P w = .ok () w' ∧ HW G U h2 loc w' ∧ Ext U h loc w h2 loc w' := by
  unfold st at hs
  rw [Option.bind_eq_some_iff] at hs
  obtain ⟨i, hT, hs⟩ := hs
  rw [Option.bind_eq_some_iff] at hs
  obtain ⟨vs, hvs, hs⟩ := hs
  have hcs := cellsV_ok hu hvs
  cases hsz : Nat.beq vs.length i.size with
  | false => simp [hsz] at hs
  | true =>
    simp only [hsz, cond_true] at hs
    have hsz := Nat.eq_of_beq_eq_true hsz
    have hlen := hcs.length
    simp at hlen
    split at hs
    · rename_i id off
      rw [Option.bind_eq_some_iff] at hs
      obtain ⟨ob, hob, hs⟩ := hs
      split at hs
      · rename_i cs
        cases hle : Nat.ble (off + i.size) cs.length && vs.all defC with
        | false => simp [hle] at hs
        | true =>
          simp only [hle, cond_true, Option.some.injEq] at hs
          subst hs
          simp only [Bool.and_eq_true] at hle
          have hle1 := Nat.le_of_ble_eq_true hle.1
          unfold VW CW at hp
          obtain ⟨_, b, c, hloc, rfl⟩ := hp
          obtain ⟨b', c', us, T', hloc', hb, hc⟩ := hw.box hob
          rw [hloc] at hloc'
          obtain ⟨rfl, rfl⟩ : b = b' ∧ c = c' := by simpa using hloc'
          have hcl := hc.length
          simp at hcl
          have hrun := run_storeAt (P := P) (w := w) ht hT (o := off) (u := u) hb (by omega) (by omega) (hcs.ones hle.2)
          have hrest := setCells_rest b u.cells.toList off w
          have hh := setCells_heap b u.cells.toList off w us T' (0, 0) hb (by simp; omega)
          have ex : Ext U h loc w (hput h id (.box (Go.Vm.putAt cs off vs))) loc (w.setCells b off u.cells.toList) :=
            Ext.turn hob rfl (by simp [Turns]) hloc (setCells_size _ _ _ _) (setCells_other b _ _ w) (hw.sep id _ b c hob rfl hloc).1 hrest.1 hrest.2.1 hrest.2.2
          refine ⟨_, hrun, ?_, ex⟩
          refine hw.turn hob rfl (by simp [Turns]) hloc (setCells_size _ _ _ _) (setCells_other b _ _ w) hrest.1 hrest.2.1 hrest.2.2 ?_
          exact ⟨b, c, _, T', hloc, hh, by simpa using (hc.putAt hcs).ext ex⟩
      · simp at hs
    · rename_i id k j off
      rw [Option.bind_eq_some_iff] at hs
      obtain ⟨ob, hob, hs⟩ := hs
      split at hs
      · rename_i k' l
        by_cases e : k' = k
        · subst e
          simp only [dite_true] at hs
          rw [Option.bind_eq_some_iff] at hs
          obtain ⟨y, hy, hs⟩ := hs
          cases hle : Nat.ble (off + i.size) (szOf k') with
          | false => simp [hle] at hs
          | true =>
            simp only [hle, cond_true] at hs
            rw [Option.bind_eq_some_iff] at hs
            obtain ⟨fs, hfs, hs⟩ := hs
            rw [Option.bind_eq_some_iff] at hs
            obtain ⟨z, hz, hs⟩ := hs
            simp only [Option.some.injEq] at hs
            subst hs
            have hle1 := Nat.le_of_ble_eq_true hle
            unfold VW CW at hp
            obtain ⟨_, _, b, c, hloc, rfl⟩ := hp
            obtain ⟨us, T', hb, hus, hlc, hcells⟩ := (hw.obj id _ hob).2 b c hloc
            have hvf := lmapM_frz hfs
            subst hvf
            have hj : j < l.length := by
              rcases Nat.lt_or_ge j l.length with h | h
              · exact h
              · rw [List.getElem?_eq_none h] at hy; cases hy
            have hjc : j * szOf k' + szOf k' ≤ us.size := by
              rw [hus]
              have := Nat.mul_le_mul_right (szOf k') (show j + 1 ≤ c by omega)
              rw [Nat.add_mul] at this
              omega
            have hrun := run_storeAt (P := P) (w := w) ht hT (o := j * szOf k' + off) (u := u) hb (by omega) (by omega) (hcs.ones (all_def fs))
            have hrest := setCells_rest b u.cells.toList (j * szOf k' + off) w
            have hh := setCells_heap b u.cells.toList (j * szOf k' + off) w us T' (0, 0) hb (by simp; omega)
            have htn : Turns loc id (.row true k' l) (.row true k' (l.set j z)) := ⟨rfl, rfl, by simp, fun hn => by rw [hloc] at hn; cases hn⟩
            have ex : Ext U h loc w (hput h id (.row true k' (l.set j z))) loc (w.setCells b (j * szOf k' + off) u.cells.toList) :=
              Ext.turn hob rfl htn hloc (setCells_size _ _ _ _) (setCells_other b _ _ w) (hw.sep id _ b c hob rfl hloc).1 hrest.1 hrest.2.1 hrest.2.2
            refine ⟨_, hrun, ?_, ex⟩
            refine hw.turn hob rfl htn hloc (setCells_size _ _ _ _) (setCells_other b _ _ w) hrest.1 hrest.2.1 hrest.2.2 ?_
            refine ⟨fun hn => (by rw [hloc] at hn; cases hn), fun b' c' hl' => ?_⟩
            rw [hloc] at hl'
            obtain ⟨rfl, rfl⟩ : b = b' ∧ c = c' := by simpa using hl'
            refine ⟨_, T', hh, by simp [putAt_length, hus], by simpa using hlc, fun r x q f hx hf => ?_⟩
            have hq : q < szOf k' := by
              rw [← cells_length k' x]
              exact (List.getElem?_eq_some_iff.1 hf).1
            rw [show (Array.mk (Go.Vm.putAt us.toList (j * szOf k' + off) u.cells.toList))[r * szOf k' + q]? = (Go.Vm.putAt us.toList (j * szOf k' + off) u.cells.toList)[r * szOf k' + q]? from List.getElem?_toArray]
            rw [putAt_get]
            have hfl : (fs.map C.f).length = fs.length := List.length_map _
            by_cases hij : r = j
            · subst hij
              rw [List.getElem?_set_self hj] at hx
              obtain rfl := Option.some.inj hx
              obtain ⟨f0, hf0, hwk⟩ := (ofCells_wk hz).get hf
              rw [putAt_get] at hf0
              by_cases hin : off ≤ q ∧ q < off + fs.length ∧ q < (cellsOf k' y).length
              · rw [if_pos hin] at hf0
                rw [if_pos ⟨by omega, by simp; omega, by simp; omega⟩]
                obtain ⟨v0, hv0, hr0⟩ := hcs.get (j := q - off) (c := .f f0) (by rw [List.getElem?_map, hf0]; rfl)
                unfold CW at hr0
                obtain ⟨n, hn⟩ := hr0
                exact ⟨v0, n, by rw [show r * szOf k' + q - (r * szOf k' + off) = q - off by omega]; exact hv0, Wk.cell (hn.keeps ex.keeps) hwk⟩
              · rw [if_neg hin] at hf0
                have hq2 : q < (cellsOf k' y).length := by rw [cells_length]; exact hq
                rw [if_neg (by simp; omega)]
                obtain ⟨v0, n, hv0, hr0⟩ := hcells r y q f0 hy hf0
                exact ⟨v0, n, by simpa using hv0, Wk.cell (hr0.keeps ex.keeps) hwk⟩
            · rw [List.getElem?_set_ne (by omega)] at hx
              obtain ⟨v0, n, hv0, hr0⟩ := hcells r x q f hx hf
              have hap := apart_mul (n := i.size) hij hq hle1
              rw [if_neg (by simp; omega)]
              exact ⟨v0, n, by simpa using hv0, hr0.keeps ex.keeps⟩
        · simp [e] at hs
      · simp at hs
    · simp at hs

end
end Go.Vm

namespace Go.Vm
variable {G : Gl}
set_option linter.unusedVariables false
set_option linter.unusedSimpArgs false

/-- A row's cells, one behind the other. -/
def flat (k : Kind) (l : List (El k)) : List F := l.flatMap (cellsOf k)

theorem flat_length (k : Kind) : ∀ (l : List (El k)), (flat k l).length = l.length * szOf k
  | [] => by simp [flat]
  | x :: l => by
    have := flat_length k l
    simp only [flat] at this
    simp [flat, this, cells_length, Nat.add_mul]
    omega

theorem flat_append (k : Kind) (l r : List (El k)) : flat k (l ++ r) = flat k l ++ flat k r := by simp [flat]

theorem flat_get (k : Kind) : ∀ (l : List (El k)) (i j : Nat) (x : El k) (f : F), l[i]? = some x → (cellsOf k x)[j]? = some f → (flat k l)[i * szOf k + j]? = some f
  | [], i, j, x, f, hx, _ => by simp at hx
  | y :: l, 0, j, x, f, hx, hf => by
    simp at hx; subst hx
    have hj := (List.getElem?_eq_some_iff.1 hf).1
    simp only [flat, List.flatMap_cons, Nat.zero_mul, Nat.zero_add]
    rw [List.getElem?_append_left hj]
    exact hf
  | y :: l, i + 1, j, x, f, hx, hf => by
    simp only [flat, List.flatMap_cons]
    rw [List.getElem?_append_right (by rw [cells_length, Nat.add_mul]; omega), cells_length, Nat.add_mul]
    rw [show i * szOf k + 1 * szOf k + j - szOf k = i * szOf k + j by omega]
    exact flat_get k l i j x f (by simpa using hx) hf

theorem flat_split (k : Kind) : ∀ (l : List (El k)) (p : Nat) (f : F), (flat k l)[p]? = some f → ∃ i j x, p = i * szOf k + j ∧ l[i]? = some x ∧ (cellsOf k x)[j]? = some f
  | [], p, f, hp => by simp [flat] at hp
  | y :: l, p, f, hp => by
    simp only [flat, List.flatMap_cons] at hp
    rcases Nat.lt_or_ge p (cellsOf k y).length with h | h
    · rw [List.getElem?_append_left h] at hp
      exact ⟨0, p, y, by omega, rfl, hp⟩
    · rw [List.getElem?_append_right h] at hp
      obtain ⟨i, j, x, h1, h2, h3⟩ := flat_split k l _ f hp
      rw [cells_length] at h h1
      exact ⟨i + 1, j, x, by rw [Nat.add_mul]; omega, by simpa using h2, h3⟩

section
variable {P : Program} {cfg : Cfg} {U : Nat → Prop} {h h' : Hp} {loc loc' : Loc} {w w' : World} {a : Act} {fr : Fr}

theorem CWs.append {M : Nat → Prop} : ∀ {us vs : List Value} {cs ds : List C}, CWs w M h loc us cs → CWs w M h loc vs ds → CWs w M h loc (us ++ vs) (cs ++ ds)
  | [], vs, [], ds, _, h2 => h2
  | [], _, _ :: _, _, h1, _ => by unfold CWs at h1; exact h1.elim
  | _ :: _, _, [], _, h1, _ => by unfold CWs at h1; exact h1.elim
  | u :: us, vs, c :: cs, ds, h1, h2 => by unfold CWs at h1; simp only [List.cons_append]; unfold CWs; exact ⟨h1.1, CWs.append h1.2 h2⟩

/-- A frozen slice's cells: the values that lie there. -/
theorem sl_cells {M : Nat → Prop} {n : Nat} {v : Value} {t : Bool} {k : Kind} {l : List (El k)} (hc : CellW w M n v (.sl t k l)) :
    ∃ A c us, v = .slice A l.length c ∧ l.length ≤ c ∧ (t = true → c = l.length) ∧ CWs w M h loc us ((flat k l).map C.f) ∧ (l ≠ [] → ∃ b o, A = some ⟨b, o, none⟩ ∧ ¬ M b ∧ b < w.heap.size ∧ ∀ (p : Nat) (u : Value), us[p]? = some u → w.cell? ⟨b, o + p, none⟩ = some u) ∧ (l = [] → us = []) := by
  cases n with
  | zero => exact hc.elim
  | succ n =>
    obtain ⟨A, c, rfl, h2, h3, h4⟩ := hc
    cases l with
    | nil => exact ⟨A, c, [], rfl, h2, h3, by simp [flat]; unfold CWs; trivial, fun hn => absurd rfl hn, fun _ => rfl⟩
    | cons x l =>
      obtain ⟨b, o, rfl, hm, hb, _⟩ := h4 0 x rfl
      obtain ⟨us, h5, h6⟩ := cells_choice (w := w) (h := h) (loc := loc) (M := M) (b := b) ((flat k (x :: l)).map C.f) o (fun p c hp => by
        rw [List.getElem?_map, Option.map_eq_some_iff] at hp
        obtain ⟨f, hf, rfl⟩ := hp
        obtain ⟨i, j, y, rfl, hy, hfj⟩ := flat_split k _ _ _ hf
        obtain ⟨b', o', he, _, _, hcell⟩ := h4 i y hy
        simp at he
        obtain ⟨rfl, rfl⟩ := he
        obtain ⟨u, hu, hr⟩ := hcell j f hfj
        exact ⟨u, by rw [show o + (i * szOf k + j) = o + i * szOf k + j by omega]; exact hu, by unfold CW; exact ⟨n, hr⟩⟩)
      exact ⟨_, c, us, rfl, h2, h3, h5, fun _ => ⟨b, o, rfl, hm, hb, h6⟩, fun hn => by cases hn⟩

/-- A row of its own: its cells. -/
theorem row_cells {M : Nat → Prop} {us : Array Value} {k : Kind} {l : List (El k)} (hl : l.length * szOf k ≤ us.size)
    (hc : ∀ i x j f, l[i]? = some x → (cellsOf k x)[j]? = some f → ∃ u n, us[i * szOf k + j]? = some u ∧ CellW w M n u f) : CWs w M h loc (us.toList.take (l.length * szOf k)) ((flat k l).map C.f) := by
  refine CWs.mk (by simp [flat_length]; omega) (fun p c hp => ?_)
  have hlt := (List.getElem?_eq_some_iff.1 hp).1
  rw [List.getElem?_map, Option.map_eq_some_iff] at hp
  obtain ⟨f, hf, rfl⟩ := hp
  obtain ⟨i, j, y, rfl, hy, hfj⟩ := flat_split k _ _ _ hf
  obtain ⟨u, n, hu, hr⟩ := hc i y j f hy hfj
  refine ⟨u, ?_, by unfold CW; exact ⟨n, hr⟩⟩
  simp [flat_length] at hlt
  rw [List.getElem?_take, if_pos hlt]
  simpa using hu

/-- The other way. -/
theorem cells_row {M : Nat → Prop} {us : List Value} {vs : Array Value} {k : Kind} {l : List (El k)} (hc : CWs w M h loc us ((flat k l).map C.f)) (hv : ∀ (p : Nat) (u : Value), us[p]? = some u → vs[p]? = some u) :
    ∀ i x j f, l[i]? = some x → (cellsOf k x)[j]? = some f → ∃ u n, vs[i * szOf k + j]? = some u ∧ CellW w M n u f := by
  intro i x j f hx hf
  obtain ⟨u, hu, hr⟩ := hc.get (j := i * szOf k + j) (c := .f f) (by rw [List.getElem?_map, flat_get k l i j x f hx hf]; rfl)
  unfold CW at hr
  obtain ⟨n, hn⟩ := hr
  exact ⟨u, n, hv _ _ hu, hn⟩

theorem CWs.ones_f {M : Nat → Prop} {us : List Value} {fs : List F} (hc : CWs w M h loc us (fs.map C.f)) : ∀ u ∈ us, u.oneCell' = true := hc.ones (all_def fs)

/-- What is appended. -/
theorem items_ok (ht : TabOK P cfg) (hw : HW G U h loc w) {T2 e : TypeId} {i2 : TI} {k : Kind} {x : V} {v : Value} {xs : List (El k)} (hT : cfg.tb T2 = some i2) (hs : seqT i2.desc x = true) (hx : VW w (Mut U h loc) h loc v x) (hi : items h k x = some xs) :
    ∃ news, CWs w (Mut U h loc) h loc news ((flat k xs).map C.f) ∧ Src P (szOf k) T2 v xs.length news w := by
  have h1 := ht.und T2 i2 hT
  unfold items at hi
  split at hi
  · rename_i t k' l
    by_cases hk : k' = k
    · subst hk
      simp at hi; subst hi
      unfold VW CW at hx
      obtain ⟨n, hn⟩ := hx
      obtain ⟨A, c, us, rfl, _, _, hcs, hne, he⟩ := sl_cells (h := h) (loc := loc) hn
      obtain ⟨e', hd⟩ : ∃ e', i2.desc = .slice e' := by
        unfold seqT at hs; split at hs <;> simp_all
      have hu : P.underlying T2 = some (.slice e') := by rw [h1, hd]
      refine ⟨us, hcs, ?_⟩
      by_cases hl : l = []
      · subst hl
        have := he rfl
        subst this
        cases A with
        | none => exact Src.ofNil w hu c
        | some a => exact Src.ofSlice w hu a 0 c [] (by simp) (fun j u hu => by simp at hu) (fun u hu => by simp at hu)
      · obtain ⟨b, o, rfl, _, _, hcell⟩ := hne hl
        refine Src.ofSlice w hu ⟨b, o, none⟩ l.length c us (by rw [hcs.length, List.length_map, flat_length]) (fun j u hu => by rw [Addr.add_mid]; exact hcell j u hu) hcs.ones_f
    · simp [hk] at hi
  · rename_i id k'
    rw [Option.bind_eq_some_iff] at hi
    obtain ⟨ob, hob, hi⟩ := hi
    split at hi
    · rename_i wr k2 l
      by_cases hk : k2 = k
      · subst hk
        simp at hi; subst hi
        unfold VW CW at hx
        obtain ⟨_, _, hrow⟩ := hx
        obtain ⟨rfl, hown, htight⟩ := hrow _ _ _ hob
        obtain ⟨e', hd⟩ : ∃ e', i2.desc = .slice e' := by
          unfold seqT at hs; split at hs <;> simp_all
        have hu : P.underlying T2 = some (.slice e') := by rw [h1, hd]
        cases hloc : loc id with
        | none =>
          obtain ⟨n, hn⟩ := htight hloc
          obtain ⟨A, c, us, rfl, _, _, hcs, hne, he⟩ := sl_cells (h := h) (loc := loc) hn
          refine ⟨us, hcs, ?_⟩
          by_cases hl : l = []
          · subst hl
            have := he rfl
            subst this
            cases A with
            | none => exact Src.ofNil w hu c
            | some a => exact Src.ofSlice w hu a 0 c [] (by simp) (fun j u hu => by simp at hu) (fun u hu => by simp at hu)
          · obtain ⟨b, o, rfl, _, _, hcell⟩ := hne hl
            refine Src.ofSlice w hu ⟨b, o, none⟩ l.length c us (by rw [hcs.length, List.length_map, flat_length]) (fun j u hu => by rw [Addr.add_mid]; exact hcell j u hu) hcs.ones_f
        | some bc =>
          obtain ⟨b, c⟩ := bc
          obtain rfl := hown b c hloc
          obtain ⟨us, T', hb, hus, hlc, hcells⟩ := (hw.obj id _ hob).2 b c hloc
          have hle : l.length * szOf k2 ≤ us.size := by rw [hus]; exact Nat.mul_le_mul_right _ hlc
          have hcs := row_cells (h := h) (loc := loc) hle hcells
          refine ⟨_, hcs, ?_⟩
          refine Src.ofSlice w hu ⟨b, 0, none⟩ l.length c _ (by rw [hcs.length, List.length_map, flat_length]) (fun j u hu => ?_) hcs.ones_f
          rw [Addr.add_mid, cell_heap hb]
          rw [List.getElem?_take] at hu
          split at hu
          · simpa using hu
          · cases hu
      · simp [hk] at hi
    · simp at hi
  · rename_i s
    by_cases hk : Kind.byte = k
    · subst hk
      simp at hi; subst hi
      obtain rfl := hx.sc
      obtain hd : i2.desc = .string := by
        unfold seqT at hs; split at hs <;> simp_all
      have hu : P.underlying T2 = some .string := by rw [h1, hd]
      have := Src.ofString (P := P) w hu s
      refine ⟨byteCells s, ?_, by simpa [szOf] using this⟩
      refine CWs.mk (by rw [byteCells_length, List.length_map, flat_length]; simp [szOf]) (fun p c hp => ?_)
      rw [List.getElem?_map, Option.map_eq_some_iff] at hp
      obtain ⟨f, hf, rfl⟩ := hp
      obtain ⟨i, j, y, rfl, hy, hfj⟩ := flat_split _ _ _ _ hf
      have hj : j = 0 := by
        have := (List.getElem?_eq_some_iff.1 hfj).1
        rw [cells_length] at this
        simp [szOf] at this
        exact this
      subst hj
      simp [cellsOf] at hfj
      subst hfj
      refine ⟨.int .u8 y.toNat, ?_, by unfold CW; exact ⟨0, rfl, rfl⟩⟩
      unfold byteCells
      simp only [szOf, Nat.mul_one, Nat.add_zero, List.getElem?_map]
      rw [hy]
      rfl
    · simp [hk] at hi
  · simp at hi

end
end Go.Vm

namespace Go.Vm
variable {G : Gl}
set_option linter.unusedVariables false
set_option linter.unusedSimpArgs false

section
variable {P : Program} {cfg : Cfg} {U : Nat → Prop} {h h' : Hp} {loc loc' : Loc} {w w' : World} {a : Act} {fr : Fr}

theorem zms_length : ∀ {vs : List Value} {cs : List C}, zms vs cs = true → vs.length = cs.length
  | [], [], _ => rfl
  | [], _ :: _, h => by simp [zms] at h
  | _ :: _, [], h => by simp [zms] at h
  | v :: vs, c :: cs, h => by
    simp only [zms, Bool.and_eq_true] at h
    simp [zms_length h.2]

/-- A kind's table entry: its element type. -/
theorem kindT_zero (ht : TabOK P cfg) {T : TypeId} {k : Kind} (hk : kindT cfg T = some k) : ∃ e, P.underlying T = some (.slice e) ∧ ∃ x z, P.info? e = some x ∧ x.zero = some z ∧ x.size = szOf k ∧ 0 < x.bytes ∧ x.bytes ≤ 1000 ∧ z.cells.size = szOf k ∧
    zms z.cells.toList ((cellsOf k (zeroEl k)).map fun f => match f with | .sl _ q _ => .f (.sl true q []) | f => .f f) = true := by
  unfold kindT at hk
  rw [Option.bind_eq_some_iff] at hk
  obtain ⟨i, hT, hk⟩ := hk
  split at hk
  · rename_i e hd
    obtain ⟨x, z, h1, h2, h3, h4, h5, h6⟩ := ht.kin T i k e hT hd hk
    refine ⟨e, by rw [ht.und T i hT, hd], x, z, h1, h2, h3, h5, h6, ?_, h4⟩
    have := zms_length h4
    simp [cells_length] at this
    exact this
  · simp at hk

theorem heap_drew (w : World) : w.drew.heap = w.heap := rfl

/-- The new row. -/
theorem newRow_ok (hw : HW G U h loc w) {d c : Nat} {k : Kind} {l : List (El k)} {us : List Value} {zs : Array Value} {T : TypeId} (h0 : h (.own d) = none) (hcs : CWs w (Mut U h loc) h loc us ((flat k l).map C.f)) (hc : l.length ≤ c)
    (hz : zs.size = (c - l.length) * szOf k) :
    ∃ loc', PostV G U h loc w (hput h (.own d) (.row true k l)) (.c (.row (.own d) k)) (.slice (some ⟨w.heap.size, 0, none⟩) l.length c) (w.drew.alloc (.cells (us.toArray ++ zs) T)) loc' := by
  have hw1 : HW G U h loc w.drew := hw.drew
  have ex1 : Ext U h loc w h loc w.drew := Ext.drew U h loc w
  have ex := Ext.alloc hw1 h0 (.row true k l) (.cells (us.toArray ++ zs) T) c
  have hlen := hcs.length
  rw [List.length_map, flat_length] at hlen
  refine ⟨_, hw1.alloc h0 (.row true k l) (.cells (us.toArray ++ zs) T) c ?_, ex1.trans ex, ?_⟩
  · refine ⟨fun hn => (by rw [lput_self] at hn; cases hn), fun b c' hl => ?_⟩
    rw [lput_self] at hl
    simp only [Option.some.injEq, Prod.mk.injEq] at hl
    obtain ⟨rfl, rfl⟩ := hl
    refine ⟨us.toArray ++ zs, T, heap_alloc_new w.drew _, ?_, hc, ?_⟩
    · rw [Array.size_append, hz, List.size_toArray, hlen, ← Nat.add_mul]
      congr 1
      omega
    · refine cells_row ((hcs.ext ex1).ext ex) (fun p u hp => ?_)
      have hlt := (List.getElem?_eq_some_iff.1 hp).1
      rw [Array.getElem?_append_left (by simpa using hlt)]
      simpa using hp
  · unfold VW CW
    refine ⟨⟨_, _, _, rfl⟩, by rw [hput_self]; rfl, fun wr k' l' hl => ?_⟩
    rw [hput_self] at hl
    simp only [Option.some.injEq, Obj.row.injEq] at hl
    obtain ⟨rfl, rfl, hl⟩ := hl
    obtain rfl := eq_of_heq hl
    refine ⟨rfl, fun b c' hl => ?_, fun hn => ?_⟩
    · rw [lput_self] at hl
      simp only [Option.some.injEq, Prod.mk.injEq] at hl
      obtain ⟨rfl, rfl⟩ := hl
      rfl
    · rw [lput_self] at hn; cases hn

/-- A row grows: a new one. -/
theorem grow_ok (ht : TabOK P cfg) (hw : HW G U h loc w) {T T2 ty : TypeId} {d : Nat} {k : Kind} (hk : kindT cfg T = some k) {base : Option Addr} {sCap : Nat} {l xs : List (El k)} {olds news : List Value} {x : Value} (h0 : h (.own d) = none)
    (hold : (Builtin.firstCells (szOf k) l.length (.slice base l.length sCap)).run P w.drew = .ok olds.toArray w.drew) (ho : CWs w (Mut U h loc) h loc olds ((flat k l).map C.f))
    (hs : Src P (szOf k) T2 x xs.length news w) (hn : CWs w (Mut U h loc) h loc news ((flat k xs).map C.f)) (hg : sCap < l.length + xs.length) (hm : l.length + xs.length ≤ appMax) :
    ∃ u w' loc', (Builtin.append_ #[T, T2] ty #[.slice base l.length sCap, x]).run P w = .ok u w' ∧ PostV G U h loc w (hput h (.own d) (.row true k (l ++ xs))) (.c (.row (.own d) k)) u w' loc' := by
  obtain ⟨e, hu, i, z, hi, hz, hsz, hb1, hb2, hzs, _⟩ := kindT_zero ht hk
  rw [← hsz] at hs hold
  have hmm : l.length + xs.length ≤ 1000000000 := hm
  have hbytes : (l.length + xs.length) * i.bytes ≤ 140737488355328 := Nat.le_trans (Nat.mul_le_mul hmm hb2) (by omega)
  have hr := run_append_grow_src w T T2 ty e i z hu hi hz base l.length sCap olds hold x xs.length news hs hg (by omega) (growslice_fits hg hbytes)
  have hge := grownCap_ge w (l.length + xs.length) sCap e
  obtain ⟨loc', hp⟩ := newRow_ok (d := d) (l := l ++ xs) (us := olds ++ news) (zs := Builtin.zeroCells z.cells (grownCap w (l.length + xs.length) sCap e - (l.length + xs.length))) (T := e) (c := grownCap w (l.length + xs.length) sCap e)
    hw h0 (by rw [flat_append, List.map_append]; exact ho.append hn) (by simpa using hge) (by rw [size_zeroCells, hzs]; simp)
  rw [List.length_append] at hp
  exact ⟨_, _, loc', hr, hp⟩

/-- A row that has room: the new name takes its place. -/
theorem Ext.move {id id2 : Id} {wr : Bool} {k : Kind} {l : List (El k)} {o' : Obj} {b c : Nat} (hw : HW G U h loc w) (ho : h id = some (.row wr k l)) (hb : loc id = some (b, c)) (hn : h id2 = none)
    (hs : w'.heap.size = w.heap.size) (hsame : ∀ k, k ≠ b → w'.heap[k]? = w.heap[k]?) (h1 : w'.os = w.os) (h2 : w'.tape = w.tape) (h3 : w'.output = w.output) :
    Ext U h loc w (hput (hput h id .dead) id2 o') (lput loc id2 (some (b, c))) w' := by
  have hne : id ≠ id2 := by rintro rfl; rw [hn] at ho; cases ho
  have hU := (hw.sep id _ b c ho rfl hb).1
  refine ⟨h1, h2, h3, ⟨by omega, fun q hq hm => ?_⟩, ?_, ?_, fun q hq hu => hsame q (fun e => hU (e ▸ hu))⟩
  · have hqb : q ≠ b := by rintro rfl; exact hm (.inr ⟨id, _, c, ho, rfl, hb⟩)
    refine ⟨?_, hsame q hqb⟩
    rintro (hu | ⟨i, o2, c2, ho2, hl2, hb2⟩)
    · exact hm (.inl hu)
    · by_cases e : i = id2
      · subst e
        rw [lput_self] at hb2
        simp at hb2
        exact hqb hb2.1.symm
      · rw [hput_ne _ _ e] at ho2
        rw [lput_ne _ _ e] at hb2
        by_cases e2 : i = id
        · subst e2
          rw [hput_self] at ho2
          obtain rfl := Option.some.inj ho2
          simp [Obj.live] at hl2
        · rw [hput_ne _ _ e2] at ho2
          exact hm (.inr ⟨i, o2, c2, ho2, hl2, hb2⟩)
  · intro i o1 h4
    have : i ≠ id2 := by rintro rfl; rw [hn] at h4; cases h4
    rw [lput_ne _ _ this]
  · intro i o1 h4
    have e : i ≠ id2 := by rintro rfl; rw [hn] at h4; cases h4
    rw [hput_ne _ _ e]
    by_cases e2 : i = id
    · subst e2
      rw [ho] at h4
      obtain rfl := Option.some.inj h4
      exact ⟨.dead, hput_self _ _ _, by simp [Turns]⟩
    · exact ⟨o1, by rw [hput_ne _ _ e2]; exact h4, Turns.refl _ _ _⟩

theorem HW.move {id id2 : Id} {wr : Bool} {k : Kind} {l : List (El k)} {o' : Obj} {b c : Nat} (hw : HW G U h loc w) (ho : h id = some (.row wr k l)) (hb : loc id = some (b, c)) (hn : h id2 = none)
    (hs : w'.heap.size = w.heap.size) (hsame : ∀ k, k ≠ b → w'.heap[k]? = w.heap[k]?) (h1 : w'.os = w.os) (h2 : w'.tape = w.tape) (h3 : w'.output = w.output)
    (hO : OW w' (Mut U (hput (hput h id .dead) id2 o') (lput loc id2 (some (b, c)))) (hput (hput h id .dead) id2 o') (lput loc id2 (some (b, c))) id2 o') :
    HW G U (hput (hput h id .dead) id2 o') (lput loc id2 (some (b, c))) w' := by
  have hne : id ≠ id2 := by rintro rfl; rw [hn] at ho; cases ho
  have f : ∀ i oo, hput (hput h id .dead) id2 o' i = some oo → oo.live = true → i ≠ id2 → i ≠ id ∧ h i = some oo := by
    intro i oo h7 h8 h9
    rw [hput_ne _ _ h9] at h7
    by_cases e : i = id
    · subst e
      rw [hput_self] at h7
      obtain rfl := Option.some.inj h7
      simp [Obj.live] at h8
    · rw [hput_ne _ _ e] at h7; exact ⟨e, h7⟩
  refine hw.step (Ext.move hw ho hb hn hs hsame h1 h2 h3) ?_ ?_ ?_
  · intro i o2 h4
    by_cases e : i = id2
    · subst e
      rw [hput_self] at h4
      obtain rfl := Option.some.inj h4
      exact .inr hO
    · by_cases e2 : i = id
      · subst e2
        rw [hput_ne _ _ e, hput_self] at h4
        obtain rfl := Option.some.inj h4
        exact .inr trivial
      · rw [hput_ne _ _ e, hput_ne _ _ e2] at h4
        refine .inl ⟨h4, fun _ => lput_ne _ _ e, fun b2 c2 hl2 hb2 => hsame b2 ?_⟩
        rintro rfl
        exact e2 (hw.inj i id o2 _ b2 c2 c h4 hl2 ho rfl hb2 hb)
  · intro i1 i2 o1 o2 b0 c1 c2 h5 l1 h6 l2 b1 b2
    by_cases e1 : i1 = id2 <;> by_cases e2 : i2 = id2
    · rw [e1, e2]
    · exfalso
      obtain ⟨e3, h7⟩ := f i2 o2 h6 l2 e2
      subst e1
      rw [lput_self] at b1
      rw [lput_ne _ _ e2] at b2
      simp at b1
      obtain ⟨rfl, rfl⟩ := b1
      exact e3 (hw.inj i2 id o2 _ b c2 c h7 l2 ho rfl b2 hb)
    · exfalso
      obtain ⟨e3, h7⟩ := f i1 o1 h5 l1 e1
      subst e2
      rw [lput_self] at b2
      rw [lput_ne _ _ e1] at b1
      simp at b2
      obtain ⟨rfl, rfl⟩ := b2
      exact e3 (hw.inj i1 id o1 _ b c1 c h7 l1 ho rfl b1 hb)
    · obtain ⟨_, h7⟩ := f i1 o1 h5 l1 e1
      obtain ⟨_, h8⟩ := f i2 o2 h6 l2 e2
      rw [lput_ne _ _ e1] at b1
      rw [lput_ne _ _ e2] at b2
      exact hw.inj i1 i2 o1 o2 b0 c1 c2 h7 l1 h8 l2 b1 b2
  · intro i oo b0 c0 h7 h8 h9
    rw [hs]
    by_cases e : i = id2
    · subst e
      rw [lput_self] at h9
      simp at h9
      obtain ⟨rfl, rfl⟩ := h9
      exact hw.sep id _ b c ho rfl hb
    · rw [lput_ne _ _ e] at h9
      obtain ⟨_, h10⟩ := f i oo h7 h8 e
      exact hw.sep i oo b0 c0 h10 h8 h9

theorem firstCells_len {size n c : Nat} {b o : Nat} {us : List Value} (hl : us.length = n * size) (hu : ∀ (p : Nat) (u : Value), us[p]? = some u → w.cell? ⟨b, o + p, none⟩ = some u) :
    (Builtin.firstCells size n (.slice (some ⟨b, o, none⟩) n c)).run P w.drew = .ok us.toArray w.drew :=
  run_firstCells_some w.drew size n _ n c us hl (fun j v hv => by rw [Addr.add_mid]; simpa using hu j v hv)

/-- What a frozen slice holds, as 'append' asks for it. -/
theorem sl_first {M : Nat → Prop} {n : Nat} {v : Value} {t : Bool} {k : Kind} {l : List (El k)} (hc : CellW w M n v (.sl t k l)) :
    ∃ A c us, v = .slice A l.length c ∧ l.length ≤ c ∧ (t = true → c = l.length) ∧ CWs w M h loc us ((flat k l).map C.f) ∧ (Builtin.firstCells (szOf k) l.length (.slice A l.length c)).run P w.drew = .ok us.toArray w.drew := by
  obtain ⟨A, c, us, rfl, h1, h2, h3, h4, h5⟩ := sl_cells (h := h) (loc := loc) hc
  refine ⟨A, c, us, rfl, h1, h2, h3, ?_⟩
  by_cases hl : l = []
  · subst hl
    obtain rfl := h5 rfl
    cases A with
    | none => exact run_firstCells_none w.drew _ _ _ _
    | some ad => exact run_firstCells_some w.drew _ _ ad _ _ [] (by simp) (fun j v hv => by simp at hv)
  · obtain ⟨b, o, rfl, _, _, hcell⟩ := h4 hl
    exact firstCells_len (by rw [h3.length, List.length_map, flat_length]) hcell

theorem run_nothing (ht : TabOK P cfg) {T T2 ty : TypeId} {k : Kind} (hk : kindT cfg T = some k) {base : Option Addr} {n c : Nat} (hc : n ≤ c) {x : Value} {news : List Value} (hs : Src P (szOf k) T2 x 0 news w) :
    (Builtin.append_ #[T, T2] ty #[.slice base n c, x]).run P w = .ok (.slice base n c) w := by
  obtain ⟨e, hu, i, z, hi, hz, hsz, _⟩ := kindT_zero ht hk
  rw [← hsz] at hs
  have : news = [] := List.eq_nil_of_length_eq_zero (by simpa using hs.newsLen)
  subst this
  exact run_append_nothing w T T2 ty e i hu hi base n c hc x hs

/-- Room. -/
theorem room_ok (ht : TabOK P cfg) (hw : HW G U h loc w) {T T2 ty : TypeId} {d : Nat} {k : Kind} (hk : kindT cfg T = some k) {id : Id} {wr : Bool} {l xs : List (El k)} {news : List Value} {x : Value} {b c : Nat} (h0 : h (.own d) = none)
    (ho : h id = some (.row wr k l)) (hb : loc id = some (b, c)) (hs : Src P (szOf k) T2 x xs.length news w) (hn : CWs w (Mut U h loc) h loc news ((flat k xs).map C.f)) (hr : l.length + xs.length ≤ c) :
    ∃ u w' loc', (Builtin.append_ #[T, T2] ty #[.slice (some ⟨b, 0, none⟩) l.length c, x]).run P w = .ok u w' ∧ PostV G U h loc w (hput (hput h id .dead) (.own d) (.row true k (l ++ xs))) (.c (.row (.own d) k)) u w' loc' := by
  obtain ⟨e, hu, i, z, hi, hz, hsz, hb1, hb2, hzs, _⟩ := kindT_zero ht hk
  obtain ⟨us, T', hblk, hus, hlc, hcells⟩ := (hw.obj id _ ho).2 b c hb
  have hnl : news.length = xs.length * szOf k := hs.newsLen
  have hfit : l.length * szOf k + news.length ≤ us.size := by rw [hnl, hus, ← Nat.add_mul]; exact Nat.mul_le_mul_right _ hr
  have hs' := hs
  rw [← hsz] at hs'
  have hrun := run_append_room_src w T T2 ty e i hu hi b 0 l.length c x xs.length news hs' hr
    (fun j hj => by rw [cell_heap hblk, hsz, Array.getElem?_eq_getElem (by omega)]; rfl) (fun j hj => frozen_heap hblk)
  rw [hsz, Nat.zero_add] at hrun
  have hrest := setCells_rest b news (l.length * szOf k) w
  have hh := setCells_heap b news (l.length * szOf k) w us T' (0, 0) hblk hfit
  have ex : Ext U h loc w (hput (hput h id .dead) (.own d) (.row true k (l ++ xs))) (lput loc (.own d) (some (b, c))) (w.setCells b (l.length * szOf k) news) :=
    Ext.move hw ho hb h0 (setCells_size _ _ _ _) (setCells_other b _ _ w) hrest.1 hrest.2.1 hrest.2.2
  refine ⟨_, _, _, hrun, ?_, ex, ?_⟩
  · refine hw.move ho hb h0 (setCells_size _ _ _ _) (setCells_other b _ _ w) hrest.1 hrest.2.1 hrest.2.2 ?_
    refine ⟨fun hn => (by rw [lput_self] at hn; cases hn), fun b' c' hl => ?_⟩
    rw [lput_self] at hl
    simp only [Option.some.injEq, Prod.mk.injEq] at hl
    obtain ⟨rfl, rfl⟩ := hl
    refine ⟨_, T', hh, by simp [putAt_length, hus], by simpa using hr, ?_⟩
    have hle : l.length * szOf k ≤ us.size := by omega
    have hold : CWs w (Mut U h loc) h loc (us.toList.take (l.length * szOf k)) ((flat k l).map C.f) := row_cells hle hcells
    refine cells_row (us := us.toList.take (l.length * szOf k) ++ news) (by rw [flat_append, List.map_append]; exact (hold.append hn).ext ex) (fun p u hp => ?_)
    rw [show (Array.mk (Go.Vm.putAt us.toList (l.length * szOf k) news))[p]? = (Go.Vm.putAt us.toList (l.length * szOf k) news)[p]? from List.getElem?_toArray]
    rw [putAt_get]
    have htl : (us.toList.take (l.length * szOf k)).length = l.length * szOf k := by simp; omega
    rcases Nat.lt_or_ge p (l.length * szOf k) with hp1 | hp1
    · rw [List.getElem?_append_left (by omega), List.getElem?_take, if_pos hp1] at hp
      rw [if_neg (by omega)]
      exact hp
    · rw [List.getElem?_append_right (by omega), htl] at hp
      have hlt := (List.getElem?_eq_some_iff.1 hp).1
      rw [if_pos ⟨hp1, by omega, by simp; omega⟩]
      exact hp
  · unfold VW CW
    refine ⟨⟨_, _, _, rfl⟩, by rw [hput_self]; rfl, fun wr k' l' hl => ?_⟩
    rw [hput_self] at hl
    simp only [Option.some.injEq, Obj.row.injEq] at hl
    obtain ⟨rfl, rfl, hl⟩ := hl
    obtain rfl := eq_of_heq hl
    refine ⟨rfl, fun b c' hl => ?_, fun hn => ?_⟩
    · rw [lput_self] at hl
      simp only [Option.some.injEq, Prod.mk.injEq] at hl
      obtain ⟨rfl, rfl⟩ := hl
      rw [List.length_append]
    · rw [lput_self] at hn; cases hn

theorem app_ok (ht : TabOK P cfg) (hw : HW G U h loc w) {T T2 ty : TypeId} {i2 : TI} {d : Nat} {k : Kind} {s x v : V} {us ux : Value} {e : Eff} (hk : kindT cfg T = some k) (hT2 : cfg.tb T2 = some i2) (hq : seqT i2.desc x = true)
    (hs : VW w (Mut U h loc) h loc us s) (hx : VW w (Mut U h loc) h loc ux x) (ha : app h d k s x = some (v, e)) (he : applyE h e = some h') :
    ∃ u w' loc', (Builtin.append_ #[T, T2] ty #[us, ux]).run P w = .ok u w' ∧ PostV G U h loc w h' v u w' loc' := by
  unfold app at ha
  rw [Option.bind_eq_some_iff] at ha
  obtain ⟨xs, hxs, ha⟩ := ha
  obtain ⟨news, hnews, hsrc⟩ := items_ok ht hw (e := T) hT2 hq hx hxs
  split at ha
  · rename_i k' l
    by_cases hkk : k' = k
    · subst hkk
      simp only [dite_true] at ha
      have hs0 := hs
      unfold VW CW at hs
      obtain ⟨n, hn⟩ := hs
      obtain ⟨A, c, olds, rfl, h1, h2, h3, h4⟩ := sl_first (P := P) (h := h) (loc := loc) hn
      unfold appTight at ha
      split at ha
      · simp at ha
        obtain ⟨rfl, rfl⟩ := ha
        simp [applyE] at he
        subst he
        exact ⟨_, w, loc, run_nothing ht hk h1 hsrc, hw, Ext.refl _ _ _ _, hs0⟩
      · rename_i y ys
        cases hle : Nat.ble (l.length + (y :: ys).length) appMax with
        | false => rw [hle] at ha; simp at ha
        | true =>
          rw [hle] at ha
          simp only [cond_true, Option.some.injEq, Prod.mk.injEq] at ha
          obtain ⟨rfl, rfl⟩ := ha
          simp only [applyE] at he
          split at he
          · rename_i h0
            simp at he
            subst he
            exact grow_ok ht hw hk h0 h4 h3 hsrc hnews (by rw [h2 rfl]; simp) (Nat.le_of_ble_eq_true hle)
          · simp at he
    · simp [hkk] at ha
  · rename_i id k'
    rw [Option.bind_eq_some_iff] at ha
    obtain ⟨ob, hob, ha⟩ := ha
    split at ha
    · rename_i wr k2 l
      by_cases hkk : k2 = k
      · subst hkk
        simp only [dite_true] at ha
        cases hnr : notRow id x with
        | false => simp [hnr] at ha
        | true =>
          simp only [hnr, cond_true] at ha
          have hs0 := hs
          unfold VW CW at hs
          obtain ⟨_, _, hrow⟩ := hs
          obtain ⟨rfl, hown, htight⟩ := hrow _ _ _ hob
          unfold appRow at ha
          split at ha
          · simp at ha
            obtain ⟨rfl, rfl⟩ := ha
            simp [applyE] at he
            subst he
            cases hloc : loc id with
            | none =>
              obtain ⟨n, hn⟩ := htight hloc
              obtain ⟨A, c, olds, rfl, h1, h2, h3, h4⟩ := sl_first (P := P) (h := h) (loc := loc) hn
              exact ⟨_, w, loc, run_nothing ht hk h1 hsrc, hw, Ext.refl _ _ _ _, hs0⟩
            | some bc =>
              obtain ⟨b, c⟩ := bc
              obtain rfl := hown b c hloc
              obtain ⟨_, _, _, _, hlc, _⟩ := (hw.obj id _ hob).2 b c hloc
              exact ⟨_, w, loc, run_nothing ht hk hlc hsrc, hw, Ext.refl _ _ _ _, hs0⟩
          · rename_i y ys
            split at ha
            · rename_i h0
              cases hle : Nat.ble (l.length + (y :: ys).length) appMax with
              | false => rw [hle] at ha; simp at ha
              | true =>
                rw [hle] at ha
                simp only [cond_true, Option.some.injEq, Prod.mk.injEq] at ha
                obtain ⟨rfl, rfl⟩ := ha
                simp only [applyE, Option.some.injEq] at he
                subst he
                have hle := Nat.le_of_ble_eq_true hle
                have hne : (Id.own d) ≠ id := by rintro rfl; rw [h0] at hob; cases hob
                have exk : Ext U h loc w (hput h id .dead) loc w := Ext.kill hob
                have hwk : HW G U (hput h id .dead) loc w := hw.kill hob
                have h0k : hput h id .dead (.own d) = none := by rw [hput_ne _ _ hne]; exact h0
                cases hloc : loc id with
                | none =>
                  obtain ⟨n, hn⟩ := htight hloc
                  obtain ⟨A, c, olds, rfl, h1, h2, h3, h4⟩ := sl_first (P := P) (h := h) (loc := loc) hn
                  obtain ⟨u, w', loc', hr, hp1, hp2, hp3⟩ := grow_ok (ty := ty) ht hwk hk h0k h4 (h3.ext exk) hsrc (hnews.ext exk) (by rw [h2 rfl]; simp) hle
                  exact ⟨u, w', loc', hr, hp1, exk.trans hp2, hp3⟩
                | some bc =>
                  obtain ⟨b, c⟩ := bc
                  obtain rfl := hown b c hloc
                  rcases Nat.lt_or_ge c (l.length + (y :: ys).length) with hg | hg
                  · obtain ⟨us, T', hb, hus, hlc, hcells⟩ := (hw.obj id _ hob).2 b c hloc
                    have hl1 : l.length * szOf k2 ≤ us.size := by rw [hus]; exact Nat.mul_le_mul_right _ hlc
                    have hold : CWs w (Mut U h loc) h loc (us.toList.take (l.length * szOf k2)) ((flat k2 l).map C.f) := row_cells hl1 hcells
                    have hfc : (Builtin.firstCells (szOf k2) l.length (.slice (some ⟨b, 0, none⟩) l.length c)).run P w.drew = .ok (us.toList.take (l.length * szOf k2)).toArray w.drew :=
                      firstCells_len (by rw [hold.length, List.length_map, flat_length]) (fun p u hp => by
                        rw [cell_heap hb, Nat.zero_add]
                        rw [List.getElem?_take] at hp
                        split at hp
                        · simpa using hp
                        · cases hp)
                    obtain ⟨u, w', loc', hr, hp1, hp2, hp3⟩ := grow_ok (ty := ty) ht hwk hk h0k hfc (hold.ext exk) hsrc (hnews.ext exk) hg hle
                    exact ⟨u, w', loc', hr, hp1, exk.trans hp2, hp3⟩
                  · exact room_ok ht hw hk h0 hob hloc hsrc hnews hg
            · simp at ha
      · simp [hkk] at ha
    · simp at ha
  · simp at ha

/-- An empty slice gets a name. -/
theorem putEmpty_ok (hw : HW G U h loc w) {d : Nat} {k : Kind} {v : Value} (h0 : h (.own d) = none) (hv : CellW w (Mut U h loc) 1 v (.sl true k [])) :
    PostV G U h loc w (hput h (.own d) (.row true k [])) (.c (.row (.own d) k)) v w (lput loc (.own d) none) := by
  have hM : ∀ b, Mut U (hput h (.own d) (.row true k [])) (lput loc (.own d) none) b → Mut U h loc b := by
    rintro b (hu | ⟨id, o, c, ho, hl, hb⟩)
    · exact .inl hu
    · by_cases hid : id = .own d
      · subst hid; rw [lput_self] at hb; cases hb
      · rw [hput_ne _ _ hid] at ho
        rw [lput_ne _ _ hid] at hb
        exact .inr ⟨id, o, c, ho, hl, hb⟩
  have ex : Ext U h loc w (hput h (.own d) (.row true k [])) (lput loc (.own d) none) w := by
    refine ⟨rfl, rfl, rfl, ⟨Nat.le_refl _, fun b hb hm => ⟨fun h => hm (hM b h), rfl⟩⟩, fun id o ho => ?_, fun id o ho => ?_, fun _ _ _ => rfl⟩
    · have hid : id ≠ .own d := by rintro rfl; rw [h0] at ho; cases ho
      rw [lput_ne _ _ hid]
    · have hid : id ≠ .own d := by rintro rfl; rw [h0] at ho; cases ho
      exact ⟨o, by rw [hput_ne _ _ hid]; exact ho, Turns.refl _ _ _⟩
  refine ⟨hw.step ex (fun id o ho => ?_) (fun i1 i2 o1 o2 b c1 c2 h1 l1 h2 l2 b1 b2 => ?_) (fun i o b c ho hl hb => ?_), ex, ?_⟩
  · by_cases hid : id = .own d
    · subst hid
      rw [hput_self] at ho
      obtain rfl := Option.some.inj ho
      exact .inr ⟨fun _ _ => rfl, fun b c hb => by rw [lput_self] at hb; cases hb⟩
    · rw [hput_ne _ _ hid] at ho
      exact .inl ⟨ho, fun _ => lput_ne _ _ hid, fun _ _ _ _ => rfl⟩
  · have e1 : i1 ≠ .own d := by rintro rfl; rw [lput_self] at b1; cases b1
    have e2 : i2 ≠ .own d := by rintro rfl; rw [lput_self] at b2; cases b2
    rw [hput_ne _ _ e1] at h1
    rw [hput_ne _ _ e2] at h2
    rw [lput_ne _ _ e1] at b1
    rw [lput_ne _ _ e2] at b2
    exact hw.inj i1 i2 o1 o2 b c1 c2 h1 l1 h2 l2 b1 b2
  · have e1 : i ≠ .own d := by rintro rfl; rw [lput_self] at hb; cases hb
    rw [hput_ne _ _ e1] at ho
    rw [lput_ne _ _ e1] at hb
    exact hw.sep i o b c ho hl hb
  · have hv2 := hv.keeps ex.keeps
    unfold VW CW
    have hsh : ∃ A n c, v = .slice A n c := by
      obtain ⟨A, c, h1, _⟩ := hv
      exact ⟨A, _, c, h1⟩
    refine ⟨hsh, by rw [hput_self]; rfl, fun wr k' l' hl => ?_⟩
    rw [hput_self] at hl
    simp only [Option.some.injEq, Obj.row.injEq] at hl
    obtain ⟨rfl, rfl, hl⟩ := hl
    obtain rfl := eq_of_heq hl
    refine ⟨rfl, fun b c hb => ?_, fun _ => ⟨1, hv2⟩⟩
    rw [lput_self] at hb; cases hb

theorem appNew_ok (ht : TabOK P cfg) (hw : HW G U h loc w) {T T2 ty : TypeId} {i2 : TI} {d : Nat} {k : Kind} {s x v : V} {us ux : Value} {e : Eff} (hk : kindT cfg T = some k) (hT2 : cfg.tb T2 = some i2) (hq : seqT i2.desc x = true)
    (hs : VW w (Mut U h loc) h loc us s) (hx : VW w (Mut U h loc) h loc ux x) (ha : appNew h d k s x = some (v, e)) (he : applyE h e = some h') :
    ∃ u w' loc', (Builtin.append_ #[T, T2] ty #[us, ux]).run P w = .ok u w' ∧ PostV G U h loc w h' v u w' loc' := by
  unfold appNew at ha
  rw [Option.bind_eq_some_iff] at ha
  obtain ⟨xs, hxs, ha⟩ := ha
  obtain ⟨news, hnews, hsrc⟩ := items_ok ht hw (e := T) hT2 hq hx hxs
  split at ha
  · rename_i k'
    cases hle : (decide (k' = k) && Nat.ble xs.length appMax) with
    | false => rw [hle] at ha; cases ha
    | true =>
      rw [hle] at ha
      simp only [cond_true, Option.some.injEq, Prod.mk.injEq] at ha
      obtain ⟨rfl, rfl⟩ := ha
      rw [Bool.and_eq_true, decide_eq_true_eq] at hle
      obtain ⟨rfl, hle⟩ := hle
      simp only [applyE] at he
      split at he
      · rename_i h0
        simp only [Option.some.injEq] at he
        subst he
        unfold VW CW at hs
        obtain ⟨n, hn⟩ := hs
        obtain ⟨A, c, olds, rfl, h1, h2, h3, h4⟩ := sl_first (P := P) (h := h) (loc := loc) hn
        cases xs with
        | nil =>
          have hn1 : CellW w (Mut U h loc) 1 (.slice A ([] : List (El k')).length c) (.sl true k' []) :=
            ⟨A, c, rfl, h1, fun _ => h2 rfl, fun i x hx => by simp at hx⟩
          exact ⟨_, w, _, run_nothing ht hk h1 hsrc, putEmpty_ok hw h0 hn1⟩
        | cons y ys =>
          have := grow_ok (ty := ty) ht hw hk h0 h4 h3 hsrc hnews (by rw [h2 rfl]; simp) (by simpa using Nat.le_of_ble_eq_true hle)
          exact this
      · cases he
  · cases ha

end
end Go.Vm

namespace Go.Vm
variable {G : Gl}
set_option linter.unusedVariables false
set_option linter.unusedSimpArgs false

section
variable {P : Program} {cfg : Cfg} {U : Nat → Prop} {h h' : Hp} {loc loc' : Loc} {w w' : World} {a : Act} {fr : Fr}

/-! ### New memory that stays frozen -/

theorem Ext.allocF (hw : HW G U h loc w) (x : Go.Obj) : Ext U h loc w h loc (w.alloc x) := by
  refine ⟨rfl, rfl, rfl, ⟨by simp, fun b hb hm => ⟨hm, Go.RowKit.Below.heap_alloc w x b hb⟩⟩, fun _ _ _ => rfl, fun id o ho => ⟨o, ho, Turns.refl _ _ _⟩, fun b hb _ => Go.RowKit.Below.heap_alloc w x b hb⟩

theorem HW.allocF (hw : HW G U h loc w) (x : Go.Obj) : HW G U h loc (w.alloc x) :=
  hw.step (Ext.allocF hw x) (fun id o ho => .inl ⟨ho, fun _ => rfl, fun b c hl hb => Go.RowKit.Below.heap_alloc w x b (hw.sep id o b c ho hl hb).2⟩) hw.inj
    (fun id o b c ho hl hb => ⟨(hw.sep id o b c ho hl hb).1, by have := (hw.sep id o b c ho hl hb).2; simp; omega⟩)

theorem HW.notMut (hw : HW G U h loc w) {b : Nat} (hb : w.heap.size ≤ b) : ¬ Mut U h loc b := by
  rintro (hu | ⟨id, o, c, ho, hl, hloc⟩)
  · have := hw.low b hu; omega
  · have := (hw.sep id o b c ho hl hloc).2; omega

/-! ### make -/

theorem madeCells_get {z : Array Value} {n sz j : Nat} {u : Value} (hz : z.size = sz) (hj : j < n) (hu : z[j % sz]? = some u) : (madeCells z n)[j]? = some u := by
  unfold madeCells
  rw [Array.getElem?_map, Array.getElem?_range, if_pos hj, Option.map_some, hz]
  congr 1
  obtain ⟨h1, h2⟩ := Array.getElem?_eq_some_iff.1 hu
  rw [getElem!_pos z _ h1, h2]

/-- A kind's zero element, in a zero value's cells. -/
theorem zero_cell {M : Nat → Prop} {k : Kind} {z : Value} (hz : zms z.cells.toList ((cellsOf k (zeroEl k)).map fun f => match f with | .sl _ q _ => .f (.sl true q []) | f => .f f) = true) {j : Nat} {f : F} (hf : (cellsOf k (zeroEl k))[j]? = some f) :
    ∃ u n, z.cells[j]? = some u ∧ CellW w M n u f := by
  have hc : CWs w M (fun _ => none) (fun _ => none) z.cells.toList _ := zms_ok hz
  obtain ⟨u, hu, hr⟩ := hc.get (j := j) (by rw [List.getElem?_map, hf]; rfl)
  have hu' : z.cells[j]? = some u := by simpa using hu
  have hz0 : ∀ t q l, f = .sl t q l → t = false ∧ l = [] := by
    intro t q l he
    subst he
    have hlt := (List.getElem?_eq_some_iff.1 hf).1
    rw [cells_length] at hlt
    cases k <;> simp [szOf] at hlt <;> first
      | (have : j = 0 := by omega
         subst this
         simp [cellsOf, zeroEl] at hf
         done)
      | skip
    all_goals
      simp only [cellsOf, zeroEl, Term.cells, Policy.cells, Letter.cells, Note.cells, Host.cells, CallD.cells, Talk.cells, Deed.cells, WorldD.cells, zeroT, zeroClient, zeroServer] at hf
      rcases j with _ | _ | _ | _ | _ | _ | _ | _ | _ | _ | _ | _ | _ | _ | _ | _ | _ | j <;> simp at hf <;> first
        | (obtain ⟨rfl, rfl, hl⟩ := hf; exact ⟨rfl, by simpa using (eq_of_heq hl).symm⟩)
        | omega
  refine ⟨u, 1, hu', ?_⟩
  cases f with
  | sc v =>
    unfold CW at hr
    obtain ⟨n, hn⟩ := hr
    cases n <;> exact hn
  | sl t q l =>
    obtain ⟨rfl, rfl⟩ := hz0 t q l rfl
    unfold CW at hr
    obtain ⟨n, hn⟩ := hr
    cases n with
    | zero => exact hn.elim
    | succ n =>
      obtain ⟨A, c, rfl, h2, _, _⟩ := hn
      exact ⟨A, c, rfl, h2, fun hh => by simp at hh, fun i x hx => by simp at hx⟩
  | ep q x off =>
    exfalso
    have hlt := (List.getElem?_eq_some_iff.1 hf).1
    rw [cells_length] at hlt
    cases k <;> simp [szOf] at hlt <;>
      simp only [cellsOf, zeroEl, Term.cells, Policy.cells, Letter.cells, Note.cells, Host.cells, CallD.cells, Talk.cells, Deed.cells, WorldD.cells] at hf <;>
      rcases j with _ | _ | _ | _ | _ | _ | _ | _ | _ | _ | _ | _ | _ | _ | _ | _ | _ | j <;> simp at hf
  | err =>
    exfalso
    have hlt := (List.getElem?_eq_some_iff.1 hf).1
    rw [cells_length] at hlt
    cases k <;> simp [szOf] at hlt <;>
      simp only [cellsOf, zeroEl, Term.cells, Policy.cells, Letter.cells, Note.cells, Host.cells, CallD.cells, Talk.cells, Deed.cells, WorldD.cells] at hf <;>
      rcases j with _ | _ | _ | _ | _ | _ | _ | _ | _ | _ | _ | _ | _ | _ | _ | _ | _ | j <;> simp at hf

theorem mk_ok (ht : TabOK P cfg) (hw : HW G U h loc w) {d : Nat} {T : TypeId} {n c v : V} {un uc : Value} {e : Eff} (hn : VW w (Mut U h loc) h loc un n) (hc : VW w (Mut U h loc) h loc uc c) (hm : mk cfg d T n c = some (v, e)) (he : applyE h e = some h') :
    ∃ u w' loc', (Instr.makeSlice T un uc).run P w = .ok u w' ∧ PostV G U h loc w h' v u w' loc' := by
  unfold mk at hm
  rw [Option.bind_eq_some_iff] at hm
  obtain ⟨k, hk, hm⟩ := hm
  rw [Option.bind_eq_some_iff] at hm
  obtain ⟨n', hn', hm⟩ := hm
  rw [Option.bind_eq_some_iff] at hm
  obtain ⟨c', hc', hm⟩ := hm
  obtain ⟨rfl, rfl⟩ := asI_ok hn hn'
  obtain ⟨rfl, rfl⟩ := asI_ok hc hc'
  cases hcond : (decide (n' = c') && decide (0 ≤ n') && Nat.ble n'.toNat appMax) with
  | false => rw [hcond] at hm; simp at hm
  | true =>
    rw [hcond] at hm
    simp only [cond_true, Option.some.injEq, Prod.mk.injEq] at hm
    obtain ⟨rfl, rfl⟩ := hm
    simp only [Bool.and_eq_true, decide_eq_true_eq] at hcond
    obtain ⟨⟨rfl, h0⟩, hle⟩ := hcond
    have hle : n'.toNat ≤ 1000000000 := Nat.le_of_ble_eq_true hle
    obtain ⟨e, hu, i, z, hi, hz, hsz, hb1, hb2, hzs, hzm⟩ := kindT_zero ht hk
    have hbytes : (i.bytes : Int) * n' ≤ 281474976710656 := by
      have h1 : i.bytes * n'.toNat ≤ 1000 * 1000000000 := Nat.mul_le_mul hb2 hle
      have hnn : ((n'.toNat : Nat) : Int) = n' := Int.toNat_of_nonneg h0
      rw [← hnn, ← Int.natCast_mul]
      generalize i.bytes * n'.toNat = q at h1
      omega
    have hr := run_make (P := P) w T e i z hu hi hz .i64 .i64 n' n' h0 (Int.le_refl _) hbytes (by omega)
    simp only [applyE] at he
    split at he
    · rename_i hnone
      simp at he
      subst he
      have ex := Ext.alloc hw hnone (.row true k (List.replicate n'.toNat (zeroEl k))) (.cells (madeCells z.cells (n'.toNat * i.size)) e) n'.toNat
      refine ⟨_, _, _, hr, hw.alloc hnone (.row true k (List.replicate n'.toNat (zeroEl k))) (.cells (madeCells z.cells (n'.toNat * i.size)) e) n'.toNat ?_, ex, ?_⟩
      · refine ⟨fun hn => (by rw [lput_self] at hn; cases hn), fun b c' hl => ?_⟩
        rw [lput_self] at hl
        simp only [Option.some.injEq, Prod.mk.injEq] at hl
        obtain ⟨rfl, rfl⟩ := hl
        refine ⟨_, e, heap_alloc_new w _, by rw [size_madeCells, hsz], by simp, fun r x j f hx hf => ?_⟩
        have hx2 : x = zeroEl k := by
          have := List.mem_of_getElem? hx
          exact (List.mem_replicate.1 this).2
        subst hx2
        have hrl : r < n'.toNat := by simpa using (List.getElem?_eq_some_iff.1 hx).1
        have hj : j < szOf k := by rw [← cells_length k (zeroEl k)]; exact (List.getElem?_eq_some_iff.1 hf).1
        obtain ⟨u, m, hu2, hr2⟩ := zero_cell (w := w) (M := Mut U h loc) hzm hf
        refine ⟨u, m, ?_, hr2.keeps ex.keeps⟩
        rw [hsz]
        refine madeCells_get hzs ?_ ?_
        · have := Nat.mul_le_mul_right (szOf k) (show r + 1 ≤ n'.toNat from hrl)
          rw [Nat.add_mul] at this
          omega
        · rw [Nat.mul_comm r, Nat.mul_add_mod, Nat.mod_eq_of_lt hj]
          exact hu2
      · unfold VW CW
        refine ⟨⟨_, _, _, rfl⟩, by rw [hput_self]; rfl, fun wr k' l' hl => ?_⟩
        rw [hput_self] at hl
        simp only [Option.some.injEq, Obj.row.injEq] at hl
        obtain ⟨rfl, rfl, hl⟩ := hl
        obtain rfl := eq_of_heq hl
        refine ⟨rfl, fun b c' hl => ?_, fun hn => ?_⟩
        · rw [lput_self] at hl
          simp only [Option.some.injEq, Prod.mk.injEq] at hl
          obtain ⟨rfl, rfl⟩ := hl
          simp
        · rw [lput_self] at hn; cases hn
    · simp at he

/-! ### Composite literals -/

theorem foldl_putAt : ∀ (vs : List Value) (n o : Nat) (cs : Array Value), o + n + vs.length ≤ cs.size → ((vs.zipIdx n).foldl (fun cs p => cs.setIfInBounds (o + p.2) p.1) cs).toList = Go.Vm.putAt cs.toList (o + n) vs
  | [], n, o, cs, _ => by
    simp only [List.zipIdx_nil, List.foldl_nil]
    generalize o + n = q
    cases cs.toList <;> cases q <;> rfl
  | v :: vs, n, o, cs, hl => by
    simp at hl
    rw [List.zipIdx_cons, List.foldl_cons, foldl_putAt vs (n + 1) o _ (by simp; omega), putAt_set _ _ _ _ (by simp; omega)]
    simp [Nat.add_assoc]

theorem fill_step {place : Nat → Option (Nat × Nat)} {cells : Array Value} {j off : Nat} {v : Value} {rest : List (Nat × Value)} (hp : place j = some (off, v.cells.size)) (hl : off + v.cells.size ≤ cells.size) :
    ∃ cells' : Array Value, Instr.fill place cells ((j, v) :: rest) = Instr.fill place cells' rest ∧ cells'.toList = Go.Vm.putAt cells.toList off v.cells.toList := by
  refine ⟨v.cells.zipIdx.foldl (fun cs (c, j) => cs.setIfInBounds (off + j) c) cells, ?_, ?_⟩
  · simp only [Instr.fill, hp]
    rw [if_neg (by simp; omega)]
  · rw [← Array.foldl_toList, Array.toList_zipIdx]
    have := foldl_putAt v.cells.toList 0 off cells (by simpa using hl)
    simpa using this

theorem size_toList {α : Type} {a : Array α} {l : List α} (h : a.toList = l) : a.size = l.length := by rw [← h]; simp

theorem bld_fill (ht : TabOK P cfg) {T : TypeId} {fs : Array Field} {places : List (Nat × Nat)} (hu : P.underlying T = some (.struct fs)) (hp : fs.toList.mapM (fun f => (P.info? f.type).map fun i => (f.offset, i.size)) = some places)
    (hf : FrW w (Mut U h loc) h loc a fr) : ∀ (ps : List (Nat × Operand)) (cs ds : List C) (cells : Array Value), CWs w (Mut U h loc) h loc cells.toList cs →
    ps.foldl (fun acc (p : Nat × Operand) => acc.bind fun (cs : List C) =>
      (fieldOf cfg T p.1).bind fun (o, u) => (cfg.tb u).bind fun ui => (evT cfg fr u p.2).bind fun v => (cellsV v).bind fun vs =>
        bif Nat.beq vs.length ui.size && Nat.ble (o + vs.length) cs.length then some (Go.Vm.putAt cs o vs) else none) (some cs) = some ds →
    ∃ out, Instr.fill (places.toArray[·]?) cells (ps.map fun p => (p.1, a.eval p.2)) = some out ∧ CWs w (Mut U h loc) h loc out.toList ds
  | [], cs, ds, cells, hc, he => by
    simp at he; subst he
    exact ⟨cells, rfl, hc⟩
  | p :: ps, cs, ds, cells, hc, he => by
    rw [List.foldl_cons, Option.bind_some] at he
    cases hq : (fieldOf cfg T p.1).bind fun (o, u) => (cfg.tb u).bind fun ui => (evT cfg fr u p.2).bind fun v => (cellsV v).bind fun vs =>
        bif Nat.beq vs.length ui.size && Nat.ble (o + vs.length) cs.length then some (Go.Vm.putAt cs o vs) else none with
    | none =>
      rw [hq] at he
      exfalso
      have : ∀ (l : List (Nat × Operand)), l.foldl (fun acc (p : Nat × Operand) => acc.bind fun (cs : List C) =>
          (fieldOf cfg T p.1).bind fun (o, u) => (cfg.tb u).bind fun ui => (evT cfg fr u p.2).bind fun v => (cellsV v).bind fun vs =>
          bif Nat.beq vs.length ui.size && Nat.ble (o + vs.length) cs.length then some (Go.Vm.putAt cs o vs) else none) none = none := by
        intro l; induction l with
        | nil => rfl
        | cons q l ih => rw [List.foldl_cons, Option.bind_none]; exact ih
      rw [this] at he
      cases he
    | some cs2 =>
      rw [hq] at he
      simp only [Option.bind_eq_some_iff] at hq
      obtain ⟨⟨o, u⟩, hfo, ui, hui, v, hv, vs, hvs, hq⟩ := hq
      cases hcond : (Nat.beq vs.length ui.size && Nat.ble (o + vs.length) cs.length) with
      | false => rw [hcond] at hq; simp at hq
      | true =>
        rw [hcond] at hq
        simp only [cond_true, Option.some.injEq] at hq
        subst hq
        simp only [Bool.and_eq_true] at hcond
        have h1 := Nat.eq_of_beq_eq_true hcond.1
        have h2 := Nat.le_of_ble_eq_true hcond.2
        obtain ⟨fs', f, hu', hfj, ho, hft⟩ := fieldOf_ok ht hfo
        rw [hu] at hu'
        simp at hu'
        subst hu'
        have hvw := evT_ok hf hv
        have hvc := cellsV_ok hvw hvs
        obtain ⟨x, hx, _, hxs, _⟩ := ht.inf u ui hui
        have hplace : places.toArray[p.1]? = some (o, (a.eval p.2).cells.size) := by
          have hl := hvc.length
          simp at hl
          have := mapM_get hp (j := p.1) (f := f) (by simpa using hfj)
          obtain ⟨q, hq1, hq2⟩ := this
          rw [hft, hx] at hq1
          simp at hq1
          rw [List.getElem?_toArray, hq2, ← hq1, ho, hxs, hl, h1]
        have hlen := hc.length
        have hlv := hvc.length
        simp at hlen hlv
        obtain ⟨cells', hfill, hcl⟩ := fill_step (rest := ps.map fun p => (p.1, a.eval p.2)) (cells := cells) hplace (by omega)
        rw [List.map_cons, hfill]
        exact bld_fill ht hu hp hf ps _ ds cells' (by rw [hcl]; exact hc.putAt hvc) he
where
  mapM_get {fs : List Field} {places : List (Nat × Nat)} (hp : fs.mapM (fun f => (P.info? f.type).map fun i => (f.offset, i.size)) = some places) {j : Nat} {f : Field} (hj : fs[j]? = some f) :
      ∃ q, ((P.info? f.type).map fun i => (f.offset, i.size)) = some q ∧ places[j]? = some q := by
    induction fs generalizing places j with
    | nil => simp at hj
    | cons g fs ih =>
      simp only [List.mapM_cons, Option.bind_eq_bind, Option.pure_def] at hp
      rw [Option.bind_eq_some_iff] at hp
      obtain ⟨q, hq, hp⟩ := hp
      rw [Option.bind_eq_some_iff] at hp
      obtain ⟨qs, hqs, hp⟩ := hp
      simp at hp
      subst hp
      cases j with
      | zero => simp at hj; subst hj; exact ⟨q, hq, rfl⟩
      | succ j => simp at hj; obtain ⟨q', h1, h2⟩ := ih hqs hj; exact ⟨q', h1, by simpa using h2⟩

theorem places_some : ∀ (fs : List Field), (∀ f ∈ fs, ∃ x, P.info? f.type = some x) → ∃ places, fs.mapM (fun f => (P.info? f.type).map fun i => (f.offset, i.size)) = some places
  | [], _ => ⟨[], rfl⟩
  | f :: fs, hf => by
    obtain ⟨x, hx⟩ := hf f (List.mem_cons_self ..)
    obtain ⟨ps, hps⟩ := places_some fs (fun g hg => hf g (List.mem_cons_of_mem _ hg))
    exact ⟨(f.offset, x.size) :: ps, by simp [List.mapM_cons, hx, hps]⟩

theorem bld_ok (ht : TabOK P cfg) (hf : FrW w (Mut U h loc) h loc a fr) {T : TypeId} {ps : Array (Nat × Operand)} {v : V} (hb : bld cfg fr T ps.toList = some v) :
    ∃ u, (Instr.build T (ps.map fun (i, x) => (i, a.eval x))).run P w = .ok u w ∧ VW w (Mut U h loc) h loc u v := by
  unfold bld at hb
  rw [Option.bind_eq_some_iff] at hb
  obtain ⟨i, hT, hb⟩ := hb
  cases hd : isStr i.desc with
  | false => simp [hd] at hb
  | true =>
    simp only [hd, cond_true] at hb
    rw [Option.map_eq_some_iff] at hb
    obtain ⟨ds, hds, rfl⟩ := hb
    obtain ⟨x, hx, hxz, hxs, _⟩ := ht.inf T i hT
    have hz : CWs w (Mut U h loc) h loc i.zv.cells.toList i.zero := zms_ok (ht.zer T i hT)
    have hund := ht.und T i hT
    cases hdesc : i.desc with
    | struct fs =>
      rw [hdesc] at hund
      obtain ⟨places, hpl⟩ := places_some fs.toList (ht.flds T i fs hT hdesc)
      obtain ⟨out, hfill, hout⟩ := bld_fill ht hund hpl hf ps.toList i.zero ds i.zv.cells hz hds
      refine ⟨.agg out, run_build w T _ out ?_, ?_⟩
      · unfold Program.built
        simp only [hx, hund, hxz, hpl]
        rw [← hfill]
        simp
      · unfold VW
        exact ⟨out.toList, by simp, hout⟩
    | _ => simp [hdesc, isStr] at hd

end
end Go.Vm

namespace Go.Vm
variable {G : Gl}
set_option linter.unusedVariables false
set_option linter.unusedSimpArgs false

section
variable {P : Program} {cfg : Cfg} {U : Nat → Prop} {h h' : Hp} {loc loc' : Loc} {w w' : World} {a : Act} {fr : Fr}

theorem CWs.wk {M : Nat → Prop} : ∀ {us : List Value} {fs gs : List F}, CWs w M h loc us (fs.map C.f) → Wk fs gs → CWs w M h loc us (gs.map C.f)
  | [], [], [], _, _ => by simp; unfold CWs; trivial
  | [], [], _ :: _, _, hk => by unfold Wk at hk; exact hk.elim
  | [], _ :: _, _, hc, _ => by simp only [List.map_cons] at hc; unfold CWs at hc; exact hc.elim
  | _ :: _, [], _, hc, _ => by simp only [List.map_nil] at hc; unfold CWs at hc; exact hc.elim
  | _ :: _, _ :: _, [], _, hk => by unfold Wk at hk; exact hk.elim
  | u :: us, f :: fs, g :: gs, hc, hk => by
    simp only [List.map_cons] at hc ⊢
    unfold CWs at hc ⊢
    unfold Wk at hk
    refine ⟨?_, CWs.wk hc.2 hk.2⟩
    have h1 := hc.1
    unfold CW at h1 ⊢
    obtain ⟨n, hn⟩ := h1
    exact ⟨n, Wk.cell hn hk.1⟩

theorem putAt_take {α : Type} : ∀ (l : List α) (o : Nat) (ys : List α), o + ys.length ≤ l.length → (Go.Vm.putAt l o ys).take (o + ys.length) = l.take o ++ ys := by
  intro l o ys ho
  apply List.ext_getElem?
  intro j
  rw [List.getElem?_take, putAt_get]
  by_cases h1 : j < o
  · rw [if_pos (by omega), if_neg (by omega), List.getElem?_append_left (by simp; omega), List.getElem?_take, if_pos h1]
  · by_cases h2 : j < o + ys.length
    · rw [if_pos h2, if_pos ⟨by omega, h2, by omega⟩, List.getElem?_append_right (by simp; omega)]
      congr 1
      simp
      omega
    · rw [if_neg h2, List.getElem?_eq_none (by simp; omega)]

/-- Parts in order, all of them. -/
theorem bldS_fill {sz : Nat} : ∀ (ps : List (Nat × Value)) (j : Nat) (cells : Array Value), (∀ p ∈ ps, p.2.cells.size = sz) → (∀ (i : Nat) (p : Nat × Value), ps[i]? = some p → p.1 = j + i) → (j + ps.length) * sz = cells.size →
    ∃ out, Instr.fill (fun i => some (i * sz, sz)) cells ps = some out ∧ out.toList = cells.toList.take (j * sz) ++ ps.flatMap (fun p => p.2.cells.toList)
  | [], j, cells, _, _, hs => ⟨cells, rfl, by simp at hs; rw [hs, List.take_of_length_le (by simp)]; simp⟩
  | p :: ps, j, cells, h1, h2, hs => by
    have hp1 : p.1 = j := by simpa using h2 0 p rfl
    have hp2 : p.2.cells.size = sz := h1 p (List.mem_cons_self ..)
    simp only [List.length_cons] at hs
    have hsz : (j + 1) * sz ≤ cells.size := by rw [← hs]; exact Nat.mul_le_mul_right _ (by omega)
    rw [Nat.add_mul] at hsz
    obtain ⟨cells', hfill, hcl⟩ := fill_step (place := fun i => some (i * sz, sz)) (cells := cells) (j := p.1) (off := j * sz) (v := p.2) (rest := ps) (by rw [hp1, hp2]) (by omega)
    have hcs := size_toList hcl
    rw [putAt_length] at hcs
    simp at hcs
    obtain ⟨out, ho1, ho2⟩ := bldS_fill ps (j + 1) cells' (fun q hq => h1 q (List.mem_cons_of_mem _ hq)) (fun i q hq => by have := h2 (i + 1) q (by simpa using hq); omega) (by rw [hcs, ← hs]; congr 1; omega)
    refine ⟨out, by rw [show p :: ps = (p.1, p.2) :: ps from rfl, hfill]; exact ho1, ?_⟩
    have hpl : p.2.cells.toList.length = sz := by simp [hp2]
    rw [ho2, hcl, show (j + 1) * sz = j * sz + p.2.cells.toList.length by rw [hpl, Nat.add_mul, Nat.one_mul], putAt_take _ _ _ (by simp; omega)]
    simp

theorem inOrder_get : ∀ (ps : List (Nat × Operand)) (n : Nat), inOrder n ps = true → ∀ (i : Nat) (p : Nat × Operand), ps[i]? = some p → p.1 = n + i
  | [], n, _, i, p, hp => by simp at hp
  | q :: ps, n, ho, i, p, hp => by
    simp only [inOrder, Bool.and_eq_true] at ho
    cases i with
    | zero => simp at hp; subst hp; exact Nat.eq_of_beq_eq_true ho.1
    | succ i => have := inOrder_get ps (n + 1) ho.2 i p (by simpa using hp); omega

theorem bldS_parts (ht : TabOK P cfg) (hf : FrW w (Mut U h loc) h loc a fr) {k : Kind} {e : TypeId} : ∀ (ps : List (Nat × Operand)) (l : List (El k)),
    lmapM (fun p : Nat × Operand => (evT cfg fr e p.2).bind fun v => (cellsV v).bind fun cs => (lmapM frzC cs).bind (ofCells k)) ps = some l →
    l.length = ps.length ∧ (∀ p ∈ ps, (a.eval p.2).cells.size = szOf k) ∧ CWs w (Mut U h loc) h loc (ps.flatMap fun p => (a.eval p.2).cells.toList) ((flat k l).map C.f)
  | [], l, hl => by
    simp [lmapM] at hl; subst hl
    exact ⟨rfl, fun p hp => by simp at hp, by simp [flat]; unfold CWs; trivial⟩
  | p :: ps, l, hl => by
    simp only [lmapM, Option.bind_eq_some_iff] at hl
    obtain ⟨x, ⟨v, hv, cs, hcs, fs, hfs, hx⟩, r, hr, hl⟩ := hl
    simp only [Option.some.injEq] at hl
    subst hl
    obtain ⟨h1, h2, h3⟩ := bldS_parts ht hf ps r hr
    have hvw := cellsV_ok (evT_ok hf hv) hcs
    obtain rfl := lmapM_frz hfs
    have hw2 := hvw.wk (ofCells_wk hx)
    have hsz : (a.eval p.2).cells.size = szOf k := by
      have := hw2.length
      rw [List.length_map, cells_length] at this
      simpa using this
    refine ⟨by simp [h1], fun q hq => ?_, ?_⟩
    · rcases List.mem_cons.1 hq with rfl | hq
      · exact hsz
      · exact h2 q hq
    · rw [List.flatMap_cons, show flat k (x :: r) = cellsOf k x ++ flat k r from by simp [flat], List.map_append]
      exact hw2.append h3

/-- A new row of cells, frozen. -/
theorem newTight_ok (hw : HW G U h loc w) {k : Kind} {l : List (El k)} {us : Array Value} {T : TypeId} (hc : CWs w (Mut U h loc) h loc us.toList ((flat k l).map C.f)) :
    PostV G U h loc w h (.sl true k l) (.slice (some ⟨w.heap.size, 0, none⟩) l.length l.length) (w.alloc (.cells us T)) loc := by
  have ex := Ext.allocF hw (.cells us T)
  refine ⟨hw.allocF _, ex, ?_⟩
  obtain ⟨n, hn⟩ : ∃ n, ∀ i x j f, l[i]? = some x → (cellsOf k x)[j]? = some f → ∃ u, us[i * szOf k + j]? = some u ∧ CellW (w.alloc (.cells us T)) (Mut U h loc) n u f := by
    have hc2 := hc.ext ex
    obtain ⟨n, hn⟩ := CWs.bound hc2
    refine ⟨n, fun i x j f hx hf => ?_⟩
    have hg := flat_get k l i j x f hx hf
    obtain ⟨u, hu, _⟩ := hc2.get (j := i * szOf k + j) (c := .f f) (by rw [List.getElem?_map, hg]; rfl)
    exact ⟨u, by simpa using hu, hn _ u f hu (by rw [List.getElem?_map, hg]; rfl)⟩
  unfold VW CW
  refine ⟨n + 1, _, _, rfl, Nat.le_refl _, fun _ => rfl, fun i x hx => ⟨w.heap.size, 0, rfl, hw.notMut (Nat.le_refl _), by simp, fun j f hf => ?_⟩⟩
  obtain ⟨u, hu, hr⟩ := hn i x j f hx hf
  exact ⟨u, by rw [cell_heap (heap_alloc_new w _), Nat.zero_add]; exact hu, hr⟩
where
  CWs.bound {w : World} {M : Nat → Prop} : ∀ {us : List Value} {cs : List C}, CWs w M h loc us cs → ∃ n, ∀ (p : Nat) (u : Value) (f : F), us[p]? = some u → cs[p]? = some (.f f) → CellW w M n u f
    | [], _, _ => ⟨0, fun p u f hu _ => by simp at hu⟩
    | _ :: _, [], hc => by unfold CWs at hc; exact hc.elim
    | u :: us, c :: cs, hc => by
      unfold CWs at hc
      obtain ⟨n, hn⟩ := CWs.bound hc.2
      have h1 : ∃ m, ∀ f, c = .f f → CellW w M m u f := by
        cases c with
        | f x =>
          have h2 := hc.1
          unfold CW at h2
          obtain ⟨m, hm⟩ := h2
          exact ⟨m, fun f hf => by simp at hf; subst hf; exact hm⟩
        | _ => exact ⟨0, fun f hf => by simp at hf⟩
      obtain ⟨m, hm⟩ := h1
      refine ⟨max n m, fun p v f hv hf => ?_⟩
      cases p with
      | zero =>
        simp at hv hf
        subst hv
        exact (hm f hf).le (Nat.le_max_right _ _)
      | succ p => exact (hn p v f (by simpa using hv) (by simpa using hf)).le (Nat.le_max_left _ _)

theorem bldS_core (ht : TabOK P cfg) (hw : HW G U h loc w) (hf : FrW w (Mut U h loc) h loc a fr) {T : TypeId} {n : Nat} {ps : Array (Nat × Operand)} {v : V} (hb : bldS cfg fr T n ps.toList = some v) :
    ∃ k l out e, v = .sl true k l ∧ (Instr.buildSlice T n (ps.map fun (i, x) => (i, a.eval x))).run P w = .ok (.slice (some ⟨w.heap.size, 0, none⟩) l.length l.length) (w.alloc (.cells out e)) ∧ CWs w (Mut U h loc) h loc out.toList ((flat k l).map C.f) := by
  unfold bldS at hb
  rw [Option.bind_eq_some_iff] at hb
  obtain ⟨k, hk, hb⟩ := hb
  rw [Option.bind_eq_some_iff] at hb
  obtain ⟨e, he, hb⟩ := hb
  cases hcond : (Nat.beq ps.toList.length n && inOrder 0 ps.toList && Nat.ble (n * szOf k) 1000) with
  | false => rw [hcond] at hb; simp at hb
  | true =>
    rw [hcond] at hb
    simp only [cond_true, Option.map_eq_some_iff] at hb
    obtain ⟨l, hl, rfl⟩ := hb
    simp only [Bool.and_eq_true] at hcond
    have h1 := Nat.eq_of_beq_eq_true hcond.1.1
    have h3 := Nat.le_of_ble_eq_true hcond.2
    obtain ⟨e', hu, i, z, hi, hz, hsz, hb1, hb2, hzs, hzm⟩ := kindT_zero ht hk
    obtain ⟨p1, p2, p3⟩ := bldS_parts ht hf ps.toList l hl
    have hmap : (ps.map fun (i, x) => (i, a.eval x)).toList = ps.toList.map fun p => (p.1, a.eval p.2) := by simp
    have hflat : ∀ q : List (Nat × Operand), (q.map fun p => (p.1, a.eval p.2)).flatMap (fun p => p.2.cells.toList) = q.flatMap fun p => (a.eval p.2).cells.toList := by
      intro q; induction q with
      | nil => rfl
      | cons p q ih => simp [ih]
    have hln : l.length = n := by omega
    have hfill : ∀ cells : Array Value, cells.size = n * szOf k → ∃ out, Instr.fill (fun i => some (i * szOf k, szOf k)) cells (ps.map fun (i, x) => (i, a.eval x)).toList = some out ∧ out.toList = ps.toList.flatMap fun p => (a.eval p.2).cells.toList := by
      intro cells hcs
      obtain ⟨out, ho1, ho2⟩ := bldS_fill (sz := szOf k) (ps.map fun (i, x) => (i, a.eval x)).toList 0 cells (fun p hp => by
          rw [hmap] at hp
          obtain ⟨q, hq, rfl⟩ := List.mem_map.1 hp
          exact p2 q hq) (fun i p hp => by
          rw [hmap, List.getElem?_map, Option.map_eq_some_iff] at hp
          obtain ⟨q, hq, rfl⟩ := hp
          exact inOrder_get _ 0 hcond.1.2 i q hq) (by rw [hmap, List.length_map, Nat.zero_add, h1, hcs])
      refine ⟨out, ho1, ?_⟩
      rw [ho2, hmap, hflat]
      simp
    by_cases hn0 : n * szOf k = 0
    · obtain ⟨out, ho1, ho2⟩ := hfill #[] (by simp [hn0])
      refine ⟨k, l, out, e', rfl, ?_, by rw [ho2]; exact p3⟩
      rw [← hsz] at ho1 hn0
      rw [hmap] at ho1
      have h0 : ∀ g : Nat → Value, (Array.range 0).map g = #[] := fun g => by simp [Array.range]
      rw [hln]
      simp [Instr.buildSlice, run_underlying hu, sizeOf, typeInfo, hi, hn0, newRow, h0, ho1]
    · obtain ⟨out, ho1, ho2⟩ := hfill ((Array.range (n * i.size)).map (z.cells[· % z.cells.size]!)) (by simp [hsz])
      rw [← hsz] at ho1 hn0 h3
      refine ⟨k, l, out, e', rfl, ?_, by rw [ho2]; exact p3⟩
      rw [hln]
      exact run_buildSlice w T e' n _ out i z hu hi hz (by omega) hn0 ho1

/-- A new row of cells. -/
theorem newBuilt_ok (hw : HW G U h loc w) {d : Nat} {k : Kind} {l : List (El k)} {us : Array Value} {T : TypeId} (h0 : h (.own d) = none) (hcs : CWs w (Mut U h loc) h loc us.toList ((flat k l).map C.f)) :
    ∃ loc', PostV G U h loc w (hput h (.own d) (.row true k l)) (.c (.row (.own d) k)) (.slice (some ⟨w.heap.size, 0, none⟩) l.length l.length) (w.alloc (.cells us T)) loc' := by
  have ex := Ext.alloc hw h0 (.row true k l) (.cells us T) l.length
  have hlen := hcs.length
  rw [List.length_map, flat_length] at hlen
  refine ⟨_, hw.alloc h0 (.row true k l) (.cells us T) l.length ?_, ex, ?_⟩
  · refine ⟨fun hn => (by rw [lput_self] at hn; cases hn), fun b c' hl => ?_⟩
    rw [lput_self] at hl
    simp only [Option.some.injEq, Prod.mk.injEq] at hl
    obtain ⟨rfl, rfl⟩ := hl
    refine ⟨us, T, heap_alloc_new w _, by simpa using hlen, Nat.le_refl _, ?_⟩
    exact cells_row (hcs.ext ex) (fun p u hp => by simpa using hp)
  · unfold VW CW
    refine ⟨⟨_, _, _, rfl⟩, by rw [hput_self]; rfl, fun wr k' l' hl => ?_⟩
    rw [hput_self] at hl
    simp only [Option.some.injEq, Obj.row.injEq] at hl
    obtain ⟨rfl, rfl, hl⟩ := hl
    obtain rfl := eq_of_heq hl
    refine ⟨rfl, fun b c' hl => ?_, fun hn => ?_⟩
    · rw [lput_self] at hl
      simp only [Option.some.injEq, Prod.mk.injEq] at hl
      obtain ⟨rfl, rfl⟩ := hl
      rfl
    · rw [lput_self] at hn; cases hn

theorem bldR_ok (ht : TabOK P cfg) (hw : HW G U h loc w) (hf : FrW w (Mut U h loc) h loc a fr) {T : TypeId} {n : Nat} {ps : Array (Nat × Operand)} {b : Bool} {dst : Option Nat} {v : V} {e : Eff}
    (hb : (bldS cfg fr T n ps.toList).bind (rowOf b dst) = some (v, e)) (he : applyE h e = some h') :
    ∃ u w' loc', (Instr.buildSlice T n (ps.map fun (i, x) => (i, a.eval x))).run P w = .ok u w' ∧ PostV G U h loc w h' v u w' loc' := by
  rw [Option.bind_eq_some_iff] at hb
  obtain ⟨v0, hv0, hb⟩ := hb
  obtain ⟨k, l, out, e', rfl, hrun, hcs⟩ := bldS_core ht hw hf hv0
  cases b with
  | false =>
    simp only [rowOf, cond_false, Option.some.injEq, Prod.mk.injEq] at hb
    obtain ⟨rfl, rfl⟩ := hb
    simp only [applyE, Option.some.injEq] at he
    subst he
    exact ⟨_, _, loc, hrun, newTight_ok hw hcs⟩
  | true =>
    cases dst with
    | none => simp [rowOf] at hb
    | some d =>
      simp only [rowOf, cond_true, Option.some.injEq, Prod.mk.injEq] at hb
      obtain ⟨rfl, rfl⟩ := hb
      simp only [applyE] at he
      split at he
      · rename_i h0
        simp only [Option.some.injEq] at he
        subst he
        obtain ⟨loc', hp⟩ := newBuilt_ok (T := e') hw h0 hcs
        exact ⟨_, _, loc', hrun, hp⟩
      · cases he

/-! ### Conversions -/

theorem cnv_ok (ht : TabOK P cfg) {M : Nat → Prop} {s d : TypeId} {p : Value} {x v : V} (hp : VW w M h loc p x) (hl : cnv cfg s d x = some v) :
    ∃ u, (convert s d p).run P w = .ok u w ∧ VW w M h loc u v := by
  unfold cnv at hl
  rw [Option.bind_eq_some_iff] at hl
  obtain ⟨si, hs, hl⟩ := hl
  rw [Option.bind_eq_some_iff] at hl
  obtain ⟨di, hd, hl⟩ := hl
  have us := ht.und s si hs
  have ud := ht.und d di hd
  split at hl
  · rename_i k1 k2 _ n h1 h2
    simp at hl; subst hl
    obtain rfl := hp.sc
    rw [h1] at us
    rw [h2] at ud
    exact ⟨_, by simp [convert, run_underlying us, run_underlying ud, Conv.intToInt], VW.mk_int _ _⟩
  · rename_i e t l h1 h2
    cases hc : (isU8 (cfg.tb e) && decide (si.kind = some .byte)) with
    | false => rw [hc] at hl; simp at hl
    | true =>
      rw [hc] at hl
      simp at hl; subst hl
      simp only [Bool.and_eq_true] at hc
      rw [h1] at us
      rw [h2] at ud
      have ue : P.underlying e = some (.int .u8) := by
        have h3 := hc.1
        unfold isU8 at h3
        split at h3
        · rename_i he
          exact ht.und e _ he
        · cases h3
      unfold VW CW at hp
      obtain ⟨n, hn⟩ := hp
      cases n with
      | zero => exact hn.elim
      | succ n =>
        obtain ⟨A, c, rfl, _, _, hcells⟩ := hn
        cases A with
        | none =>
          have hl0 : l = [] := by
            cases l with
            | nil => rfl
            | cons y l => obtain ⟨b, o, hA, _⟩ := hcells 0 y rfl; cases hA
          subst hl0
          refine ⟨.string .empty, ?_, VW.mk_str _⟩
          rw [run_convert_bytes_string w s d e none _ _ us ue ud]
          rfl
        | some ad =>
          refine ⟨_, run_convert_bytes_back w s d e ad c l us ue ud (fun j hj => ?_), VW.mk_str _⟩
          obtain ⟨b, o, hA, _, _, hcl⟩ := hcells j l[j] (by rw [List.getElem?_eq_getElem hj])
          simp at hA
          subst hA
          obtain ⟨u, hu, hr⟩ := hcl 0 _ rfl
          rw [Addr.add_mid]
          have hu2 : u = .int .u8 (l[j].toNat : Int) := by cases n <;> exact hr.1
          rw [← hu2, ← hu]
          simp [szOf]
  · simp at hl

/-! ### Builtins -/

theorem len_ok (ht : TabOK P cfg) (hw : HW G U h loc w) {T ty : TypeId} {ts : List TypeId} {i : TI} {p : Value} {x : V} {n : Nat} (hT : cfg.tb T = some i) (hq : seqT i.desc x = true) (hp : VW w (Mut U h loc) h loc p x) (hl : slen h x = some n) :
    (Builtin.len_ (T :: ts).toArray ty #[p]).run P w = .ok (.int .i64 n) w := by
  have hu := ht.und T i hT
  have hsl : ∀ (e : TypeId) (A : Option Addr) (c : Nat), i.desc = .slice e → p = .slice A n c → (Builtin.len_ (T :: ts).toArray ty #[p]).run P w = .ok (.int .i64 n) w := by
    intro e A c hd he
    subst he
    rw [hd] at hu
    simp [Builtin.len_, run_underlying hu, goInt]
  unfold slen at hl
  split at hl
  · rename_i s
    simp at hl; subst hl
    obtain rfl := hp.sc
    unfold seqT at hq
    split at hq
    · rename_i hd _
      rw [hd] at hu
      simp [Builtin.len_, run_underlying hu, goInt]
    · rename_i heq; cases heq
    · rename_i heq; cases heq
    · cases hq
  · rename_i t k l
    simp at hl; subst hl
    have hd : ∃ e, i.desc = .slice e := by unfold seqT at hq; split at hq <;> simp_all
    obtain ⟨e, hd⟩ := hd
    unfold VW CW at hp
    obtain ⟨m, hm⟩ := hp
    cases m with
    | zero => exact hm.elim
    | succ m => obtain ⟨A, c, rfl, _⟩ := hm; exact hsl e A c hd rfl
  · rename_i id k
    have hd : ∃ e, i.desc = .slice e := by unfold seqT at hq; split at hq <;> simp_all
    obtain ⟨e, hd⟩ := hd
    rw [Option.bind_eq_some_iff] at hl
    obtain ⟨ob, hob, hl⟩ := hl
    split at hl
    · rename_i wr k2 l
      simp at hl; subst hl
      unfold VW CW at hp
      obtain ⟨_, _, hrow⟩ := hp
      obtain ⟨rfl, hown, htight⟩ := hrow _ _ _ hob
      cases hloc : loc id with
      | none =>
        obtain ⟨m, hm⟩ := htight hloc
        cases m with
        | zero => exact hm.elim
        | succ m => obtain ⟨A, c, rfl, _⟩ := hm; exact hsl e A c hd rfl
      | some bc => obtain ⟨b, c⟩ := bc; exact hsl e _ c hd (hown b c hloc)
    · simp at hl
  · simp at hl

theorem VWs.get {M : Nat → Prop} : ∀ {us : List Value} {vs : List V} {j : Nat} {v : V}, VWs w M h loc us vs → vs[j]? = some v → ∃ u, us[j]? = some u ∧ VW w M h loc u v
  | [], [], j, v, _, hj => by simp at hj
  | [], _ :: _, _, _, hc, _ => by unfold VWs at hc; exact hc.elim
  | _ :: _, [], _, _, _, hj => by simp at hj
  | u :: us, v :: vs, 0, x, hc, hj => by unfold VWs at hc; simp at hj; subst hj; exact ⟨u, rfl, hc.1⟩
  | u :: us, v :: vs, j + 1, x, hc, hj => by unfold VWs at hc; simp at hj; obtain ⟨y, h1, h2⟩ := VWs.get hc.2 hj; exact ⟨y, by simpa using h1, h2⟩

theorem VWs.len {M : Nat → Prop} : ∀ {us : List Value} {vs : List V}, VWs w M h loc us vs → us.length = vs.length
  | [], [], _ => rfl
  | [], _ :: _, hc => by unfold VWs at hc; exact hc.elim
  | _ :: _, [], hc => by unfold VWs at hc; exact hc.elim
  | u :: us, v :: vs, hc => by unfold VWs at hc; simp [VWs.len hc.2]

theorem evTs_ok (hf : FrW w (Mut U h loc) h loc a fr) : ∀ {xs : List Operand} {Ts : List TypeId} {vs : List V}, evTs cfg fr xs Ts = some vs → VWs w (Mut U h loc) h loc (xs.map a.eval) vs
  | [], Ts, vs, he => by simp [evTs] at he; subst he; simp; unfold VWs; trivial
  | x :: xs, [], vs, he => by simp [evTs] at he
  | x :: xs, T :: Ts, vs, he => by
    simp only [evTs, Option.bind_eq_some_iff, Option.some.injEq] at he
    obtain ⟨v, hv, r, hr, rfl⟩ := he
    simp only [List.map_cons]
    unfold VWs
    exact ⟨evT_ok hf hv, evTs_ok hf hr⟩

theorem mnmx_ok {M : Nat → Prop} {mx : Bool} {us : List Value} {vs : List V} {v : V} (hv : VWs w M h loc us vs) (hm : mnmx mx vs = some v) {ts : Array TypeId} {ty : TypeId} :
    ∃ u, (match mx with | true => Builtin.max_ ts ty us.toArray | false => Builtin.min_ ts ty us.toArray : Sem Value).run P w = .ok u w ∧ VW w M h loc u v := by
  unfold mnmx at hm
  split at hm
  · rename_i x y
    match us, hv with
    | [p, q], hv =>
      unfold VWs VWs VWs at hv
      rw [Option.bind_eq_some_iff] at hm
      obtain ⟨n, hn, hm⟩ := hm
      rw [Option.bind_eq_some_iff] at hm
      obtain ⟨m, hmm, hm⟩ := hm
      obtain ⟨rfl, rfl⟩ := asI_ok hv.1 hn
      obtain ⟨rfl, rfl⟩ := asI_ok hv.2.1 hmm
      simp only [Option.some.injEq] at hm
      subst hm
      refine ⟨_, ?_, VW.mk_int .i64 _⟩
      cases mx
      · simp only [Builtin.min_, Builtin.min2, List.foldlM_cons, List.foldlM_nil, cond_false]
        simp
      · simp only [Builtin.max_, Builtin.max2, List.foldlM_cons, List.foldlM_nil, cond_true]
        simp
    | [], hv => unfold VWs at hv; exact hv.elim
    | [_], hv => unfold VWs VWs at hv; exact hv.2.elim
    | _ :: _ :: _ :: _, hv => unfold VWs VWs VWs at hv; exact hv.2.2.elim
  · simp at hm

theorem ptrV_ok {M : Nat → Prop} {p : Value} {x v : V} (hp : VW w M h loc p x) (hl : ptrV x = some v) : v = x ∧ ∃ ad, p = .pointer (some ad) := by
  unfold ptrV at hl
  split at hl
  · simp at hl; subst hl
    unfold VW CW at hp
    obtain ⟨_, b, c, _, rfl⟩ := hp
    exact ⟨rfl, _, rfl⟩
  · simp at hl; subst hl
    unfold VW CW at hp
    obtain ⟨_, _, b, c, _, rfl⟩ := hp
    exact ⟨rfl, _, rfl⟩
  · simp at hl; subst hl
    unfold VW CW at hp
    obtain ⟨n, hn⟩ := hp
    cases n with
    | zero => exact hn.elim
    | succ n => obtain ⟨b, o, rfl, _⟩ := hn; exact ⟨rfl, _, rfl⟩
  · simp at hl

theorem caps_ok (hf : FrW w (Mut U h loc) h loc a fr) : ∀ {xs : List Operand} {cs : List C}, lmapM (fun x => (ev fr x).bind oneC) xs = some cs → CWs w (Mut U h loc) h loc (xs.map a.eval) cs
  | [], cs, he => by simp [lmapM] at he; subst he; simp; unfold CWs; trivial
  | x :: xs, cs, he => by
    simp only [lmapM, Option.bind_eq_some_iff, Option.some.injEq] at he
    obtain ⟨c, ⟨v, hv, hc⟩, r, hr, rfl⟩ := he
    simp only [List.map_cons]
    unfold CWs
    refine ⟨?_, caps_ok hf hr⟩
    cases v with
    | c y =>
      simp [oneC] at hc
      subst hc
      have := ev_ok hf hv
      unfold VW at this
      exact this
    | agg cs => simp [oneC] at hc
    | tup vs => simp [oneC] at hc

end
end Go.Vm
