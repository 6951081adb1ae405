/-
  The machine's operations against the model's: what only reads.
-/
import Derived.Test.YtepghohkfnmhmaaDoorVmMem
import Derived.Deep.MidRow
import Derived.Laws.StructEq
import Derived.WideLaws
namespace Go.Vm
variable {G : Gl}
set_option linter.unusedVariables false
set_option linter.unusedSimpArgs false

/-- A zero cell's two sides. -/
def zm : Value → C → Bool
  | .bool b, .f (.sc (.bool c)) => b == c
  | .int k a, .f (.sc (.int k' b)) => decide (k = k') && a == b
  | .string s, .f (.sc (.string t)) => decide (s.data.toList = t.data.toList)
  | .slice none 0 0, .f (.sl true _ []) => true
  | .nilIface, .f (.sc .nilIface) => true
  | .agg _, .hole => false
  | .tuple _, .hole => false
  | _, .hole => true
  | _, _ => false

def zms : List Value → List C → Bool
  | [], [] => true
  | v :: vs, c :: cs => zm v c && zms vs cs
  | _, _ => false

/-- The table tells the truth. -/
structure TabOK (P : Program) (cfg : Cfg) : Prop where
  und : ∀ t i, cfg.tb t = some i → P.underlying t = some i.desc
  inf : ∀ t i, cfg.tb t = some i → ∃ x, P.info? t = some x ∧ x.zero = some i.zv ∧ x.size = i.size ∧ x.bytes = i.bytes
  zer : ∀ t i, cfg.tb t = some i → zms i.zv.cells.toList i.zero = true
  kin : ∀ t i k e, cfg.tb t = some i → i.desc = .slice e → i.kind = some k → ∃ x z, P.info? e = some x ∧ x.zero = some z ∧ x.size = szOf k ∧ zms z.cells.toList ((cellsOf k (zeroEl k)).map fun f => match f with | .sl _ q _ => .f (.sl true q []) | f => .f f) = true ∧ 0 < x.bytes ∧ x.bytes ≤ 1000
  flds : ∀ t i fs, cfg.tb t = some i → i.desc = .struct fs → ∀ f ∈ fs.toList, ∃ x, P.info? f.type = some x
  eqf : ∀ t, cfg.eqT t = true → P.eqGuardType P.depth t = false ∧ P.stoodInHeld t = false

/-- The frame: each slot stands for what the machine holds there. -/
def FrW (w : World) (M : Nat → Prop) (h : Hp) (loc : Loc) (a : Act) (fr : Fr) : Prop := ∀ t, VW w M h loc (a.tmps.getD t undef) (fr t)

section
variable {P : Program} {cfg : Cfg} {U : Nat → Prop} {h h' : Hp} {loc loc' : Loc} {w w' : World} {a : Act} {fr : Fr}

theorem VW.sc {M : Nat → Prop} {v u : Value} (hv : VW w M h loc v (.c (.f (.sc u)))) : v = u := by
  unfold VW CW at hv
  obtain ⟨n, hn⟩ := hv
  cases n <;> exact hn.1

theorem VW.mk_sc {M : Nat → Prop} {u : Value} (hs : scal u = true) : VW w M h loc u (.c (.f (.sc u))) := by
  unfold VW CW
  exact ⟨0, rfl, hs⟩

theorem VW.mk_bool {M : Nat → Prop} (b : Bool) : VW w M h loc (.bool b) (.bool b) := VW.mk_sc rfl
theorem VW.mk_int {M : Nat → Prop} (k : IntKind) (n : Int) : VW w M h loc (.int k n) (.c (.f (.sc (.int k n)))) := VW.mk_sc rfl
theorem VW.mk_str {M : Nat → Prop} (s : ByteArray) : VW w M h loc (.string s) (.str s) := VW.mk_sc rfl

theorem evT_ok {T : TypeId} {x : Operand} {v : V} (hf : FrW w (Mut U h loc) h loc a fr) (he : evT cfg fr T x = some v) : VW w (Mut U h loc) h loc (a.eval x) v := by
  cases x with
  | tmp t =>
    simp only [evT, Option.some.injEq] at he
    subst he
    exact hf t
  | const u =>
    simp only [evT, constV, constC] at he
    split at he
    · simp at he; subst he; exact VW.mk_sc rfl
    · simp at he; subst he; exact VW.mk_sc rfl
    · simp at he; subst he; exact VW.mk_sc rfl
    · simp at he; subst he; exact VW.mk_sc rfl
    · cases hT : cfg.tb T with
      | none => simp [hT] at he
      | some i =>
        cases hk : i.kind with
        | none => simp [hT, hk] at he
        | some k =>
          simp [hT, hk] at he
          subst he
          unfold VW CW
          exact ⟨1, none, 0, rfl, by simp, fun _ => rfl, fun i x hx => by simp at hx⟩
    · simp at he; subst he; unfold VW CW; trivial
    · simp at he
  | global g => simp [evT] at he
  | func f =>
    simp only [evT, Option.some.injEq] at he
    subst he
    unfold VW CW
    exact ⟨[], rfl, by unfold CWs; trivial⟩

theorem ev_ok {x : Operand} {v : V} (hf : FrW w (Mut U h loc) h loc a fr) (he : ev fr x = some v) : VW w (Mut U h loc) h loc (a.eval x) v := by
  cases x with
  | tmp t =>
    simp only [ev, Option.some.injEq] at he
    subst he
    exact hf t
  | const u =>
    cases u <;> simp [ev] at he <;> (subst he; exact VW.mk_sc rfl)
  | global g => simp [ev] at he
  | func f =>
    simp only [ev, Option.some.injEq] at he
    subst he
    unfold VW CW
    exact ⟨[], rfl, by unfold CWs; trivial⟩

theorem asB_ok {M : Nat → Prop} {v : Value} {x : V} {b : Bool} (hv : VW w M h loc v x) (hb : asB x = some b) : v = .bool b ∧ x = .bool b := by
  unfold asB at hb
  split at hb
  · simp at hb; subst hb; exact ⟨hv.sc, rfl⟩
  · simp at hb

theorem asI_ok {M : Nat → Prop} {v : Value} {x : V} {n : Int} (hv : VW w M h loc v x) (hb : asI x = some n) : v = .int .i64 n ∧ x = .int n := by
  unfold asI at hb
  split at hb
  · simp at hb; subst hb; exact ⟨hv.sc, rfl⟩
  · simp at hb

/-- What an operation leaves. -/
def PostV (G : Gl) (U : Nat → Prop) (h : Hp) (loc : Loc) (w : World) (h' : Hp) (v : V) (u : Value) (w' : World) (loc' : Loc) : Prop :=
  HW G U h' loc' w' ∧ Ext U h loc w h' loc' w' ∧ VW w' (Mut U h' loc') h' loc' u v

def OpOK (P : Program) (G : Gl) (U : Nat → Prop) (h : Hp) (loc : Loc) (w : World) (h' : Hp) (v : V) : Result Next → Prop
  | .ok (.value u) w' => ∃ loc', PostV G U h loc w h' v u w' loc'
  | .ok .skip w' => ∃ loc', PostV G U h loc w h' v undef w' loc'
  | .ok (.enter f args) w' => w' = w ∧ Calls P f args w fun e w'' => ∃ u loc', e = .returned u ∧ PostV G U h loc w h' v u w'' loc'
  | _ => False

theorem OpOK.val (hw : HW G U h loc w) {v : V} {u : Value} (hv : VW w (Mut U h loc) h loc u v) : OpOK P G U h loc w h v (.ok (.value u) w) := ⟨loc, hw, Ext.refl _ _ _ _, hv⟩

/-! ### Integers, strings, tests -/

theorem binI_ok {op : BinOp} {k : IntKind} {x y : Int} {v : F} {T : TypeId} (hb : binI op k x y = some v) (hs : isShift op = false) : ∃ u, v = .sc u ∧ scal u = true ∧ (binOp op T (.int k x) (.int k y)).run P w = .ok u w := by
  cases op <;> simp [binI, isShift] at hb hs <;> first
    | (subst hb; exact ⟨_, rfl, rfl, by simp [binOp, Op.intArith, Op.intBits, Op.intCmp]⟩)
    | (unfold ne0 at hb
       by_cases h0 : y = 0
       · simp [h0] at hb
       · simp [h0] at hb
         subst hb
         exact ⟨_, rfl, rfl, by simp [binOp, Op.intDiv, h0]⟩)

theorem shf_ok {op : BinOp} {k k' : IntKind} {x y : Int} {v : F} {T : TypeId} (hb : shf op k x y = some v) : ∃ u, v = .sc u ∧ scal u = true ∧ (binOp op T (.int k x) (.int k' y)).run P w = .ok u w := by
  cases op <;> simp [shf] at hb <;>
    (unfold ge0 at hb
     by_cases h0 : y < 0
     · simp [h0] at hb
     · simp [h0] at hb
       subst hb
       exact ⟨_, rfl, rfl, by simp [binOp, Op.shift, h0]⟩)

theorem binS_ok {op : BinOp} {x y : ByteArray} {v : F} {T : TypeId} (hb : binS op x y = some v) : ∃ u, v = .sc u ∧ scal u = true ∧ (binOp op T (.string x) (.string y)).run P w = .ok u w := by
  cases op <;> simp [binS] at hb <;> first
    | (subst hb; exact ⟨_, rfl, rfl, by simp [binOp, Op.stringOp]⟩)
    | (unfold catOk at hb
       by_cases h0 : (9223372036854775807 : Int) < (x.size : Int) + (y.size : Int)
       · simp [h0] at hb
       · simp [h0] at hb
         subst hb
         exact ⟨_, rfl, rfl, by simp [binOp, Op.stringOp, h0]⟩)

theorem run_eqGuard_plain (op : BinOp) (t : TypeId) (x y : Operand) (u v : Value) (h1 : ¬ (u = .nilIface ∧ v = .nilIface)) (h2 : ∀ cs ds, ¬ (u = .agg cs ∧ v = .agg ds)) : (eqGuard op t x y u v).run P w = .ok () w := by
  unfold eqGuard
  cases op <;> simp <;> (split <;> first | rfl | (exfalso; first | exact h1 ⟨rfl, rfl⟩ | exact h2 _ _ ⟨rfl, rfl⟩))

theorem CWs.length {M : Nat → Prop} : ∀ {us : List Value} {cs : List C}, CWs w M h loc us cs → us.length = cs.length
  | [], [], _ => rfl
  | [], _ :: _, hc => by unfold CWs at hc; exact hc.elim
  | _ :: _, [], hc => by unfold CWs at hc; exact hc.elim
  | u :: us, c :: cs, hc => by unfold CWs at hc; simp [CWs.length hc.2]

theorem CWs.get {M : Nat → Prop} : ∀ {us : List Value} {cs : List C} {j : Nat} {c : C}, CWs w M h loc us cs → cs[j]? = some c → ∃ u, us[j]? = some u ∧ CW w M h loc u c
  | [], [], j, c, _, hc => by simp at hc
  | [], _ :: _, _, _, hc, _ => by unfold CWs at hc; exact hc.elim
  | _ :: _, [], _, _, hc, _ => by unfold CWs at hc; exact hc.elim
  | u :: us, c :: cs, 0, c', hc, hj => by unfold CWs at hc; simp at hj; subst hj; exact ⟨u, rfl, hc.1⟩
  | u :: us, c :: cs, j + 1, c', hc, hj => by unfold CWs at hc; simp at hj; obtain ⟨v, hv, hr⟩ := CWs.get hc.2 hj; exact ⟨v, by simpa using hv, hr⟩

theorem CWs.mk {M : Nat → Prop} : ∀ {us : List Value} {cs : List C}, us.length = cs.length → (∀ (j : Nat) (c : C), cs[j]? = some c → ∃ u, us[j]? = some u ∧ CW w M h loc u c) → CWs w M h loc us cs
  | [], [], _, _ => by unfold CWs; trivial
  | [], _ :: _, hl, _ => by simp at hl
  | _ :: _, [], hl, _ => by simp at hl
  | u :: us, c :: cs, hl, hg => by
    unfold CWs
    obtain ⟨v, hv, hr⟩ := hg 0 c rfl
    simp at hv
    subst hv
    exact ⟨hr, CWs.mk (by simpa using hl) (fun j c' hj => by have := hg (j + 1) c' (by simpa using hj); simpa using this)⟩

theorem CWs.drop {M : Nat → Prop} : ∀ {us : List Value} {cs : List C} (n : Nat), CWs w M h loc us cs → CWs w M h loc (us.drop n) (cs.drop n)
  | us, cs, 0, hc => hc
  | [], [], n + 1, hc => hc
  | [], _ :: _, _, hc => by unfold CWs at hc; exact hc.elim
  | _ :: _, [], _, hc => by unfold CWs at hc; exact hc.elim
  | u :: us, c :: cs, n + 1, hc => by unfold CWs at hc; exact CWs.drop n hc.2

theorem CWs.take {M : Nat → Prop} : ∀ {us : List Value} {cs : List C} (n : Nat), CWs w M h loc us cs → CWs w M h loc (us.take n) (cs.take n)
  | us, cs, 0, hc => by simp; unfold CWs; trivial
  | [], [], n + 1, hc => hc
  | [], _ :: _, _, hc => by unfold CWs at hc; exact hc.elim
  | _ :: _, [], _, hc => by unfold CWs at hc; exact hc.elim
  | u :: us, c :: cs, n + 1, hc => by unfold CWs at hc; simp; unfold CWs; exact ⟨hc.1, CWs.take n hc.2⟩

theorem CWs.cut {M : Nat → Prop} {us : List Value} {cs : List C} (o n : Nat) (hc : CWs w M h loc us cs) : CWs w M h loc (cut us o n) (cut cs o n) := (hc.drop o).take n

theorem run_part_one {T : TypeId} {i : TI} (ht : TabOK P cfg) (hT : cfg.tb T = some i) (hd : isAggD i.desc = false) {xs : Array Value} {off : Nat} {u : Value} (hu : xs[off]? = some u) : (Go.part T xs off).run P w = .ok u w := by
  have h1 := ht.und T i hT
  have h2 : (isAgg T).run P w = .ok false w := by
    unfold isAgg
    rw [Sem.run_bind, run_underlying h1 w]
    cases hdesc : i.desc <;> simp_all [isAggD]
  simp [Go.part, Sem.run_bind, h2, hu]

theorem CW.sc {M : Nat → Prop} {u x : Value} (hc : CW w M h loc u (.f (.sc x))) : u = x := by
  unfold CW at hc
  obtain ⟨n, hn⟩ := hc
  cases n <;> exact hn.1

theorem scEqT_ok (ht : TabOK P cfg) {M : Nat → Prop} {T : TypeId} {i : TI} (hT : cfg.tb T = some i) {c d : C} {u v : Value} {b : Bool} {n : Nat}
    (hc : CW w M h loc u c) (hd : CW w M h loc v d) (he : scEqT i.desc c d = some b) :
    isAggD i.desc = false ∧ (Op.equalIn (n + 1) T u v).run P w = .ok b w := by
  have h1 := ht.und T i hT
  unfold scEqT at he
  split at he
  · rename_i hdesc
    obtain rfl := hc.sc
    obtain rfl := hd.sc
    simp at he; subst he
    exact ⟨by rw [hdesc]; rfl, run_equalIn_int w n T .i64 .i64 _ _ (by rw [h1, hdesc])⟩
  · rename_i hdesc
    obtain rfl := hc.sc
    obtain rfl := hd.sc
    simp only [Option.some.injEq] at he; subst he
    exact ⟨by rw [hdesc]; rfl, by rw [run_equalIn_string w n T _ _ (by rw [h1, hdesc]), beq_toListBytes]⟩
  · rename_i hdesc
    obtain rfl := hc.sc
    obtain rfl := hd.sc
    simp at he; subst he
    exact ⟨by rw [hdesc]; rfl, run_equalIn_bool' w n T _ _ (by rw [h1, hdesc])⟩
  · simp at he

theorem eqF_ok (ht : TabOK P cfg) {M : Nat → Prop} {d : Nat} {xs ys : Array Value} : ∀ (fs : List Field) (j : Nat) (cs ds : List C) (b : Bool),
    CWs w M h loc (xs.toList.drop j) cs → CWs w M h loc (ys.toList.drop j) ds → eqF cfg.tb j fs cs ds = some b → (Op.eqFields (d + 1) xs ys fs).run P w = .ok b w
  | [], j, [], [], b, _, _, he => by simp [eqF] at he; subst he; simp [Op.eqFields]
  | [], j, c :: cs, _, b, _, _, he => by simp [eqF] at he
  | [], j, [], _ :: _, b, _, _, he => by simp [eqF] at he
  | f :: fs, j, [], ds, b, _, _, he => by simp [eqF] at he
  | f :: fs, j, c :: cs, [], b, _, _, he => by simp [eqF] at he
  | f :: fs, j, c :: cs, e :: es, b, hx, hy, he => by
    simp only [eqF] at he
    cases hg : (f.name == "_" || !Nat.beq f.offset j) with
    | true => simp [hg] at he
    | false =>
      simp only [hg, cond_false, Option.bind_eq_some_iff] at he
      simp only [Bool.or_eq_false_iff] at hg
      obtain ⟨hnm, hoff⟩ := hg
      have hoff : f.offset = j := Nat.eq_of_beq_eq_true (by simpa using hoff)
      obtain ⟨i, hi, x, hx1, y, hy1, hb⟩ := he
      simp at hb
      subst hb
      cases hxl : xs.toList.drop j with
      | nil => rw [hxl] at hx; unfold CWs at hx; exact hx.elim
      | cons u us =>
        cases hyl : ys.toList.drop j with
        | nil => rw [hyl] at hy; unfold CWs at hy; exact hy.elim
        | cons v vs =>
          rw [hxl] at hx
          rw [hyl] at hy
          unfold CWs at hx hy
          have q := scEqT_ok ht hi hx.1 hy.1 hx1 (n := d)
          have hu : xs[f.offset]? = some u := by
            have := congrArg (fun l => l[0]?) hxl
            simp [List.getElem?_drop] at this
            rw [hoff]; exact this
          have hv : ys[f.offset]? = some v := by
            have := congrArg (fun l => l[0]?) hyl
            simp [List.getElem?_drop] at this
            rw [hoff]; exact this
          have hxs : xs.toList.drop (j + 1) = us := by
            have := congrArg List.tail hxl
            simpa [List.tail_drop] using this
          have hys : ys.toList.drop (j + 1) = vs := by
            have := congrArg List.tail hyl
            simpa [List.tail_drop] using this
          have ih := eqF_ok ht (d := d) fs (j + 1) cs es y (by rw [hxs]; exact hx.2) (by rw [hys]; exact hy.2) hy1
          have hn : f.name ≠ "_" := by simpa using hnm
          rw [Op.eqFields]
          simp only [if_pos hn, Sem.run_bind, run_part_one ht hi q.1 hu, run_part_one ht hi q.1 hv, q.2, Result.andThen_ok]
          cases x
          · simp
          · simpa using ih

/-- Two operands and an operator. -/
theorem bin_ok (ht : TabOK P cfg) {M : Nat → Prop} {op : BinOp} {T : TypeId} {x y : Operand} {u v : Value} {p q r : V} (hu : VW w M h loc u p) (hv : VW w M h loc v q)
    (hy : isConst y = true → ∃ c, y = .const c) (hb : bin cfg op T (isConst y) p q = some r) :
    ∃ z, VW w M h loc z r ∧ (do eqGuard op T x y u v; binOp op T u v : Sem Value).run P w = .ok z w := by
  unfold bin at hb
  split at hb
  · obtain rfl := hu.sc
    obtain rfl := hv.sc
    rename_i k a k' b
    have g := run_eqGuard_plain (P := P) (w := w) op T x y (.int k a) (.int k' b) (by simp) (by simp)
    cases hs : isShift op with
    | true =>
      simp only [hs, cond_true, Option.bind_eq_some_iff] at hb
      obtain ⟨f, hf, hr⟩ := hb
      obtain ⟨z, rfl, hz, hrun⟩ := shf_ok (P := P) (w := w) (k' := k') (T := T) hf
      simp at hr
      subst hr
      exact ⟨z, VW.mk_sc hz, by simp [Sem.run_bind, g, hrun]⟩
    | false =>
      simp only [hs, cond_false] at hb
      by_cases hk : k = k'
      · subst hk
        simp only [decide_true, cond_true, Option.bind_eq_some_iff] at hb
        obtain ⟨f, hf, hr⟩ := hb
        obtain ⟨z, rfl, hz, hrun⟩ := binI_ok (P := P) (w := w) (T := T) hf hs
        simp at hr
        subst hr
        exact ⟨z, VW.mk_sc hz, by simp [Sem.run_bind, g, hrun]⟩
      · simp [hk] at hb
  · obtain rfl := hu.sc
    obtain rfl := hv.sc
    rename_i a b
    have g := run_eqGuard_plain (P := P) (w := w) op T x y (.string a) (.string b) (by simp) (by simp)
    simp only [Option.bind_eq_some_iff] at hb
    obtain ⟨f, hf, hr⟩ := hb
    obtain ⟨z, rfl, hz, hrun⟩ := binS_ok (P := P) (w := w) (T := T) hf
    simp at hr
    subst hr
    exact ⟨z, VW.mk_sc hz, by simp [Sem.run_bind, g, hrun]⟩
  · obtain rfl := hu.sc
    obtain rfl := hv.sc
    rename_i a b
    have g := run_eqGuard_plain (P := P) (w := w) op T x y (.bool a) (.bool b) (by simp) (by simp)
    cases hT : cfg.tb T with
    | none => simp [hT] at hb
    | some i =>
      simp only [hT, Option.bind_some] at hb
      split at hb
      · rename_i hd
        have h1 := ht.und T i hT
        rw [hd] at h1
        simp only [Option.bind_eq_some_iff] at hb
        obtain ⟨f, hf, hr⟩ := hb
        simp at hr
        subst hr
        cases op <;> simp [eqB] at hf <;> subst hf
        · exact ⟨_, VW.mk_bool _, by simp [Sem.run_bind, g, binOp, Op.equal, Op.maxDepth, run_equalIn_bool' w 9999 T a b h1]⟩
        · exact ⟨_, VW.mk_bool _, by simp [Sem.run_bind, g, binOp, Op.equal, Op.maxDepth, run_equalIn_bool' w 9999 T a b h1]⟩
      · simp at hb
  · obtain rfl := hv.sc
    unfold VW CW at hu
    obtain ⟨n, hn⟩ := hu
    have hu2 : ∃ T2 x2, u = .iface T2 x2 := by cases n <;> exact hn
    obtain ⟨T2, x2, rfl⟩ := hu2
    have g := run_eqGuard_plain (P := P) (w := w) op T x y (.iface T2 x2) .nilIface (by simp) (by simp)
    cases hT : cfg.tb T with
    | none => simp [hT] at hb
    | some i =>
      simp only [hT, Option.bind_some] at hb
      split at hb
      · rename_i ms hd
        have h1 := ht.und T i hT
        rw [hd] at h1
        simp only [Option.bind_eq_some_iff] at hb
        obtain ⟨f, hf, hr⟩ := hb
        simp at hr
        subst hr
        cases op <;> simp [eqB] at hf <;> subst hf
        · exact ⟨_, VW.mk_bool _, by simp only [Sem.run_bind, g, Result.andThen_ok]; exact run_eql_held_nil w T T2 x2 (by simp [Program.methodsAt, h1])⟩
        · exact ⟨_, VW.mk_bool _, by simp only [Sem.run_bind, g, Result.andThen_ok]; exact run_neq_held_nil w T T2 x2 (by simp [Program.methodsAt, h1])⟩
      · simp at hb
  · obtain rfl := hv.sc
    obtain rfl := hu.sc
    cases hT : cfg.tb T with
    | none => simp [hT] at hb
    | some i =>
      simp only [hT, Option.bind_some] at hb
      split at hb
      · rename_i ms hd
        have h1 := ht.und T i hT
        rw [hd] at h1
        cases hcy : isConst y with
        | false => simp [hcy] at hb
        | true =>
          obtain ⟨c, rfl⟩ := hy hcy
          simp only [hcy, cond_true, Option.bind_eq_some_iff] at hb
          obtain ⟨f, hf, hr⟩ := hb
          simp at hr
          subst hr
          cases op <;> simp [eqB] at hf <;> subst hf
          · have g : (eqGuard .eql T x (.const c) .nilIface .nilIface).run P w = .ok () w := by simp [eqGuard]
            exact ⟨_, VW.mk_bool _, by simp only [Sem.run_bind, g, Result.andThen_ok]; exact run_eql_nil_nil w T (by simp [Program.methodsAt, h1])⟩
          · have g : (eqGuard .neq T x (.const c) .nilIface .nilIface).run P w = .ok () w := by simp [eqGuard]
            exact ⟨_, VW.mk_bool _, by simp only [Sem.run_bind, g, Result.andThen_ok]; exact run_neq_nil_nil w T (by simp [Program.methodsAt, h1])⟩
      · simp at hb
  · rename_i cs ds
    cases hq : cfg.eqT T with
    | false => simp [hq] at hb
    | true =>
      cases hT : cfg.tb T with
      | none => simp [hq, hT] at hb
      | some i =>
        simp only [hq, hT, Option.bind_some, cond_true] at hb
        split at hb
        · rename_i fs hd
          have h1 := ht.und T i hT
          rw [hd] at h1
          unfold VW at hu hv
          obtain ⟨us, rfl, hus⟩ := hu
          obtain ⟨vs, rfl, hvs⟩ := hv
          simp only [Option.bind_eq_some_iff] at hb
          obtain ⟨b, hb1, f, hf, hr⟩ := hb
          simp at hr
          subst hr
          have hfo : P.fieldsOf T = fs := by simp [Program.fieldsOf, h1]
          have e1 := eqF_ok ht (d := 9998) (xs := us.toArray) (ys := vs.toArray) (w := w) fs.toList 0 cs ds b (by simpa using hus) (by simpa using hvs) hb1
          have e2 : (Op.equalIn 10000 T (.agg us.toArray) (.agg vs.toArray)).run P w = .ok b w := by
            rw [run_equalIn_struct (P := P) w 9999 T us.toArray vs.toArray (by rw [hfo]; exact h1) (ht.eqf T hq).2, hfo]
            exact e1
          have g := run_eqGuard_agg (P := P) w op T x y us.toArray vs.toArray (ht.eqf T hq).1
          cases op <;> simp [eqB] at hf <;> subst hf
          · exact ⟨_, VW.mk_bool _, by simp only [Sem.run_bind, g, Result.andThen_ok, run_eql_struct, e2]⟩
          · exact ⟨_, VW.mk_bool _, by simp only [Sem.run_bind, g, Result.andThen_ok, run_neq_struct, e2]⟩
        · simp at hb
  · simp at hb

end
end Go.Vm
