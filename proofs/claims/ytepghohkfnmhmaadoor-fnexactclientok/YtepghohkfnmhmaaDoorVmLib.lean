/-
  Seat by seat used: loops over a list, terms as plain data, texts compared.
-/
import Derived.Test.YtepghohkfnmhmaaDoorVmLaw
import Derived.Test.YtepghohkfnmhmaaDoorVmLoop
import Derived.Laws.Strings
import Derived.WideShapes
namespace Go.Vm
set_option linter.unusedVariables false
set_option linter.unusedSimpArgs false

/-! ### Texts -/

theorem beq_bytes (a b : ByteArray) : (a.toList == b.toList) = decide (a = b) := by
  rw [ByteArray.toList_eq, ByteArray.toList_eq]
  by_cases h : a = b
  · subst h; simp
  · have : ¬ a.data.toList = b.data.toList := fun e => h (Go.WideShapes.bytes_inj e)
    simp only [h, decide_false, beq_eq_false_iff_ne, ne_eq]
    exact this

theorem beq_ba (a b : ByteArray) : (a == b) = decide (a = b) := by
  obtain ⟨x⟩ := a
  obtain ⟨y⟩ := b
  show (x == y) = _
  rw [Bool.eq_iff_iff]
  simp

theorem beq_int (a b : Int) : (a == b) = decide (a = b) := by
  rw [Bool.eq_iff_iff]
  simp

/-! ### Loops over a list -/

def lfold {α β γ : Type} (step : Nat → β → α → α ⊕ γ) : Nat → List β → α → α ⊕ γ
  | _, [], a => .inl a
  | i, x :: r, a => match step i x a with
    | .inl a' => lfold step (i + 1) r a'
    | .inr c => .inr c

section
variable {P : Program} {cfg : Cfg} {T : CallSem} {n d f r na : Nat} {α β γ : Type}

theorem lp_list (l : List β) (step : Nat → β → α → α ⊕ γ) (S : Nat → α → St) (O : α → Ex × St) (E : γ → Ex × St) (Inv : Nat → α → Prop)
    (hO : ∀ a, Inv l.length a → roundK P cfg T n d f r na (S l.length a) = some (O a)) (hO' : ∀ a, isN (O a).1 = false) (hE : ∀ c, isN (E c).1 = false)
    (hs : ∀ i x a, l[i]? = some x → i < l.length → Inv i a → roundK P cfg T n d f r na (S i a) = some (match step i x a with | .inl a' => (.nrm, S (i + 1) a') | .inr c => E c))
    (hi : ∀ i x a a', l[i]? = some x → i < l.length → Inv i a → step i x a = .inl a' → Inv (i + 1) a') :
    ∀ a q, Inv 0 a → l.length < q → lp P cfg T n d f r na q (S 0 a) = some (match lfold step 0 l a with | .inl a' => O a' | .inr c => E c) := by
  have main : ∀ (suf pre : List β) (a : α) (q : Nat), l = pre ++ suf → Inv pre.length a → suf.length < q →
      lp P cfg T n d f r na q (S pre.length a) = some (match lfold step pre.length suf a with | .inl a' => O a' | .inr c => E c) := by
    intro suf
    induction suf with
    | nil =>
      intro pre a q hl hi hq
      obtain ⟨q, rfl⟩ : ∃ q', q = q' + 1 := ⟨q - 1, by omega⟩
      have : pre.length = l.length := by rw [hl]; simp
      rw [this] at hi ⊢
      exact lp_out (hO a hi) (hO' a)
    | cons x suf ih =>
      intro pre a q hl h0 hq
      obtain ⟨q, rfl⟩ : ∃ q', q = q' + 1 := ⟨q - 1, by omega⟩
      have hx : l[pre.length]? = some x := by rw [hl]; simp
      have hlt : pre.length < l.length := by rw [hl]; simp
      have h1 := hs pre.length x a hx hlt h0
      have h3 := hi pre.length x a
      unfold lfold
      cases hst : step pre.length x a with
      | inl a' =>
        rw [hst] at h1
        have h2 := ih (pre ++ [x]) a' q (by rw [hl]; simp) (by simpa using h3 a' hx hlt h0 hst) (by simp at hq; omega)
        simp only [List.length_append, List.length_cons, List.length_nil, Nat.zero_add] at h2
        exact lp_next h1 h2
      | inr c =>
        rw [hst] at h1
        exact lp_out h1 (hE c)
  intro a q h0 hq
  exact main l [] a q rfl h0 hq

theorem qb_run {α β : Type} {x : Option α} {v : α} {k : α → Option β} (h : x = some v) : qb x k = k v := by rw [h]; rfl

/-- Two lists, place by place. -/
theorem lp_eq [DecidableEq β] (a b : List β) (hl : a.length = b.length) (S : Nat → St) (O E : Ex × St)
    (hO : roundK P cfg T n d f r na (S a.length) = some O) (hO' : isN O.1 = false) (hE : isN E.1 = false)
    (hs : ∀ i x y, a[i]? = some x → b[i]? = some y → i < a.length → (x = y → roundK P cfg T n d f r na (S i) = some (.nrm, S (i + 1))) ∧ (x ≠ y → roundK P cfg T n d f r na (S i) = some E)) :
    ∀ q, a.length < q → ∃ e, e = decide (a = b) ∧ lp P cfg T n d f r na q (S 0) = some (bif e then O else E) := by
  have main : ∀ (sa sb pa pb : List β) (q : Nat), a = pa ++ sa → b = pb ++ sb → pa.length = pb.length → sa.length = sb.length → sa.length < q →
      ∃ e, e = decide (sa = sb) ∧ lp P cfg T n d f r na q (S pa.length) = some (bif e then O else E) := by
    intro sa
    induction sa with
    | nil =>
      intro sb pa pb q ha hb hp hs2 hq
      obtain ⟨q, rfl⟩ : ∃ q', q = q' + 1 := ⟨q - 1, by omega⟩
      have : pa.length = a.length := by rw [ha]; simp
      cases sb with
      | cons => simp at hs2
      | nil => exact ⟨true, by simp, by rw [this]; exact lp_out hO hO'⟩
    | cons x sa ih =>
      intro sb pa pb q ha hb hp hs2 hq
      obtain ⟨q, rfl⟩ : ∃ q', q = q' + 1 := ⟨q - 1, by omega⟩
      cases sb with
      | nil => simp at hs2
      | cons y sb =>
        have h := hs pa.length x y (by rw [ha]; simp) (by rw [hb, hp]; simp) (by rw [ha]; simp)
        by_cases he : x = y
        · obtain ⟨e, h1, h2⟩ := ih sb (pa ++ [x]) (pb ++ [y]) q (by rw [ha]; simp) (by rw [hb]; simp) (by simp [hp]) (by simpa using hs2) (by simp at hq; omega)
          simp only [List.length_append, List.length_cons, List.length_nil, Nat.zero_add] at h2
          exact ⟨e, by rw [h1, he]; simp, lp_next (h.1 he) h2⟩
        · exact ⟨false, by simp [he], lp_out (h.2 he) hE⟩
  intro q hq
  exact main a b [] [] q rfl rfl rfl hl hq

/-- A row that is filled place by place. -/
theorem lp_copy (l : List β) (z : β) (S : Nat → List β → St) (O : List β → St)
    (hO : ∀ a, a.length = l.length → roundK P cfg T n d f r na (S l.length a) = some (.ext 0, O a))
    (hs : ∀ i x a, l[i]? = some x → i < l.length → a.length = l.length → roundK P cfg T n d f r na (S i a) = some (.nrm, S (i + 1) (a.set i x))) :
    ∀ q, l.length < q → lp P cfg T n d f r na q (S 0 (List.replicate l.length z)) = some (.ext 0, O l) := by
  intro q hq
  have hloop := lp_list (P := P) (cfg := cfg) (T := T) (n := n) (d := d) (f := f) (r := r) (na := na) l (fun i x (a : List β) => (.inl (a.set i x) : List β ⊕ Unit)) S (fun a => (.ext 0, O a)) (fun _ => (.ret, O [])) (fun i a => a.length = l.length)
    hO (fun _ => rfl) (fun _ => rfl) hs (fun i x a a' hx hi hinv hst => by cases hst; simp [hinv]) (List.replicate l.length z) q (by simp) hq
  have hres : ∀ (r p z : List β) (i : Nat), p.length = i → z.length = r.length → lfold (fun i x (a : List β) => (.inl (a.set i x) : List β ⊕ Unit)) i r (p ++ z) = .inl (p ++ r) := by
    intro r
    induction r with
    | nil => intro p z i h1 h2; cases z with | nil => rfl | cons => simp at h2
    | cons x r ihl =>
      intro p z i h1 h2
      cases z with
      | nil => simp at h2
      | cons y z =>
        simp only [lfold]
        rw [show (p ++ y :: z).set i x = (p ++ [x]) ++ z by subst h1; simp]
        rw [ihl (p ++ [x]) z (i + 1) (by simp [h1]) (by simpa using h2)]
        simp
  have hr := hres l [] (List.replicate l.length z) 0 rfl (by simp)
  rw [List.nil_append, List.nil_append] at hr
  rw [hr] at hloop
  exact hloop

/-- What elements hold, together. -/
def sumC (c : β → Nat) : List β → Nat
  | [] => 0
  | x :: r => c x + sumC c r

theorem sumC_mem (c : β → Nat) {x : β} : ∀ {l : List β}, x ∈ l → c x ≤ sumC c l
  | y :: l, h => by
    simp only [sumC]
    cases h with
    | head => omega
    | tail _ h => have := sumC_mem c h; omega

/-- What is left, or -1. -/
def vLeft (c : Nat) (left : Int) : Int := if (c : Int) ≤ left then left - c else -1

/-- Elements taken off what is left, one by one. -/
theorem lp_sz (l : List β) (c : β → Nat) (S : Nat → Int → St) (O : Int → St) (E : Int → St)
    (hO : ∀ left, 0 ≤ left → left ≤ 1048576 → roundK P cfg T n d f r na (S l.length left) = some (.ext 0, O left))
    (hs : ∀ i x left, l[i]? = some x → i < l.length → 0 ≤ left → left ≤ 1048576 → ((c x : Int) ≤ left → roundK P cfg T n d f r na (S i left) = some (.nrm, S (i + 1) (left - c x))) ∧
      (¬ (c x : Int) ≤ left → ∃ m, roundK P cfg T n d f r na (S i left) = some (.ret, E m))) :
    ∀ (left : Int) q, 0 ≤ left → left ≤ 1048576 → l.length < q → ((sumC c l : Int) ≤ left → lp P cfg T n d f r na q (S 0 left) = some (.ext 0, O (left - sumC c l))) ∧
      (¬ (sumC c l : Int) ≤ left → ∃ m, lp P cfg T n d f r na q (S 0 left) = some (.ret, E m)) := by
  have main : ∀ (suf pre : List β) (left : Int) (q : Nat), l = pre ++ suf → 0 ≤ left → left ≤ 1048576 → suf.length < q →
      ((sumC c suf : Int) ≤ left → lp P cfg T n d f r na q (S pre.length left) = some (.ext 0, O (left - sumC c suf))) ∧
      (¬ (sumC c suf : Int) ≤ left → ∃ m, lp P cfg T n d f r na q (S pre.length left) = some (.ret, E m)) := by
    intro suf
    induction suf with
    | nil =>
      intro pre left q hl h0 h1 hq
      obtain ⟨q, rfl⟩ : ∃ q', q = q' + 1 := ⟨q - 1, by omega⟩
      have : pre.length = l.length := by rw [hl]; simp
      rw [this]
      refine ⟨fun _ => ?_, fun h => absurd h0 (by simpa [sumC] using h)⟩
      rw [show left - ((sumC c ([] : List β) : Nat) : Int) = left by simp [sumC]]
      exact lp_out (hO left h0 h1) rfl
    | cons x suf ih =>
      intro pre left q hl h0 h1 hq
      obtain ⟨q, rfl⟩ : ∃ q', q = q' + 1 := ⟨q - 1, by omega⟩
      have hx : l[pre.length]? = some x := by rw [hl]; simp
      have hlt : pre.length < l.length := by rw [hl]; simp
      have hstep := hs pre.length x left hx hlt h0 h1
      have hsum : sumC c (x :: suf) = c x + sumC c suf := rfl
      by_cases hc : (c x : Int) ≤ left
      · have h2 := ih (pre ++ [x]) (left - c x) q (by rw [hl]; simp) (by omega) (by omega) (by simp at hq; omega)
        simp only [List.length_append, List.length_cons, List.length_nil, Nat.zero_add] at h2
        refine ⟨fun h => ?_, fun h => ?_⟩
        · rw [show left - ((sumC c (x :: suf) : Nat) : Int) = left - c x - sumC c suf by rw [hsum]; omega]
          exact lp_next (hstep.1 hc) (h2.1 (by rw [hsum] at h; omega))
        · obtain ⟨m, hm⟩ := h2.2 (by rw [hsum] at h; omega)
          exact ⟨m, lp_next (hstep.1 hc) hm⟩
      · refine ⟨fun h => absurd hc (by rw [hsum] at h; omega), fun _ => ?_⟩
        obtain ⟨m, hm⟩ := hstep.2 hc
        exact ⟨m, lp_out hm rfl⟩
  intro left q h0 h1 hq
  exact main l [] left q rfl h0 h1 hq

theorem lt_t {i k : Nat} (h : i < k) : decide ((i : Int) < (k : Int)) = true := by simp; omega
theorem lt_self (k : Nat) : decide ((k : Int) < (k : Int)) = false := by simp

theorem idx_nat {l : List β} {i : Nat} {x : β} (h : l[i]? = some x) : idx l (i : Int) = some x := by
  unfold idx
  rw [if_pos (by omega), show (i : Int).toNat = i by omega, h]

theorem wrap_succ {i : Nat} (h : i < 9223372036854775807) : IntKind.i64.wrap ((i : Int) + 1) = ((i + 1 : Nat) : Int) := by
  rw [IntKind.wrap_i64]
  omega

theorem wrap_id {i : Int} (h0 : -9223372036854775808 ≤ i) (h1 : i ≤ 9223372036854775807) : IntKind.i64.wrap i = i := by
  rw [IntKind.wrap_i64]
  omega

theorem byteAt_nat {s : ByteArray} {i : Nat} {b : UInt8} (h : s[i]? = some b) : byteAt s (i : Int) = some (b.toNat : Int) := by
  unfold byteAt
  rw [if_pos (by omega), show (i : Int).toNat = i by omega, h]
  rfl

theorem pres_row {f : FuncId} {xs : List V} {w : Bool} {k : Kind} {l : List (El k)} (h : T f xs [] = some (.c (.row (.ret 0 0) k), [], [.row w k l])) : pres T f xs = some (.sl false k l) := by
  unfold pres
  rw [h]
  simp [frzBack, snapC, hpOf, Id.beq]

/-- A pair of a frozen struct and a scalar. -/
theorem pres_tup2 {f : FuncId} {xs : List V} {fs : List F} {y : F} (h : T f xs [] = some (.tup [.ag fs, .c (.f y)], [], [])) : pres T f xs = some (.tup [.ag fs, .c (.f y)]) := by
  unfold pres
  rw [h]
  simp only [Option.bind_some, frzBack, lmapM, snap_fs, snapC, Option.map_some]

end

theorem bytes_get {s : ByteArray} {i : Nat} {b : UInt8} (h : s.data.toList[i]? = some b) : s[i]? = some b := by
  have hi : i < s.data.toList.length := by
    rcases Nat.lt_or_ge i s.data.toList.length with h' | h'
    · exact h'
    · rw [List.getElem?_eq_none h'] at h; cases h
  have h2 : i < s.size := by simpa using hi
  rw [ByteArray.getElem?_lt' s i h2]
  rw [List.getElem?_eq_getElem hi] at h
  rw [← h]
  rfl

theorem bytes_len (s : ByteArray) : s.data.toList.length = s.size := by cases s; rfl

/-- A loop that tests each. -/
theorem lfold_all {β γ : Type} (p : β → Bool) (c : γ) : ∀ (l : List β) (i : Nat), lfold (fun _ x (_ : Unit) => if p x = true then (.inl () : Unit ⊕ γ) else .inr c) i l () = if l.all p = true then .inl () else .inr c
  | [], i => rfl
  | x :: l, i => by
    simp only [lfold]
    by_cases h : p x = true
    · simp only [h, if_true, lfold_all p c l (i + 1), List.all_cons, Bool.true_and]
    · simp only [h, if_false, List.all_cons]; simp

/-! ### Domains, letters, notes -/

def isLow (b : UInt8) : Bool := !(decide (b.toNat < 97) || decide (b.toNat > 122))

def domOk (s : ByteArray) : Bool := s.data.toList.all isLow && decide (1 ≤ s.size ∧ s.size ≤ 10)

def isTime (n : Int) : Bool := decide (0 ≤ n) && decide (n ≤ 100000)
def isAtom (n : Int) : Bool := decide (0 ≤ n) && decide (n ≤ 1000000)

def letterOk (l : Letter) : Bool := domOk l.domain && isAtom l.body && decide (1 ≤ l.state) && decide (l.state ≤ 3) && decide (0 ≤ l.tries) && decide (l.tries ≤ 4) && isTime l.next

def noteOk (n : Note) : Bool :=
  decide (0 ≤ n.who) && decide (n.who ≤ 29) &&
    (if n.kind = 1 then domOk n.domain && isAtom n.body && decide (n.time = 0)
    else if n.kind = 2 then decide (n.domain = ⟨#[]⟩) && decide (n.body = 0) && isTime n.time
    else decide (n.kind = 3 ∨ n.kind = 4) && decide (n.domain = ⟨#[]⟩) && decide (n.body = 0) && decide (n.time = 0))

def letterTry (l : Letter) (now : Int) : Letter × Bool :=
  if letterOk l && decide (l.state = 1) && isTime now && decide (l.next ≤ now) && decide (l.tries < 4) then
    ({ l with tries := l.tries + 1, next := min 100000 (now + 10 * 2 ^ (l.tries + 1).toNat) }, true)
  else (l, false)

theorem try_pow {t : Int} (h0 : 0 ≤ t) (h1 : t < 4) : IntKind.i64.wrap (t + 1) = t + 1 ∧ ge0 (t + 1) = some () ∧ IntKind.i64.wrap (10 * 2 ^ min (t + 1).toNat IntKind.i64.bits) = 10 * 2 ^ (t + 1).toNat ∧
    (10 * 2 ^ (t + 1).toNat : Int) ≤ 160 ∧ (0 : Int) < 10 * 2 ^ (t + 1).toNat := by
  have : t = 0 ∨ t = 1 ∨ t = 2 ∨ t = 3 := by omega
  rcases this with rfl | rfl | rfl | rfl <;> decide

theorem letterOk_spec {l : Letter} (h : letterOk l = true) : domOk l.domain = true ∧ isAtom l.body = true ∧ 1 ≤ l.state ∧ l.state ≤ 3 ∧ 0 ≤ l.tries ∧ l.tries ≤ 4 ∧ 0 ≤ l.next ∧ l.next ≤ 100000 := by
  unfold letterOk isTime at h
  simp only [Bool.and_eq_true, decide_eq_true_eq] at h
  obtain ⟨⟨⟨⟨⟨⟨h1, h2⟩, h3⟩, h4⟩, h5⟩, h6⟩, h7, h8⟩ := h
  exact ⟨h1, h2, h3, h4, h5, h6, h7, h8⟩

/-! ### Terms -/

theorem Term.eta (x : Term) : (⟨x.op, x.n, x.s, x.kids⟩ : Term) = x := by cases x; rfl

mutual
/-- How much a term holds: the bytes and the kids, all the way. -/
def Term.cost : Term → Nat
  | ⟨_, _, s, k⟩ => s.size + Term.costs k
def Term.costs : List Term → Nat
  | [] => 0
  | t :: l => 1 + Term.cost t + Term.costs l
end

mutual
theorem Term.ind {P : Term → Prop} (h : ∀ t, (∀ x ∈ t.kids, P x) → P t) : ∀ t, P t
  | ⟨o, n, s, k⟩ => h _ (Term.inds h k)
theorem Term.inds {P : Term → Prop} (h : ∀ t, (∀ x ∈ t.kids, P x) → P t) : ∀ (l : List Term), ∀ x ∈ l, P x
  | [], x, hx => by cases hx
  | t :: l, x, hx => by
    cases hx with
    | head => exact Term.ind h t
    | tail _ hx => exact Term.inds h l x hx
end

theorem Term.cost_eq (t : Term) : t.cost = t.s.size + Term.costs t.kids := by cases t; rw [Term.cost]

theorem Term.costs_len : ∀ (l : List Term), l.length ≤ Term.costs l
  | [] => by simp [Term.costs]
  | t :: l => by have := Term.costs_len l; simp [Term.costs]; omega

theorem Term.costs_mem {x : Term} : ∀ {l : List Term}, x ∈ l → x.cost + 1 ≤ Term.costs l
  | t :: l, h => by
    simp only [Term.costs]
    cases h with
    | head => omega
    | tail _ h => have := Term.costs_mem h; omega

/-- All sizes fit. -/
inductive Term.Bd : Term → Prop
  | mk {t : Term} (h1 : t.s.size ≤ maxLen) (h2 : t.kids.length ≤ maxLen) (h3 : ∀ x ∈ t.kids, Term.Bd x) : Term.Bd t

theorem Term.Bd.of {n : Nat} : ∀ {t : Term}, (∀ f ∈ Term.cells t, BdF n f) → t.Bd := by
  induction n with
  | zero =>
    intro t h
    have := h (.sl false .term t.kids) (by simp [Term.cells])
    exact this.elim
  | succ n ih =>
    intro t h
    have h1 := h (.str t.s) (by simp [Term.cells])
    have h2 := h (.sl false .term t.kids) (by simp [Term.cells])
    exact ⟨h1, h2.1, fun x hx => ih (h2.2 x hx)⟩

theorem catOk_ok {x y : ByteArray} (h : x.size + y.size ≤ 9223372036854775807) : catOk x y = some () := by
  unfold catOk
  rw [if_neg]
  rw [show IntKind.i64.max = 9223372036854775807 from rfl]
  omega

theorem ba_size (a : Array UInt8) : (ByteArray.mk a).size = a.size := rfl

/-- The n-th of words, from 1 on; none of others. -/
def nameOf (n : Int) (l : List ByteArray) : ByteArray := if 1 ≤ n ∧ n ≤ l.length then l.getD (n - 1).toNat ⟨#[]⟩ else ⟨#[110, 111, 110, 101]⟩

theorem nameOf_size {n : Int} {l : List ByteArray} {k : Nat} (hk : 4 ≤ k) (h : ∀ x ∈ l, x.size ≤ k) : (nameOf n l).size ≤ k := by
  unfold nameOf
  split
  · rename_i hn
    rw [List.getD_eq_getElem?_getD]
    cases hx : l[(n - 1).toNat]? with
    | none => simp [ba_size]
    | some x => exact h x (List.mem_of_getElem? hx)
  · simp [ba_size]; omega

theorem idx_name {n : Int} {l : List ByteArray} (h1 : 1 ≤ n) (h2 : n ≤ l.length) (h3 : l.length ≤ 1000) : idx l (IntKind.i64.wrap (n - 1)) = some (nameOf n l) := by
  rw [wrap_id (by omega) (by omega)]
  unfold idx nameOf
  rw [if_pos (by omega), if_pos ⟨h1, h2⟩, List.getD_eq_getElem?_getD, List.getElem?_eq_getElem (by omega)]
  rfl

theorem bd_int {n : Int} (h : ∃ m, BdF m (.int n)) : -9223372036854775808 ≤ n ∧ n ≤ 9223372036854775807 := by
  obtain ⟨m, h⟩ := h
  have : IntKind.i64.min ≤ n ∧ n ≤ IntKind.i64.max := by cases m <;> exact h
  exact this

theorem bd_str {s : ByteArray} (h : ∃ m, BdF m (.str s)) : s.size ≤ 9223372036854775807 := by
  obtain ⟨m, h⟩ := h
  cases m <;> exact h

theorem bd_of {fs : List F} (h : ∃ n, ∀ f ∈ fs, BdF n f) {f : F} (hf : f ∈ fs) : ∃ n, BdF n f := by
  obtain ⟨n, h⟩ := h
  exact ⟨n, h f hf⟩

theorem Client.Bd_share {n : Nat} {c : Client} (h : ∀ f ∈ Client.cells c, BdF n f) : c.share.Bd ∧ c.host.size ≤ maxLen := by
  refine ⟨Term.Bd.of (n := n) fun f hf => h f ?_, ?_⟩
  · simp only [Term.cells, List.mem_cons, List.not_mem_nil, or_false] at hf
    simp only [Client.cells, List.mem_cons, List.not_mem_nil, or_false]
    rcases hf with h | h | h | h <;> simp [h]
  · have := h (.str c.host) (by simp [Client.cells])
    cases n <;> exact this

/-! ### Policies -/

def Policy.cost (p : Policy) : Nat := p.domain.size + (p.mx.length + sumC ByteArray.size p.mx)

def Policy.Bd (p : Policy) : Prop := p.domain.size ≤ 9223372036854775807 ∧ p.mx.length ≤ 9223372036854775807 ∧ ∀ x ∈ p.mx, x.size ≤ 9223372036854775807

theorem bd_sl {t : Bool} {k : Kind} {l : List (El k)} (h : ∃ n, BdF n (.sl t k l)) : l.length ≤ 9223372036854775807 ∧ ∃ n, ∀ x ∈ l, ∀ f ∈ cellsOf k x, BdF n f := by
  obtain ⟨n, h⟩ := h
  cases n with
  | zero => exact h.elim
  | succ n => exact ⟨h.1, n, h.2⟩

theorem Policy.Bd.of {p : Policy} (h : ∃ n, ∀ f ∈ Policy.cells p, BdF n f) : p.Bd := by
  have h1 := bd_str (bd_of h (f := .str p.domain) (by simp [Policy.cells]))
  obtain ⟨h2, n, h3⟩ := bd_sl (bd_of h (f := .sl false .str p.mx) (by simp [Policy.cells]))
  exact ⟨h1, h2, fun x hx => bd_str ⟨n, h3 x hx (.str x) (by simp [cellsOf])⟩⟩

/-! ### Servers, letters -/

def Client.cost (c : Client) : Nat := c.host.size + c.share.cost
def Host.cost (h : Host) : Nat := h.name.size
def Letter.cost (l : Letter) : Nat := l.domain.size
def CallD.cost (c : CallD) : Nat := c.client.cost
def Server.cost (s : Server) : Nat := s.host.size + s.cert.cost + s.share.cost + s.got.length

def Talk.cost (t : Talk) : Nat := t.server.cost

structure Server.Bd (s : Server) : Prop where
  host : s.host.size ≤ 9223372036854775807
  cert : s.cert.Bd
  share : s.share.Bd
  got : s.got.length ≤ 9223372036854775807

theorem Server.Bd.of {s : Server} (h : ∃ n, ∀ f ∈ Server.cells s, BdF n f) : s.Bd := by
  obtain ⟨n, h⟩ := h
  refine ⟨bd_str ⟨n, h (.str s.host) (by simp [Server.cells])⟩, Term.Bd.of (n := n) fun f hf => h f ?_, Term.Bd.of (n := n) fun f hf => h f ?_, (bd_sl ⟨n, h (.sl false .int s.got) (by simp [Server.cells])⟩).1⟩
  · simp only [Term.cells, List.mem_cons, List.not_mem_nil, or_false] at hf
    simp only [Server.cells, List.mem_cons, List.not_mem_nil, or_false]
    rcases hf with h | h | h | h <;> simp [h]
  · simp only [Term.cells, List.mem_cons, List.not_mem_nil, or_false] at hf
    simp only [Server.cells, List.mem_cons, List.not_mem_nil, or_false]
    rcases hf with h | h | h | h <;> simp [h]

/-- Taken off one behind the other. -/
theorem vLeft_add {a b : Nat} {left : Int} (h : (a : Int) ≤ left) : vLeft (a + b) left = vLeft b (left - a) := by
  unfold vLeft
  by_cases h2 : ((a + b : Nat) : Int) ≤ left
  · rw [if_pos h2, if_pos (by omega)]; omega
  · rw [if_neg h2, if_neg (by omega)]

theorem vLeft_no {a b : Nat} {left : Int} (h : ¬ (a : Int) ≤ left) : vLeft (a + b) left = -1 := by
  unfold vLeft
  rw [if_neg (by omega)]

theorem vLeft_yes {a : Nat} {left : Int} (h : (a : Int) ≤ left) : vLeft a left = left - a := by
  unfold vLeft
  rw [if_pos h]

theorem vLeft_not {a : Nat} {left : Int} (h : ¬ (a : Int) ≤ left) : vLeft a left = -1 := by
  unfold vLeft
  rw [if_neg h]

end Go.Vm
