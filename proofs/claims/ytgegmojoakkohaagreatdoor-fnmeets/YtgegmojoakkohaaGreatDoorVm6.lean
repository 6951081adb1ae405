/-
  Seat by seat used: loops over a list, terms as plain data, texts compared.
-/
import Derived.Test.YtgegmojoakkohaaGreatDoorVm5r
import Derived.Laws.Strings
import Derived.WideShapes
import Derived.Shelf.Strconv.Itoa3
import Derived.Shelf.Strings.OnBuilder
import Derived.Lib.LaidTab
import Derived.Lib.ItoaLen
import Derived.Lib.SplitLaws
import Derived.Lib.AtoiAll
import Derived.Lib.AtoiErrMem
import Derived.Laws.AppendOwn
import Derived.Lib.IndexBytes
import Derived.HandedShaped
import Derived.Handed
namespace Go.Vm
set_option linter.unusedVariables false
set_option linter.unusedSimpArgs false

/-! ### Texts -/

theorem beq_bytes (a b : ByteArray) : (a.toList == b.toList) = decide (a = b) := by
  rw [ByteArray.toList_eq, ByteArray.toList_eq]
  by_cases h : a = b
  · subst h; simp
  · have : ¬ a.data.toList = b.data.toList := fun e => h (Go.WideShapes.bytes_inj e)
    simp only [h, decide_false, beq_eq_false_iff_ne, ne_eq]
    exact this

theorem beq_ba (a b : ByteArray) : (a == b) = decide (a = b) := by
  obtain ⟨x⟩ := a
  obtain ⟨y⟩ := b
  show (x == y) = _
  rw [Bool.eq_iff_iff]
  simp

theorem beq_int (a b : Int) : (a == b) = decide (a = b) := by
  rw [Bool.eq_iff_iff]
  simp

/-! ### Loops over a list -/

def lfold {α β γ : Type} (step : Nat → β → α → α ⊕ γ) : Nat → List β → α → α ⊕ γ
  | _, [], a => .inl a
  | i, x :: r, a => match step i x a with
    | .inl a' => lfold step (i + 1) r a'
    | .inr c => .inr c

section
variable {P : Program} {cfg : Cfg} {T : CallSem} {n d f r na : Nat} {α β γ : Type}

theorem lp_list (l : List β) (step : Nat → β → α → α ⊕ γ) (S : Nat → α → St) (O : α → Ex × St) (E : γ → Ex × St) (Inv : Nat → α → Prop)
    (hO : ∀ a, Inv l.length a → roundK P cfg T n d f r na (S l.length a) = some (O a)) (hO' : ∀ a, isN (O a).1 = false) (hE : ∀ c, isN (E c).1 = false)
    (hs : ∀ i x a, l[i]? = some x → i < l.length → Inv i a → roundK P cfg T n d f r na (S i a) = some (match step i x a with | .inl a' => (.nrm, S (i + 1) a') | .inr c => E c))
    (hi : ∀ i x a a', l[i]? = some x → i < l.length → Inv i a → step i x a = .inl a' → Inv (i + 1) a') :
    ∀ a q, Inv 0 a → l.length < q → lp P cfg T n d f r na q (S 0 a) = some (match lfold step 0 l a with | .inl a' => O a' | .inr c => E c) := by
  have main : ∀ (suf pre : List β) (a : α) (q : Nat), l = pre ++ suf → Inv pre.length a → suf.length < q →
      lp P cfg T n d f r na q (S pre.length a) = some (match lfold step pre.length suf a with | .inl a' => O a' | .inr c => E c) := by
    intro suf
    induction suf with
    | nil =>
      intro pre a q hl hi hq
      obtain ⟨q, rfl⟩ : ∃ q', q = q' + 1 := ⟨q - 1, by omega⟩
      have : pre.length = l.length := by rw [hl]; simp
      rw [this] at hi ⊢
      exact lp_out (hO a hi) (hO' a)
    | cons x suf ih =>
      intro pre a q hl h0 hq
      obtain ⟨q, rfl⟩ : ∃ q', q = q' + 1 := ⟨q - 1, by omega⟩
      have hx : l[pre.length]? = some x := by rw [hl]; simp
      have hlt : pre.length < l.length := by rw [hl]; simp
      have h1 := hs pre.length x a hx hlt h0
      have h3 := hi pre.length x a
      unfold lfold
      cases hst : step pre.length x a with
      | inl a' =>
        rw [hst] at h1
        have h2 := ih (pre ++ [x]) a' q (by rw [hl]; simp) (by simpa using h3 a' hx hlt h0 hst) (by simp at hq; omega)
        simp only [List.length_append, List.length_cons, List.length_nil, Nat.zero_add] at h2
        exact lp_next h1 h2
      | inr c =>
        rw [hst] at h1
        exact lp_out h1 (hE c)
  intro a q h0 hq
  exact main l [] a q rfl h0 hq

theorem qb_run {α β : Type} {x : Option α} {v : α} {k : α → Option β} (h : x = some v) : qb x k = k v := by rw [h]; rfl

/-- Two lists, place by place. -/
theorem lp_eq [DecidableEq β] (a b : List β) (hl : a.length = b.length) (S : Nat → St) (O E : Ex × St)
    (hO : roundK P cfg T n d f r na (S a.length) = some O) (hO' : isN O.1 = false) (hE : isN E.1 = false)
    (hs : ∀ i x y, a[i]? = some x → b[i]? = some y → i < a.length → (x = y → roundK P cfg T n d f r na (S i) = some (.nrm, S (i + 1))) ∧ (x ≠ y → roundK P cfg T n d f r na (S i) = some E)) :
    ∀ q, a.length < q → ∃ e, e = decide (a = b) ∧ lp P cfg T n d f r na q (S 0) = some (bif e then O else E) := by
  have main : ∀ (sa sb pa pb : List β) (q : Nat), a = pa ++ sa → b = pb ++ sb → pa.length = pb.length → sa.length = sb.length → sa.length < q →
      ∃ e, e = decide (sa = sb) ∧ lp P cfg T n d f r na q (S pa.length) = some (bif e then O else E) := by
    intro sa
    induction sa with
    | nil =>
      intro sb pa pb q ha hb hp hs2 hq
      obtain ⟨q, rfl⟩ : ∃ q', q = q' + 1 := ⟨q - 1, by omega⟩
      have : pa.length = a.length := by rw [ha]; simp
      cases sb with
      | cons => simp at hs2
      | nil => exact ⟨true, by simp, by rw [this]; exact lp_out hO hO'⟩
    | cons x sa ih =>
      intro sb pa pb q ha hb hp hs2 hq
      obtain ⟨q, rfl⟩ : ∃ q', q = q' + 1 := ⟨q - 1, by omega⟩
      cases sb with
      | nil => simp at hs2
      | cons y sb =>
        have h := hs pa.length x y (by rw [ha]; simp) (by rw [hb, hp]; simp) (by rw [ha]; simp)
        by_cases he : x = y
        · obtain ⟨e, h1, h2⟩ := ih sb (pa ++ [x]) (pb ++ [y]) q (by rw [ha]; simp) (by rw [hb]; simp) (by simp [hp]) (by simpa using hs2) (by simp at hq; omega)
          simp only [List.length_append, List.length_cons, List.length_nil, Nat.zero_add] at h2
          exact ⟨e, by rw [h1, he]; simp, lp_next (h.1 he) h2⟩
        · exact ⟨false, by simp [he], lp_out (h.2 he) hE⟩
  intro q hq
  exact main a b [] [] q rfl rfl rfl hl hq

/-- A row that is filled place by place. -/
theorem lp_copy (l : List β) (z : β) (S : Nat → List β → St) (O : List β → St)
    (hO : ∀ a, a.length = l.length → roundK P cfg T n d f r na (S l.length a) = some (.ext 0, O a))
    (hs : ∀ i x a, l[i]? = some x → i < l.length → a.length = l.length → roundK P cfg T n d f r na (S i a) = some (.nrm, S (i + 1) (a.set i x))) :
    ∀ q, l.length < q → lp P cfg T n d f r na q (S 0 (List.replicate l.length z)) = some (.ext 0, O l) := by
  intro q hq
  have hloop := lp_list (P := P) (cfg := cfg) (T := T) (n := n) (d := d) (f := f) (r := r) (na := na) l (fun i x (a : List β) => (.inl (a.set i x) : List β ⊕ Unit)) S (fun a => (.ext 0, O a)) (fun _ => (.ret, O [])) (fun i a => a.length = l.length)
    hO (fun _ => rfl) (fun _ => rfl) hs (fun i x a a' hx hi hinv hst => by cases hst; simp [hinv]) (List.replicate l.length z) q (by simp) hq
  have hres : ∀ (r p z : List β) (i : Nat), p.length = i → z.length = r.length → lfold (fun i x (a : List β) => (.inl (a.set i x) : List β ⊕ Unit)) i r (p ++ z) = .inl (p ++ r) := by
    intro r
    induction r with
    | nil => intro p z i h1 h2; cases z with | nil => rfl | cons => simp at h2
    | cons x r ihl =>
      intro p z i h1 h2
      cases z with
      | nil => simp at h2
      | cons y z =>
        simp only [lfold]
        rw [show (p ++ y :: z).set i x = (p ++ [x]) ++ z by subst h1; simp]
        rw [ihl (p ++ [x]) z (i + 1) (by simp [h1]) (by simpa using h2)]
        simp
  have hr := hres l [] (List.replicate l.length z) 0 rfl (by simp)
  rw [List.nil_append, List.nil_append] at hr
  rw [hr] at hloop
  exact hloop

/-- What elements hold, together. -/
def sumC (c : β → Nat) : List β → Nat
  | [] => 0
  | x :: r => c x + sumC c r

theorem sumC_mem (c : β → Nat) {x : β} : ∀ {l : List β}, x ∈ l → c x ≤ sumC c l
  | y :: l, h => by
    simp only [sumC]
    cases h with
    | head => omega
    | tail _ h => have := sumC_mem c h; omega

/-- What is left, or -1. -/
def vLeft (c : Nat) (left : Int) : Int := if (c : Int) ≤ left then left - c else -1

/-- Elements taken off what is left, one by one. -/
theorem lp_sz (l : List β) (c : β → Nat) (S : Nat → Int → St) (O : Int → St) (E : Int → St)
    (hO : ∀ left, 0 ≤ left → left ≤ 1048576 → roundK P cfg T n d f r na (S l.length left) = some (.ext 0, O left))
    (hs : ∀ i x left, l[i]? = some x → i < l.length → 0 ≤ left → left ≤ 1048576 → ((c x : Int) ≤ left → roundK P cfg T n d f r na (S i left) = some (.nrm, S (i + 1) (left - c x))) ∧
      (¬ (c x : Int) ≤ left → ∃ m, roundK P cfg T n d f r na (S i left) = some (.ret, E m))) :
    ∀ (left : Int) q, 0 ≤ left → left ≤ 1048576 → l.length < q → ((sumC c l : Int) ≤ left → lp P cfg T n d f r na q (S 0 left) = some (.ext 0, O (left - sumC c l))) ∧
      (¬ (sumC c l : Int) ≤ left → ∃ m, lp P cfg T n d f r na q (S 0 left) = some (.ret, E m)) := by
  have main : ∀ (suf pre : List β) (left : Int) (q : Nat), l = pre ++ suf → 0 ≤ left → left ≤ 1048576 → suf.length < q →
      ((sumC c suf : Int) ≤ left → lp P cfg T n d f r na q (S pre.length left) = some (.ext 0, O (left - sumC c suf))) ∧
      (¬ (sumC c suf : Int) ≤ left → ∃ m, lp P cfg T n d f r na q (S pre.length left) = some (.ret, E m)) := by
    intro suf
    induction suf with
    | nil =>
      intro pre left q hl h0 h1 hq
      obtain ⟨q, rfl⟩ : ∃ q', q = q' + 1 := ⟨q - 1, by omega⟩
      have : pre.length = l.length := by rw [hl]; simp
      rw [this]
      refine ⟨fun _ => ?_, fun h => absurd h0 (by simpa [sumC] using h)⟩
      rw [show left - ((sumC c ([] : List β) : Nat) : Int) = left by simp [sumC]]
      exact lp_out (hO left h0 h1) rfl
    | cons x suf ih =>
      intro pre left q hl h0 h1 hq
      obtain ⟨q, rfl⟩ : ∃ q', q = q' + 1 := ⟨q - 1, by omega⟩
      have hx : l[pre.length]? = some x := by rw [hl]; simp
      have hlt : pre.length < l.length := by rw [hl]; simp
      have hstep := hs pre.length x left hx hlt h0 h1
      have hsum : sumC c (x :: suf) = c x + sumC c suf := rfl
      by_cases hc : (c x : Int) ≤ left
      · have h2 := ih (pre ++ [x]) (left - c x) q (by rw [hl]; simp) (by omega) (by omega) (by simp at hq; omega)
        simp only [List.length_append, List.length_cons, List.length_nil, Nat.zero_add] at h2
        refine ⟨fun h => ?_, fun h => ?_⟩
        · rw [show left - ((sumC c (x :: suf) : Nat) : Int) = left - c x - sumC c suf by rw [hsum]; omega]
          exact lp_next (hstep.1 hc) (h2.1 (by rw [hsum] at h; omega))
        · obtain ⟨m, hm⟩ := h2.2 (by rw [hsum] at h; omega)
          exact ⟨m, lp_next (hstep.1 hc) hm⟩
      · refine ⟨fun h => absurd hc (by rw [hsum] at h; omega), fun _ => ?_⟩
        obtain ⟨m, hm⟩ := hstep.2 hc
        exact ⟨m, lp_out hm rfl⟩
  intro left q h0 h1 hq
  exact main l [] left q rfl h0 h1 hq

theorem lt_t {i k : Nat} (h : i < k) : decide ((i : Int) < (k : Int)) = true := by simp; omega
theorem lt_self (k : Nat) : decide ((k : Int) < (k : Int)) = false := by simp

theorem idx_nat {l : List β} {i : Nat} {x : β} (h : l[i]? = some x) : idx l (i : Int) = some x := by
  unfold idx
  rw [if_pos (by omega), show (i : Int).toNat = i by omega, h]

theorem wrap_succ {i : Nat} (h : i < 9223372036854775807) : IntKind.i64.wrap ((i : Int) + 1) = ((i + 1 : Nat) : Int) := by
  rw [IntKind.wrap_i64]
  omega

theorem wrap_id {i : Int} (h0 : -9223372036854775808 ≤ i) (h1 : i ≤ 9223372036854775807) : IntKind.i64.wrap i = i := by
  rw [IntKind.wrap_i64]
  omega

theorem byteAt_nat {s : ByteArray} {i : Nat} {b : UInt8} (h : s[i]? = some b) : byteAt s (i : Int) = some (b.toNat : Int) := by
  unfold byteAt
  rw [if_pos (by omega), show (i : Int).toNat = i by omega, h]
  rfl

theorem pres_row {f : FuncId} {xs : List V} {w : Bool} {k : Kind} {l : List (El k)} (h : T f xs [] = some (.c (.row (.ret 0 0) k), [], [.row w k l])) : pres T f xs = some (.sl false k l) := by
  unfold pres
  rw [h]
  simp [frzBack, snapC, hpOf, Id.beq]

/-- A pair of a frozen struct and a scalar. -/
theorem pres_tup2 {f : FuncId} {xs : List V} {fs : List F} {y : F} (h : T f xs [] = some (.tup [.ag fs, .c (.f y)], [], [])) : pres T f xs = some (.tup [.ag fs, .c (.f y)]) := by
  unfold pres
  rw [h]
  simp only [Option.bind_some, frzBack, lmapM, snap_fs, snapC, Option.map_some]

end

theorem bytes_get {s : ByteArray} {i : Nat} {b : UInt8} (h : s.data.toList[i]? = some b) : s[i]? = some b := by
  have hi : i < s.data.toList.length := by
    rcases Nat.lt_or_ge i s.data.toList.length with h' | h'
    · exact h'
    · rw [List.getElem?_eq_none h'] at h; cases h
  have h2 : i < s.size := by simpa using hi
  rw [ByteArray.getElem?_lt' s i h2]
  rw [List.getElem?_eq_getElem hi] at h
  rw [← h]
  rfl

theorem bytes_len (s : ByteArray) : s.data.toList.length = s.size := by cases s; rfl

/-- A loop that tests each. -/
theorem lfold_all {β γ : Type} (p : β → Bool) (c : γ) : ∀ (l : List β) (i : Nat), lfold (fun _ x (_ : Unit) => if p x = true then (.inl () : Unit ⊕ γ) else .inr c) i l () = if l.all p = true then .inl () else .inr c
  | [], i => rfl
  | x :: l, i => by
    simp only [lfold]
    by_cases h : p x = true
    · simp only [h, if_true, lfold_all p c l (i + 1), List.all_cons, Bool.true_and]
    · simp only [h, if_false, List.all_cons]; simp

/-! ### Domains, letters, notes -/

def isLow (b : UInt8) : Bool := !(decide (b.toNat < 97) || decide (b.toNat > 122))

def domOk (s : ByteArray) : Bool := s.data.toList.all isLow && decide (1 ≤ s.size ∧ s.size ≤ 10)

def isTime (n : Int) : Bool := decide (0 ≤ n) && decide (n ≤ 100000)
def isAtom (n : Int) : Bool := decide (0 ≤ n) && decide (n ≤ 1000000)

def letterOk (l : Letter) : Bool := domOk l.domain && isAtom l.body && decide (1 ≤ l.state) && decide (l.state ≤ 3) && decide (0 ≤ l.tries) && decide (l.tries ≤ 4) && isTime l.next

def noteOk (n : Note) : Bool :=
  decide (0 ≤ n.who) && decide (n.who ≤ 29) &&
    (if n.kind = 1 then domOk n.domain && isAtom n.body && decide (n.time = 0)
    else if n.kind = 2 then decide (n.domain = ⟨#[]⟩) && decide (n.body = 0) && isTime n.time
    else decide (n.kind = 3 ∨ n.kind = 4) && decide (n.domain = ⟨#[]⟩) && decide (n.body = 0) && decide (n.time = 0))

def letterTry (l : Letter) (now : Int) : Letter × Bool :=
  if letterOk l && decide (l.state = 1) && isTime now && decide (l.next ≤ now) && decide (l.tries < 4) then
    ({ l with tries := l.tries + 1, next := min 100000 (now + 10 * 2 ^ (l.tries + 1).toNat) }, true)
  else (l, false)

theorem try_pow {t : Int} (h0 : 0 ≤ t) (h1 : t < 4) : IntKind.i64.wrap (t + 1) = t + 1 ∧ ge0 (t + 1) = some () ∧ IntKind.i64.wrap (10 * 2 ^ min (t + 1).toNat IntKind.i64.bits) = 10 * 2 ^ (t + 1).toNat ∧
    (10 * 2 ^ (t + 1).toNat : Int) ≤ 160 ∧ (0 : Int) < 10 * 2 ^ (t + 1).toNat := by
  have : t = 0 ∨ t = 1 ∨ t = 2 ∨ t = 3 := by omega
  rcases this with rfl | rfl | rfl | rfl <;> decide

theorem letterOk_spec {l : Letter} (h : letterOk l = true) : domOk l.domain = true ∧ isAtom l.body = true ∧ 1 ≤ l.state ∧ l.state ≤ 3 ∧ 0 ≤ l.tries ∧ l.tries ≤ 4 ∧ 0 ≤ l.next ∧ l.next ≤ 100000 := by
  unfold letterOk isTime at h
  simp only [Bool.and_eq_true, decide_eq_true_eq] at h
  obtain ⟨⟨⟨⟨⟨⟨h1, h2⟩, h3⟩, h4⟩, h5⟩, h6⟩, h7, h8⟩ := h
  exact ⟨h1, h2, h3, h4, h5, h6, h7, h8⟩

/-! ### Terms -/

theorem Term.eta (x : Term) : (⟨x.op, x.n, x.s, x.kids⟩ : Term) = x := by cases x; rfl

mutual
/-- How much a term holds: the bytes and the kids, all the way. -/
def Term.cost : Term → Nat
  | ⟨_, _, s, k⟩ => s.size + Term.costs k
def Term.costs : List Term → Nat
  | [] => 0
  | t :: l => 1 + Term.cost t + Term.costs l
end

mutual
theorem Term.ind {P : Term → Prop} (h : ∀ t, (∀ x ∈ t.kids, P x) → P t) : ∀ t, P t
  | ⟨o, n, s, k⟩ => h _ (Term.inds h k)
theorem Term.inds {P : Term → Prop} (h : ∀ t, (∀ x ∈ t.kids, P x) → P t) : ∀ (l : List Term), ∀ x ∈ l, P x
  | [], x, hx => by cases hx
  | t :: l, x, hx => by
    cases hx with
    | head => exact Term.ind h t
    | tail _ hx => exact Term.inds h l x hx
end

theorem Term.cost_eq (t : Term) : t.cost = t.s.size + Term.costs t.kids := by cases t; rw [Term.cost]

theorem Term.costs_len : ∀ (l : List Term), l.length ≤ Term.costs l
  | [] => by simp [Term.costs]
  | t :: l => by have := Term.costs_len l; simp [Term.costs]; omega

theorem Term.costs_mem {x : Term} : ∀ {l : List Term}, x ∈ l → x.cost + 1 ≤ Term.costs l
  | t :: l, h => by
    simp only [Term.costs]
    cases h with
    | head => omega
    | tail _ h => have := Term.costs_mem h; omega

/-- All sizes fit. -/
inductive Term.Bd : Term → Prop
  | mk {t : Term} (h1 : t.s.size ≤ maxLen) (h2 : t.kids.length ≤ maxLen) (h3 : ∀ x ∈ t.kids, Term.Bd x) : Term.Bd t

theorem Term.Bd.of {n : Nat} : ∀ {t : Term}, (∀ f ∈ Term.cells t, BdF n f) → t.Bd := by
  induction n with
  | zero =>
    intro t h
    have := h (.sl false .term t.kids) (by simp [Term.cells])
    exact this.elim
  | succ n ih =>
    intro t h
    have h1 := h (.str t.s) (by simp [Term.cells])
    have h2 := h (.sl false .term t.kids) (by simp [Term.cells])
    exact ⟨h1, h2.1, fun x hx => ih (h2.2 x hx)⟩

theorem catOk_ok {x y : ByteArray} (h : x.size + y.size ≤ 9223372036854775807) : catOk x y = some () := by
  unfold catOk
  rw [if_neg]
  rw [show IntKind.i64.max = 9223372036854775807 from rfl]
  omega

theorem ba_size (a : Array UInt8) : (ByteArray.mk a).size = a.size := rfl

/-- The n-th of words, from 1 on; none of others. -/
def nameOf (n : Int) (l : List ByteArray) : ByteArray := if 1 ≤ n ∧ n ≤ l.length then l.getD (n - 1).toNat ⟨#[]⟩ else ⟨#[110, 111, 110, 101]⟩

theorem nameOf_size {n : Int} {l : List ByteArray} {k : Nat} (hk : 4 ≤ k) (h : ∀ x ∈ l, x.size ≤ k) : (nameOf n l).size ≤ k := by
  unfold nameOf
  split
  · rename_i hn
    rw [List.getD_eq_getElem?_getD]
    cases hx : l[(n - 1).toNat]? with
    | none => simp [ba_size]
    | some x => exact h x (List.mem_of_getElem? hx)
  · simp [ba_size]; omega

theorem idx_name {n : Int} {l : List ByteArray} (h1 : 1 ≤ n) (h2 : n ≤ l.length) (h3 : l.length ≤ 1000) : idx l (IntKind.i64.wrap (n - 1)) = some (nameOf n l) := by
  rw [wrap_id (by omega) (by omega)]
  unfold idx nameOf
  rw [if_pos (by omega), if_pos ⟨h1, h2⟩, List.getD_eq_getElem?_getD, List.getElem?_eq_getElem (by omega)]
  rfl

theorem bd_int {n : Int} (h : ∃ m, BdF m (.int n)) : -9223372036854775808 ≤ n ∧ n ≤ 9223372036854775807 := by
  obtain ⟨m, h⟩ := h
  have : IntKind.i64.min ≤ n ∧ n ≤ IntKind.i64.max := by cases m <;> exact h
  exact this

theorem bd_str {s : ByteArray} (h : ∃ m, BdF m (.str s)) : s.size ≤ 9223372036854775807 := by
  obtain ⟨m, h⟩ := h
  cases m <;> exact h

theorem bd_of {fs : List F} (h : ∃ n, ∀ f ∈ fs, BdF n f) {f : F} (hf : f ∈ fs) : ∃ n, BdF n f := by
  obtain ⟨n, h⟩ := h
  exact ⟨n, h f hf⟩

theorem Client.Bd_share {n : Nat} {c : Client} (h : ∀ f ∈ Client.cells c, BdF n f) : c.share.Bd ∧ c.host.size ≤ maxLen := by
  refine ⟨Term.Bd.of (n := n) fun f hf => h f ?_, ?_⟩
  · simp only [Term.cells, List.mem_cons, List.not_mem_nil, or_false] at hf
    simp only [Client.cells, List.mem_cons, List.not_mem_nil, or_false]
    rcases hf with h | h | h | h <;> simp [h]
  · have := h (.str c.host) (by simp [Client.cells])
    cases n <;> exact this

/-! ### Policies -/

def Policy.cost (p : Policy) : Nat := p.domain.size + (p.mx.length + sumC ByteArray.size p.mx)

def Policy.Bd (p : Policy) : Prop := p.domain.size ≤ 9223372036854775807 ∧ p.mx.length ≤ 9223372036854775807 ∧ ∀ x ∈ p.mx, x.size ≤ 9223372036854775807

theorem bd_sl {t : Bool} {k : Kind} {l : List (El k)} (h : ∃ n, BdF n (.sl t k l)) : l.length ≤ 9223372036854775807 ∧ ∃ n, ∀ x ∈ l, ∀ f ∈ cellsOf k x, BdF n f := by
  obtain ⟨n, h⟩ := h
  cases n with
  | zero => exact h.elim
  | succ n => exact ⟨h.1, n, h.2⟩

theorem Policy.Bd.of {p : Policy} (h : ∃ n, ∀ f ∈ Policy.cells p, BdF n f) : p.Bd := by
  have h1 := bd_str (bd_of h (f := .str p.domain) (by simp [Policy.cells]))
  obtain ⟨h2, n, h3⟩ := bd_sl (bd_of h (f := .sl false .str p.mx) (by simp [Policy.cells]))
  exact ⟨h1, h2, fun x hx => bd_str ⟨n, h3 x hx (.str x) (by simp [cellsOf])⟩⟩

/-! ### Servers, letters -/

def Client.cost (c : Client) : Nat := c.host.size + c.share.cost
def Host.cost (h : Host) : Nat := h.name.size
def Letter.cost (l : Letter) : Nat := l.domain.size
def CallD.cost (c : CallD) : Nat := c.client.cost
def Server.cost (s : Server) : Nat := s.host.size + s.cert.cost + s.share.cost + s.got.length

def Talk.cost (t : Talk) : Nat := t.server.cost

structure Server.Bd (s : Server) : Prop where
  host : s.host.size ≤ 9223372036854775807
  cert : s.cert.Bd
  share : s.share.Bd
  got : s.got.length ≤ 9223372036854775807

theorem Server.Bd.of {s : Server} (h : ∃ n, ∀ f ∈ Server.cells s, BdF n f) : s.Bd := by
  obtain ⟨n, h⟩ := h
  refine ⟨bd_str ⟨n, h (.str s.host) (by simp [Server.cells])⟩, Term.Bd.of (n := n) fun f hf => h f ?_, Term.Bd.of (n := n) fun f hf => h f ?_, (bd_sl ⟨n, h (.sl false .int s.got) (by simp [Server.cells])⟩).1⟩
  · simp only [Term.cells, List.mem_cons, List.not_mem_nil, or_false] at hf
    simp only [Server.cells, List.mem_cons, List.not_mem_nil, or_false]
    rcases hf with h | h | h | h <;> simp [h]
  · simp only [Term.cells, List.mem_cons, List.not_mem_nil, or_false] at hf
    simp only [Server.cells, List.mem_cons, List.not_mem_nil, or_false]
    rcases hf with h | h | h | h <;> simp [h]

/-- Taken off one behind the other. -/
theorem vLeft_add {a b : Nat} {left : Int} (h : (a : Int) ≤ left) : vLeft (a + b) left = vLeft b (left - a) := by
  unfold vLeft
  by_cases h2 : ((a + b : Nat) : Int) ≤ left
  · rw [if_pos h2, if_pos (by omega)]; omega
  · rw [if_neg h2, if_neg (by omega)]

theorem vLeft_no {a b : Nat} {left : Int} (h : ¬ (a : Int) ≤ left) : vLeft (a + b) left = -1 := by
  unfold vLeft
  rw [if_neg (by omega)]

theorem vLeft_yes {a : Nat} {left : Int} (h : (a : Int) ≤ left) : vLeft a left = left - a := by
  unfold vLeft
  rw [if_pos h]

theorem vLeft_not {a : Nat} {left : Int} (h : ¬ (a : Int) ≤ left) : vLeft a left = -1 := by
  unfold vLeft
  rw [if_neg h]

end Go.Vm

namespace Go.Vm
open Go.Proofs Go.RowKit
set_option linter.unusedVariables false
set_option linter.unusedSimpArgs false

section
variable {G : Gl} {P : Program} {cfg : Cfg}

theorem rn_ext {f : FuncId} {g : List V → List Obj → Option (V × List Obj × List Obj)} {args : List V} {objs : List Obj} {r : V × List Obj × List Obj} (hg : cfg.ext f = some g) (h : g args objs = some r) : rn P cfg f args objs = some r := by
  refine rn_some.2 ⟨1, fun n hn => ?_⟩
  obtain ⟨n, rfl⟩ : ∃ m, n = m + 1 := ⟨n - 1, by omega⟩
  simp only [run, hg]
  exact h

/-- A function that is handed frozen data, answers a scalar and leaves old memory alone. -/
theorem FnOK.below {f : FuncId} {args : List V} {x : Value} (hx : scal x = true) (hfn : ∃ fn c, P.funcs[f]? = some fn ∧ fn.body = some c ∧ (fn.name == "runtime.NumGoroutine") = false)
    (hc : ∀ (M : Nat → Prop) (loc : Loc) (w : World) (vs : List Value), G.ok w → VWs w M (hpOf .arg 0 []) loc vs args → Calls P f vs.toArray w fun e w' => e = .returned x ∧ Below w.heap.size w w') :
    FnOK G P f args [] (.c (.f (.sc x)), [], []) := by
  refine ⟨hfn, rfl, fun U loc w vs hw hv => ?_⟩
  refine (hc _ loc w vs hw.gl.1 hv).mono fun e w' => ?_
  rintro ⟨rfl, hb⟩
  have he : outHp [] [] = hpOf .arg 0 [] := by rw [outHp_nil]; rfl
  refine ⟨x, loc, rfl, ?_⟩
  rw [he]
  refine ⟨hw.grow hb.size hb.block hb.os hb.tape hb.output, Ext.grow hb.size hb.block hb.os hb.tape hb.output, ?_⟩
  unfold VW CW
  exact ⟨0, rfl, hx⟩

/-! ### Tables -/

/-- A table that the program's text lays, in block g. -/
def Gl.tab (k : IntKind) (zs : List Int) (g : Nat) : Gl where
  bl := fun b => b = g
  ok := fun w => ∃ t fr, w.heap[g]? = some (.cells (zs.map fun z => Value.int k z).toArray t fr)
  dep := fun w w' h ⟨t, fr, h1⟩ => ⟨t, fr, (h g rfl).trans h1⟩

theorem Gl.tab_is {k : IntKind} {zs : List Int} {g : Nat} {name : String} {w : World} (hn : P.globalNamed name = some g) (h : (Gl.tab k zs g).ok w) : Lib.TabIs P w name k zs := by
  obtain ⟨t, fr, h1⟩ := h
  unfold Lib.TabIs World.var?
  rw [hn, Option.bind_some, h1]

theorem Gl.tab_of {k : IntKind} {zs : List Int} {g : Nat} {name : String} {w : World} (hn : P.globalNamed name = some g) (h : Lib.TabIs P w name k zs) : (Gl.tab k zs g).ok w ∧ g < w.heap.size := by
  unfold Lib.TabIs World.var? at h
  rw [hn, Option.bind_some] at h
  split at h
  · rename_i cs t fr hg
    simp only [Option.some.injEq] at h
    subst h
    refine ⟨⟨t, fr, hg⟩, ?_⟩
    rcases Nat.lt_or_ge g w.heap.size with h' | h'
    · exact h'
    · rw [Array.getElem?_eq_none h'] at hg; cases hg
  · cases h

/-- A variable that holds some number. -/
def Gl.num (k : IntKind) (g : Nat) : Gl where
  bl := fun b => b = g
  ok := fun w => ∃ m, w.cell? ⟨g, 0, Option.none⟩ = some (.int k m)
  dep := fun w w' h ⟨m, h1⟩ => ⟨m, by rw [cell_same (h g rfl)]; exact h1⟩

/-- Both are told. -/
def Gl.and (G G2 : Gl) : Gl where
  bl := fun b => G.bl b ∨ G2.bl b
  ok := fun w => G.ok w ∧ G2.ok w
  dep := fun w w' h ⟨h1, h2⟩ => ⟨G.dep w w' (fun b hb => h b (.inl hb)) h1, G2.dep w w' (fun b hb => h b (.inr hb)) h2⟩

theorem below_grow (w : World) (k : Nat) (os : Array Go.Obj) : Below w.heap.size w (Sort.grow (w.drewN k) os) :=
  ⟨rfl, rfl, rfl, by simp [Sort.grow, World.drewN], fun b hb => by
    show (w.heap ++ os)[b]? = w.heap[b]?
    rw [Array.getElem?_append_left hb]⟩

/-! ### strconv.Itoa, strings.Join -/

def itoaB (n : Int) : ByteArray := ⟨(Lib.itoa n).toArray⟩

def extItoa : List V → List Obj → Option (V × List Obj × List Obj)
  | [.c (.f (.sc (.int .i64 n)))], [] => if -9223372036854775808 ≤ n ∧ n ≤ 9223372036854775807 then some (.str (itoaB n), [], []) else none
  | _, _ => none

theorem extItoa_ok {f : FuncId} (hfn : ∃ fn c, P.funcs[f]? = some fn ∧ fn.body = some c ∧ (fn.name == "runtime.NumGoroutine") = false)
    (hc : ∀ n w, -9223372036854775808 ≤ n → n ≤ 9223372036854775807 → G.ok w → Calls P f #[.int .i64 n] w fun e w' => e = .returned (.string (itoaB n)) ∧ Below w.heap.size w w') :
    ∀ args objs r, extItoa args objs = some r → FnOK G P f args objs r := by
  intro args objs r hr
  unfold extItoa at hr
  split at hr
  · rename_i n
    split at hr
    · rename_i hb
      simp only [Option.some.injEq] at hr
      subst hr
      refine FnOK.below rfl hfn fun M loc w vs hg hv => ?_
      cases vs with
      | nil => exact hv.elim
      | cons u us =>
        unfold VWs at hv
        cases us with
        | cons => exact hv.2.elim
        | nil =>
          have := hv.1.sc
          subst this
          exact hc n w hb.1 hb.2 hg
    · cases hr
  · cases hr

def joinB (l : List ByteArray) (sep : ByteArray) : ByteArray := ⟨(Lib.join (l.map (·.data.toList)) sep.data.toList).toArray⟩

def extJoin : List V → List Obj → Option (V × List Obj × List Obj)
  | [.c (.f (.sl _ .str l)), .c (.f (.sc (.string sep)))], [] => if l.length ≤ 140737488355328 ∧ (Lib.join (l.map (·.data.toList)) sep.data.toList).length ≤ 140737488355328 then some (.str (joinB l sep), [], []) else none
  | _, _ => none

theorem extJoin_ok {f : FuncId} (hfn : ∃ fn c, P.funcs[f]? = some fn ∧ fn.body = some c ∧ (fn.name == "runtime.NumGoroutine") = false)
    (h0 : ∀ a c sep w, Calls P f #[.slice a 0 c, .string sep] w fun e w' => e = .returned (.string ⟨#[]⟩) ∧ Below w.heap.size w w')
    (hc : ∀ (bk o c : Nat) (xs : List ByteArray) (sep : ByteArray) (w : World), (∀ (j : Nat) x, xs[j]? = some x → w.cell? ⟨bk, o + j, none⟩ = some (.string x)) → bk < w.heap.size → xs.length ≤ 140737488355328 → xs.length ≤ c →
      (Lib.join (xs.map (·.data.toList)) sep.data.toList).length ≤ 140737488355328 →
      Calls P f #[.slice (some ⟨bk, o, none⟩) xs.length c, .string sep] w fun e w' => e = .returned (.string (joinB xs sep)) ∧ Below w.heap.size w w') :
    ∀ args objs r, extJoin args objs = some r → FnOK G P f args objs r := by
  intro args objs r hr
  unfold extJoin at hr
  split at hr
  · rename_i t l sep
    split at hr
    · rename_i hb
      simp only [Option.some.injEq] at hr
      subst hr
      refine FnOK.below rfl hfn fun M loc w vs hg hv => ?_
      cases vs with
      | nil => exact hv.elim
      | cons u us =>
        unfold VWs at hv
        cases us with
        | nil => exact hv.2.elim
        | cons u2 us =>
          have hv2 := hv.2
          unfold VWs at hv2
          cases us with
          | cons => exact hv2.2.elim
          | nil =>
            have := hv2.1.sc
            subst this
            have h1 := hv.1
            unfold VW CW at h1
            obtain ⟨n, hn⟩ := h1
            cases n with
            | zero => exact hn.elim
            | succ n =>
              unfold CellW at hn
              obtain ⟨A, c, rfl, h2, _, h4⟩ := hn
              cases l with
              | nil =>
                refine (h0 A c sep w).mono fun e w' hh => ⟨?_, hh.2⟩
                rw [hh.1]
                rfl
              | cons x l =>
                obtain ⟨b, o, ha, _, hlt, hc0⟩ := h4 0 x rfl
                subst ha
                refine hc b o c (x :: l) sep w (fun j y hy => ?_) hlt hb.1 h2 hb.2
                obtain ⟨b', o', ha', _, _, hcj⟩ := h4 j y hy
                cases ha'
                obtain ⟨u, hu, hr⟩ := hcj 0 (.str y) rfl
                have : u = .string y := by cases n <;> exact hr.1
                subst this
                simpa [szOf] using hu
    · cases hr
  · cases hr

end
end Go.Vm

namespace Go.Vm
open Go.Proofs Go.RowKit
set_option linter.unusedVariables false
set_option linter.unusedSimpArgs false

section
variable {G : Gl} {P : Program} {cfg : Cfg}

theorem below_alloc (w : World) (o : Go.Obj) : Below w.heap.size w (w.alloc o) :=
  ⟨rfl, rfl, rfl, by show w.heap.size ≤ (w.heap.push o).size; rw [Array.size_push]; omega, fun b hb => by
    show (w.heap.push o)[b]? = w.heap[b]?
    rw [Array.getElem?_push_lt hb, Array.getElem?_eq_getElem hb]⟩

theorem HW.newMut {U : Nat → Prop} {h : Hp} {loc : Loc} {w : World} (hw : HW G U h loc w) : ¬ Mut U h loc w.heap.size := by
  rintro (hu | ⟨id, o, c, h1, h2, h3⟩)
  · exact Nat.lt_irrefl _ (hw.low _ hu)
  · exact Nat.lt_irrefl _ (hw.sep id o _ c h1 h2 h3).2

/-- A function that is handed frozen data and answers with fresh texts. -/
theorem FnOK.texts {f : FuncId} {args : List V} {l : List ByteArray} {c : Nat} {T : TypeId} (hc0 : l.length ≤ c) (hfn : ∃ fn c, P.funcs[f]? = some fn ∧ fn.body = some c ∧ (fn.name == "runtime.NumGoroutine") = false)
    (hc : ∀ (M : Nat → Prop) (loc : Loc) (w : World) (vs : List Value), G.ok w → VWs w M (hpOf .arg 0 []) loc vs args →
      Calls P f vs.toArray w fun e w' => e = .returned (.slice (some ⟨w.heap.size, 0, none⟩) l.length c) ∧ w' = w.alloc (.cells (l.map Value.string).toArray T)) :
    FnOK G P f args [] (.c (.f (.sl false .str l)), [], []) := by
  refine ⟨hfn, rfl, fun U loc w vs hw hv => ?_⟩
  refine (hc _ loc w vs hw.gl.1 hv).mono fun e w' => ?_
  rintro ⟨rfl, rfl⟩
  have hb := below_alloc w (.cells (l.map Value.string).toArray T)
  have he : outHp [] [] = hpOf .arg 0 [] := by rw [outHp_nil]; rfl
  refine ⟨_, loc, rfl, ?_⟩
  rw [he]
  refine ⟨hw.grow hb.size hb.block hb.os hb.tape hb.output, Ext.grow hb.size hb.block hb.os hb.tape hb.output, ?_⟩
  unfold VW CW
  refine ⟨1, ?_⟩
  unfold CellW
  refine ⟨_, c, rfl, hc0, (fun h => by cases h), fun i x hx => ⟨w.heap.size, 0, rfl, hw.newMut, (by show w.heap.size < (w.heap.push _).size; rw [Array.size_push]; omega), fun j f hf => ?_⟩⟩
  have hj : j = 0 ∧ f = .str x := by
    cases j with
    | zero => simp [cellsOf] at hf; exact ⟨rfl, hf.symm⟩
    | succ j => simp [cellsOf] at hf
  obtain ⟨rfl, rfl⟩ := hj
  refine ⟨.string x, ?_, by unfold CellW; exact ⟨rfl, rfl⟩⟩
  have h1 : (w.alloc (.cells (l.map Value.string).toArray T)).heap[w.heap.size]? = some (.cells (l.map Value.string).toArray T) := by
    show (w.heap.push _)[w.heap.size]? = _
    rw [Array.getElem?_push_size]
  unfold World.cell?
  rw [h1]
  simp [szOf, hx]

def splitB (s sep : ByteArray) : List ByteArray := Lib.splitB sep 0 (Lib.countB s sep) s

def extSplit : List V → List Obj → Option (V × List Obj × List Obj)
  | [.c (.f (.sc (.string s))), .c (.f (.sc (.string sep)))], [] => if s.size < 4294967281 ∧ 1 ≤ sep.size then some (.c (.f (.sl false .str (splitB s sep))), [], []) else none
  | _, _ => none

theorem extSplit_ok {f : FuncId} {T : TypeId} (hfn : ∃ fn c, P.funcs[f]? = some fn ∧ fn.body = some c ∧ (fn.name == "runtime.NumGoroutine") = false)
    (hc : ∀ (s sep : ByteArray) (w : World), s.size < 4294967281 → 1 ≤ sep.size → G.ok w → Calls P f #[.string s, .string sep] w fun e w' =>
      e = .returned (.slice (some ⟨w.heap.size, 0, none⟩) (Lib.countB s sep + 1) (Lib.countB s sep + 1)) ∧ w' = w.alloc (.cells ((Lib.splitB sep 0 (Lib.countB s sep) s).map Value.string).toArray T)) :
    ∀ args objs r, extSplit args objs = some r → FnOK G P f args objs r := by
  intro args objs r hr
  unfold extSplit at hr
  split at hr
  · rename_i s sep
    split at hr
    · rename_i hb
      simp only [Option.some.injEq] at hr
      subst hr
      have hlen : (splitB s sep).length = Lib.countB s sep + 1 := Lib.splitB_all sep hb.2 0 _ s rfl
      refine FnOK.texts (c := Lib.countB s sep + 1) (T := T) (by omega) hfn fun M loc w vs hg hv => ?_
      cases vs with
      | nil => exact hv.elim
      | cons u us =>
        unfold VWs at hv
        cases us with
        | nil => exact hv.2.elim
        | cons u2 us =>
          have hv2 := hv.2
          unfold VWs at hv2
          cases us with
          | cons => exact hv2.2.elim
          | nil =>
            have e1 := hv.1.sc
            have e2 := hv2.1.sc
            subst e1 e2
            rw [hlen]
            exact hc s sep w hb.1 hb.2 hg
    · cases hr
  · cases hr

end
end Go.Vm

namespace Go.Vm
open Go.Proofs Go.RowKit
set_option linter.unusedVariables false
set_option linter.unusedSimpArgs false

/-- A variable that holds an error, or nil. -/
def Gl.err (g : Nat) : Gl where
  bl := fun b => b = g
  ok := fun w => ∃ ev, w.cell? ⟨g, 0, Option.none⟩ = some ev ∧ (ev = .nilIface ∨ ∃ te pe, ev = .iface te pe)
  dep := fun w w' h ⟨ev, h1, h2⟩ => ⟨ev, by rw [cell_same (h g rfl)]; exact h1, h2⟩

section
variable {G : Gl} {P : Program} {cfg : Cfg}

/-- A function that is handed frozen data, answers a number and an error or none, and leaves old memory alone. -/
theorem FnOK.numErr {f : FuncId} {args : List V} {n : Int} {b : Bool} (hfn : ∃ fn c, P.funcs[f]? = some fn ∧ fn.body = some c ∧ (fn.name == "runtime.NumGoroutine") = false)
    (hc : ∀ (M : Nat → Prop) (loc : Loc) (w : World) (vs : List Value), G.ok w → VWs w M (hpOf .arg 0 []) loc vs args → Calls P f vs.toArray w fun e w' => (∃ y, e = .returned (.tuple #[.int .i64 n, y]) ∧ (if b = true then ∃ T x, y = .iface T x else y = .nilIface)) ∧ Below w.heap.size w w') :
    FnOK G P f args [] (.tup [.int n, .c (errC b)], [], []) := by
  refine ⟨hfn, rfl, fun U loc w vs hw hv => ?_⟩
  refine (hc _ loc w vs hw.gl.1 hv).mono fun e w' => ?_
  rintro ⟨⟨y, rfl, hy⟩, hb⟩
  have he : outHp [] [] = hpOf .arg 0 [] := by rw [outHp_nil]; rfl
  refine ⟨_, loc, rfl, ?_⟩
  rw [he]
  refine ⟨hw.grow hb.size hb.block hb.os hb.tape hb.output, Ext.grow hb.size hb.block hb.os hb.tape hb.output, ?_⟩
  unfold VW
  refine ⟨[.int .i64 n, y], rfl, ?_⟩
  unfold VWs
  refine ⟨by unfold VW CW; exact ⟨0, rfl, rfl⟩, ?_⟩
  unfold VWs
  refine ⟨?_, by unfold VWs; trivial⟩
  unfold VW
  cases b with
  | true =>
    simp only [if_true] at hy
    obtain ⟨T, x, rfl⟩ := hy
    show CW _ _ _ _ _ (.f .err)
    unfold CW
    exact ⟨0, T, x, rfl⟩
  | false =>
    simp only [Bool.false_eq_true, if_false] at hy
    subst hy
    show CW _ _ _ _ _ (.f (.sc .nilIface))
    unfold CW
    exact ⟨0, rfl, rfl⟩

/-- What strconv.Atoi answers: the number; whether there is an error. -/
def atoiB (s : ByteArray) : Int × Bool := match Lib.atoiAll s.data.toList with
  | .ok v => (v, false)
  | Lib.NumEnd.syntax => (0, true)
  | .range => (Lib.atoiSat s.data.toList, true)

def extAtoi : List V → List Obj → Option (V × List Obj × List Obj)
  | [.c (.f (.sc (.string s)))], [] => if s.size ≤ 281474976710656 then some (.tup [.int (atoiB s).1, .c (errC (atoiB s).2)], [], []) else none
  | _, _ => none

theorem extAtoi_ok {f : FuncId} {T5 : TypeId} (hfn : ∃ fn c, P.funcs[f]? = some fn ∧ fn.body = some c ∧ (fn.name == "runtime.NumGoroutine") = false)
    (h1 : ∀ (s : ByteArray) (v : Int) (w : World), s.size ≤ 9223372036854775806 → Lib.atoiAll s.data.toList = .ok v → Calls P f #[.string s] w fun e w' => e = .returned (.tuple #[.int .i64 v, .nilIface]) ∧ (w' = w ∨ ∃ t, w' = Lib.bytesWorld w T5 t))
    (h2 : ∀ (s : ByteArray) (w : World), s.size ≤ 281474976710656 → Lib.atoiAll s.data.toList = Lib.NumEnd.syntax → G.ok w → Calls P f #[.string s] w fun e w' => (∃ T x, e = .returned (.tuple #[.int .i64 0, .iface T x])) ∧ Below w.heap.size w w')
    (h3 : ∀ (s : ByteArray) (w : World), s.size ≤ 281474976710656 → Lib.atoiAll s.data.toList = .range → G.ok w → Calls P f #[.string s] w fun e w' => (∃ T x, e = .returned (.tuple #[.int .i64 (Lib.atoiSat s.data.toList), .iface T x])) ∧ Below w.heap.size w w') :
    ∀ args objs r, extAtoi args objs = some r → FnOK G P f args objs r := by
  intro args objs r hr
  unfold extAtoi at hr
  split at hr
  · rename_i s
    split at hr
    · rename_i hb
      simp only [Option.some.injEq] at hr
      subst hr
      refine FnOK.numErr hfn fun M loc w vs hg hv => ?_
      cases vs with
      | nil => exact hv.elim
      | cons u us =>
        unfold VWs at hv
        cases us with
        | cons => exact hv.2.elim
        | nil =>
          have := hv.1.sc
          subst this
          unfold atoiB
          match hs : Lib.atoiAll s.data.toList with
          | Lib.NumEnd.ok v =>
            refine (h1 s v w (by omega) hs).mono fun e w' => ?_
            rintro ⟨rfl, hw⟩
            refine ⟨⟨_, rfl, by simp⟩, ?_⟩
            rcases hw with rfl | ⟨t, rfl⟩
            · exact Below.refl _ _
            · exact Lib.bytesWorld_below _ _ _
          | Lib.NumEnd.syntax =>
            refine (h2 s w hb hs hg).mono fun e w' => ?_
            rintro ⟨⟨T, x, rfl⟩, hw⟩
            exact ⟨⟨_, rfl, by simp⟩, hw⟩
          | Lib.NumEnd.range =>
            refine (h3 s w hb hs hg).mono fun e w' => ?_
            rintro ⟨⟨T, x, rfl⟩, hw⟩
            exact ⟨⟨_, rfl, by simp⟩, hw⟩
    · cases hr
  · cases hr

end
end Go.Vm

namespace Go.Vm
open Go.Proofs
set_option linter.unusedVariables false
set_option linter.unusedSimpArgs false

theorem err_of_head {P : Program} {W : World} {name nm : String} {d : DataW Unit} {rest : List (String × DataW Unit)} {g : Nat} {t : TypeId}
    (hg : P.globalNamed name = some g) (hty : (P.globals[g]?).map (·.type) = some t) (ht : ∃ m, P.underlying t = some (.interface m))
    (h : laidMet P ((name, .iface nm d) :: rest) W) : (Gl.err g).ok W ∧ g < W.heap.size := by
  obtain ⟨ps, ⟨g', t', cs, fuel, p, q, hg', ht', hvar, hd, _, _⟩, _⟩ := h
  obtain rfl := Option.some.inj (hg.symm.trans hg')
  obtain rfl := Option.some.inj (hty.symm.trans ht')
  obtain ⟨m, ht⟩ := ht
  have hcell := World.var?_cell hg hvar 0
  cases fuel with
  | zero => simp [DataW.trod] at hd
  | succ fuel =>
    have hcs : ∃ u v, cs.toList = [.iface u v] := by
      unfold DataW.trod at hd
      rw [ht] at hd
      generalize cs.toList = l at hd
      cases l with
      | nil => simp at hd
      | cons x l =>
        cases l with
        | cons y l => simp at hd
        | nil =>
          cases x with
          | iface u v => exact ⟨u, v, rfl⟩
          | _ => simp at hd
    obtain ⟨u, v, hl⟩ := hcs
    have h0 : cs[0]? = some (.iface u v) := by
      have := congrArg (·[0]?) hl
      simpa using this
    rw [h0] at hcell
    exact ⟨⟨_, hcell, .inr ⟨u, v, rfl⟩⟩, World.block_lt_of_cell? _ _ hcell⟩

/-! ### strings.IndexByte -/

section
variable {G : Gl} {P : Program} {cfg : Cfg}

def extIndexByte : List V → List Obj → Option (V × List Obj × List Obj)
  | [.c (.f (.sc (.string s))), .c (.f (.sc (.int .u8 c)))], [] => some (.int (Lib.indexByte s.data.toList c.toNat.toUInt8), [], [])
  | _, _ => none

theorem extIndexByte_ok {f : FuncId} (hfn : ∃ fn c, P.funcs[f]? = some fn ∧ fn.body = some c ∧ (fn.name == "runtime.NumGoroutine") = false)
    (hc : ∀ (s : ByteArray) (c : Int) (w : World), Calls P f #[.string s, .int .u8 c] w fun e w' => e = .returned (.int .i64 (Lib.indexByte s.data.toList c.toNat.toUInt8)) ∧ w' = w) :
    ∀ args objs r, extIndexByte args objs = some r → FnOK G P f args objs r := by
  intro args objs r hr
  unfold extIndexByte at hr
  split at hr
  · rename_i s c
    simp only [Option.some.injEq] at hr
    subst hr
    refine FnOK.below rfl hfn fun M loc w vs hg hv => ?_
    cases vs with
    | nil => exact hv.elim
    | cons u us =>
      unfold VWs at hv
      cases us with
      | nil => exact hv.2.elim
      | cons u2 us =>
        have hv2 := hv.2
        unfold VWs at hv2
        cases us with
        | cons => exact hv2.2.elim
        | nil =>
          have h2 := hv2.1.sc
          subst h2
          have h1 := hv.1.sc
          subst h1
          refine (hc s c w).mono fun e w' => ?_
          rintro ⟨rfl, rfl⟩
          exact ⟨rfl, Go.RowKit.Below.refl _ _⟩
  · cases hr

end
end Go.Vm

namespace Go.Vm
open Go.Proofs
set_option linter.unusedVariables false
set_option linter.unusedSimpArgs false

section
variable {G : Gl} {P : Program} {cfg : Cfg}

theorem HW.newMuts {U : Nat → Prop} {h : Hp} {loc : Loc} {w : World} (hw : HW G U h loc w) {g : Nat} (hg : w.heap.size ≤ g) : ¬ Mut U h loc g := by
  rintro (hu | ⟨id, o, c, h1, h2, h3⟩)
  · have := hw.low _ hu; omega
  · have := (hw.sep id o _ c h1 h2 h3).2; omega

/-- A function that is handed frozen data and answers with fresh numbers. -/
theorem FnOK.ints {f : FuncId} {args : List V} {l : List Int} {T : TypeId} (hfn : ∃ fn c, P.funcs[f]? = some fn ∧ fn.body = some c ∧ (fn.name == "runtime.NumGoroutine") = false)
    (hc : ∀ (M : Nat → Prop) (loc : Loc) (w : World) (vs : List Value), G.ok w → VWs w M (hpOf .arg 0 []) loc vs args →
      Calls P f vs.toArray w fun e w' => ∃ v', e = .returned v' ∧ w'.ownsRow w.heap.size T 1 v' l.length (l.map (Value.int .i64)) ∧ Go.RowKit.Below w.heap.size w w') :
    FnOK G P f args [] (.c (.f (.sl false .int l)), [], []) := by
  refine ⟨hfn, rfl, fun U loc w vs hw hv => ?_⟩
  refine (hc _ loc w vs hw.gl.1 hv).mono fun e w' => ?_
  rintro ⟨v', rfl, ⟨hlen, hrow⟩, hb⟩
  have he : outHp [] [] = hpOf .arg 0 [] := by rw [outHp_nil]; rfl
  refine ⟨v', loc, rfl, ?_⟩
  rw [he]
  refine ⟨hw.grow hb.size hb.block hb.os hb.tape hb.output, Ext.grow hb.size hb.block hb.os hb.tape hb.output, ?_⟩
  unfold VW CW
  refine ⟨1, ?_⟩
  unfold CellW
  rcases hrow with ⟨rfl, h0⟩ | ⟨g, cap, cur, rfl, hg, hcell, hcap, _, hsz, htake⟩
  · have hl : l = [] := List.length_eq_zero_iff.1 h0
    subst hl
    exact ⟨none, 0, rfl, Nat.le_refl _, (fun _ => rfl), fun i x hx => by simp at hx⟩
  · refine ⟨_, cap, rfl, hcap, (fun h => by cases h), fun i x hx => ⟨g, 0, rfl, hw.newMuts hg, ?_, fun j f hf => ?_⟩⟩
    · by_cases h : g < w'.heap.size
      · exact h
      · rw [Array.getElem?_eq_none (by omega)] at hcell; cases hcell
    have hj : j = 0 ∧ f = .int x := by
      cases j with
      | zero => simp [cellsOf] at hf; exact ⟨rfl, hf.symm⟩
      | succ j => simp [cellsOf] at hf
    obtain ⟨rfl, rfl⟩ := hj
    refine ⟨.int .i64 x, ?_, by unfold CellW; exact ⟨rfl, rfl⟩⟩
    have hi : i < l.length := by
      by_cases h : i < l.length
      · exact h
      · rw [List.getElem?_eq_none (by omega)] at hx; cases hx
    have h1 : (cur.toList.take (l.length * 1))[i]? = some (.int .i64 x) := by
      rw [htake, List.getElem?_map, hx]
      rfl
    rw [List.getElem?_take, if_pos (by omega)] at h1
    unfold World.cell?
    rw [hcell]
    simpa [szOf] using h1

def extClone : List V → List Obj → Option (V × List Obj × List Obj)
  | [.c (.f (.sl _ .int l))], [] => if l.length ≤ 1000000000 then some (.c (.f (.sl false .int l)), [], []) else none
  | _, _ => none

theorem extClone_ok {f : FuncId} {T : TypeId} (hfn : ∃ fn c, P.funcs[f]? = some fn ∧ fn.body = some c ∧ (fn.name == "runtime.NumGoroutine") = false)
    (h1 : ∀ (b off n c : Nat) (zs : List Int) (w : World), n ≤ zs.length → n * 8 ≤ 140737488355328 → (∀ j, j < zs.length → w.cell? ⟨b, off + j, none⟩ = some (.int .i64 (zs.getD j 0))) →
      Calls P f #[.slice (some ⟨b, off, none⟩) n c] w fun e w' => ∃ v', e = .returned v' ∧ w'.ownsRow w.heap.size T 1 v' n ((zs.take n).map (Value.int .i64)) ∧ v' ≠ .slice none 0 0 ∧ Go.RowKit.Below w.heap.size w w')
    (h2 : ∀ (n c : Nat) (w : World), Calls P f #[.slice none n c] w fun e w' => e = .returned (.slice none 0 0) ∧ w' = w)
    (h3 : ∀ (a : Addr) (c : Nat) (w : World), Calls P f #[.slice (some a) 0 c] w fun e w' => ∃ v', e = .returned v' ∧ w'.ownsRow w.heap.size T 1 v' 0 [] ∧ v' ≠ .slice none 0 0 ∧ Go.RowKit.Below w.heap.size w w') :
    ∀ args objs r, extClone args objs = some r → FnOK G P f args objs r := by
  intro args objs r hr
  unfold extClone at hr
  split at hr
  · rename_i t l
    split at hr
    · rename_i hb
      simp only [Option.some.injEq] at hr
      subst hr
      refine FnOK.ints (T := T) hfn fun M loc w vs hg hv => ?_
      cases vs with
      | nil => exact hv.elim
      | cons u us =>
        unfold VWs at hv
        cases us with
        | cons => exact hv.2.elim
        | nil =>
          obtain ⟨n, hn⟩ := (by have := hv.1; unfold VW CW at this; exact this : ∃ n, CellW w M n u (.sl t .int l))
          cases n with
          | zero => exact (by unfold CellW at hn; exact hn : False).elim
          | succ n =>
            unfold CellW at hn
            obtain ⟨A, c, rfl, hc1, hc2, hc3⟩ := hn
            cases hl : l with
            | nil =>
              subst hl
              cases A with
              | none =>
                refine (h2 _ c w).mono fun e w' => ?_
                rintro ⟨rfl, rfl⟩
                exact ⟨_, rfl, ⟨rfl, .inl ⟨rfl, rfl⟩⟩, Go.RowKit.Below.refl _ _⟩
              | some a =>
                refine (h3 a c w).mono fun e w' => ?_
                rintro ⟨v', rfl, ho, _, hb⟩
                exact ⟨v', rfl, ho, hb⟩
            | cons x0 l0 =>
              obtain ⟨b, o, hA, _⟩ := hc3 0 x0 (by rw [hl]; rfl)
              subst hA
              have hcell : ∀ j, j < l.length → w.cell? ⟨b, o + j, none⟩ = some (.int .i64 (l.getD j 0)) := by
                intro j hj
                obtain ⟨x, hx⟩ : ∃ x, l[j]? = some x := ⟨_, List.getElem?_eq_getElem hj⟩
                obtain ⟨b', o', hA', _, _, hq⟩ := hc3 j x hx
                simp only [Option.some.injEq, Addr.mk.injEq, and_true] at hA'
                obtain ⟨rfl, rfl⟩ := hA'
                obtain ⟨u, hu, hr⟩ := hq 0 (.int x) rfl
                have hux : u = .int .i64 x := by
                  cases n with
                  | zero => unfold CellW at hr; exact hr.1
                  | succ n => unfold CellW at hr; exact hr.1
                rw [show o + j = o + j * szOf .int + 0 by simp [szOf], hu, hux, List.getD_eq_getElem?_getD, hx]
                rfl
              rw [← hl]
              refine (h1 b o l.length c l w (Nat.le_refl _) (by omega) hcell).mono fun e w' => ?_
              rintro ⟨v', rfl, ho, _, hb⟩
              rw [List.take_length] at ho
              exact ⟨v', rfl, ho, hb⟩
    · cases hr
  · cases hr

end
end Go.Vm

namespace Go.Vm
open Go.Proofs
set_option linter.unusedVariables false
set_option linter.unusedSimpArgs false

section
variable {P : Program}

theorem ints_of {w : World} {M : Nat → Prop} {h : Hp} {loc : Loc} {l : List Int} {news : List Value} (hcs : CWs w M h loc news ((flat .int l).map C.f)) : news = l.map (Value.int .i64) := by
  have hlen := hcs.length
  rw [List.length_map, flat_length] at hlen
  simp only [szOf, Nat.mul_one] at hlen
  refine List.ext_getElem? fun j => ?_
  rw [List.getElem?_map]
  cases hx : l[j]? with
  | none =>
    have : l.length ≤ j := List.getElem?_eq_none_iff.1 hx
    rw [List.getElem?_eq_none (by omega)]
    rfl
  | some x =>
    have hg := flat_get .int l j 0 x (.int x) hx rfl
    simp only [szOf, Nat.mul_one, Nat.add_zero] at hg
    obtain ⟨u, hu, hc⟩ := hcs.get (j := j) (c := .f (.int x)) (by rw [List.getElem?_map, hg]; rfl)
    unfold CW at hc
    obtain ⟨n, hn⟩ := hc
    have : u = .int .i64 x := by cases n <;> exact hn.1
    rw [hu, this]
    rfl

theorem natClone_int {g : FuncId} {T : TypeId} (hfn : ∃ fn c, P.funcs[g]? = some fn ∧ fn.body = some c ∧ (fn.name == "runtime.NumGoroutine") = false)
    (h1 : ∀ (b off n c : Nat) (zs : List Int) (w : World), n ≤ zs.length → n * 8 ≤ 140737488355328 → (∀ j, j < zs.length → w.cell? ⟨b, off + j, none⟩ = some (.int .i64 (zs.getD j 0))) →
      Calls P g #[.slice (some ⟨b, off, none⟩) n c] w fun e w' => ∃ v', e = .returned v' ∧ w'.ownsRow w.heap.size T 1 v' n ((zs.take n).map (Value.int .i64)) ∧ v' ≠ .slice none 0 0 ∧ Go.RowKit.Below w.heap.size w w')
    (h2 : ∀ (n c : Nat) (w : World), Calls P g #[.slice none n c] w fun e w' => e = .returned (.slice none 0 0) ∧ w' = w)
    (h3 : ∀ (a : Addr) (c : Nat) (w : World), Calls P g #[.slice (some a) 0 c] w fun e w' => ∃ v', e = .returned v' ∧ w'.ownsRow w.heap.size T 1 v' 0 [] ∧ v' ≠ .slice none 0 0 ∧ Go.RowKit.Below w.heap.size w w') :
    NatOK P g (.clone .int) := by
  refine ⟨hfn, fun b off c l news w M h loc hmax hcs hcell => ?_, fun c w => h2 0 c w, fun a c w => (h3 a c w).mono fun e w' ⟨v', h4, h5, _, h6⟩ => ⟨v', T, h4, h5, h6⟩⟩
  have hn := ints_of (l := l) hcs
  subst hn
  have hm : l.length ≤ 1000000000 := hmax
  refine (h1 b off l.length c l w (Nat.le_refl _) (by omega) (fun j hj => ?_)).mono fun e w' => ?_
  · obtain ⟨x, hx⟩ : ∃ x, l[j]? = some x := ⟨_, List.getElem?_eq_getElem hj⟩
    rw [List.getD_eq_getElem?_getD, hx]
    exact hcell j _ (by rw [List.getElem?_map, hx]; rfl)
  · rintro ⟨v', rfl, ho, _, hb⟩
    rw [List.take_length] at ho
    exact ⟨v', T, rfl, ho, hb⟩

end
end Go.Vm

namespace Go.Vm
set_option linter.unusedVariables false
set_option linter.unusedSimpArgs false

theorem sumC_le {β : Type} (c d : β → Nat) : ∀ {l : List β}, (∀ x ∈ l, c x ≤ d x) → sumC c l ≤ sumC d l
  | [], _ => Nat.le_refl _
  | x :: l, h => by
    have h1 := h x (List.mem_cons_self ..)
    have h2 := sumC_le c d (l := l) fun y hy => h y (List.mem_cons_of_mem _ hy)
    simp only [sumC]
    omega

mutual
/-- How many terms a term is. -/
def Term.size : Term → Nat
  | ⟨_, _, _, k⟩ => 1 + Term.sizes k
def Term.sizes : List Term → Nat
  | [] => 0
  | t :: l => Term.size t + Term.sizes l
end

theorem Term.size_eq (t : Term) : t.size = 1 + Term.sizes t.kids := by cases t; rw [Term.size]

theorem Term.sizes_sum : ∀ l : List Term, Term.sizes l = sumC Term.size l
  | [] => rfl
  | t :: l => by simp only [Term.sizes, sumC, Term.sizes_sum l]

theorem Term.len_sizes : ∀ l : List Term, l.length ≤ Term.sizes l
  | [] => Nat.le_refl _
  | t :: l => by
    have h1 := Term.len_sizes l
    have h2 : 1 ≤ t.size := by rw [Term.size_eq]; omega
    simp only [Term.sizes, List.length_cons]
    omega

theorem Term.sizes_mem {x : Term} {l : List Term} (h : x ∈ l) : x.size ≤ Term.sizes l := by
  rw [Term.sizes_sum]; exact sumC_mem _ h

theorem Term.size_le (t : Term) : t.size ≤ t.cost + 1 := by
  revert t
  refine Term.ind ?_
  intro t ih
  rw [Term.size_eq, Term.cost_eq]
  have : ∀ l : List Term, (∀ x ∈ l, x.size ≤ x.cost + 1) → Term.sizes l ≤ Term.costs l := by
    intro l
    induction l with
    | nil => intro _; simp [Term.sizes, Term.costs]
    | cons x l ihl =>
      intro h
      have h1 := h x (List.mem_cons_self ..)
      have h2 := ihl fun y hy => h y (List.mem_cons_of_mem _ hy)
      simp only [Term.sizes, Term.costs]
      omega
  have := this t.kids ih
  omega

/-- How many kids a term of an op has; -1 of none. -/
def arity (op : Int) : Int :=
  if op = 1 ∨ op = 2 then 0 else if op = 4 ∨ op = 6 then 1 else if op = 3 ∨ op = 5 ∨ op = 7 ∨ op = 8 then 2 else -1

mutual
/-- Which of two terms comes first. -/
def Term.before : Term → Term → Bool
  | ⟨o, n, s, k⟩, ⟨o', n', s', k'⟩ =>
    if o ≠ o' then decide (o < o') else if n ≠ n' then decide (n < n') else if s ≠ s' then Op.bytesLess s.toList s'.toList
    else if k.length ≠ k'.length then decide (k.length < k'.length) else Term.befores k k'
def Term.befores : List Term → List Term → Bool
  | x :: xs, y :: ys => if x ≠ y then Term.before x y else Term.befores xs ys
  | _, _ => false
end

/-- Right but for size. -/
def formOk1 (t : Term) : Bool :=
  decide ((t.kids.length : Int) = arity t.op) &&
    (if t.op = 1 then decide (0 ≤ t.n) && decide (t.n ≤ 1000000) && decide (t.s = ⟨#[]⟩)
    else if t.op = 2 then decide (t.n = 0) && decide (t.s.size ≤ 300)
    else if t.op = 5 then decide (t.n = 0) && decide (t.s = ⟨#[]⟩) && !Term.before (t.kids.getD 1 zeroT) (t.kids.getD 0 zeroT)
    else decide (t.n = 0) && decide (t.s = ⟨#[]⟩))

mutual
def Term.formOk : Term → Bool
  | ⟨o, n, s, k⟩ => formOk1 ⟨o, n, s, k⟩ && Term.formOks k
def Term.formOks : List Term → Bool
  | [] => true
  | t :: l => Term.formOk t && Term.formOks l
end

theorem Term.formOk_eq (t : Term) : t.formOk = (formOk1 t && Term.formOks t.kids) := by cases t; rw [Term.formOk]

theorem Term.formOks_all : ∀ l : List Term, Term.formOks l = l.all Term.formOk
  | [] => rfl
  | t :: l => by simp only [Term.formOks, List.all_cons, Term.formOks_all l]

def Term.ok (t : Term) : Bool := decide (t.size ≤ 200) && t.formOk

theorem Term.ok_kids {t x : Term} (h : t.ok = true) (hx : x ∈ t.kids) : x.ok = true := by
  unfold Term.ok at h ⊢
  rw [Term.formOk_eq, Term.size_eq, Term.formOks_all] at h
  simp only [Bool.and_eq_true, decide_eq_true_eq, List.all_eq_true] at h ⊢
  have := Term.sizes_mem hx
  exact ⟨by omega, h.2.2 x hx⟩

theorem Term.form_len {t : Term} (h : t.formOk = true) : (t.kids.length : Int) = arity t.op := by
  rw [Term.formOk_eq, formOk1] at h
  simp only [Bool.and_eq_true, decide_eq_true_eq] at h
  exact h.1.1

/-- The texts of a right term are short. -/
theorem Term.form_s {t : Term} (h : t.formOk = true) : t.s.size ≤ 300 := by
  rw [Term.formOk_eq, formOk1] at h
  simp only [Bool.and_eq_true, decide_eq_true_eq] at h
  obtain ⟨⟨_, h2⟩, _⟩ := h
  split at h2
  · simp only [Bool.and_eq_true, decide_eq_true_eq] at h2; rw [h2.2]; decide
  · split at h2
    · simp only [Bool.and_eq_true, decide_eq_true_eq] at h2; exact h2.2
    · split at h2
      · simp only [Bool.and_eq_true, decide_eq_true_eq] at h2; rw [h2.1.2]; decide
      · simp only [Bool.and_eq_true, decide_eq_true_eq] at h2; rw [h2.2]; decide

theorem Term.cost_form : ∀ t : Term, t.formOk = true → t.cost + 1 ≤ 301 * t.size := by
  refine Term.ind ?_
  intro t ih h
  have hs := Term.form_s h
  rw [Term.cost_eq, Term.size_eq]
  have hk : ∀ x ∈ t.kids, x.formOk = true := by
    rw [Term.formOk_eq, Term.formOks_all] at h
    simp only [Bool.and_eq_true, List.all_eq_true] at h
    exact h.2
  have : ∀ l : List Term, (∀ x ∈ l, x.cost + 1 ≤ 301 * x.size) → Term.costs l ≤ 301 * Term.sizes l := by
    intro l
    induction l with
    | nil => intro _; simp [Term.sizes, Term.costs]
    | cons x l ihl =>
      intro h
      have h1 := h x (List.mem_cons_self ..)
      have h2 := ihl fun y hy => h y (List.mem_cons_of_mem _ hy)
      simp only [Term.sizes, Term.costs]
      omega
  have := this t.kids fun x hx => ih x hx (hk x hx)
  omega

theorem Term.cost_ok {t : Term} (h : t.ok = true) : t.cost ≤ 60199 := by
  unfold Term.ok at h
  simp only [Bool.and_eq_true, decide_eq_true_eq] at h
  have := Term.cost_form t h.2
  omega

/-! ### Same, in order -/

theorem lfold_find {β γ : Type} (p : β → Bool) (c : γ) : ∀ (l : List β) (i : Nat), lfold (fun _ x (_ : Unit) => if p x = true then (.inr c : Unit ⊕ γ) else .inl ()) i l () = if l.any p = true then .inr c else .inl ()
  | [], i => rfl
  | x :: l, i => by
    simp only [lfold]
    by_cases h : p x = true
    · simp [h]
    · simp only [h, if_false, lfold_find p c l (i + 1), List.any_cons]; simp

/-! ### What can be made -/

def pubT (t : Term) : Term := ⟨4, 0, ⟨#[]⟩, [t]⟩

mutual
/-- What can be made of parts, of a term that is right. -/
def Term.made (ps : List Term) : Term → Bool
  | ⟨o, n, s, k⟩ =>
    if o = 2 then true else if decide ((⟨o, n, s, k⟩ : Term) ∈ ps) = true then true else if o = 1 then false
    else if o = 5 then Term.mades5 ps k
    else Term.mades ps k
/-- All of them. -/
def Term.mades (ps : List Term) : List Term → Bool
  | [] => true
  | t :: l => Term.made ps t && Term.mades ps l
/-- One of two, and the other's open half; or the other way. -/
def Term.mades5 (ps : List Term) : List Term → Bool
  | [a, b] => Term.made ps a && (decide (pubT b ∈ ps) || Term.made ps b) || Term.made ps b && (decide (pubT a ∈ ps) || Term.made ps a)
  | _ => false
end

end Go.Vm

namespace Go.Vm
set_option linter.unusedVariables false
set_option linter.unusedSimpArgs false

theorem qb_s {α β : Type} (v : α) (k : α → Option β) : qb (some v) k = k v := rfl

theorem unC_s (x : C) : unC (.c x) = some x := rfl
theorem fInt_s (n : Int) : fInt (.f (.int n)) = some n := rfl
theorem fBool_s (b : Bool) : fBool (.f (.bool b)) = some b := rfl
theorem fStr_s (s : ByteArray) : fStr (.f (.str s)) = some s := rfl
theorem fSl_s {k : Kind} (t : Bool) (l : List (El k)) : fSl k (.f (.sl t k l)) = some l := by simp [fSl]

/-! ### What a state holds, read off -/

theorem Id.beq_eq (a b : Id) : Id.beq a b = decide (a = b) := by
  have nb : ∀ x y : Nat, Nat.beq x y = decide (x = y) := by
    intro x y
    by_cases h : x = y
    · subst h; rw [Nat.beq_refl]; simp
    · cases hb : Nat.beq x y with
      | false => simp [h]
      | true => exact absurd (Nat.eq_of_beq_eq_true hb) h
  cases a <;> cases b <;> simp only [Id.beq, nb, Id.own.injEq, Id.arg.injEq, Id.ret.injEq, reduceCtorEq, decide_false, Bool.decide_and]

theorem frOf_c (s t : Nat) (v : V) (r : List (Nat × V)) : frOf ((s, v) :: r) t = if t = s then v else frOf r t := by
  show (bif Nat.beq t s then v else frOf r t) = _
  by_cases h : t = s
  · subst h; simp [Nat.beq_refl]
  · have : Nat.beq t s = false := by
      cases hb : Nat.beq t s with
      | false => rfl
      | true => exact absurd (Nat.eq_of_beq_eq_true hb) h
    simp [this, h]

theorem hpIds_c (i j : Id) (o : Obj) (r : List (Id × Obj)) : hpIds ((i, o) :: r) j = if j = i then some o else hpIds r j := by
  show (bif Id.beq j i then some o else hpIds r j) = _
  rw [Id.beq_eq]
  by_cases h : j = i <;> simp [h]

theorem asBox_s (cs : List C) : asBox (.box cs) = some cs := rfl
theorem asRow_s (w : Bool) (k : Kind) (l : List (El k)) : asRow w k (.row w k l) = some l := by simp [asRow]
theorem fBx_s (id : Id) (off : Nat) : fBx id off (.bx id off) = some () := by simp [fBx, Id.beq_eq, Nat.beq_refl]
theorem fRow_s (id : Id) (k : Kind) : fRow id k (.row id k) = some () := by simp [fRow, Id.beq_eq]
theorem isRetE_r : isRetE .ret = true := rfl
theorem isRetE_e (n : Nat) : isRetE (.ext n) = false := rfl
theorem isExt_e (n : Nat) : isExt n (.ext n) = true := Nat.beq_refl n
theorem br_t {α : Type} (x y : α) : br true x y = x := rfl
theorem br_f {α : Type} (x y : α) : br false x y = y := rfl

section
variable {P : Program} {cfg : Cfg} {T : CallSem} {n d f r na : Nat} {β : Type}

/-- Out at the first element that is such. -/
theorem lp_any (l : List β) (p : β → Bool) (S : Nat → St) (O E : Ex × St)
    (hO : roundK P cfg T n d f r na (S l.length) = some O) (hO' : isN O.1 = false) (hE : isN E.1 = false)
    (hs : ∀ i x, l[i]? = some x → i < l.length → roundK P cfg T n d f r na (S i) = some (if p x = true then E else (.nrm, S (i + 1)))) :
    ∀ q, l.length < q → lp P cfg T n d f r na q (S 0) = some (if l.any p = true then E else O) := by
  intro q hq
  have h := lp_list (P := P) (cfg := cfg) (T := T) (n := n) (d := d) (f := f) (r := r) (na := na) l (fun _ x (_ : Unit) => if p x = true then (.inr () : Unit ⊕ Unit) else .inl ())
    (fun i _ => S i) (fun _ => O) (fun _ => E) (fun _ _ => True) (fun _ _ => hO) (fun _ => hO') (fun _ => hE)
    (fun i x a hx hi _ => by rw [hs i x hx hi]; by_cases hp : p x = true <;> simp [hp]) (fun _ _ _ _ _ _ _ _ => trivial) () q trivial hq
  rw [h, lfold_find]
  by_cases ha : l.any p = true <;> simp [ha]

/-- Out at the first element that is such, and at which place. -/
theorem lp_at (l : List β) (p : β → Bool) (S : Nat → St) (O : Ex × St) (E : Nat → Ex × St)
    (hO : roundK P cfg T n d f r na (S l.length) = some O) (hO' : isN O.1 = false) (hE : ∀ i, isN (E i).1 = false)
    (hs : ∀ i x, l[i]? = some x → i < l.length → roundK P cfg T n d f r na (S i) = some (if p x = true then E i else (.nrm, S (i + 1)))) :
    ∀ q, l.length < q → lp P cfg T n d f r na q (S 0) = some (match l.findIdx? p with | some i => E i | none => O) := by
  intro q hq
  have main : ∀ (suf pre : List β) (q : Nat), l = pre ++ suf → suf.length < q → lp P cfg T n d f r na q (S pre.length) = some (match suf.findIdx? p with | some i => E (pre.length + i) | none => O) := by
    intro suf
    induction suf with
    | nil =>
      intro pre q hl hq
      obtain ⟨q, rfl⟩ : ∃ q', q = q' + 1 := ⟨q - 1, by omega⟩
      have : pre.length = l.length := by rw [hl]; simp
      rw [this]
      exact lp_out hO hO'
    | cons x suf ih =>
      intro pre q hl hq
      obtain ⟨q, rfl⟩ : ∃ q', q = q' + 1 := ⟨q - 1, by omega⟩
      have h1 := hs pre.length x (by rw [hl]; simp) (by rw [hl]; simp)
      rw [List.findIdx?_cons]
      by_cases hp : p x = true
      · rw [if_pos hp] at h1 ⊢
        exact lp_out h1 (hE _)
      · rw [if_neg hp] at h1 ⊢
        have h2 := ih (pre ++ [x]) q (by rw [hl]; simp) (by simp at hq; omega)
        simp only [List.length_append, List.length_cons, List.length_nil, Nat.zero_add] at h2
        refine (lp_next h1 h2).trans ?_
        cases suf.findIdx? p with
        | none => rfl
        | some j => simp [Nat.add_assoc, Nat.add_comm 1]
  have h := main l [] q rfl hq
  simpa using h

/-- All added up. -/
theorem lp_sum (l : List β) (c : β → Nat) (S : Nat → Nat → St) (O : Nat → Ex × St) (B : Nat)
    (hO : ∀ a, roundK P cfg T n d f r na (S l.length a) = some (O a)) (hO' : ∀ a, isN (O a).1 = false)
    (hs : ∀ i x a, l[i]? = some x → i < l.length → a + c x ≤ B → roundK P cfg T n d f r na (S i a) = some (.nrm, S (i + 1) (a + c x))) :
    ∀ a q, a + sumC c l ≤ B → l.length < q → lp P cfg T n d f r na q (S 0 a) = some (O (a + sumC c l)) := by
  have main : ∀ (suf pre : List β) (a q : Nat), l = pre ++ suf → a + sumC c suf ≤ B → suf.length < q → lp P cfg T n d f r na q (S pre.length a) = some (O (a + sumC c suf)) := by
    intro suf
    induction suf with
    | nil =>
      intro pre a q hl hb hq
      obtain ⟨q, rfl⟩ : ∃ q', q = q' + 1 := ⟨q - 1, by omega⟩
      have : pre.length = l.length := by rw [hl]; simp
      rw [this]
      exact lp_out (hO a) (hO' a)
    | cons x suf ih =>
      intro pre a q hl hb hq
      obtain ⟨q, rfl⟩ : ∃ q', q = q' + 1 := ⟨q - 1, by omega⟩
      have e : sumC c (x :: suf) = c x + sumC c suf := rfl
      rw [e] at hb ⊢
      have h1 := hs pre.length x a (by rw [hl]; simp) (by rw [hl]; simp) (by omega)
      have h2 := ih (pre ++ [x]) (a + c x) q (by rw [hl]; simp) (by omega) (by simp at hq; omega)
      simp only [List.length_append, List.length_cons, List.length_nil, Nat.zero_add] at h2
      rw [← Nat.add_assoc]
      exact lp_next h1 h2
  intro a q hb hq
  exact main l [] a q rfl hb hq

/-- Something built up, element by element. -/
theorem lp_fold {α : Type} (l : List β) (g : α → β → α) (S : Nat → α → St) (O : α → Ex × St) (Inv : Nat → α → Prop)
    (hO : ∀ a, Inv l.length a → roundK P cfg T n d f r na (S l.length a) = some (O a)) (hO' : ∀ a, isN (O a).1 = false)
    (hs : ∀ i x a, l[i]? = some x → i < l.length → Inv i a → roundK P cfg T n d f r na (S i a) = some (.nrm, S (i + 1) (g a x)) ∧ Inv (i + 1) (g a x)) :
    ∀ a q, Inv 0 a → l.length < q → lp P cfg T n d f r na q (S 0 a) = some (O (l.foldl g a)) := by
  have main : ∀ (suf pre : List β) (a : α) (q : Nat), l = pre ++ suf → Inv pre.length a → suf.length < q → lp P cfg T n d f r na q (S pre.length a) = some (O (suf.foldl g a)) := by
    intro suf
    induction suf with
    | nil =>
      intro pre a q hl hb hq
      obtain ⟨q, rfl⟩ : ∃ q', q = q' + 1 := ⟨q - 1, by omega⟩
      have : pre.length = l.length := by rw [hl]; simp
      rw [this] at hb ⊢
      exact lp_out (hO a hb) (hO' a)
    | cons x suf ih =>
      intro pre a q hl hb hq
      obtain ⟨q, rfl⟩ : ∃ q', q = q' + 1 := ⟨q - 1, by omega⟩
      obtain ⟨h1, h3⟩ := hs pre.length x a (by rw [hl]; simp) (by rw [hl]; simp) hb
      have h2 := ih (pre ++ [x]) (g a x) q (by rw [hl]; simp) (by simpa using h3) (by simp at hq; omega)
      simp only [List.length_append, List.length_cons, List.length_nil, Nat.zero_add] at h2
      exact lp_next h1 h2
  intro a q hb hq
  exact main l [] a q rfl hb hq

end

/-- The first place at which an element is such; -1 of none. -/
def idxOf {β : Type} (p : β → Bool) (l : List β) : Int := match l.findIdx? p with | some i => (i : Int) | none => -1

theorem idxOf_ge {β : Type} (p : β → Bool) (l : List β) : decide (idxOf p l ≥ 0) = l.any p := by
  unfold idxOf
  cases h : l.findIdx? p with
  | none =>
    have h2 : l.any p = false := by
      rw [List.findIdx?_eq_none_iff] at h
      rw [List.any_eq_false]
      intro x hx
      simp [h x hx]
    rw [h2]; rfl
  | some i =>
    have h2 : l.any p = true := by
      rw [List.any_eq_true]
      obtain ⟨hi, hp, _⟩ := List.findIdx?_eq_some_iff_getElem.1 h
      exact ⟨l[i], by simp, hp⟩
    rw [h2]; simp

theorem zip_get {α β : Type} {a : List α} {b : List β} {i : Nat} {p : α × β} (h : (a.zip b)[i]? = some p) : a[i]? = some p.1 ∧ b[i]? = some p.2 :=
  List.getElem?_zip_eq_some.1 h

theorem befores_lfold : ∀ (xs ys : List Term) (i : Nat),
    (match lfold (fun _ (p : Term × Term) (_ : Unit) => if p.1 = p.2 then (.inl () : Unit ⊕ Bool) else .inr (Term.before p.1 p.2)) i (xs.zip ys) () with | .inl _ => false | .inr b => b) = Term.befores xs ys
  | [], ys, i => by cases ys <;> rfl
  | x :: xs, [], i => by rfl
  | x :: xs, y :: ys, i => by
    simp only [List.zip_cons_cons, lfold, Term.befores]
    by_cases h : x = y
    · simp only [h, if_true, ne_eq, not_true, if_false]
      exact befores_lfold xs ys (i + 1)
    · simp [h]

theorem Term.before_eq (a b : Term) : Term.before a b = (if a.op ≠ b.op then decide (a.op < b.op) else if a.n ≠ b.n then decide (a.n < b.n) else if a.s ≠ b.s then Op.bytesLess a.s.toList b.s.toList
    else if a.kids.length ≠ b.kids.length then decide (a.kids.length < b.kids.length) else Term.befores a.kids b.kids) := by
  cases a; cases b; rw [Term.before]

/-- Right, as the reference asks it. -/
theorem formOk_ref (t : Term) : t.formOk = (decide (arity t.op = (t.kids.length : Int)) && (decide (t.op = 1) || decide (t.n = 0)) && (decide (t.op = 2) || decide (t.s = ⟨#[]⟩)) && decide (0 ≤ t.n) && decide (t.n ≤ 1000000) && decide (t.s.size ≤ 300) &&
    t.kids.all Term.formOk && (decide (t.op ≠ 5) || !Term.before (t.kids.getD 1 zeroT) (t.kids.getD 0 zeroT))) := by
  rw [Term.formOk_eq, Term.formOks_all]
  have hs : ∀ s : ByteArray, s = ⟨#[]⟩ → s.size ≤ 300 := by rintro s rfl; decide
  have e0 : ((t.kids.length : Int) = arity t.op) ↔ (arity t.op = (t.kids.length : Int)) := ⟨Eq.symm, Eq.symm⟩
  unfold formOk1
  rw [Bool.eq_iff_iff]
  by_cases h1 : t.op = 1
  · by_cases h2 : t.s = ⟨#[]⟩ <;> simp [h1, h2, e0, Bool.and_assoc, and_assoc, and_comm, and_left_comm, hs] <;> simp_all
  · by_cases h2 : t.op = 2
    · by_cases h3 : t.n = 0 <;> simp [h1, h2, h3, e0, and_assoc, and_comm, and_left_comm]
      exact fun _ _ => ⟨Eq.symm, Eq.symm⟩
    · by_cases h5 : t.op = 5
      · by_cases h3 : t.n = 0 <;> by_cases h4 : t.s = ⟨#[]⟩ <;> simp [h1, h2, h3, h4, h5, e0, hs, and_assoc, and_comm, and_left_comm]
        exact fun _ _ => ⟨Eq.symm, Eq.symm⟩
      · by_cases h3 : t.n = 0 <;> by_cases h4 : t.s = ⟨#[]⟩ <;> simp [h1, h2, h3, h4, h5, e0, hs, and_assoc, and_comm, and_left_comm]

theorem formOk_ref2 (t : Term) : t.formOk = (!(arity t.op != (t.kids.length : Int)) && (!(t.op != 1) || !(t.n != 0)) && (!(t.op != 2) || decide (t.s = ⟨#[]⟩)) && (decide (0 ≤ t.n) && decide (t.n ≤ 1000000)) && !decide ((t.s.size : Int) > 300) &&
    t.kids.all Term.formOk && (t.op != 5 || !Term.before (t.kids.getD 1 zeroT) (t.kids.getD 0 zeroT))) := by
  rw [formOk_ref]
  have e1 : decide (t.op = 1) = !(t.op != 1) := by rw [bne, Bool.not_not]; rfl
  have e2 : decide (t.op = 2) = !(t.op != 2) := by rw [bne, Bool.not_not]; rfl
  have e3 : decide (t.n = 0) = !(t.n != 0) := by rw [bne, Bool.not_not]; rfl
  have e4 : decide (arity t.op = (t.kids.length : Int)) = !(arity t.op != (t.kids.length : Int)) := by rw [bne, Bool.not_not]; rfl
  have e5 : decide (t.op ≠ 5) = (t.op != 5) := by
    by_cases h : t.op = 5 <;> simp [h]
  have e6 : decide (t.s.size ≤ 300) = !decide ((t.s.size : Int) > 300) := by
    by_cases h : t.s.size ≤ 300
    · simp [h]; omega
    · simp [h]; omega
  rw [e1, e2, e3, e4, e5, e6]
  simp only [Bool.and_assoc]

end Go.Vm

namespace Go.Vm
set_option linter.unusedVariables false
set_option linter.unusedSimpArgs false

theorem some_congr {α : Type} {a b : α} (h : a = b) : some a = some b := by rw [h]

theorem isRetE_n : isRetE .nrm = false := rfl
theorem isExt_r (n : Nat) : isExt n .ret = false := rfl

/-- A text that is tested against another one. -/
theorem not_beq_bytes (a b : ByteArray) : (!a.toList == b.toList) = !decide (a = b) := by rw [beq_bytes]

theorem bne_int (a b : Int) : (a != b) = !decide (a = b) := by rw [bne, beq_int]

theorem br_and {α : Type} (b : Bool) (x y : α) : br b x y = if b = true then x else y := br_if b x y

theorem vLeft_ge {c : Nat} {left : Int} (h : 0 ≤ left) : decide (vLeft c left < 0) = !decide ((c : Int) ≤ left) := by
  unfold vLeft
  by_cases h2 : (c : Int) ≤ left
  · rw [if_pos h2]; simp [h2]
  · rw [if_neg h2]; simp [h2]

section
variable {P : Program} {cfg : Cfg} {T : CallSem} {n d f r na : Nat} {β : Type}

/-- Each is tested; out at the first that fails. -/
theorem lp_all (l : List β) (p : β → Bool) (S : Nat → St) (O E : Ex × St)
    (hO : roundK P cfg T n d f r na (S l.length) = some O) (hO' : isN O.1 = false) (hE : isN E.1 = false)
    (hs : ∀ i x, l[i]? = some x → i < l.length → roundK P cfg T n d f r na (S i) = some (if p x = true then (.nrm, S (i + 1)) else E)) :
    ∀ q, l.length < q → lp P cfg T n d f r na q (S 0) = some (if l.all p = true then O else E) := by
  intro q hq
  have h := lp_any (P := P) (cfg := cfg) (T := T) (n := n) (d := d) (f := f) (r := r) (na := na) l (fun x => !p x) S O E hO hO' hE
    (fun i x hx hi => by rw [hs i x hx hi]; cases p x <;> simp) q hq
  rw [h, List.all_eq_not_any_not]
  cases l.any fun x => !p x <;> simp

end

/-! ### Sizes, lists: what the laws' helpers do -/

section
variable {P : Program} {cfg : Cfg} {T : CallSem} {n d f r na : Nat} {β : Type}

/-- Two lists, place by place. -/
theorem lp_eq' [DecidableEq β] (a b : List β) (hl : a.length = b.length) (S : Nat → St) (O E : Ex × St)
    (hO : roundK P cfg T n d f r na (S a.length) = some O) (hO' : isN O.1 = false) (hE : isN E.1 = false)
    (hs : ∀ i x y, a[i]? = some x → b[i]? = some y → i < a.length → roundK P cfg T n d f r na (S i) = some (if x = y then (.nrm, S (i + 1)) else E)) :
    ∀ q, a.length < q → lp P cfg T n d f r na q (S 0) = some (if a = b then O else E) := by
  intro q hq
  obtain ⟨e, he, h⟩ := lp_eq (P := P) (cfg := cfg) (T := T) (n := n) (d := d) (f := f) (r := r) (na := na) a b hl S O E hO hO' hE
    (fun i x y hx hy hi => ⟨fun he => by rw [hs i x y hx hy hi, if_pos he], fun he => by rw [hs i x y hx hy hi, if_neg he]⟩) q hq
  rw [h, he]
  by_cases hab : a = b <;> simp [hab]

end

theorem Term.costs_sum : ∀ l : List Term, Term.costs l = l.length + sumC Term.cost l
  | [] => rfl
  | x :: l => by simp only [Term.costs, sumC, List.length_cons, Term.costs_sum l]; omega

theorem len_ne {α : Type} {a b : List α} (h : a.length ≠ b.length) : ¬ a = b := fun e => h (by rw [e])

end Go.Vm

namespace Go.Vm
open Go.Proofs
set_option linter.unusedVariables false
set_option linter.unusedSimpArgs false

/-- The digits, none of 0. -/
def digs (m : Nat) : List UInt8 := if m = 0 then [] else Lib.decDigits m

theorem digs_zero : digs 0 = [] := rfl

theorem digs_step {m : Nat} (h : m ≠ 0) : digs m = digs (m / 10) ++ [UInt8.ofNat (48 + m % 10)] := by
  unfold digs
  rw [if_neg h, Lib.decDigits]
  by_cases h1 : m < 10
  · rw [dif_pos h1, if_pos (by omega), show m % 10 = m by omega]; rfl
  · rw [dif_neg h1, if_neg (by omega)]

theorem ba_cons (y : UInt8) (l : List UInt8) : (ByteArray.mk #[y]) ++ (ByteArray.mk l.toArray) = ByteArray.mk (y :: l).toArray := by
  refine ByteArray.ext ?_
  rw [ByteArray.data_append]
  simp

theorem ba_append (l r : List UInt8) : (ByteArray.mk l.toArray) ++ (ByteArray.mk r.toArray) = ByteArray.mk (l ++ r).toArray := by
  refine ByteArray.ext ?_
  rw [ByteArray.data_append]
  simp

theorem ba_len (l : List UInt8) : (ByteArray.mk l.toArray).size = l.length := by simp [ByteArray.size]

theorem u8_digit {d : Nat} (h : d < 10) : u8of (IntKind.u8.wrap (IntKind.i64.wrap (48 + (d : Int)))) = some (UInt8.ofNat (48 + d)) := by
  rw [wrap_id (by omega) (by omega)]
  have : ∀ k : Nat, k < 10 → u8of (IntKind.u8.wrap (48 + (k : Int))) = some (UInt8.ofNat (48 + k)) := by decide
  exact this d h

theorem ne10 : ne0 10 = some () := rfl

section
variable {P : Program} {cfg : Cfg} {T : CallSem} {n d f r : Nat}

theorem lp_digits (S : Int → Bool → ByteArray → St) (O : Bool → ByteArray → St)
    (hr : ∀ x b acc, roundK P cfg T n d f r 0 (S x b acc) = br (x != 0)
      (qb (ne0 10) fun _ =>
        br (decide (x.tmod 10 < 0))
          (qb (u8of (IntKind.u8.wrap (IntKind.i64.wrap (48 + IntKind.i64.wrap (0 - x.tmod 10))))) fun y =>
            qb (catOk (ByteArray.mk #[y]) acc) fun _ => qb (ne0 10) fun _ => some (Ex.nrm, S (IntKind.i64.wrap (x.tdiv 10)) b (ByteArray.mk #[y] ++ acc)))
          (qb (u8of (IntKind.u8.wrap (IntKind.i64.wrap (48 + x.tmod 10)))) fun y =>
            qb (catOk (ByteArray.mk #[y]) acc) fun _ => qb (ne0 10) fun _ => some (Ex.nrm, S (IntKind.i64.wrap (x.tdiv 10)) b (ByteArray.mk #[y] ++ acc))))
      (some (Ex.ext 0, O b acc))) (b : Bool) :
    ∀ (m : Nat) (neg : Bool) (l : List UInt8) (q : Nat), m ≤ 9223372036854775808 → (neg = false → m ≤ 9223372036854775807) → (digs m).length + l.length ≤ 100 → m < q →
      lp P cfg T n d f r 0 q (S (bif neg then -(m : Int) else m) b ⟨l.toArray⟩) = some (.ext 0, O b ⟨(digs m ++ l).toArray⟩) := by
  intro m
  induction m using Nat.strongRecOn with
  | _ m ih =>
    intro neg l q hm hm2 hlen hq
    obtain ⟨q, rfl⟩ : ∃ q', q = q' + 1 := ⟨q - 1, by omega⟩
    by_cases h0 : m = 0
    · subst h0
      refine lp_out (e := .ext 0) ?_ rfl
      rw [hr]
      cases neg <;> simp [br, digs_zero]
    · have hst := digs_step h0
      have hcat : ∀ y : UInt8, catOk (ByteArray.mk #[y]) (ByteArray.mk l.toArray) = some () := fun y => catOk_ok (by rw [ba_len, ba_size]; simp; omega)
      have hlen2 : (digs (m / 10)).length + ((UInt8.ofNat (48 + m % 10) :: l)).length ≤ 100 := by
        rw [hst] at hlen; simp at hlen ⊢; omega
      have hnext := ih (m / 10) (by omega) neg (UInt8.ofNat (48 + m % 10) :: l) q (by omega) (fun _ => by omega) hlen2 (by omega)
      rw [show digs m ++ l = digs (m / 10) ++ (UInt8.ofNat (48 + m % 10) :: l) by rw [hst]; simp]
      refine lp_next ?_ hnext
      have hdig := u8_digit (d := m % 10) (by omega)
      have hm1 : (m : Int).tmod 10 = ((m % 10 : Nat) : Int) := rfl
      have hd1 : (m : Int).tdiv 10 = ((m / 10 : Nat) : Int) := rfl
      cases neg with
      | false =>
        show roundK P cfg T n d f r 0 (S (m : Int) b ⟨l.toArray⟩) = some (.nrm, S ((m / 10 : Nat) : Int) b _)
        rw [hr]
        have e1 : ((m : Int) != 0) = true := by simp; omega
        have e2 : decide ((m : Int).tmod 10 < 0) = false := by rw [decide_eq_false_iff_not, hm1]; omega
        have e3 : IntKind.i64.wrap ((m / 10 : Nat) : Int) = ((m / 10 : Nat) : Int) := wrap_id (by omega) (by omega)
        simp only [e1, e2, br, qb, ne10]
        simp only [hm1, hd1, hdig, hcat, e3, ba_cons]
      | true =>
        show roundK P cfg T n d f r 0 (S (-(m : Int)) b ⟨l.toArray⟩) = some (.nrm, S (-((m / 10 : Nat) : Int)) b _)
        rw [hr]
        have e1 : ((-(m : Int)) != 0) = true := by simp; omega
        have t1 : (-(m : Int)).tmod 10 = -((m % 10 : Nat) : Int) := by rw [Int.neg_tmod, hm1]
        have t2 : (-(m : Int)).tdiv 10 = -((m / 10 : Nat) : Int) := by rw [Int.neg_tdiv, hd1]
        have e3 : IntKind.i64.wrap (-((m / 10 : Nat) : Int)) = -((m / 10 : Nat) : Int) := wrap_id (by omega) (by omega)
        by_cases h1 : m % 10 = 0
        · have e2 : decide ((-(m : Int)).tmod 10 < 0) = false := by rw [decide_eq_false_iff_not, t1]; omega
          have t3 : (-(m : Int)).tmod 10 = ((m % 10 : Nat) : Int) := by rw [t1]; omega
          simp only [e1, e2, br, qb, ne10]
          simp only [t3, t2, hdig, hcat, e3, ba_cons]
        · have e2 : decide ((-(m : Int)).tmod 10 < 0) = true := by rw [decide_eq_true_iff, t1]; omega
          have t3 : IntKind.i64.wrap (0 - (-(m : Int)).tmod 10) = ((m % 10 : Nat) : Int) := by rw [t1, wrap_id (by omega) (by omega)]; omega
          simp only [e1, e2, br, qb, ne10]
          simp only [t3, t2, hdig, hcat, e3, ba_cons]

theorem itoaB_neg {m : Nat} (h : m ≠ 0) : itoaB (-(m : Int)) = ByteArray.mk #[45] ++ ByteArray.mk (digs m).toArray := by
  rw [ba_cons]
  unfold itoaB Lib.itoa digs
  rw [if_pos (by omega), if_neg h]
  simp

theorem itoaB_pos {m : Nat} (h : m ≠ 0) : itoaB (m : Int) = ByteArray.mk (digs m).toArray := by
  unfold itoaB Lib.itoa digs
  rw [if_neg (by omega), if_neg h]
  simp

theorem itoaB_zero : itoaB 0 = ⟨#[48]⟩ := by
  unfold itoaB Lib.itoa
  rw [if_neg (by omega), Lib.decDigits, dif_pos (by simp)]
  rfl

theorem itoaB_size {n : Int} (h0 : -9223372036854775808 ≤ n) (h1 : n ≤ 9223372036854775807) : (itoaB n).size ≤ 21 := by
  unfold itoaB
  rw [ba_len]
  exact Lib.itoa_length_le n h0 h1

theorem digs_len {m : Nat} (h : m ≤ 9223372036854775808) : (digs m).length ≤ 21 := by
  unfold digs
  split
  · simp
  · have := Lib.nDigits_le20 m (by omega)
    rw [Lib.decDigits_length]
    omega

end
end Go.Vm

namespace Go.Vm
open Go.Proofs
set_option linter.unusedVariables false
set_option linter.unusedSimpArgs false

theorem ba_assoc (a b c : ByteArray) : a ++ b ++ c = a ++ (b ++ c) := by
  refine ByteArray.ext ?_
  rw [ByteArray.data_append, ByteArray.data_append, ByteArray.data_append, ByteArray.data_append, Array.append_assoc]

theorem ba_nil (a : ByteArray) : a ++ ⟨#[]⟩ = a := by
  refine ByteArray.ext ?_
  rw [ByteArray.data_append]
  simp

theorem noteOk_spec {n : Note} (h : noteOk n = true) : 0 ≤ n.who ∧ n.who ≤ 29 ∧
    ((n.kind = 1 ∧ n.domain.size ≤ 10 ∧ 0 ≤ n.body ∧ n.body ≤ 1000000 ∧ n.time = 0) ∨ (n.kind = 2 ∧ 0 ≤ n.time ∧ n.time ≤ 100000) ∨ n.kind = 3 ∨ n.kind = 4) := by
  unfold noteOk isAtom isTime domOk at h
  simp only [Bool.and_eq_true, decide_eq_true_eq] at h
  obtain ⟨⟨h1, h2⟩, h3⟩ := h
  refine ⟨h1, h2, ?_⟩
  split at h3
  · rename_i hk
    simp only [Bool.and_eq_true, decide_eq_true_eq] at h3
    exact .inl ⟨hk, h3.1.1.2.2, h3.1.2.1, h3.1.2.2, h3.2⟩
  · split at h3
    · rename_i hk
      simp only [Bool.and_eq_true, decide_eq_true_eq] at h3
      exact .inr (.inl ⟨hk, h3.2.1, h3.2.2⟩)
    · simp only [Bool.and_eq_true, decide_eq_true_eq] at h3
      rcases h3.1.1.1 with h | h
      · exact .inr (.inr (.inl h))
      · exact .inr (.inr (.inr h))

/-- take, try, gone, back. -/
def noteWord (k : Int) : ByteArray := if k = 1 then ⟨#[116, 97, 107, 101]⟩ else if k = 2 then ⟨#[116, 114, 121]⟩ else if k = 3 then ⟨#[103, 111, 110, 101]⟩ else ⟨#[98, 97, 99, 107]⟩

theorem noteWord_size (k : Int) : (noteWord k).size ≤ 4 := by
  unfold noteWord
  split
  · decide
  · split
    · decide
    · split <;> decide

def noteText (n : Note) : ByteArray :=
  if noteOk n = true then
    (if n.kind = 1 then noteWord n.kind ++ ⟨#[32]⟩ ++ itoaB n.who ++ ⟨#[32]⟩ ++ n.domain ++ ⟨#[32]⟩ ++ itoaB n.body ++ ⟨#[10]⟩
    else if n.kind = 2 then noteWord n.kind ++ ⟨#[32]⟩ ++ itoaB n.who ++ ⟨#[32]⟩ ++ itoaB n.time ++ ⟨#[10]⟩
    else noteWord n.kind ++ ⟨#[32]⟩ ++ itoaB n.who ++ ⟨#[10]⟩)
  else ⟨#[]⟩

theorem noteText_size (n : Note) : (noteText n).size ≤ 80 := by
  unfold noteText
  split
  · rename_i h
    obtain ⟨w0, w1, hk⟩ := noteOk_spec h
    have a0 := itoaB_size (n := n.who) (by omega) (by omega)
    have a1 := noteWord_size n.kind
    rcases hk with ⟨k, hd, b0, b1, t⟩ | ⟨k, t0, t1⟩ | k | k
    · have a2 := itoaB_size (n := n.body) (by omega) (by omega)
      rw [if_pos k]
      simp only [ByteArray.size_append, ba_size, List.size_toArray, List.length_cons, List.length_nil]
      omega
    · have a2 := itoaB_size (n := n.time) (by omega) (by omega)
      rw [if_neg (by omega), if_pos k]
      simp only [ByteArray.size_append, ba_size, List.size_toArray, List.length_cons, List.length_nil]
      omega
    · rw [if_neg (by omega), if_neg (by omega)]
      simp only [ByteArray.size_append, ba_size, List.size_toArray, List.length_cons, List.length_nil]
      omega
    · rw [if_neg (by omega), if_neg (by omega)]
      simp only [ByteArray.size_append, ba_size, List.size_toArray, List.length_cons, List.length_nil]
      omega
  · simp [ba_size]

def letterNames : List ByteArray := [⟨#[119, 97, 105, 116, 115]⟩, ⟨#[103, 111, 110, 101]⟩, ⟨#[98, 97, 99, 107]⟩]

def letterText (l : Letter) : ByteArray := l.domain ++ ⟨#[32]⟩ ++ nameOf l.state letterNames ++ ⟨#[32]⟩ ++ itoaB l.tries ++ ⟨#[32]⟩ ++ itoaB l.next

theorem letterText_size (l : Letter) (h0 : -9223372036854775808 ≤ l.tries) (h1 : l.tries ≤ 9223372036854775807) (h2 : -9223372036854775808 ≤ l.next) (h3 : l.next ≤ 9223372036854775807) : (letterText l).size ≤ l.domain.size + 60 := by
  have a0 := itoaB_size h0 h1
  have a1 := itoaB_size h2 h3
  have a2 : (nameOf l.state letterNames).size ≤ 5 := nameOf_size (by omega) (by decide)
  unfold letterText
  simp only [ByteArray.size_append, ba_size, List.size_toArray, List.length_cons, List.length_nil]
  omega

theorem join4 (a b c d : ByteArray) : joinB [a, b, c, d] ⟨#[32]⟩ = a ++ ⟨#[32]⟩ ++ b ++ ⟨#[32]⟩ ++ c ++ ⟨#[32]⟩ ++ d := by
  refine ByteArray.ext ?_
  simp only [ByteArray.data_append, joinB]
  apply Array.toList_inj.1
  simp [Lib.join, List.intercalate]

def serverNames : List ByteArray := [⟨#[108, 105, 110, 101]⟩, ⟨#[104, 101, 108, 108, 111]⟩, ⟨#[100, 111, 110, 101]⟩, ⟨#[98, 111, 100, 121]⟩, ⟨#[102, 97, 105, 108]⟩]

def serverText (s : Server) : ByteArray :=
  let a := nameOf s.step serverNames ++ ⟨#[32]⟩ ++ s.host ++ ⟨#[32]⟩ ++ itoaB s.got.length
  bif s.tls then a ++ ⟨#[32, 115, 101, 97, 108, 101, 100]⟩ else a

def modeNames : List ByteArray := [⟨#[110, 111, 110, 101]⟩, ⟨#[116, 101, 115, 116]⟩, ⟨#[104, 111, 108, 100]⟩]

def modeName (m : Int) : ByteArray := if 0 ≤ m ∧ m ≤ 2 then modeNames.getD m.toNat ⟨#[]⟩ else ⟨#[63]⟩

theorem modeName_size (m : Int) : (modeName m).size ≤ 4 := by
  unfold modeName
  split
  · rename_i h
    have : m = 0 ∨ m = 1 ∨ m = 2 := by omega
    rcases this with rfl | rfl | rfl <;> decide
  · decide

/-- Words, each with a blank ahead of it. -/
def spaced : List ByteArray → ByteArray → ByteArray
  | [], acc => acc
  | x :: r, acc => spaced r (acc ++ ⟨#[32]⟩ ++ x)

def sizes : List ByteArray → Nat
  | [] => 0
  | x :: r => 1 + x.size + sizes r

theorem spaced_size : ∀ (l : List ByteArray) (acc : ByteArray), (spaced l acc).size = acc.size + sizes l
  | [], acc => by simp [spaced, sizes]
  | x :: r, acc => by
    rw [spaced, spaced_size r]
    simp only [ByteArray.size_append, ba_size, List.size_toArray, List.length_cons, List.length_nil, sizes]
    omega

theorem lfold_spaced {γ : Type} : ∀ (l : List ByteArray) (i : Nat) (acc : ByteArray), lfold (fun _ x (a : ByteArray) => (.inl (a ++ ⟨#[32]⟩ ++ x) : ByteArray ⊕ γ)) i l acc = .inl (spaced l acc)
  | [], i, acc => rfl
  | x :: r, i, acc => by
    simp only [lfold, spaced]
    exact lfold_spaced r (i + 1) _

theorem sizes_drop {l : List ByteArray} {i : Nat} {x : ByteArray} (h : l[i]? = some x) : sizes (l.drop i) = 1 + x.size + sizes (l.drop (i + 1)) := by
  have hi : i < l.length := by
    rcases Nat.lt_or_ge i l.length with h' | h'
    · exact h'
    · rw [List.getElem?_eq_none h'] at h; cases h
  rw [List.drop_eq_getElem_cons hi]
  rw [List.getElem?_eq_getElem hi] at h
  simp at h
  rw [h]
  rfl

theorem sizes_eq : ∀ l : List ByteArray, sizes l = l.length + sumC ByteArray.size l
  | [] => rfl
  | x :: l => by simp only [sizes, sizes_eq l, sumC, List.length_cons]; omega

def policyShown (p : Policy) : ByteArray := spaced p.mx (p.domain ++ ⟨#[32]⟩ ++ modeName p.mode) ++ ⟨#[32]⟩ ++ itoaB p.til

end Go.Vm

namespace Go.Vm
open Go.Proofs
set_option linter.unusedVariables false
set_option linter.unusedSimpArgs false

/-- A text cut at each byte c. -/
def splitL (c : UInt8) : List UInt8 → List (List UInt8)
  | [] => [[]]
  | b :: l => if b = c then [] :: splitL c l else match splitL c l with
    | x :: r => (b :: x) :: r
    | [] => [[b]]

theorem splitL_ne (c : UInt8) : ∀ l, splitL c l ≠ []
  | [] => by simp [splitL]
  | b :: l => by
    unfold splitL
    split
    · simp
    · split <;> simp

theorem splitL_cons (c : UInt8) (l : List UInt8) : ∃ x r, splitL c l = x :: r := by
  cases h : splitL c l with
  | nil => exact absurd h (splitL_ne c l)
  | cons x r => exact ⟨x, r, rfl⟩

theorem splitK_one (c : UInt8) : ∀ s : List UInt8, Lib.splitK [c] 0 (Lib.count s [c]) s = splitL c s
  | [] => by
    rw [Lib.count_miss (by simp [Lib.index])]
    rfl
  | b :: l => by
    have ih := splitK_one c l
    by_cases h : b = c
    · subst h
      have hix : Lib.index (b :: l) [b] = 0 := by rw [Lib.index]; simp [List.isPrefixOf]
      rw [Lib.count_cons_eq, Nat.add_comm, Lib.splitK, hix]
      simp only [splitL, if_true]
      simp [ih]
    · have hp : ([c] : List UInt8).isPrefixOf (b :: l) = false := by simp [List.isPrefixOf, Ne.symm h]
      have hix : Lib.index (b :: l) [c] = if Lib.index l [c] == -1 then -1 else Lib.index l [c] + 1 := by rw [Lib.index, hp]; simp
      rw [Lib.count_cons_ne b c l h]
      simp only [splitL, h, if_false]
      by_cases hm : Lib.index l [c] = -1
      · rw [Lib.count_miss hm] at ih ⊢
        rw [Lib.splitK] at ih
        rw [Lib.splitK, ← ih]
      · have hge := Lib.index_ge l [c]
        obtain ⟨j, hj⟩ : ∃ j : Nat, Lib.index l [c] = j := ⟨(Lib.index l [c]).toNat, by omega⟩
        have hix' : Lib.index (b :: l) [c] = ((j + 1 : Nat) : Int) := by rw [hix, if_neg (fun e => hm (beq_iff_eq.1 e)), hj]; omega
        obtain ⟨k, hk⟩ : ∃ k, Lib.count l [c] = k + 1 := ⟨_, by rw [Lib.count_hit (by simp) hj, Nat.add_comm]⟩
        rw [hk] at ih ⊢
        have n1 : ¬ ((j : Int) == -1) = true := by simp <;> omega
        have n2 : ¬ (((j + 1 : Nat) : Int) == -1) = true := by simp <;> omega
        rw [Lib.splitK, hj, if_neg n1] at ih
        rw [Lib.splitK, hix', if_neg n2, ← ih]
        simp [show ((j : Int) + 1).toNat = j + 1 by omega]

/-- The pieces of a text between points. -/
def labels (s : ByteArray) : List ByteArray := (splitL 46 s.data.toList).map fun l => ⟨l.toArray⟩

theorem ba_eta (s : ByteArray) : (⟨s.data.toList.toArray⟩ : ByteArray) = s := by cases s; simp

theorem splitB_one (c : UInt8) (s : ByteArray) : Lib.splitB ⟨#[c]⟩ 0 (Lib.countB s ⟨#[c]⟩) s = (splitL c s.data.toList).map fun l => ⟨l.toArray⟩ := by
  have h := Lib.splitB_data ⟨#[c]⟩ 0 (Lib.countB s ⟨#[c]⟩) s
  have h2 : (Lib.splitB ⟨#[c]⟩ 0 (Lib.countB s ⟨#[c]⟩) s).map (·.data.toList) = splitL c s.data.toList := by
    rw [h]
    exact splitK_one c s.data.toList
  rw [← h2, List.map_map]
  have : ((fun l : List UInt8 => (⟨l.toArray⟩ : ByteArray)) ∘ fun x : ByteArray => x.data.toList) = id := by
    funext x; exact ba_eta x
  rw [this, List.map_id]

/-- One byte of a label. -/
def labByte (b : UInt8) (edge : Bool) : Bool := (decide (97 ≤ b.toNat) && decide (b.toNat ≤ 122)) || (decide (48 ≤ b.toNat) && decide (b.toNat ≤ 57)) || (decide (b.toNat = 45) && !edge)

def labFrom (n : Nat) : Nat → List UInt8 → Bool
  | _, [] => true
  | i, b :: l => labByte b (decide (i = 0) || decide (i + 1 = n)) && labFrom n (i + 1) l

def labelOk (s : ByteArray) : Bool := labFrom s.size 0 s.data.toList && decide (1 ≤ s.size) && decide (s.size ≤ 10)

def labelsOk (s : ByteArray) (least : Int) : Bool := (labels s).all labelOk && decide (least ≤ (labels s).length) && decide (s.size ≤ 60)

def hostOk (s : ByteArray) : Bool := labelsOk s 2

theorem hostOk_size {s : ByteArray} (h : hostOk s = true) : s.size ≤ 60 := by
  unfold hostOk labelsOk at h
  simp only [Bool.and_eq_true, decide_eq_true_eq] at h
  exact h.2

/-! ### Cut by hand, byte by byte -/

/-- The pieces so far, the piece that is open. -/
def scanStep (_ : Nat) (x : Option UInt8) (a : List ByteArray × List UInt8) : (List ByteArray × List UInt8) ⊕ Unit := match x with
  | some b => if b = 46 then .inl (a.1 ++ [⟨a.2.toArray⟩], []) else .inl (a.1, a.2 ++ [b])
  | none => .inl (a.1 ++ [⟨a.2.toArray⟩], [])

theorem scan_all : ∀ (l : List UInt8) (i : Nat) (a : List ByteArray × List UInt8), lfold scanStep i (l.map some ++ [none]) a =
    .inl (a.1 ++ (match splitL 46 l with | x :: r => (⟨(a.2 ++ x).toArray⟩ : ByteArray) :: r.map fun l => ⟨l.toArray⟩ | [] => []), [])
  | [], i, a => by simp [lfold, scanStep, splitL]
  | b :: l, i, a => by
    simp only [List.map_cons, List.cons_append, lfold, scanStep]
    obtain ⟨x, r, hx⟩ := splitL_cons 46 l
    by_cases h : b = 46
    · simp only [h, if_true]
      rw [scan_all l (i + 1)]
      simp [splitL, hx]
    · simp only [h, if_false]
      rw [scan_all l (i + 1)]
      simp [splitL, h, hx]

theorem scan_labels (s : ByteArray) : lfold scanStep 0 (s.data.toList.map some ++ [none]) ([], []) = .inl (labels s, []) := by
  rw [scan_all]
  obtain ⟨x, r, hx⟩ := splitL_cons 46 s.data.toList
  simp [labels, hx]

theorem bnds_nat {n f i : Nat} (h1 : f ≤ i) (h2 : i ≤ n) : bnds n (some (f : Int)) (some (i : Int)) = some (f, i) := by
  unfold bnds
  simp only [Option.getD_some, Int.toNat_natCast]
  rw [if_pos (by omega)]

theorem extract_list {s : ByteArray} {f i : Nat} {l : List UInt8} (hf : f ≤ i) (h : l = (s.data.toList.take i).drop f) : s.extract f i = ⟨l.toArray⟩ := by
  subst h
  have h1 : (s.extract f i).data.toList = (s.data.toList.take i).drop f := by
    rw [ByteArray.data_extract, Array.toList_extract]
    rw [List.extract_eq_take_drop, List.take_drop]
    congr 2
    omega
  rw [← h1]

/-- What holds of a scan: the open piece is what lies behind. -/
def ScanInv (l : List UInt8) (i : Nat) (a : List ByteArray × List UInt8) : Prop := a.2.length ≤ i ∧ a.1.length ≤ i ∧ a.2 = (l.take i).drop (i - a.2.length)

theorem ScanInv.cut {l : List UInt8} {i : Nat} {a : List ByteArray × List UInt8} (h : ScanInv l i a) (x : ByteArray) : ScanInv l (i + 1) (a.1 ++ [x], []) := by
  obtain ⟨h1, h2, h3⟩ := h
  refine ⟨by simp, by simp; omega, ?_⟩
  simp

theorem ScanInv.go {l : List UInt8} {i : Nat} {a : List ByteArray × List UInt8} {b : UInt8} (h : ScanInv l i a) (hb : l[i]? = some b) : ScanInv l (i + 1) (a.1, a.2 ++ [b]) := by
  obtain ⟨h1, h2, h3⟩ := h
  have hi : i < l.length := by
    rcases Nat.lt_or_ge i l.length with h' | h'
    · exact h'
    · rw [List.getElem?_eq_none h'] at hb; cases hb
  refine ⟨by simp; omega, by simp; omega, ?_⟩
  have e : i + 1 - (a.2 ++ [b]).length = i - a.2.length := by simp
  simp only [e]
  rw [List.take_add_one, hb, List.drop_append_of_le_length (by rw [List.length_take]; omega), ← h3]
  simp

theorem lab_fold (n : Nat) : ∀ (l : List UInt8) (i : Nat), lfold (fun i b (_ : Unit) => if labByte b (decide (i = 0) || decide (i + 1 = n)) = true then (.inl () : Unit ⊕ Unit) else .inr ()) i l () = if labFrom n i l = true then .inl () else .inr ()
  | [], i => rfl
  | b :: l, i => by
    simp only [lfold, labFrom]
    by_cases h : labByte b (decide (i = 0) || decide (i + 1 = n)) = true
    · simp only [h, if_true, lab_fold n l (i + 1), Bool.true_and]
    · simp only [h, if_false, Bool.false_and]; simp

theorem labels_length (s : ByteArray) : (labels s).length ≤ s.size + 1 := by
  have : ∀ l : List UInt8, (splitL 46 l).length ≤ l.length + 1 := by
    intro l
    induction l with
    | nil => simp [splitL]
    | cons b l ih =>
      unfold splitL
      split
      · simp; omega
      · split
        · rename_i h; rw [h] at ih; simp at ih ⊢; omega
        · simp
  unfold labels
  rw [List.length_map]
  have h := this s.data.toList
  rw [bytes_len] at h
  exact h

theorem splitL_len (c : UInt8) : ∀ l : List UInt8, ∀ x ∈ splitL c l, x.length ≤ l.length
  | [], x, h => by simp [splitL] at h; subst h; simp
  | b :: l, x, h => by
    have ih := splitL_len c l
    unfold splitL at h
    split at h
    · cases h with
      | head => simp
      | tail _ h => have := ih x h; simp; omega
    · split at h
      · rename_i y r hy
        cases h with
        | head => have := ih y (by rw [hy]; exact List.mem_cons_self ..); simp; omega
        | tail _ h => have := ih x (by rw [hy]; exact List.mem_cons_of_mem _ h); simp; omega
      · simp at h; subst h; simp

theorem labels_size {s x : ByteArray} (h : x ∈ labels s) : x.size ≤ s.size := by
  unfold labels at h
  obtain ⟨l, hl, rfl⟩ := List.mem_map.1 h
  have h1 := splitL_len 46 _ l hl
  rw [bytes_len] at h1
  rw [ba_size]
  simpa using h1

end Go.Vm

namespace Go.Vm
set_option linter.unusedVariables false
set_option linter.unusedSimpArgs false

def inR (n lo hi : Int) : Bool := decide (lo ≤ n) && decide (n ≤ hi)

theorem isAtom_inR (n : Int) : isAtom n = inR n 0 1000000 := rfl

def clientOk (c : Client) : Bool :=
  inR c.step 1 10 && (hostOk c.host && (inR c.eph 0 1000000 && (inR c.body 0 1000000 && (inR c.inn 0 100 && (inR c.out 0 100 &&
    ((if c.tls = true then c.share.ok else decide (c.share = zeroT) && !c.proved) && (!c.must || !inR c.step 5 9 || c.tls && c.proved)))))))

def serverOk (s : Server) : Bool :=
  inR s.step 1 5 && (hostOk s.host && (inR s.key 0 1000000 && (inR s.eph 0 1000000 && (s.cert.ok && (inR s.inn 0 100 && (inR s.out 0 100 &&
    ((if (s.tls || decide (s.step = 3)) = true then s.share.ok else decide (s.share = zeroT)) && (decide ((s.got.length : Int) ≤ 20) && s.got.all isAtom))))))))

def newClient (host : ByteArray) (must : Bool) (eph body : Int) : Client := ⟨1, host, must, eph, body, zeroT, 0, 0, false, false⟩

def clientNew (host : ByteArray) (must : Bool) (eph body : Int) : Client × Bool :=
  if clientOk (newClient host must eph body) = true then (newClient host must eph body, true) else (zeroClient, false)

end Go.Vm

namespace Go.Vm
set_option linter.unusedVariables false
set_option linter.unusedSimpArgs false

def lsum {β : Type} (c : β → Nat) (l : List β) : Nat := l.length + sumC c l

def Note.cost (n : Note) : Nat := n.domain.size
def Deed.cost (d : Deed) : Nat := d.s.size + d.t.cost

def WorldD.cost (w : WorldD) : Nat :=
  Term.costs w.known + (lsum Policy.cost w.cache + (lsum Host.cost w.hosts + (lsum Letter.cost w.letters + (w.book.size + (lsum CallD.cost w.calls + (lsum Talk.cost w.talks + w.told.length))))))

structure WorldD.Bd (w : WorldD) : Prop where
  known : w.known.length ≤ 9223372036854775807
  knownB : ∀ x ∈ w.known, x.Bd
  cache : w.cache.length ≤ 9223372036854775807
  cacheB : ∀ x ∈ w.cache, x.Bd
  hosts : w.hosts.length ≤ 9223372036854775807
  hostsB : ∀ x ∈ w.hosts, x.name.size ≤ 9223372036854775807
  letters : w.letters.length ≤ 9223372036854775807
  lettersB : ∀ x ∈ w.letters, x.domain.size ≤ 9223372036854775807
  book : w.book.size ≤ 9223372036854775807
  calls : w.calls.length ≤ 9223372036854775807
  callsB : ∀ x ∈ w.calls, x.client.share.Bd ∧ x.client.host.size ≤ maxLen
  talks : w.talks.length ≤ 9223372036854775807
  talksB : ∀ x ∈ w.talks, x.server.Bd
  told : w.told.length ≤ 9223372036854775807

theorem WorldD.Bd.of {w : WorldD} (h : ∃ n, ∀ f ∈ WorldD.cells w, BdF n f) : w.Bd := by
  obtain ⟨k1, n1, k2⟩ := bd_sl (bd_of h (f := .sl false .term w.known) (by simp [WorldD.cells]))
  obtain ⟨c1, n2, c2⟩ := bd_sl (bd_of h (f := .sl false .policy w.cache) (by simp [WorldD.cells]))
  obtain ⟨h1, n3, h2⟩ := bd_sl (bd_of h (f := .sl false .host w.hosts) (by simp [WorldD.cells]))
  obtain ⟨l1, n4, l2⟩ := bd_sl (bd_of h (f := .sl false .letter w.letters) (by simp [WorldD.cells]))
  have b1 := bd_str (bd_of h (f := .str w.book) (by simp [WorldD.cells]))
  obtain ⟨a1, n5, a2⟩ := bd_sl (bd_of h (f := .sl false .call w.calls) (by simp [WorldD.cells]))
  obtain ⟨t1, n6, t2⟩ := bd_sl (bd_of h (f := .sl false .talk w.talks) (by simp [WorldD.cells]))
  obtain ⟨o1, n7, o2⟩ := bd_sl (bd_of h (f := .sl false .int w.told) (by simp [WorldD.cells]))
  refine ⟨k1, fun x hx => Term.Bd.of (n := n1) (k2 x hx), c1, fun x hx => Policy.Bd.of ⟨n2, c2 x hx⟩, h1, fun x hx => bd_str ⟨n3, h2 x hx (.str x.name) (by simp [cellsOf, Host.cells])⟩,
    l1, fun x hx => bd_str ⟨n4, l2 x hx (.str x.domain) (by simp [cellsOf, Letter.cells])⟩, b1, a1, fun x hx => Client.Bd_share (n := n5) (fun f hf => a2 x hx f ?_), t1, fun x hx => Server.Bd.of ⟨n6, fun f hf => t2 x hx f ?_⟩, o1⟩
  · simp only [Client.cells, List.mem_cons, List.not_mem_nil, or_false] at hf
    simp only [cellsOf, CallD.cells, List.mem_cons, List.not_mem_nil, or_false]
    rcases hf with h | h | h | h | h | h | h | h | h | h | h | h | h <;> simp [h]
  · simp only [Server.cells, List.mem_cons, List.not_mem_nil, or_false] at hf
    simp only [cellsOf, Talk.cells, List.mem_cons, List.not_mem_nil, or_false]
    rcases hf with h | h | h | h | h | h | h | h | h | h | h | h | h | h | h | h <;> simp [h]

theorem WorldD.eta (x : WorldD) : (⟨x.time, x.fresh, x.known, x.cache, x.hosts, x.letters, x.book, x.sure, x.calls, x.talks, x.told⟩ : WorldD) = x := rfl

/-- Which host has a name: its place, or -1. -/
def hostIdx (l : List Host) (name : ByteArray) : Int := match l.findIdx? (fun h => decide (h.name = name)) with | some i => (i : Int) | none => -1

theorem lfold_idx {β γ : Type} (p : β → Bool) (c : Nat → γ) : ∀ (l : List β) (i : Nat), lfold (fun i x (_ : Unit) => if p x = true then (.inr (c i) : Unit ⊕ γ) else .inl ()) i l () = (match l.findIdx? p with | some j => .inr (c (i + j)) | none => .inl ())
  | [], i => rfl
  | x :: l, i => by
    rw [List.findIdx?_cons]
    simp only [lfold]
    by_cases h : p x = true
    · simp [h]
    · simp only [h, if_false, lfold_idx p c l (i + 1)]
      cases l.findIdx? p with
      | none => simp
      | some j => simp [Nat.add_assoc, Nat.add_comm 1]

end Go.Vm

namespace Go.Vm
set_option linter.unusedVariables false
set_option linter.unusedSimpArgs false

/-- Each is tested against those ahead of it. -/
def allPre {β : Type} (p : List β → β → Bool) : List β → List β → Bool
  | _, [] => true
  | pre, x :: r => p pre x && allPre p (pre ++ [x]) r

section
variable {P : Program} {cfg : Cfg} {T : CallSem} {n d f r na : Nat} {β : Type}

theorem lp_allPre (l : List β) (p : List β → β → Bool) (S : Nat → St) (O E : Ex × St)
    (hO : roundK P cfg T n d f r na (S l.length) = some O) (hO' : isN O.1 = false) (hE : isN E.1 = false)
    (hs : ∀ i x, l[i]? = some x → i < l.length → roundK P cfg T n d f r na (S i) = some (if p (l.take i) x = true then (.nrm, S (i + 1)) else E)) :
    ∀ q, l.length < q → lp P cfg T n d f r na q (S 0) = some (if allPre p [] l = true then O else E) := by
  have main : ∀ (suf pre : List β) (q : Nat), l = pre ++ suf → suf.length < q → lp P cfg T n d f r na q (S pre.length) = some (if allPre p pre suf = true then O else E) := by
    intro suf
    induction suf with
    | nil =>
      intro pre q hl hq
      obtain ⟨q, rfl⟩ : ∃ q', q = q' + 1 := ⟨q - 1, by omega⟩
      have : pre.length = l.length := by rw [hl]; simp
      rw [this]
      exact lp_out hO hO'
    | cons x suf ih =>
      intro pre q hl hq
      obtain ⟨q, rfl⟩ : ∃ q', q = q' + 1 := ⟨q - 1, by omega⟩
      have h1 := hs pre.length x (by rw [hl]; simp) (by rw [hl]; simp)
      have ht : l.take pre.length = pre := by rw [hl]; simp
      rw [ht] at h1
      unfold allPre
      by_cases hp : p pre x = true
      · rw [if_pos hp] at h1
        have h2 := ih (pre ++ [x]) q (by rw [hl]; simp) (by simp at hq; omega)
        simp only [List.length_append, List.length_cons, List.length_nil, Nat.zero_add] at h2
        rw [hp, Bool.true_and]
        exact lp_next h1 h2
      · rw [if_neg hp] at h1
        have : p pre x = false := by simpa using hp
        rw [this, Bool.false_and]
        exact lp_out h1 hE
  intro q hq
  exact main l [] q rfl hq

end

theorem take_last {β : Type} {l : List β} {i : Nat} {y : β} (h : l[i]? = some y) : (l.take (i + 1)).getLast? = some y := by
  rw [List.getLast?_eq_getElem?, List.getElem?_take, List.length_take]
  have hi : i < l.length := (List.getElem?_eq_some_iff.1 h).1
  rw [show min (i + 1) l.length - 1 = i by omega, if_pos (by omega), h]

/-! ### Patterns, policies -/

/-- `*.` ahead. -/
def star2 (s : ByteArray) : Bool := decide (2 ≤ s.size) && decide (s.extract 0 2 = ⟨#[42, 46]⟩)

def patOk (s : ByteArray) : Bool := hostOk s || star2 s && labelsOk (s.extract 2 s.size) 1

theorem star2_data {s : ByteArray} (h : star2 s = true) : ∃ l, s.data.toList = 42 :: 46 :: l := by
  unfold star2 at h
  simp only [Bool.and_eq_true, decide_eq_true_eq] at h
  obtain ⟨h1, h2⟩ := h
  have h3 : (s.extract 0 2).data.toList = [42, 46] := by rw [h2]
  rw [ByteArray.data_extract, Array.toList_extract, List.extract_eq_take_drop] at h3
  simp only [List.drop_zero, Nat.sub_zero] at h3
  have h4 := bytes_len s
  match hl : s.data.toList with
  | [] => rw [hl] at h4; simp at h4; omega
  | [_] => rw [hl] at h4; simp at h4; omega
  | a :: b :: l =>
    rw [hl] at h3
    simp at h3
    obtain ⟨rfl, rfl⟩ := h3
    exact ⟨l, rfl⟩

theorem hostOk_star {s : ByteArray} (h : star2 s = true) : hostOk s = false := by
  obtain ⟨l, hl⟩ := star2_data h
  unfold hostOk labelsOk labels
  rw [hl]
  have h1 : splitL 46 (42 :: 46 :: l) = [42] :: splitL 46 l := by
    rw [splitL]
    simp only [show ¬ ((42 : UInt8) = 46) by decide, if_false]
    rw [splitL]
    simp
  rw [h1]
  have h2 : labelOk ⟨[(42 : UInt8)].toArray⟩ = false := by decide
  simp only [List.map_cons, List.all_cons, h2, Bool.false_and]

theorem labelsOk_nil (k : Int) : labelsOk ⟨#[]⟩ k = false := by
  unfold labelsOk labels
  have h2 : labelOk ⟨([] : List UInt8).toArray⟩ = false := by decide
  have h1 : splitL 46 (⟨#[]⟩ : ByteArray).data.toList = [[]] := rfl
  rw [h1]
  simp only [List.map_cons, List.map_nil, List.all_cons, h2, Bool.false_and]

theorem patOk_impl (s : ByteArray) : patOk s = if star2 s = true then labelsOk (s.extract 2 s.size) 1 else hostOk s := by
  unfold patOk
  by_cases h : star2 s = true
  · rw [if_pos h, hostOk_star h, h, Bool.false_or, Bool.true_and]
  · rw [if_neg h]
    have : star2 s = false := by simpa using h
    rw [this, Bool.false_and, Bool.or_false]

theorem star2_two {s : ByteArray} (h : s.size = 2) : labelsOk (s.extract 2 s.size) 1 = false := by
  have : s.extract 2 s.size = ⟨#[]⟩ := by
    rw [h]
    apply ByteArray.ext
    rw [ByteArray.data_extract]
    simp; omega
  rw [this, labelsOk_nil]

def policyOk (p : Policy) : Bool :=
  domOk p.domain && (inR p.mode 0 2 && (decide ((p.mx.length : Int) ≤ 5) && (p.mx.all patOk && ((decide (p.mode = 0) || decide ((p.mx.length : Int) > 0)) && isTime p.til))))

def cacheOk (l : List Policy) : Bool :=
  allPre (fun pre x => policyOk x && (match pre.getLast? with | none => true | some y => Op.bytesLess y.domain.toList x.domain.toList)) [] l && decide ((l.length : Int) ≤ 10)

def hostsOk (l : List Host) : Bool :=
  allPre (fun pre h => hostOk h.name && inR h.key 0 999 && !(pre.any fun x => decide (x.name = h.name))) [] l && decide ((l.length : Int) ≤ 4)

def toldOk (l : List Int) : Bool :=
  allPre (fun pre n => isAtom n && (match pre.getLast? with | none => true | some y => decide (y < n))) [] l

def linesOk (w : WorldD) : Bool :=
  w.calls.all (fun c => inR c.letter 0 ((w.letters.length : Int) - 1) && clientOk c.client) && (w.talks.all (fun t => inR t.host 0 ((w.hosts.length : Int) - 1) && serverOk t.server) &&
    (decide ((w.calls.length : Int) ≤ 12) && decide ((w.talks.length : Int) ≤ 12)))

def worldOk (w : WorldD) : Bool :=
  isTime w.time && (inR w.fresh 1000 999990 && (decide ((w.known.length : Int) ≤ 300) && (w.known.all Term.ok && (cacheOk w.cache && (hostsOk w.hosts && (decide ((w.letters.length : Int) ≤ 30) && (w.letters.all letterOk &&
    (decide ((w.book.size : Int) ≤ 12000) && (inR w.sure 0 w.book.size && (linesOk w && toldOk w.told))))))))))

end Go.Vm

namespace Go.Vm
set_option linter.unusedVariables false
set_option linter.unusedSimpArgs false

def hasI (l : List Int) (b : Int) : Bool := l.any fun x => decide (x = b)

def hasT (l : List Term) (t : Term) : Bool := l.any fun x => decide (x = t)

def atomT (n : Int) : Term := if (⟨1, n, ⟨#[]⟩, []⟩ : Term).ok = true then ⟨1, n, ⟨#[]⟩, []⟩ else zeroT

/-- Whether an atom (or nothing) can be made. -/
def madeA (known : List Term) (t : Term) : Bool := t.ok && hasT known t

def heldBad (c : CallD) : Bool := (c.client.must && inR c.client.step 5 9 && !(c.client.tls && c.client.proved)) || (c.good && !c.client.must)

def judgeHeld (w : WorldD) : Bool := worldOk w && !w.calls.any heldBad

def gotB (w : WorldD) (b : Int) : Bool := w.talks.any fun t => hasI t.server.got b

def takenBad (w : WorldD) (c : CallD) : Bool := c.good && decide (c.client.step = 9) && !gotB w c.client.body

def judgeTaken (w : WorldD) : Bool := worldOk w && !w.calls.any (takenBad w)

def secretBad (w : WorldD) (l : Letter) : Bool := !hasI w.told l.body && madeA w.known (atomT l.body)

def judgeSecret (w : WorldD) : Bool := worldOk w && !w.letters.any (secretBad w)

theorem atomT_kind (n : Int) : (atomT n).kids = [] ∧ (atomT n).s = ⟨#[]⟩ ∧ ((atomT n).ok = true → (atomT n).op = 1) := by
  unfold atomT
  split
  · exact ⟨rfl, rfl, fun _ => rfl⟩
  · exact ⟨rfl, rfl, fun h => absurd h (by decide)⟩

theorem atomT_cost (n : Int) : (atomT n).cost = 0 := by
  unfold atomT
  split <;> (rw [Term.cost_eq]; rfl)

end Go.Vm

namespace Go.Vm
open Go.Proofs
set_option linter.unusedVariables false
set_option linter.unusedSimpArgs false

/-! ### Words -/

def words (s : ByteArray) : List ByteArray := (splitL 32 s.data.toList).map fun l => ⟨l.toArray⟩

def scanW (_ : Nat) (x : Option UInt8) (a : List ByteArray × List UInt8) : (List ByteArray × List UInt8) ⊕ Unit := match x with
  | some b => if b = 32 then .inl (a.1 ++ [⟨a.2.toArray⟩], []) else .inl (a.1, a.2 ++ [b])
  | none => .inl (a.1 ++ [⟨a.2.toArray⟩], [])

theorem scanW_all : ∀ (l : List UInt8) (i : Nat) (a : List ByteArray × List UInt8), lfold scanW i (l.map some ++ [none]) a =
    .inl (a.1 ++ (match splitL 32 l with | x :: r => (⟨(a.2 ++ x).toArray⟩ : ByteArray) :: r.map fun l => ⟨l.toArray⟩ | [] => []), [])
  | [], i, a => by simp [lfold, scanW, splitL]
  | b :: l, i, a => by
    simp only [List.map_cons, List.cons_append, lfold, scanW]
    obtain ⟨x, r, hx⟩ := splitL_cons 32 l
    by_cases h : b = 32
    · simp only [h, if_true]
      rw [scanW_all l (i + 1)]
      simp [splitL, hx]
    · simp only [h, if_false]
      rw [scanW_all l (i + 1)]
      simp [splitL, h, hx]

theorem scan_words (s : ByteArray) : lfold scanW 0 (s.data.toList.map some ++ [none]) ([], []) = .inl (words s, []) := by
  rw [scanW_all]
  obtain ⟨x, r, hx⟩ := splitL_cons 32 s.data.toList
  simp [words, hx]

theorem words_ne (s : ByteArray) : ∃ x r, words s = x :: r := by
  obtain ⟨x, r, hx⟩ := splitL_cons 32 s.data.toList
  exact ⟨_, _, by unfold words; rw [hx]; rfl⟩

theorem words_size (s : ByteArray) : ∀ x ∈ words s, x.size ≤ s.size := by
  intro x hx
  unfold words at hx
  rw [List.mem_map] at hx
  obtain ⟨l, hl, rfl⟩ := hx
  have h1 := splitL_len 32 _ l hl
  rw [bytes_len] at h1
  rw [ba_len]
  exact h1

theorem words_length (s : ByteArray) : (words s).length ≤ s.size + 1 := by
  have : ∀ l : List UInt8, (splitL 32 l).length ≤ l.length + 1 := by
    intro l
    induction l with
    | nil => simp [splitL]
    | cons b l ih =>
      unfold splitL
      split
      · simp; omega
      · split
        · rename_i h; rw [h] at ih; simp at ih ⊢; omega
        · simp
  unfold words
  rw [List.length_map]
  have h := this s.data.toList
  rw [bytes_len] at h
  exact h

theorem splitL_app {c : UInt8} : ∀ {a b : List UInt8}, (∀ x ∈ a, x ≠ c) → splitL c (a ++ c :: b) = a :: splitL c b
  | [], b, _ => by simp [splitL]
  | x :: a, b, h => by
    have ih := splitL_app (c := c) (a := a) (b := b) fun y hy => h y (List.mem_cons_of_mem _ hy)
    have hx : x ≠ c := h x (List.mem_cons_self ..)
    simp only [List.cons_append, splitL, hx, if_false, ih]

theorem splitL_whole {c : UInt8} : ∀ {a : List UInt8}, (∀ x ∈ a, x ≠ c) → splitL c a = [a]
  | [], _ => rfl
  | x :: a, h => by
    have ih := splitL_whole (c := c) (a := a) fun y hy => h y (List.mem_cons_of_mem _ hy)
    have hx : x ≠ c := h x (List.mem_cons_self ..)
    simp only [splitL, hx, if_false, ih]

/-! ### Digits -/

theorem digit_toNat {d : Nat} (h : d < 10) : (UInt8.ofNat (48 + d)).toNat = 48 + d := by
  rw [UInt8.toNat_ofNat']
  omega

theorem digs_digit (m : Nat) : ∀ x ∈ digs m, 48 ≤ x.toNat ∧ x.toNat ≤ 57 := by
  induction m using Nat.strongRecOn with
  | _ m ih =>
    intro x hx
    by_cases h : m = 0
    · subst h; simp [digs_zero] at hx
    · rw [digs_step h, List.mem_append] at hx
      rcases hx with hx | hx
      · exact ih (m / 10) (by omega) x hx
      · simp only [List.mem_singleton] at hx
        subst hx
        rw [digit_toNat (by omega)]
        omega

theorem digs_short : ∀ (k m : Nat), m < 10 ^ k → (digs m).length ≤ k
  | 0, m, h => by
    have : m = 0 := by simp at h; omega
    subst this; simp [digs_zero]
  | k + 1, m, h => by
    by_cases h0 : m = 0
    · subst h0; simp [digs_zero]
    · rw [digs_step h0, List.length_append]
      have := digs_short k (m / 10) (by rw [Nat.pow_succ] at h; omega)
      simp
      omega

/-- The bytes of a number from 0 on. -/
def numL (m : Nat) : List UInt8 := if m = 0 then [48] else digs m

theorem itoaB_nat (m : Nat) : (itoaB (m : Int)).data.toList = numL m := by
  unfold numL
  by_cases h : m = 0
  · subst h
    rw [show ((0 : Nat) : Int) = 0 from rfl, itoaB_zero]
    rfl
  · rw [itoaB_pos h, if_neg h]

theorem numL_digit (m : Nat) : ∀ x ∈ numL m, 48 ≤ x.toNat ∧ x.toNat ≤ 57 := by
  unfold numL
  split
  · intro x hx
    simp only [List.mem_singleton] at hx
    subst hx
    decide
  · exact digs_digit m

theorem numL_short {k m : Nat} (hk : 1 ≤ k) (h : m < 10 ^ k) : (numL m).length ≤ k := by
  unfold numL
  split
  · simpa using hk
  · exact digs_short k m h

theorem numL_no {m : Nat} {c : UInt8} (hc : c.toNat < 48 ∨ 57 < c.toNat) : ∀ x ∈ numL m, x ≠ c := by
  intro x hx e
  subst e
  have := numL_digit m x hx
  omega

/-! ### What the reference reads -/

def dstep (a : Int) (b : UInt8) : Int := IntKind.i64.wrap (IntKind.i64.wrap (IntKind.i64.wrap (10 * a) + IntKind.i64.wrap (b.toNat : Int)) - 48)

def num7 (s : ByteArray) : Int := (s.data.toList.take 7).foldl dstep 0

theorem dstep_digit {a d : Nat} (ha : a ≤ 1000000000) (hd : d < 10) : dstep (a : Int) (UInt8.ofNat (48 + d)) = ((a * 10 + d : Nat) : Int) := by
  unfold dstep
  rw [digit_toNat hd, wrap_id (i := 10 * (a : Int)) (by omega) (by omega), wrap_id (i := ((48 + d : Nat) : Int)) (by omega) (by omega), wrap_id (i := 10 * (a : Int) + ((48 + d : Nat) : Int)) (by omega) (by omega), wrap_id (by omega) (by omega)]
  omega

theorem fold_digs : ∀ m : Nat, m ≤ 1000000000 → (digs m).foldl dstep 0 = (m : Int) := by
  intro m
  induction m using Nat.strongRecOn with
  | _ m ih =>
    intro hm
    by_cases h : m = 0
    · subst h; simp [digs_zero]
    · rw [digs_step h, List.foldl_append, ih (m / 10) (by omega) (by omega)]
      simp only [List.foldl_cons, List.foldl_nil]
      rw [dstep_digit (by omega) (by omega)]
      omega

theorem num7_nat {m : Nat} (h : m < 10000000) : num7 (itoaB (m : Int)) = m := by
  unfold num7
  rw [itoaB_nat, List.take_of_length_le (numL_short (k := 7) (by omega) (by omega))]
  unfold numL
  split
  · rename_i h0; subst h0; decide
  · exact fold_digs m (by omega)

/-! ### What the library reads -/

theorem parse_digs : ∀ (m : Nat) (r : List UInt8), m ≤ 1000000000 → Lib.parseUint10 0 (digs m ++ r) = Lib.parseUint10 m r := by
  intro m
  induction m using Nat.strongRecOn with
  | _ m ih =>
    intro r hm
    by_cases h : m = 0
    · subst h; simp [digs_zero]
    · rw [digs_step h, List.append_assoc, ih (m / 10) (by omega) _ (by omega)]
      simp only [List.cons_append, List.nil_append]
      rw [Lib.parseUint10, digit_toNat (by omega), if_pos (by omega), if_neg (by omega), if_neg (by omega)]
      congr 1
      omega

theorem numL_cons (m : Nat) : ∃ c r, numL m = c :: r ∧ 48 ≤ c.toNat ∧ c.toNat ≤ 57 := by
  have hd := numL_digit m
  cases h : numL m with
  | nil =>
    exfalso
    unfold numL at h
    split at h
    · cases h
    · rename_i h0
      rw [digs_step h0] at h
      simp at h
  | cons c r => exact ⟨c, r, rfl, hd c (by rw [h]; exact List.mem_cons_self ..)⟩

theorem parse_numL {m : Nat} (h : m ≤ 1000000000) : Lib.parseUint10 0 (numL m) = .ok m := by
  unfold numL
  split
  · rename_i h0; subst h0; decide
  · have := parse_digs m [] h
    rw [List.append_nil] at this
    rw [this]
    rfl

theorem atoiB_nat {m : Nat} (h : m ≤ 1000000000) : atoiB (itoaB (m : Int)) = ((m : Int), false) := by
  obtain ⟨c, r, hc, h1, h2⟩ := numL_cons m
  have hall : Lib.atoiAll (itoaB (m : Int)).data.toList = .ok (m : Int) := by
    rw [itoaB_nat, hc]
    unfold Lib.atoiAll
    simp only
    rw [if_neg (by omega), ← hc]
    have : Lib.parseMag (numL m) = .ok m := by
      unfold Lib.parseMag
      rw [if_neg (by rw [hc]; simp), parse_numL h]
    rw [this]
    simp only
    rw [if_neg (by omega), if_neg (by omega), if_neg (by omega)]
  unfold atoiB
  rw [hall]

/-! ### Notes -/

def zeroN : Note := ⟨0, 0, ⟨#[]⟩, 0, 0⟩

def kindOf (w : ByteArray) : Int :=
  if w = ⟨#[98, 97, 99, 107]⟩ then 4 else if w = ⟨#[103, 111, 110, 101]⟩ then 3 else if w = ⟨#[116, 114, 121]⟩ then 2 else if w = ⟨#[116, 97, 107, 101]⟩ then 1 else 0

/-- The note that the reference makes of words. -/
def readS (w : List ByteArray) : Note := match w with
  | [] => zeroN
  | [a] => ⟨kindOf a, 0, ⟨#[]⟩, 0, 0⟩
  | [a, b] => ⟨kindOf a, num7 b, ⟨#[]⟩, 0, 0⟩
  | [a, b, c] => ⟨kindOf a, num7 b, ⟨#[]⟩, 0, if kindOf a = 2 then num7 c else 0⟩
  | [a, b, c, d] => ⟨kindOf a, num7 b, if kindOf a = 1 then c else ⟨#[]⟩, if kindOf a = 1 then num7 d else 0, 0⟩
  | a :: b :: _ => ⟨kindOf a, num7 b, ⟨#[]⟩, 0, 0⟩

def numAt (w : List ByteArray) (i : Nat) : Int := match w[i]? with
  | none => -1
  | some s => if (atoiB s).2 = true then -1 else (atoiB s).1

/-- The note that the program makes of words. -/
def readI (w : List ByteArray) : Note :=
  let k := kindOf (w.headD ⟨#[]⟩)
  ⟨k, numAt w 1, if k = 1 then w.getD 2 ⟨#[]⟩ else ⟨#[]⟩, if k = 1 then numAt w 3 else 0, if k = 2 then numAt w 2 else 0⟩

/-- All but a last line end. -/
def cutNl (s : ByteArray) : ByteArray := if 1 ≤ s.size ∧ s.extract (s.size - 1) s.size = ⟨#[10]⟩ then s.extract 0 (s.size - 1) else s

def noteOfI (s : ByteArray) : Note × Bool :=
  let n := readI (words (cutNl s))
  if noteText n = ⟨#[]⟩ then (zeroN, false) else if noteText n = s then (n, true) else (zeroN, false)

def noteOfS (s : ByteArray) : Note × Bool :=
  if 1 ≤ s.size ∧ s.extract (s.size - 1) s.size = ⟨#[10]⟩ then
    let n := readS (words (s.extract 0 (s.size - 1)))
    if noteText n = s then (n, true) else (zeroN, false)
  else (zeroN, false)

/-- The words of a note. -/
def noteWords (m : Note) : List ByteArray :=
  if m.kind = 1 then [noteWord m.kind, itoaB m.who, m.domain, itoaB m.body]
  else if m.kind = 2 then [noteWord m.kind, itoaB m.who, itoaB m.time]
  else [noteWord m.kind, itoaB m.who]

theorem word_no (k : Int) : ∀ x ∈ (noteWord k).data.toList, x ≠ 32 := by
  unfold noteWord
  split
  · decide
  · split
    · decide
    · split <;> decide

theorem dom_no {s : ByteArray} (h : domOk s = true) : ∀ x ∈ s.data.toList, x ≠ 32 := by
  unfold domOk at h
  rw [Bool.and_eq_true, List.all_eq_true] at h
  intro x hx e
  subst e
  have := h.1 _ hx
  revert this
  decide

theorem itoa_no {n : Int} (h : 0 ≤ n) : ∀ x ∈ (itoaB n).data.toList, x ≠ 32 := by
  rw [show n = ((n.toNat : Nat) : Int) by omega, itoaB_nat]
  exact numL_no (by left; decide)

theorem ba_l (s : ByteArray) : (⟨s.data.toList.toArray⟩ : ByteArray) = s := ba_eta s

theorem cut_last (a : ByteArray) : (a ++ ⟨#[10]⟩ : ByteArray).extract 0 ((a ++ ⟨#[10]⟩ : ByteArray).size - 1) = a ∧ (a ++ ⟨#[10]⟩ : ByteArray).extract ((a ++ ⟨#[10]⟩ : ByteArray).size - 1) (a ++ ⟨#[10]⟩ : ByteArray).size = ⟨#[10]⟩ := by
  have hs : (a ++ ⟨#[10]⟩ : ByteArray).size = a.size + 1 := by
    simp only [ByteArray.size_append, ba_size, List.size_toArray, List.length_cons, List.length_nil]
  have hl : (a ++ ⟨#[10]⟩ : ByteArray).data.toList = a.data.toList ++ [10] := by
    rw [ByteArray.data_append, Array.toList_append]
  have hn := bytes_len a
  rw [hs, Nat.add_sub_cancel]
  constructor
  · rw [extract_list (l := a.data.toList) (by omega) (by rw [hl, List.drop_zero, ← hn, List.take_left]), ba_l]
  · rw [extract_list (l := [10]) (by omega) (by
      rw [hl, List.take_of_length_le (by rw [List.length_append, hn]; simp), ← hn, List.drop_left])]

theorem words_note {m : Note} (h : noteOk m = true) : ∃ a : ByteArray, noteText m = a ++ ⟨#[10]⟩ ∧ words a = noteWords m := by
  obtain ⟨w0, w1, hk⟩ := noteOk_spec h
  have hw := word_no m.kind
  have hi := itoa_no w0
  unfold noteText noteWords
  rw [if_pos h]
  have l32 : (ByteArray.mk #[32]).data.toList = [32] := rfl
  rcases hk with ⟨k, hd, b0, b1, t⟩ | ⟨k, t0, t1⟩ | k | k
  · rw [if_pos k, if_pos k]
    refine ⟨_, rfl, ?_⟩
    unfold words
    simp only [ByteArray.data_append, Array.toList_append, List.append_assoc]
    simp only [show (#[32] : Array UInt8).toList = [32] from rfl, List.cons_append, List.nil_append]
    have hdom : domOk m.domain = true := by
      unfold noteOk at h
      rw [if_pos k] at h
      simp only [Bool.and_eq_true] at h
      exact h.2.1.1
    rw [splitL_app hw, splitL_app hi, splitL_app (dom_no hdom), splitL_whole (itoa_no b0)]
    simp only [List.map_cons, List.map_nil, ba_l]
  · rw [if_neg (by omega), if_pos k, if_neg (by omega), if_pos k]
    refine ⟨_, rfl, ?_⟩
    unfold words
    simp only [ByteArray.data_append, Array.toList_append, List.append_assoc]
    simp only [show (#[32] : Array UInt8).toList = [32] from rfl, List.cons_append, List.nil_append]
    rw [splitL_app hw, splitL_app hi, splitL_whole (itoa_no t0)]
    simp only [List.map_cons, List.map_nil, ba_l]
  all_goals
    rw [if_neg (by omega), if_neg (by omega), if_neg (by omega), if_neg (by omega)]
    refine ⟨_, rfl, ?_⟩
    unfold words
    simp only [ByteArray.data_append, Array.toList_append, List.append_assoc]
    simp only [show (#[32] : Array UInt8).toList = [32] from rfl, List.cons_append, List.nil_append]
    rw [splitL_app hw, splitL_whole hi]
    simp only [List.map_cons, List.map_nil, ba_l]

/-! ### The same note, read either way -/

theorem kind_word {k : Int} (h : 1 ≤ k ∧ k ≤ 4) : kindOf (noteWord k) = k := by
  have : k = 1 ∨ k = 2 ∨ k = 3 ∨ k = 4 := by omega
  rcases this with rfl | rfl | rfl | rfl <;> rfl

theorem note_eta (m : Note) {k w : Int} {d : ByteArray} {b t : Int} (h1 : k = m.kind) (h2 : w = m.who) (h3 : d = m.domain) (h4 : b = m.body) (h5 : t = m.time) : (⟨k, w, d, b, t⟩ : Note) = m := by
  subst h1; subst h2; subst h3; subst h4; subst h5; rfl

theorem noteOk_kind {m : Note} (h : noteOk m = true) : 1 ≤ m.kind ∧ m.kind ≤ 4 := by
  obtain ⟨w0, w1, hk⟩ := noteOk_spec h
  rcases hk with ⟨k, _⟩ | ⟨k, _⟩ | k | k <;> omega

theorem noteOk_rest {m : Note} (h : noteOk m = true) : (m.kind ≠ 1 → m.domain = ⟨#[]⟩ ∧ m.body = 0) ∧ (m.kind ≠ 2 → m.time = 0) := by
  unfold noteOk at h
  by_cases k1 : m.kind = 1
  · simp only [k1, if_true, Bool.and_eq_true, decide_eq_true_eq] at h
    exact ⟨fun h' => absurd k1 h', fun _ => h.2.2⟩
  · by_cases k2 : m.kind = 2
    · simp only [k2, if_false, if_true, Bool.and_eq_true, decide_eq_true_eq, show ¬ ((2 : Int) = 1) by decide] at h
      exact ⟨fun _ => ⟨h.2.1.1, h.2.1.2⟩, fun h' => absurd k2 h'⟩
    · simp only [k1, k2, if_false, Bool.and_eq_true, decide_eq_true_eq] at h
      exact ⟨fun _ => ⟨h.2.1.1.2, h.2.1.2⟩, fun _ => h.2.2⟩

theorem noteOk_nums {m : Note} (h : noteOk m = true) : (0 ≤ m.who ∧ m.who ≤ 29) ∧ (m.kind = 1 → 0 ≤ m.body ∧ m.body ≤ 1000000) ∧ (m.kind = 2 → 0 ≤ m.time ∧ m.time ≤ 100000) := by
  obtain ⟨w0, w1, hk⟩ := noteOk_spec h
  rcases hk with ⟨k, hd, b0, b1, t⟩ | ⟨k, t0, t1⟩ | k | k
  · exact ⟨⟨w0, w1⟩, fun _ => ⟨b0, b1⟩, fun h' => by omega⟩
  · exact ⟨⟨w0, w1⟩, fun h' => by omega, fun _ => ⟨t0, t1⟩⟩
  · exact ⟨⟨w0, w1⟩, fun h' => by omega, fun h' => by omega⟩
  · exact ⟨⟨w0, w1⟩, fun h' => by omega, fun h' => by omega⟩

theorem num7_int {n : Int} (h0 : 0 ≤ n) (h1 : n < 10000000) : num7 (itoaB n) = n := by
  have := num7_nat (m := n.toNat) (by omega)
  rwa [show ((n.toNat : Nat) : Int) = n by omega] at this

theorem atoiB_int {n : Int} (h0 : 0 ≤ n) (h1 : n ≤ 1000000000) : atoiB (itoaB n) = (n, false) := by
  have := atoiB_nat (m := n.toNat) (by omega)
  rwa [show ((n.toNat : Nat) : Int) = n by omega] at this

theorem readS_note {m : Note} (h : noteOk m = true) : readS (noteWords m) = m := by
  have hk := noteOk_kind h
  have hw := kind_word hk
  obtain ⟨⟨w0, w1⟩, hb, ht⟩ := noteOk_nums h
  obtain ⟨r1, r2⟩ := noteOk_rest h
  unfold noteWords
  by_cases k1 : m.kind = 1
  · obtain ⟨b0, b1⟩ := hb k1
    rw [if_pos k1]
    refine note_eta m hw (num7_int w0 (by omega)) ?_ ?_ (r2 (by omega)).symm
    · rw [if_pos (hw.trans k1)]
    · rw [if_pos (hw.trans k1)]; exact num7_int b0 (by omega)
  · obtain ⟨d0, b0⟩ := r1 k1
    rw [if_neg k1]
    by_cases k2 : m.kind = 2
    · obtain ⟨t0, t1⟩ := ht k2
      rw [if_pos k2]
      refine note_eta m hw (num7_int w0 (by omega)) d0.symm b0.symm ?_
      rw [if_pos (hw.trans k2)]; exact num7_int t0 (by omega)
    · rw [if_neg k2]
      exact note_eta m hw (num7_int w0 (by omega)) d0.symm b0.symm (r2 k2).symm

theorem numAt_int {w : List ByteArray} {i : Nat} {n : Int} (h : w[i]? = some (itoaB n)) (h0 : 0 ≤ n) (h1 : n ≤ 1000000000) : numAt w i = n := by
  unfold numAt
  rw [h]
  simp only
  rw [atoiB_int h0 h1]
  rfl

theorem readI_note {m : Note} (h : noteOk m = true) : readI (noteWords m) = m := by
  have hk := noteOk_kind h
  have hw := kind_word hk
  obtain ⟨⟨w0, w1⟩, hb, ht⟩ := noteOk_nums h
  obtain ⟨r1, r2⟩ := noteOk_rest h
  have hhead : kindOf ((noteWords m).headD ⟨#[]⟩) = m.kind := by
    unfold noteWords
    split
    · exact hw
    · split <;> exact hw
  have hwho : numAt (noteWords m) 1 = m.who := by
    refine numAt_int ?_ w0 (by omega)
    unfold noteWords
    split
    · rfl
    · split <;> rfl
  unfold readI
  simp only
  rw [hhead]
  refine note_eta m rfl hwho ?_ ?_ ?_
  · by_cases k1 : m.kind = 1
    · rw [if_pos k1]; unfold noteWords; rw [if_pos k1]; rfl
    · rw [if_neg k1]; exact (r1 k1).1.symm
  · by_cases k1 : m.kind = 1
    · obtain ⟨b0, b1⟩ := hb k1
      rw [if_pos k1]
      refine numAt_int ?_ b0 (by omega)
      unfold noteWords; rw [if_pos k1]; rfl
    · rw [if_neg k1]; exact (r1 k1).2.symm
  · by_cases k2 : m.kind = 2
    · obtain ⟨t0, t1⟩ := ht k2
      rw [if_pos k2]
      refine numAt_int ?_ t0 (by omega)
      unfold noteWords; rw [if_neg (by omega), if_pos k2]; rfl
    · rw [if_neg k2]; exact (r2 k2).symm

theorem noteText_no {m : Note} (h : noteOk m ≠ true) : noteText m = ⟨#[]⟩ := by
  unfold noteText
  rw [if_neg h]

theorem noteText_ne {m : Note} (h : noteOk m = true) : noteText m ≠ ⟨#[]⟩ := by
  obtain ⟨a, ha, _⟩ := words_note h
  rw [ha]
  intro e
  have := congrArg ByteArray.size e
  simp only [ByteArray.size_append, ba_size, List.size_toArray, List.length_cons, List.length_nil] at this
  omega

theorem noteOfS_note {m : Note} (h : noteOk m = true) : noteOfS (noteText m) = (m, true) := by
  obtain ⟨a, ha, hwd⟩ := words_note h
  obtain ⟨c1, c2⟩ := cut_last a
  have hs : 1 ≤ (a ++ ⟨#[10]⟩ : ByteArray).size := by
    simp only [ByteArray.size_append, ba_size, List.size_toArray, List.length_cons, List.length_nil]
    omega
  unfold noteOfS
  rw [ha, if_pos ⟨hs, c2⟩, c1, hwd, readS_note h]
  simp only
  rw [ha, if_pos rfl]

theorem noteOfI_note {m : Note} (h : noteOk m = true) : noteOfI (noteText m) = (m, true) := by
  obtain ⟨a, ha, hwd⟩ := words_note h
  obtain ⟨c1, c2⟩ := cut_last a
  have hs : 1 ≤ (a ++ ⟨#[10]⟩ : ByteArray).size := by
    simp only [ByteArray.size_append, ba_size, List.size_toArray, List.length_cons, List.length_nil]
    omega
  have hc : cutNl (noteText m) = a := by
    unfold cutNl
    rw [ha, if_pos ⟨hs, c2⟩, c1]
  unfold noteOfI
  rw [hc, hwd, readI_note h]
  simp only
  rw [if_neg (noteText_ne h)]
  simp

theorem noteOfI_dom (s : ByteArray) (hs : s.size ≤ 900000000) : (noteOfI s).1.domain.size ≤ 900000000 := by
  have hz : zeroN.domain.size ≤ 900000000 := by decide
  have hd : ∀ m : Note, noteText m ≠ ⟨#[]⟩ → m.domain.size ≤ 900000000 := by
    intro m h
    have hok : noteOk m = true := by
      by_cases h2 : noteOk m = true
      · exact h2
      · exact absurd (noteText_no h2) h
    obtain ⟨r1, r2⟩ := noteOk_rest hok
    obtain ⟨w0, w1, hk⟩ := noteOk_spec hok
    by_cases k1 : m.kind = 1
    · unfold noteOk at hok
      rw [if_pos k1] at hok
      simp only [Bool.and_eq_true] at hok
      have := hok.2.1.1
      unfold domOk at this
      simp only [Bool.and_eq_true, decide_eq_true_eq] at this
      omega
    · rw [(r1 k1).1]; decide
  unfold noteOfI
  simp only
  split
  · exact hz
  · rename_i h1
    split
    · exact hd _ h1
    · exact hz

theorem noteOf_eq (s : ByteArray) : noteOfS s = noteOfI s := by
  by_cases h : ∃ m, noteOk m = true ∧ noteText m = s
  · obtain ⟨m, h1, rfl⟩ := h
    rw [noteOfS_note h1, noteOfI_note h1]
  · have hS : noteOfS s = (zeroN, false) := by
      unfold noteOfS
      split
      · rename_i h1
        simp only
        split
        · rename_i h2
          exfalso
          by_cases hok : noteOk (readS (words (s.extract 0 (s.size - 1)))) = true
          · exact h ⟨_, hok, h2⟩
          · rw [noteText_no hok] at h2
            rw [← h2] at h1
            exact absurd h1.1 (by decide)
        · rfl
      · rfl
    have hI : noteOfI s = (zeroN, false) := by
      unfold noteOfI
      simp only
      split
      · rfl
      · rename_i h1
        split
        · rename_i h2
          exfalso
          by_cases hok : noteOk (readI (words (cutNl s))) = true
          · exact h ⟨_, hok, h2⟩
          · exact h1 (noteText_no hok)
        · rfl
    rw [hS, hI]

end Go.Vm

namespace Go.Vm
open Go.Proofs
set_option linter.unusedVariables false
set_option linter.unusedSimpArgs false

/-- A term, or the zero one where it is not right. -/
def okT (t : Term) : Term := if t.ok = true then t else zeroT

def mkT (op : Int) (l : List Term) : Term := okT ⟨op, 0, ⟨#[]⟩, l⟩

def textT (s : ByteArray) : Term := ⟨2, 0, s, []⟩

theorem zeroT_cost : zeroT.cost = 0 := by decide

theorem okT_cost (t : Term) : (okT t).cost ≤ 60199 := by
  unfold okT
  split
  · rename_i h; exact Term.cost_ok h
  · rw [zeroT_cost]; omega

theorem mkT_cost (op : Int) (l : List Term) : (mkT op l).cost ≤ 60199 := okT_cost _

theorem textT_cost (s : ByteArray) : (textT s).cost = s.size := by
  unfold textT; rw [Term.cost_eq]; rfl

theorem Term.len_of_ok {t : Term} (h : t.ok = true) : (t.kids.length : Int) = arity t.op := by
  unfold Term.ok at h
  simp only [Bool.and_eq_true, decide_eq_true_eq] at h
  exact Term.form_len h.2

theorem Term.two {t : Term} (h : t.ok = true) (ha : arity t.op = 2) : ∃ x y, t.kids = [x, y] := by
  have h2 := Term.len_of_ok h
  rw [ha] at h2
  match hk : t.kids, (show t.kids.length = 2 by omega) with
  | [x, y], _ => exact ⟨x, y, rfl⟩

theorem Term.one {t : Term} (h : t.ok = true) (ha : arity t.op = 1) : ∃ x, t.kids = [x] := by
  have h2 := Term.len_of_ok h
  rw [ha] at h2
  match hk : t.kids, (show t.kids.length = 1 by omega) with
  | [x], _ => exact ⟨x, rfl⟩

/-- What is right and no atom, text or share, is its op and its kids. -/
theorem Term.plain {t : Term} (h : t.ok = true) (h1 : t.op ≠ 1) (h2 : t.op ≠ 2) : t = ⟨t.op, 0, ⟨#[]⟩, t.kids⟩ := by
  unfold Term.ok at h
  rw [Term.formOk_eq] at h
  unfold formOk1 at h
  simp only [h1, h2, if_false, Bool.and_eq_true, decide_eq_true_eq] at h
  obtain ⟨o, n, s, k⟩ := t
  obtain ⟨_, ⟨_, h3⟩, _⟩ := h
  split at h3
  · simp only [Bool.and_eq_true, decide_eq_true_eq] at h3; simp [h3.1.1, h3.1.2]
  · simp only [Bool.and_eq_true, decide_eq_true_eq] at h3; simp [h3.1, h3.2]

theorem Term.pub_form {p : Term} (h : p.ok = true) (h4 : p.op = 4) : ∃ k, p = pubT k ∧ k.ok = true := by
  obtain ⟨k, hk⟩ := Term.one h (by rw [h4]; rfl)
  refine ⟨k, ?_, Term.ok_kids h (by rw [hk]; simp)⟩
  rw [Term.plain h (by omega) (by omega), hk, h4]
  rfl

theorem Term.size_pos (t : Term) : 1 ≤ t.size := by rw [Term.size_eq]; omega

/-- The open half of a kid of two is right. -/
theorem Term.pub_ok {t x y : Term} (h : t.ok = true) (hk : t.kids = [x, y]) : (pubT x).ok = true := by
  have hx : x.ok = true := Term.ok_kids h (by rw [hk]; simp)
  unfold Term.ok at h hx ⊢
  simp only [Bool.and_eq_true, decide_eq_true_eq] at h hx ⊢
  have h1 := h.1
  have hy := Term.size_pos y
  rw [Term.size_eq, hk] at h1
  simp only [Term.sizes] at h1
  refine ⟨?_, ?_⟩
  · rw [Term.size_eq]
    show 1 + (x.size + 0) ≤ 200
    omega
  · rw [Term.formOk_eq, Term.formOks_all]
    show (_ && (x.formOk && true)) = true
    rw [hx.2]
    rfl

/-! ### Signing -/

def signed (p t : Term) : Term × Bool :=
  if t.ok = true ∧ t.op = 8 ∧ p = pubT (t.kids.getD 0 zeroT) then (t.kids.getD 1 zeroT, true) else (zeroT, false)

theorem kid_ok {t : Term} (h : t.ok = true) (i : Nat) : (t.kids.getD i zeroT).cost ≤ 60199 := by
  rw [List.getD_eq_getElem?_getD]
  cases hi : t.kids[i]? with
  | none => show zeroT.cost ≤ _; rw [zeroT_cost]; omega
  | some x => exact Term.cost_ok (Term.ok_kids h (List.mem_of_getElem? hi))

theorem signed_cost (p t : Term) : (signed p t).1.cost ≤ 60199 := by
  unfold signed
  split
  · rename_i h; exact kid_ok h.1 1
  · show zeroT.cost ≤ _; rw [zeroT_cost]; omega

theorem signed_some {p t : Term} (h : (signed p t).2 = true) : t.ok = true ∧ t.op = 8 ∧ ∃ x y, t.kids = [x, y] ∧ (signed p t).1 = y ∧ y.ok = true := by
  unfold signed at h ⊢
  by_cases hc : t.ok = true ∧ t.op = 8 ∧ p = pubT (t.kids.getD 0 zeroT)
  · obtain ⟨x, y, hk⟩ := Term.two hc.1 (by rw [hc.2.1]; rfl)
    rw [if_pos hc]
    exact ⟨hc.1, hc.2.1, x, y, hk, by simp [hk], Term.ok_kids hc.1 (by rw [hk]; simp)⟩
  · rw [if_neg hc] at h; cases h

theorem signed_none {p t : Term} (h : (signed p t).2 = false) : signed p t = (zeroT, false) := by
  unfold signed at h ⊢
  split
  · rename_i hc; rw [if_pos hc] at h; cases h
  · rfl

/-! ### Certificates -/

def noCert : Cert := ⟨⟨#[]⟩, zeroT, 0⟩

def certOk (c : Cert) : Bool := hostOk c.host && (decide (c.pub.op = 4) && (c.pub.ok && inR c.til 0 100000))

def certT (c : Cert) : Term := if certOk c = true then mkT 8 [atomT 1, mkT 3 [textT c.host, mkT 3 [c.pub, textT (itoaB c.til)]]] else zeroT

theorem certT_cost (c : Cert) : (certT c).cost ≤ 60199 := by
  unfold certT
  split
  · exact mkT_cost _ _
  · rw [zeroT_cost]; omega

theorem mkT_op {op : Int} {l : List Term} {t : Term} (h : mkT op l = t) (h0 : t.op ≠ 0) : t = ⟨op, 0, ⟨#[]⟩, l⟩ := by
  unfold mkT okT at h
  split at h
  · exact h.symm
  · subst h; exact absurd rfl h0

/-- What a certificate's term tells of its number. -/
theorem certT_num {c : Cert} {t x y : Term} (h : certT c = t) (h8 : t.op = 8) (hk : t.kids = [x, y]) (h3 : y.op = 3) {a b : Term} (hy : y.kids = [a, b]) (hb : b.op = 3) {p u : Term} (hp : b.kids = [p, u]) :
    certOk c = true ∧ u = textT (itoaB c.til) := by
  unfold certT at h
  by_cases hc : certOk c = true
  · rw [if_pos hc] at h
    have h1 := mkT_op h (by omega)
    rw [h1] at hk
    simp only [List.cons.injEq, and_true] at hk
    have h2 := mkT_op hk.2 (by omega)
    rw [h2] at hy
    simp only [List.cons.injEq, and_true] at hy
    have h4 := mkT_op hy.2 (by omega)
    rw [h4] at hp
    simp only [List.cons.injEq, and_true] at hp
    exact ⟨hc, hp.2.symm⟩
  · rw [if_neg hc] at h
    subst h
    exact absurd h8 (by decide)

theorem certOk_til {c : Cert} (h : certOk c = true) : 0 ≤ c.til ∧ c.til ≤ 100000 := by
  unfold certOk inR at h
  simp only [Bool.and_eq_true, decide_eq_true_eq] at h
  exact h.2.2.2

theorem certOk_pub {c : Cert} (h : certOk c = true) : c.pub.ok = true := by
  unfold certOk at h
  simp only [Bool.and_eq_true, decide_eq_true_eq] at h
  exact h.2.2.1

theorem certOk_host {c : Cert} (h : certOk c = true) : c.host.size ≤ 60 := by
  unfold certOk at h
  simp only [Bool.and_eq_true, decide_eq_true_eq] at h
  exact hostOk_size h.1

theorem atoi_til {n : Int} (h0 : 0 ≤ n) (h1 : n ≤ 100000) : atoiB (itoaB n) = (n, false) := by
  have := atoiB_nat (m := n.toNat) (by omega)
  rw [show (n.toNat : Int) = n by omega] at this
  exact this

/-- The certificate that a term's parts tell, the number as it is read. -/
def certParts (y : Term) (n : Int) : Cert := ⟨(y.kids.getD 0 zeroT).s, ((y.kids.getD 1 zeroT).kids.getD 0 zeroT), n⟩

def certOf (t : Term) : Cert × Bool :=
  let x := signed (mkT 4 [atomT 1]) t
  let b := x.1.kids.getD 1 zeroT
  let c := certParts x.1 (atoiB (b.kids.getD 1 zeroT).s).1
  if x.2 = true ∧ x.1.op = 3 ∧ b.op = 3 ∧ certT c = t then (c, true) else (noCert, false)

/-- However the number is read, as long as what was written is read back. -/
theorem certOf_read {t y a b p u : Term} (hs : signed (mkT 4 [atomT 1]) t = (y, true)) (h3 : y.op = 3) (hy : y.kids = [a, b]) (hb : b.op = 3) (hp : b.kids = [p, u])
    (v : Int) (hv : ∀ m : Nat, m ≤ 100000 → u.s = itoaB m → v = m) :
    certOf t = if certT ⟨a.s, p, v⟩ = t then (⟨a.s, p, v⟩, true) else (noCert, false) := by
  obtain ⟨hok, h8, k, y', hk, hy', _⟩ := signed_some (p := mkT 4 [atomT 1]) (t := t) (by rw [hs])
  rw [hs] at hy'
  simp only at hy'
  subst hy'
  have e0 : certOf t = if certT ⟨a.s, p, (atoiB u.s).1⟩ = t then (⟨a.s, p, (atoiB u.s).1⟩, true) else (noCert, false) := by
    unfold certOf certParts
    simp only [hs, hy, hp, h3, hb, List.getD_cons_zero, List.getD_cons_succ, true_and]
  rw [e0]
  have key : ∀ n, certT ⟨a.s, p, n⟩ = t → n = v ∧ n = (atoiB u.s).1 := by
    intro n hn
    obtain ⟨hc, hu⟩ := certT_num hn h8 hk h3 hy hb hp
    obtain ⟨t0, t1⟩ := certOk_til hc
    simp only at t0 t1
    have hus : u.s = itoaB n := by rw [hu]; rfl
    have hn : (n.toNat : Int) = n := by omega
    refine ⟨?_, ?_⟩
    · rw [hv n.toNat (by omega) (by rw [hn]; exact hus), hn]
    · rw [hus, atoi_til t0 t1]
  by_cases hA : certT ⟨a.s, p, (atoiB u.s).1⟩ = t
  · have := (key _ hA).1
    rw [if_pos hA, ← this, if_pos hA]
  · rw [if_neg hA, if_neg]
    intro hB
    have := (key _ hB).2
    rw [this] at hB
    exact hA hB

theorem certOf_no {t : Term} (h : ¬ ((signed (mkT 4 [atomT 1]) t).2 = true ∧ (signed (mkT 4 [atomT 1]) t).1.op = 3 ∧ ((signed (mkT 4 [atomT 1]) t).1.kids.getD 1 zeroT).op = 3)) : certOf t = (noCert, false) := by
  unfold certOf
  rw [if_neg]
  rintro ⟨h1, h2, h3, _⟩
  exact h ⟨h1, h2, h3⟩

/-- Where the number can't be read there is no certificate. -/
theorem certOf_bad {t y a b p u : Term} (hs : signed (mkT 4 [atomT 1]) t = (y, true)) (h3 : y.op = 3) (hy : y.kids = [a, b]) (hb : b.op = 3) (hp : b.kids = [p, u])
    (he : (atoiB u.s).2 = true) : certOf t = (noCert, false) := by
  obtain ⟨hok, h8, k, y', hk, hy', _⟩ := signed_some (p := mkT 4 [atomT 1]) (t := t) (by rw [hs])
  rw [hs] at hy'
  simp only at hy'
  subst hy'
  unfold certOf certParts
  simp only [hs, hy, hp, List.getD_cons_zero, List.getD_cons_succ]
  rw [if_neg]
  rintro ⟨_, _, _, h⟩
  obtain ⟨hc, hu⟩ := certT_num h h8 hk h3 hy hb hp
  obtain ⟨t0, t1⟩ := certOk_til hc
  simp only at t0 t1 hu
  generalize (atoiB u.s).1 = n at hu t0 t1
  have hus : u.s = itoaB n := by rw [hu]; rfl
  rw [hus, atoi_til t0 t1] at he
  cases he

theorem certOf_pub (t : Term) : (certOf t).1.pub.cost ≤ 60199 := by
  unfold certOf
  simp only
  split
  · rename_i h
    obtain ⟨h1, h2, h3, h4⟩ := h
    obtain ⟨hok, h8, _⟩ := signed_some h1
    refine Term.cost_ok (certOk_pub ?_)
    rw [show ∀ c : Cert, (c, true).1 = c from fun _ => rfl]
    by_cases hc : certOk (certParts (signed (mkT 4 [atomT 1]) t).1 (atoiB (((signed (mkT 4 [atomT 1]) t).1.kids.getD 1 zeroT).kids.getD 1 zeroT).s).1) = true
    · exact hc
    · unfold certT at h4
      rw [if_neg hc] at h4
      subst h4
      exact absurd h8 (by decide)
  · show zeroT.cost ≤ _; rw [zeroT_cost]; omega

def certGood (t : Term) (host : ByteArray) (now : Int) : Term × Bool :=
  if (certOf t).2 = true ∧ (certOf t).1.host = host ∧ ¬ (certOf t).1.til < now then ((certOf t).1.pub, true) else (zeroT, false)

theorem certGood_cost (t : Term) (host : ByteArray) (now : Int) : (certGood t host now).1.cost ≤ 60199 := by
  unfold certGood
  split
  · exact certOf_pub t
  · show zeroT.cost ≤ _; rw [zeroT_cost]; omega

def bothT (a b : Term) : Term := mkT 6 [mkT 3 [a, b]]

def proved (e pub cert sign : Term) (host : ByteArray) (now : Int) : Bool :=
  (certGood cert host now).2 && ((signed (certGood cert host now).1 sign).2 && (decide ((signed (certGood cert host now).1 sign).1.op = 6) && decide ((signed (certGood cert host now).1 sign).1 = bothT (mkT 4 [e]) pub)))

theorem twoOf_some {t a b : Term} (h3 : t.op = 3) (hk : t.kids = [a, b]) : (if t.op = 3 ∧ t.kids.length = 2 then (t.kids.getD 0 zeroT, t.kids.getD 1 zeroT, true, ()) else (zeroT, zeroT, false, ())) = (a, b, true, ()) := by
  rw [if_pos ⟨h3, by rw [hk]; rfl⟩, hk]
  rfl

theorem twoOf_none {t : Term} (h3 : t.op ≠ 3) : (if t.op = 3 ∧ t.kids.length = 2 then (t.kids.getD 0 zeroT, t.kids.getD 1 zeroT, true, ()) else (zeroT, zeroT, false, ())) = (zeroT, zeroT, false, ()) := by
  rw [if_neg]
  rintro ⟨h, _⟩
  exact h3 h

/-! ### Numbers that are read by the reference -/

def nstep (_ : Nat) (b : UInt8) (a : Int) : Int ⊕ Int := if b.toNat < 48 ∨ 57 < b.toNat then .inr a else .inl (dstep a b)

theorem nstep_digits : ∀ (l : List UInt8) (i : Nat) (a : Int), (∀ x ∈ l, 48 ≤ x.toNat ∧ x.toNat ≤ 57) → lfold nstep i l a = .inl (l.foldl dstep a)
  | [], i, a, _ => rfl
  | b :: l, i, a, h => by
    have hb := h b (List.mem_cons_self ..)
    simp only [lfold, nstep, List.foldl_cons]
    rw [if_neg (by omega)]
    exact nstep_digits l (i + 1) _ fun x hx => h x (List.mem_cons_of_mem _ hx)

theorem wrap_rng (x : Int) : -9223372036854775808 ≤ IntKind.i64.wrap x ∧ IntKind.i64.wrap x ≤ 9223372036854775807 := by
  simp only [IntKind.wrap, IntKind.bits, IntKind.signed]
  simp
  split <;> omega

theorem nstep_range : ∀ (l : List UInt8) (i : Nat) (a b : Int), lfold nstep i l a = .inl b → (-9223372036854775808 ≤ a ∧ a ≤ 9223372036854775807) → -9223372036854775808 ≤ b ∧ b ≤ 9223372036854775807
  | [], i, a, b, h, ha => by
    simp only [lfold, Sum.inl.injEq] at h
    subst h
    exact ha
  | x :: l, i, a, b, h, ha => by
    simp only [lfold, nstep] at h
    by_cases hx : x.toNat < 48 ∨ 57 < x.toNat
    · rw [if_pos hx] at h; cases h
    · rw [if_neg hx] at h
      exact nstep_range l (i + 1) _ b h (wrap_rng _)

theorem nstep_num {m : Nat} (h : m ≤ 1000000000) : lfold nstep 0 (itoaB (m : Int)).data.toList 0 = .inl (m : Int) := by
  rw [itoaB_nat, nstep_digits _ _ _ (numL_digit m)]
  unfold numL
  split
  · rename_i h0; subst h0; decide
  · rw [fold_digs m h]

theorem itoaB_nat_size {m : Nat} (h : m ≤ 100000) : 1 ≤ (itoaB (m : Int)).size ∧ (itoaB (m : Int)).size ≤ 6 := by
  rw [← bytes_len, itoaB_nat]
  obtain ⟨c, r, hc, _⟩ := numL_cons m
  have := numL_short (k := 6) (m := m) (by omega) (by omega)
  rw [hc] at this ⊢
  simp at this ⊢
  omega

end Go.Vm

namespace Go.Vm
set_option linter.unusedVariables false
set_option linter.unusedSimpArgs false

def stepNames : List ByteArray := [⟨#[103, 114, 101, 101, 116]⟩, ⟨#[101, 104, 108, 111]⟩, ⟨#[114, 101, 97, 100, 121]⟩, ⟨#[114, 101, 112, 108, 121]⟩, ⟨#[109, 97, 105, 108]⟩, ⟨#[114, 99, 112, 116]⟩, ⟨#[100, 97, 116, 97]⟩, ⟨#[98, 111, 100, 121]⟩, ⟨#[100, 111, 110, 101]⟩, ⟨#[102, 97, 105, 108]⟩]

def clientText (c : Client) : ByteArray :=
  let a := nameOf c.step stepNames ++ ⟨#[32]⟩ ++ c.host
  let b := bif c.must then a ++ ⟨#[32, 109, 117, 115, 116]⟩ else a
  let d := bif c.tls then b ++ ⟨#[32, 115, 101, 97, 108, 101, 100]⟩ else b
  bif c.proved then d ++ ⟨#[32, 112, 114, 111, 118, 101, 100]⟩ else d

theorem clientText_size (c : Client) : (clientText c).size ≤ c.host.size + 40 := by
  have hn : (nameOf c.step stepNames).size ≤ 5 := nameOf_size (by omega) (by decide)
  unfold clientText
  cases c.must <;> cases c.tls <;> cases c.proved <;> simp only [cond_true, cond_false, ByteArray.size_append, ba_size, List.size_toArray, List.length_cons, List.length_nil] <;> omega

def worldHead (w : WorldD) : ByteArray :=
  ⟨#[116, 105, 109, 101, 32]⟩ ++ itoaB w.time ++ ⟨#[32, 108, 101, 116, 116, 101, 114, 115, 32]⟩ ++ itoaB w.letters.length ++ ⟨#[32, 99, 97, 108, 108, 115, 32]⟩ ++ itoaB w.calls.length ++ ⟨#[32, 116, 97, 108, 107, 115, 32]⟩ ++ itoaB w.talks.length ++ ⟨#[32, 116, 111, 108, 100, 32]⟩ ++ itoaB w.told.length ++ ⟨#[10]⟩

theorem worldHead_size (w : WorldD) (h0 : -9223372036854775808 ≤ w.time) (h1 : w.time ≤ 9223372036854775807) (h : w.cost ≤ 900000000) : (worldHead w).size ≤ 1000 := by
  unfold WorldD.cost lsum at h
  have a0 := itoaB_size h0 h1
  have a1 := itoaB_size (n := w.letters.length) (by omega) (by omega)
  have a2 := itoaB_size (n := w.calls.length) (by omega) (by omega)
  have a3 := itoaB_size (n := w.talks.length) (by omega) (by omega)
  have a4 := itoaB_size (n := w.told.length) (by omega) (by omega)
  unfold worldHead
  simp only [ByteArray.size_append, ba_size, List.size_toArray, List.length_cons, List.length_nil]
  omega

theorem lines_size {β : Type} (f : β → ByteArray) (B : Nat) : ∀ (l : List β) (acc : ByteArray), (∀ x ∈ l, (f x).size ≤ B) → (l.foldl (fun a x => a ++ f x ++ ⟨#[10]⟩) acc).size ≤ acc.size + l.length * (B + 1) := by
  intro l
  induction l with
  | nil => intro acc _; simp
  | cons x l ih =>
    intro acc h
    have h1 := ih (acc ++ f x ++ ⟨#[10]⟩) (fun y hy => h y (List.mem_cons_of_mem _ hy))
    have h2 := h x (List.mem_cons_self ..)
    simp only [ByteArray.size_append, ba_size, List.size_toArray, List.length_cons, List.length_nil] at h1
    rw [List.foldl_cons, List.length_cons, Nat.add_mul, Nat.one_mul]
    omega

def worldText (w : WorldD) : ByteArray :=
  w.calls.foldl (fun a c => a ++ clientText c.client ++ ⟨#[10]⟩) (w.letters.foldl (fun a l => a ++ letterText l ++ ⟨#[10]⟩) (worldHead w))

end Go.Vm

namespace Go.Vm
open Go.Proofs
set_option linter.unusedVariables false
set_option linter.unusedSimpArgs false

def agree (s p : Term) : Term × Bool :=
  if p.op = 4 ∧ p.ok = true then
    let t := if Term.before (p.kids.getD 0 zeroT) s = true then mkT 5 [p.kids.getD 0 zeroT, s] else mkT 5 [s, p.kids.getD 0 zeroT]
    (t, decide (t.op = 5))
  else (zeroT, false)

def keyT (t : Term) (n : Int) : Term := mkT 6 [mkT 3 [t, textT (itoaB n)]]

def sealT (k : Term) (n : Int) (b : Term) : Term := mkT 7 [k, mkT 3 [textT (itoaB n), b]]

def openT (k : Term) (n : Int) (t : Term) : Term × Bool :=
  if t.ok = true ∧ t.op = 7 ∧ t.kids.getD 0 zeroT = k ∧ (t.kids.getD 1 zeroT).op = 3 ∧ (t.kids.getD 1 zeroT).kids.getD 0 zeroT = textT (itoaB n) then ((t.kids.getD 1 zeroT).kids.getD 1 zeroT, true) else (zeroT, false)

def wHello : ByteArray := ⟨#[104, 101, 108, 108, 111]⟩
def wDone : ByteArray := ⟨#[100, 111, 110, 101]⟩
def wReply : ByteArray := ⟨#[114, 101, 112, 108, 121]⟩
def wMail : ByteArray := ⟨#[109, 97, 105, 108]⟩
def wBody : ByteArray := ⟨#[98, 111, 100, 121]⟩
def wRcpt : ByteArray := ⟨#[114, 99, 112, 116]⟩
def wData : ByteArray := ⟨#[100, 97, 116, 97]⟩
def wEhlo : ByteArray := ⟨#[101, 104, 108, 111]⟩
def wStart : ByteArray := ⟨#[115, 116, 97, 114, 116, 116, 108, 115]⟩
def w220 : ByteArray := ⟨#[50, 50, 48]⟩
def w250 : ByteArray := ⟨#[50, 53, 48]⟩
def w250s : ByteArray := ⟨#[50, 53, 48, 32, 115, 116, 97, 114, 116, 116, 108, 115]⟩
def w354 : ByteArray := ⟨#[51, 53, 52]⟩
def wQuit : ByteArray := ⟨#[113, 117, 105, 116]⟩

def helloT (e : Term) : Term := mkT 3 [textT wHello, mkT 4 [e]]

def helloOf (t : Term) : Term × Bool :=
  if t.ok = true ∧ t.op = 3 ∧ t.kids.getD 0 zeroT = textT wHello ∧ (t.kids.getD 1 zeroT).op = 4 then (t.kids.getD 1 zeroT, true) else (zeroT, false)

def doneT (share : Term) : Term := sealT (keyT share 1) 0 (textT wDone)

def replyRaw (s pub key cert : Term) : Term :=
  mkT 3 [textT wReply, mkT 3 [mkT 4 [s], sealT (keyT (agree s pub).1 0) 0 (mkT 3 [cert, mkT 8 [key, bothT pub (mkT 4 [s])]])]]

def replyT (s pub key cert : Term) : Term × Bool :=
  if (agree s pub).2 = true ∧ (replyRaw s pub key cert).op = 3 then (replyRaw s pub key cert, true) else (zeroT, false)

def replyOf (e t : Term) : Term × Term × Term × Term × Bool :=
  if t.ok = true ∧ t.op = 3 ∧ t.kids.getD 0 zeroT = textT wReply ∧ (t.kids.getD 1 zeroT).op = 3 then
    let pub := (t.kids.getD 1 zeroT).kids.getD 0 zeroT
    let a := agree e pub
    let b := openT (keyT a.1 0) 0 ((t.kids.getD 1 zeroT).kids.getD 1 zeroT)
    if a.2 = true ∧ b.2 = true ∧ b.1.op = 3 then (pub, a.1, b.1.kids.getD 0 zeroT, b.1.kids.getD 1 zeroT, true) else (zeroT, zeroT, zeroT, zeroT, false)
  else (zeroT, zeroT, zeroT, zeroT, false)

theorem agree_cost (s p : Term) : (agree s p).1.cost ≤ 60199 := by
  unfold agree
  split
  · simp only
    split <;> exact mkT_cost _ _
  · show zeroT.cost ≤ _; rw [zeroT_cost]; omega

theorem openT_cost (k : Term) (n : Int) (t : Term) : (openT k n t).1.cost ≤ 60199 := by
  unfold openT
  split
  · rename_i h
    show ((t.kids.getD 1 zeroT).kids.getD 1 zeroT).cost ≤ _
    obtain ⟨x, y, hk⟩ := Term.two h.1 (by rw [h.2.1]; rfl)
    have hy : y.ok = true := Term.ok_kids h.1 (by rw [hk]; simp)
    rw [hk]
    exact kid_ok hy 1
  · show zeroT.cost ≤ _; rw [zeroT_cost]; omega

theorem openT_ok {k : Term} {n : Int} {t : Term} (h : (openT k n t).2 = true) : (openT k n t).1.ok = true := by
  unfold openT at h ⊢
  split
  · rename_i h
    obtain ⟨x, y, hk⟩ := Term.two h.1 (by rw [h.2.1]; rfl)
    have hy : y.ok = true := Term.ok_kids h.1 (by rw [hk]; simp)
    rw [hk] at h ⊢
    obtain ⟨a, b, hab⟩ := Term.two hy (by
      have := h.2.2.2.1
      simp only [List.getD_cons_succ, List.getD_cons_zero] at this
      rw [this]; rfl)
    show (y.kids.getD 1 zeroT).ok = true
    rw [hab]
    exact Term.ok_kids hy (by rw [hab]; simp)
  · rename_i hn; rw [if_neg hn] at h; cases h

/-! ### Calls -/

def failedI (c : Client) : Client × List Term := ({ c with step := 10 }, [])

def sayI (c : Client) (t : Term) : Client × Term :=
  if c.tls = true then ({ c with out := IntKind.i64.wrap (c.out + 1) }, sealT (keyT c.share 1) c.out t) else (c, t)

def goesI (c : Client) (t : Term) (step : Int) : Client × List Term :=
  if (sayI c t).1.out > 100 then failedI c else ({ (sayI c t).1 with step := step }, [(sayI c t).2])

def heardReplyI (c : Client) (t : Term) (now : Int) : Client × List Term :=
  let r := replyOf (atomT c.eph) t
  if r.2.2.2.2 = true then
    let pr := proved (atomT c.eph) r.1 r.2.2.1 r.2.2.2.1 c.host now
    if c.must = true ∧ pr = false then failedI c
    else
      let x := goesI { c with tls := true, share := r.2.1, proved := pr, out := 1 } (textT wMail) 5
      (x.1, doneT r.2.1 :: x.2)
  else failedI c

def minI (n : Int) : Int := if n < 100 then n else 100

def nextI (c : Client) : Client := if c.tls = true then { c with inn := minI (IntKind.i64.wrap (c.inn + 1)) } else c

def heardLineI (c : Client) (s : ByteArray) : Client × List Term :=
  if c.step = 1 ∧ s = w220 then goesI (nextI c) (textT wEhlo) 2
  else if c.step = 2 ∧ s = w250s then goesI (nextI c) (textT wStart) 3
  else if c.step = 2 ∧ s = w250 ∧ c.must = false then goesI (nextI c) (textT wMail) 5
  else if c.step = 3 ∧ s = w220 then ({ nextI c with step := 4 }, [helloT (atomT c.eph)])
  else if c.step = 5 ∧ s = w250 then goesI (nextI c) (textT wRcpt) 6
  else if c.step = 6 ∧ s = w250 then goesI (nextI c) (textT wData) 7
  else if c.step = 7 ∧ s = w354 then goesI (nextI c) (mkT 3 [textT wBody, atomT c.body]) 8
  else if c.step = 8 ∧ s = w250 then ({ nextI c with step := 9 }, [])
  else failedI c

def lineI (t : Term) : ByteArray × Bool := if t.op = 2 then (t.s, true) else (⟨#[]⟩, false)

def clientLineI (c : Client) (t : Term) : ByteArray × Bool :=
  if c.tls = true then
    if (openT (keyT c.share 2) c.inn t).2 = true then lineI (openT (keyT c.share 2) c.inn t).1 else (⟨#[]⟩, false)
  else lineI t

def clientHearI (c : Client) (t : Term) (now : Int) : Client × List Term :=
  if clientOk c = true ∧ t.ok = true ∧ c.step ≠ 9 ∧ c.step ≠ 10 then
    if c.step = 4 then heardReplyI c t now
    else if (clientLineI c t).2 = true then heardLineI c (clientLineI c t).1 else failedI c
  else (c, [])

/-! ### Hosts -/

def gaveUpI (s : Server) : Server × List Term := ({ s with step := 5, share := if s.tls = true then s.share else zeroT }, [])

def answersI (s : Server) (line : ByteArray) (step : Int) : Server × List Term :=
  if s.tls = true then
    if s.out ≥ 100 then gaveUpI s else ({ s with step := step, out := IntKind.i64.wrap (s.out + 1) }, [sealT (keyT s.share 2) s.out (textT line)])
  else ({ s with step := step }, [textT line])

def servedI (s : Server) (line : ByteArray) : Server × List Term :=
  if line = wEhlo ∧ s.tls = true then answersI s w250 1
  else if line = wEhlo then answersI s w250s 1
  else if line = wStart ∧ s.tls = false then answersI s w220 2
  else if line = wMail ∨ line = wRcpt then answersI s w250 1
  else if line = wData then answersI s w354 4
  else if line = wQuit then (s, [])
  else gaveUpI s

def greetedI (s : Server) (t : Term) : Server × List Term :=
  let h := helloOf t
  let r := replyT (atomT s.eph) h.1 (atomT s.key) s.cert
  let a := agree (atomT s.eph) h.1
  if h.2 = true ∧ r.2 = true ∧ a.2 = true then ({ s with share := a.1, step := 3 }, [r.1]) else gaveUpI s

def tookI (s : Server) (b : Term) : Server × List Term :=
  if b.op = 3 ∧ b.kids.length = 2 ∧ b.kids.getD 0 zeroT = textT wBody ∧ (b.kids.getD 1 zeroT).op = 1 ∧ s.got.length < 20 then
    answersI { s with got := s.got ++ [(b.kids.getD 1 zeroT).n] } w250 1
  else gaveUpI s

def heardI (s : Server) (t : Term) : Server × List Term :=
  let o := openT (keyT s.share 1) s.inn t
  if s.tls = true ∧ o.2 = false then gaveUpI s
  else
    let n := if s.tls = true then { s with inn := minI (IntKind.i64.wrap (s.inn + 1)) } else s
    let b := if s.tls = true then o.1 else t
    if s.step ≠ 4 ∧ (lineI b).2 = false then gaveUpI s
    else
      let r := if s.step = 4 then tookI n b else servedI n (lineI b).1
      if r.1.step = 5 then gaveUpI s else r

def serverHearI (s : Server) (t : Term) : Server × List Term :=
  if serverOk s = true ∧ t.ok = true ∧ s.step ≠ 5 then
    if s.step = 2 then greetedI s t
    else if s.step = 3 then
      if (doneT s.share).op = 7 ∧ doneT s.share = t then ({ s with tls := true, inn := 1, out := 0, step := 1 }, []) else gaveUpI s
    else heardI s t
  else (s, [])

/-! ### Two kids -/

def twoP (t : Term) : Term × Term × Bool := if t.op = 3 ∧ t.kids.length = 2 then (t.kids.getD 0 zeroT, t.kids.getD 1 zeroT, true) else (zeroT, zeroT, false)

theorem kid_cost (t : Term) (i : Nat) : (t.kids.getD i zeroT).cost ≤ t.cost := by
  rw [List.getD_eq_getElem?_getD]
  cases hi : t.kids[i]? with
  | none => show zeroT.cost ≤ _; rw [zeroT_cost]; omega
  | some x =>
    have := Term.costs_mem (List.mem_of_getElem? hi)
    have e := Term.cost_eq t
    show x.cost ≤ t.cost
    omega

theorem twoP_cost (t : Term) : (twoP t).1.cost ≤ t.cost ∧ (twoP t).2.1.cost ≤ t.cost := by
  unfold twoP
  split
  · exact ⟨kid_cost t 0, kid_cost t 1⟩
  · constructor <;> (show zeroT.cost ≤ _; rw [zeroT_cost]; omega)

theorem twoP_ok {t : Term} (h : t.ok = true) (h3 : t.op = 3) : twoP t = (t.kids.getD 0 zeroT, t.kids.getD 1 zeroT, true) := by
  obtain ⟨x, y, hk⟩ := Term.two h (by rw [h3]; rfl)
  unfold twoP
  rw [if_pos ⟨h3, by rw [hk]; rfl⟩]

theorem twoP_no {t : Term} (h : t.op ≠ 3) : twoP t = (zeroT, zeroT, false) := by
  unfold twoP
  rw [if_neg fun g => h g.1]

theorem twoP_yes {t : Term} (h : (twoP t).2.2 = true) : t.op = 3 ∧ twoP t = (t.kids.getD 0 zeroT, t.kids.getD 1 zeroT, true) := by
  unfold twoP at h ⊢
  split
  · rename_i g; exact ⟨g.1, rfl⟩
  · rename_i g; rw [if_neg g] at h; cases h

def fourZ : Term × Term × Term × Term × Bool := (zeroT, zeroT, zeroT, zeroT, false)

theorem replyOf_two (e t : Term) : replyOf e t =
    (if (twoP t).2.2 = true ∧ (twoP (twoP t).2.1).2.2 = true ∧ (agree e (twoP (twoP t).2.1).1).2 = true ∧ (openT (keyT (agree e (twoP (twoP t).2.1).1).1 0) 0 (twoP (twoP t).2.1).2.1).2 = true ∧
      (twoP (openT (keyT (agree e (twoP (twoP t).2.1).1).1 0) 0 (twoP (twoP t).2.1).2.1).1).2.2 = true ∧ t.ok = true ∧ (twoP t).1 = textT wReply then
      ((twoP (twoP t).2.1).1, (agree e (twoP (twoP t).2.1).1).1, (twoP (openT (keyT (agree e (twoP (twoP t).2.1).1).1 0) 0 (twoP (twoP t).2.1).2.1).1).1, (twoP (openT (keyT (agree e (twoP (twoP t).2.1).1).1 0) 0 (twoP (twoP t).2.1).2.1).1).2.1, true)
    else fourZ) := by
  unfold replyOf
  by_cases hok : t.ok = true
  case neg => rw [if_neg fun g => hok g.1, if_neg fun g => hok g.2.2.2.2.2.1]; rfl
  by_cases h3 : t.op = 3
  case neg => rw [if_neg fun g => h3 g.2.1, if_neg fun g => h3 (twoP_yes g.1).1]; rfl
  rw [twoP_ok hok h3]
  obtain ⟨w, r, hk⟩ := Term.two hok (by rw [h3]; rfl)
  have hr : r.ok = true := Term.ok_kids hok (by rw [hk]; simp)
  rw [hk]
  simp only [List.getD_cons_zero, List.getD_cons_succ]
  by_cases hw : w = textT wReply
  case neg => rw [if_neg fun g => hw g.2.2.1, if_neg fun g => hw g.2.2.2.2.2.2]; rfl
  by_cases hr3 : r.op = 3
  case neg => rw [if_neg fun g => hr3 g.2.2.2, if_neg fun g => hr3 (twoP_yes g.2.1).1]; rfl
  rw [twoP_ok hr hr3]
  rw [if_pos ⟨hok, h3, hw, hr3⟩]
  simp only
  by_cases ha : (agree e (r.kids.getD 0 zeroT)).2 = true
  case neg => rw [if_neg fun g => ha g.1, if_neg fun g => ha g.2.2.1]; rfl
  by_cases ho : (openT (keyT (agree e (r.kids.getD 0 zeroT)).1 0) 0 (r.kids.getD 1 zeroT)).2 = true
  case neg => rw [if_neg fun g => ho g.2.1, if_neg fun g => ho g.2.2.2.1]; rfl
  have hoo := openT_ok ho
  by_cases hb : (openT (keyT (agree e (r.kids.getD 0 zeroT)).1 0) 0 (r.kids.getD 1 zeroT)).1.op = 3
  case neg => rw [if_neg fun g => hb g.2.2, if_neg fun g => hb (twoP_yes g.2.2.2.2.1).1]; rfl
  rw [if_pos ⟨ha, ho, hb⟩, twoP_ok hoo hb, if_pos (by simp only [ha, ho, hok, hw, and_self])]

theorem replyOf_cost (e t : Term) : (replyOf e t).1.cost ≤ 60199 ∧ (replyOf e t).2.1.cost ≤ 60199 ∧ (replyOf e t).2.2.1.cost ≤ 60199 ∧ (replyOf e t).2.2.2.1.cost ≤ 60199 := by
  have hz : zeroT.cost ≤ 60199 := by rw [zeroT_cost]; omega
  unfold replyOf
  split
  · rename_i h
    simp only
    split
    · rename_i g
      have h1 := kid_cost (t.kids.getD 1 zeroT) 0
      have h2 := kid_ok h.1 1
      have h3 := agree_cost e ((t.kids.getD 1 zeroT).kids.getD 0 zeroT)
      have h4 := openT_cost (keyT (agree e ((t.kids.getD 1 zeroT).kids.getD 0 zeroT)).1 0) 0 ((t.kids.getD 1 zeroT).kids.getD 1 zeroT)
      have h5 := kid_cost (openT (keyT (agree e ((t.kids.getD 1 zeroT).kids.getD 0 zeroT)).1 0) 0 ((t.kids.getD 1 zeroT).kids.getD 1 zeroT)).1 0
      have h6 := kid_cost (openT (keyT (agree e ((t.kids.getD 1 zeroT).kids.getD 0 zeroT)).1 0) 0 ((t.kids.getD 1 zeroT).kids.getD 1 zeroT)).1 1
      exact ⟨by show ((t.kids.getD 1 zeroT).kids.getD 0 zeroT).cost ≤ _; omega, h3, Nat.le_trans h5 h4, Nat.le_trans h6 h4⟩
    · exact ⟨hz, hz, hz, hz⟩
  · exact ⟨hz, hz, hz, hz⟩

theorem clientOk_rng {c : Client} (h : clientOk c = true) : 1 ≤ c.step ∧ c.step ≤ 10 ∧ 0 ≤ c.inn ∧ c.inn ≤ 100 ∧ 0 ≤ c.out ∧ c.out ≤ 100 := by
  unfold clientOk inR at h
  simp only [Bool.and_eq_true, decide_eq_true_eq] at h
  omega

theorem replyRaw_cost (s pub key cert : Term) : (replyRaw s pub key cert).cost ≤ 60199 := by
  unfold replyRaw
  exact mkT_cost _ _

theorem replyT_cost (s pub key cert : Term) : (replyT s pub key cert).1.cost ≤ 60199 := by
  have h := replyRaw_cost s pub key cert
  unfold replyT
  generalize replyRaw s pub key cert = r at h ⊢
  by_cases g : (agree s pub).2 = true ∧ r.op = 3
  · rw [if_pos g]; exact h
  · rw [if_neg g]; show zeroT.cost ≤ _; rw [zeroT_cost]; omega

theorem mkT_zero {op : Int} {l : List Term} (h : (mkT op l).op ≠ op) : mkT op l = zeroT := by
  unfold mkT okT at h ⊢
  by_cases hk : (⟨op, 0, ⟨#[]⟩, l⟩ : Term).ok = true
  · rw [if_pos hk] at h; exact absurd rfl h
  · rw [if_neg hk]

theorem replyRaw_zero {s pub key cert : Term} (h : (replyRaw s pub key cert).op ≠ 3) : replyRaw s pub key cert = zeroT := by
  unfold replyRaw at h ⊢
  exact mkT_zero h

end Go.Vm

namespace Go
variable {H : Type} {enc : TypeId × Value → H}

theorem returnsInHanded_of_change_and_shaped {a : Assume} {C : Checked} {os : Os} {f : FuncId} {fn : Func} {s : ChangeSpec} {conds : List PathCond} {apart fresh handsOn again : Bool} {X : World → Array Value → Prop}
    (hX : ∀ (w w' : World) (args : Array Value), w.heap = w'.heap → X w args → X w' args)
    (own : ownKnob C.prog.godebug = none) (started : os.Started) (noInit : C.prog.inits.idxOf? f = none) (hfn : C.prog.funcs[f]? = some fn)
    (witness : ∃ (w : World) (tape : Tape) (i : Input), w.os = os ∧ (w.forCall tape i).Shaped C.prog ∧ i.vars = [] ∧ Input.okWide C.prog (w.forCall tape i) .any w.heap.size f i ∧
      ((s.pre enc C.prog fn conds apart (w.forCall tape i).memory i.args ∧ X (w.forCall tape i).memory i.args) ∧ sizedMet enc C.prog fn (OpenSpec.ofChange s) apart (w.forCall tape i).memory i.args) ∧ a.holds C.prog (lone (Frame.enter C.prog f i.args .normal) [] (w.forCall tape i)))
    (contract : ∀ (W : World) (base : Nat) (args : Array Value) (ds gs : List (DataW H)) (before : List MemPlace),
      (∀ (j : Nat) t v, fn.params[j]? = some t → args[j]? = some v → Value.okWide C.prog W .any base t v) →
      DataW.Whole enc C.prog fn.params.toList s.vars apart W args.toList ds gs before →
      conds.all (PathCond.test C.prog ⟨fn.params.toList, ds, s.plain.varTypes C.prog, gs⟩) = true →
      (DataW.weightsEach C.prog (fn.params.toList ++ s.plain.varTypes C.prog) (ds ++ gs)).all (· ≤ reachBytes) = true → W.ShapedOpen C.prog → X W args →
      a.holds C.prog (lone (Frame.enter C.prog f args .normal) [] W) →
      Calls C.prog f args W fun e W' => ∃ v, e = .returned v ∧ s.post enc C.prog fn apart fresh handsOn again W args v W') :
    ReturnsInHanded a C os f .any (fun w args => (s.pre enc C.prog fn conds apart w args ∧ X w args) ∧ sizedMet enc C.prog fn (OpenSpec.ofChange s) apart w args) (s.post enc C.prog fn apart fresh handsOn again) := by
  refine returnsInHanded_of_calls own started noInit witness ?_
  intro w tape i _ hsh _ hok hpre hholds
  obtain ⟨_, _, _, fn', hfn', _, _, _, _, hval⟩ := hok
  have e : fn' = fn := Option.some.inj (hfn'.symm.trans hfn)
  subst e
  obtain ⟨⟨⟨ds, gs, before, hw, hc⟩, hx⟩, hz⟩ := hpre
  have hw' := DataW.Whole.of_heap (w' := w.forCall tape i) (by rfl) hw
  refine (contract (w.forCall tape i) w.heap.size i.args ds gs before hval hw' hc (hz.weights hw) hsh (hX _ _ _ (by rfl) hx) hholds).mono fun e W' ⟨v, he, hp⟩ => ?_
  subst he
  exact ChangeSpec.post_blind hp

end Go
