/-
  Loops of common forms: one that looks for an element, one that adds up, one that goes over two lists at once.
-/
import Derived.Test.YtepghohkfnmhmaaDoorVmTerm
namespace Go.Vm
set_option linter.unusedVariables false
set_option linter.unusedSimpArgs false

theorem qb_s {α β : Type} (v : α) (k : α → Option β) : qb (some v) k = k v := rfl

theorem unC_s (x : C) : unC (.c x) = some x := rfl
theorem fInt_s (n : Int) : fInt (.f (.int n)) = some n := rfl
theorem fBool_s (b : Bool) : fBool (.f (.bool b)) = some b := rfl
theorem fStr_s (s : ByteArray) : fStr (.f (.str s)) = some s := rfl
theorem fSl_s {k : Kind} (t : Bool) (l : List (El k)) : fSl k (.f (.sl t k l)) = some l := by simp [fSl]

section
variable {P : Program} {cfg : Cfg} {T : CallSem} {n d f r na : Nat} {β : Type}

/-- Out at the first element that is such. -/
theorem lp_any (l : List β) (p : β → Bool) (S : Nat → St) (O E : Ex × St)
    (hO : roundK P cfg T n d f r na (S l.length) = some O) (hO' : isN O.1 = false) (hE : isN E.1 = false)
    (hs : ∀ i x, l[i]? = some x → i < l.length → roundK P cfg T n d f r na (S i) = some (if p x = true then E else (.nrm, S (i + 1)))) :
    ∀ q, l.length < q → lp P cfg T n d f r na q (S 0) = some (if l.any p = true then E else O) := by
  intro q hq
  have h := lp_list (P := P) (cfg := cfg) (T := T) (n := n) (d := d) (f := f) (r := r) (na := na) l (fun _ x (_ : Unit) => if p x = true then (.inr () : Unit ⊕ Unit) else .inl ())
    (fun i _ => S i) (fun _ => O) (fun _ => E) (fun _ _ => True) (fun _ _ => hO) (fun _ => hO') (fun _ => hE)
    (fun i x a hx hi _ => by rw [hs i x hx hi]; by_cases hp : p x = true <;> simp [hp]) (fun _ _ _ _ _ _ _ _ => trivial) () q trivial hq
  rw [h, lfold_find]
  by_cases ha : l.any p = true <;> simp [ha]

/-- Out at the first element that is such, and at which place. -/
theorem lp_at (l : List β) (p : β → Bool) (S : Nat → St) (O : Ex × St) (E : Nat → Ex × St)
    (hO : roundK P cfg T n d f r na (S l.length) = some O) (hO' : isN O.1 = false) (hE : ∀ i, isN (E i).1 = false)
    (hs : ∀ i x, l[i]? = some x → i < l.length → roundK P cfg T n d f r na (S i) = some (if p x = true then E i else (.nrm, S (i + 1)))) :
    ∀ q, l.length < q → lp P cfg T n d f r na q (S 0) = some (match l.findIdx? p with | some i => E i | none => O) := by
  intro q hq
  have main : ∀ (suf pre : List β) (q : Nat), l = pre ++ suf → suf.length < q → lp P cfg T n d f r na q (S pre.length) = some (match suf.findIdx? p with | some i => E (pre.length + i) | none => O) := by
    intro suf
    induction suf with
    | nil =>
      intro pre q hl hq
      obtain ⟨q, rfl⟩ : ∃ q', q = q' + 1 := ⟨q - 1, by omega⟩
      have : pre.length = l.length := by rw [hl]; simp
      rw [this]
      exact lp_out hO hO'
    | cons x suf ih =>
      intro pre q hl hq
      obtain ⟨q, rfl⟩ : ∃ q', q = q' + 1 := ⟨q - 1, by omega⟩
      have h1 := hs pre.length x (by rw [hl]; simp) (by rw [hl]; simp)
      rw [List.findIdx?_cons]
      by_cases hp : p x = true
      · rw [if_pos hp] at h1 ⊢
        exact lp_out h1 (hE _)
      · rw [if_neg hp] at h1 ⊢
        have h2 := ih (pre ++ [x]) q (by rw [hl]; simp) (by simp at hq; omega)
        simp only [List.length_append, List.length_cons, List.length_nil, Nat.zero_add] at h2
        refine (lp_next h1 h2).trans ?_
        cases suf.findIdx? p with
        | none => rfl
        | some j => simp [Nat.add_assoc, Nat.add_comm 1]
  have h := main l [] q rfl hq
  simpa using h

/-- All added up. -/
theorem lp_sum (l : List β) (c : β → Nat) (S : Nat → Nat → St) (O : Nat → Ex × St) (B : Nat)
    (hO : ∀ a, roundK P cfg T n d f r na (S l.length a) = some (O a)) (hO' : ∀ a, isN (O a).1 = false)
    (hs : ∀ i x a, l[i]? = some x → i < l.length → a + c x ≤ B → roundK P cfg T n d f r na (S i a) = some (.nrm, S (i + 1) (a + c x))) :
    ∀ a q, a + sumC c l ≤ B → l.length < q → lp P cfg T n d f r na q (S 0 a) = some (O (a + sumC c l)) := by
  have main : ∀ (suf pre : List β) (a q : Nat), l = pre ++ suf → a + sumC c suf ≤ B → suf.length < q → lp P cfg T n d f r na q (S pre.length a) = some (O (a + sumC c suf)) := by
    intro suf
    induction suf with
    | nil =>
      intro pre a q hl hb hq
      obtain ⟨q, rfl⟩ : ∃ q', q = q' + 1 := ⟨q - 1, by omega⟩
      have : pre.length = l.length := by rw [hl]; simp
      rw [this]
      exact lp_out (hO a) (hO' a)
    | cons x suf ih =>
      intro pre a q hl hb hq
      obtain ⟨q, rfl⟩ : ∃ q', q = q' + 1 := ⟨q - 1, by omega⟩
      have e : sumC c (x :: suf) = c x + sumC c suf := rfl
      rw [e] at hb ⊢
      have h1 := hs pre.length x a (by rw [hl]; simp) (by rw [hl]; simp) (by omega)
      have h2 := ih (pre ++ [x]) (a + c x) q (by rw [hl]; simp) (by omega) (by simp at hq; omega)
      simp only [List.length_append, List.length_cons, List.length_nil, Nat.zero_add] at h2
      rw [← Nat.add_assoc]
      exact lp_next h1 h2
  intro a q hb hq
  exact main l [] a q rfl hb hq

/-- Something built up, element by element. -/
theorem lp_fold {α : Type} (l : List β) (g : α → β → α) (S : Nat → α → St) (O : α → Ex × St) (Inv : Nat → α → Prop)
    (hO : ∀ a, Inv l.length a → roundK P cfg T n d f r na (S l.length a) = some (O a)) (hO' : ∀ a, isN (O a).1 = false)
    (hs : ∀ i x a, l[i]? = some x → i < l.length → Inv i a → roundK P cfg T n d f r na (S i a) = some (.nrm, S (i + 1) (g a x)) ∧ Inv (i + 1) (g a x)) :
    ∀ a q, Inv 0 a → l.length < q → lp P cfg T n d f r na q (S 0 a) = some (O (l.foldl g a)) := by
  have main : ∀ (suf pre : List β) (a : α) (q : Nat), l = pre ++ suf → Inv pre.length a → suf.length < q → lp P cfg T n d f r na q (S pre.length a) = some (O (suf.foldl g a)) := by
    intro suf
    induction suf with
    | nil =>
      intro pre a q hl hb hq
      obtain ⟨q, rfl⟩ : ∃ q', q = q' + 1 := ⟨q - 1, by omega⟩
      have : pre.length = l.length := by rw [hl]; simp
      rw [this] at hb ⊢
      exact lp_out (hO a hb) (hO' a)
    | cons x suf ih =>
      intro pre a q hl hb hq
      obtain ⟨q, rfl⟩ : ∃ q', q = q' + 1 := ⟨q - 1, by omega⟩
      obtain ⟨h1, h3⟩ := hs pre.length x a (by rw [hl]; simp) (by rw [hl]; simp) hb
      have h2 := ih (pre ++ [x]) (g a x) q (by rw [hl]; simp) (by simpa using h3) (by simp at hq; omega)
      simp only [List.length_append, List.length_cons, List.length_nil, Nat.zero_add] at h2
      exact lp_next h1 h2
  intro a q hb hq
  exact main l [] a q rfl hb hq

end

/-- The first place at which an element is such; -1 of none. -/
def idxOf {β : Type} (p : β → Bool) (l : List β) : Int := match l.findIdx? p with | some i => (i : Int) | none => -1

theorem idxOf_ge {β : Type} (p : β → Bool) (l : List β) : decide (idxOf p l ≥ 0) = l.any p := by
  unfold idxOf
  cases h : l.findIdx? p with
  | none =>
    have h2 : l.any p = false := by
      rw [List.findIdx?_eq_none_iff] at h
      rw [List.any_eq_false]
      intro x hx
      simp [h x hx]
    rw [h2]; rfl
  | some i =>
    have h2 : l.any p = true := by
      rw [List.any_eq_true]
      obtain ⟨hi, hp, _⟩ := List.findIdx?_eq_some_iff_getElem.1 h
      exact ⟨l[i], by simp, hp⟩
    rw [h2]; simp

theorem zip_get {α β : Type} {a : List α} {b : List β} {i : Nat} {p : α × β} (h : (a.zip b)[i]? = some p) : a[i]? = some p.1 ∧ b[i]? = some p.2 :=
  List.getElem?_zip_eq_some.1 h

theorem befores_lfold : ∀ (xs ys : List Term) (i : Nat),
    (match lfold (fun _ (p : Term × Term) (_ : Unit) => if p.1 = p.2 then (.inl () : Unit ⊕ Bool) else .inr (Term.before p.1 p.2)) i (xs.zip ys) () with | .inl _ => false | .inr b => b) = Term.befores xs ys
  | [], ys, i => by cases ys <;> rfl
  | x :: xs, [], i => by rfl
  | x :: xs, y :: ys, i => by
    simp only [List.zip_cons_cons, lfold, Term.befores]
    by_cases h : x = y
    · simp only [h, if_true, ne_eq, not_true, if_false]
      exact befores_lfold xs ys (i + 1)
    · simp [h]

theorem Term.before_eq (a b : Term) : Term.before a b = (if a.op ≠ b.op then decide (a.op < b.op) else if a.n ≠ b.n then decide (a.n < b.n) else if a.s ≠ b.s then Op.bytesLess a.s.toList b.s.toList
    else if a.kids.length ≠ b.kids.length then decide (a.kids.length < b.kids.length) else Term.befores a.kids b.kids) := by
  cases a; cases b; rw [Term.before]

/-- Right, as the reference asks it. -/
theorem formOk_ref (t : Term) : t.formOk = (decide (arity t.op = (t.kids.length : Int)) && (decide (t.op = 1) || decide (t.n = 0)) && (decide (t.op = 2) || decide (t.s = ⟨#[]⟩)) && decide (0 ≤ t.n) && decide (t.n ≤ 1000000) && decide (t.s.size ≤ 300) &&
    t.kids.all Term.formOk && (decide (t.op ≠ 5) || !Term.before (t.kids.getD 1 zeroT) (t.kids.getD 0 zeroT))) := by
  rw [Term.formOk_eq, Term.formOks_all]
  have hs : ∀ s : ByteArray, s = ⟨#[]⟩ → s.size ≤ 300 := by rintro s rfl; decide
  have e0 : ((t.kids.length : Int) = arity t.op) ↔ (arity t.op = (t.kids.length : Int)) := ⟨Eq.symm, Eq.symm⟩
  unfold formOk1
  rw [Bool.eq_iff_iff]
  by_cases h1 : t.op = 1
  · by_cases h2 : t.s = ⟨#[]⟩ <;> simp [h1, h2, e0, Bool.and_assoc, and_assoc, and_comm, and_left_comm, hs] <;> simp_all
  · by_cases h2 : t.op = 2
    · by_cases h3 : t.n = 0 <;> simp [h1, h2, h3, e0, and_assoc, and_comm, and_left_comm]
      exact fun _ _ => ⟨Eq.symm, Eq.symm⟩
    · by_cases h5 : t.op = 5
      · by_cases h3 : t.n = 0 <;> by_cases h4 : t.s = ⟨#[]⟩ <;> simp [h1, h2, h3, h4, h5, e0, hs, and_assoc, and_comm, and_left_comm]
        exact fun _ _ => ⟨Eq.symm, Eq.symm⟩
      · by_cases h3 : t.n = 0 <;> by_cases h4 : t.s = ⟨#[]⟩ <;> simp [h1, h2, h3, h4, h5, e0, hs, and_assoc, and_comm, and_left_comm]

theorem formOk_ref2 (t : Term) : t.formOk = (!(arity t.op != (t.kids.length : Int)) && (!(t.op != 1) || !(t.n != 0)) && (!(t.op != 2) || decide (t.s = ⟨#[]⟩)) && (decide (0 ≤ t.n) && decide (t.n ≤ 1000000)) && !decide ((t.s.size : Int) > 300) &&
    t.kids.all Term.formOk && (t.op != 5 || !Term.before (t.kids.getD 1 zeroT) (t.kids.getD 0 zeroT))) := by
  rw [formOk_ref]
  have e1 : decide (t.op = 1) = !(t.op != 1) := by rw [bne, Bool.not_not]; rfl
  have e2 : decide (t.op = 2) = !(t.op != 2) := by rw [bne, Bool.not_not]; rfl
  have e3 : decide (t.n = 0) = !(t.n != 0) := by rw [bne, Bool.not_not]; rfl
  have e4 : decide (arity t.op = (t.kids.length : Int)) = !(arity t.op != (t.kids.length : Int)) := by rw [bne, Bool.not_not]; rfl
  have e5 : decide (t.op ≠ 5) = (t.op != 5) := by
    by_cases h : t.op = 5 <;> simp [h]
  have e6 : decide (t.s.size ≤ 300) = !decide ((t.s.size : Int) > 300) := by
    by_cases h : t.s.size ≤ 300
    · simp [h]; omega
    · simp [h]; omega
  rw [e1, e2, e3, e4, e5, e6]
  simp only [Bool.and_assoc]

end Go.Vm
