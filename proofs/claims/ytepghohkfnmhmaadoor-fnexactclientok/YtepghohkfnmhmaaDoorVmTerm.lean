/-
  Terms: what is right, how they are set in order, what can be made of what is known.
-/
import Derived.Test.YtepghohkfnmhmaaDoorVmLib
namespace Go.Vm
set_option linter.unusedVariables false
set_option linter.unusedSimpArgs false

theorem sumC_le {β : Type} (c d : β → Nat) : ∀ {l : List β}, (∀ x ∈ l, c x ≤ d x) → sumC c l ≤ sumC d l
  | [], _ => Nat.le_refl _
  | x :: l, h => by
    have h1 := h x (List.mem_cons_self ..)
    have h2 := sumC_le c d (l := l) fun y hy => h y (List.mem_cons_of_mem _ hy)
    simp only [sumC]
    omega

mutual
/-- How many terms a term is. -/
def Term.size : Term → Nat
  | ⟨_, _, _, k⟩ => 1 + Term.sizes k
def Term.sizes : List Term → Nat
  | [] => 0
  | t :: l => Term.size t + Term.sizes l
end

theorem Term.size_eq (t : Term) : t.size = 1 + Term.sizes t.kids := by cases t; rw [Term.size]

theorem Term.sizes_sum : ∀ l : List Term, Term.sizes l = sumC Term.size l
  | [] => rfl
  | t :: l => by simp only [Term.sizes, sumC, Term.sizes_sum l]

theorem Term.len_sizes : ∀ l : List Term, l.length ≤ Term.sizes l
  | [] => Nat.le_refl _
  | t :: l => by
    have h1 := Term.len_sizes l
    have h2 : 1 ≤ t.size := by rw [Term.size_eq]; omega
    simp only [Term.sizes, List.length_cons]
    omega

theorem Term.sizes_mem {x : Term} {l : List Term} (h : x ∈ l) : x.size ≤ Term.sizes l := by
  rw [Term.sizes_sum]; exact sumC_mem _ h

theorem Term.size_le (t : Term) : t.size ≤ t.cost + 1 := by
  revert t
  refine Term.ind ?_
  intro t ih
  rw [Term.size_eq, Term.cost_eq]
  have : ∀ l : List Term, (∀ x ∈ l, x.size ≤ x.cost + 1) → Term.sizes l ≤ Term.costs l := by
    intro l
    induction l with
    | nil => intro _; simp [Term.sizes, Term.costs]
    | cons x l ihl =>
      intro h
      have h1 := h x (List.mem_cons_self ..)
      have h2 := ihl fun y hy => h y (List.mem_cons_of_mem _ hy)
      simp only [Term.sizes, Term.costs]
      omega
  have := this t.kids ih
  omega

/-- How many kids a term of an op has; -1 of none. -/
def arity (op : Int) : Int :=
  if op = 1 ∨ op = 2 then 0 else if op = 4 ∨ op = 6 then 1 else if op = 3 ∨ op = 5 ∨ op = 7 ∨ op = 8 then 2 else -1

mutual
/-- Which of two terms comes first. -/
def Term.before : Term → Term → Bool
  | ⟨o, n, s, k⟩, ⟨o', n', s', k'⟩ =>
    if o ≠ o' then decide (o < o') else if n ≠ n' then decide (n < n') else if s ≠ s' then Op.bytesLess s.toList s'.toList
    else if k.length ≠ k'.length then decide (k.length < k'.length) else Term.befores k k'
def Term.befores : List Term → List Term → Bool
  | x :: xs, y :: ys => if x ≠ y then Term.before x y else Term.befores xs ys
  | _, _ => false
end

/-- Right but for size. -/
def formOk1 (t : Term) : Bool :=
  decide ((t.kids.length : Int) = arity t.op) &&
    (if t.op = 1 then decide (0 ≤ t.n) && decide (t.n ≤ 1000000) && decide (t.s = ⟨#[]⟩)
    else if t.op = 2 then decide (t.n = 0) && decide (t.s.size ≤ 300)
    else if t.op = 5 then decide (t.n = 0) && decide (t.s = ⟨#[]⟩) && !Term.before (t.kids.getD 1 zeroT) (t.kids.getD 0 zeroT)
    else decide (t.n = 0) && decide (t.s = ⟨#[]⟩))

mutual
def Term.formOk : Term → Bool
  | ⟨o, n, s, k⟩ => formOk1 ⟨o, n, s, k⟩ && Term.formOks k
def Term.formOks : List Term → Bool
  | [] => true
  | t :: l => Term.formOk t && Term.formOks l
end

theorem Term.formOk_eq (t : Term) : t.formOk = (formOk1 t && Term.formOks t.kids) := by cases t; rw [Term.formOk]

theorem Term.formOks_all : ∀ l : List Term, Term.formOks l = l.all Term.formOk
  | [] => rfl
  | t :: l => by simp only [Term.formOks, List.all_cons, Term.formOks_all l]

def Term.ok (t : Term) : Bool := decide (t.size ≤ 200) && t.formOk

theorem Term.ok_kids {t x : Term} (h : t.ok = true) (hx : x ∈ t.kids) : x.ok = true := by
  unfold Term.ok at h ⊢
  rw [Term.formOk_eq, Term.size_eq, Term.formOks_all] at h
  simp only [Bool.and_eq_true, decide_eq_true_eq, List.all_eq_true] at h ⊢
  have := Term.sizes_mem hx
  exact ⟨by omega, h.2.2 x hx⟩

theorem Term.form_len {t : Term} (h : t.formOk = true) : (t.kids.length : Int) = arity t.op := by
  rw [Term.formOk_eq, formOk1] at h
  simp only [Bool.and_eq_true, decide_eq_true_eq] at h
  exact h.1.1

/-- The texts of a right term are short. -/
theorem Term.form_s {t : Term} (h : t.formOk = true) : t.s.size ≤ 300 := by
  rw [Term.formOk_eq, formOk1] at h
  simp only [Bool.and_eq_true, decide_eq_true_eq] at h
  obtain ⟨⟨_, h2⟩, _⟩ := h
  split at h2
  · simp only [Bool.and_eq_true, decide_eq_true_eq] at h2; rw [h2.2]; decide
  · split at h2
    · simp only [Bool.and_eq_true, decide_eq_true_eq] at h2; exact h2.2
    · split at h2
      · simp only [Bool.and_eq_true, decide_eq_true_eq] at h2; rw [h2.1.2]; decide
      · simp only [Bool.and_eq_true, decide_eq_true_eq] at h2; rw [h2.2]; decide

theorem Term.cost_form : ∀ t : Term, t.formOk = true → t.cost + 1 ≤ 301 * t.size := by
  refine Term.ind ?_
  intro t ih h
  have hs := Term.form_s h
  rw [Term.cost_eq, Term.size_eq]
  have hk : ∀ x ∈ t.kids, x.formOk = true := by
    rw [Term.formOk_eq, Term.formOks_all] at h
    simp only [Bool.and_eq_true, List.all_eq_true] at h
    exact h.2
  have : ∀ l : List Term, (∀ x ∈ l, x.cost + 1 ≤ 301 * x.size) → Term.costs l ≤ 301 * Term.sizes l := by
    intro l
    induction l with
    | nil => intro _; simp [Term.sizes, Term.costs]
    | cons x l ihl =>
      intro h
      have h1 := h x (List.mem_cons_self ..)
      have h2 := ihl fun y hy => h y (List.mem_cons_of_mem _ hy)
      simp only [Term.sizes, Term.costs]
      omega
  have := this t.kids fun x hx => ih x hx (hk x hx)
  omega

theorem Term.cost_ok {t : Term} (h : t.ok = true) : t.cost ≤ 60199 := by
  unfold Term.ok at h
  simp only [Bool.and_eq_true, decide_eq_true_eq] at h
  have := Term.cost_form t h.2
  omega

/-! ### Same, in order -/

theorem lfold_find {β γ : Type} (p : β → Bool) (c : γ) : ∀ (l : List β) (i : Nat), lfold (fun _ x (_ : Unit) => if p x = true then (.inr c : Unit ⊕ γ) else .inl ()) i l () = if l.any p = true then .inr c else .inl ()
  | [], i => rfl
  | x :: l, i => by
    simp only [lfold]
    by_cases h : p x = true
    · simp [h]
    · simp only [h, if_false, lfold_find p c l (i + 1), List.any_cons]; simp

/-! ### What can be made -/

def pubT (t : Term) : Term := ⟨4, 0, ⟨#[]⟩, [t]⟩

mutual
/-- What can be made of parts, of a term that is right. -/
def Term.made (ps : List Term) : Term → Bool
  | ⟨o, n, s, k⟩ =>
    if o = 2 then true else if decide ((⟨o, n, s, k⟩ : Term) ∈ ps) = true then true else if o = 1 then false
    else if o = 5 then Term.mades5 ps k
    else Term.mades ps k
/-- All of them. -/
def Term.mades (ps : List Term) : List Term → Bool
  | [] => true
  | t :: l => Term.made ps t && Term.mades ps l
/-- One of two, and the other's open half; or the other way. -/
def Term.mades5 (ps : List Term) : List Term → Bool
  | [a, b] => Term.made ps a && (decide (pubT b ∈ ps) || Term.made ps b) || Term.made ps b && (decide (pubT a ∈ ps) || Term.made ps a)
  | _ => false
end

end Go.Vm
