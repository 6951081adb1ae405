/-
  Worlds: how much they hold, what fits.
-/
import Derived.Test.YtepghohkfnmhmaaVmLib
namespace Go.Vm
set_option linter.unusedVariables false
set_option linter.unusedSimpArgs false

def lsum {β : Type} (c : β → Nat) (l : List β) : Nat := l.length + sumC c l

def WorldD.cost (w : WorldD) : Nat :=
  Term.costs w.known + (lsum Policy.cost w.cache + (lsum Host.cost w.hosts + (lsum Letter.cost w.letters + (w.book.size + (lsum CallD.cost w.calls + (lsum Talk.cost w.talks + w.told.length))))))

structure WorldD.Bd (w : WorldD) : Prop where
  known : w.known.length ≤ 9223372036854775807
  knownB : ∀ x ∈ w.known, x.Bd
  cache : w.cache.length ≤ 9223372036854775807
  cacheB : ∀ x ∈ w.cache, x.Bd
  hosts : w.hosts.length ≤ 9223372036854775807
  hostsB : ∀ x ∈ w.hosts, x.name.size ≤ 9223372036854775807
  letters : w.letters.length ≤ 9223372036854775807
  lettersB : ∀ x ∈ w.letters, x.domain.size ≤ 9223372036854775807
  book : w.book.size ≤ 9223372036854775807
  calls : w.calls.length ≤ 9223372036854775807
  callsB : ∀ x ∈ w.calls, x.client.share.Bd ∧ x.client.host.size ≤ maxLen
  talks : w.talks.length ≤ 9223372036854775807
  talksB : ∀ x ∈ w.talks, x.server.Bd
  told : w.told.length ≤ 9223372036854775807

theorem WorldD.Bd.of {w : WorldD} (h : ∃ n, ∀ f ∈ WorldD.cells w, BdF n f) : w.Bd := by
  obtain ⟨k1, n1, k2⟩ := bd_sl (bd_of h (f := .sl false .term w.known) (by simp [WorldD.cells]))
  obtain ⟨c1, n2, c2⟩ := bd_sl (bd_of h (f := .sl false .policy w.cache) (by simp [WorldD.cells]))
  obtain ⟨h1, n3, h2⟩ := bd_sl (bd_of h (f := .sl false .host w.hosts) (by simp [WorldD.cells]))
  obtain ⟨l1, n4, l2⟩ := bd_sl (bd_of h (f := .sl false .letter w.letters) (by simp [WorldD.cells]))
  have b1 := bd_str (bd_of h (f := .str w.book) (by simp [WorldD.cells]))
  obtain ⟨a1, n5, a2⟩ := bd_sl (bd_of h (f := .sl false .call w.calls) (by simp [WorldD.cells]))
  obtain ⟨t1, n6, t2⟩ := bd_sl (bd_of h (f := .sl false .talk w.talks) (by simp [WorldD.cells]))
  obtain ⟨o1, n7, o2⟩ := bd_sl (bd_of h (f := .sl false .int w.told) (by simp [WorldD.cells]))
  refine ⟨k1, fun x hx => Term.Bd.of (n := n1) (k2 x hx), c1, fun x hx => Policy.Bd.of ⟨n2, c2 x hx⟩, h1, fun x hx => bd_str ⟨n3, h2 x hx (.str x.name) (by simp [cellsOf, Host.cells])⟩,
    l1, fun x hx => bd_str ⟨n4, l2 x hx (.str x.domain) (by simp [cellsOf, Letter.cells])⟩, b1, a1, fun x hx => Client.Bd_share (n := n5) (fun f hf => a2 x hx f ?_), t1, fun x hx => Server.Bd.of ⟨n6, fun f hf => t2 x hx f ?_⟩, o1⟩
  · simp only [Client.cells, List.mem_cons, List.not_mem_nil, or_false] at hf
    simp only [cellsOf, CallD.cells, List.mem_cons, List.not_mem_nil, or_false]
    rcases hf with h | h | h | h | h | h | h | h | h | h | h | h | h <;> simp [h]
  · simp only [Server.cells, List.mem_cons, List.not_mem_nil, or_false] at hf
    simp only [cellsOf, Talk.cells, List.mem_cons, List.not_mem_nil, or_false]
    rcases hf with h | h | h | h | h | h | h | h | h | h | h | h | h | h | h | h <;> simp [h]

theorem WorldD.eta (x : WorldD) : (⟨x.time, x.fresh, x.known, x.cache, x.hosts, x.letters, x.book, x.sure, x.calls, x.talks, x.told⟩ : WorldD) = x := rfl

/-- Which host has a name: its place, or -1. -/
def hostIdx (l : List Host) (name : ByteArray) : Int := match l.findIdx? (fun h => decide (h.name = name)) with | some i => (i : Int) | none => -1

theorem lfold_idx {β γ : Type} (p : β → Bool) (c : Nat → γ) : ∀ (l : List β) (i : Nat), lfold (fun i x (_ : Unit) => if p x = true then (.inr (c i) : Unit ⊕ γ) else .inl ()) i l () = (match l.findIdx? p with | some j => .inr (c (i + j)) | none => .inl ())
  | [], i => rfl
  | x :: l, i => by
    rw [List.findIdx?_cons]
    simp only [lfold]
    by_cases h : p x = true
    · simp [h]
    · simp only [h, if_false, lfold_idx p c l (i + 1)]
      cases l.findIdx? p with
      | none => simp
      | some j => simp [Nat.add_assoc, Nat.add_comm 1]

end Go.Vm
