/-
  What is written of notes, letters, servers, policies.
-/
import Derived.Test.YtepghohkfnmhmaaDoorVmDig
namespace Go.Vm
open Go.Proofs
set_option linter.unusedVariables false
set_option linter.unusedSimpArgs false

theorem ba_assoc (a b c : ByteArray) : a ++ b ++ c = a ++ (b ++ c) := by
  refine ByteArray.ext ?_
  rw [ByteArray.data_append, ByteArray.data_append, ByteArray.data_append, ByteArray.data_append, Array.append_assoc]

theorem ba_nil (a : ByteArray) : a ++ ⟨#[]⟩ = a := by
  refine ByteArray.ext ?_
  rw [ByteArray.data_append]
  simp

theorem noteOk_spec {n : Note} (h : noteOk n = true) : 0 ≤ n.who ∧ n.who ≤ 29 ∧
    ((n.kind = 1 ∧ n.domain.size ≤ 10 ∧ 0 ≤ n.body ∧ n.body ≤ 1000000 ∧ n.time = 0) ∨ (n.kind = 2 ∧ 0 ≤ n.time ∧ n.time ≤ 100000) ∨ n.kind = 3 ∨ n.kind = 4) := by
  unfold noteOk isAtom isTime domOk at h
  simp only [Bool.and_eq_true, decide_eq_true_eq] at h
  obtain ⟨⟨h1, h2⟩, h3⟩ := h
  refine ⟨h1, h2, ?_⟩
  split at h3
  · rename_i hk
    simp only [Bool.and_eq_true, decide_eq_true_eq] at h3
    exact .inl ⟨hk, h3.1.1.2.2, h3.1.2.1, h3.1.2.2, h3.2⟩
  · split at h3
    · rename_i hk
      simp only [Bool.and_eq_true, decide_eq_true_eq] at h3
      exact .inr (.inl ⟨hk, h3.2.1, h3.2.2⟩)
    · simp only [Bool.and_eq_true, decide_eq_true_eq] at h3
      rcases h3.1.1.1 with h | h
      · exact .inr (.inr (.inl h))
      · exact .inr (.inr (.inr h))

/-- take, try, gone, back. -/
def noteWord (k : Int) : ByteArray := if k = 1 then ⟨#[116, 97, 107, 101]⟩ else if k = 2 then ⟨#[116, 114, 121]⟩ else if k = 3 then ⟨#[103, 111, 110, 101]⟩ else ⟨#[98, 97, 99, 107]⟩

theorem noteWord_size (k : Int) : (noteWord k).size ≤ 4 := by
  unfold noteWord
  split
  · decide
  · split
    · decide
    · split <;> decide

def noteText (n : Note) : ByteArray :=
  if noteOk n = true then
    (if n.kind = 1 then noteWord n.kind ++ ⟨#[32]⟩ ++ itoaB n.who ++ ⟨#[32]⟩ ++ n.domain ++ ⟨#[32]⟩ ++ itoaB n.body ++ ⟨#[10]⟩
    else if n.kind = 2 then noteWord n.kind ++ ⟨#[32]⟩ ++ itoaB n.who ++ ⟨#[32]⟩ ++ itoaB n.time ++ ⟨#[10]⟩
    else noteWord n.kind ++ ⟨#[32]⟩ ++ itoaB n.who ++ ⟨#[10]⟩)
  else ⟨#[]⟩

theorem noteText_size (n : Note) : (noteText n).size ≤ 80 := by
  unfold noteText
  split
  · rename_i h
    obtain ⟨w0, w1, hk⟩ := noteOk_spec h
    have a0 := itoaB_size (n := n.who) (by omega) (by omega)
    have a1 := noteWord_size n.kind
    rcases hk with ⟨k, hd, b0, b1, t⟩ | ⟨k, t0, t1⟩ | k | k
    · have a2 := itoaB_size (n := n.body) (by omega) (by omega)
      rw [if_pos k]
      simp only [ByteArray.size_append, ba_size, List.size_toArray, List.length_cons, List.length_nil]
      omega
    · have a2 := itoaB_size (n := n.time) (by omega) (by omega)
      rw [if_neg (by omega), if_pos k]
      simp only [ByteArray.size_append, ba_size, List.size_toArray, List.length_cons, List.length_nil]
      omega
    · rw [if_neg (by omega), if_neg (by omega)]
      simp only [ByteArray.size_append, ba_size, List.size_toArray, List.length_cons, List.length_nil]
      omega
    · rw [if_neg (by omega), if_neg (by omega)]
      simp only [ByteArray.size_append, ba_size, List.size_toArray, List.length_cons, List.length_nil]
      omega
  · simp [ba_size]

def letterNames : List ByteArray := [⟨#[119, 97, 105, 116, 115]⟩, ⟨#[103, 111, 110, 101]⟩, ⟨#[98, 97, 99, 107]⟩]

def letterText (l : Letter) : ByteArray := l.domain ++ ⟨#[32]⟩ ++ nameOf l.state letterNames ++ ⟨#[32]⟩ ++ itoaB l.tries ++ ⟨#[32]⟩ ++ itoaB l.next

theorem letterText_size (l : Letter) (h0 : -9223372036854775808 ≤ l.tries) (h1 : l.tries ≤ 9223372036854775807) (h2 : -9223372036854775808 ≤ l.next) (h3 : l.next ≤ 9223372036854775807) : (letterText l).size ≤ l.domain.size + 60 := by
  have a0 := itoaB_size h0 h1
  have a1 := itoaB_size h2 h3
  have a2 : (nameOf l.state letterNames).size ≤ 5 := nameOf_size (by omega) (by decide)
  unfold letterText
  simp only [ByteArray.size_append, ba_size, List.size_toArray, List.length_cons, List.length_nil]
  omega

theorem join4 (a b c d : ByteArray) : joinB [a, b, c, d] ⟨#[32]⟩ = a ++ ⟨#[32]⟩ ++ b ++ ⟨#[32]⟩ ++ c ++ ⟨#[32]⟩ ++ d := by
  refine ByteArray.ext ?_
  simp only [ByteArray.data_append, joinB]
  apply Array.toList_inj.1
  simp [Lib.join, List.intercalate]

def serverNames : List ByteArray := [⟨#[108, 105, 110, 101]⟩, ⟨#[104, 101, 108, 108, 111]⟩, ⟨#[100, 111, 110, 101]⟩, ⟨#[98, 111, 100, 121]⟩, ⟨#[102, 97, 105, 108]⟩]

def serverText (s : Server) : ByteArray :=
  let a := nameOf s.step serverNames ++ ⟨#[32]⟩ ++ s.host ++ ⟨#[32]⟩ ++ itoaB s.got.length
  bif s.tls then a ++ ⟨#[32, 115, 101, 97, 108, 101, 100]⟩ else a

def modeNames : List ByteArray := [⟨#[110, 111, 110, 101]⟩, ⟨#[116, 101, 115, 116]⟩, ⟨#[104, 111, 108, 100]⟩]

def modeName (m : Int) : ByteArray := if 0 ≤ m ∧ m ≤ 2 then modeNames.getD m.toNat ⟨#[]⟩ else ⟨#[63]⟩

theorem modeName_size (m : Int) : (modeName m).size ≤ 4 := by
  unfold modeName
  split
  · rename_i h
    have : m = 0 ∨ m = 1 ∨ m = 2 := by omega
    rcases this with rfl | rfl | rfl <;> decide
  · decide

/-- Words, each with a blank ahead of it. -/
def spaced : List ByteArray → ByteArray → ByteArray
  | [], acc => acc
  | x :: r, acc => spaced r (acc ++ ⟨#[32]⟩ ++ x)

def sizes : List ByteArray → Nat
  | [] => 0
  | x :: r => 1 + x.size + sizes r

theorem spaced_size : ∀ (l : List ByteArray) (acc : ByteArray), (spaced l acc).size = acc.size + sizes l
  | [], acc => by simp [spaced, sizes]
  | x :: r, acc => by
    rw [spaced, spaced_size r]
    simp only [ByteArray.size_append, ba_size, List.size_toArray, List.length_cons, List.length_nil, sizes]
    omega

theorem lfold_spaced {γ : Type} : ∀ (l : List ByteArray) (i : Nat) (acc : ByteArray), lfold (fun _ x (a : ByteArray) => (.inl (a ++ ⟨#[32]⟩ ++ x) : ByteArray ⊕ γ)) i l acc = .inl (spaced l acc)
  | [], i, acc => rfl
  | x :: r, i, acc => by
    simp only [lfold, spaced]
    exact lfold_spaced r (i + 1) _

theorem sizes_drop {l : List ByteArray} {i : Nat} {x : ByteArray} (h : l[i]? = some x) : sizes (l.drop i) = 1 + x.size + sizes (l.drop (i + 1)) := by
  have hi : i < l.length := by
    rcases Nat.lt_or_ge i l.length with h' | h'
    · exact h'
    · rw [List.getElem?_eq_none h'] at h; cases h
  rw [List.drop_eq_getElem_cons hi]
  rw [List.getElem?_eq_getElem hi] at h
  simp at h
  rw [h]
  rfl

theorem sizes_eq : ∀ l : List ByteArray, sizes l = l.length + sumC ByteArray.size l
  | [] => rfl
  | x :: l => by simp only [sizes, sizes_eq l, sumC, List.length_cons]; omega

def policyShown (p : Policy) : ByteArray := spaced p.mx (p.domain ++ ⟨#[32]⟩ ++ modeName p.mode) ++ ⟨#[32]⟩ ++ itoaB p.til

end Go.Vm
