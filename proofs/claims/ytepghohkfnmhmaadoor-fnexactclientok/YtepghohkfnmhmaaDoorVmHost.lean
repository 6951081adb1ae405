/-
  Hosts: texts cut at a byte, labels, names of hosts.
-/
import Derived.Test.YtepghohkfnmhmaaDoorVmText
import Derived.Lib.SplitLaws
import Derived.Lib.IndexBytes
namespace Go.Vm
open Go.Proofs
set_option linter.unusedVariables false
set_option linter.unusedSimpArgs false

/-- A text cut at each byte c. -/
def splitL (c : UInt8) : List UInt8 → List (List UInt8)
  | [] => [[]]
  | b :: l => if b = c then [] :: splitL c l else match splitL c l with
    | x :: r => (b :: x) :: r
    | [] => [[b]]

theorem splitL_ne (c : UInt8) : ∀ l, splitL c l ≠ []
  | [] => by simp [splitL]
  | b :: l => by
    unfold splitL
    split
    · simp
    · split <;> simp

theorem splitL_cons (c : UInt8) (l : List UInt8) : ∃ x r, splitL c l = x :: r := by
  cases h : splitL c l with
  | nil => exact absurd h (splitL_ne c l)
  | cons x r => exact ⟨x, r, rfl⟩

theorem splitK_one (c : UInt8) : ∀ s : List UInt8, Lib.splitK [c] 0 (Lib.count s [c]) s = splitL c s
  | [] => by
    rw [Lib.count_miss (by simp [Lib.index])]
    rfl
  | b :: l => by
    have ih := splitK_one c l
    by_cases h : b = c
    · subst h
      have hix : Lib.index (b :: l) [b] = 0 := by rw [Lib.index]; simp [List.isPrefixOf]
      rw [Lib.count_cons_eq, Nat.add_comm, Lib.splitK, hix]
      simp only [splitL, if_true]
      simp [ih]
    · have hp : ([c] : List UInt8).isPrefixOf (b :: l) = false := by simp [List.isPrefixOf, Ne.symm h]
      have hix : Lib.index (b :: l) [c] = if Lib.index l [c] == -1 then -1 else Lib.index l [c] + 1 := by rw [Lib.index, hp]; simp
      rw [Lib.count_cons_ne b c l h]
      simp only [splitL, h, if_false]
      by_cases hm : Lib.index l [c] = -1
      · rw [Lib.count_miss hm] at ih ⊢
        rw [Lib.splitK] at ih
        rw [Lib.splitK, ← ih]
      · have hge := Lib.index_ge l [c]
        obtain ⟨j, hj⟩ : ∃ j : Nat, Lib.index l [c] = j := ⟨(Lib.index l [c]).toNat, by omega⟩
        have hix' : Lib.index (b :: l) [c] = ((j + 1 : Nat) : Int) := by rw [hix, if_neg (fun e => hm (beq_iff_eq.1 e)), hj]; omega
        obtain ⟨k, hk⟩ : ∃ k, Lib.count l [c] = k + 1 := ⟨_, by rw [Lib.count_hit (by simp) hj, Nat.add_comm]⟩
        rw [hk] at ih ⊢
        have n1 : ¬ ((j : Int) == -1) = true := by simp <;> omega
        have n2 : ¬ (((j + 1 : Nat) : Int) == -1) = true := by simp <;> omega
        rw [Lib.splitK, hj, if_neg n1] at ih
        rw [Lib.splitK, hix', if_neg n2, ← ih]
        simp [show ((j : Int) + 1).toNat = j + 1 by omega]

/-- The pieces of a text between points. -/
def labels (s : ByteArray) : List ByteArray := (splitL 46 s.data.toList).map fun l => ⟨l.toArray⟩

theorem ba_eta (s : ByteArray) : (⟨s.data.toList.toArray⟩ : ByteArray) = s := by cases s; simp

theorem splitB_one (c : UInt8) (s : ByteArray) : Lib.splitB ⟨#[c]⟩ 0 (Lib.countB s ⟨#[c]⟩) s = (splitL c s.data.toList).map fun l => ⟨l.toArray⟩ := by
  have h := Lib.splitB_data ⟨#[c]⟩ 0 (Lib.countB s ⟨#[c]⟩) s
  have h2 : (Lib.splitB ⟨#[c]⟩ 0 (Lib.countB s ⟨#[c]⟩) s).map (·.data.toList) = splitL c s.data.toList := by
    rw [h]
    exact splitK_one c s.data.toList
  rw [← h2, List.map_map]
  have : ((fun l : List UInt8 => (⟨l.toArray⟩ : ByteArray)) ∘ fun x : ByteArray => x.data.toList) = id := by
    funext x; exact ba_eta x
  rw [this, List.map_id]

/-- One byte of a label. -/
def labByte (b : UInt8) (edge : Bool) : Bool := (decide (97 ≤ b.toNat) && decide (b.toNat ≤ 122)) || (decide (48 ≤ b.toNat) && decide (b.toNat ≤ 57)) || (decide (b.toNat = 45) && !edge)

def labFrom (n : Nat) : Nat → List UInt8 → Bool
  | _, [] => true
  | i, b :: l => labByte b (decide (i = 0) || decide (i + 1 = n)) && labFrom n (i + 1) l

def labelOk (s : ByteArray) : Bool := labFrom s.size 0 s.data.toList && decide (1 ≤ s.size) && decide (s.size ≤ 10)

def labelsOk (s : ByteArray) (least : Int) : Bool := (labels s).all labelOk && decide (least ≤ (labels s).length) && decide (s.size ≤ 60)

def hostOk (s : ByteArray) : Bool := labelsOk s 2

theorem hostOk_size {s : ByteArray} (h : hostOk s = true) : s.size ≤ 60 := by
  unfold hostOk labelsOk at h
  simp only [Bool.and_eq_true, decide_eq_true_eq] at h
  exact h.2

/-! ### Cut by hand, byte by byte -/

/-- The pieces so far, the piece that is open. -/
def scanStep (_ : Nat) (x : Option UInt8) (a : List ByteArray × List UInt8) : (List ByteArray × List UInt8) ⊕ Unit := match x with
  | some b => if b = 46 then .inl (a.1 ++ [⟨a.2.toArray⟩], []) else .inl (a.1, a.2 ++ [b])
  | none => .inl (a.1 ++ [⟨a.2.toArray⟩], [])

theorem scan_all : ∀ (l : List UInt8) (i : Nat) (a : List ByteArray × List UInt8), lfold scanStep i (l.map some ++ [none]) a =
    .inl (a.1 ++ (match splitL 46 l with | x :: r => (⟨(a.2 ++ x).toArray⟩ : ByteArray) :: r.map fun l => ⟨l.toArray⟩ | [] => []), [])
  | [], i, a => by simp [lfold, scanStep, splitL]
  | b :: l, i, a => by
    simp only [List.map_cons, List.cons_append, lfold, scanStep]
    obtain ⟨x, r, hx⟩ := splitL_cons 46 l
    by_cases h : b = 46
    · simp only [h, if_true]
      rw [scan_all l (i + 1)]
      simp [splitL, hx]
    · simp only [h, if_false]
      rw [scan_all l (i + 1)]
      simp [splitL, h, hx]

theorem scan_labels (s : ByteArray) : lfold scanStep 0 (s.data.toList.map some ++ [none]) ([], []) = .inl (labels s, []) := by
  rw [scan_all]
  obtain ⟨x, r, hx⟩ := splitL_cons 46 s.data.toList
  simp [labels, hx]

theorem bnds_nat {n f i : Nat} (h1 : f ≤ i) (h2 : i ≤ n) : bnds n (some (f : Int)) (some (i : Int)) = some (f, i) := by
  unfold bnds
  simp only [Option.getD_some, Int.toNat_natCast]
  rw [if_pos (by omega)]

theorem extract_list {s : ByteArray} {f i : Nat} {l : List UInt8} (hf : f ≤ i) (h : l = (s.data.toList.take i).drop f) : s.extract f i = ⟨l.toArray⟩ := by
  subst h
  have h1 : (s.extract f i).data.toList = (s.data.toList.take i).drop f := by
    rw [ByteArray.data_extract, Array.toList_extract]
    rw [List.extract_eq_take_drop, List.take_drop]
    congr 2
    omega
  rw [← h1]

/-- What holds of a scan: the open piece is what lies behind. -/
def ScanInv (l : List UInt8) (i : Nat) (a : List ByteArray × List UInt8) : Prop := a.2.length ≤ i ∧ a.1.length ≤ i ∧ a.2 = (l.take i).drop (i - a.2.length)

theorem ScanInv.cut {l : List UInt8} {i : Nat} {a : List ByteArray × List UInt8} (h : ScanInv l i a) (x : ByteArray) : ScanInv l (i + 1) (a.1 ++ [x], []) := by
  obtain ⟨h1, h2, h3⟩ := h
  refine ⟨by simp, by simp; omega, ?_⟩
  simp

theorem ScanInv.go {l : List UInt8} {i : Nat} {a : List ByteArray × List UInt8} {b : UInt8} (h : ScanInv l i a) (hb : l[i]? = some b) : ScanInv l (i + 1) (a.1, a.2 ++ [b]) := by
  obtain ⟨h1, h2, h3⟩ := h
  have hi : i < l.length := by
    rcases Nat.lt_or_ge i l.length with h' | h'
    · exact h'
    · rw [List.getElem?_eq_none h'] at hb; cases hb
  refine ⟨by simp; omega, by simp; omega, ?_⟩
  have e : i + 1 - (a.2 ++ [b]).length = i - a.2.length := by simp
  simp only [e]
  rw [List.take_add_one, hb, List.drop_append_of_le_length (by rw [List.length_take]; omega), ← h3]
  simp

theorem lab_fold (n : Nat) : ∀ (l : List UInt8) (i : Nat), lfold (fun i b (_ : Unit) => if labByte b (decide (i = 0) || decide (i + 1 = n)) = true then (.inl () : Unit ⊕ Unit) else .inr ()) i l () = if labFrom n i l = true then .inl () else .inr ()
  | [], i => rfl
  | b :: l, i => by
    simp only [lfold, labFrom]
    by_cases h : labByte b (decide (i = 0) || decide (i + 1 = n)) = true
    · simp only [h, if_true, lab_fold n l (i + 1), Bool.true_and]
    · simp only [h, if_false, Bool.false_and]; simp

theorem labels_length (s : ByteArray) : (labels s).length ≤ s.size + 1 := by
  have : ∀ l : List UInt8, (splitL 46 l).length ≤ l.length + 1 := by
    intro l
    induction l with
    | nil => simp [splitL]
    | cons b l ih =>
      unfold splitL
      split
      · simp; omega
      · split
        · rename_i h; rw [h] at ih; simp at ih ⊢; omega
        · simp
  unfold labels
  rw [List.length_map]
  have h := this s.data.toList
  rw [bytes_len] at h
  exact h

theorem splitL_len (c : UInt8) : ∀ l : List UInt8, ∀ x ∈ splitL c l, x.length ≤ l.length
  | [], x, h => by simp [splitL] at h; subst h; simp
  | b :: l, x, h => by
    have ih := splitL_len c l
    unfold splitL at h
    split at h
    · cases h with
      | head => simp
      | tail _ h => have := ih x h; simp; omega
    · split at h
      · rename_i y r hy
        cases h with
        | head => have := ih y (by rw [hy]; exact List.mem_cons_self ..); simp; omega
        | tail _ h => have := ih x (by rw [hy]; exact List.mem_cons_of_mem _ h); simp; omega
      · simp at h; subst h; simp

theorem labels_size {s x : ByteArray} (h : x ∈ labels s) : x.size ≤ s.size := by
  unfold labels at h
  obtain ⟨l, hl, rfl⟩ := List.mem_map.1 h
  have h1 := splitL_len 46 _ l hl
  rw [bytes_len] at h1
  rw [ba_size]
  simpa using h1

end Go.Vm
