/-
  The machine's operations against the model's: rows.
-/
import Derived.Test.YtepghohkfnmhmaaDoorVmOpsC
import Derived.Deep.Upon
namespace Go.Vm
variable {G : Gl}
set_option linter.unusedVariables false
set_option linter.unusedSimpArgs false

/-- A row's cells, one behind the other. -/
def flat (k : Kind) (l : List (El k)) : List F := l.flatMap (cellsOf k)

theorem flat_length (k : Kind) : ∀ (l : List (El k)), (flat k l).length = l.length * szOf k
  | [] => by simp [flat]
  | x :: l => by
    have := flat_length k l
    simp only [flat] at this
    simp [flat, this, cells_length, Nat.add_mul]
    omega

theorem flat_append (k : Kind) (l r : List (El k)) : flat k (l ++ r) = flat k l ++ flat k r := by simp [flat]

theorem flat_get (k : Kind) : ∀ (l : List (El k)) (i j : Nat) (x : El k) (f : F), l[i]? = some x → (cellsOf k x)[j]? = some f → (flat k l)[i * szOf k + j]? = some f
  | [], i, j, x, f, hx, _ => by simp at hx
  | y :: l, 0, j, x, f, hx, hf => by
    simp at hx; subst hx
    have hj := (List.getElem?_eq_some_iff.1 hf).1
    simp only [flat, List.flatMap_cons, Nat.zero_mul, Nat.zero_add]
    rw [List.getElem?_append_left hj]
    exact hf
  | y :: l, i + 1, j, x, f, hx, hf => by
    simp only [flat, List.flatMap_cons]
    rw [List.getElem?_append_right (by rw [cells_length, Nat.add_mul]; omega), cells_length, Nat.add_mul]
    rw [show i * szOf k + 1 * szOf k + j - szOf k = i * szOf k + j by omega]
    exact flat_get k l i j x f (by simpa using hx) hf

theorem flat_split (k : Kind) : ∀ (l : List (El k)) (p : Nat) (f : F), (flat k l)[p]? = some f → ∃ i j x, p = i * szOf k + j ∧ l[i]? = some x ∧ (cellsOf k x)[j]? = some f
  | [], p, f, hp => by simp [flat] at hp
  | y :: l, p, f, hp => by
    simp only [flat, List.flatMap_cons] at hp
    rcases Nat.lt_or_ge p (cellsOf k y).length with h | h
    · rw [List.getElem?_append_left h] at hp
      exact ⟨0, p, y, by omega, rfl, hp⟩
    · rw [List.getElem?_append_right h] at hp
      obtain ⟨i, j, x, h1, h2, h3⟩ := flat_split k l _ f hp
      rw [cells_length] at h h1
      exact ⟨i + 1, j, x, by rw [Nat.add_mul]; omega, by simpa using h2, h3⟩

section
variable {P : Program} {cfg : Cfg} {U : Nat → Prop} {h h' : Hp} {loc loc' : Loc} {w w' : World} {a : Act} {fr : Fr}

theorem CWs.append {M : Nat → Prop} : ∀ {us vs : List Value} {cs ds : List C}, CWs w M h loc us cs → CWs w M h loc vs ds → CWs w M h loc (us ++ vs) (cs ++ ds)
  | [], vs, [], ds, _, h2 => h2
  | [], _, _ :: _, _, h1, _ => by unfold CWs at h1; exact h1.elim
  | _ :: _, _, [], _, h1, _ => by unfold CWs at h1; exact h1.elim
  | u :: us, vs, c :: cs, ds, h1, h2 => by unfold CWs at h1; simp only [List.cons_append]; unfold CWs; exact ⟨h1.1, CWs.append h1.2 h2⟩

/-- A frozen slice's cells: the values that lie there. -/
theorem sl_cells {M : Nat → Prop} {n : Nat} {v : Value} {t : Bool} {k : Kind} {l : List (El k)} (hc : CellW w M n v (.sl t k l)) :
    ∃ A c us, v = .slice A l.length c ∧ l.length ≤ c ∧ (t = true → c = l.length) ∧ CWs w M h loc us ((flat k l).map C.f) ∧ (l ≠ [] → ∃ b o, A = some ⟨b, o, none⟩ ∧ ¬ M b ∧ b < w.heap.size ∧ ∀ (p : Nat) (u : Value), us[p]? = some u → w.cell? ⟨b, o + p, none⟩ = some u) ∧ (l = [] → us = []) := by
  cases n with
  | zero => exact hc.elim
  | succ n =>
    obtain ⟨A, c, rfl, h2, h3, h4⟩ := hc
    cases l with
    | nil => exact ⟨A, c, [], rfl, h2, h3, by simp [flat]; unfold CWs; trivial, fun hn => absurd rfl hn, fun _ => rfl⟩
    | cons x l =>
      obtain ⟨b, o, rfl, hm, hb, _⟩ := h4 0 x rfl
      obtain ⟨us, h5, h6⟩ := cells_choice (w := w) (h := h) (loc := loc) (M := M) (b := b) ((flat k (x :: l)).map C.f) o (fun p c hp => by
        rw [List.getElem?_map, Option.map_eq_some_iff] at hp
        obtain ⟨f, hf, rfl⟩ := hp
        obtain ⟨i, j, y, rfl, hy, hfj⟩ := flat_split k _ _ _ hf
        obtain ⟨b', o', he, _, _, hcell⟩ := h4 i y hy
        simp at he
        obtain ⟨rfl, rfl⟩ := he
        obtain ⟨u, hu, hr⟩ := hcell j f hfj
        exact ⟨u, by rw [show o + (i * szOf k + j) = o + i * szOf k + j by omega]; exact hu, by unfold CW; exact ⟨n, hr⟩⟩)
      exact ⟨_, c, us, rfl, h2, h3, h5, fun _ => ⟨b, o, rfl, hm, hb, h6⟩, fun hn => by cases hn⟩

/-- A row of its own: its cells. -/
theorem row_cells {M : Nat → Prop} {us : Array Value} {k : Kind} {l : List (El k)} (hl : l.length * szOf k ≤ us.size)
    (hc : ∀ i x j f, l[i]? = some x → (cellsOf k x)[j]? = some f → ∃ u n, us[i * szOf k + j]? = some u ∧ CellW w M n u f) : CWs w M h loc (us.toList.take (l.length * szOf k)) ((flat k l).map C.f) := by
  refine CWs.mk (by simp [flat_length]; omega) (fun p c hp => ?_)
  have hlt := (List.getElem?_eq_some_iff.1 hp).1
  rw [List.getElem?_map, Option.map_eq_some_iff] at hp
  obtain ⟨f, hf, rfl⟩ := hp
  obtain ⟨i, j, y, rfl, hy, hfj⟩ := flat_split k _ _ _ hf
  obtain ⟨u, n, hu, hr⟩ := hc i y j f hy hfj
  refine ⟨u, ?_, by unfold CW; exact ⟨n, hr⟩⟩
  simp [flat_length] at hlt
  rw [List.getElem?_take, if_pos hlt]
  simpa using hu

/-- The other way. -/
theorem cells_row {M : Nat → Prop} {us : List Value} {vs : Array Value} {k : Kind} {l : List (El k)} (hc : CWs w M h loc us ((flat k l).map C.f)) (hv : ∀ (p : Nat) (u : Value), us[p]? = some u → vs[p]? = some u) :
    ∀ i x j f, l[i]? = some x → (cellsOf k x)[j]? = some f → ∃ u n, vs[i * szOf k + j]? = some u ∧ CellW w M n u f := by
  intro i x j f hx hf
  obtain ⟨u, hu, hr⟩ := hc.get (j := i * szOf k + j) (c := .f f) (by rw [List.getElem?_map, flat_get k l i j x f hx hf]; rfl)
  unfold CW at hr
  obtain ⟨n, hn⟩ := hr
  exact ⟨u, n, hv _ _ hu, hn⟩

theorem CWs.ones_f {M : Nat → Prop} {us : List Value} {fs : List F} (hc : CWs w M h loc us (fs.map C.f)) : ∀ u ∈ us, u.oneCell' = true := hc.ones (all_def fs)

/-- What is appended. -/
theorem items_ok (ht : TabOK P cfg) (hw : HW G U h loc w) {T2 e : TypeId} {i2 : TI} {k : Kind} {x : V} {v : Value} {xs : List (El k)} (hT : cfg.tb T2 = some i2) (hs : seqT i2.desc x = true) (hx : VW w (Mut U h loc) h loc v x) (hi : items h k x = some xs) :
    ∃ news, CWs w (Mut U h loc) h loc news ((flat k xs).map C.f) ∧ Src P (szOf k) T2 v xs.length news w := by
  have h1 := ht.und T2 i2 hT
  unfold items at hi
  split at hi
  · rename_i t k' l
    by_cases hk : k' = k
    · subst hk
      simp at hi; subst hi
      unfold VW CW at hx
      obtain ⟨n, hn⟩ := hx
      obtain ⟨A, c, us, rfl, _, _, hcs, hne, he⟩ := sl_cells (h := h) (loc := loc) hn
      obtain ⟨e', hd⟩ : ∃ e', i2.desc = .slice e' := by
        unfold seqT at hs; split at hs <;> simp_all
      have hu : P.underlying T2 = some (.slice e') := by rw [h1, hd]
      refine ⟨us, hcs, ?_⟩
      by_cases hl : l = []
      · subst hl
        have := he rfl
        subst this
        cases A with
        | none => exact Src.ofNil w hu c
        | some a => exact Src.ofSlice w hu a 0 c [] (by simp) (fun j u hu => by simp at hu) (fun u hu => by simp at hu)
      · obtain ⟨b, o, rfl, _, _, hcell⟩ := hne hl
        refine Src.ofSlice w hu ⟨b, o, none⟩ l.length c us (by rw [hcs.length, List.length_map, flat_length]) (fun j u hu => by rw [Addr.add_mid]; exact hcell j u hu) hcs.ones_f
    · simp [hk] at hi
  · rename_i id k'
    rw [Option.bind_eq_some_iff] at hi
    obtain ⟨ob, hob, hi⟩ := hi
    split at hi
    · rename_i wr k2 l
      by_cases hk : k2 = k
      · subst hk
        simp at hi; subst hi
        unfold VW CW at hx
        obtain ⟨_, _, hrow⟩ := hx
        obtain ⟨rfl, hown, htight⟩ := hrow _ _ _ hob
        obtain ⟨e', hd⟩ : ∃ e', i2.desc = .slice e' := by
          unfold seqT at hs; split at hs <;> simp_all
        have hu : P.underlying T2 = some (.slice e') := by rw [h1, hd]
        cases hloc : loc id with
        | none =>
          obtain ⟨n, hn⟩ := htight hloc
          obtain ⟨A, c, us, rfl, _, _, hcs, hne, he⟩ := sl_cells (h := h) (loc := loc) hn
          refine ⟨us, hcs, ?_⟩
          by_cases hl : l = []
          · subst hl
            have := he rfl
            subst this
            cases A with
            | none => exact Src.ofNil w hu c
            | some a => exact Src.ofSlice w hu a 0 c [] (by simp) (fun j u hu => by simp at hu) (fun u hu => by simp at hu)
          · obtain ⟨b, o, rfl, _, _, hcell⟩ := hne hl
            refine Src.ofSlice w hu ⟨b, o, none⟩ l.length c us (by rw [hcs.length, List.length_map, flat_length]) (fun j u hu => by rw [Addr.add_mid]; exact hcell j u hu) hcs.ones_f
        | some bc =>
          obtain ⟨b, c⟩ := bc
          obtain rfl := hown b c hloc
          obtain ⟨us, T', hb, hus, hlc, hcells⟩ := (hw.obj id _ hob).2 b c hloc
          have hle : l.length * szOf k2 ≤ us.size := by rw [hus]; exact Nat.mul_le_mul_right _ hlc
          have hcs := row_cells (h := h) (loc := loc) hle hcells
          refine ⟨_, hcs, ?_⟩
          refine Src.ofSlice w hu ⟨b, 0, none⟩ l.length c _ (by rw [hcs.length, List.length_map, flat_length]) (fun j u hu => ?_) hcs.ones_f
          rw [Addr.add_mid, cell_heap hb]
          rw [List.getElem?_take] at hu
          split at hu
          · simpa using hu
          · cases hu
      · simp [hk] at hi
    · simp at hi
  · rename_i s
    by_cases hk : Kind.byte = k
    · subst hk
      simp at hi; subst hi
      obtain rfl := hx.sc
      obtain hd : i2.desc = .string := by
        unfold seqT at hs; split at hs <;> simp_all
      have hu : P.underlying T2 = some .string := by rw [h1, hd]
      have := Src.ofString (P := P) w hu s
      refine ⟨byteCells s, ?_, by simpa [szOf] using this⟩
      refine CWs.mk (by rw [byteCells_length, List.length_map, flat_length]; simp [szOf]) (fun p c hp => ?_)
      rw [List.getElem?_map, Option.map_eq_some_iff] at hp
      obtain ⟨f, hf, rfl⟩ := hp
      obtain ⟨i, j, y, rfl, hy, hfj⟩ := flat_split _ _ _ _ hf
      have hj : j = 0 := by
        have := (List.getElem?_eq_some_iff.1 hfj).1
        rw [cells_length] at this
        simp [szOf] at this
        exact this
      subst hj
      simp [cellsOf] at hfj
      subst hfj
      refine ⟨.int .u8 y.toNat, ?_, by unfold CW; exact ⟨0, rfl, rfl⟩⟩
      unfold byteCells
      simp only [szOf, Nat.mul_one, Nat.add_zero, List.getElem?_map]
      rw [hy]
      rfl
    · simp [hk] at hi
  · simp at hi

end
end Go.Vm
