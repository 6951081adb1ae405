/-
  Loops, round by round.
-/
import Derived.Test.YtepghohkfnmhmaaDoorVmKOK
namespace Go.Vm
set_option linter.unusedVariables false
set_option linter.unusedSimpArgs false

section
variable {P : Program} {cfg : Cfg} {T : CallSem} {n d f r na q : Nat} {s s' : St} {e : Ex} {x : Ex × St}

theorem round_some (h : roundK P cfg T n d f r na s = some x) : ∃ b, loopBody P f r = some b ∧ ∃ y, aexec cfg T (runI P cfg T n d) f b.1 na n b.2 s = some y ∧
    (match y.1 with | .nrm => (clean na (cfg.lh f r).head y.2).bind fun s => some (.nrm, s) | e => (clean na (cfg.lh f r).out y.2).bind fun s => some (e, s)) = some x := by
  unfold roundK at h
  split at h
  · rename_i b hb
    obtain ⟨y, h1, h2⟩ := aexecK_some (runK_some d) b.2 h
    exact ⟨b, hb, y, h1, h2⟩
  · cases h

theorem lp_next (h : roundK P cfg T n d f r na s = some (.nrm, s')) (hl : lp P cfg T n d f r na q s' = some x) : lp P cfg T n d f r na (q + 1) s = some x := by
  obtain ⟨b, hb, ⟨e, y⟩, h1, h2⟩ := round_some h
  unfold lp at hl ⊢
  rw [hb] at hl ⊢
  simp only at hl ⊢
  simp only [loopA, h1, Option.bind_some]
  cases e with
  | nrm =>
    simp only [Option.bind_eq_some_iff, Option.some.injEq, Prod.mk.injEq, true_and] at h2 ⊢
    obtain ⟨s1, h3, rfl⟩ := h2
    exact ⟨s1, h3, hl⟩
  | ext id =>
    simp only [Option.bind_eq_some_iff, Option.some.injEq, Prod.mk.injEq] at h2
    obtain ⟨s1, h3, h4, _⟩ := h2
    cases h4
  | ret =>
    simp only [Option.bind_eq_some_iff, Option.some.injEq, Prod.mk.injEq] at h2
    obtain ⟨s1, h3, h4, _⟩ := h2
    cases h4

theorem lp_out (h : roundK P cfg T n d f r na s = some (e, s')) (he : isN e = false) : lp P cfg T n d f r na (q + 1) s = some (e, s') := by
  obtain ⟨b, hb, ⟨e1, y⟩, h1, h2⟩ := round_some h
  unfold lp
  rw [hb]
  simp only
  simp only [loopA, h1, Option.bind_some]
  cases e1 with
  | nrm =>
    simp only [Option.bind_eq_some_iff, Option.some.injEq, Prod.mk.injEq] at h2
    obtain ⟨s1, h3, h4, _⟩ := h2
    rw [← h4] at he
    cases he
  | ext id => exact h2
  | ret => exact h2

theorem pres_f {f : FuncId} {xs : List V} {y : F} (h : T f xs [] = some (.c (.f y), [], [])) : pres T f xs = some (.c (.f y)) := by
  unfold pres
  rw [h]
  rfl

theorem snap_fs (h : Hp) : ∀ (fs : List F), lmapM (snapC h) (fs.map C.f) = some (fs.map C.f)
  | [] => rfl
  | f :: fs => by simp only [List.map_cons, lmapM, snapC, Option.bind_some, snap_fs h fs]

theorem pres_ag {f : FuncId} {xs : List V} {fs : List F} (h : T f xs [] = some (.ag fs, [], [])) : pres T f xs = some (.ag fs) := by
  unfold pres
  rw [h]
  simp only [Option.bind_some, frzBack, snap_fs, Option.map_some]

end
end Go.Vm
