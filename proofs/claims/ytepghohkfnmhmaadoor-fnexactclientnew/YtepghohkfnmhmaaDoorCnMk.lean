/-
  Marks of what holds no memory.
-/
import Derived.Test.YtepghohkfnmhmaaDoorCnRes
import Derived.Test.YtepghohkfnmhmaaDoorVm6
namespace Go.Proofs.YtepghohkfnmhmaaDoor
open Go.Vm
set_option linter.unusedVariables false
set_option linter.unusedSimpArgs false

theorem markTermS_nil (k : Int) : laws_markTermS_T [] k = some k := by
  refine laws_markTermS_of 1 [] k ?_
  unfold laws_markTermS_R
  exact (qb_run (laws_markTermS_L2_of (n := 1) (q := 1) (t0 := false) (x0 := []) (x1 := k) (x5 := 0) (e := .ext 0) (x1O := k) (lp_out (by rw [laws_markTermS_round2]; rfl) rfl))).trans rfl

theorem markTerm_nil (t : Term) (h : t.kids = []) (k : Int) : laws_markTerm_T t k = some k := by
  refine laws_markTerm_of 0 t k ?_
  unfold laws_markTerm_R
  rw [h, markTermS_nil, qb_s]

theorem heldTermS_nil (k : Int) : laws_heldTermS_T [] k = some k := by
  refine laws_heldTermS_of 1 [] k ?_
  unfold laws_heldTermS_R
  exact (qb_run (laws_heldTermS_L2_of (n := 1) (q := 1) (t0 := false) (x0 := []) (x1 := k) (x4 := 0) (x5 := 0) (e := .ext 0) (x1O := k) (x4O := 0) (lp_out (by rw [laws_heldTermS_round2]; rfl) rfl))).trans rfl

theorem heldTerm_nil (t : Term) (h : t.kids = []) (k : Int) (hk : 0 ≤ k) : laws_heldTerm_T t k = some k := by
  refine laws_heldTerm_of 0 t k ?_
  unfold laws_heldTerm_R
  rw [h, heldTermS_nil, qb_s, show decide (k < 0) = false by simp; omega]
  rfl

theorem markClient_nil (c : Client) (h : c.share.kids = []) (k : Int) : laws_markClient_T c k = some k := by
  refine laws_markClient_of 0 c k ?_
  unfold laws_markClient_R
  rw [markTerm_nil c.share h, qb_s]

theorem heldClient_nil (c : Client) (h : c.share.kids = []) (k : Int) (hk : 0 ≤ k) : laws_heldClient_T c k = some k := by
  refine laws_heldClient_of 0 c k ?_
  unfold laws_heldClient_R
  rw [heldTerm_nil c.share h k hk, qb_s, show decide (k < 0) = false by simp; omega]
  rfl

end Go.Proofs.YtepghohkfnmhmaaDoor
