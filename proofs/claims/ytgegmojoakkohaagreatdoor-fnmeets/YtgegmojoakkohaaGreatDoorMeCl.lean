/-
  Clients and servers that are right; new clients.
-/
import Derived.Test.YtgegmojoakkohaaGreatDoorMeTk
import Derived.Test.YtgegmojoakkohaaGreatDoorMeHo
import Derived.Test.YtgegmojoakkohaaGreatDoorVm6
namespace Go.Proofs.YtgegmojoakkohaaGreatDoor
open Go.Vm
set_option linter.unusedVariables false
set_option linter.unusedSimpArgs false

theorem impl_ClientOk_t (c : Client) (hc : c.share.cost < 4611686018427387900) (hh : c.host.size ≤ 900000000) : impl_ClientOk_T c = some (clientOk c) := by
  refine impl_ClientOk_of 0 c ?_
  unfold impl_ClientOk_R
  simp only [impl_in_t, impl_isAtom_t, impl_HostOk_t c.host hh, impl_TermOk_t c.share hc, impl_noTerm_t c.share hc, qb_s]
  obtain ⟨step, host, must, eph, body, share, inn, out, tls, proved⟩ := c
  unfold clientOk inR isAtom
  simp only
  generalize (decide (1 ≤ step) && decide (step ≤ 10)) = b1
  generalize hostOk host = b2
  generalize (decide (0 ≤ eph) && decide (eph ≤ 1000000)) = b3
  generalize (decide (0 ≤ body) && decide (body ≤ 1000000)) = b4
  generalize (decide (0 ≤ inn) && decide (inn ≤ 100)) = b5
  generalize (decide (0 ≤ out) && decide (out ≤ 100)) = b6
  generalize decide (share = zeroT) = b7
  generalize share.ok = b8
  generalize (decide (5 ≤ step) && decide (step ≤ 9)) = b9
  cases b1; · rfl
  cases b2; · rfl
  cases b3; · rfl
  cases b4; · rfl
  cases b5; · rfl
  cases b6; · rfl
  cases tls <;> cases b7 <;> cases b8 <;> cases proved <;> cases must <;> cases b9 <;> rfl

theorem impl_ClientNew_t (host : ByteArray) (must : Bool) (eph body : Int) (hh : host.size ≤ 900000000) : impl_ClientNew_T host must eph body = some ((clientNew host must eph body).1, (clientNew host must eph body).2, ()) := by
  refine impl_ClientNew_of 0 host must eph body ?_
  unfold impl_ClientNew_R
  refine (qb_run (impl_ClientOk_t (newClient host must eph body) (show zeroT.cost < 4611686018427387900 by decide) hh)).trans ?_
  unfold clientNew
  cases clientOk (newClient host must eph body) <;> rfl

theorem spec_ServerOk_t (s : Server) (hc : s.cert.cost < 4611686018427387900) (hs : s.share.cost < 4611686018427387900) (hh : s.host.size ≤ 900000000) (hg : s.got.length < 4611686018427387904) : spec_ServerOk_T s = some (serverOk s) := by
  refine spec_ServerOk_of (s.got.length + 1) s ?_
  unfold spec_ServerOk_R
  have h3 : spec_Same_T s.share (Term.mk 0 0 (ByteArray.mk #[]) []) = some (decide (s.share = zeroT)) := spec_Same_t s.share (by omega) zeroT
  refine (qb_run (spec_ServerOk_L2_if (lp_all s.got isAtom (fun i => spec_ServerOk_S2 false i s) (.ext 0, spec_ServerOk_O2 false s) (.ret, spec_ServerOk_O2 false s)
    (by rw [spec_ServerOk_round2, lt_self]; rfl) rfl rfl
    (fun i x hx hi => by
      rw [spec_ServerOk_round2, lt_t hi, idx_nat hx]
      simp only [br_t, qb_s, spec_l1In_t]
      rw [wrap_succ (by omega)]
      unfold isAtom
      cases (decide (0 ≤ x) && decide (x ≤ 1000000)) <;> rfl)
    (s.got.length + 1) (by omega)))).trans ?_
  obtain ⟨step, host, key, eph, cert, share, inn, out, tls, got⟩ := s
  unfold serverOk inR
  simp only at hc hs hh h3 ⊢
  cases hgot : got.all isAtom with
  | false =>
    simp only [Bool.false_eq_true, if_false, isRetE_r, br_t, Bool.and_false]
  | true =>
    simp only [if_true, isRetE_e, isExt_e, br_t, br_f, spec_l1In_t, spec_HostOk_t host hh, spec_TermOk_t cert hc, spec_TermOk_t share hs, h3, qb_s, beq_int]
    generalize (decide (1 ≤ step) && decide (step ≤ 5)) = b1
    generalize hostOk host = b2
    generalize (decide (0 ≤ key) && decide (key ≤ 1000000)) = b3
    generalize (decide (0 ≤ eph) && decide (eph ≤ 1000000)) = b4
    generalize cert.ok = b5
    generalize (decide (0 ≤ inn) && decide (inn ≤ 100)) = b6
    generalize (decide (0 ≤ out) && decide (out ≤ 100)) = b7
    generalize decide (share = zeroT) = b8
    generalize share.ok = b9
    generalize decide (step = 3) = b10
    generalize decide ((got.length : Int) ≤ 20) = b11
    cases b1 <;> cases b2 <;> cases b3 <;> cases b4 <;> cases b5 <;> cases b6 <;> cases b7 <;> cases b11 <;> cases tls <;> cases b10 <;> cases b8 <;> cases b9 <;> rfl

theorem IndexFunc_ServerOk_1_t (a : List Int)  (hl : a.length < 4611686018427387904)  : slices_IndexFunc_int_int_T a (.c (.fn 149 [])) = some (idxOf (fun x => !isAtom x) a) := by
  refine IndexFunc_ServerOk_1_of (a.length + 1) a  ?_
  unfold IndexFunc_ServerOk_1_R
  have hloop := lp_at (P := Tryz.prog) (cfg := cfg) (T := RN) (n := a.length + 1) (d := 5) (f := 165) (r := 2) (na := 0) a (fun x => !isAtom x) (fun i => IndexFunc_ServerOk_1_S2 false a  0 a.length i) (.ext 0, IndexFunc_ServerOk_1_O2 0) (fun i => (.ret, IndexFunc_ServerOk_1_O2 i))
    (by rw [IndexFunc_ServerOk_1_round2, lt_self]; rfl) rfl (fun _ => rfl)
    (fun i x hx hi => by
      have hm := List.mem_of_getElem? hx
      rw [IndexFunc_ServerOk_1_round2, lt_t hi, idx_nat hx]
      simp only [br_t, qb_s, impl_isAtom_t]
      rw [wrap_succ (by omega)]
      cases isAtom x <;> rfl) (a.length + 1) (by omega)
  unfold idxOf
  cases h : a.findIdx? (fun x => !isAtom x) with
  | none => rw [h] at hloop; exact (qb_run (IndexFunc_ServerOk_1_L2_of hloop)).trans rfl
  | some i => rw [h] at hloop; exact (qb_run (IndexFunc_ServerOk_1_L2_of hloop)).trans rfl

theorem ContainsFunc_ServerOk_1_t (a : List Int)  (hl : a.length < 4611686018427387904)  : slices_ContainsFunc_int_int_T a (.c (.fn 149 [])) = some (a.any (fun x => !isAtom x)) := by
  refine ContainsFunc_ServerOk_1_of 0 a  ?_
  unfold ContainsFunc_ServerOk_1_R
  rw [IndexFunc_ServerOk_1_t a  hl , qb_s, idxOf_ge]


theorem impl_ServerOk_t (s : Server) (hc : s.cert.cost < 4611686018427387900) (hs : s.share.cost < 4611686018427387900) (hh : s.host.size ≤ 900000000) (hg : s.got.length < 4611686018427387904) : impl_ServerOk_T s = some (serverOk s) := by
  refine impl_ServerOk_of 0 s ?_
  unfold impl_ServerOk_R
  have hany : (s.got.any fun x => !isAtom x) = !s.got.all isAtom := by rw [List.all_eq_not_any_not]; simp
  simp only [impl_in_t, impl_isAtom_t, impl_HostOk_t s.host hh, impl_TermOk_t s.share hs, impl_TermOk_t s.cert hc, impl_noTerm_t s.share hs, ContainsFunc_ServerOk_1_t s.got hg, hany, qb_s, beq_int]
  obtain ⟨step, host, key, eph, cert, share, inn, out, tls, got⟩ := s
  unfold serverOk inR isAtom
  simp only
  generalize (decide (1 ≤ step) && decide (step ≤ 5)) = b1
  generalize hostOk host = b2
  generalize (decide (0 ≤ key) && decide (key ≤ 1000000)) = b3
  generalize (decide (0 ≤ eph) && decide (eph ≤ 1000000)) = b4
  generalize cert.ok = b5
  generalize (decide (0 ≤ inn) && decide (inn ≤ 100)) = b6
  generalize (decide (0 ≤ out) && decide (out ≤ 100)) = b7
  generalize decide (share = zeroT) = b8
  generalize share.ok = b9
  generalize decide (step = 3) = b10
  generalize decide ((got.length : Int) ≤ 20) = b11
  generalize (got.all fun n => decide (0 ≤ n) && decide (n ≤ 1000000)) = b12
  cases b1; · rfl
  cases b2; · rfl
  cases b3; · rfl
  cases b4; · rfl
  cases b5; · rfl
  cases b6; · rfl
  cases b7; · rfl
  cases tls <;> cases b10 <;> cases b8 <;> cases b9 <;> cases b11 <;> cases b12 <;> rfl

end Go.Proofs.YtgegmojoakkohaaGreatDoor
