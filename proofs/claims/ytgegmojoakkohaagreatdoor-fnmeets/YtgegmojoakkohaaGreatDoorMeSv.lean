/-
  Hosts that hear.
-/
import Derived.Test.YtgegmojoakkohaaGreatDoorMeCy
namespace Go.Proofs.YtgegmojoakkohaaGreatDoor
open Go.Vm
set_option linter.unusedVariables false
set_option linter.unusedSimpArgs false

theorem ble_max {n : Nat} (h : n ≤ 1000000000) : Nat.ble n appMax = true := by rw [Nat.ble_eq, appMax]; exact h

theorem zero_le' : (Term.mk 0 0 (ByteArray.mk #[]) []).cost ≤ 1000000000 := by show zeroT.cost ≤ _; rw [zeroT_cost]; omega

theorem helloOf_cost' (t : Term) : (helloOf t).1.cost ≤ 60199 := by
  unfold helloOf
  split
  · rename_i h
    exact kid_ok h.1 1
  · show zeroT.cost ≤ _; rw [zeroT_cost]; omega

theorem impl_HelloOf_t (t : Term) (ht : t.cost ≤ 400000000) : impl_HelloOf_T t = some ((helloOf t).1, (helloOf t).2, ()) := by
  refine impl_HelloOf_of 0 t ?_
  unfold impl_HelloOf_R helloOf
  obtain ⟨c1, c2⟩ := twoP_cost t
  rw [impl_twoP_t, qb_s, impl_TermOk_t t (by omega), show (⟨#[104, 101, 108, 108, 111]⟩ : ByteArray) = wHello from rfl]
  simp only [impl_text_t, qb_s, impl_Same_t (twoP t).1 (by omega), impl_clone_t (twoP t).2.1 (by omega), Term.eta, bne_int]
  by_cases h3 : t.op = 3
  case neg =>
    rw [twoP_no h3, if_neg fun g => h3 g.2.1]
    rfl
  by_cases ho : t.ok = true
  case neg =>
    rw [if_neg fun g => ho g.1, (by simpa using ho : t.ok = false)]
    cases (twoP t).2.2 <;> rfl
  rw [twoP_ok ho h3, ho]
  simp only [Bool.not_true, br_f]
  by_cases hw : t.kids.getD 0 zeroT = textT wHello
  · simp only [hw, decide_true, Bool.not_true, br_f]
    by_cases h4 : (t.kids.getD 1 zeroT).op = 4
    · rw [if_pos ⟨trivial, h3, trivial, h4⟩]
      simp only [h4, decide_true, Bool.not_true, br_f]
    · rw [if_neg fun g => h4 g.2.2.2]
      simp only [h4, decide_false, Bool.not_false, br_t]
      rfl
  · rw [if_neg fun g => hw g.2.2.1]
    simp only [hw, decide_false, Bool.not_false, br_t]
    rfl

theorem impl_cloneServer_t (s : Server) (hc : s.cert.cost ≤ 400000000) (hs : s.share.cost ≤ 400000000) (hg : s.got.length ≤ 1000) : impl_cloneServer_T s = some s := by
  refine impl_cloneServer_of 0 s ?_
  unfold impl_cloneServer_R
  rw [impl_clone_t s.cert (by omega), qb_s, impl_clone_t s.share (by omega), qb_s, ble_max (by omega), br_t]
  simp only [Term.eta]

theorem impl_gaveUp_t (s : Server) (hc : s.cert.cost ≤ 400000000) (hs : s.share.cost ≤ 400000000) (hg : s.got.length ≤ 1000) : impl_gaveUp_T s = some ((gaveUpI s).1, (gaveUpI s).2, ()) := by
  refine impl_gaveUp_of 0 s ?_
  unfold impl_gaveUp_R gaveUpI
  simp only [impl_clone_t s.cert (by omega), impl_clone_t s.share (by omega), impl_clone_t _ zero_le', qb_s, ble_max (show s.got.length ≤ 1000000000 by omega), br_t, Term.eta]
  obtain ⟨step, host, key, eph, cert, share, inn, out, tls, got⟩ := s
  cases tls <;> rfl

theorem impl_answers_t (s : Server) (line : ByteArray) (step : Int) (hc : s.cert.cost ≤ 400000000) (hs : s.share.cost ≤ 400000000) (hg : s.got.length ≤ 1000) (hl : line.size ≤ 1000) (o0 : 0 ≤ s.out) (o1 : s.out ≤ 1000) :
    impl_answers_T s line step = some ((answersI s line step).1, (answersI s line step).2, ()) := by
  refine impl_answers_of 0 s line step ?_
  unfold impl_answers_R answersI gaveUpI
  have hk := impl_KeyOf_t s.share 2 hs (by omega) (by omega)
  have hse := impl_Seal_t (keyT s.share 2) s.out (textT line) (mkT_le _ _) (text_le _ (by omega)) (by omega) (by omega)
  simp only [impl_clone_t s.cert (by omega), impl_clone_t s.share (by omega), impl_clone_t _ zero_le', qb_s, ble_max (show s.got.length ≤ 1000000000 by omega), br_t, Term.eta, impl_text_t, hk, hse]
  obtain ⟨st, host, key, eph, cert, share, inn, out, tls, got⟩ := s
  dsimp only
  cases tls with
  | false => rfl
  | true =>
    rw [Bool.not_true, br_f, if_pos rfl]
    by_cases h : out ≥ 100
    · rw [decide_eq_true h, br_t, if_pos h, br_f, if_pos rfl]
    · rw [decide_eq_false h, br_f, if_neg h]

theorem impl_served_t (s : Server) (line : ByteArray) (h1 : s.step = 1) (hc : s.cert.cost ≤ 400000000) (hs : s.share.cost ≤ 400000000) (hg : s.got.length ≤ 1000) (o0 : 0 ≤ s.out) (o1 : s.out ≤ 1000) :
    impl_served_T s line = some ((servedI s line).1, (servedI s line).2, ()) := by
  obtain ⟨st, host, key, eph, cert, share, inn, out, tls, got⟩ := s
  dsimp only at h1 hc hs hg o0 o1
  subst h1
  have ha := fun (l : ByteArray) (st : Int) (hl : l.size ≤ 1000) => impl_answers_t (Server.mk 1 host key eph cert share inn out tls got) l st hc hs hg hl o0 o1
  have hu := impl_gaveUp_t (Server.mk 1 host key eph cert share inn out tls got) hc hs hg
  refine impl_served_c1_of 0 host key eph cert share inn out tls got line ?_
  unfold impl_served_c1_R servedI
  simp only [ha ⟨#[50, 53, 48]⟩ 1 (by decide), ha ⟨#[50, 53, 48, 32, 115, 116, 97, 114, 116, 116, 108, 115]⟩ 1 (by decide), ha ⟨#[50, 50, 48]⟩ 2 (by decide), ha ⟨#[51, 53, 52]⟩ 4 (by decide), hu, qb_s, beq_bytes, Term.eta]
  rw [show wEhlo = (⟨#[101, 104, 108, 111]⟩ : ByteArray) from rfl, show wStart = (⟨#[115, 116, 97, 114, 116, 116, 108, 115]⟩ : ByteArray) from rfl, show wMail = (⟨#[109, 97, 105, 108]⟩ : ByteArray) from rfl, show wRcpt = (⟨#[114, 99, 112, 116]⟩ : ByteArray) from rfl,
    show wData = (⟨#[100, 97, 116, 97]⟩ : ByteArray) from rfl, show wQuit = (⟨#[113, 117, 105, 116]⟩ : ByteArray) from rfl, show w250 = (⟨#[50, 53, 48]⟩ : ByteArray) from rfl, show w250s = (⟨#[50, 53, 48, 32, 115, 116, 97, 114, 116, 116, 108, 115]⟩ : ByteArray) from rfl,
    show w220 = (⟨#[50, 50, 48]⟩ : ByteArray) from rfl, show w354 = (⟨#[51, 53, 52]⟩ : ByteArray) from rfl]
  generalize answersI (Server.mk 1 host key eph cert share inn out tls got) = an
  generalize gaveUpI (Server.mk 1 host key eph cert share inn out tls got) = gu
  by_cases g1 : line = (⟨#[101, 104, 108, 111]⟩ : ByteArray)
  · simp only [g1, decide_true, br_t, true_and]
    cases tls <;> simp [br_t, br_f]
  by_cases g2 : line = (⟨#[115, 116, 97, 114, 116, 116, 108, 115]⟩ : ByteArray)
  · have e1 : ¬ (⟨#[115, 116, 97, 114, 116, 116, 108, 115]⟩ : ByteArray) = (⟨#[101, 104, 108, 111]⟩ : ByteArray) := by decide
    have e3 : ¬ (⟨#[115, 116, 97, 114, 116, 116, 108, 115]⟩ : ByteArray) = (⟨#[109, 97, 105, 108]⟩ : ByteArray) := by decide
    have e4 : ¬ (⟨#[115, 116, 97, 114, 116, 116, 108, 115]⟩ : ByteArray) = (⟨#[114, 99, 112, 116]⟩ : ByteArray) := by decide
    have e5 : ¬ (⟨#[115, 116, 97, 114, 116, 116, 108, 115]⟩ : ByteArray) = (⟨#[100, 97, 116, 97]⟩ : ByteArray) := by decide
    have e6 : ¬ (⟨#[115, 116, 97, 114, 116, 116, 108, 115]⟩ : ByteArray) = (⟨#[113, 117, 105, 116]⟩ : ByteArray) := by decide
    subst g2
    cases tls <;> simp [e1, e3, e4, e5, e6, br_t, br_f]
  by_cases g3 : line = (⟨#[109, 97, 105, 108]⟩ : ByteArray)
  · simp [g1, g2, g3, br_t, br_f]
  by_cases g4 : line = (⟨#[114, 99, 112, 116]⟩ : ByteArray)
  · simp [g1, g2, g3, g4, br_t, br_f]
  by_cases g5 : line = (⟨#[100, 97, 116, 97]⟩ : ByteArray)
  · simp [g1, g2, g3, g4, g5, br_t, br_f]
  by_cases g6 : line = (⟨#[113, 117, 105, 116]⟩ : ByteArray)
  · simp [g1, g2, g3, g4, g5, g6, br_t, br_f]
  · simp [g1, g2, g3, g4, g5, g6, br_f]

theorem impl_greeted_t (s : Server) (t : Term) (hc : s.cert.cost ≤ 400000000) (hs : s.share.cost ≤ 400000000) (hg : s.got.length ≤ 1000) (ht : t.cost ≤ 400000000) : impl_greeted_T s t = some ((greetedI s t).1, (greetedI s t).2, ()) := by
  refine impl_greeted_of 0 s t ?_
  have ha : ∀ k : Int, (atomT k).cost ≤ 400000000 := fun k => by rw [atomT_cost]; omega
  have hh := helloOf_cost' t
  unfold impl_greeted_R greetedI
  simp only [impl_HelloOf_t t ht, impl_Atom_t, impl_Reply_t (atomT s.eph) (helloOf t).1 (atomT s.key) s.cert (ha _) (by omega) (ha _) hc, impl_Agree_t (atomT s.eph) (helloOf t).1 (ha _) (by omega), impl_gaveUp_t s hc hs hg, impl_cloneServer_t s hc hs hg, qb_s, Term.eta]
  generalize helloOf t = h
  generalize replyT (atomT s.eph) h.1 (atomT s.key) s.cert = r
  generalize agree (atomT s.eph) h.1 = a
  obtain ⟨h, b1⟩ := h
  obtain ⟨r, b2⟩ := r
  obtain ⟨a, b3⟩ := a
  cases b1 <;> cases b2 <;> cases b3 <;> rfl

theorem impl_took_t (s : Server) (b : Term) (hc : s.cert.cost ≤ 400000000) (hs : s.share.cost ≤ 400000000) (hg : s.got.length ≤ 1000) (hb : b.cost ≤ 400000000) (o0 : 0 ≤ s.out) (o1 : s.out ≤ 1000) :
    impl_took_T s b = some ((tookI s b).1, (tookI s b).2, ()) := by
  refine impl_took_of 0 s b ?_
  unfold impl_took_R tookI
  have hgu := impl_gaveUp_t s hc hs hg
  obtain ⟨c1, c2⟩ := twoP_cost b
  rw [impl_twoP_t, qb_s]
  by_cases h : b.op = 3 ∧ b.kids.length = 2
  case neg =>
    rw [show twoP b = (zeroT, zeroT, false) from if_neg h, if_neg fun g => h ⟨g.1, g.2.1⟩]
    simp only [Bool.not_false, br_t, hgu, qb_s, Term.eta]
  have htp : twoP b = (b.kids.getD 0 zeroT, b.kids.getD 1 zeroT, true) := if_pos h
  rw [htp] at c1 c2 ⊢
  simp only at c1 c2 ⊢
  simp only [Bool.not_true, br_f, impl_text_t, qb_s, impl_Same_t (b.kids.getD 0 zeroT) (by omega), bne_int]
  by_cases hw : b.kids.getD 0 zeroT = textT ⟨#[98, 111, 100, 121]⟩
  case neg =>
    rw [if_neg fun g => hw g.2.2.1, decide_eq_false hw]
    simp only [Bool.not_false, br_t, hgu, qb_s, Term.eta]
  rw [decide_eq_true hw, Bool.not_true, br_f]
  by_cases h1 : (b.kids.getD 1 zeroT).op = 1
  case neg =>
    rw [if_neg fun g => h1 g.2.2.2.1, decide_eq_false h1]
    simp only [Bool.not_false, br_t, hgu, qb_s, Term.eta]
  rw [decide_eq_true h1, Bool.not_true, br_f]
  by_cases hl : s.got.length < 20
  case neg =>
    rw [if_neg fun g => hl g.2.2.2.2, decide_eq_true (show (s.got.length : Int) ≥ 20 by omega), br_t, hgu, qb_s]
    simp only [Term.eta]
  rw [if_pos ⟨h.1, h.2, hw, h1, hl⟩, decide_eq_false (show ¬ (s.got.length : Int) ≥ 20 by omega), br_f]
  have hk := impl_KeyOf_t s.share 2 hs (by omega) (by omega)
  have hse := impl_Seal_t (keyT s.share 2) s.out (textT ⟨#[50, 53, 48]⟩) (mkT_le _ _) (text_le _ (by decide)) (by omega) (by omega)
  have b1 : Nat.ble s.got.length appMax = true := ble_max (by omega)
  have b2 : Nat.ble (s.got.length + [(b.kids.getD 1 zeroT).n].length) appMax = true := ble_max (by simp; omega)
  have b3 : Nat.ble (s.got ++ [(b.kids.getD 1 zeroT).n]).length appMax = true := ble_max (by simp; omega)
  simp only [impl_clone_t s.cert (by omega), impl_clone_t s.share (by omega), impl_clone_t _ zero_le', qb_s, b1, b2, b3, br_t, Term.eta, impl_text_t, hk, hse]
  unfold answersI gaveUpI
  obtain ⟨st, host, key, eph, cert, share, inn, out, tls, got⟩ := s
  dsimp only
  cases tls with
  | false => rfl
  | true =>
    rw [Bool.not_true, br_f, if_pos rfl]
    by_cases h : out ≥ 100
    · rw [decide_eq_true h, br_t, if_pos h, br_f, if_pos rfl]
    · rw [decide_eq_false h, br_f, if_neg h]
      rfl

theorem impl_heard_t (s : Server) (t : Term) (hst : s.step = 1 ∨ s.step = 4) (hc : s.cert.cost ≤ 400000000) (hs : s.share.cost ≤ 400000000) (hg : s.got.length ≤ 1000) (ht : t.cost ≤ 400000000) (i0 : 0 ≤ s.inn) (i1 : s.inn ≤ 1000) (o0 : 0 ≤ s.out) (o1 : s.out ≤ 1000) :
    impl_heard_T s t = some ((heardI s t).1, (heardI s t).2, ()) := by
  refine impl_heard_of 0 s t ?_
  have hgu := impl_gaveUp_t s hc hs hg
  have hk := impl_KeyOf_t s.share 1 hs (by omega) (by omega)
  have hop := impl_Open_t (keyT s.share 1) s.inn t (mkT_le _ _) ht (by omega) (by omega)
  have hoc := openT_cost (keyT s.share 1) s.inn t
  have hmn : ∀ x : Int, (bif false then if (100 : Int) < x then x else 100 else if x < 100 then x else 100) = minI x := fun x => rfl
  have htk := fun (m : Int) (b : Term) (hb : b.cost ≤ 400000000) => impl_took_t (Server.mk s.step s.host s.key s.eph s.cert s.share m s.out s.tls s.got) b hc hs hg hb o0 o1
  have htk0 := impl_took_t s t hc hs hg ht o0 o1
  unfold impl_heard_R heardI
  simp only [impl_cloneServer_t s hc hs hg, qb_s, hk, hop, impl_Line_t, hmn]
  generalize openT (keyT s.share 1) s.inn t = o at hoc
  obtain ⟨o, ob⟩ := o
  dsimp only at hoc ⊢
  simp only [htk _ o (by omega), htk0, hgu, qb_s, Term.eta, beq_int]
  cases htls : s.tls with
  | true =>
    simp only [br_t, if_true, true_and]
    cases ob with
    | false => rfl
    | true =>
      rw [Bool.not_true, br_f, if_neg (fun g : true = false => Bool.noConfusion g)]
      by_cases h4 : s.step = 4
      · simp only [h4, decide_true, br_t, ne_eq, not_true, false_and, if_false, if_true]
        split <;> rename_i h5 <;> simp [h5, br_t, br_f]
      · have h1 : s.step = 1 := by omega
        have hsv := impl_served_t (Server.mk s.step s.host s.key s.eph s.cert s.share (minI (IntKind.i64.wrap (s.inn + 1))) s.out s.tls s.got) (lineI o).1 h1 hc hs hg o0 o1
        rw [htls] at hsv
        simp only [h4, decide_false, br_f, ne_eq, not_false_eq_true, true_and, if_false, hsv, qb_s]
        cases hl : (lineI o).2 with
        | false => simp [br_f]
        | true =>
          simp only [br_t, Bool.true_eq_false, if_false]
          split <;> rename_i h5 <;> simp [h5, br_t, br_f]
  | false =>
    simp only [br_f, Bool.false_eq_true, false_and, if_false]
    by_cases h4 : s.step = 4
    · simp only [h4, decide_true, br_t, ne_eq, not_true, false_and, if_false, if_true]
      split <;> rename_i h5 <;> simp [h5, br_t, br_f]
    · have h1 : s.step = 1 := by omega
      have hsv := impl_served_t s (lineI t).1 h1 hc hs hg o0 o1
      simp only [h4, decide_false, br_f, ne_eq, not_false_eq_true, true_and, if_false, hsv, qb_s]
      cases hl : (lineI t).2 with
      | false => simp [br_f]
      | true =>
        simp only [br_t, Bool.true_eq_false, if_false]
        split <;> rename_i h5 <;> simp [h5, br_t, br_f]

theorem serverOk_rng {s : Server} (h : serverOk s = true) : 1 ≤ s.step ∧ s.step ≤ 5 ∧ 0 ≤ s.inn ∧ s.inn ≤ 100 ∧ 0 ≤ s.out ∧ s.out ≤ 100 ∧ s.got.length ≤ 20 := by
  unfold serverOk inR at h
  simp only [Bool.and_eq_true, decide_eq_true_eq] at h
  obtain ⟨⟨a1, a2⟩, _, _, _, _, ⟨a3, a4⟩, ⟨a5, a6⟩, _, a7, _⟩ := h
  exact ⟨a1, a2, a3, a4, a5, a6, by omega⟩

theorem impl_ServerHear_t (s : Server) (t : Term) (hc : s.cert.cost ≤ 400000000) (hs : s.share.cost ≤ 400000000) (hh : s.host.size ≤ 900000000) (hg : s.got.length ≤ 1000) (ht : t.cost ≤ 400000000) :
    impl_ServerHear_T s t = some ((serverHearI s t).1, (serverHearI s t).2, ()) := by
  refine impl_ServerHear_of 0 s t ?_
  unfold impl_ServerHear_R serverHearI
  have hcl := impl_cloneServer_t s hc hs hg
  have hgu := impl_gaveUp_t s hc hs hg
  have hgr := impl_greeted_t s t hc hs hg ht
  have hd : (doneT s.share).cost ≤ 400000000 := mkT_le _ _
  simp only [impl_ServerOk_t s (by omega) (by omega) hh (by omega), impl_TermOk_t t (by omega), hcl, hgu, hgr, impl_Done_t s.share hs, impl_Same_t (doneT s.share) (by omega), qb_s, Term.eta, beq_int, bne_int]
  cases ho : serverOk s with
  | false => rw [if_neg (by simp)]; rfl
  | true =>
    cases hk : t.ok with
    | false => rw [if_neg (by simp)]; rfl
    | true =>
      simp only [Bool.not_true, br_f]
      obtain ⟨s0, s1, i0, i1, o0, o1, g1⟩ := serverOk_rng ho
      by_cases h5 : s.step = 5
      · rw [decide_eq_true h5, br_t, if_neg (by simp [h5])]
      rw [decide_eq_false h5, br_f, if_pos ⟨trivial, trivial, h5⟩]
      by_cases h2 : s.step = 2
      · rw [decide_eq_true h2, br_t, if_pos h2]
      rw [decide_eq_false h2, br_f, if_neg h2]
      by_cases h3 : s.step = 3
      · rw [decide_eq_true h3, br_t, if_pos h3]
        by_cases d1 : (doneT s.share).op = 7
        · rw [decide_eq_true d1, Bool.not_true, br_f]
          by_cases d2 : doneT s.share = t
          · rw [decide_eq_true d2, Bool.not_true, br_f, if_pos ⟨d1, d2⟩]
          · rw [decide_eq_false d2, Bool.not_false, br_t, if_neg fun g => d2 g.2]
        · rw [decide_eq_false d1, Bool.not_false, br_t, if_neg fun g => d1 g.1]
      rw [decide_eq_false h3, br_f, if_neg h3, impl_heard_t s t (by omega) hc hs hg ht i0 (by omega) o0 (by omega), qb_s]

theorem impl_Greeting_t : impl_Greeting_T = some (textT w220) := by
  refine impl_Greeting_of 0 ?_
  unfold impl_Greeting_R
  rw [impl_text_t, qb_s]
  rfl

/-- A new host. -/
def newServer (host : ByteArray) (key eph til : Int) : Server := ⟨1, host, key, eph, certT ⟨host, mkT 4 [atomT key], til⟩, zeroT, 0, 0, false, []⟩

def serverNew (host : ByteArray) (key eph til : Int) : Server × Bool := if serverOk (newServer host key eph til) = true then (newServer host key eph til, true) else (zeroServer, false)

theorem impl_ServerNew_t (host : ByteArray) (key eph til : Int) (hh : host.size ≤ 900000000) : impl_ServerNew_T host key eph til = some ((serverNew host key eph til).1, (serverNew host key eph til).2, ()) := by
  refine impl_ServerNew_of 0 host key eph til ?_
  unfold impl_ServerNew_R serverNew
  have hc := certT_cost ⟨host, mkT 4 [atomT key], til⟩
  have hk : (mkT 4 [atomT key]).cost ≤ 400000000 := mkT_le _ _
  rw [impl_Atom_t, qb_s, impl_Pub_t _ (by rw [atomT_cost]; omega), qb_s, impl_CertTerm_t ⟨host, mkT 4 [atomT key], til⟩ hh hk, qb_s,
    impl_ServerOk_t (Server.mk 1 host key eph (certT ⟨host, mkT 4 [atomT key], til⟩) (Term.mk 0 0 (ByteArray.mk #[]) []) 0 0 false []) (by show (certT ⟨host, mkT 4 [atomT key], til⟩).cost < _; omega) (by have := zero_le'; show (Term.mk 0 0 (ByteArray.mk #[]) []).cost < _; omega) hh (by simp), qb_s]
  rw [show (Server.mk 1 host key eph (certT ⟨host, mkT 4 [atomT key], til⟩) (Term.mk 0 0 (ByteArray.mk #[]) []) 0 0 false []) = newServer host key eph til from rfl]
  cases serverOk (newServer host key eph til) with
  | false => rfl
  | true =>
    simp only [Term.eta]
    rfl
theorem spec_ServerNew_t (host : ByteArray) (key eph til : Int) (hh : host.size ≤ 900000000) : spec_ServerNew_T host key eph til = some ((serverNew host key eph til).1, (serverNew host key eph til).2, ()) := by
  refine spec_ServerNew_of 0 host key eph til ?_
  unfold spec_ServerNew_R serverNew
  have hc := certT_cost ⟨host, mkT 4 [atomT key], til⟩
  have hk : (mkT 4 [atomT key]).cost ≤ 400000000 := mkT_le _ _
  rw [spec_Atom_t, qb_s, spec_Pub_t _ (by rw [atomT_cost]; omega), qb_s, spec_CertTerm_t ⟨host, mkT 4 [atomT key], til⟩ hh hk, qb_s,
    spec_ServerOk_t (Server.mk 1 host key eph (certT ⟨host, mkT 4 [atomT key], til⟩) (Term.mk 0 0 (ByteArray.mk #[]) []) 0 0 false []) (by show (certT ⟨host, mkT 4 [atomT key], til⟩).cost < _; omega) (by have := zero_le'; show (Term.mk 0 0 (ByteArray.mk #[]) []).cost < _; omega) hh (by simp), qb_s]
  rw [show (Server.mk 1 host key eph (certT ⟨host, mkT 4 [atomT key], til⟩) (Term.mk 0 0 (ByteArray.mk #[]) []) 0 0 false []) = newServer host key eph til from rfl]
  cases serverOk (newServer host key eph til) with
  | false => rfl
  | true =>
    simp only [Term.eta]
    rfl
end Go.Proofs.YtgegmojoakkohaaGreatDoor
