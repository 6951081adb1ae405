/-
  Calls: what they hear and say, as the program has it.
-/
import Derived.Test.YtgegmojoakkohaaGreatDoorMeMm
import Derived.Test.YtgegmojoakkohaaGreatDoorMeCl
namespace Go.Proofs.YtgegmojoakkohaaGreatDoor
open Go.Vm
set_option linter.unusedVariables false
set_option linter.unusedSimpArgs false

theorem text_le (s : ByteArray) (h : s.size ≤ 400000000) : (textT s).cost ≤ 400000000 := by rw [textT_cost]; exact h

theorem mkT_le (op : Int) (l : List Term) : (mkT op l).cost ≤ 400000000 := Nat.le_trans (mkT_cost op l) (by decide)

theorem impl_cloneClient_t (c : Client) (hs : c.share.cost ≤ 400000000) : impl_cloneClient_T c = some c := by
  refine impl_cloneClient_of 0 c ?_
  unfold impl_cloneClient_R
  rw [impl_clone_t c.share (by omega), qb_s, Term.eta]
theorem impl_ClientSay_t (c : Client) (t : Term) (hs : c.share.cost ≤ 400000000) (ht : t.cost ≤ 400000000) (o0 : 0 ≤ c.out) (o1 : c.out ≤ 1000) : impl_ClientSay_T c t = some ((sayI c t).1, (sayI c t).2, ()) := by
  refine impl_ClientSay_of 0 c t ?_
  unfold impl_ClientSay_R sayI
  rw [impl_cloneClient_t c hs, qb_s]
  cases h : c.tls with
  | false => rw [Bool.not_false, br_t, impl_clone_t t (by omega), qb_s]; simp only [Term.eta]; rw [if_neg (by decide)]; rw [← h]
  | true =>
    rw [Bool.not_true, br_f, impl_KeyOf_t c.share 1 hs (by omega) (by omega), qb_s, impl_Seal_t _ c.out t (show (keyT c.share 1).cost ≤ 400000000 from mkT_le _ _) ht (by omega) (by omega), qb_s, if_pos rfl]
    simp only [Term.eta, h]
theorem impl_failed_t (c : Client) (hs : c.share.cost ≤ 400000000) : impl_failed_T c = some ((failedI c).1, (failedI c).2, ()) := by
  refine impl_failed_of 0 c ?_
  unfold impl_failed_R
  rw [impl_cloneClient_t { c with step := 10 } hs, qb_s]
  simp only [Term.eta]
  rfl
theorem sayI_share (c : Client) (t : Term) : (sayI c t).1.share = c.share := by unfold sayI; split <;> rfl

theorem impl_goes_t (c : Client) (t : Term) (step : Int) (hs : c.share.cost ≤ 400000000) (ht : t.cost ≤ 400000000) (o0 : 0 ≤ c.out) (o1 : c.out ≤ 1000) : impl_goes_T c t step = some ((goesI c t step).1, (goesI c t step).2, ()) := by
  refine impl_goes_of 0 c t step ?_
  unfold impl_goes_R goesI
  rw [impl_ClientSay_t c t hs ht o0 o1, qb_s]
  dsimp only
  by_cases h : (sayI c t).1.out > 100
  · rw [decide_eq_true h, br_t, impl_failed_t c hs, qb_s, if_pos h]
    simp only [Term.eta]
  · rw [decide_eq_false h, br_f, if_neg h]
    simp only [Term.eta]
theorem impl_heardReply_t (c : Client) (t : Term) (now : Int) (hs : c.share.cost ≤ 400000000) (ht : t.cost ≤ 400000000) : impl_heardReply_T c t now = some ((heardReplyI c t now).1, (heardReplyI c t now).2, ()) := by
  refine impl_heardReply_of 0 c t now ?_
  have ha : (atomT c.eph).cost ≤ 400000000 := by rw [atomT_cost]; omega
  obtain ⟨r1, r2, r3, r4⟩ := replyOf_cost (atomT c.eph) t
  unfold impl_heardReply_R heardReplyI
  rw [impl_Atom_t, qb_s, impl_ReplyOf_t _ t ha ht, qb_s]
  dsimp only
  generalize replyOf (atomT c.eph) t = r at r1 r2 r3 r4 ⊢
  obtain ⟨p, s, ct, sg, b⟩ := r
  dsimp only at r1 r2 r3 r4 ⊢
  cases b with
  | false =>
    rw [Bool.not_false, br_t, impl_failed_t c hs, qb_s, if_neg (by decide)]
    simp only [Term.eta]
  | true =>
    rw [Bool.not_true, br_f, impl_Proved_t _ p ct sg c.host now ha (by omega) (by omega) (by omega), qb_s, if_pos rfl]
    generalize proved (atomT c.eph) p ct sg c.host now = pr
    have hg := impl_goes_t { c with tls := true, share := s, proved := pr, out := 1 } (textT wMail) 5 (by show s.cost ≤ _; omega) (text_le _ (by decide)) (by show (0 : Int) ≤ 1; omega) (by show (1 : Int) ≤ 1000; omega)
    have hl : (goesI { c with tls := true, share := s, proved := pr, out := 1 } (textT wMail) 5).2.length ≤ 1 := by
      unfold goesI failedI
      split <;> simp
    rw [impl_cloneClient_t c hs]
    simp only [qb_s, impl_text_t, impl_Done_t s (by omega)]
    have hgo : impl_goes_T (Client.mk c.step c.host c.must c.eph c.body s c.inn 1 true pr) (textT ⟨#[109, 97, 105, 108]⟩) 5 = _ := hg
    rw [hgo]
    simp only [qb_s, Term.eta]
    generalize goesI { c with tls := true, share := s, proved := pr, out := 1 } (textT wMail) 5 = g at hl ⊢
    obtain ⟨g, l⟩ := g
    dsimp only at hl ⊢
    have hble : Nat.ble ([doneT s].length + l.length) appMax = true := by rw [Nat.ble_eq, appMax, List.length_singleton]; omega
    rw [hble]
    have hnil : (br (isNil l) (some (g, [doneT s], ())) (br true (some (g, [doneT s] ++ l, ())) none) : Option (Client × List Term × Unit)) = some (g, doneT s :: l, ()) := by
      cases l <;> rfl
    have hnil' := hnil
    cases c.must <;> cases pr <;> first | exact hnil | (rw [impl_failed_t c hs]; simp only [qb_s, br_t, Bool.not_false, Term.eta]; rfl)
theorem impl_Line_t (t : Term) : impl_Line_T t = some ((lineI t).1, (lineI t).2, ()) := by
  refine impl_Line_of 0 t ?_
  unfold impl_Line_R lineI
  by_cases h : t.op = 2
  · rw [if_pos h, bne_int, decide_eq_true h]; rfl
  · rw [if_neg h, bne_int, decide_eq_false h]; rfl

theorem impl_ClientLine_t (c : Client) (t : Term) (hs : c.share.cost ≤ 400000000) (ht : t.cost ≤ 400000000) (o0 : 0 ≤ c.inn) (o1 : c.inn ≤ 1000) : impl_ClientLine_T c t = some ((clientLineI c t).1, (clientLineI c t).2, ()) := by
  refine impl_ClientLine_of 0 c t ?_
  unfold impl_ClientLine_R clientLineI
  cases h : c.tls with
  | false => rw [Bool.not_false, br_t, impl_Line_t, qb_s, if_neg (by decide)]
  | true =>
    rw [Bool.not_true, br_f, impl_KeyOf_t c.share 2 hs (by omega) (by omega), qb_s, impl_Open_t _ c.inn t (show (keyT c.share 2).cost ≤ 400000000 from mkT_le _ _) ht (by omega) (by omega), qb_s, if_pos rfl]
    dsimp only
    cases h2 : (openT (keyT c.share 2) c.inn t).2 with
    | false => rw [Bool.not_false, br_t, if_neg (by decide)]
    | true => rw [Bool.not_true, br_f, impl_Line_t, qb_s, if_pos rfl]
theorem impl_heardLine_c1_t (host : ByteArray) (must : Bool) (eph : Int) (body : Int) (share : Term) (inn : Int) (out : Int) (tls : Bool) (prv : Bool) (line : ByteArray) (hs : share.cost ≤ 400000000) (o0 : 0 ≤ out) (o1 : out ≤ 1000) : impl_heardLine_T (Client.mk 1 host must eph body share inn out tls prv) line = some ((heardLineI (Client.mk 1 host must eph body share inn out tls prv) line).1, (heardLineI (Client.mk 1 host must eph body share inn out tls prv) line).2, ()) := by
  refine impl_heardLine_c1_of 0 host must eph body share inn out tls prv line ?_
  unfold impl_heardLine_c1_R
  rw [impl_cloneClient_t _ hs, qb_s]
  dsimp only
  try simp only [beq_bytes, impl_text_t, qb_s, cond_false, impl_Atom_t]
  by_cases h : line = w220
  · have h' : decide (line = (⟨#[50, 50, 48]⟩ : ByteArray)) = true := decide_eq_true h
    simp only [h', br_t]
    have e : heardLineI (Client.mk 1 host must eph body share inn out tls prv) line = goesI (nextI (Client.mk 1 host must eph body share inn out tls prv)) (textT wEhlo) 2 := by
      unfold heardLineI
      simp [h]
    have eg := impl_goes_t (nextI (Client.mk 1 host must eph body share inn out tls prv)) (textT wEhlo) 2 (by unfold nextI; split <;> exact hs) (text_le _ (by decide)) (by unfold nextI; split <;> exact o0) (by unfold nextI; split <;> exact o1)
    unfold nextI at eg e
    rw [e]
    cases tls
    · exact (qb_run eg).trans (by simp only [Term.eta])
    · exact (qb_run eg).trans (by simp only [Term.eta])
  · have h' : decide (line = (⟨#[50, 50, 48]⟩ : ByteArray)) = false := decide_eq_false h
    simp only [h', br_f]
    have e : heardLineI (Client.mk 1 host must eph body share inn out tls prv) line = failedI (Client.mk 1 host must eph body share inn out tls prv) := by
      unfold heardLineI
      simp [h]
    rw [e, impl_failed_t _ hs]
    simp only [qb_s, Term.eta]
    cases tls <;> rfl

theorem impl_heardLine_c2_t (host : ByteArray) (must : Bool) (eph : Int) (body : Int) (share : Term) (inn : Int) (out : Int) (tls : Bool) (prv : Bool) (line : ByteArray) (hs : share.cost ≤ 400000000) (o0 : 0 ≤ out) (o1 : out ≤ 1000) : impl_heardLine_T (Client.mk 2 host must eph body share inn out tls prv) line = some ((heardLineI (Client.mk 2 host must eph body share inn out tls prv) line).1, (heardLineI (Client.mk 2 host must eph body share inn out tls prv) line).2, ()) := by
  refine impl_heardLine_c2_of 0 host must eph body share inn out tls prv line ?_
  unfold impl_heardLine_c2_R
  rw [impl_cloneClient_t _ hs, qb_s]
  dsimp only
  try simp only [beq_bytes, impl_text_t, qb_s, cond_false, impl_Atom_t]
  by_cases h : line = w250s
  · have h' : decide (line = (⟨#[50, 53, 48, 32, 115, 116, 97, 114, 116, 116, 108, 115]⟩ : ByteArray)) = true := decide_eq_true h
    simp only [h', br_t]
    have e : heardLineI (Client.mk 2 host must eph body share inn out tls prv) line = goesI (nextI (Client.mk 2 host must eph body share inn out tls prv)) (textT wStart) 3 := by
      unfold heardLineI
      simp [h]
    have eg := impl_goes_t (nextI (Client.mk 2 host must eph body share inn out tls prv)) (textT wStart) 3 (by unfold nextI; split <;> exact hs) (text_le _ (by decide)) (by unfold nextI; split <;> exact o0) (by unfold nextI; split <;> exact o1)
    unfold nextI at eg e
    rw [e]
    cases tls
    · exact (qb_run eg).trans (by simp only [Term.eta])
    · exact (qb_run eg).trans (by simp only [Term.eta])
  have h' : decide (line = (⟨#[50, 53, 48, 32, 115, 116, 97, 114, 116, 116, 108, 115]⟩ : ByteArray)) = false := decide_eq_false h
  simp only [h', br_f]
  by_cases g : line = w250 ∧ must = false
  · have g' : decide (line = (⟨#[50, 53, 48]⟩ : ByteArray)) = true := decide_eq_true g.1
    obtain ⟨g1, g2⟩ := g
    subst g2
    simp only [g', br_t, br_f, Bool.not_false]
    have e : heardLineI (Client.mk 2 host false eph body share inn out tls prv) line = goesI (nextI (Client.mk 2 host false eph body share inn out tls prv)) (textT wMail) 5 := by
      unfold heardLineI
      simp [h, g1, show ¬ w250 = w250s by decide]
    have eg := impl_goes_t (nextI (Client.mk 2 host false eph body share inn out tls prv)) (textT wMail) 5 (by unfold nextI; split <;> exact hs) (text_le _ (by decide)) (by unfold nextI; split <;> exact o0) (by unfold nextI; split <;> exact o1)
    unfold nextI at eg e
    rw [e]
    cases tls
    · exact (qb_run eg).trans (by simp only [Term.eta])
    · exact (qb_run eg).trans (by simp only [Term.eta])
  · have e : heardLineI (Client.mk 2 host must eph body share inn out tls prv) line = failedI (Client.mk 2 host must eph body share inn out tls prv) := by
      unfold heardLineI
      simp [h]
      intro g1
      intro g2
      exact absurd ⟨g1, g2⟩ g
    rw [e, impl_failed_t _ hs]
    simp only [qb_s, Term.eta]
    have hd : decide (line = (⟨#[50, 53, 48]⟩ : ByteArray)) = true → must = true := fun q => by
      cases must with
      | true => rfl
      | false => exact absurd ⟨of_decide_eq_true q, rfl⟩ g
    generalize decide (line = (⟨#[50, 53, 48]⟩ : ByteArray)) = d at hd ⊢
    cases d with
    | false => cases tls <;> rfl
    | true => rw [hd rfl]; cases tls <;> rfl

theorem impl_heardLine_c3_t (host : ByteArray) (must : Bool) (eph : Int) (body : Int) (share : Term) (inn : Int) (out : Int) (tls : Bool) (prv : Bool) (line : ByteArray) (hs : share.cost ≤ 400000000) (o0 : 0 ≤ out) (o1 : out ≤ 1000) : impl_heardLine_T (Client.mk 3 host must eph body share inn out tls prv) line = some ((heardLineI (Client.mk 3 host must eph body share inn out tls prv) line).1, (heardLineI (Client.mk 3 host must eph body share inn out tls prv) line).2, ()) := by
  refine impl_heardLine_c3_of 0 host must eph body share inn out tls prv line ?_
  unfold impl_heardLine_c3_R
  rw [impl_cloneClient_t _ hs, qb_s]
  dsimp only
  try simp only [beq_bytes, impl_text_t, qb_s, cond_false, impl_Atom_t]
  rw [impl_Hello_t _ (by rw [atomT_cost]; omega)]
  simp only [qb_s]
  by_cases h : line = w220
  · have h' : decide (line = (⟨#[50, 50, 48]⟩ : ByteArray)) = true := decide_eq_true h
    simp only [h', br_t]
    have e : heardLineI (Client.mk 3 host must eph body share inn out tls prv) line = ({ nextI (Client.mk 3 host must eph body share inn out tls prv) with step := 4 }, [helloT (atomT eph)]) := by
      unfold heardLineI
      simp [h]
    rw [e]
    simp only [Term.eta]
    cases tls <;> rfl
  · have h' : decide (line = (⟨#[50, 50, 48]⟩ : ByteArray)) = false := decide_eq_false h
    simp only [h', br_f]
    have e : heardLineI (Client.mk 3 host must eph body share inn out tls prv) line = failedI (Client.mk 3 host must eph body share inn out tls prv) := by
      unfold heardLineI
      simp [h]
    rw [e, impl_failed_t _ hs]
    simp only [qb_s, Term.eta]
    cases tls <;> rfl

theorem impl_heardLine_c4_t (host : ByteArray) (must : Bool) (eph : Int) (body : Int) (share : Term) (inn : Int) (out : Int) (tls : Bool) (prv : Bool) (line : ByteArray) (hs : share.cost ≤ 400000000) (o0 : 0 ≤ out) (o1 : out ≤ 1000) : impl_heardLine_T (Client.mk 4 host must eph body share inn out tls prv) line = some ((heardLineI (Client.mk 4 host must eph body share inn out tls prv) line).1, (heardLineI (Client.mk 4 host must eph body share inn out tls prv) line).2, ()) := by
  refine impl_heardLine_c4_of 0 host must eph body share inn out tls prv line ?_
  unfold impl_heardLine_c4_R
  rw [impl_cloneClient_t _ hs, qb_s]
  dsimp only
  try simp only [beq_bytes, impl_text_t, qb_s, cond_false, impl_Atom_t]
  have e : heardLineI (Client.mk 4 host must eph body share inn out tls prv) line = failedI (Client.mk 4 host must eph body share inn out tls prv) := by
    unfold heardLineI
    simp
  rw [e, impl_failed_t _ hs]
  simp only [qb_s, Term.eta]
  cases tls <;> rfl

theorem impl_heardLine_c5_t (host : ByteArray) (must : Bool) (eph : Int) (body : Int) (share : Term) (inn : Int) (out : Int) (tls : Bool) (prv : Bool) (line : ByteArray) (hs : share.cost ≤ 400000000) (o0 : 0 ≤ out) (o1 : out ≤ 1000) : impl_heardLine_T (Client.mk 5 host must eph body share inn out tls prv) line = some ((heardLineI (Client.mk 5 host must eph body share inn out tls prv) line).1, (heardLineI (Client.mk 5 host must eph body share inn out tls prv) line).2, ()) := by
  refine impl_heardLine_c5_of 0 host must eph body share inn out tls prv line ?_
  unfold impl_heardLine_c5_R
  rw [impl_cloneClient_t _ hs, qb_s]
  dsimp only
  try simp only [beq_bytes, impl_text_t, qb_s, cond_false, impl_Atom_t]
  by_cases h : line = w250
  · have h' : decide (line = (⟨#[50, 53, 48]⟩ : ByteArray)) = true := decide_eq_true h
    simp only [h', br_t]
    have e : heardLineI (Client.mk 5 host must eph body share inn out tls prv) line = goesI (nextI (Client.mk 5 host must eph body share inn out tls prv)) (textT wRcpt) 6 := by
      unfold heardLineI
      simp [h]
    have eg := impl_goes_t (nextI (Client.mk 5 host must eph body share inn out tls prv)) (textT wRcpt) 6 (by unfold nextI; split <;> exact hs) (text_le _ (by decide)) (by unfold nextI; split <;> exact o0) (by unfold nextI; split <;> exact o1)
    unfold nextI at eg e
    rw [e]
    cases tls
    · exact (qb_run eg).trans (by simp only [Term.eta])
    · exact (qb_run eg).trans (by simp only [Term.eta])
  · have h' : decide (line = (⟨#[50, 53, 48]⟩ : ByteArray)) = false := decide_eq_false h
    simp only [h', br_f]
    have e : heardLineI (Client.mk 5 host must eph body share inn out tls prv) line = failedI (Client.mk 5 host must eph body share inn out tls prv) := by
      unfold heardLineI
      simp [h]
    rw [e, impl_failed_t _ hs]
    simp only [qb_s, Term.eta]
    cases tls <;> rfl

theorem impl_heardLine_c6_t (host : ByteArray) (must : Bool) (eph : Int) (body : Int) (share : Term) (inn : Int) (out : Int) (tls : Bool) (prv : Bool) (line : ByteArray) (hs : share.cost ≤ 400000000) (o0 : 0 ≤ out) (o1 : out ≤ 1000) : impl_heardLine_T (Client.mk 6 host must eph body share inn out tls prv) line = some ((heardLineI (Client.mk 6 host must eph body share inn out tls prv) line).1, (heardLineI (Client.mk 6 host must eph body share inn out tls prv) line).2, ()) := by
  refine impl_heardLine_c6_of 0 host must eph body share inn out tls prv line ?_
  unfold impl_heardLine_c6_R
  rw [impl_cloneClient_t _ hs, qb_s]
  dsimp only
  try simp only [beq_bytes, impl_text_t, qb_s, cond_false, impl_Atom_t]
  by_cases h : line = w250
  · have h' : decide (line = (⟨#[50, 53, 48]⟩ : ByteArray)) = true := decide_eq_true h
    simp only [h', br_t]
    have e : heardLineI (Client.mk 6 host must eph body share inn out tls prv) line = goesI (nextI (Client.mk 6 host must eph body share inn out tls prv)) (textT wData) 7 := by
      unfold heardLineI
      simp [h]
    have eg := impl_goes_t (nextI (Client.mk 6 host must eph body share inn out tls prv)) (textT wData) 7 (by unfold nextI; split <;> exact hs) (text_le _ (by decide)) (by unfold nextI; split <;> exact o0) (by unfold nextI; split <;> exact o1)
    unfold nextI at eg e
    rw [e]
    cases tls
    · exact (qb_run eg).trans (by simp only [Term.eta])
    · exact (qb_run eg).trans (by simp only [Term.eta])
  · have h' : decide (line = (⟨#[50, 53, 48]⟩ : ByteArray)) = false := decide_eq_false h
    simp only [h', br_f]
    have e : heardLineI (Client.mk 6 host must eph body share inn out tls prv) line = failedI (Client.mk 6 host must eph body share inn out tls prv) := by
      unfold heardLineI
      simp [h]
    rw [e, impl_failed_t _ hs]
    simp only [qb_s, Term.eta]
    cases tls <;> rfl

theorem impl_heardLine_c7_t (host : ByteArray) (must : Bool) (eph : Int) (body : Int) (share : Term) (inn : Int) (out : Int) (tls : Bool) (prv : Bool) (line : ByteArray) (hs : share.cost ≤ 400000000) (o0 : 0 ≤ out) (o1 : out ≤ 1000) : impl_heardLine_T (Client.mk 7 host must eph body share inn out tls prv) line = some ((heardLineI (Client.mk 7 host must eph body share inn out tls prv) line).1, (heardLineI (Client.mk 7 host must eph body share inn out tls prv) line).2, ()) := by
  refine impl_heardLine_c7_of 0 host must eph body share inn out tls prv line ?_
  unfold impl_heardLine_c7_R
  rw [impl_cloneClient_t _ hs, qb_s]
  dsimp only
  try simp only [beq_bytes, impl_text_t, qb_s, cond_false, impl_Atom_t]
  rw [impl_Pair_t _ _ (text_le _ (by decide)) (by rw [atomT_cost]; omega)]
  simp only [qb_s]
  by_cases h : line = w354
  · have h' : decide (line = (⟨#[51, 53, 52]⟩ : ByteArray)) = true := decide_eq_true h
    simp only [h', br_t]
    have e : heardLineI (Client.mk 7 host must eph body share inn out tls prv) line = goesI (nextI (Client.mk 7 host must eph body share inn out tls prv)) (mkT 3 [textT wBody, atomT body]) 8 := by
      unfold heardLineI
      simp [h]
    have eg := impl_goes_t (nextI (Client.mk 7 host must eph body share inn out tls prv)) (mkT 3 [textT wBody, atomT body]) 8 (by unfold nextI; split <;> exact hs) (mkT_le _ _) (by unfold nextI; split <;> exact o0) (by unfold nextI; split <;> exact o1)
    unfold nextI at eg e
    rw [e]
    cases tls
    · exact (qb_run eg).trans (by simp only [Term.eta])
    · exact (qb_run eg).trans (by simp only [Term.eta])
  · have h' : decide (line = (⟨#[51, 53, 52]⟩ : ByteArray)) = false := decide_eq_false h
    simp only [h', br_f]
    have e : heardLineI (Client.mk 7 host must eph body share inn out tls prv) line = failedI (Client.mk 7 host must eph body share inn out tls prv) := by
      unfold heardLineI
      simp [h]
    rw [e, impl_failed_t _ hs]
    simp only [qb_s, Term.eta]
    cases tls <;> rfl

theorem impl_heardLine_c8_t (host : ByteArray) (must : Bool) (eph : Int) (body : Int) (share : Term) (inn : Int) (out : Int) (tls : Bool) (prv : Bool) (line : ByteArray) (hs : share.cost ≤ 400000000) (o0 : 0 ≤ out) (o1 : out ≤ 1000) : impl_heardLine_T (Client.mk 8 host must eph body share inn out tls prv) line = some ((heardLineI (Client.mk 8 host must eph body share inn out tls prv) line).1, (heardLineI (Client.mk 8 host must eph body share inn out tls prv) line).2, ()) := by
  refine impl_heardLine_c8_of 0 host must eph body share inn out tls prv line ?_
  unfold impl_heardLine_c8_R
  rw [impl_cloneClient_t _ hs, qb_s]
  dsimp only
  try simp only [beq_bytes, impl_text_t, qb_s, cond_false, impl_Atom_t]
  by_cases h : line = w250
  · have h' : decide (line = (⟨#[50, 53, 48]⟩ : ByteArray)) = true := decide_eq_true h
    simp only [h', br_t]
    have e : heardLineI (Client.mk 8 host must eph body share inn out tls prv) line = ({ nextI (Client.mk 8 host must eph body share inn out tls prv) with step := 9 }, []) := by
      unfold heardLineI
      simp [h]
    rw [e]
    simp only [Term.eta]
    cases tls <;> rfl
  · have h' : decide (line = (⟨#[50, 53, 48]⟩ : ByteArray)) = false := decide_eq_false h
    simp only [h', br_f]
    have e : heardLineI (Client.mk 8 host must eph body share inn out tls prv) line = failedI (Client.mk 8 host must eph body share inn out tls prv) := by
      unfold heardLineI
      simp [h]
    rw [e, impl_failed_t _ hs]
    simp only [qb_s, Term.eta]
    cases tls <;> rfl

theorem impl_heardLine_c9_t (host : ByteArray) (must : Bool) (eph : Int) (body : Int) (share : Term) (inn : Int) (out : Int) (tls : Bool) (prv : Bool) (line : ByteArray) (hs : share.cost ≤ 400000000) (o0 : 0 ≤ out) (o1 : out ≤ 1000) : impl_heardLine_T (Client.mk 9 host must eph body share inn out tls prv) line = some ((heardLineI (Client.mk 9 host must eph body share inn out tls prv) line).1, (heardLineI (Client.mk 9 host must eph body share inn out tls prv) line).2, ()) := by
  refine impl_heardLine_c9_of 0 host must eph body share inn out tls prv line ?_
  unfold impl_heardLine_c9_R
  rw [impl_cloneClient_t _ hs, qb_s]
  dsimp only
  try simp only [beq_bytes, impl_text_t, qb_s, cond_false, impl_Atom_t]
  have e : heardLineI (Client.mk 9 host must eph body share inn out tls prv) line = failedI (Client.mk 9 host must eph body share inn out tls prv) := by
    unfold heardLineI
    simp
  rw [e, impl_failed_t _ hs]
  simp only [qb_s, Term.eta]
  cases tls <;> rfl

theorem impl_heardLine_c10_t (host : ByteArray) (must : Bool) (eph : Int) (body : Int) (share : Term) (inn : Int) (out : Int) (tls : Bool) (prv : Bool) (line : ByteArray) (hs : share.cost ≤ 400000000) (o0 : 0 ≤ out) (o1 : out ≤ 1000) : impl_heardLine_T (Client.mk 10 host must eph body share inn out tls prv) line = some ((heardLineI (Client.mk 10 host must eph body share inn out tls prv) line).1, (heardLineI (Client.mk 10 host must eph body share inn out tls prv) line).2, ()) := by
  refine impl_heardLine_c10_of 0 host must eph body share inn out tls prv line ?_
  unfold impl_heardLine_c10_R
  rw [impl_cloneClient_t _ hs, qb_s]
  dsimp only
  try simp only [beq_bytes, impl_text_t, qb_s, cond_false, impl_Atom_t]
  have e : heardLineI (Client.mk 10 host must eph body share inn out tls prv) line = failedI (Client.mk 10 host must eph body share inn out tls prv) := by
    unfold heardLineI
    simp
  rw [e, impl_failed_t _ hs]
  simp only [qb_s, Term.eta]
  cases tls <;> rfl

theorem impl_heardLine_t (c : Client) (line : ByteArray) (s0 : 1 ≤ c.step) (s1 : c.step ≤ 10) (hs : c.share.cost ≤ 400000000) (o0 : 0 ≤ c.out) (o1 : c.out ≤ 1000) : impl_heardLine_T c line = some ((heardLineI c line).1, (heardLineI c line).2, ()) := by
  obtain ⟨step, host, must, eph, body, share, inn, out, tls, prv⟩ := c
  dsimp only at s0 s1 hs o0 o1
  have hk : step = 1 ∨ step = 2 ∨ step = 3 ∨ step = 4 ∨ step = 5 ∨ step = 6 ∨ step = 7 ∨ step = 8 ∨ step = 9 ∨ step = 10 := by omega
  rcases hk with rfl | rfl | rfl | rfl | rfl | rfl | rfl | rfl | rfl | rfl
  · exact impl_heardLine_c1_t host must eph body share inn out tls prv line hs o0 o1
  · exact impl_heardLine_c2_t host must eph body share inn out tls prv line hs o0 o1
  · exact impl_heardLine_c3_t host must eph body share inn out tls prv line hs o0 o1
  · exact impl_heardLine_c4_t host must eph body share inn out tls prv line hs o0 o1
  · exact impl_heardLine_c5_t host must eph body share inn out tls prv line hs o0 o1
  · exact impl_heardLine_c6_t host must eph body share inn out tls prv line hs o0 o1
  · exact impl_heardLine_c7_t host must eph body share inn out tls prv line hs o0 o1
  · exact impl_heardLine_c8_t host must eph body share inn out tls prv line hs o0 o1
  · exact impl_heardLine_c9_t host must eph body share inn out tls prv line hs o0 o1
  · exact impl_heardLine_c10_t host must eph body share inn out tls prv line hs o0 o1

theorem impl_ClientHear_t (c : Client) (t : Term) (now : Int) (hs : c.share.cost ≤ 400000000) (ht : t.cost ≤ 400000000) (hh : c.host.size ≤ 900000000) : impl_ClientHear_T c t now = some ((clientHearI c t now).1, (clientHearI c t now).2, ()) := by
  refine impl_ClientHear_of 0 c t now ?_
  unfold impl_ClientHear_R clientHearI
  rw [impl_ClientOk_t c (by omega) hh, impl_TermOk_t t (by omega), impl_cloneClient_t c hs]
  simp only [qb_s, Term.eta]
  cases h1 : clientOk c with
  | false => rw [if_neg (by simp)]; rfl
  | true =>
    cases h2 : t.ok with
    | false => rw [if_neg (by simp)]; rfl
    | true =>
      rw [Bool.not_true, br_f, br_f]
      simp only [beq_int]
      by_cases h9 : c.step = 9
      · rw [if_neg (by simp [h9]), decide_eq_true h9]; rfl
      by_cases h10 : c.step = 10
      · rw [if_neg (by simp [h10]), decide_eq_false h9, decide_eq_true h10]; rfl
      rw [if_pos (by simp [h9, h10]), decide_eq_false h9, decide_eq_false h10, br_f, br_f]
      obtain ⟨s0, s1, i0, i1, o0, o1⟩ := clientOk_rng h1
      by_cases h4 : c.step = 4
      · rw [decide_eq_true h4, br_t, if_pos h4, impl_heardReply_t c t now hs ht, qb_s]
      rw [decide_eq_false h4, br_f, if_neg h4, impl_ClientLine_t c t hs ht (by omega) (by omega), qb_s]
      dsimp only
      cases h5 : (clientLineI c t).2 with
      | false => rw [Bool.not_false, br_t, impl_failed_t c hs, qb_s, if_neg (by decide)]
      | true => rw [Bool.not_true, br_f, impl_heardLine_t c _ s0 s1 hs (by omega) (by omega), qb_s, if_pos rfl]

end Go.Proofs.YtgegmojoakkohaaGreatDoor
