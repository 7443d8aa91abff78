/- The reference's reader of trees: brackets, and the whole. -/
import Derived.Test.YtgpjodcopajlkaaDoorPwT16
import Derived.Test.YtgpjodcopajlkaaDoorPwT15
set_option linter.unusedSimpArgs false
set_option linter.unusedVariables false
set_option linter.unusedSectionVars false
set_option maxRecDepth 20000
namespace Go.Proofs.Pw
variable [Globs]
end Go.Proofs.Pw
namespace Go.Proofs.Pw
def valOk (s : ByteArray) : Prop := ∃ t, okT t /\ textT t = s
noncomputable instance (s : ByteArray) : Decidable (valOk s) := Classical.propDecidable _
end Go.Proofs.Pw
namespace Go.Proofs.Pw
theorem span_eq {l w x : List UInt8} {p : UInt8 -> Bool} {a : Nat} (h : l.drop a = w ++ x) (hw : ∀ c ∈ w, p c = true) (hx : ∀ b r, x = b :: r -> p b = false) : spanE p l a = a + w.length /\ sub l a (spanE p l a) = w := by
 have key : (w ++ x).takeWhile p = w := by
  rw [List.takeWhile_append_of_pos hw]
  cases x with
  | nil => simp
  | cons b r => rw [List.takeWhile_cons_of_neg (by rw [hx b r rfl]; simp), List.append_nil]
 have e1 : spanE p l a = a + w.length := by unfold spanE; rw [h, key]
 exact ⟨e1, by rw [span_sub, h, key]⟩
theorem ltrB_of {c : UInt8} (h : letter c) : ltrB c = true := by unfold ltrB; simpa [letter] using h
theorem stop_ltr {x : List UInt8} (h : stopsR x) : ∀ b r, x = b :: r -> ltrB b = false := fun b r e => by
 subst e
 rcases h with rfl | rfl | rfl <;> rfl
theorem stop_dgt {x : List UInt8} (h : stopsR x) : ∀ b r, x = b :: r -> dgtB b = false := fun b r e => by
 subst e
 rcases h with rfl | rfl | rfl <;> rfl
theorem itoa_first (n : Int) : ∃ c r, Lib.itoa n = c :: r /\ (c.toNat = 45 \/ 48 <= c.toNat /\ c.toNat <= 57) := by
 obtain ⟨c, r, e⟩ := itoa_ne n
 exact ⟨c, r, e, itoa_chr n c (by rw [e]; simp)⟩
theorem numE_itoa {l x : List UInt8} {a : Nat} {n : Int} (h : l.drop a = Lib.itoa n ++ x) (hx : stopsR x) : numE l a = a + (Lib.itoa n).length /\ sub l a (numE l a) = Lib.itoa n := by
 have hd : ∀ u b, b ∈ Lib.decDigits u -> dgtB b = true := fun u b hb => by
  unfold dgtB; simpa using dec_dig u b hb
 have hE : numE l a = a + (Lib.itoa n).length := by
  unfold numE
  by_cases c : n < 0
  ·have e : Lib.itoa n = 45 :: Lib.decDigits n.natAbs := by unfold Lib.itoa; rw [if_pos c]
   rw [e] at h ⊢
   have h2 : l.drop (a + 1) = Lib.decDigits n.natAbs ++ x := drop_more (w := [45]) h
   rw [if_pos (atB_of h), (span_eq h2 (hd _) (stop_dgt hx)).1]
   simp only [List.length_cons]; omega
  ·have e : Lib.itoa n = Lib.decDigits n.toNat := by unfold Lib.itoa; rw [if_neg c]
   rw [e] at h ⊢
   obtain ⟨y, r, e2⟩ := List.exists_cons_of_ne_nil (dec_ne n.toNat)
   have hy := dec_dig n.toNat y (by rw [e2]; simp)
   have h3 : atB l a 45 = false := atB_not (r := r ++ x) (c := y) (by rw [h, e2]; rfl) (fun k => by rw [k] at hy; revert hy; decide)
   rw [h3, if_neg (by simp), (span_eq h (hd _) (stop_dgt hx)).1]
 refine ⟨hE, ?_⟩
 unfold sub
 rw [hE, h, Nat.add_sub_cancel_left, List.take_left']
 rfl
theorem getD_drop {l r : List UInt8} {a : Nat} {c : UInt8} (h : l.drop a = c :: r) : l.getD a 0 = c /\ a < l.length := by
 have h1 : l[a]? = some c := by
  have := congrArg (fun x => x[0]?) h
  simpa using this
 refine ⟨by rw [List.getD_eq_getElem?_getD, h1]; rfl, ?_⟩
 exact (List.getElem?_eq_some_iff.1 h1).1
theorem ltrB_not {c : UInt8} (h : c.toNat = 45 \/ 48 <= c.toNat /\ c.toNat <= 57) : ltrB c = false := by unfold ltrB; simp; omega
mutual
theorem psV_text : ∀ (t : T) {d : Nat} {l : List UInt8} {a : Nat} {x : List UInt8}, formT t d -> sizeT t <= 60 -> l.drop a = tL (textT t) ++ x -> stopsR x -> psV d l a = (t, ((a + (tL (textT t)).length : Nat) : Int))
 | .mk k n s ks ts, 0, l, a, x, hf, _, _, _ => by simp only [formT] at hf; have := hf.1; omega
 | .mk k n s ks ts, d + 1, l, a, x, hf, hz, h, hx => by
   have hk := kind_le hf
   simp only [formT] at hf
   obtain ⟨_, a2, a3, a4, a5, _, _, a8, a9, a10, a11, a12⟩ := hf
   have ed : ((d + 1 : Nat) : Int) - 1 = (d : Int) := by omega
   rw [ed] at a12
   simp only [sizeT] at hz
   have hlen := len_sizeL ts
   rw [tT_eq] at h ⊢
   have word : ∀ w : List UInt8, (∀ c ∈ w, ltrB c = true) -> ∀ b r, w = b :: r -> l.drop a = w ++ x -> b ≠ 91 -> b ≠ 123 -> b ≠ 39 -> psV (d + 1) l a = psW l a /\ sub l a (spanE ltrB l a) = w /\ spanE ltrB l a = a + w.length := fun w hw b r e h n1 n2 n3 => by
    have h' : l.drop a = b :: (r ++ x) := by rw [h, e]; rfl
    obtain ⟨g1, g2⟩ := getD_drop h'
    obtain ⟨u1, u2⟩ := span_eq h hw (stop_ltr hx)
    refine ⟨?_, u2, u1⟩
    rw [psV, if_neg (by omega), atB_not h' n1, if_neg (by simp), atB_not h' n2, if_neg (by simp), atB_not h' n3, if_neg (by simp), g1, if_pos (hw b (by rw [e]; simp))]
   by_cases c0 : k = 0
   ·subst c0
    have q2 := a2.resolve_left (by omega); have q3 := a3.resolve_left (by omega); have q4 := a4.resolve_left (by omega); have q5 := a5.resolve_left (by omega)
    subst q2 q3 q4 q5
    rw [if_pos rfl] at h ⊢
    obtain ⟨e1, e2, e3⟩ := word _ (by decide) _ _ rfl h (by decide) (by decide) (by decide)
    rw [e1]; unfold psW; rw [if_pos e2, e3]; rfl
   rw [if_neg c0] at h ⊢
   by_cases c1 : k = 1
   ·subst c1
    have q2 := a2.resolve_left (by omega); have q3 := a3.resolve_left (by omega); have q4 := a4.resolve_left (by omega); have q5 := a5.resolve_left (by omega)
    subst q2 q3 q4 q5
    rw [if_pos rfl] at h ⊢
    obtain ⟨e1, e2, e3⟩ := word _ (by decide) _ _ rfl h (by decide) (by decide) (by decide)
    rw [e1]; unfold psW; rw [e2, if_neg (by decide), if_pos rfl, e3]
   rw [if_neg c1] at h ⊢
   by_cases c2 : k = 2
   ·subst c2
    have q2 := a2.resolve_left (by omega); have q3 := a3.resolve_left (by omega); have q4 := a4.resolve_left (by omega); have q5 := a5.resolve_left (by omega)
    subst q2 q3 q4 q5
    rw [if_pos rfl] at h ⊢
    obtain ⟨e1, e2, e3⟩ := word _ (by decide) _ _ rfl h (by decide) (by decide) (by decide)
    rw [e1]; unfold psW; rw [e2, if_neg (by decide), if_neg (by decide), if_pos rfl, e3]
   rw [if_neg c2] at h ⊢
   by_cases c3 : k = 3
   ·subst c3
    have q3 := a3.resolve_left (by omega); have q4 := a4.resolve_left (by omega); have q5 := a5.resolve_left (by omega)
    subst q3 q4 q5
    rw [if_pos rfl] at h ⊢
    obtain ⟨c, r, e, hc⟩ := itoa_first n
    have hne : ∀ m : UInt8, m.toNat ≠ 45 -> ¬ (48 <= m.toNat /\ m.toNat <= 57) -> c ≠ m := fun m h1 h2 e => by rw [e] at hc; exact hc.elim h1 h2
    have h' : l.drop a = c :: (r ++ x) := by rw [h, e]; rfl
    obtain ⟨g1, g2⟩ := getD_drop h'
    obtain ⟨u1, u2⟩ := numE_itoa h hx
    rw [psV, if_neg (by omega), atB_not h' (hne _ (by decide) (by decide)), if_neg (by simp), atB_not h' (hne _ (by decide) (by decide)), if_neg (by simp), atB_not h' (hne _ (by decide) (by decide)), if_neg (by simp), g1, ltrB_not hc, if_neg (by simp)]
    unfold psN
    rw [u2, numR_itoa a8 a9, u1]
   rw [if_neg c3] at h ⊢
   have q2 := a2.resolve_left c3
   subst q2
   by_cases c4 : k = 4
   ·subst c4
    have q4 := a4.resolve_left (by omega); have q5 := a5.resolve_left (by omega)
    subst q4 q5
    rw [if_pos rfl] at h ⊢
    have h' : l.drop a = 39 :: (tL s ++ 39 :: x) := by rw [h]; simp
    obtain ⟨_, g2⟩ := getD_drop h'
    have h2 : l.drop (a + 1) = tL s ++ 39 :: x := drop_more (w := [39]) h'
    obtain ⟨u1, u2⟩ := span_eq (p := ltrB) h2 (fun c hc => ltrB_of (letter_of a10 c hc)) (fun b r e => by cases e; rfl)
    have h3 := drop_more h2
    rw [<- u1] at h3
    rw [psV, if_neg (by omega), atB_not h' (by decide), if_neg (by simp), atB_not h' (by decide), if_neg (by simp), if_pos (atB_of h'), if_pos (atB_of h3), u2, u1, bL_tL]
    simp only [List.length_cons, List.length_append, List.length_nil, Prod.mk.injEq, true_and]
    omega
   rw [if_neg c4] at h ⊢
   have q3 := a3.resolve_left c4
   subst q3
   by_cases c6 : k = 6
   ·subst c6
    rw [if_pos rfl] at h ⊢
    obtain ⟨g1, g2⟩ := a11 rfl
    have ok : ∀ s ∈ ks, okS s := fun s hs => by
     obtain ⟨i, hi⟩ := List.getElem?_of_mem hs
     exact okKeys_at g2 hi
    have h' : l.drop a = 123 :: (TMj ks ts ++ 125 :: x) := by rw [h]; simp
    obtain ⟨_, gl⟩ := getD_drop h'
    have h2 : l.drop (a + 1) = TMj ks ts ++ 125 :: x := drop_more (w := [123]) h'
    rw [psV, if_neg (by omega), atB_not h' (by decide), if_neg (by simp), if_pos (atB_of h')]
    cases ts with
    | nil =>
      rw [List.length_nil] at g1
      have := List.eq_nil_of_length_eq_zero g1
      subst this
      rw [if_pos (atB_of h2)]
      simp [TMj]
    | cons t ts =>
      cases ks with
      | nil => simp at g1
      | cons z ks =>
        have hno : atB l (a + 1) 125 = false := by
         cases hz' : tL z with
         | nil =>
           have : l.drop (a + 1) = 58 :: (tL (textT t) ++ TM ks ts ++ 125 :: x) := by rw [h2]; simp [TMj, hz']
           exact atB_not this (by decide)
         | cons b r =>
           have : l.drop (a + 1) = b :: (r ++ 58 :: (tL (textT t) ++ TM ks ts ++ 125 :: x)) := by rw [h2]; simp [TMj, hz']
           refine atB_not this fun e => ?_
           have := letter_of (ok z (by simp)) b (by rw [hz']; simp)
           rw [e] at this
           exact not_letter (by decide) this
        have hr := psM_text (t :: ts) (c := 61) (ks := z :: ks) (by simp) (by simp only [List.length_cons] at hlen ⊢; omega) g1 ok a12 (by omega) h2
        rw [hno, if_neg (by simp), hr]
        simp only [List.length_cons, List.length_append, List.length_nil, Prod.mk.injEq, true_and]
        omega
   rw [if_neg c6] at h ⊢
   have q4 := a4.resolve_left c6
   subst q4
   have c5 : k = 5 := by
    have h0 := hk.1
    have h6 := hk.2
    omega
   subst c5
   have h' : l.drop a = 91 :: (TRj ts ++ 93 :: x) := by rw [h]; simp
   obtain ⟨_, gl⟩ := getD_drop h'
   have h2 : l.drop (a + 1) = TRj ts ++ 93 :: x := drop_more (w := [91]) h'
   rw [psV, if_neg (by omega), if_pos (atB_of h')]
   cases ts with
   | nil =>
     rw [if_pos (atB_of h2)]
     simp [TRj]
   | cons t ts =>
     have hno : atB l (a + 1) 93 = false := by
      have hft := a12
      simp only [formL] at hft
      obtain ⟨c, r, e, _, hne, _⟩ := textT_first hft.1
      have : l.drop (a + 1) = c :: (r ++ TR ts ++ 93 :: x) := by rw [h2]; simp [TRj, e]
      exact atB_not this hne
     have hr := psL_text (t :: ts) (c := 61) (by simp) (by simp only [List.length_cons] at hlen ⊢; omega) a12 (by omega) h2
     rw [hno, if_neg (by simp), hr]
     simp only [List.length_cons, List.length_append, List.length_nil, Prod.mk.injEq, true_and]
     omega
theorem psL_text : ∀ (ts : List T) {d : Nat} {l : List UInt8} {c a : Nat} {x : List UInt8}, ts ≠ [] -> ts.length <= c -> formL ts d -> sizeL ts <= 60 -> l.drop a = TRj ts ++ 93 :: x -> psL (psV d l) l c a = (ts, ((a + (TRj ts).length + 1 : Nat) : Int))
 | [], _, _, _, _, _, h, _, _, _, _ => absurd rfl h
 | t :: ts, d, l, 0, a, x, _, hc, _, _, _ => by simp at hc
 | t :: ts, d, l, c + 1, a, x, _, hc, hf, hz, h => by
   simp only [formL] at hf
   simp only [sizeL] at hz
   have hp := sizeT_posR t
   have hl := len_sizeL ts
   simp only [TRj, List.append_assoc] at h
   have h1 := psV_text t hf.1 (by omega) h (TR_stopR ts x)
   have h2 := drop_more h
   have hneg : ¬ (((a + (tL (textT t)).length : Nat) : Int) < 0) := by omega
   simp only [psL, h1, Int.toNat_natCast]
   rw [if_neg hneg]
   cases ts with
   | nil =>
     rw [if_pos (atB_of h2)]
     simp [TRj, TR]
   | cons u ts =>
     have h3 : l.drop (a + (tL (textT t)).length + 1) = TRj (u :: ts) ++ 93 :: x := by
      have : l.drop (a + (tL (textT t)).length) = [44] ++ (TRj (u :: ts) ++ 93 :: x) := by rw [h2]; simp [TR, TRj]
      exact drop_more (w := [44]) this
     have hr := psL_text (u :: ts) (c := c) (by simp) (by simpa using hc) hf.2 (by omega) h3
     rw [atB_not (b := 93) (c := 44) h2 (by decide), if_neg (by simp), if_pos (atB_of (c := 44) h2), hr]
     simp only [TRj, TR, List.length_append, List.length_cons, Prod.mk.injEq, true_and]
     omega
theorem psM_text : ∀ (ts : List T) {ks : List ByteArray} {d : Nat} {l : List UInt8} {c a : Nat} {x : List UInt8}, ts ≠ [] -> ts.length <= c -> ks.length = ts.length -> (∀ s ∈ ks, okS s) -> formL ts d -> sizeL ts <= 60 -> l.drop a = TMj ks ts ++ 125 :: x -> psM (psV d l) l c a = (ks, ts, ((a + (TMj ks ts).length + 1 : Nat) : Int))
 | [], _, _, _, _, _, _, h, _, _, _, _, _, _ => absurd rfl h
 | t :: ts, _, d, l, 0, a, x, _, hc, _, _, _, _, _ => by simp at hc
 | t :: ts, [], d, l, c + 1, a, x, _, _, hk, _, _, _, _ => by simp at hk
 | t :: ts, z :: ks, d, l, c + 1, a, x, _, hc, hk, ok, hf, hz, h => by
   simp only [formL] at hf
   simp only [sizeL] at hz
   have hp := sizeT_posR t
   have hl := len_sizeL ts
   have h0 : l.drop a = tL z ++ 58 :: (tL (textT t) ++ (TM ks ts ++ 125 :: x)) := by rw [h]; simp [TMj]
   obtain ⟨u1, u2⟩ := span_eq (p := ltrB) h0 (fun c hc => ltrB_of (letter_of (ok z (by simp)) c hc)) (fun b r e => by cases e; rfl)
   have h3 := drop_more h0
   have h5 : l.drop (a + (tL z).length + 1) = tL (textT t) ++ (TM ks ts ++ 125 :: x) := drop_more (w := [58]) h3
   have h1 := psV_text t hf.1 (by omega) h5 (TM_stopR ks ts x)
   have h4 := drop_more h5
   have hneg : ¬ (((a + (tL z).length + 1 + (tL (textT t)).length : Nat) : Int) < 0) := by omega
   have u3 : sub l a (a + (tL z).length) = tL z := by rw [<- u1]; exact u2
   simp only [psM, u1, u3, h1, Int.toNat_natCast, bL_tL]
   rw [if_pos (atB_of h3), if_neg hneg]
   cases ts with
   | nil =>
     have hk0 : ks = [] := List.eq_nil_of_length_eq_zero (by simpa using hk)
     subst hk0
     rw [if_pos (atB_of h4)]
     simp [TMj, TM]; omega
   | cons u ts =>
     cases ks with
     | nil => simp at hk
     | cons z' ks =>
       have h6 : l.drop (a + (tL z).length + 1 + (tL (textT t)).length + 1) = TMj (z' :: ks) (u :: ts) ++ 125 :: x := by
        have : l.drop (a + (tL z).length + 1 + (tL (textT t)).length) = [44] ++ (TMj (z' :: ks) (u :: ts) ++ 125 :: x) := by rw [h4]; simp [TM, TMj]
        exact drop_more (w := [44]) this
       have hr := psM_text (u :: ts) (ks := z' :: ks) (c := c) (by simp) (by simpa using hc) (by simpa using hk) (fun s hs => ok s (List.mem_cons_of_mem _ hs)) hf.2 (by omega) h6
       rw [atB_not (b := 125) (c := 44) h4 (by decide), if_neg (by simp), if_pos (atB_of (c := 44) h4), hr]
       simp only [TMj, TM, List.headD_cons, List.tail_cons, List.length_append, List.length_cons, Prod.mk.injEq, true_and]
       omega
end
end Go.Proofs.Pw
namespace Go.Proofs.Pw
def S0 : Stp := ⟨false, ⟨#[]⟩, 0⟩
def rdP (l : List UInt8) : Nat -> Nat -> Option (List Stp)
 | 0, _ => some []
 | c + 1, a =>
   if a < l.length then
    if skp l a [46] then (rdP l c (upTo l [46, 91] (a + 1))).map fun p => ⟨true, bL (sub l (a + 1) (upTo l [46, 91] (a + 1))), 0⟩ :: p
    else if skp l a [91] then (rdP l c (clo l (upTo l [93] (a + 1)) [93])).map fun p => ⟨false, ⟨#[]⟩, atoiN (sub l (a + 1) (upTo l [93] (a + 1)))⟩ :: p
    else none
   else some []
theorem rdP_0 (l : List UInt8) (a : Nat) : rdP l 0 a = some [] := rfl
theorem rdP_e {l : List UInt8} {c a : Nat} (h : ¬ a < l.length) : rdP l c a = some [] := by
 cases c with
 | zero => rfl
 | succ c => rw [rdP, if_neg h]
theorem rdP_k {l : List UInt8} {c a : Nat} (h : a < l.length) (h2 : skp l a [46] = true) : rdP l (c + 1) a = (rdP l c (upTo l [46, 91] (a + 1))).map fun p => ⟨true, bL (sub l (a + 1) (upTo l [46, 91] (a + 1))), 0⟩ :: p := by rw [rdP, if_pos h, if_pos h2]
theorem rdP_n {l : List UInt8} {c a : Nat} (h : a < l.length) (h2 : skp l a [46] = false) (h3 : skp l a [91] = true) : rdP l (c + 1) a = (rdP l c (clo l (upTo l [93] (a + 1)) [93])).map fun p => ⟨false, ⟨#[]⟩, atoiN (sub l (a + 1) (upTo l [93] (a + 1)))⟩ :: p := by rw [rdP, if_pos h, h2, if_neg (by simp), if_pos h3]
theorem rdP_b {l : List UInt8} {c a : Nat} (h : a < l.length) (h2 : skp l a [46] = false) (h3 : skp l a [91] = false) : rdP l (c + 1) a = none := by rw [rdP, if_pos h, h2, if_neg (by simp), h3, if_neg (by simp)]
theorem digs_not (n : Int) {e : UInt8} (he : e.toNat ≠ 45 /\ ¬ (48 <= e.toNat /\ e.toNat <= 57)) : ∀ c ∈ Lib.itoa n, [e].contains c = false := fun c hc => by
 have := itoa_chr n c hc
 simp only [List.contains_cons, List.contains_nil, Bool.or_false, beq_eq_false_iff_ne, ne_eq]
 intro e'; subst e'; omega
theorem rdP_text : ∀ (p : List Stp) {l : List UInt8} {c a : Nat}, (∀ s ∈ p, stpOk s) -> p.length <= c -> l.drop a = tL (stepsB p) -> rdP l c a = some p
 | [], l, c, a, _, _, h => rdP_e (by have := List.drop_eq_nil_iff.1 (show l.drop a = [] from h); omega)
 | s :: p, l, 0, a, _, hc, _ => by simp at hc
 | s :: p, l, c + 1, a, ho, hc, h => by
   have hs := ho s (by simp)
   simp only [stepsB, tL_app, tL_step] at h
   obtain ⟨m, k, n⟩ := s
   unfold stpOk at hs
   cases m with
   | true =>
     simp only [if_true] at h hs
     have h' : l.drop a = 46 :: (tL k ++ tL (stepsB p)) := by rw [h]; rfl
     have hl := (getD_drop h').2
     have h2 : l.drop (a + 1) = tL k ++ tL (stepsB p) := drop_more (w := [46]) h'
     obtain ⟨u1, u2⟩ := upTo_eq (e := [46, 91]) h2 (fun c hc => by
      have := letter_of hs.1 c hc
      unfold letter at this
      simp only [List.contains_cons, List.contains_nil, Bool.or_false, Bool.or_eq_false_iff, beq_eq_false_iff_ne, ne_eq]
      refine ⟨?_, ?_⟩ <;> (intro e'; subst e'; revert this; decide)) (fun b r e => by
      have := steps_stop p
      rw [e] at this
      rcases this with rfl | rfl <;> rfl)
     have h3 := drop_more h2
     rw [<- u1] at h3
     rw [rdP_k hl (skp_yes (p := [46]) h'), u2, rdP_text p (fun x hx => ho x (List.mem_cons_of_mem _ hx)) (by simpa using hc) h3, bL_tL]
     simp [hs.2]
   | false =>
     simp only [Bool.false_eq_true, if_false] at h hs
     have h' : l.drop a = 91 :: (Lib.itoa n ++ 93 :: tL (stepsB p)) := by rw [h]; simp
     have hl := (getD_drop h').2
     have h2 : l.drop (a + 1) = Lib.itoa n ++ 93 :: tL (stepsB p) := drop_more (w := [91]) h'
     obtain ⟨u1, u2⟩ := upTo_eq (e := [93]) h2 (digs_not n (by decide)) (fun b r e => by cases e; rfl)
     have h3 := drop_more h2
     rw [<- u1] at h3
     have h4 := drop_more (w := [93]) h3
     have hclo := clo_yes (p := [93]) h3
     simp only [List.length_cons, List.length_nil] at hclo h4
     rw [rdP_n hl (skp_no (b := 46) h' (by decide)) (skp_yes (p := [91]) h'), u2, hclo, rdP_text p (fun x hx => ho x (List.mem_cons_of_mem _ hx)) (by simpa using hc) h4, atoiN_itoa (by omega) (by omega)]
     simp [hs.1]
theorem rdP_fit {l : List UInt8} : ∀ {c a : Nat} {p : List Stp}, a <= l.length -> rdP l c a = some p -> p.length <= c /\ ∀ s ∈ p, s.key.size <= l.length /\ i64 s.at'
 | 0, a, p, _, h => by cases h; simp
 | c + 1, a, p, ha, h => by
   rw [rdP] at h
   split at h
   ·rename_i hl
    split at h
    ·obtain ⟨u1, u2⟩ := upTo_le (l := l) (e := [46, 91]) (a := a + 1) (by omega)
     obtain ⟨q, e1, e2⟩ := Option.map_eq_some_iff.1 h
     obtain ⟨g1, g2⟩ := rdP_fit u2 e1
     subst e2
     refine ⟨by simpa using g1, fun s hs => ?_⟩
     rcases List.mem_cons.1 hs with rfl | hs
     ·exact ⟨by simp only; rw [bL_size]; exact sub_len u2, by simp only; unfold i64; omega⟩
     ·exact g2 s hs
    ·split at h
     ·obtain ⟨u1, u2⟩ := upTo_le (l := l) (e := [93]) (a := a + 1) (by omega)
      obtain ⟨w1, w2⟩ := clo_le (p := [93]) u2 (by simp)
      obtain ⟨q, e1, e2⟩ := Option.map_eq_some_iff.1 h
      obtain ⟨g1, g2⟩ := rdP_fit w2 e1
      subst e2
      refine ⟨by simpa using g1, fun s hs => ?_⟩
      rcases List.mem_cons.1 hs with rfl | hs
      ·exact ⟨Nat.zero_le _, atoiN_i64 _⟩
      ·exact g2 s hs
     ·cases h
   ·cases h; simp
noncomputable def psS (l : List UInt8) (a : Nat) : Stp × Int :=
 if atB l a 46 then (⟨true, bL (sub l (a + 1) (spanE ltrB l (a + 1))), 0⟩, (spanE ltrB l (a + 1) : Int))
 else if atB l a 91 then (if (psN l (a + 1)).2 < 0 then (S0, -1) else if atB l (psN l (a + 1)).2.toNat 93 then (⟨false, ⟨#[]⟩, (psN l (a + 1)).1.n⟩, (psN l (a + 1)).2 + 1) else (S0, -1))
 else (S0, -1)
noncomputable def psP (l : List UInt8) : Nat -> Nat -> Option (List Stp)
 | 0, _ => some []
 | c + 1, a => if a < l.length then (if (psS l a).2 < 0 then none else (psP l c (psS l a).2.toNat).map fun p => (psS l a).1 :: p) else some []
theorem psP_e {l : List UInt8} {c a : Nat} (h : ¬ a < l.length) : psP l c a = some [] := by
 cases c with
 | zero => rfl
 | succ c => rw [psP, if_neg h]
theorem psP_n {l : List UInt8} {c a : Nat} (h : a < l.length) (h2 : (psS l a).2 < 0) : psP l (c + 1) a = none := by rw [psP, if_pos h, if_pos h2]
theorem psP_y {l : List UInt8} {c a : Nat} (h : a < l.length) (h2 : ¬ (psS l a).2 < 0) : psP l (c + 1) a = (psP l c (psS l a).2.toNat).map fun p => (psS l a).1 :: p := by rw [psP, if_pos h, if_neg h2]
theorem psN_len {l : List UInt8} {a : Nat} (h : a <= l.length) : psOk l a (psN l a) := by
 rcases Nat.lt_or_ge a l.length with h1 | h1
 ·exact psN_ok h1
 ·have e : psN l a = (T.zero, -1) := by
   unfold psN
   have : numE l a = a := by unfold numE; rw [show atB l a 45 = false from atB_nil (List.drop_eq_nil_of_le h1), if_neg (by simp)]; unfold spanE; rw [List.drop_eq_nil_of_le h1]; rfl
   rw [this]
   unfold sub
   rw [Nat.sub_self, List.take_zero]
   unfold numR
   rw [if_neg (by simp), if_neg (fun k => k.1 rfl)]
  rw [e]
  exact ⟨by simp only; omega, by simp only; omega, fun k => by simp only at k; omega, zero_fit _ (by omega)⟩
theorem psN_val {l : List UInt8} {a : Nat} (h : 0 <= (psN l a).2) : ∃ n, (psN l a).1 = .mk 3 n ⟨#[]⟩ [] [] /\ -100000000000000000 < n /\ n < 100000000000000000 := by
 revert h
 unfold psN
 split
 ·rename_i n hn
  intro _
  exact ⟨n, rfl, numR_le hn⟩
 ·intro h; simp only at h; omega
theorem psS_ok {l : List UInt8} {a : Nat} (h : a < l.length) : -1 <= (psS l a).2 /\ (psS l a).2 <= l.length /\ (0 <= (psS l a).2 -> (a : Int) < (psS l a).2) /\ (psS l a).1.key.size <= l.length /\ i64 (psS l a).1.at' := by
 unfold psS
 split
 ·obtain ⟨u1, u2⟩ := spanE_le (p := ltrB) (l := l) (a := a + 1) (by omega)
  exact ⟨by simp only; omega, by simp only; omega, fun _ => by simp only; omega, by simp only; rw [bL_size]; exact sub_len u2, by simp only; unfold i64; omega⟩
 split
 ·obtain ⟨o1, o2, o3, _⟩ := psN_len (l := l) (a := a + 1) (by omega)
  split
  ·exact ⟨by simp only; omega, by simp only; omega, fun k => by simp only at k; omega, Nat.zero_le _, by unfold i64 S0; simp⟩
  rename_i h5
  split
  ·rename_i h6
   have h6 := atB_lt h6
   have h7 := o3 (by omega)
   obtain ⟨n, e, n1, n2⟩ := psN_val (l := l) (a := a + 1) (by omega)
   exact ⟨by simp only; omega, by simp only; omega, fun _ => by simp only; omega, Nat.zero_le _, by simp only; rw [e]; unfold i64; simp only [T.n]; omega⟩
  ·exact ⟨by simp only; omega, by simp only; omega, fun k => by simp only at k; omega, Nat.zero_le _, by unfold i64 S0; simp⟩
 ·exact ⟨by simp only; omega, by simp only; omega, fun k => by simp only at k; omega, Nat.zero_le _, by unfold i64 S0; simp⟩
theorem psS_eats {l : List UInt8} {a : Nat} (h : a < l.length) (hq : 0 <= (psS l a).2) : l.drop a = tL (stepB (psS l a).1) ++ l.drop (psS l a).2.toNat := by
 revert hq
 rw [tL_step]
 unfold psS
 split
 ·rename_i c
  intro _
  obtain ⟨u1, u2⟩ := spanE_le (p := ltrB) (l := l) (a := a + 1) (by omega)
  have h1 := atB_drop c
  have h2 := (sub_eats u1 u2 rfl).rest
  have e4 : tL (bL (sub l (a + 1) (spanE ltrB l (a + 1)))) = sub l (a + 1) (spanE ltrB l (a + 1)) := bL_toList _
  simp only [if_true]
  rw [h1, h2, e4]; simp
 split
 ·rename_i c
  have h1 := atB_drop c
  split
  ·intro k; simp only at k; omega
  rename_i h5
  split
  ·rename_i h6
   intro _
   have h7 := atB_drop h6
   obtain ⟨n, e, _, _⟩ := psN_val (l := l) (a := a + 1) (by omega)
   have hlt : a + 1 < l.length := by
    rcases Nat.lt_or_ge (a + 1) l.length with h8 | h8
    ·exact h8
    ·exfalso
     obtain ⟨_, o2, o3, _⟩ := psN_len (l := l) (a := a + 1) (by omega)
     have := o3 (by omega)
     omega
   have h8 := (psN_eats hlt (by omega)).rest
   rw [e] at h8
   rw [leafT, if_neg (by decide), if_neg (by decide), if_neg (by decide), if_pos rfl] at h8
   simp only [Bool.false_eq_true, if_false]
   rw [h1, h8, h7, e]
   have : ((psN l (a + 1)).2 + 1).toNat = (psN l (a + 1)).2.toNat + 1 := by omega
   simp [this, T.n]
  ·intro k; simp only at k; omega
 ·intro k; simp only at k; omega
theorem psP_eats {l : List UInt8} : ∀ {c a : Nat} {p : List Stp}, l.length <= a + c -> a <= l.length -> psP l c a = some p -> l.drop a = tL (stepsB p)
 | 0, a, p, h, _, hp => by cases hp; rw [List.drop_eq_nil_of_le (by omega)]; rfl
 | c + 1, a, p, h, ha, hp => by
   by_cases hl : a < l.length
   ·by_cases hn : (psS l a).2 < 0
    ·rw [psP_n hl hn] at hp; cases hp
    ·rw [psP_y hl hn] at hp
     obtain ⟨q, e1, e2⟩ := Option.map_eq_some_iff.1 hp
     obtain ⟨o1, o2, o3, _⟩ := psS_ok hl
     have o4 := o3 (by omega)
     have := psP_eats (by omega) (by omega) e1
     rw [psS_eats hl (by omega), this, <- e2]
     simp [stepsB, tL_app]
   ·rw [psP_e hl] at hp
    cases hp; rw [List.drop_eq_nil_of_le (by omega)]; rfl
theorem psP_text : ∀ (p : List Stp) {l : List UInt8} {c a : Nat}, (∀ s ∈ p, stpOk s) -> p.length <= c -> l.drop a = tL (stepsB p) -> psP l c a = some p
 | [], l, c, a, _, _, h => psP_e (by have := List.drop_eq_nil_iff.1 (show l.drop a = [] from h); omega)
 | s :: p, l, 0, a, _, hc, _ => by simp at hc
 | s :: p, l, c + 1, a, ho, hc, h => by
   have hs := ho s (by simp)
   simp only [stepsB, tL_app, tL_step] at h
   obtain ⟨m, k, n⟩ := s
   unfold stpOk at hs
   have ih := fun {b} hb => psP_text p (l := l) (c := c) (a := b) (fun x hx => ho x (List.mem_cons_of_mem _ hx)) (by simpa using hc) hb
   cases m with
   | true =>
     simp only [if_true] at h hs
     have h' : l.drop a = 46 :: (tL k ++ tL (stepsB p)) := by rw [h]; rfl
     have hl := (getD_drop h').2
     have h2 : l.drop (a + 1) = tL k ++ tL (stepsB p) := drop_more (w := [46]) h'
     obtain ⟨u1, u2⟩ := span_eq (p := ltrB) h2 (fun c hc => ltrB_of (letter_of hs.1 c hc)) (fun b r e => by
      have := steps_stop p
      rw [e] at this
      rcases this with rfl | rfl <;> rfl)
     have h3 := drop_more h2
     rw [<- u1] at h3
     have e : psS l a = (⟨true, k, 0⟩, (spanE ltrB l (a + 1) : Int)) := by unfold psS; rw [if_pos (atB_of h'), u2, bL_tL]
     rw [psP_y hl (by rw [e]; simp only; omega), e]
     simp only [Int.toNat_natCast]
     rw [ih h3]
     simp [hs.2]
   | false =>
     simp only [Bool.false_eq_true, if_false] at h hs
     have h' : l.drop a = 91 :: (Lib.itoa n ++ 93 :: tL (stepsB p)) := by rw [h]; simp
     have hl := (getD_drop h').2
     have h2 : l.drop (a + 1) = Lib.itoa n ++ 93 :: tL (stepsB p) := drop_more (w := [91]) h'
     obtain ⟨u1, u2⟩ := numE_itoa h2 (show stopsR (93 :: tL (stepsB p)) from .inr (.inr rfl))
     have h3 := drop_more h2
     rw [<- u1] at h3
     have h4 := drop_more (w := [93]) h3
     simp only [List.length_cons, List.length_nil] at h4
     have en : psN l (a + 1) = (.mk 3 n ⟨#[]⟩ [] [], (numE l (a + 1) : Int)) := by unfold psN; rw [u2, numR_itoa (by omega) (by omega)]
     have e : psS l a = (⟨false, ⟨#[]⟩, n⟩, (numE l (a + 1) : Int) + 1) := by
      unfold psS
      rw [show atB l a 46 = false from atB_not h' (by decide), if_neg (by simp), if_pos (atB_of h'), en, if_neg (by simp only; omega)]
      simp only [Int.toNat_natCast]
      rw [if_pos (atB_of h3)]; rfl
     rw [psP_y hl (by rw [e]; simp only; omega), e]
     have : ((numE l (a + 1) : Int) + 1).toNat = numE l (a + 1) + 1 := by omega
     simp only [this]
     rw [ih h4]
     simp [hs.1]
def wayOkS (s : ByteArray) : Prop := ∃ p, wayOk p /\ pathText p = s
noncomputable instance (s : ByteArray) : Decidable (wayOkS s) := Classical.propDecidable _
noncomputable def wayS (s : ByteArray) : List Stp := if h : wayOkS s then Classical.choose h else []
theorem wayS_of {s : ByteArray} {p : List Stp} (h : wayOk p) (e : pathText p = s) : wayOkS s /\ wayS s = p := by
 have h1 : wayOkS s := ⟨p, h, e⟩
 refine ⟨h1, ?_⟩
 unfold wayS
 rw [dif_pos h1]
 have := Classical.choose_spec h1
 exact pathText_inj this.1 h (this.2.trans e.symm)
theorem wayS_ok {s : ByteArray} (h : wayOkS s) : wayOk (wayS s) /\ pathText (wayS s) = s := by
 obtain ⟨p, h1, h2⟩ := h
 rw [(wayS_of h1 h2).2]; exact ⟨h1, h2⟩
theorem wayS_no {s : ByteArray} (h : ¬ wayOkS s) : wayS s = [] := by unfold wayS; rw [dif_neg h]
theorem wayOkS_no {p : List Stp} (h : ¬ wayOk p) : ¬ wayOkS (pathText p) := by
 rintro ⟨q, h1, h2⟩
 rw [pathText, pathText, if_pos h1, if_neg h] at h2
 have := congrArg ByteArray.size h2
 rw [ByteArray.size_append] at this
 have e : (ByteArray.mk #[36]).size = 1 := rfl
 have e2 : (ByteArray.mk #[]).size = 0 := rfl
 omega
theorem itoa_small {n : Int} (h : -60 <= n /\ n <= 59) : (Lib.itoa n).length <= 3 := by
 have h1 : ∀ u : Nat, u < 100 -> (Lib.decDigits u).length <= 2 := fun u hu => dec_len 1 u (by omega)
 unfold Lib.itoa
 split
 ·have := h1 n.natAbs (by omega); simp only [List.length_cons]; omega
 ·have := h1 n.toNat (by omega); omega
theorem stepB_len {s : Stp} (h : stpOk s) : (tL (stepB s)).length <= 13 := by
 rw [tL_step]
 unfold stpOk at h
 split
 ·rename_i c
  rw [if_pos c] at h
  have h2 := h.1.2
  have e : (tL s.key).length = s.key.size := ba_len _
  simp only [List.length_cons]; omega
 ·rename_i c
  rw [if_neg c] at h
  have := itoa_small h.2
  simp only [List.length_cons, List.length_append, List.length_nil]; omega
theorem stepsB_len : ∀ {p : List Stp}, (∀ s ∈ p, stpOk s) -> (tL (stepsB p)).length <= 13 * p.length
 | [], _ => by simp [stepsB, tL]
 | s :: p, h => by
   have h1 := stepB_len (h s (by simp))
   have h2 := stepsB_len (p := p) (fun x hx => h x (List.mem_cons_of_mem _ hx))
   simp only [stepsB, tL_app, List.length_append, List.length_cons]; omega
theorem pathText_le (p : List Stp) : (pathText p).size <= 100 := by
 unfold pathText
 split
 ·rename_i h
  have h1 := stepsB_len h.1
  have h2 : (tL (stepsB p)).length = (stepsB p).size := ba_len _
  have h3 := h.2
  have e : (ByteArray.mk #[36]).size = 1 := rfl
  rw [ByteArray.size_append, e]; omega
 ·exact Nat.zero_le _
theorem wayOkS_size {s : ByteArray} (h : wayOkS s) : s.size ≠ 0 /\ s.size <= 120 := by
 obtain ⟨p, h1, h2⟩ := h
 have h3 := pathText_le p
 rw [h2] at h3
 rw [pathText, if_pos h1] at h2
 have e : (ByteArray.mk #[36]).size = 1 := rfl
 have := congrArg ByteArray.size h2
 rw [ByteArray.size_append, e] at this
 omega
theorem path_drop {p : List Stp} (h : wayOk p) : tL (pathText p) = 36 :: tL (stepsB p) := by
 rw [pathText, if_pos h, tL_app]; rfl
theorem rdP_yes {s : ByteArray} (h : wayOkS s) : rdP (tL s) 7 (clo (tL s) 0 [36]) = some (wayS s) := by
 obtain ⟨h1, h2⟩ := wayS_ok h
 have h3 := path_drop h1
 rw [h2] at h3
 have h4 : (tL s).drop 0 = [36] ++ tL (stepsB (wayS s)) := h3
 rw [clo_yes h4]
 exact rdP_text _ h1.1 (by have := h1.2; omega) (drop_more h4)
theorem rdP_no {s : ByteArray} {p : List Stp} (h0 : s.size ≠ 0) (h : ¬ wayOkS s) : pathText p ≠ s := fun e => by
 by_cases hw : wayOk p
 ·exact h ⟨p, hw, e⟩
 ·rw [pathText, if_neg hw] at e
  rw [<- e] at h0; exact h0 rfl
theorem psP_yes {s : ByteArray} (h : wayOkS s) : atB (tL s) 0 36 = true /\ psP (tL s) (tL s).length 1 = some (wayS s) /\ wayOk (wayS s) := by
 obtain ⟨h1, h2⟩ := wayS_ok h
 have h3 := path_drop h1
 rw [h2] at h3
 have h4 : (tL s).drop 0 = 36 :: tL (stepsB (wayS s)) := h3
 have h5 : (tL s).drop 1 = tL (stepsB (wayS s)) := drop_more (w := [36]) (a := 0) h4
 refine ⟨atB_of h4, psP_text _ h1.1 ?_ h5, h1⟩
 have key : ∀ q : List Stp, q.length <= (tL (stepsB q)).length := fun q => by
  induction q with
  | nil => simp
  | cons t q ih =>
    have : 1 <= (tL (stepB t)).length := by
     rw [tL_step]; split <;> simp
    simp only [stepsB, tL_app, List.length_append, List.length_cons]; omega
 have := key (wayS s)
 have h6 := congrArg List.length h3
 simp only [List.length_cons] at h6
 omega
theorem psP_no {s : ByteArray} {p : List Stp} (h : ¬ wayOkS s) (h0 : atB (tL s) 0 36 = true) (hp : psP (tL s) (tL s).length 1 = some p) : ¬ wayOk p := fun hw => by
 have hl := atB_lt h0
 have h1 := psP_eats (by omega) (by omega) hp
 have h2 := atB_drop h0
 rw [List.drop_zero, h1] at h2
 exact h ⟨p, hw, tL_inj (by rw [path_drop hw, h2])⟩
end Go.Proofs.Pw
