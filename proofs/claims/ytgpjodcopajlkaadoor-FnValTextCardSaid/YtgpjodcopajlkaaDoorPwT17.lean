/- The reference's reader of trees: brackets, and the whole. -/
import Derived.Test.YtgpjodcopajlkaaDoorPwT16
import Derived.Test.YtgpjodcopajlkaaDoorPwT15
import Derived.Test.YtgpjodcopajlkaaDoorPwT10
import Derived.Test.YtgpjodcopajlkaaDoorPwT13
import Derived.Test.YtgpjodcopajlkaaDoorPwT11
import Derived.Test.YtgpjodcopajlkaaDoorPwT14
set_option linter.unusedSimpArgs false
set_option linter.unusedVariables false
set_option linter.unusedSectionVars false
set_option maxRecDepth 20000
namespace Go.Proofs.Pw
variable [Globs]
end Go.Proofs.Pw
namespace Go.Proofs.Pw
def valOk (s : ByteArray) : Prop := ∃ t, okT t /\ textT t = s
noncomputable instance (s : ByteArray) : Decidable (valOk s) := Classical.propDecidable _
noncomputable def valT (s : ByteArray) : T := if h : valOk s then Classical.choose h else T.zero
theorem okText_inj {a b : T} (ha : okT a) (hb : okT b) (h : textT a = textT b) : a = b :=
 (textT_inj a (b := b) (x := []) (y := []) ha.1 hb.1 trivial trivial (by rw [h])).1
theorem valT_of {s : ByteArray} {t : T} (h : okT t) (e : textT t = s) : valOk s /\ valT s = t := by
 have h1 : valOk s := ⟨t, h, e⟩
 refine ⟨h1, ?_⟩
 unfold valT
 rw [dif_pos h1]
 have := Classical.choose_spec h1
 exact okText_inj this.1 h (this.2.trans e.symm)
theorem valT_ok {s : ByteArray} (h : valOk s) : okT (valT s) /\ textT (valT s) = s := by
 obtain ⟨t, h1, h2⟩ := h
 rw [(valT_of h1 h2).2]; exact ⟨h1, h2⟩
theorem valT_no {s : ByteArray} (h : ¬ valOk s) : valT s = T.zero := by unfold valT; rw [dif_neg h]
theorem textT_ne {t : T} (h : okT t) : (textT t).size ≠ 0 /\ (textT t).size <= 2500 := by
 obtain ⟨c, r, e, _⟩ := textT_first h.1
 have h2 := textT_size h.1
 have h3 := okT_size h
 have h4 : (tL (textT t)).length = (textT t).size := ba_len _
 rw [e] at h4
 simp only [List.length_cons] at h4
 omega
theorem valOk_size {s : ByteArray} (h : valOk s) : s.size ≠ 0 /\ s.size <= 2500 := by
 obtain ⟨t, h1, h2⟩ := h
 rw [<- h2]; exact textT_ne h1
theorem rd_iff (s : ByteArray) : (okT (rdV 6 (tL s) 0).1 /\ textT (rdV 6 (tL s) 0).1 = s) ↔ valOk s := by
 refine ⟨fun h => ⟨_, h.1, h.2⟩, ?_⟩
 rintro ⟨t, h1, rfl⟩
 rw [rdV_ok_text h1]
 exact ⟨h1, rfl⟩
theorem rd_valT {s : ByteArray} (h : valOk s) : valT s = (rdV 6 (tL s) 0).1 := by
 have := (rd_iff s).2 h
 exact (valT_of this.1 this.2).2
theorem valT_okT' (s : ByteArray) : okT (valT s) := by
 by_cases h : valOk s
 ·exact (valT_ok h).1
 ·rw [valT_no h]; exact ⟨by simp [T.zero, formT, formL, okS_nil], by simp [T.zero, manyT, manyL]⟩
end Go.Proofs.Pw
namespace Go.Proofs.Pw
theorem span_eq {l w x : List UInt8} {p : UInt8 -> Bool} {a : Nat} (h : l.drop a = w ++ x) (hw : ∀ c ∈ w, p c = true) (hx : ∀ b r, x = b :: r -> p b = false) : spanE p l a = a + w.length /\ sub l a (spanE p l a) = w := by
 have key : (w ++ x).takeWhile p = w := by
  rw [List.takeWhile_append_of_pos hw]
  cases x with
  | nil => simp
  | cons b r => rw [List.takeWhile_cons_of_neg (by rw [hx b r rfl]; simp), List.append_nil]
 have e1 : spanE p l a = a + w.length := by unfold spanE; rw [h, key]
 exact ⟨e1, by rw [span_sub, h, key]⟩
theorem ltrB_of {c : UInt8} (h : letter c) : ltrB c = true := by unfold ltrB; simpa [letter] using h
theorem stop_ltr {x : List UInt8} (h : stopsR x) : ∀ b r, x = b :: r -> ltrB b = false := fun b r e => by
 subst e
 rcases h with rfl | rfl | rfl <;> rfl
theorem stop_dgt {x : List UInt8} (h : stopsR x) : ∀ b r, x = b :: r -> dgtB b = false := fun b r e => by
 subst e
 rcases h with rfl | rfl | rfl <;> rfl
theorem itoa_first (n : Int) : ∃ c r, Lib.itoa n = c :: r /\ (c.toNat = 45 \/ 48 <= c.toNat /\ c.toNat <= 57) := by
 obtain ⟨c, r, e⟩ := itoa_ne n
 exact ⟨c, r, e, itoa_chr n c (by rw [e]; simp)⟩
theorem numE_itoa {l x : List UInt8} {a : Nat} {n : Int} (h : l.drop a = Lib.itoa n ++ x) (hx : stopsR x) : numE l a = a + (Lib.itoa n).length /\ sub l a (numE l a) = Lib.itoa n := by
 have hd : ∀ u b, b ∈ Lib.decDigits u -> dgtB b = true := fun u b hb => by
  unfold dgtB; simpa using dec_dig u b hb
 have hE : numE l a = a + (Lib.itoa n).length := by
  unfold numE
  by_cases c : n < 0
  ·have e : Lib.itoa n = 45 :: Lib.decDigits n.natAbs := by unfold Lib.itoa; rw [if_pos c]
   rw [e] at h ⊢
   have h2 : l.drop (a + 1) = Lib.decDigits n.natAbs ++ x := drop_more (w := [45]) h
   rw [if_pos (atB_of h), (span_eq h2 (hd _) (stop_dgt hx)).1]
   simp only [List.length_cons]; omega
  ·have e : Lib.itoa n = Lib.decDigits n.toNat := by unfold Lib.itoa; rw [if_neg c]
   rw [e] at h ⊢
   obtain ⟨y, r, e2⟩ := List.exists_cons_of_ne_nil (dec_ne n.toNat)
   have hy := dec_dig n.toNat y (by rw [e2]; simp)
   have h3 : atB l a 45 = false := atB_not (r := r ++ x) (c := y) (by rw [h, e2]; rfl) (fun k => by rw [k] at hy; revert hy; decide)
   rw [h3, if_neg (by simp), (span_eq h (hd _) (stop_dgt hx)).1]
 refine ⟨hE, ?_⟩
 unfold sub
 rw [hE, h, Nat.add_sub_cancel_left, List.take_left']
 rfl
theorem getD_drop {l r : List UInt8} {a : Nat} {c : UInt8} (h : l.drop a = c :: r) : l.getD a 0 = c /\ a < l.length := by
 have h1 : l[a]? = some c := by
  have := congrArg (fun x => x[0]?) h
  simpa using this
 refine ⟨by rw [List.getD_eq_getElem?_getD, h1]; rfl, ?_⟩
 exact (List.getElem?_eq_some_iff.1 h1).1
theorem ltrB_not {c : UInt8} (h : c.toNat = 45 \/ 48 <= c.toNat /\ c.toNat <= 57) : ltrB c = false := by unfold ltrB; simp; omega
mutual
theorem psV_text : ∀ (t : T) {d : Nat} {l : List UInt8} {a : Nat} {x : List UInt8}, formT t d -> sizeT t <= 60 -> l.drop a = tL (textT t) ++ x -> stopsR x -> psV d l a = (t, ((a + (tL (textT t)).length : Nat) : Int))
 | .mk k n s ks ts, 0, l, a, x, hf, _, _, _ => by simp only [formT] at hf; have := hf.1; omega
 | .mk k n s ks ts, d + 1, l, a, x, hf, hz, h, hx => by
   have hk := kind_le hf
   simp only [formT] at hf
   obtain ⟨_, a2, a3, a4, a5, _, _, a8, a9, a10, a11, a12⟩ := hf
   have ed : ((d + 1 : Nat) : Int) - 1 = (d : Int) := by omega
   rw [ed] at a12
   simp only [sizeT] at hz
   have hlen := len_sizeL ts
   rw [tT_eq] at h ⊢
   have word : ∀ w : List UInt8, (∀ c ∈ w, ltrB c = true) -> ∀ b r, w = b :: r -> l.drop a = w ++ x -> b ≠ 91 -> b ≠ 123 -> b ≠ 39 -> psV (d + 1) l a = psW l a /\ sub l a (spanE ltrB l a) = w /\ spanE ltrB l a = a + w.length := fun w hw b r e h n1 n2 n3 => by
    have h' : l.drop a = b :: (r ++ x) := by rw [h, e]; rfl
    obtain ⟨g1, g2⟩ := getD_drop h'
    obtain ⟨u1, u2⟩ := span_eq h hw (stop_ltr hx)
    refine ⟨?_, u2, u1⟩
    rw [psV, if_neg (by omega), atB_not h' n1, if_neg (by simp), atB_not h' n2, if_neg (by simp), atB_not h' n3, if_neg (by simp), g1, if_pos (hw b (by rw [e]; simp))]
   by_cases c0 : k = 0
   ·subst c0
    have q2 := a2.resolve_left (by omega); have q3 := a3.resolve_left (by omega); have q4 := a4.resolve_left (by omega); have q5 := a5.resolve_left (by omega)
    subst q2 q3 q4 q5
    rw [if_pos rfl] at h ⊢
    obtain ⟨e1, e2, e3⟩ := word _ (by decide) _ _ rfl h (by decide) (by decide) (by decide)
    rw [e1]; unfold psW; rw [if_pos e2, e3]; rfl
   rw [if_neg c0] at h ⊢
   by_cases c1 : k = 1
   ·subst c1
    have q2 := a2.resolve_left (by omega); have q3 := a3.resolve_left (by omega); have q4 := a4.resolve_left (by omega); have q5 := a5.resolve_left (by omega)
    subst q2 q3 q4 q5
    rw [if_pos rfl] at h ⊢
    obtain ⟨e1, e2, e3⟩ := word _ (by decide) _ _ rfl h (by decide) (by decide) (by decide)
    rw [e1]; unfold psW; rw [e2, if_neg (by decide), if_pos rfl, e3]
   rw [if_neg c1] at h ⊢
   by_cases c2 : k = 2
   ·subst c2
    have q2 := a2.resolve_left (by omega); have q3 := a3.resolve_left (by omega); have q4 := a4.resolve_left (by omega); have q5 := a5.resolve_left (by omega)
    subst q2 q3 q4 q5
    rw [if_pos rfl] at h ⊢
    obtain ⟨e1, e2, e3⟩ := word _ (by decide) _ _ rfl h (by decide) (by decide) (by decide)
    rw [e1]; unfold psW; rw [e2, if_neg (by decide), if_neg (by decide), if_pos rfl, e3]
   rw [if_neg c2] at h ⊢
   by_cases c3 : k = 3
   ·subst c3
    have q3 := a3.resolve_left (by omega); have q4 := a4.resolve_left (by omega); have q5 := a5.resolve_left (by omega)
    subst q3 q4 q5
    rw [if_pos rfl] at h ⊢
    obtain ⟨c, r, e, hc⟩ := itoa_first n
    have hne : ∀ m : UInt8, m.toNat ≠ 45 -> ¬ (48 <= m.toNat /\ m.toNat <= 57) -> c ≠ m := fun m h1 h2 e => by rw [e] at hc; exact hc.elim h1 h2
    have h' : l.drop a = c :: (r ++ x) := by rw [h, e]; rfl
    obtain ⟨g1, g2⟩ := getD_drop h'
    obtain ⟨u1, u2⟩ := numE_itoa h hx
    rw [psV, if_neg (by omega), atB_not h' (hne _ (by decide) (by decide)), if_neg (by simp), atB_not h' (hne _ (by decide) (by decide)), if_neg (by simp), atB_not h' (hne _ (by decide) (by decide)), if_neg (by simp), g1, ltrB_not hc, if_neg (by simp)]
    unfold psN
    rw [u2, numR_itoa a8 a9, u1]
   rw [if_neg c3] at h ⊢
   have q2 := a2.resolve_left c3
   subst q2
   by_cases c4 : k = 4
   ·subst c4
    have q4 := a4.resolve_left (by omega); have q5 := a5.resolve_left (by omega)
    subst q4 q5
    rw [if_pos rfl] at h ⊢
    have h' : l.drop a = 39 :: (tL s ++ 39 :: x) := by rw [h]; simp
    obtain ⟨_, g2⟩ := getD_drop h'
    have h2 : l.drop (a + 1) = tL s ++ 39 :: x := drop_more (w := [39]) h'
    obtain ⟨u1, u2⟩ := span_eq (p := ltrB) h2 (fun c hc => ltrB_of (letter_of a10 c hc)) (fun b r e => by cases e; rfl)
    have h3 := drop_more h2
    rw [<- u1] at h3
    rw [psV, if_neg (by omega), atB_not h' (by decide), if_neg (by simp), atB_not h' (by decide), if_neg (by simp), if_pos (atB_of h'), if_pos (atB_of h3), u2, u1, bL_tL]
    simp only [List.length_cons, List.length_append, List.length_nil, Prod.mk.injEq, true_and]
    omega
   rw [if_neg c4] at h ⊢
   have q3 := a3.resolve_left c4
   subst q3
   by_cases c6 : k = 6
   ·subst c6
    rw [if_pos rfl] at h ⊢
    obtain ⟨g1, g2⟩ := a11 rfl
    have ok : ∀ s ∈ ks, okS s := fun s hs => by
     obtain ⟨i, hi⟩ := List.getElem?_of_mem hs
     exact okKeys_at g2 hi
    have h' : l.drop a = 123 :: (TMj ks ts ++ 125 :: x) := by rw [h]; simp
    obtain ⟨_, gl⟩ := getD_drop h'
    have h2 : l.drop (a + 1) = TMj ks ts ++ 125 :: x := drop_more (w := [123]) h'
    rw [psV, if_neg (by omega), atB_not h' (by decide), if_neg (by simp), if_pos (atB_of h')]
    cases ts with
    | nil =>
      rw [List.length_nil] at g1
      have := List.eq_nil_of_length_eq_zero g1
      subst this
      rw [if_pos (atB_of h2)]
      simp [TMj]
    | cons t ts =>
      cases ks with
      | nil => simp at g1
      | cons z ks =>
        have hno : atB l (a + 1) 125 = false := by
         cases hz' : tL z with
         | nil =>
           have : l.drop (a + 1) = 58 :: (tL (textT t) ++ TM ks ts ++ 125 :: x) := by rw [h2]; simp [TMj, hz']
           exact atB_not this (by decide)
         | cons b r =>
           have : l.drop (a + 1) = b :: (r ++ 58 :: (tL (textT t) ++ TM ks ts ++ 125 :: x)) := by rw [h2]; simp [TMj, hz']
           refine atB_not this fun e => ?_
           have := letter_of (ok z (by simp)) b (by rw [hz']; simp)
           rw [e] at this
           exact not_letter (by decide) this
        have hr := psM_text (t :: ts) (c := 61) (ks := z :: ks) (by simp) (by simp only [List.length_cons] at hlen ⊢; omega) g1 ok a12 (by omega) h2
        rw [hno, if_neg (by simp), hr]
        simp only [List.length_cons, List.length_append, List.length_nil, Prod.mk.injEq, true_and]
        omega
   rw [if_neg c6] at h ⊢
   have q4 := a4.resolve_left c6
   subst q4
   have c5 : k = 5 := by
    have h0 := hk.1
    have h6 := hk.2
    omega
   subst c5
   have h' : l.drop a = 91 :: (TRj ts ++ 93 :: x) := by rw [h]; simp
   obtain ⟨_, gl⟩ := getD_drop h'
   have h2 : l.drop (a + 1) = TRj ts ++ 93 :: x := drop_more (w := [91]) h'
   rw [psV, if_neg (by omega), if_pos (atB_of h')]
   cases ts with
   | nil =>
     rw [if_pos (atB_of h2)]
     simp [TRj]
   | cons t ts =>
     have hno : atB l (a + 1) 93 = false := by
      have hft := a12
      simp only [formL] at hft
      obtain ⟨c, r, e, _, hne, _⟩ := textT_first hft.1
      have : l.drop (a + 1) = c :: (r ++ TR ts ++ 93 :: x) := by rw [h2]; simp [TRj, e]
      exact atB_not this hne
     have hr := psL_text (t :: ts) (c := 61) (by simp) (by simp only [List.length_cons] at hlen ⊢; omega) a12 (by omega) h2
     rw [hno, if_neg (by simp), hr]
     simp only [List.length_cons, List.length_append, List.length_nil, Prod.mk.injEq, true_and]
     omega
theorem psL_text : ∀ (ts : List T) {d : Nat} {l : List UInt8} {c a : Nat} {x : List UInt8}, ts ≠ [] -> ts.length <= c -> formL ts d -> sizeL ts <= 60 -> l.drop a = TRj ts ++ 93 :: x -> psL (psV d l) l c a = (ts, ((a + (TRj ts).length + 1 : Nat) : Int))
 | [], _, _, _, _, _, h, _, _, _, _ => absurd rfl h
 | t :: ts, d, l, 0, a, x, _, hc, _, _, _ => by simp at hc
 | t :: ts, d, l, c + 1, a, x, _, hc, hf, hz, h => by
   simp only [formL] at hf
   simp only [sizeL] at hz
   have hp := sizeT_posR t
   have hl := len_sizeL ts
   simp only [TRj, List.append_assoc] at h
   have h1 := psV_text t hf.1 (by omega) h (TR_stopR ts x)
   have h2 := drop_more h
   have hneg : ¬ (((a + (tL (textT t)).length : Nat) : Int) < 0) := by omega
   simp only [psL, h1, Int.toNat_natCast]
   rw [if_neg hneg]
   cases ts with
   | nil =>
     rw [if_pos (atB_of h2)]
     simp [TRj, TR]
   | cons u ts =>
     have h3 : l.drop (a + (tL (textT t)).length + 1) = TRj (u :: ts) ++ 93 :: x := by
      have : l.drop (a + (tL (textT t)).length) = [44] ++ (TRj (u :: ts) ++ 93 :: x) := by rw [h2]; simp [TR, TRj]
      exact drop_more (w := [44]) this
     have hr := psL_text (u :: ts) (c := c) (by simp) (by simpa using hc) hf.2 (by omega) h3
     rw [atB_not (b := 93) (c := 44) h2 (by decide), if_neg (by simp), if_pos (atB_of (c := 44) h2), hr]
     simp only [TRj, TR, List.length_append, List.length_cons, Prod.mk.injEq, true_and]
     omega
theorem psM_text : ∀ (ts : List T) {ks : List ByteArray} {d : Nat} {l : List UInt8} {c a : Nat} {x : List UInt8}, ts ≠ [] -> ts.length <= c -> ks.length = ts.length -> (∀ s ∈ ks, okS s) -> formL ts d -> sizeL ts <= 60 -> l.drop a = TMj ks ts ++ 125 :: x -> psM (psV d l) l c a = (ks, ts, ((a + (TMj ks ts).length + 1 : Nat) : Int))
 | [], _, _, _, _, _, _, h, _, _, _, _, _, _ => absurd rfl h
 | t :: ts, _, d, l, 0, a, x, _, hc, _, _, _, _, _ => by simp at hc
 | t :: ts, [], d, l, c + 1, a, x, _, _, hk, _, _, _, _ => by simp at hk
 | t :: ts, z :: ks, d, l, c + 1, a, x, _, hc, hk, ok, hf, hz, h => by
   simp only [formL] at hf
   simp only [sizeL] at hz
   have hp := sizeT_posR t
   have hl := len_sizeL ts
   have h0 : l.drop a = tL z ++ 58 :: (tL (textT t) ++ (TM ks ts ++ 125 :: x)) := by rw [h]; simp [TMj]
   obtain ⟨u1, u2⟩ := span_eq (p := ltrB) h0 (fun c hc => ltrB_of (letter_of (ok z (by simp)) c hc)) (fun b r e => by cases e; rfl)
   have h3 := drop_more h0
   have h5 : l.drop (a + (tL z).length + 1) = tL (textT t) ++ (TM ks ts ++ 125 :: x) := drop_more (w := [58]) h3
   have h1 := psV_text t hf.1 (by omega) h5 (TM_stopR ks ts x)
   have h4 := drop_more h5
   have hneg : ¬ (((a + (tL z).length + 1 + (tL (textT t)).length : Nat) : Int) < 0) := by omega
   have u3 : sub l a (a + (tL z).length) = tL z := by rw [<- u1]; exact u2
   simp only [psM, u1, u3, h1, Int.toNat_natCast, bL_tL]
   rw [if_pos (atB_of h3), if_neg hneg]
   cases ts with
   | nil =>
     have hk0 : ks = [] := List.eq_nil_of_length_eq_zero (by simpa using hk)
     subst hk0
     rw [if_pos (atB_of h4)]
     simp [TMj, TM]; omega
   | cons u ts =>
     cases ks with
     | nil => simp at hk
     | cons z' ks =>
       have h6 : l.drop (a + (tL z).length + 1 + (tL (textT t)).length + 1) = TMj (z' :: ks) (u :: ts) ++ 125 :: x := by
        have : l.drop (a + (tL z).length + 1 + (tL (textT t)).length) = [44] ++ (TMj (z' :: ks) (u :: ts) ++ 125 :: x) := by rw [h4]; simp [TM, TMj]
        exact drop_more (w := [44]) this
       have hr := psM_text (u :: ts) (ks := z' :: ks) (c := c) (by simp) (by simpa using hc) (by simpa using hk) (fun s hs => ok s (List.mem_cons_of_mem _ hs)) hf.2 (by omega) h6
       rw [atB_not (b := 125) (c := 44) h4 (by decide), if_neg (by simp), if_pos (atB_of (c := 44) h4), hr]
       simp only [TMj, TM, List.headD_cons, List.tail_cons, List.length_append, List.length_cons, Prod.mk.injEq, true_and]
       omega
end
end Go.Proofs.Pw
namespace Go.Proofs.Pw
variable [Globs]
def x_cloneX : X := (.seq (.reg [⟨some 1, none, .box (.t 0) (some 5)⟩, ⟨some 2, none, .alloc [(.c (.int .i64 0)), (.c (.int .i64 0)), (.c (.str ⟨#[]⟩)), (.z 1), (.z 5)]⟩] none [1, 2]) (.seq (.reg [⟨some 6, none, .bsl 1 []⟩, ⟨some 7, none, .fa (.t 1) 3⟩, ⟨some 8, none, .load (.t 7) none⟩, ⟨some 9, none, .app (.t 6) (.t 8) 1 16 []⟩, ⟨some 10, none, .fa (.t 1) 3⟩, ⟨none, none, .st (.t 10) (.t 9) none⟩] none [1, 2]) (.seq (.reg [⟨some 11, none, .bsl 5 []⟩, ⟨some 3, none, .mv (.t 11)⟩] none [1, 2, 3]) (.seq (.seq (.reg [⟨some 12, none, .fa (.t 1) 4⟩, ⟨some 13, none, .load (.t 12) none⟩, ⟨some 14, none, .len (.t 13) false⟩, ⟨some 15, none, .mv (.k (.c (.int .i64 0)))⟩] none [1, 2, 3, 13, 14, 15]) (.block 0 (.loop (.seq (.reg [⟨some 16, none, .bin false .lss (.t 15) (.t 14)⟩] none [1, 2, 3, 13, 14, 15, 16]) (.seq (.cond (.t 16) .skip (.exit 0)) (.seq (.block 1 (.seq (.reg [⟨some 17, none, .ia (.t 13) (.t 15) 5⟩, ⟨some 18, none, .load (.t 17) (some 5)⟩, ⟨some 5, none, .alloc [(.c (.int .i64 0)), (.c (.int .i64 0)), (.c (.str ⟨#[]⟩)), (.z 1), (.z 5)]⟩, ⟨none, none, .st (.t 5) (.t 18) (some 5)⟩] none [1, 2, 3, 5, 13, 14, 15]) (.reg [⟨some 19, none, .mv (.t 3)⟩, ⟨some 20, none, .load (.t 5) (some 5)⟩, ⟨some 21, none, .call 37 [(.t 20)]⟩, ⟨some 22, none, .bslx 5 [((.t 21), (some 5))]⟩, ⟨some 23, none, .appx (.t 19) (.t 22) 5 80⟩, ⟨some 3, none, .mv (.t 23)⟩] none [1, 2, 3, 13, 14, 15]))) (.reg [⟨some 24, none, .bin false .add (.t 15) (.k (.c (.int .i64 1)))⟩, ⟨some 15, none, .mv (.t 24)⟩] none [1, 2, 3, 13, 14, 15]))))))) (.seq (.reg [⟨some 25, none, .mv (.t 3)⟩, ⟨some 26, none, .fa (.t 1) 4⟩, ⟨none, none, .st (.t 26) (.t 25) none⟩] none [1, 2]) (.seq (.reg [⟨some 27, none, .load (.t 1) (some 5)⟩, ⟨none, none, .st (.t 2) (.t 27) (some 5)⟩] none [2]) .ret))))))
theorem chk_cloneX : chkX Tryd.prog 28 (Tryd.f37.body.getD .skip) x_cloneX = true := by kernel_rfl
theorem rs_cloneX : okRs Tryd.prog Tryd.f37.results.toList [.cell 2 (some 5)] = true := by kernel_rfl
theorem call_cloneX : okCallee Tryd.prog 37 = true := by kernel_rfl
noncomputable def spCloneX (k:Nat) : Spec := Spec.of (ι := T) [false] (fun i => [.d (.agg i.enc)]) (fun i => (i.fit 2000000) /\ SizeOf.sizeOf i < k) (fun i => [.ag (agX i)]) (fun _ => [.gone])
theorem spCloneX_inj : ∀ i j : T, (fun (i : T) => ([.d (.agg i.enc)] : List AV)) i = (fun (i : T) => ([.d (.agg i.enc)] : List AV)) j -> i = j := by
 intro t t' h
 simpa [strs_eq, T.enc_eq, encL_eq, F.enc_eq, encF_eq, Tk.enc_eq, encTk_eq, Gn.enc_eq, ints_eq] using h
theorem spCloneX_md (k:Nat) : (spCloneX k).md = [false] := rfl
theorem spCloneX_pre (k:Nat) (t : T) : (spCloneX k).pre [.d (.agg t.enc)] = ((t.fit 2000000) /\ SizeOf.sizeOf t < k) := Spec.of_pre' spCloneX_inj t
theorem spCloneX_alts (k:Nat) : (spCloneX k).alts = none := rfl
theorem spCloneX_res (k:Nat) (t : T) : (spCloneX k).res [.d (.agg t.enc)] = [.ag (agX t)] := Spec.of_res spCloneX_inj t
theorem spCloneX_out (k:Nat) (t : T) : (spCloneX k).out [.d (.agg t.enc)] = [.gone] := Spec.of_out spCloneX_inj t
set_option maxHeartbeats 1000000 in
theorem cloneX_sound (k : Nat) (hS : Sound Tryd.prog 37 (spCloneX k)) : Sound Tryd.prog 37 (spCloneX (k + 1)) := by
 refine sound_fam (GOK.cons call_cloneX hS GOK.nil) Tryd.func37 (c := Tryd.f37.body.getD .skip) rfl (n := 28) rfl chk_cloneX rs_cloneX (fun _ => by simp) ?_ ?_
 ·exact spCloneX_inj
 ·rintro t ⟨h1, h4⟩
  obtain ⟨kk, n, s, ks, l⟩ := t
  simp only [T.fit, lenB, strsFit] at h1
  obtain ⟨_, _, f1, ⟨f2, _⟩, f3, f4⟩ := h1
  have e3 : SizeOf.sizeOf l < k := by have e : SizeOf.sizeOf (T.mk kk n s ks l) < k + 1 := h4
                                      rw [T.mk.sizeOf_spec] at e; omega
  simp only [x_cloneX, T.enc, agX, go_sem, seval, Prod.fst, rg, strs_len, encL_len]
  repeat' (first | with_reducible assumption | with_reducible refine And.intro ?_ ?_ | intro _)
  all_goals first | omega | skip
  refine pw_loop (ι := Nat) (fun i => l.length - i) (fun i => i <= l.length)
   (fun i => ⟨[(1, .q (.box 1 0)), (2, .q (.box 2 0)), (3, .q (.own 23)), (13, .q (.c (.row 5 (encL l)))), (14, .q (.c (.int .i64 l.length))), (15, .q (.c (.int .i64 i)))],
    [(1, [.c (.int .i64 kk), .c (.int .i64 n), .c (.str s), .own 9, .c (.row 5 (encL l))]), (2, [.c (.int .i64 0), .c (.int .i64 0), .c (.str ⟨#[]⟩), .z 1, .z 5])], [(9, 1, strs ks), (23, 5, encLX (l.take i))]⟩) 0 (Nat.zero_le _) ?_ ?_
  ·refine Le.own (t := 3) (d := 23) (sz := 5) (by decide) (by simp) (by simp [Q.killO]) ?_
   simp [PV.map, Q.killO]
  ·intro i hi
   rcases Nat.lt_or_ge i l.length with hlt | hge
   ·obtain ⟨t, ht, _, hmem⟩ := drop_at hlt
    have a1 := encL_at ht
    have a2 : ((i : Int) < (l.length : Int)) = True := by simp; omega
    have a3 := fitL_mem f4 t hmem
    have a4 := size_mem hmem
    have a6 := T.enc_len t
    have a7 : (l.take i).length = i := by simp; omega
    obtain ⟨k1, n1, s1, ks1, l1⟩ := t
    simp only [go_sem, seval, Prod.fst, rg, a1, a2, a6, a7, encL_len, spCloneX_md, spCloneX_pre, spCloneX_alts, spCloneX_res, spCloneX_out, agX]
    repeat' (first | with_reducible assumption | with_reducible refine And.intro ?_ ?_ | intro _)
    all_goals first | omega | assumption | skip
    refine ⟨i + 1, by omega, by omega, ?_⟩
    rw [encLX_take ht]
    exact Le.sub (by simp) (by simp) (by simp [T.encX])
   ·have a2 : ((i : Int) < (l.length : Int)) = False := by simp; omega
    simp only [go_sem, seval, Prod.fst, rg, a2, List.take_of_length_le hge, Bool.false_or, Bool.or_true, Bool.not_true, Bool.false_eq_true]
theorem cloneX_all (k : Nat) : Sound Tryd.prog 37 (spCloneX k) := by
 induction k with
 | zero => exact Sound.none
 | succ k ih => exact cloneX_sound k ih
noncomputable def spCloneXT  : Spec := Spec.of (ι := T) [false] (fun i => [.d (.agg i.enc)]) (fun i => i.fit 2000000) (fun i => [.ag (agX i)]) (fun _ => [.gone])
theorem spCloneXT_inj : ∀ i j : T, (fun (i : T) => ([.d (.agg i.enc)] : List AV)) i = (fun (i : T) => ([.d (.agg i.enc)] : List AV)) j -> i = j := by
 intro t t' h
 simpa [strs_eq, T.enc_eq, encL_eq, F.enc_eq, encF_eq, Tk.enc_eq, encTk_eq, Gn.enc_eq, ints_eq] using h
theorem spCloneXT_md  : (spCloneXT).md = [false] := rfl
theorem spCloneXT_pre  (t : T) : (spCloneXT).pre [.d (.agg t.enc)] = (t.fit 2000000) := Spec.of_pre' spCloneXT_inj t
theorem spCloneXT_alts  : (spCloneXT).alts = none := rfl
theorem spCloneXT_res  (t : T) : (spCloneXT).res [.d (.agg t.enc)] = [.ag (agX t)] := Spec.of_res spCloneXT_inj t
theorem spCloneXT_out  (t : T) : (spCloneXT).out [.d (.agg t.enc)] = [.gone] := Spec.of_out spCloneXT_inj t
theorem cloneXT_sound : Sound Tryd.prog 37 spCloneXT := Sound.all (μ := fun i => SizeOf.sizeOf i) cloneX_all
end Go.Proofs.Pw
namespace Go.Proofs.Pw
theorem agX_out (t : T) : agX t = [.c (.int .i64 t.kind), .c (.int .i64 t.n), .c (.str t.s), .o 1 (strs t.keys), .o 5 (encLX t.list)] := by cases t; rfl
theorem zs : T.zero.s = ⟨#[]⟩ := rfl
variable [Globs]
end Go.Proofs.Pw
