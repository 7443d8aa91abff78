/- Edits, as they lie in cells; their size; their texts. -/
import Derived.Test.YtclhfblnbfmdiaaDoorPwT16
import Derived.Test.YtclhfblnbfmdiaaDoorPwT10
import Derived.Test.YtclhfblnbfmdiaaDoorPwT14
import Derived.Shelf.Strconv.Itoa0
import Derived.Shelf.Strconv.Itoa1
import Derived.Shelf.LaysM
import Derived.Shelf.Strconv.Itoa2
import Derived.Shelf.Strconv.Itoa3
import Derived.Shelf.Slices.Equal
import Derived.Ground.Names2Prog
import Derived.Shelf.Slices.ReverseS
import Derived.Shelf.Slices.Clone
import Derived.Shelf.Slices.Cells
import Derived.Ground.SlgnProg
import Derived.Shelf.SlicesE.Clone
import Derived.Test.YtclhfblnbfmdiaaDoorProg
set_option linter.unusedSimpArgs false
set_option linter.unusedVariables false
namespace Go.Proofs.Pw
structure Ed where
  path : List Stp
  was : T
  had : Bool
  now : T
  has : Bool
noncomputable instance : DecidableEq Ed := fun a b => Classical.propDecidable (a = b)
def Ed.enc (e : Ed) : List C := .row 3 (encS e.path) :: (e.was.enc ++ (.bool e.had :: (e.now.enc ++ [.bool e.has])))
def encE (l : List Ed) : List (List C) := l.map Ed.enc
theorem encE_len (l : List Ed) : (encE l).length = l.length := by simp [encE]
theorem Ed.enc_len (e : Ed) : e.enc.length = 13 := by simp [Ed.enc, T.enc_len]
theorem Ed.enc_inj {a b : Ed} (h : a.enc = b.enc) : a = b := by
  obtain ⟨p, w, hd, n, hs⟩ := a
  obtain ⟨p', w', hd', n', hs'⟩ := b
  simp only [Ed.enc, List.cons.injEq, C.row.injEq, true_and] at h
  obtain ⟨h1, h2⟩ := h
  obtain ⟨h3, h4⟩ := List.append_inj h2 (by rw [T.enc_len, T.enc_len])
  simp only [List.cons.injEq, C.bool.injEq] at h4
  obtain ⟨h5, h6⟩ := h4
  obtain ⟨h7, h8⟩ := List.append_inj h6 (by rw [T.enc_len, T.enc_len])
  simp only [List.cons.injEq, C.bool.injEq, and_true] at h8
  rw [encS_inj h1, T.enc_inj h3, h5, T.enc_inj h7, h8]
theorem Ed.enc_eq {a b : Ed} : a.enc = b.enc ↔ a = b := ⟨Ed.enc_inj, fun h => h ▸ rfl⟩
theorem encE_inj : ∀ {a b : List Ed}, encE a = encE b → a = b := by
  intro a
  induction a with
  | nil => intro b h; cases b with
    | nil => rfl
    | cons _ _ => simp [encE] at h
  | cons x a ih => intro b h; cases b with
    | nil => simp [encE] at h
    | cons y b =>
      simp only [encE, List.map_cons, List.cons.injEq] at h
      rw [Ed.enc_inj h.1, ih h.2]
theorem encE_eq {a b : List Ed} : encE a = encE b ↔ a = b := ⟨encE_inj, fun h => h ▸ rfl⟩
theorem Ed.enc_plain (e : Ed) : e.enc.all plainC = true := by
  simp only [Ed.enc, List.all_cons, List.all_append, T.enc_plain, List.all_nil, Bool.and_true, Bool.true_and]
  simp only [plainC, plainR_encS, Bool.and_true, Bool.true_and]
theorem plainR_encE (l : List Ed) : plainR (encE l) = true := by
  induction l with
  | nil => rfl
  | cons t l ih => simp only [encE, List.map_cons, plainR_cons, Ed.enc_plain]; exact ih
@[simp] theorem dtR_encE (l : List Ed) : dtR (encE l) = some (encE l) := dtR_plain (plainR_encE l)
theorem Ed.enc_toLs (i k o : Nat) (t : Ed) : toLs i k o t.enc = t.enc.map Q.c := toLs_plain t.enc_plain
theorem Ed.enc_take (t : Ed) : (t.enc.map Q.c).take 13 = t.enc.map Q.c := List.take_of_length_le (by simp [Ed.enc_len])
theorem Ed.enc_take13 (t : Ed) : t.enc.take 13 = t.enc := List.take_of_length_le (by simp [Ed.enc_len])
attribute [simp] plainR_encE
attribute [go_sem] encE_len Ed.enc_plain plainR_encE dtR_encE Ed.enc_toLs Ed.enc_take Ed.enc_take13
/-! Sizes. -/
/-! Texts. -/
def stepB (s : Stp) : ByteArray := if s.map = true then ⟨#[46]⟩ ++ s.key else ⟨#[91]⟩ ++ itoaB s.at' ++ ⟨#[93]⟩
def stepsB : List Stp → ByteArray
  | [] => ⟨#[]⟩
  | s :: p => stepB s ++ stepsB p
noncomputable def pathText (p : List Stp) : ByteArray := if wayOk p then ⟨#[36]⟩ ++ stepsB p else ⟨#[]⟩
theorem stepsB_app : ∀ a b : List Stp, stepsB (a ++ b) = stepsB a ++ stepsB b
  | [], b => by simp [stepsB, ba_nil]
  | t :: a, b => by simp only [List.cons_append, stepsB, stepsB_app a b, ba_assoc]
theorem stepsB_take {l : List Stp} {i : Nat} {t : Stp} (h : l[i]? = some t) : stepsB (l.take (i + 1)) = stepsB (l.take i) ++ stepB t := by
  rw [List.take_add_one, h, stepsB_app]
  simp [stepsB, ba_nil']
theorem stepB_size {s : Stp} (h : stpOk s) : (stepB s).size ≤ 23 := by
  unfold stpOk at h
  have e1 : (ByteArray.mk #[46]).size = 1 := rfl
  have e2 : (ByteArray.mk #[91]).size = 1 := rfl
  have e3 : (ByteArray.mk #[93]).size = 1 := rfl
  unfold stepB
  split at h
  · rename_i c
    rw [if_pos c, ByteArray.size_append, e1]
    have := h.1.2; omega
  · rename_i c
    have := itoaB_size (n := s.at') (by omega) (by omega)
    rw [if_neg c, ByteArray.size_append, ByteArray.size_append, e2, e3]; omega
theorem stepsB_size : ∀ {p : List Stp}, (∀ s ∈ p, stpOk s) → (stepsB p).size ≤ 23 * p.length
  | [], _ => by simp [stepsB, ByteArray.size]
  | s :: p, h => by
    have a := stepB_size (h s (by simp))
    have b := stepsB_size (p := p) (fun x hx => h x (List.mem_cons_of_mem _ hx))
    simp only [stepsB, ByteArray.size_append, List.length_cons]; omega
theorem stepsB_take_size {p : List Stp} (h : wayOk p) (i : Nat) : (stepsB (p.take i)).size ≤ 138 := by
  have a := stepsB_size (p := p.take i) (fun s hs => h.1 s (List.mem_of_mem_take hs))
  have b := h.2
  rw [List.length_take] at a; omega
end Go.Proofs.Pw
/- Texts tell what they are texts of: numbers, steps, ways. -/
namespace Go.Proofs.Pw
/-! Numbers. -/
def dv (l : List UInt8) : Nat := l.foldl (fun r b => r * 10 + (b.toNat - 48)) 0
theorem dv_snoc (l : List UInt8) (b : UInt8) : dv (l ++ [b]) = dv l * 10 + (b.toNat - 48) := by simp [dv, List.foldl_append]
theorem dig_nat {x : Nat} (h : x < 10) : (UInt8.ofNat (48 + x)).toNat = 48 + x := by
  rw [UInt8.toNat_ofNat']
  omega
theorem dv_dec (u : Nat) : dv (Lib.decDigits u) = u := by
  induction u using Nat.strongRecOn with
  | _ u ih =>
    by_cases h : u < 10
    · rw [Lib.decDigits, dif_pos h]
      have := dig_nat h
      simp only [dv, List.foldl_cons, List.foldl_nil, this]; omega
    · rw [Lib.decDigits, dif_neg h, dv_snoc, ih (u / 10) (by omega), dig_nat (by omega)]; omega
theorem dec_dig (u : Nat) : ∀ b ∈ Lib.decDigits u, 48 ≤ b.toNat ∧ b.toNat ≤ 57 := by
  induction u using Nat.strongRecOn with
  | _ u ih =>
    by_cases h : u < 10
    · rw [Lib.decDigits, dif_pos h]
      intro b hb
      simp only [List.mem_singleton] at hb
      have := dig_nat h
      rw [hb]; omega
    · rw [Lib.decDigits, dif_neg h]
      intro b hb
      rcases List.mem_append.1 hb with hb | hb
      · exact ih (u / 10) (by omega) b hb
      · simp only [List.mem_singleton] at hb
        have := dig_nat (show u % 10 < 10 by omega)
        rw [hb]; omega
theorem dec_inj {u v : Nat} (h : Lib.decDigits u = Lib.decDigits v) : u = v := by rw [← dv_dec u, ← dv_dec v, h]
theorem itoa_chr (n : Int) : ∀ b ∈ Lib.itoa n, b.toNat = 45 ∨ 48 ≤ b.toNat ∧ b.toNat ≤ 57 := by
  intro b hb
  unfold Lib.itoa at hb
  split at hb
  · rcases List.mem_cons.1 hb with rfl | hb
    · exact .inl rfl
    · exact .inr (dec_dig _ b hb)
  · exact .inr (dec_dig _ b hb)
theorem dec_not45 (u : Nat) (l : List UInt8) : Lib.decDigits u ≠ 45 :: l := fun h => by
  have := dec_dig u 45 (by rw [h]; simp)
  have e : (45 : UInt8).toNat = 45 := rfl
  omega
theorem itoa_inj {m n : Int} (h : Lib.itoa m = Lib.itoa n) : m = n := by
  unfold Lib.itoa at h
  split at h <;> split at h
  · have := dec_inj (List.cons.inj h).2; omega
  · exact absurd h.symm (dec_not45 _ _)
  · exact absurd h (dec_not45 _ _)
  · have := dec_inj h; omega
/-! Cutting at the first byte that is of another kind. -/
def stops (P : UInt8 → Prop) : List UInt8 → Prop
  | [] => True
  | b :: _ => ¬ P b
theorem span_inj {P : UInt8 → Prop} : ∀ {a b x y : List UInt8}, (∀ c ∈ a, P c) → (∀ c ∈ b, P c) → stops P x → stops P y → a ++ x = b ++ y → a = b ∧ x = y
  | [], [], x, y, _, _, _, _, h => ⟨rfl, h⟩
  | [], c :: b, x, y, _, hb, hx, _, h => by
    simp only [List.nil_append, List.cons_append] at h
    subst h
    exact absurd (hb c (by simp)) hx
  | c :: a, [], x, y, ha, _, _, hy, h => by
    simp only [List.nil_append, List.cons_append] at h
    subst h
    exact absurd (ha c (by simp)) hy
  | c :: a, d :: b, x, y, ha, hb, hx, hy, h => by
    simp only [List.cons_append, List.cons.injEq] at h
    obtain ⟨rfl, h⟩ := h
    obtain ⟨h1, h2⟩ := span_inj (fun c hc => ha c (List.mem_cons_of_mem _ hc)) (fun c hc => hb c (List.mem_cons_of_mem _ hc)) hx hy h
    exact ⟨by rw [h1], h2⟩
/-! Steps. -/
def tL (s : ByteArray) : List UInt8 := s.data.toList
theorem tL_app (a b : ByteArray) : tL (a ++ b) = tL a ++ tL b := by simp [tL, ByteArray.data_append]
theorem tL_inj {a b : ByteArray} (h : tL a = tL b) : a = b := by
  cases a; cases b
  simp only [tL, Array.toList_inj] at h
  rw [h]
theorem tL_itoa (n : Int) : tL (itoaB n) = Lib.itoa n := bL_toList _
def stepsStop : List UInt8 → Prop
  | [] => True
  | b :: _ => b = 46 ∨ b = 91
theorem tL_step (s : Stp) : tL (stepB s) = if s.map = true then 46 :: tL s.key else 91 :: (Lib.itoa s.at' ++ [93]) := by
  unfold stepB
  split
  · rw [tL_app]; rfl
  · rw [tL_app, tL_app, tL_itoa]; rfl
theorem letter_of {s : ByteArray} (h : okS s) : ∀ c ∈ tL s, letter c := h.1
theorem step_inj {s t : Stp} (hs : stpOk s) (ht : stpOk t) {x y : List UInt8} (hx : stepsStop x) (hy : stepsStop y) (h : tL (stepB s) ++ x = tL (stepB t) ++ y) : s = t ∧ x = y := by
  rw [tL_step, tL_step] at h
  obtain ⟨m, k, n⟩ := s
  obtain ⟨m', k', n'⟩ := t
  unfold stpOk at hs ht
  simp only at h hs ht
  have stopL : ∀ {z : List UInt8}, stepsStop z → stops letter z := fun {z} hz => by
    cases z with
    | nil => trivial
    | cons b z =>
      rcases hz with rfl | rfl
      · intro hl; unfold letter at hl; revert hl; decide
      · intro hl; unfold letter at hl; revert hl; decide
  cases m <;> cases m'
  · simp only [Bool.false_eq_true, if_false] at h hs ht
    simp only [List.cons_append, List.cons.injEq, true_and, List.append_assoc, List.nil_append] at h
    have hd : ∀ n : Int, ∀ c ∈ Lib.itoa n, c ≠ 93 := fun n c hc e => by
      have := itoa_chr n c hc
      have e2 : (93 : UInt8).toNat = 93 := rfl
      rw [e] at this; omega
    obtain ⟨h1, h2⟩ := span_inj (P := fun c => c ≠ 93) (hd n) (hd n') (by simp [stops]) (by simp [stops]) h
    simp only [List.cons.injEq, true_and] at h2
    rw [itoa_inj h1, hs.1, ht.1]
    exact ⟨rfl, h2⟩
  · simp at h
  · simp at h
  · simp only [if_true] at h hs ht
    simp only [List.cons_append, List.cons.injEq, true_and] at h
    obtain ⟨h1, h2⟩ := span_inj (P := letter) (letter_of hs.1) (letter_of ht.1) (stopL hx) (stopL hy) h
    rw [tL_inj h1, hs.2, ht.2]
    exact ⟨rfl, h2⟩
theorem steps_stop : ∀ p : List Stp, stepsStop (tL (stepsB p))
  | [] => trivial
  | s :: p => by
    simp only [stepsB, tL_app, tL_step]
    split
    · exact .inl rfl
    · exact .inr rfl
theorem step_ne (s : Stp) (x : List UInt8) : tL (stepB s) ++ x ≠ [] := by
  rw [tL_step]
  split <;> simp
theorem steps_inj : ∀ {p q : List Stp}, (∀ s ∈ p, stpOk s) → (∀ s ∈ q, stpOk s) → tL (stepsB p) = tL (stepsB q) → p = q
  | [], [], _, _, _ => rfl
  | [], t :: q, _, _, h => by
    simp only [stepsB, tL_app] at h
    exact absurd h.symm (step_ne t _)
  | s :: p, [], _, _, h => by
    simp only [stepsB, tL_app] at h
    exact absurd h (step_ne s _)
  | s :: p, t :: q, hp, hq, h => by
    simp only [stepsB, tL_app] at h
    obtain ⟨h1, h2⟩ := step_inj (hp s (by simp)) (hq t (by simp)) (steps_stop p) (steps_stop q) h
    rw [h1, steps_inj (fun x hx => hp x (List.mem_cons_of_mem _ hx)) (fun x hx => hq x (List.mem_cons_of_mem _ hx)) h2]
theorem pathText_inj {p q : List Stp} (hp : wayOk p) (hq : wayOk q) (h : pathText p = pathText q) : p = q := by
  unfold pathText at h
  rw [if_pos hp, if_pos hq] at h
  have h1 := congrArg tL h
  rw [tL_app, tL_app] at h1
  exact steps_inj hp.1 hq.1 (List.append_cancel_left h1)
end Go.Proofs.Pw
/- All ways into a tree that is ok: each is one, leads to a tree that is ok, which put back leaves all as it was; no two are the same. -/
namespace Go.Proofs.Pw
set_option linter.unusedSectionVars false
variable [Globs]
theorem set_same {l : List T} {i : Nat} {t : T} (h : l[i]? = some t) : l.set i t = l := by
  apply List.ext_getElem?
  intro j
  rw [List.getElem?_set]
  split
  · rename_i e
    subst e
    rw [h]
    have := (List.getElem?_eq_some_iff.1 h).1
    simp [this]
  · rfl
theorem pos_at {key : ByteArray} {ks : List ByteArray} {i : Nat} (ha : Asc ks) (h : ks[i]? = some key) : posS key ks = i := by
  have hi := (List.getElem?_eq_some_iff.1 h).1
  rcases Nat.lt_trichotomy (posS key ks) i with h1 | h1 | h1
  · exfalso
    have hp : posS key ks < ks.length := by omega
    have h5 := List.getElem?_eq_getElem hp
    have h6 : ¬ sl (ks[posS key ks]) key := fun hs => by have := (posS_lt ha h5).1 hs; omega
    have h7 := (List.pairwise_iff_getElem.1 ha) _ i hp hi h1
    rw [(List.getElem?_eq_some_iff.1 h).2] at h7
    exact h6 h7
  · exact h1
  · exact absurd ((posS_lt ha h).2 h1) (sl_irrefl _)
theorem form_kind {k n : Int} {s : ByteArray} {ks : List ByteArray} {l : List T} (h : okT (.mk k n s ks l)) {i : Nat} {t : T} (ht : l[i]? = some t) : (k = 5 ∧ ks = [] ∨ k = 6 ∧ ks.length = l.length ∧ okKeys ks) ∧ n = 0 ∧ s = ⟨#[]⟩ ∧ l.length ≤ 59 := by
  have h1 := h.1
  have h2 := okT_size h
  simp only [formT] at h1
  simp only [sizeT] at h2
  obtain ⟨f1, f2, f3, f4, f5, f6, f7, f8, f9, f10, f11, f12⟩ := h1
  have hl := len_sizeL l
  have hk : 5 ≤ k := by
    rcases f5 with f5 | f5
    · exact f5
    · subst f5; simp at ht
  refine ⟨?_, f2.resolve_left (by omega), f3.resolve_left (by omega), by omega⟩
  by_cases c : k = 6
  · exact .inr ⟨c, f11 c⟩
  · exact .inl ⟨by omega, f4.resolve_left c⟩
theorem step_back {k n : Int} {s : ByteArray} {ks : List ByteArray} {l : List T} (h : okT (.mk k n s ks l)) {i : Nat} {t : T} (ht : l[i]? = some t) :
    stpOk (stepAt k ks i) ∧ canGo (stepAt k ks i) (.mk k n s ks l) ∧ oneT (stepAt k ks i) (.mk k n s ks l) = t ∧ partO (stepAt k ks i) (.mk k n s ks l) t = some (.mk k n s ks l) := by
  have hi := (List.getElem?_eq_some_iff.1 ht).1
  obtain ⟨hk, rfl, rfl, hl⟩ := form_kind h ht
  rcases hk with ⟨rfl, rfl⟩ | ⟨rfl, h1, h2⟩
  · have e0 : stepAt 5 [] i = ⟨false, ⟨#[]⟩, i⟩ := by unfold stepAt; rw [if_neg (by omega)]
    have e1 : placeI (l.length : Int) (i : Int) = i := by
      unfold placeI
      rw [if_neg (show ¬ (i : Int) < 0 by omega), if_pos (by omega)]
    have e2 : setT (.mk 5 0 ⟨#[]⟩ [] l) (i : Int) t = .mk 5 0 ⟨#[]⟩ [] l := by
      unfold setT setL setAt
      show T.mk 5 0 ⟨#[]⟩ [] ((l ++ List.replicate ((if (i : Int) < 0 then (i : Int) + (l.length : Int) else i).toNat + 1 - l.length) T.zero).set (if (i : Int) < 0 then (i : Int) + (l.length : Int) else i).toNat t) = _
      rw [if_neg (show ¬ (i : Int) < 0 by omega), Int.toNat_natCast, show i + 1 - l.length = 0 by omega]
      simp only [List.replicate_zero, List.append_nil]
      rw [set_same ht]
    rw [e0]
    refine ⟨?_, ?_, ?_, ?_⟩
    · unfold stpOk
      rw [if_neg (by simp)]
      exact ⟨rfl, by simp only; omega, by simp only; omega⟩
    · unfold canGo
      rw [if_neg (by simp)]
      exact .inl rfl
    · unfold oneT
      rw [if_neg (by simp)]
      unfold atT
      show (if (5 : Int) = 5 ∧ 0 ≤ placeI (l.length : Int) (i : Int) then l.getD (placeI (l.length : Int) (i : Int)).toNat T.zero else T.zero) = t
      rw [e1, if_pos ⟨rfl, by omega⟩, Int.toNat_natCast, List.getD_eq_getElem?_getD, ht]
      rfl
    · unfold partO
      rw [if_neg (by simp)]
      unfold partSetO
      simp only
      rw [e2, if_pos ⟨.inl rfl, by show -(l.length : Int) ≤ (i : Int); omega, h⟩]
  · obtain ⟨key, hkey⟩ : ∃ y, ks[i]? = some y := ⟨ks[i]'(by omega), List.getElem?_eq_getElem _⟩
    have ha := okKeys_asc h2
    have hp := pos_at ha hkey
    have e0 : stepAt 6 ks i = ⟨true, key, 0⟩ := by
      unfold stepAt
      rw [if_pos rfl, List.getD_eq_getElem?_getD, hkey]; rfl
    have e1 : idxS key 0 ks = ((0 + i : Nat) : Int) := idxS_at hkey (fun j hj e => by
      have h3 := pos_at ha e
      omega)
    have e2 : putT (.mk 6 0 ⟨#[]⟩ ks l) key t = .mk 6 0 ⟨#[]⟩ ks l := by
      unfold putT
      show T.mk 6 0 ⟨#[]⟩ (putS key t false ks l).1 (putS key t false ks l).2 = _
      rw [putS_in ha h1 (by rw [hp]; exact hkey), hp, set_same ht]
    rw [e0]
    refine ⟨?_, ?_, ?_, ?_⟩
    · unfold stpOk
      rw [if_pos rfl]
      exact ⟨okKeys_at h2 hkey, rfl⟩
    · unfold canGo
      rw [if_pos rfl]
      exact .inl rfl
    · unfold oneT
      rw [if_pos rfl]
      unfold getT
      show (if (6 : Int) = 6 ∧ 0 ≤ idxS key 0 ks then l.getD (idxS key 0 ks).toNat T.zero else T.zero) = t
      rw [e1, if_pos ⟨rfl, by omega⟩, List.getD_eq_getElem?_getD, show ((0 + i : Nat) : Int).toNat = i by omega, ht]
      rfl
    · unfold partO
      rw [if_pos rfl]
      unfold partPutO
      simp only
      rw [e2, if_pos ⟨.inl rfl, h⟩]
theorem kid_okT {k n : Int} {s : ByteArray} {ks : List ByteArray} {l : List T} (h : okT (.mk k n s ks l)) {i : Nat} {t : T} (ht : l[i]? = some t) : okT t := by
  have := oneT_ok (s := stepAt k ks i) h
  rw [(step_back h ht).2.2.1] at this; exact this
mutual
theorem all_ways : ∀ (t : T) (d : Int) (a : List Stp), formT t d → okT t → ∀ p ∈ allT t a, ∃ r, p = a ++ r ∧ (∀ s ∈ r, stpOk s) ∧ (r.length : Int) + 1 ≤ d ∧ ∃ x, wgetO t r = some x ∧ okT x ∧ wputO t r x = some t
  | .mk k n s ks l, d, a, hf, ho, p, hp => by
    have hd : 1 ≤ d := by simp only [formT] at hf; exact hf.1
    simp only [allT] at hp
    rcases List.mem_cons.1 hp with rfl | hp
    · exact ⟨[], by simp, by simp, by simp; omega, _, by simp [wgetO], ho, by simp [wputO]⟩
    · have hf2 : formL l (d - 1) := by simp only [formT] at hf; exact hf.2.2.2.2.2.2.2.2.2.2.2
      obtain ⟨j, t, r, _, ht, rfl, h1, h2, x, h3, h4, h5⟩ := all_waysL k n s ks l l 0 (d - 1) a ho (fun j t h => by rw [Nat.zero_add]; exact h) hf2 p hp
      obtain ⟨b1, b2, b3, b4⟩ := step_back ho ht
      refine ⟨stepAt k ks j :: r, by simp, ?_, by simp; omega, x, ?_, h4, ?_⟩
      · intro s' hs'
        rcases List.mem_cons.1 hs' with rfl | hs'
        · exact b1
        · exact h1 s' hs'
      · simp only [wgetO]
        rw [if_pos b2, b3]; exact h3
      · simp only [wputO]
        rw [if_pos b2, b3, h5]; exact b4
theorem all_waysL (k n : Int) (s : ByteArray) (ks : List ByteArray) (L : List T) : ∀ (l : List T) (i : Nat) (d : Int) (a : List Stp), okT (.mk k n s ks L) → (∀ j t, l[j]? = some t → L[i + j]? = some t) → formL l d → ∀ p ∈ allLs k ks l i a,
    ∃ j t r, i ≤ j ∧ L[j]? = some t ∧ p = (a ++ [stepAt k ks j]) ++ r ∧ (∀ s ∈ r, stpOk s) ∧ (r.length : Int) + 1 ≤ d ∧ ∃ x, wgetO t r = some x ∧ okT x ∧ wputO t r x = some t
  | [], i, d, a, ho, hL, hf, p, hp => by simp [allLs] at hp
  | t :: l, i, d, a, ho, hL, hf, p, hp => by
    simp only [formL] at hf
    simp only [allLs] at hp
    rcases List.mem_append.1 hp with hp | hp
    · have ht : L[i]? = some t := hL 0 t rfl
      obtain ⟨r, h1, h2, h3, h4⟩ := all_ways t d (a ++ [stepAt k ks i]) hf.1 (kid_okT ho ht) p hp
      exact ⟨i, t, r, Nat.le_refl _, ht, h1, h2, h3, h4⟩
    · obtain ⟨j, u, r, h0, h1⟩ := all_waysL k n s ks L l (i + 1) d a ho (fun j u h => by
        have := hL (j + 1) u (by simpa using h)
        rw [show i + 1 + j = i + (j + 1) by omega]; exact this) hf.2 p hp
      exact ⟨j, u, r, by omega, h1⟩
end
theorem step_ne_at {k n : Int} {s : ByteArray} {ks : List ByteArray} {l : List T} (h : okT (.mk k n s ks l)) {i j : Nat} (hij : i < j) (hj : j < l.length) : stepAt k ks i ≠ stepAt k ks j := by
  have ht : l[i]? = some l[i] := List.getElem?_eq_getElem _
  obtain ⟨hk, _, _, _⟩ := form_kind h ht
  rcases hk with ⟨rfl, rfl⟩ | ⟨rfl, h1, h2⟩
  · unfold stepAt
    rw [if_neg (by omega), if_neg (by omega)]
    intro e
    simp only [Stp.mk.injEq, true_and] at e
    omega
  · have ha := okKeys_asc h2
    have hi' : i < ks.length := by omega
    have hj' : j < ks.length := by omega
    have e1 : stepAt 6 ks i = ⟨true, ks[i], 0⟩ := by unfold stepAt; rw [if_pos rfl, List.getD_eq_getElem?_getD, List.getElem?_eq_getElem hi']; rfl
    have e2 : stepAt 6 ks j = ⟨true, ks[j], 0⟩ := by unfold stepAt; rw [if_pos rfl, List.getD_eq_getElem?_getD, List.getElem?_eq_getElem hj']; rfl
    rw [e1, e2]
    intro e
    simp only [Stp.mk.injEq, true_and, and_true] at e
    have h7 := (List.pairwise_iff_getElem.1 ha) i j hi' hj' hij
    rw [e] at h7
    exact sl_irrefl _ h7
mutual
theorem all_nodup : ∀ (t : T) (d : Int) (a : List Stp), formT t d → okT t → (allT t a).Nodup
  | .mk k n s ks l, d, a, hf, ho => by
    have hf2 : formL l (d - 1) := by simp only [formT] at hf; exact hf.2.2.2.2.2.2.2.2.2.2.2
    simp only [allT, List.nodup_cons]
    refine ⟨fun hm => ?_, all_nodupL k n s ks l l 0 (d - 1) a ho (fun j t h => by rw [Nat.zero_add]; exact h) hf2⟩
    obtain ⟨j, t, r, _, _, he, _⟩ := all_waysL k n s ks l l 0 (d - 1) a ho (fun j t h => by rw [Nat.zero_add]; exact h) hf2 a hm
    have := congrArg List.length he
    simp at this
theorem all_nodupL (k n : Int) (s : ByteArray) (ks : List ByteArray) (L : List T) : ∀ (l : List T) (i : Nat) (d : Int) (a : List Stp), okT (.mk k n s ks L) → (∀ j t, l[j]? = some t → L[i + j]? = some t) → formL l d → (allLs k ks l i a).Nodup
  | [], i, d, a, ho, hL, hf => by simp [allLs]
  | t :: l, i, d, a, ho, hL, hf => by
    simp only [formL] at hf
    have ht : L[i]? = some t := hL 0 t rfl
    have hL' : ∀ j u, l[j]? = some u → L[i + 1 + j]? = some u := fun j u h => by
      have := hL (j + 1) u (by simpa using h)
      rw [show i + 1 + j = i + (j + 1) by omega]; exact this
    simp only [allLs]
    rw [List.nodup_append]
    refine ⟨all_nodup t d (a ++ [stepAt k ks i]) hf.1 (kid_okT ho ht), all_nodupL k n s ks L l (i + 1) d a ho hL' hf.2, fun p hp q hq he => ?_⟩
    obtain ⟨r, h1, _⟩ := all_ways t d (a ++ [stepAt k ks i]) hf.1 (kid_okT ho ht) p hp
    obtain ⟨j, u, r', h2, h3, h4, _⟩ := all_waysL k n s ks L l (i + 1) d a ho hL' hf.2 q hq
    rw [h1, h4, List.append_assoc, List.append_assoc] at he
    have he2 := List.append_cancel_left he
    simp only [List.cons_append, List.nil_append, List.cons.injEq] at he2
    exact step_ne_at ho (show i < j by omega) (List.getElem?_eq_some_iff.1 h3).1 he2.1
end
end Go.Proofs.Pw
/- All ways into a tree, and how many parts it has: the program's functions. -/
set_option linter.unusedSimpArgs false
set_option maxRecDepth 20000
namespace Go.Proofs.Pw
set_option linter.unusedSectionVars false
variable [Globs]
theorem encSX_inj {a b : List (List Stp)} (h : encSX a = encSX b) : a = b := by
  induction a generalizing b with
  | nil => cases b with
    | nil => rfl
    | cons _ _ => simp [encSX] at h
  | cons x a ih => cases b with
    | nil => simp [encSX] at h
    | cons y b =>
      simp only [encSX, List.map_cons, List.cons.injEq, C.own.injEq, true_and, and_true] at h ih
      rw [encS_inj h.1, ih h.2]
theorem encSX_eq {a b : List (List Stp)} : encSX a = encSX b ↔ a = b := ⟨encSX_inj, fun h => h ▸ rfl⟩
def x_stepTo : X := (.seq (.reg [⟨some 2, none, .box (.t 0) (some 5)⟩, ⟨some 4, none, .alloc [(.c (.bool false)), (.c (.str ⟨#[]⟩)), (.c (.int .i64 0))]⟩] none [1, 2, 4]) (.seq (.seq (.reg [⟨some 5, none, .fa (.t 2) 0⟩, ⟨some 6, none, .load (.t 5) none⟩, ⟨some 7, none, .bin false .eql (.t 6) (.k (.c (.int .i64 6)))⟩] none [1, 2, 4, 7]) (.cond (.t 7) (.seq (.reg [⟨some 8, none, .fa (.t 2) 3⟩, ⟨some 9, none, .load (.t 8) none⟩, ⟨some 10, none, .mv (.t 1)⟩, ⟨some 11, none, .ia (.t 9) (.t 10) 1⟩, ⟨some 12, none, .load (.t 11) none⟩, ⟨some 13, none, .build [(.c (.bool false)), (.c (.str ⟨#[]⟩)), (.c (.int .i64 0))] [(0, (.k (.c (.bool true))), none), (1, (.t 12), none)]⟩, ⟨none, none, .st (.t 4) (.t 13) (some 3)⟩] none [4]) .ret) .skip)) (.seq (.reg [⟨some 14, none, .mv (.t 1)⟩, ⟨some 15, none, .build [(.c (.bool false)), (.c (.str ⟨#[]⟩)), (.c (.int .i64 0))] [(2, (.t 14), none)]⟩, ⟨none, none, .st (.t 4) (.t 15) (some 3)⟩] none [4]) .ret)))
theorem chk_stepTo : chkX Go.Proofs.Tryd.prog 16 (Go.Proofs.Tryd.f35.body.getD .skip) x_stepTo = true := by kernel_rfl
theorem rs_stepTo : okRs Go.Proofs.Tryd.prog Go.Proofs.Tryd.f35.results.toList [.cell 4 (some 3)] = true := by kernel_rfl
theorem call_stepTo : okCallee Go.Proofs.Tryd.prog 35 = true := by kernel_rfl
def x_further : X := (.seq (.reg [⟨some 3, none, .box (.t 1) (some 3)⟩, ⟨some 4, none, .mv (.k (.z 3))⟩] none [0, 3]) (.seq (.mix [⟨some 5, none, .bsl 3 []⟩, ⟨some 6, none, .mv (.t 0)⟩, ⟨some 7, none, .app (.t 5) (.t 6) 3 32 []⟩, ⟨some 8, none, .load (.t 3) (some 3)⟩, ⟨some 9, none, .bsl 3 [((.t 8), (some 3))]⟩] [⟨some 10, none, .app (.t 7) (.t 9) 3 32 []⟩, ⟨some 4, none, .mv (.t 10)⟩] [[], [], [], [2], []] [4]) .ret))
theorem chk_further : chkX Go.Proofs.Tryd.prog 11 (Go.Proofs.Tryd.f34.body.getD .skip) x_further = true := by kernel_rfl
theorem rs_further : okRs Go.Proofs.Tryd.prog Go.Proofs.Tryd.f34.results.toList [.tmp 4] = true := by kernel_rfl
theorem call_further : okCallee Go.Proofs.Tryd.prog 34 = true := by kernel_rfl
def x_ways : X := (.gh (.seq (.reg [⟨some 3, none, .box (.t 0) (some 5)⟩, ⟨some 6, none, .mv (.k (.z 1))⟩] none [1, 2, 3]) (.seq (.reg [⟨some 9, none, .mv (.t 2)⟩, ⟨some 10, none, .bsl 3 []⟩, ⟨some 11, none, .mv (.t 1)⟩, ⟨some 12, none, .app (.t 10) (.t 11) 3 32 []⟩, ⟨some 13, none, .bslx 1 [((.t 12), none)]⟩, ⟨some 14, none, .appx (.t 9) (.t 13) 1 24⟩, ⟨some 2, none, .mv (.t 14)⟩] none [1, 2, 3]) (.seq (.seq (.reg [⟨some 15, none, .fa (.t 3) 4⟩, ⟨some 16, none, .load (.t 15) none⟩, ⟨some 17, none, .len (.t 16) false⟩, ⟨some 18, none, .mv (.k (.c (.int .i64 0)))⟩] none [1, 2, 3, 16, 17, 18]) (.block 0 (.loop (.seq (.reg [⟨some 19, none, .bin false .lss (.t 18) (.t 17)⟩] none [1, 2, 3, 16, 17, 18, 19]) (.seq (.cond (.t 19) .skip (.exit 0)) (.seq (.block 1 (.seq (.reg [⟨some 20, none, .mv (.t 18)⟩, ⟨some 21, none, .ia (.t 16) (.t 18) 5⟩, ⟨some 22, none, .load (.t 21) (some 5)⟩, ⟨some 8, none, .alloc [(.c (.int .i64 0)), (.c (.int .i64 0)), (.c (.str ⟨#[]⟩)), (.z 1), (.z 5)]⟩, ⟨some 7, none, .mv (.t 20)⟩, ⟨none, none, .st (.t 8) (.t 22) (some 5)⟩] none [1, 2, 3, 7, 8, 16, 17, 18]) (.mix [⟨some 23, none, .load (.t 8) (some 5)⟩, ⟨some 24, none, .mv (.t 1)⟩, ⟨some 25, none, .load (.t 3) (some 5)⟩, ⟨some 26, none, .mv (.t 7)⟩, ⟨some 27, none, .call 35 [(.t 25), (.t 26)]⟩, ⟨some 28, none, .callo 34 [(.t 24), (.t 27)]⟩, ⟨some 29, none, .mv (.t 2)⟩] [⟨some 30, none, .call 16 [(.t 23), (.t 28), (.t 29)]⟩, ⟨some 2, none, .mv (.t 30)⟩] [[], [], [], [], [], [0], [5]] [1, 2, 3, 16, 17, 18]))) (.reg [⟨some 31, none, .bin false .add (.t 18) (.k (.c (.int .i64 1)))⟩, ⟨some 18, none, .mv (.t 31)⟩] none [1, 2, 3, 16, 17, 18]))))))) (.seq (.reg [⟨some 32, none, .mv (.t 2)⟩, ⟨some 6, none, .mv (.t 32)⟩] none [6]) (.gh .ret))))))
theorem chk_ways : chkX Go.Proofs.Tryd.prog 33 (Go.Proofs.Tryd.f16.body.getD .skip) x_ways = true := by kernel_rfl
theorem rs_ways : okRs Go.Proofs.Tryd.prog Go.Proofs.Tryd.f16.results.toList [.tmp 6] = true := by kernel_rfl
theorem call_ways : okCallee Go.Proofs.Tryd.prog 16 = true := by kernel_rfl
def x_PathAllI : X := (.seq (.reg [⟨some 1, none, .box (.t 0) (some 5)⟩, ⟨some 2, none, .mv (.k (.z 1))⟩] none [1]) (.seq (.seq (.reg [⟨some 3, none, .load (.t 1) (some 5)⟩, ⟨some 4, none, .call 15 [(.t 3)]⟩, ⟨some 5, none, .not (.t 4)⟩] none [1, 5]) (.cond (.t 5) (.seq (.reg [⟨some 6, none, .bsl 1 []⟩, ⟨some 2, none, .mv (.t 6)⟩] none [2]) .ret) .skip)) (.seq (.reg [⟨some 7, none, .load (.t 1) (some 5)⟩, ⟨some 8, none, .bslx 1 []⟩, ⟨some 9, none, .call 16 [(.t 7), (.k (.z 3)), (.t 8)]⟩, ⟨some 2, none, .mv (.t 9)⟩] none [2]) .ret)))
theorem chk_PathAllI : chkX Go.Proofs.Tryd.prog 10 (Go.Proofs.Tryd.f5.body.getD .skip) x_PathAllI = true := by kernel_rfl
theorem rs_PathAllI : okRs Go.Proofs.Tryd.prog Go.Proofs.Tryd.f5.results.toList [.tmp 2] = true := by kernel_rfl
theorem call_PathAllI : okCallee Go.Proofs.Tryd.prog 5 = true := by kernel_rfl
def x_many : X := (.seq (.reg [⟨some 1, none, .box (.t 0) (some 5)⟩, ⟨some 2, none, .mv (.k (.c (.int .i64 0)))⟩] none [1]) (.seq (.reg [⟨some 3, none, .mv (.k (.c (.int .i64 1)))⟩] none [1, 3]) (.seq (.seq (.reg [⟨some 6, none, .fa (.t 1) 4⟩, ⟨some 7, none, .load (.t 6) none⟩, ⟨some 8, none, .len (.t 7) false⟩, ⟨some 9, none, .mv (.k (.c (.int .i64 0)))⟩] none [3, 7, 8, 9]) (.block 0 (.loop (.seq (.reg [⟨some 10, none, .bin false .lss (.t 9) (.t 8)⟩] none [3, 7, 8, 9, 10]) (.seq (.cond (.t 10) .skip (.exit 0)) (.seq (.block 1 (.seq (.reg [⟨some 11, none, .ia (.t 7) (.t 9) 5⟩, ⟨some 12, none, .load (.t 11) (some 5)⟩, ⟨some 5, none, .alloc [(.c (.int .i64 0)), (.c (.int .i64 0)), (.c (.str ⟨#[]⟩)), (.z 1), (.z 5)]⟩, ⟨none, none, .st (.t 5) (.t 12) (some 5)⟩] none [3, 5, 7, 8, 9]) (.reg [⟨some 13, none, .mv (.t 3)⟩, ⟨some 14, none, .load (.t 5) (some 5)⟩, ⟨some 15, none, .call 19 [(.t 14)]⟩, ⟨some 16, none, .bin false .add (.t 13) (.t 15)⟩, ⟨some 3, none, .mv (.t 16)⟩] none [3, 7, 8, 9]))) (.reg [⟨some 17, none, .bin false .add (.t 9) (.k (.c (.int .i64 1)))⟩, ⟨some 9, none, .mv (.t 17)⟩] none [3, 7, 8, 9]))))))) (.seq (.reg [⟨some 18, none, .mv (.t 3)⟩, ⟨some 2, none, .mv (.t 18)⟩] none [2]) .ret))))
theorem chk_many : chkX Go.Proofs.Tryd.prog 19 (Go.Proofs.Tryd.f19.body.getD .skip) x_many = true := by kernel_rfl
theorem rs_many : okRs Go.Proofs.Tryd.prog Go.Proofs.Tryd.f19.results.toList [.tmp 2] = true := by kernel_rfl
theorem call_many : okCallee Go.Proofs.Tryd.prog 19 = true := by kernel_rfl
def x_ValManyI : X := (.seq (.reg [⟨some 1, none, .box (.t 0) (some 5)⟩, ⟨some 2, none, .mv (.k (.c (.int .i64 0)))⟩] none [1]) (.seq (.seq (.reg [⟨some 3, none, .load (.t 1) (some 5)⟩, ⟨some 4, none, .call 15 [(.t 3)]⟩, ⟨some 5, none, .not (.t 4)⟩] none [1, 5]) (.cond (.t 5) (.seq (.reg [⟨some 2, none, .mv (.k (.c (.int .i64 0)))⟩] none [2]) .ret) .skip)) (.seq (.reg [⟨some 6, none, .load (.t 1) (some 5)⟩, ⟨some 7, none, .call 19 [(.t 6)]⟩, ⟨some 2, none, .mv (.t 7)⟩] none [2]) .ret)))
theorem chk_ValManyI : chkX Go.Proofs.Tryd.prog 8 (Go.Proofs.Tryd.f7.body.getD .skip) x_ValManyI = true := by kernel_rfl
theorem rs_ValManyI : okRs Go.Proofs.Tryd.prog Go.Proofs.Tryd.f7.results.toList [.tmp 2] = true := by kernel_rfl
theorem call_ValManyI : okCallee Go.Proofs.Tryd.prog 7 = true := by kernel_rfl
noncomputable def spStepTo  : Spec := Spec.of (ι := T × Nat) [false, false] (fun i => [.d (.agg i.1.enc), .d (.one (.int .i64 i.2))]) (fun i => i.1.kind = 6 → i.2 < i.1.keys.length) (fun i => [.d (.agg (stepAt i.1.kind i.1.keys i.2).enc)]) (fun _ => [.gone, .gone])
theorem spStepTo_inj : ∀ i j : T × Nat, (fun (i : T × Nat) => ([.d (.agg i.1.enc), .d (.one (.int .i64 i.2))] : List AV)) i = (fun (i : T × Nat) => ([.d (.agg i.1.enc), .d (.one (.int .i64 i.2))] : List AV)) j → i = j := by
  rintro ⟨t, i⟩ ⟨t', i'⟩ h
  simp only [Prod.mk.injEq]
  simpa [strs_eq, T.enc_eq, encL_eq, F.enc_eq, encF_eq, Tk.enc_eq, encTk_eq, Gn.enc_eq, ints_eq, encS_eq, encSX_eq, Stp.enc_eq, Int.natCast_inj, and_assoc] using h
theorem spStepTo_md  : (spStepTo).md = [false, false] := rfl
theorem spStepTo_pre  (t : T) (i : Nat) : (spStepTo).pre [.d (.agg t.enc), .d (.one (.int .i64 i))] = (t.kind = 6 → i < t.keys.length) := Spec.of_pre' spStepTo_inj (t, i)
theorem spStepTo_alts  : (spStepTo).alts = none := rfl
theorem spStepTo_res  (t : T) (i : Nat) : (spStepTo).res [.d (.agg t.enc), .d (.one (.int .i64 i))] = [.d (.agg (stepAt t.kind t.keys i).enc)] := Spec.of_res spStepTo_inj (t, i)
theorem spStepTo_out  (t : T) (i : Nat) : (spStepTo).out [.d (.agg t.enc), .d (.one (.int .i64 i))] = [.gone, .gone] := Spec.of_out spStepTo_inj (t, i)
theorem stepTo_sound : Sound Go.Proofs.Tryd.prog 35 spStepTo := by
  refine sound_fam GOK.nil Go.Proofs.Tryd.func35 (c := Go.Proofs.Tryd.f35.body.getD .skip) rfl (n := 16) rfl chk_stepTo rs_stepTo (fun _ => by simp) ?_ ?_
  · exact spStepTo_inj
  · rintro ⟨t, i⟩ h
    obtain ⟨k, n, s, ks, l⟩ := t
    simp only [T.kind, T.keys] at h
    by_cases c : k = 6
    · have b1 : (k = 6) = True := eq_true c
      have hl := h c
      have a5 := strs_at (l := ks) (i := i) (s := ks[i]) (by simp [hl])
      have hst : stepAt k ks i = ⟨true, ks[i], 0⟩ := by simp [stepAt, c, hl]
      simp only [x_stepTo, T.enc, T.kind, T.keys, rg, go_sem, seval, Prod.fst, b1, a5, strs_len, hst, Stp.enc]
      repeat' (first | with_reducible assumption | with_reducible refine And.intro ?_ ?_ | intro _)
      all_goals first | omega | with_reducible assumption | skip
    · have b1 : (k = 6) = False := eq_false c
      have hst : stepAt k ks i = ⟨false, ⟨#[]⟩, i⟩ := by simp [stepAt, c]
      simp only [x_stepTo, T.enc, T.kind, T.keys, rg, go_sem, seval, Prod.fst, b1, hst, Stp.enc]
      repeat' (first | with_reducible assumption | with_reducible refine And.intro ?_ ?_ | intro _)
      all_goals first | omega | with_reducible assumption | skip
noncomputable def spFurther  : Spec := Spec.of (ι := (List Stp) × Stp) [false, false] (fun i => [.d (.one (.row 3 (encS i.1))), .d (.agg i.2.enc)]) (fun i => lenB 1000000 i.1.length) (fun i => [.own 3 (encS (i.1 ++ [i.2]))]) (fun _ => [.gone, .gone])
theorem spFurther_inj : ∀ i j : (List Stp) × Stp, (fun (i : (List Stp) × Stp) => ([.d (.one (.row 3 (encS i.1))), .d (.agg i.2.enc)] : List AV)) i = (fun (i : (List Stp) × Stp) => ([.d (.one (.row 3 (encS i.1))), .d (.agg i.2.enc)] : List AV)) j → i = j := by
  rintro ⟨p, s⟩ ⟨p', s'⟩ h
  simp only [Prod.mk.injEq]
  simpa [strs_eq, T.enc_eq, encL_eq, F.enc_eq, encF_eq, Tk.enc_eq, encTk_eq, Gn.enc_eq, ints_eq, encS_eq, encSX_eq, Stp.enc_eq, Int.natCast_inj, and_assoc] using h
theorem spFurther_md  : (spFurther).md = [false, false] := rfl
theorem spFurther_pre  (p : List Stp) (s : Stp) : (spFurther).pre [.d (.one (.row 3 (encS p))), .d (.agg s.enc)] = (lenB 1000000 p.length) := Spec.of_pre' spFurther_inj (p, s)
theorem spFurther_alts  : (spFurther).alts = none := rfl
theorem spFurther_res  (p : List Stp) (s : Stp) : (spFurther).res [.d (.one (.row 3 (encS p))), .d (.agg s.enc)] = [.own 3 (encS (p ++ [s]))] := Spec.of_res spFurther_inj (p, s)
theorem spFurther_out  (p : List Stp) (s : Stp) : (spFurther).out [.d (.one (.row 3 (encS p))), .d (.agg s.enc)] = [.gone, .gone] := Spec.of_out spFurther_inj (p, s)
theorem further_sound : Sound Go.Proofs.Tryd.prog 34 spFurther := by
  refine sound_fam GOK.nil Go.Proofs.Tryd.func34 (c := Go.Proofs.Tryd.f34.body.getD .skip) rfl (n := 11) rfl chk_further rs_further (fun _ => by simp) ?_ ?_
  · exact spFurther_inj
  · rintro ⟨p, s⟩ h
    simp only [lenB] at h
    have e : encS p ++ [s.enc] = encS (p ++ [s]) := by simp [encS]
    obtain ⟨m, k, n⟩ := s
    simp only [Stp.enc] at e
    simp only [x_further, rg, go_sem, seval, Prod.fst, Stp.enc, encS_len, e]
    repeat' (first | with_reducible assumption | with_reducible refine And.intro ?_ ?_ | intro _)
    all_goals first | omega | with_reducible assumption | skip
noncomputable def spWays (k:Nat) : Spec := Spec.of (ι := T × (List Stp) × (List (List Stp))) [false, false, true] (fun i => [.d (.agg i.1.enc), .d (.one (.row 3 (encS i.2.1))), .own 1 (encSX i.2.2)]) (fun i => (i.1.fit 2000000 ∧ i.1.keyed ∧ sizeT i.1 ≤ 100 ∧ (i.2.1.length : Int) + sizeT i.1 ≤ 300 ∧ (i.2.2.length : Int) + sizeT i.1 ≤ 300) ∧ SizeOf.sizeOf i.1 < k) (fun i => [.own 1 (encSX (i.2.2 ++ allT i.1 i.2.1))]) (fun _ => [.gone, .gone, .gone])
theorem spWays_inj : ∀ i j : T × (List Stp) × (List (List Stp)), (fun (i : T × (List Stp) × (List (List Stp))) => ([.d (.agg i.1.enc), .d (.one (.row 3 (encS i.2.1))), .own 1 (encSX i.2.2)] : List AV)) i = (fun (i : T × (List Stp) × (List (List Stp))) => ([.d (.agg i.1.enc), .d (.one (.row 3 (encS i.2.1))), .own 1 (encSX i.2.2)] : List AV)) j → i = j := by
  rintro ⟨t, a, o⟩ ⟨t', a', o'⟩ h
  simp only [Prod.mk.injEq]
  simpa [strs_eq, T.enc_eq, encL_eq, F.enc_eq, encF_eq, Tk.enc_eq, encTk_eq, Gn.enc_eq, ints_eq, encS_eq, encSX_eq, Stp.enc_eq, Int.natCast_inj, and_assoc] using h
theorem spWays_md (k:Nat) : (spWays k).md = [false, false, true] := rfl
theorem spWays_pre (k:Nat) (t : T) (a : List Stp) (o : List (List Stp)) : (spWays k).pre [.d (.agg t.enc), .d (.one (.row 3 (encS a))), .own 1 (encSX o)] = ((t.fit 2000000 ∧ t.keyed ∧ sizeT t ≤ 100 ∧ (a.length : Int) + sizeT t ≤ 300 ∧ (o.length : Int) + sizeT t ≤ 300) ∧ SizeOf.sizeOf t < k) := Spec.of_pre' spWays_inj (t, a, o)
theorem spWays_alts (k:Nat) : (spWays k).alts = none := rfl
theorem spWays_res (k:Nat) (t : T) (a : List Stp) (o : List (List Stp)) : (spWays k).res [.d (.agg t.enc), .d (.one (.row 3 (encS a))), .own 1 (encSX o)] = [.own 1 (encSX (o ++ allT t a))] := Spec.of_res spWays_inj (t, a, o)
theorem spWays_out (k:Nat) (t : T) (a : List Stp) (o : List (List Stp)) : (spWays k).out [.d (.agg t.enc), .d (.one (.row 3 (encS a))), .own 1 (encSX o)] = [.gone, .gone, .gone] := Spec.of_out spWays_inj (t, a, o)
set_option maxHeartbeats 4000000 in
theorem ways_sound (k : Nat) (hS : Sound Go.Proofs.Tryd.prog 16 (spWays k)) : Sound Go.Proofs.Tryd.prog 16 (spWays (k + 1)) := by
  refine sound_fam (GOK.cons (l := [(34, spFurther), (16, spWays k)]) call_stepTo stepTo_sound (GOK.cons call_further further_sound (GOK.cons call_ways hS GOK.nil))) Go.Proofs.Tryd.func16 (c := Go.Proofs.Tryd.f16.body.getD .skip) rfl (n := 33) rfl chk_ways rs_ways (fun _ => by simp) ?_ ?_
  · exact spWays_inj
  · rintro ⟨t, a, o⟩ ⟨⟨h1, h2, h3, h5, h6⟩, h4⟩
    obtain ⟨kk, n, s, ks, l⟩ := t
    simp only [T.fit, lenB, strsFit] at h1
    obtain ⟨_, _, f1, ⟨f2, _⟩, f3, f4⟩ := h1
    obtain ⟨g1, g2⟩ := h2
    have e3 : SizeOf.sizeOf l < k := by have e : SizeOf.sizeOf (T.mk kk n s ks l) < k + 1 := h4
                                        rw [T.mk.sizeOf_spec] at e; omega
    have hsz : sizeT (T.mk kk n s ks l) = 1 + sizeL l := rfl
    have hpos := allLs_len 0 [] l 0 []
    replace h3 : 1 + sizeL l ≤ 100 := h3
    replace h5 : (a.length : Int) + (1 + sizeL l) ≤ 300 := h5
    replace h6 : (o.length : Int) + (1 + sizeL l) ≤ 300 := h6
    simp only [x_ways]
    refine gh_le (Le.move (t := 2) (r := 1000000035) (d := 300) (sz := 1) (es := encSX o) rfl rfl (by decide)) ?_
    simp only [T.enc, go_sem, seval, Prod.fst, rg, strs_len, encL_len, encS_len, encSX_len]
    repeat' (first | with_reducible assumption | with_reducible refine And.intro ?_ ?_ | intro _)
    all_goals first | omega | skip
    refine pw_loop (ι := Nat) (fun i => l.length - i) (fun i => i ≤ l.length)
      (fun i => ⟨[(1, .q (.c (.row 3 (encS a)))), (2, .q (.own 30)), (3, .q (.box 3 0)), (16, .q (.c (.row 5 (encL l)))), (17, .q (.c (.int .i64 l.length))), (18, .q (.c (.int .i64 i)))],
        [(3, [.c (.int .i64 kk), .c (.int .i64 n), .c (.str s), .c (.row 1 (strs ks)), .c (.row 5 (encL l))])], [(30, 1, encSX (o ++ a :: allLs kk ks (l.take i) 0 a))]⟩) 0 (Nat.zero_le _) ?_ ?_
    · refine (Le.move (t := 2) (r := 300) (d := 30) (sz := 1) rfl rfl (by decide)).trans (Le.sub ?_ ?_ ?_)
      · simp [St.rowMove, St.map, upd, del, PV.map, Q.killO, Q.killB]
      · simp [St.rowMove, St.map, upd, PV.map, Q.killO]
      · simp [St.rowMove, St.map, upd, del, allLs, encSX_app]
        rfl
    · intro i hi
      rcases Nat.lt_or_ge i l.length with hlt | hge
      · obtain ⟨t, ht, _, hmem⟩ := drop_at hlt
        have a1 := encL_at ht
        have a2 : ((i : Int) < (l.length : Int)) = True := by simp; omega
        have a3 := fitL_mem f4 t hmem
        have a4 := size_mem hmem
        have a6 := T.enc_len t
        have a8 := sizeL_mem hmem
        have a9 := keyed_mem g2 t hmem
        have c1 := allLs_len kk ks (l.take i) 0 a
        have c2 := allT_len t (a ++ [stepAt kk ks i])
        have c3 := allLs_len kk ks (l.take (i + 1)) 0 a
        have c4 : sizeL (l.take (i + 1)) ≤ sizeL l := sizeL_takeP
        rw [allLs_take ht, List.length_append] at c3
        have c5 := sizeT_pos t
        have c6 : (stepAt kk ks i).enc.length = 3 := rfl
        have c7 : kk = 6 → i < ks.length := fun h => by rw [g1 h]; exact hlt
        have p1 := spStepTo_pre (T.mk kk n s ks l) i
        have p2 := spStepTo_res (T.mk kk n s ks l) i
        have p3 := spStepTo_out (T.mk kk n s ks l) i
        simp only [T.enc, T.kind, T.keys] at p1 p2 p3
        simp only [go_sem, seval, Prod.fst, rg, a1, a2, a6, c6, c7, encL_len, p1, p2, p3, spStepTo_md, spStepTo_alts, spFurther_md, spFurther_pre, spFurther_alts, spFurther_res, spFurther_out, spWays_md, spWays_pre, spWays_alts, spWays_res, spWays_out, encSX_len, List.length_append, List.length_cons, List.length_nil]
        repeat' (first | with_reducible assumption | with_reducible refine And.intro ?_ ?_ | intro _)
        all_goals first | omega | with_reducible assumption | skip
        · simp only [lenB]; omega
        · refine ⟨i + 1, hlt, by omega, ?_⟩
          rw [allLs_take ht]
          exact Le.sub (by simp) (by simp) (by simp)
      · have a2 : ((i : Int) < (l.length : Int)) = False := by simp; omega
        have a3 : l.take i = l := List.take_of_length_le hge
        simp only [rg, go_sem, seval, Prod.fst, a2, a3, encL_len]
        repeat' (first | with_reducible assumption | with_reducible refine And.intro ?_ ?_ | intro _)
        all_goals first | omega | with_reducible assumption | skip
        refine gh_skip ?_
        simp only [rg, go_sem, seval, Prod.fst, allT]
theorem ways_all (k : Nat) : Sound Go.Proofs.Tryd.prog 16 (spWays k) := by
  induction k with
  | zero => exact Sound.none
  | succ k ih => exact ways_sound k ih
noncomputable def spWaysT  : Spec := Spec.of (ι := T × (List Stp) × (List (List Stp))) [false, false, true] (fun i => [.d (.agg i.1.enc), .d (.one (.row 3 (encS i.2.1))), .own 1 (encSX i.2.2)]) (fun i => i.1.fit 2000000 ∧ i.1.keyed ∧ sizeT i.1 ≤ 100 ∧ (i.2.1.length : Int) + sizeT i.1 ≤ 300 ∧ (i.2.2.length : Int) + sizeT i.1 ≤ 300) (fun i => [.own 1 (encSX (i.2.2 ++ allT i.1 i.2.1))]) (fun _ => [.gone, .gone, .gone])
theorem spWaysT_inj : ∀ i j : T × (List Stp) × (List (List Stp)), (fun (i : T × (List Stp) × (List (List Stp))) => ([.d (.agg i.1.enc), .d (.one (.row 3 (encS i.2.1))), .own 1 (encSX i.2.2)] : List AV)) i = (fun (i : T × (List Stp) × (List (List Stp))) => ([.d (.agg i.1.enc), .d (.one (.row 3 (encS i.2.1))), .own 1 (encSX i.2.2)] : List AV)) j → i = j := by
  rintro ⟨t, a, o⟩ ⟨t', a', o'⟩ h
  simp only [Prod.mk.injEq]
  simpa [strs_eq, T.enc_eq, encL_eq, F.enc_eq, encF_eq, Tk.enc_eq, encTk_eq, Gn.enc_eq, ints_eq, encS_eq, encSX_eq, Stp.enc_eq, Int.natCast_inj, and_assoc] using h
theorem spWaysT_md  : (spWaysT).md = [false, false, true] := rfl
theorem spWaysT_pre  (t : T) (a : List Stp) (o : List (List Stp)) : (spWaysT).pre [.d (.agg t.enc), .d (.one (.row 3 (encS a))), .own 1 (encSX o)] = (t.fit 2000000 ∧ t.keyed ∧ sizeT t ≤ 100 ∧ (a.length : Int) + sizeT t ≤ 300 ∧ (o.length : Int) + sizeT t ≤ 300) := Spec.of_pre' spWaysT_inj (t, a, o)
theorem spWaysT_alts  : (spWaysT).alts = none := rfl
theorem spWaysT_res  (t : T) (a : List Stp) (o : List (List Stp)) : (spWaysT).res [.d (.agg t.enc), .d (.one (.row 3 (encS a))), .own 1 (encSX o)] = [.own 1 (encSX (o ++ allT t a))] := Spec.of_res spWaysT_inj (t, a, o)
theorem spWaysT_out  (t : T) (a : List Stp) (o : List (List Stp)) : (spWaysT).out [.d (.agg t.enc), .d (.one (.row 3 (encS a))), .own 1 (encSX o)] = [.gone, .gone, .gone] := Spec.of_out spWaysT_inj (t, a, o)
theorem waysT_sound : Sound Go.Proofs.Tryd.prog 16 spWaysT := Sound.all (μ := fun i => SizeOf.sizeOf i.1) ways_all
theorem foldNX : AV.own 1 [] = AV.own 1 (encSX []) := rfl
noncomputable def spPathAllI  : Spec := Spec.of (ι := T) [false] (fun i => [.d (.agg i.enc)]) (fun i => i.fit 2000000 ∧ sizeT i ≤ 1048577) (fun i => [.own 1 (encSX (waysT i))]) (fun _ => [.gone])
theorem spPathAllI_inj : ∀ i j : T, (fun (i : T) => ([.d (.agg i.enc)] : List AV)) i = (fun (i : T) => ([.d (.agg i.enc)] : List AV)) j → i = j := by
  intro t t' h
  simpa [strs_eq, T.enc_eq, encL_eq, F.enc_eq, encF_eq, Tk.enc_eq, encTk_eq, Gn.enc_eq, ints_eq, encS_eq, encSX_eq, Stp.enc_eq, Int.natCast_inj, and_assoc] using h
theorem spPathAllI_md  : (spPathAllI).md = [false] := rfl
theorem spPathAllI_pre  (t : T) : (spPathAllI).pre [.d (.agg t.enc)] = (t.fit 2000000 ∧ sizeT t ≤ 1048577) := Spec.of_pre' spPathAllI_inj t
theorem spPathAllI_alts  : (spPathAllI).alts = none := rfl
theorem spPathAllI_res  (t : T) : (spPathAllI).res [.d (.agg t.enc)] = [.own 1 (encSX (waysT t))] := Spec.of_res spPathAllI_inj t
theorem spPathAllI_out  (t : T) : (spPathAllI).out [.d (.agg t.enc)] = [.gone] := Spec.of_out spPathAllI_inj t
set_option maxHeartbeats 2000000 in
theorem PathAllI_sound : Sound Go.Proofs.Tryd.prog 5 spPathAllI := by
  refine sound_fam (GOK.cons (l := [(16, spWaysT)]) call_ValOkI valOkI_sound (GOK.cons call_ways waysT_sound GOK.nil)) Go.Proofs.Tryd.func5 (c := Go.Proofs.Tryd.f5.body.getD .skip) rfl (n := 10) rfl chk_PathAllI rs_PathAllI (fun _ => by simp) ?_ ?_
  · exact spPathAllI_inj
  · rintro t ⟨h1, h2⟩
    have a6 := T.enc_len t
    have h3 := T.fit_mono (B := 140737488355328) (by omega) h1
    by_cases hk : okT t
    · have e : ((okI t 1 60).1 = true) = True := eq_true ((okI_iff t).2 hk)
      have k1 := okT_size hk
      have k2 := form_keyed t 6 hk.1
      simp only [x_PathAllI, go_sem, seval, Prod.fst, rg, a6, e, foldN, foldNX, spValOkI_md, spValOkI_pre, spValOkI_alts, spValOkI_res, spValOkI_out, spWaysT_md, spWaysT_pre, spWaysT_alts, spWaysT_res, spWaysT_out]
      repeat' (first | with_reducible assumption | with_reducible refine And.intro ?_ ?_ | intro _)
      all_goals first | omega | with_reducible assumption | skip
      simp [waysT, hk]
    · have e : ((okI t 1 60).1 = true) = False := eq_false (fun h => hk ((okI_iff t).1 h))
      simp only [x_PathAllI, go_sem, seval, Prod.fst, rg, a6, e, foldN, spValOkI_md, spValOkI_pre, spValOkI_alts, spValOkI_res, spValOkI_out]
      repeat' (first | with_reducible assumption | with_reducible refine And.intro ?_ ?_ | intro _)
      all_goals first | omega | with_reducible assumption | skip
      simp [waysT, hk, encSX]
noncomputable def spMany1 (k:Nat) : Spec := Spec.of (ι := T) [false] (fun i => [.d (.agg i.enc)]) (fun i => (sizeT i ≤ 1048577 ∧ i.fit 140737488355328) ∧ SizeOf.sizeOf i < k) (fun i => [.d (.one (.int .i64 (sizeT i)))]) (fun _ => [.gone])
theorem spMany1_inj : ∀ i j : T, (fun (i : T) => ([.d (.agg i.enc)] : List AV)) i = (fun (i : T) => ([.d (.agg i.enc)] : List AV)) j → i = j := by
  intro t t' h
  simpa [strs_eq, T.enc_eq, encL_eq, F.enc_eq, encF_eq, Tk.enc_eq, encTk_eq, Gn.enc_eq, ints_eq, encS_eq, encSX_eq, Stp.enc_eq, Int.natCast_inj, and_assoc] using h
theorem spMany1_md (k:Nat) : (spMany1 k).md = [false] := rfl
theorem spMany1_pre (k:Nat) (t : T) : (spMany1 k).pre [.d (.agg t.enc)] = ((sizeT t ≤ 1048577 ∧ t.fit 140737488355328) ∧ SizeOf.sizeOf t < k) := Spec.of_pre' spMany1_inj t
theorem spMany1_alts (k:Nat) : (spMany1 k).alts = none := rfl
theorem spMany1_res (k:Nat) (t : T) : (spMany1 k).res [.d (.agg t.enc)] = [.d (.one (.int .i64 (sizeT t)))] := Spec.of_res spMany1_inj t
theorem spMany1_out (k:Nat) (t : T) : (spMany1 k).out [.d (.agg t.enc)] = [.gone] := Spec.of_out spMany1_inj t
theorem many_soundI (k : Nat) (hS : Sound Go.Proofs.Tryd.prog 19 (spMany1 k)) : Sound Go.Proofs.Tryd.prog 19 (spMany1 (k + 1)) := by
  refine sound_fam (GOK.cons call_many hS GOK.nil) Go.Proofs.Tryd.func19 (c := Go.Proofs.Tryd.f19.body.getD .skip) rfl (n := 19) rfl chk_many rs_many (fun _ => by simp) ?_ ?_
  · exact spMany1_inj
  · rintro t ⟨⟨h1, h2⟩, h4⟩
    obtain ⟨kk, n, s, ks, l⟩ := t
    have e3 : SizeOf.sizeOf l < k := by have e : SizeOf.sizeOf (T.mk kk n s ks l) < k + 1 := h4
                                        rw [T.mk.sizeOf_spec] at e; omega
    clear h4
    simp only [T.fit, lenB, strsFit] at h2
    obtain ⟨_, _, f1, ⟨f2, _⟩, f3, f4⟩ := h2
    replace h1 : 1 + sizeL l ≤ 1048577 := h1
    have hs : sizeT (T.mk kk n s ks l) = 1 + sizeL l := rfl
    simp only [x_many, T.enc, rg, go_sem, seval, Prod.fst, encL_len]
    repeat' (first | with_reducible assumption | with_reducible refine And.intro ?_ ?_ | intro _)
    all_goals first | omega | skip
    refine pw_loop (ι := Nat) (fun i => l.length - i) (fun i => i ≤ l.length)
      (fun i => ⟨[(3, .q (.c (.int .i64 (1 + sizeL (l.take i))))), (7, .q (.c (.row 5 (encL l)))), (8, .q (.c (.int .i64 l.length))), (9, .q (.c (.int .i64 i)))], [], []⟩) 0 (Nat.zero_le _) ?_ ?_
    · exact Le.sub (by simp [sizeL]) (by simp) (by simp)
    intro i hi
    rcases Nat.lt_or_ge i l.length with hlt | hge
    · obtain ⟨t, ht, _, hmem⟩ := drop_at hlt
      have a1 := encL_at ht
      have a2 : ((i : Int) < (l.length : Int)) = True := by simp; omega
      have a3 := fitL_mem f4 t hmem
      have a4 := size_mem hmem
      have a6 := T.enc_len t
      have a7 : sizeL (l.take (i + 1)) ≤ sizeL l := sizeL_takeP
      have a8 : sizeL (l.take (i + 1)) = sizeL (l.take i) + sizeT t := by rw [List.take_add_one, ht, sizeL_app]; simp [sizeL]
      have a9 := sizeT_pos t
      have a10 : 0 ≤ sizeL (l.take i) := by have := allLs_len 0 [] (l.take i) 0 []; omega
      simp only [rg, go_sem, seval, Prod.fst, a1, a2, a6, encL_len, spMany1_md, spMany1_pre, spMany1_alts, spMany1_res, spMany1_out]
      repeat' (first | with_reducible assumption | with_reducible refine And.intro ?_ ?_ | intro _)
      all_goals first | omega | with_reducible assumption | skip
      refine ⟨i + 1, hlt, by omega, ?_⟩
      exact Le.sub (by simp [a8]; omega) (by simp) (by simp)
    · have a2 : ((i : Int) < (l.length : Int)) = False := by simp; omega
      have a3 : l.take i = l := List.take_of_length_le hge
      simp only [rg, go_sem, seval, Prod.fst, a2, a3, encL_len, hs]
theorem many_allI (k : Nat) : Sound Go.Proofs.Tryd.prog 19 (spMany1 k) := by
  induction k with
  | zero => exact Sound.none
  | succ k ih => exact many_soundI k ih
noncomputable def spManyT  : Spec := Spec.of (ι := T) [false] (fun i => [.d (.agg i.enc)]) (fun i => sizeT i ≤ 1048577 ∧ i.fit 140737488355328) (fun i => [.d (.one (.int .i64 (sizeT i)))]) (fun _ => [.gone])
theorem spManyT_inj : ∀ i j : T, (fun (i : T) => ([.d (.agg i.enc)] : List AV)) i = (fun (i : T) => ([.d (.agg i.enc)] : List AV)) j → i = j := by
  intro t t' h
  simpa [strs_eq, T.enc_eq, encL_eq, F.enc_eq, encF_eq, Tk.enc_eq, encTk_eq, Gn.enc_eq, ints_eq, encS_eq, encSX_eq, Stp.enc_eq, Int.natCast_inj, and_assoc] using h
theorem spManyT_md  : (spManyT).md = [false] := rfl
theorem spManyT_pre  (t : T) : (spManyT).pre [.d (.agg t.enc)] = (sizeT t ≤ 1048577 ∧ t.fit 140737488355328) := Spec.of_pre' spManyT_inj t
theorem spManyT_alts  : (spManyT).alts = none := rfl
theorem spManyT_res  (t : T) : (spManyT).res [.d (.agg t.enc)] = [.d (.one (.int .i64 (sizeT t)))] := Spec.of_res spManyT_inj t
theorem spManyT_out  (t : T) : (spManyT).out [.d (.agg t.enc)] = [.gone] := Spec.of_out spManyT_inj t
theorem manyT_sound : Sound Go.Proofs.Tryd.prog 19 spManyT := Sound.all (μ := fun i => SizeOf.sizeOf i) many_allI
noncomputable def spValMany  : Spec := Spec.of (ι := T) [false] (fun i => [.d (.agg i.enc)]) (fun i => sizeT i ≤ 1048577 ∧ i.fit 140737488355328) (fun i => [.d (.one (.int .i64 (if okT i then sizeT i else 0)))]) (fun _ => [.gone])
theorem spValMany_inj : ∀ i j : T, (fun (i : T) => ([.d (.agg i.enc)] : List AV)) i = (fun (i : T) => ([.d (.agg i.enc)] : List AV)) j → i = j := by
  intro t t' h
  simpa [strs_eq, T.enc_eq, encL_eq, F.enc_eq, encF_eq, Tk.enc_eq, encTk_eq, Gn.enc_eq, ints_eq, encS_eq, encSX_eq, Stp.enc_eq, Int.natCast_inj, and_assoc] using h
theorem spValMany_md  : (spValMany).md = [false] := rfl
theorem spValMany_pre  (t : T) : (spValMany).pre [.d (.agg t.enc)] = (sizeT t ≤ 1048577 ∧ t.fit 140737488355328) := Spec.of_pre' spValMany_inj t
theorem spValMany_alts  : (spValMany).alts = none := rfl
theorem spValMany_res  (t : T) : (spValMany).res [.d (.agg t.enc)] = [.d (.one (.int .i64 (if okT t then sizeT t else 0)))] := Spec.of_res spValMany_inj t
theorem spValMany_out  (t : T) : (spValMany).out [.d (.agg t.enc)] = [.gone] := Spec.of_out spValMany_inj t
theorem ValManyI_sound : Sound Go.Proofs.Tryd.prog 7 spValMany := by
  refine sound_fam (GOK.cons (l := [(19, spManyT)]) call_ValOkI valOkI_sound (GOK.cons call_many manyT_sound GOK.nil)) Go.Proofs.Tryd.func7 (c := Go.Proofs.Tryd.f7.body.getD .skip) rfl (n := 8) rfl chk_ValManyI rs_ValManyI (fun _ => by simp) ?_ ?_
  · exact spValMany_inj
  · rintro t ⟨h1, h2⟩
    by_cases c : okT t
    · have e : ((okI t 1 60).1 = true) = True := eq_true ((okI_iff t).2 c)
      simp only [x_ValManyI, rg, go_sem, seval, Prod.fst, T.enc_len, e, c, if_true, spValOkI_md, spValOkI_pre, spValOkI_alts, spValOkI_res, spValOkI_out, spManyT_md, spManyT_pre, spManyT_alts, spManyT_res, spManyT_out]
      repeat' (first | with_reducible assumption | with_reducible refine And.intro ?_ ?_ | intro _)
      all_goals first | omega | with_reducible assumption | skip
    · have e : ((okI t 1 60).1 = true) = False := eq_false (fun h => c ((okI_iff t).1 h))
      simp only [x_ValManyI, rg, go_sem, seval, Prod.fst, T.enc_len, e, c, if_false, spValOkI_md, spValOkI_pre, spValOkI_alts, spValOkI_res, spValOkI_out]
      repeat' (first | with_reducible assumption | with_reducible refine And.intro ?_ ?_ | intro _)
      all_goals first | omega | with_reducible assumption | skip
end Go.Proofs.Pw
/- Contracts of the library at this dump. -/
namespace Go.Proofs
open Go.Shelf
open Go.RowKit
def Tryd.laysM171_ren : Go.Shelf.Ren := ⟨fun | 171 => 21 | 243 => 40 | 246 => 52 | 283 => 58 | 284 => 59 | 285 => 60 | 286 => 61 | 129 => 67 | 317 => 66 | 318 => 68 | 319 => 69 | 320 => 70 | 337 => 77 | 338 => 78 | n => n, fun | 3 => 3 | 9 => 9 | 2 => 2 | 4 => 4 | 171 => 81 | 0 => 0 | 53 => 82 | 37 => 22 | 5 => 5 | 173 => 85 | 212 => 93 | 51 => 94 | 20 => 20 | 213 => 95 | 46 => 97 | 232 => 104 | 233 => 105 | n => n, fun | 17 => 0 | 18 => 1 | 19 => 2 | n => n⟩
theorem Tryd.laysM171 : Go.Proofs.LaysM.n171 Tryd.prog Tryd.laysM171_ren := {
  mixed := by kernel_rfl
  f129 := Tryd.func67.trans (congrArg some (by kernel_rfl))
  f171 := Tryd.func21.trans (congrArg some (by kernel_rfl))
  f243 := Tryd.func40.trans (congrArg some (by kernel_rfl))
  f246 := Tryd.func52.trans (congrArg some (by kernel_rfl))
  f283 := Tryd.func58.trans (congrArg some (by kernel_rfl))
  f284 := Tryd.func59.trans (congrArg some (by kernel_rfl))
  f285 := Tryd.func60.trans (congrArg some (by kernel_rfl))
  f286 := Tryd.func61.trans (congrArg some (by kernel_rfl))
  f317 := Tryd.func66.trans (congrArg some (by kernel_rfl))
  f318 := Tryd.func68.trans (congrArg some (by kernel_rfl))
  f319 := Tryd.func69.trans (congrArg some (by kernel_rfl))
  f320 := Tryd.func70.trans (congrArg some (by kernel_rfl))
  f337 := Tryd.func77.trans (congrArg some (by kernel_rfl))
  f338 := Tryd.func78.trans (congrArg some (by kernel_rfl))
  t0 := Tryd.underlying0
  a0 := Tryd.isAgg0
  z0 := Tryd.sizeOf0
  v0 := Tryd.zeroValue0
  t2 := Tryd.underlying2
  a2 := Tryd.isAgg2
  z2 := Tryd.sizeOf2
  v2 := Tryd.zeroValue2
  t3 := Tryd.underlying3
  a3 := Tryd.isAgg3
  z3 := Tryd.sizeOf3
  v3 := Tryd.zeroValue3
  t4 := Tryd.underlying4
  a4 := Tryd.isAgg4
  z4 := Tryd.sizeOf4
  v4 := Tryd.zeroValue4
  t5 := Tryd.underlying5
  a5 := Tryd.isAgg5
  z5 := Tryd.sizeOf5
  v5 := Tryd.zeroValue5
  t9 := Tryd.underlying9
  a9 := Tryd.isAgg9
  z9 := Tryd.sizeOf9
  v9 := Tryd.zeroValue9
  t20 := Tryd.underlying20
  a20 := Tryd.isAgg20
  z20 := Tryd.sizeOf20
  v20 := Tryd.zeroValue20
  t37 := Tryd.underlying22
  a37 := Tryd.isAgg22
  z37 := Tryd.sizeOf22
  v37 := Tryd.zeroValue22
  t46 := Tryd.underlying97
  a46 := Tryd.isAgg97
  z46 := Tryd.sizeOf97
  v46 := Tryd.zeroValue97
  t51 := Tryd.underlying94
  a51 := Tryd.isAgg94
  z51 := Tryd.sizeOf94
  v51 := Tryd.zeroValue94
  t53 := Tryd.underlying82
  a53 := Tryd.isAgg82
  z53 := Tryd.sizeOf82
  v53 := Tryd.zeroValue82
  t171 := Tryd.underlying81
  a171 := Tryd.isAgg81
  z171 := Tryd.sizeOf81
  v171 := Tryd.zeroValue81
  t173 := Tryd.underlying85
  a173 := Tryd.isAgg85
  z173 := Tryd.sizeOf85
  v173 := Tryd.zeroValue85
  t212 := Tryd.underlying93
  a212 := Tryd.isAgg93
  z212 := Tryd.sizeOf93
  v212 := Tryd.zeroValue93
  t213 := Tryd.underlying95
  a213 := Tryd.isAgg95
  z213 := Tryd.sizeOf95
  t232 := Tryd.underlying104
  a232 := Tryd.isAgg104
  z232 := Tryd.sizeOf104
  v232 := Tryd.zeroValue104
  t233 := Tryd.underlying105
  a233 := Tryd.isAgg105
  z233 := Tryd.sizeOf105
  v233 := Tryd.zeroValue105
  g17 := by kernel_rfl
  g18 := by kernel_rfl
  g19 := by kernel_rfl
  i0 := by kernel_rfl
  i2 := by kernel_rfl
  i3 := by kernel_rfl
  i4 := by kernel_rfl
  i5 := by kernel_rfl
  i9 := by kernel_rfl
  i20 := by kernel_rfl
  i37 := by kernel_rfl
  i46 := by kernel_rfl
  i51 := by kernel_rfl
  i53 := by kernel_rfl
  i171 := by kernel_rfl
  i173 := by kernel_rfl
  i212 := by kernel_rfl
  i232 := by kernel_rfl
  i233 := by kernel_rfl
  m17 := by kernel_rfl
  m18 := by kernel_rfl
  m19 := by kernel_rfl }
open Go.RowKit Go.Sort Go.Lib in
theorem Tryd.strconv_Itoa (n : Int) (h0 : -9223372036854775808 ≤ n) (h1 : n ≤ 9223372036854775807) (w : World) (htab : Lib.TabIs Tryd.prog w "internal/strconv.uint64pow10" .u64 Lib.pow10Tab) :
    Calls Tryd.prog 21 #[.int .i64 n] w fun e w' => e = .returned (.string ⟨(Lib.itoa n).toArray⟩) ∧ ∃ k os, w' = grow (w.drewN k) os := Any.strconv_Itoa Tryd.laysM171 n h0 h1 w htab
end Go.Proofs
