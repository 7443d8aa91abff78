/- A call that is handed what it may write, run. -/
import Derived.Test.YtalbhhciphpbeaaPwH
set_option linter.unusedSimpArgs false
set_option linter.unusedVariables false
namespace Go.Proofs.Pw
open Go.RowKit
set_option linter.unusedSectionVars false
variable [Globs]
section
variable {P : Program} {Γ : FuncId → Option Spec} {σ σ0 : St} {a : Act} {w w' : World} {M M' : Gh} {X : Nat → Prop} {B n : Nat} {w0 : W0}

theorem argsE_gd : ∀ {xs : List XO} {ms : List Bool} {vc : Prop} {ds : List AV}, argsE σ xs ms = some (vc, ds) → vc → ∀ x m, (x, m) ∈ xs.zip ms → m = true → (σ.v x).1 = true := by
  intro xs
  induction xs with
  | nil => intro ms vc ds h hvc x m hx; simp at hx
  | cons y xs ih =>
    intro ms vc ds h hvc x m hx hm
    cases ms with
    | nil => simp at hx
    | cons m' ms =>
      simp only [argsE] at h
      split at h
      · rename_i vc' ds' e2
        have key : (σ.v y).1 = true → vc' → (σ.v x).1 = true := fun h1 h2 => by
          simp only [List.zip_cons_cons, List.mem_cons, Prod.mk.injEq] at hx
          rcases hx with ⟨rfl, rfl⟩ | hx
          · exact h1
          · exact ih e2 h2 x m hx hm
        split at h
        · split at h
          · simp only [Option.some.injEq, Prod.mk.injEq] at h
            obtain ⟨rfl, rfl⟩ := h
            exact key hvc.1 hvc.2
          · cases h
        · split at h
          · split at h
            · simp only [Option.some.injEq, Prod.mk.injEq] at h
              obtain ⟨rfl, rfl⟩ := h
              exact key hvc.1 hvc.2
            · cases h
          · cases h
        · split at h
          · simp only [Option.some.injEq, Prod.mk.injEq] at h
            obtain ⟨rfl, rfl⟩ := h
            exact key hvc.1 hvc.2
          · cases h
        · cases h
      · cases h

/-- A variable that is handed back takes its place. -/
theorem Mem.getBox (h : Mem X B σ.bx σ.rw w M) {d b : Nat} {qs : List Q} {t : TypeId} {cells : Array Value} (hc : w.heap[b]? = some (.cells cells t (0, 0))) (hr : RelCs w M qs cells) (hmine : Mine X B b) (hS : ¬ M.S b)
    (hb : ∀ i q, (i, q) ∈ σ.bx → M.β i ≠ b) (hrw : ∀ i r, (i, r) ∈ σ.rw → ¬ pblk (M.ρ i) b) : Mem X B (upd d (qs.map (Q.killB d)) (σ.map (Q.killB d)).bx) σ.rw w (M.nb d b) := by
  have hq := nb_q (d := d) (b := b) (Up.refl h.lt) h.lt
  have hin : ∀ {i' q1}, (i', q1) ∈ upd d (qs.map (Q.killB d)) (σ.map (Q.killB d)).bx → (i' = d ∧ q1 = qs.map (Q.killB d)) ∨ (i' ≠ d ∧ ∃ q, (i', q) ∈ σ.bx ∧ q1 = q.map (Q.killB d)) := fun {i' q1} h' => by
    rcases upd_mem h' with h' | ⟨hne, h'⟩
    · exact .inl h'
    · simp only [St.map, List.mem_map, Prod.mk.injEq] at h'
      obtain ⟨⟨j, q⟩, hj, rfl, rfl⟩ := h'
      exact .inr ⟨hne, q, hj, rfl⟩
  refine ⟨fun i' q1 h' => ?_, fun i' sz es h' => h.row i' sz es h', fun i' q1 j q2 h1 h2 hne => ?_, fun i' q1 j r h1 h2 hg => ?_, h.rr, h.lt, fun i' q1 h1 hs => ?_, h.sr, h.gl⟩
  · rcases hin h' with ⟨rfl, rfl⟩ | ⟨hne, q, hj, rfl⟩
    · simp only [Gh.nb, if_true]
      exact ⟨hmine, t, cells, hc, map_cs hq hr⟩
    · simp only [Gh.nb, if_neg hne]
      obtain ⟨hB', t', cells', h1, h2, h3⟩ := h.box i' q hj
      exact ⟨hB', t', cells', h1, map_cs hq ⟨h2, h3⟩⟩
  · rcases hin h1 with ⟨rfl, _⟩ | ⟨n1, q, hj, _⟩ <;> rcases hin h2 with ⟨rfl, _⟩ | ⟨n2, q', hj', _⟩
    · exact absurd rfl hne
    · simp only [Gh.nb, if_true, if_neg n2]; exact fun e => hb _ _ hj' e.symm
    · simp only [Gh.nb, if_true, if_neg n1]; exact hb _ _ hj
    · simp only [Gh.nb, if_neg n1, if_neg n2]; exact h.bb _ _ _ _ hj hj' hne
  · rcases hin h1 with ⟨rfl, _⟩ | ⟨n1, q, hj, _⟩
    · simp only [Gh.nb, if_true] at hg
      exact hrw _ _ h2 hg
    · simp only [Gh.nb, if_neg n1] at hg
      exact h.br _ _ _ _ hj h2 hg
  · rcases hin h1 with ⟨rfl, _⟩ | ⟨n1, q, hj, _⟩
    · simp only [Gh.nb, if_true] at hs
      exact hS hs
    · simp only [Gh.nb, if_neg n1] at hs
      exact h.sb _ _ hj hs
/-! ### Several private rows are handed back -/
def RowV (w : World) (S : Nat → Prop) (r : Nat × Nat × List (List C)) (v : RV) (f : Nat → Prop) : Prop := 0 < r.2.1 ∧ Priv w S r.2.1 r.2.2 v ∧ ∀ g, f g ↔ pblk v g
theorem priv_one' {S : Nat → Prop} {sz : Nat} {es : List (List C)} {r : RV} (h : Priv w S sz es r) : r.v.oneCell' = true := by
  rcases h.1 with ⟨_, _, h, _⟩ | ⟨_, A, h⟩
  · rcases h.2 with ⟨h, _⟩ | ⟨_, _, _, h, _⟩ <;> rw [h] <;> rfl
  · rw [h]; rfl
theorem agR_rel {S : Nat → Prop} {d j : Nat} : ∀ {ps : List Pt} {us : List Value} {fs : List (Nat → Prop)} {k : Nat}, All3 (RepP w S) ps us fs → Apart0 fs → (∀ g, Any fs g → ¬ S g) →
    ∃ vals fs1, All3 (RowV w S) (agR d j k ps) vals fs1 ∧ Apart S fs1 ∧ (∀ g, Any fs1 g → Any fs g) ∧ ∀ M : Gh, M.S = S → (∀ p ∈ (agR d j k ps).zip vals, M.ρ p.1.1 = p.2) →
      us.length = (agQ d j k ps).length ∧ ∀ (i : Nat) q, (agQ d j k ps)[i]? = some q → ∃ u, us[i]? = some u ∧ u.oneCell' = true ∧ RelQ w M q u := by
  intro ps
  induction ps with
  | nil => intro us fs k h _ _; cases h; exact ⟨[], [], .nil, trivial, fun _ h => h, fun M _ _ => ⟨rfl, fun i q hq => by simp [agQ] at hq⟩⟩
  | cons p ps ih =>
    intro us fs k h ha hS
    cases h with
    | @cons _ u f _ us fs h1 h2 =>
    obtain ⟨vals, fs1, i1, i2, i3, i4⟩ := ih (k := k + 1) h2 ha.2 (fun g ⟨q, hq, hg⟩ => hS g ⟨q, by simp [hq], hg⟩)
    have i3' : ∀ g, Any fs1 g → Any (f :: fs) g := fun g hg => by obtain ⟨q, hq, hg⟩ := i3 g hg; exact ⟨q, by simp [hq], hg⟩
    cases p with
    | c x =>
      refine ⟨vals, fs1, i1, i2, i3', fun M hM hz => ?_⟩
      obtain ⟨l1, l2⟩ := i4 M hM hz
      refine ⟨by simp [agQ, l1], fun i q hq => ?_⟩
      cases i with
      | zero => simp only [agQ, List.getElem?_cons_zero, Option.some.injEq] at hq; subst hq; exact ⟨u, rfl, h1.1.one, by show Rep w M.S x u; rw [hM]; exact h1.1⟩
      | succ i => simpa using l2 i q (by simpa [agQ] using hq)
    | o sz es =>
      obtain ⟨h0, r, hrv, hpr, hfr⟩ := h1
      refine ⟨r :: vals, f :: fs1, .cons ⟨h0, hpr, hfr⟩ i1, ⟨fun g hg => hS g ⟨f, by simp, hg⟩, fun g hg q hq hqg => ?_, i2⟩, fun g ⟨q, hq, hg⟩ => ?_, fun M hM hz => ?_⟩
      · obtain ⟨q', hq', hg'⟩ := i3 g ⟨q, hq, hqg⟩
        exact ha.1 g hg q' hq' hg'
      · rcases List.mem_cons.1 hq with rfl | hq
        · exact ⟨_, by simp, hg⟩
        · exact i3' g ⟨q, hq, hg⟩
      · obtain ⟨l1, l2⟩ := i4 M hM (fun p hp => hz p (by simp only [agR, List.zip_cons_cons, List.mem_cons]; exact .inr hp))
        refine ⟨by simp [agQ, l1], fun i q hq => ?_⟩
        cases i with
        | zero =>
          simp only [agQ, List.getElem?_cons_zero, Option.some.injEq] at hq; subst hq
          have := hz ((pid d j k, sz, es), r) (by simp [agR])
          exact ⟨u, rfl, by rw [hrv]; exact priv_one' hpr, by rw [this, hrv], by rw [hrv]; exact priv_one' hpr⟩
        | succ i => simpa using l2 i q (by simpa [agQ] using hq)
theorem All3.app {α β γ : Type} {R : α → β → γ → Prop} {xs xs' : List α} {ys ys' : List β} {zs zs' : List γ} (h : All3 R xs ys zs) (k : All3 R xs' ys' zs') : All3 R (xs ++ xs') (ys ++ ys') (zs ++ zs') := by
  induction h with
  | nil => exact k
  | cons h _ ih => exact .cons h ih
theorem Apart.app {S : Nat → Prop} {ps qs : List (Nat → Prop)} (h : Apart S ps) (k : Apart S qs) (hn : ∀ g, Any ps g → ¬ Any qs g) : Apart S (ps ++ qs) := by
  induction ps with
  | nil => exact k
  | cons p ps ih =>
    refine ⟨h.1, fun g hg q hq hqg => ?_, ih h.2.2 (fun g ⟨q, hq, hg⟩ => hn g ⟨q, by simp [hq], hg⟩)⟩
    rcases List.mem_append.1 hq with hq | hq
    · exact h.2.1 g hg q hq hqg
    · exact hn g ⟨p, by simp, hg⟩ ⟨q, hq, hqg⟩
theorem Any.of_app {ps qs : List (Nat → Prop)} {g : Nat} (h : Any (ps ++ qs) g) : Any ps g ∨ Any qs g := by
  obtain ⟨p, hp, hg⟩ := h
  rcases List.mem_append.1 hp with hp | hp
  · exact .inl ⟨p, hp, hg⟩
  · exact .inr ⟨p, hp, hg⟩
theorem svL_rel {S : Nat → Prop} {d : Nat} : ∀ {as : List AV} {vs : List Value} {fps : List (Nat → Prop)} {j : Nat} {svs : List SV} {rows : List (Nat × Nat × List (List C))}, All3 (RepA w S) as vs fps → Apart S fps → svL d j as = some (svs, rows) →
    ∃ vals fs, All3 (RowV w S) rows vals fs ∧ Apart S fs ∧ (∀ g, Any fs g → Any fps g) ∧ ∀ M : Gh, M.S = S → (∀ p ∈ rows.zip vals, M.ρ p.1.1 = p.2) → All2 (RelS w M) svs vs := by
  intro as
  induction as with
  | nil =>
    intro vs fps j svs rows h _ hs
    cases h
    simp only [svL, Option.some.injEq, Prod.mk.injEq] at hs
    obtain ⟨rfl, rfl⟩ := hs
    exact ⟨[], [], .nil, trivial, fun _ h => h, fun _ _ _ => .nil⟩
  | cons x as ih =>
    intro vs fps j svs rows h ha hs
    cases h with
    | @cons _ v fp _ vs fps h1 h2 =>
    have lift : ∀ {fs : List (Nat → Prop)}, (∀ g, Any fs g → Any fps g) → ∀ g, Any fs g → Any (fp :: fps) g := fun h g hg => by obtain ⟨q, hq, hg⟩ := h g hg; exact ⟨q, by simp [hq], hg⟩
    cases x with
    | d x =>
      simp only [svL, Option.map_eq_some_iff, Prod.mk.injEq] at hs
      obtain ⟨⟨s1, r1⟩, hr, rfl, rfl⟩ := hs
      obtain ⟨vals, fs, i1, i2, i3, i4⟩ := ih h2 ha.2.2 hr
      exact ⟨vals, fs, i1, i2, lift i3, fun M hM hz => .cons (toS_rel (by rw [hM]; exact h1.1)) (i4 M hM hz)⟩
    | ref cs => simp [svL] at hs
    | gone => simp [svL] at hs
    | own sz es =>
      simp only [svL, Option.map_eq_some_iff, Prod.mk.injEq] at hs
      obtain ⟨⟨s1, r1⟩, hr, rfl, rfl⟩ := hs
      obtain ⟨vals, fs, i1, i2, i3, i4⟩ := ih h2 ha.2.2 hr
      obtain ⟨h0, r, hrv, hpr, hfr⟩ := h1
      refine ⟨r :: vals, fp :: fs, .cons ⟨h0, hpr, hfr⟩ i1, ⟨ha.1, fun g hg q hq hqg => ?_, i2⟩, fun g ⟨q, hq, hg⟩ => ?_, fun M hM hz => .cons ?_ (i4 M hM (fun p hp => hz p (by simp [hp])))⟩
      · obtain ⟨q', hq', hg'⟩ := i3 g ⟨q, hq, hqg⟩
        exact ha.2.1 g hg q' hq' hg'
      · rcases List.mem_cons.1 hq with rfl | hq
        · exact ⟨_, by simp, hg⟩
        · exact lift i3 g ⟨q, hq, hg⟩
      · have := hz ((pid d j 0, sz, es), r) (by simp)
        exact ⟨by rw [this, hrv], by rw [hrv]; exact priv_one' hpr⟩
    | ag ps =>
      simp only [svL, Option.map_eq_some_iff, Prod.mk.injEq] at hs
      obtain ⟨⟨s1, r1⟩, hr, rfl, rfl⟩ := hs
      obtain ⟨vals, fs, i1, i2, i3, i4⟩ := ih h2 ha.2.2 hr
      obtain ⟨us, fs0, rfl, k1, k2, k3⟩ := h1
      obtain ⟨vals1, fs1, j1, j2, j3, j4⟩ := agR_rel (d := d) (j := j) (k := 0) k1 k2 (fun g hg => ha.1 g ((k3 g).2 hg))
      refine ⟨vals1 ++ vals, fs1 ++ fs, j1.app i1, j2.app i2 (fun g hg hg' => ?_), fun g hg => ?_, fun M hM hz => ?_⟩
      · obtain ⟨q, hq, hqg⟩ := i3 g hg'
        exact ha.2.1 g ((k3 g).2 (j3 g hg)) q hq hqg
      · rcases Any.of_app hg with hg | hg
        · exact ⟨fp, by simp, (k3 g).2 (j3 g hg)⟩
        · exact lift i3 g hg
      · rw [List.zip_append j1.lens] at hz
        obtain ⟨l1, l2⟩ := j4 M hM (fun p hp => hz p (by simp [hp]))
        exact .cons ⟨us.toArray, rfl, by simpa using l1, fun i q hq => by simpa using l2 i q hq⟩ (i4 M hM (fun p hp => hz p (by simp [hp])))
theorem addR_mem : ∀ {rows : List (Nat × Nat × List (List C))} {vals : List RV} {fs : List (Nat → Prop)} {σ : St} {M : Gh}, All3 (RowV w M.S) rows vals fs → Apart M.S fs → nodupN (rows.map fun r => r.1) = true →
    (∀ t p, (t, p) ∈ σ.tm → RelV w M p (a.tmps.getD t undef)) → Mem X B σ.bx σ.rw w M → (∀ g, Any fs g → Mine X B g) → (∀ i q g, (i, q) ∈ σ.bx → Any fs g → g ≠ M.β i) → (∀ i r g, (i, r) ∈ σ.rw → pblk (M.ρ i) g → ¬ Any fs g) →
    ∃ M' : Gh, M'.S = M.S ∧ M'.β = M.β ∧ (∀ t p, (t, p) ∈ (addR rows σ).tm → RelV w M' p (a.tmps.getD t undef)) ∧ Mem X B (addR rows σ).bx (addR rows σ).rw w M' ∧ (∀ p ∈ rows.zip vals, M'.ρ p.1.1 = p.2) ∧ (∀ i, i ∉ rows.map (fun r => r.1) → M'.ρ i = M.ρ i) := by
  intro rows
  induction rows with
  | nil => intro vals fs σ M h _ _ ht hm _ _ _; cases h; exact ⟨M, rfl, rfl, ht, hm, by simp, fun _ _ => rfl⟩
  | cons r rows ih =>
    intro vals fs σ M h ha hnd ht hm hmine hb hr
    obtain ⟨id, sz, es⟩ := r
    cases h with
    | @cons _ v f _ vals fs h1 h2 =>
    simp only [List.map_cons, nodupN, Bool.and_eq_true, Bool.not_eq_true', List.contains_eq_mem, decide_eq_false_iff_not] at hnd
    have hf : ∀ g, pblk v g → f g := fun g hg => (h1.2.2 g).2 hg
    have hany : ∀ g, pblk v g → Any (f :: fs) g := fun g hg => ⟨f, by simp, hf g hg⟩
    have up : ∀ g, Any fs g → Any (f :: fs) g := fun g ⟨q, hq, hg⟩ => ⟨q, by simp [hq], hg⟩
    have mem1 := Mem.getRow (d := id) hm h1.1 h1.2.1 (fun g hg => hmine g (hany g hg)) (fun g hg => ha.notS (hany g hg)) (fun i q hi hg => hb i q _ hi (hany _ hg) rfl) (fun i r g hi hg hg' => hr i r g hi hg (hany g hg'))
    obtain ⟨M', m1, m2, m3, m4, m5, m6⟩ := ih (σ := { σ.map (Q.killO id) with rw := upd id (sz, es) σ.rw }) (M := M.nr id v) h2 ha.2.2 hnd.2 (fun t p h => by
        simp only [St.map, List.mem_map, Prod.mk.injEq] at h
        obtain ⟨⟨t', p'⟩, h', rfl, rfl⟩ := h
        exact map_v (nr_q (d := id) (v' := v) (Up.refl hm.lt) hm.lt) (ht _ _ h')) mem1 (fun g hg => hmine g (up g hg))
      (fun i q g hi hg => by
        simp only [St.map, List.mem_map, Prod.mk.injEq] at hi
        obtain ⟨⟨i', q'⟩, hi, rfl, rfl⟩ := hi
        exact hb _ q' g hi (up g hg))
      (fun i r g hi hg hg' => by
        rcases upd_mem hi with ⟨rfl, _⟩ | ⟨hne, hi⟩
        · simp only [Gh.nr, if_true] at hg
          obtain ⟨q, hq, hqg⟩ := hg'
          exact ha.2.1 g (hf g hg) q hq hqg
        · simp only [Gh.nr, if_neg hne] at hg
          exact hr i r g hi hg (up g hg'))
    refine ⟨M', m1, m2, m3, m4, fun p hp => ?_, fun i hi => ?_⟩
    · simp only [List.zip_cons_cons, List.mem_cons] at hp
      rcases hp with rfl | hp
      · rw [m6 id hnd.1]; simp [Gh.nr]
      · exact m5 p hp
    · simp only [List.map_cons, List.mem_cons, not_or] at hi
      rw [m6 i hi.2]; simp [Gh.nr, hi.1]
theorem Apart.to0 {S : Nat → Prop} {ps qs : List (Nat → Prop)} (h : Apart S (ps ++ qs)) : Apart0 qs := by
  induction ps with
  | nil =>
    have h : Apart S qs := h
    induction qs with
    | nil => trivial
    | cons q qs ih => exact ⟨h.2.1, ih h.2.2 h.2.2⟩
  | cons p ps ih => exact ih h.2.2
theorem Apart.left {S : Nat → Prop} {ps qs : List (Nat → Prop)} (h : Apart S (ps ++ qs)) : Apart S ps := by
  induction ps with
  | nil => trivial
  | cons p ps ih => exact ⟨h.1, fun g hg q hq => h.2.1 g hg q (by simp [hq]), ih h.2.2⟩
theorem svP_rel {svs : List SV} {vs : List Value} {v : Value} (h : All2 (RelS w M) svs vs) (hv : vs = [v] ∨ (vs.length ≠ 1 ∧ v = .tuple vs.toArray)) : RelV w M (svP svs) v := by
  rcases hv with rfl | ⟨h1, rfl⟩
  · cases h with
    | cons h1 h2 =>
      cases h2
      rename_i s
      cases s <;> exact h1
  · have hl := h.length
    have key : svP svs = .tup svs := by
      unfold svP
      split
      · simp at hl; omega
      · simp at hl; omega
      · rfl
    rw [key]
    exact ⟨vs, rfl, h⟩
theorem ltB_not {i : Nat} (hb : BASE ≤ i) : ∀ {rows : List (Nat × Nat × List (List C))}, ltB rows = true → i ∉ rows.map fun r => r.1 := by
  intro rows
  induction rows with
  | nil => intro _; simp
  | cons r rs ih =>
    intro h
    simp only [ltB, Bool.and_eq_true, decide_eq_true_eq] at h
    simp only [List.map_cons, List.mem_cons, not_or]
    exact ⟨by omega, ih h.2⟩
/-- What is handed back takes its place. -/
theorem ret_sim {σ2 σ3 : St} {M2 : Gh} (hs2 : Sim X n B w0 σ2 a w' M2) {dst : Option Nat} (hd : ∀ d, dst = some d → d < n) {r : List AV} {v : Value} {rfs : List (Nat → Prop)} (g1 : RepR w' M2.S r v rfs) (g6 : Apart M2.S rfs) (g7 : ∀ g, Any rfs g → Mine X B g)
    (hbn : ∀ i q, (i, q) ∈ σ2.bx → ¬ Any rfs (M2.β i)) (hrn : ∀ i r g, (i, r) ∈ σ2.rw → pblk (M2.ρ i) g → ¬ Any rfs g) (hret : retE dst r σ2 = some σ3) : ∃ M', Sim X n B w0 σ3 (a.put dst v) w' M' := by
  have mem2 := hs2.mem
  unfold retE at hret
  split at hret
  · rename_i sz es
    split at hret
    · rename_i d
      simp only [Option.some.injEq] at hret
      subst hret
      have : ∃ fp, rfs = [fp] ∧ RepA w' M2.S (.own sz es) v fp := by
        cases rfs with
        | nil => exact absurd rfl g1.1
        | cons fp r => cases r with
          | nil => exact ⟨fp, rfl, g1⟩
          | cons _ _ => exact absurd rfl g1.1
      obtain ⟨fp, rfl, k0, rv, hrv, k1, k2⟩ := this
      have hany : ∀ g, pblk rv g → Any [fp] g := fun g hg => ⟨fp, by simp, (k2 g).2 hg⟩
      have hone : v.oneCell' = true := by rw [hrv]; exact priv_one' k1
      refine ⟨M2.nr d rv,  ⟨by simpa [Act.put] using hs2.size, hs2.defs, fun t p h => ?_, Mem.getRow mem2 k0 k1 (fun g hg => ?_) (fun g hg => g6.notS (hany g hg)) (fun i q hi hg => ?_) (fun i r g hi hg hg' => ?_), hs2.fr, hs2.hB, hs2.sS, hs2.sβ, fun i hi hb => by
        have hdn := hd d rfl
        simp only [Gh.nr]; rw [if_neg (by omega)]; exact hs2.sρ i hi hb⟩⟩
      · have hdn : d < a.tmps.size := by rw [hs2.size]; exact hd d rfl
        rcases upd_mem h with ⟨rfl, rfl⟩ | ⟨hne, h⟩
        · simp only [Act.put, Array.getD_eq_getD_getElem?, Array.getElem?_setIfInBounds, hdn, if_true, Option.getD_some]
          exact ⟨by simp [Gh.nr, hrv], hone⟩
        · simp only [St.map, List.mem_map, Prod.mk.injEq] at h
          obtain ⟨⟨t', p'⟩, h', rfl, rfl⟩ := h
          have := map_v (nr_q (d := d) (v' := rv) (Up.refl mem2.lt) mem2.lt) (hs2.tm _ _ h')
          simp only [Act.put, Array.getD_eq_getD_getElem?, Array.getElem?_setIfInBounds]
          rw [if_neg (fun e => hne e.symm), ← Array.getD_eq_getD_getElem?]
          exact this
      · exact g7 g (hany g hg)
      · exact hbn i q hi (hany _ hg)
      · exact hrn i r g hi hg (hany _ hg')
    · cases hret
  · rename_i cs
    split at hret
    · rename_i d
      simp only [Option.some.injEq] at hret
      subst hret
      have : ∃ fp, rfs = [fp] ∧ RepA w' M2.S (.ref cs) v fp := by
        cases rfs with
        | nil => exact absurd rfl g1.1
        | cons fp r => cases r with
          | nil => exact ⟨fp, rfl, g1⟩
          | cons _ _ => exact absurd rfl g1.1
      obtain ⟨fp, rfl, b, rfl, hc, hfp⟩ := this
      obtain ⟨tt, cells, c1, c2⟩ := cells_rel (M := M2) hc
      have hb : Any [fp] b := ⟨fp, by simp, (hfp b).2 rfl⟩
      refine ⟨M2.nb d b,  ⟨by simpa [Act.put] using hs2.size, hs2.defs, fun t p h => ?_, Mem.getBox mem2 c1 c2 ?_ (g6.notS hb) (fun i q hi hg => ?_) (fun i r hi hg => ?_), hs2.fr, hs2.hB, hs2.sS, fun i hi => ?_, hs2.sρ⟩⟩
      · have hdn : d < a.tmps.size := by rw [hs2.size]; exact hd d rfl
        rcases upd_mem h with ⟨rfl, rfl⟩ | ⟨hne, h⟩
        · simp only [Act.put, Array.getD_eq_getD_getElem?, Array.getElem?_setIfInBounds, hdn, if_true, Option.getD_some]
          simp [RelV, RelQ, Gh.nb]
        · simp only [St.map, List.mem_map, Prod.mk.injEq] at h
          obtain ⟨⟨t', p'⟩, h', rfl, rfl⟩ := h
          have := map_v (nb_q (d := d) (b := b) (Up.refl mem2.lt) mem2.lt) (hs2.tm _ _ h')
          simp only [Act.put, Array.getD_eq_getD_getElem?, Array.getElem?_setIfInBounds]
          rw [if_neg (fun e => hne e.symm), ← Array.getD_eq_getD_getElem?]
          exact this
      · exact g7 b hb
      · have := hbn i q hi
        rw [hg] at this; exact this hb
      · exact hrn i r _ hi hg hb
      · have hdn := hd d rfl
        simp only [Gh.nb]; rw [if_neg (by omega)]; exact hs2.sβ i hi
    · cases hret
  · split at hret
    · rename_i p hp
      cases hret
      refine ⟨M2, ?_⟩
      exact hs2.put hd (Up.refl mem2.lt) (fun _ _ h => h.elim) mem2 (retP_rel (M := M2) hp g1)
    · split at hret
      · rename_i d
        split at hret
        · rename_i svs rows hsv
          split at hret
          · rename_i hndr0
            cases hret
            rw [Bool.and_eq_true] at hndr0
            obtain ⟨hndr, hltr⟩ := hndr0
            obtain ⟨vs, r1, r2⟩ := RepR.all3 g1
            obtain ⟨vals, fs, r3, r4, r5, r6⟩ := svL_rel r1 g6 hsv
            have hany : ∀ g, Any fs g → Any rfs g := r5
            obtain ⟨M', m1, m2, m3, m4, m5, m6⟩ := addR_mem (σ := σ2) (M := M2) r3 r4 hndr hs2.tm mem2 (fun g hg => g7 g (hany g hg))
              (fun i q g hi hg e => hbn i q hi (by rw [← e]; exact hany g hg))
              (fun i r g hi hg hg' => hrn i r g hi hg (hany _ hg'))
            have hv := svP_rel (r6 M' m1 m5) r2
            refine ⟨M', ⟨by simpa [Act.put] using hs2.size, hs2.defs, fun t p h => ?_, m4, hs2.fr, hs2.hB, fun g hg => ?_, fun i hi => ?_, fun i hi hb => ?_⟩⟩
            · have hdn : d < a.tmps.size := by rw [hs2.size]; exact hd d rfl
              rcases upd_mem h with ⟨rfl, rfl⟩ | ⟨hne, h⟩
              · simp only [Act.put, Array.getD_eq_getD_getElem?, Array.getElem?_setIfInBounds, hdn, if_true, Option.getD_some]
                exact hv
              · simp only [Act.put, Array.getD_eq_getD_getElem?, Array.getElem?_setIfInBounds]
                rw [if_neg (fun e => hne e.symm), ← Array.getD_eq_getD_getElem?]
                exact m3 _ _ h
            · rw [m1] at hg; exact hs2.sS g hg
            · rw [m2]; exact hs2.sβ i hi
            · rw [m6 i (ltB_not hb hltr)]; exact hs2.sρ i hi hb
          · cases hret
        · cases hret
      · cases hret
theorem callS_wp (G : GOK P Γ) (hs : Sim X n B w0 σ a w M) {dst : Option Nat} (hd : ∀ d, dst = some d → d < n) {f : FuncId} {us : List Value} {xs : List XO}
    (hargs : ∀ (σ1 : St) (w1 : World) (M1 : Gh), (∀ t p, (t, p) ∈ σ1.tm → RelV w1 M1 p (a.tmps.getD t undef)) → (∀ c v, Rep w M.S c v → Rep w1 M1.S c v) → All2 (ArgR σ1 w1 M1) xs us)
    {sp : Spec} (hsp : Γ f = some sp) {vc : Prop} {ds : List AV} (ha : argsE (σ.pubs xs sp.md) xs sp.md = some (vc, ds)) (hnd : nodupIds (mutIds (σ.pubs xs sp.md) xs sp.md) = true) (hvc : vc) (hpre : sp.pre ds) :
    okCallee P f = true ∧ ∀ (K : Value → World → Prop) (E : Ending → World → Prop),
      (∀ r o, sp.may ds r o → ∃ σ2 σ3, outE (σ.pubs xs sp.md) xs sp.md o (σ.pubs xs sp.md) = some σ2 ∧ retE dst r σ2 = some σ3 ∧ ∀ v w' M', Sim X n B w0 σ3 (a.put dst v) w' M' → K v w') →
      Calls P f us.toArray w fun e w' => match e with | .returned v => K v w' | e => E e w' := by
  obtain ⟨hc, hsound⟩ := G f sp hsp
  refine ⟨hc, fun K E hK => ?_⟩
  obtain ⟨M1, h1, hmo⟩ := hs.pubL' (pubIds σ xs sp.md)
  change Sim X n B w0 (σ.pubs xs sp.md) a w M1 at h1
  generalize hσ1 : σ.pubs xs sp.md = σ1 at *
  obtain ⟨A3, hth⟩ := argsE_rel h1.mem (hargs σ1 w M1 h1.tm (fun c v h => h.mono hmo (fun _ _ => rfl))) ha hvc
  have hap := fps_apart h1.mem hth hnd
  have hblk : ∀ g, Any (fpsOf M1 σ1 xs sp.md) g → ¬ M1.S g ∧ g < w.heap.size ∧ Mine X B g := fun g hg => by
    obtain ⟨id, hid, hg⟩ := any_fps.1 hg
    exact blk_notS h1.mem (hth id hid) hg
  refine (hsound.full ds hpre w M1.S _ _ h1.mem.gl h1.mem.lt (fun g hg => (hblk g hg).2.1) hap A3).mono ?_
  rintro e w' ⟨r, o, hro, v, S', rfs, fps', rfl, g1, g2, g3, g4, g5, g6, g7, g8⟩
  show K v w'
  have hK2 := hK r o hro
  clear hK
  obtain ⟨σ2, σ3, ho2, hret, hK⟩ := hK2
  have hu : Ub w M1 w' { M1 with S := S' } := ⟨rfl, rfl, g3, fun g hg => g8.block g (h1.mem.lt g hg) (fun hg' => (hblk g hg').1 hg)⟩
  have hbn : ∀ {i qs}, (i, qs) ∈ σ1.bx → (false, i) ∉ mutIds σ1 xs sp.md → M1.β i < w.heap.size ∧ ¬ Any (fpsOf M1 σ1 xs sp.md) (M1.β i) := fun {i qs} hi hin => by
    obtain ⟨_, t, cells, k1, k2⟩ := h1.mem.box i qs hi
    refine ⟨(Array.getElem?_eq_some_iff.1 k1).1, fun hg => ?_⟩
    obtain ⟨id, hid, hg⟩ := any_fps.1 hg
    exact blk_apart h1.mem (hth id hid) (y := (false, i)) ⟨qs, hi⟩ (fun e => hin (e ▸ hid)) hg rfl
  have hrn : ∀ {i r}, (i, r) ∈ σ1.rw → (true, i) ∉ mutIds σ1 xs sp.md → ∀ g, pblk (M1.ρ i) g → g < w.heap.size ∧ ¬ Any (fpsOf M1 σ1 xs sp.md) g := fun {i r} hi hin g hpg => by
    obtain ⟨sz, es⟩ := r
    obtain ⟨_, k1, _⟩ := h1.mem.row i sz es hi
    refine ⟨k1.lt hpg, fun hg => ?_⟩
    obtain ⟨id, hid, hg⟩ := any_fps.1 hg
    exact blk_apart h1.mem (hth id hid) (y := (true, i)) ⟨_, hi⟩ (fun e => hin (e ▸ hid)) hg hpg
  have hm : Mid X B w' { M1 with S := S' } (Any rfs) (Any fps') a σ1 (mutIds σ1 xs sp.md) σ1 := by
    refine ⟨fun t p h => hu.v (h1.tm t p h), fun i qs hi => ⟨⟨qs, hi⟩, ?_⟩, fun i sz es hi => ⟨⟨_, hi⟩, ?_⟩, fun i qs hi hn h => ?_, fun i r hi hn g hg h => ?_, fun i q j r hi hj _ _ => h1.mem.br i q j r hi hj, fun i r j r' g hi hj hne _ _ => h1.mem.rr i r j r' g hi hj hne⟩
    case refine_3 =>
      rcases (g7 _ h.right).1 with k | k
      · have := (hbn hi hn).1
        exact absurd this (Nat.not_lt.2 k)
      · exact (hbn hi hn).2 k
    case refine_4 =>
      rcases (g7 _ h.right).1 with k | k
      · have := (hrn hi hn g hg).1; omega
      · exact (hrn hi hn g hg).2 k
    · by_cases hin : (false, i) ∈ mutIds σ1 xs sp.md
      · exact .inl hin
      · right
        obtain ⟨_, t, cells, k1, k2⟩ := h1.mem.box i qs hi
        have hn : ¬ Any (fpsOf M1 σ1 xs sp.md) (M1.β i) := fun hg => by
          obtain ⟨id, hid, hg⟩ := any_fps.1 hg
          exact blk_apart h1.mem (hth id hid) (y := (false, i)) ⟨qs, hi⟩ (fun e => hin (e ▸ hid)) hg rfl
        have hlt := (Array.getElem?_eq_some_iff.1 k1).1
        refine ⟨⟨t, cells, by rw [← k1]; exact g8.block _ hlt hn, RelCs.ub hu k2⟩, fun h => ?_, fun h => ?_⟩
        · rcases g4 _ h with h | h | h
          · exact h1.mem.sb i qs hi h
          · exact absurd hlt (Nat.not_lt.2 h)
          · exact hn h
        · rcases (g7 _ h.left).1 with h | h
          · exact absurd hlt (Nat.not_lt.2 h)
          · exact hn h
    · by_cases hin : (true, i) ∈ mutIds σ1 xs sp.md
      · exact .inl hin
      · right
        obtain ⟨k0, k1, k2⟩ := h1.mem.row i sz es hi
        have hn : ∀ g, pblk (M1.ρ i) g → ¬ Any (fpsOf M1 σ1 xs sp.md) g := fun g hpg hg => by
          obtain ⟨id, hid, hg⟩ := any_fps.1 hg
          exact blk_apart h1.mem (hth id hid) (y := (true, i)) ⟨_, hi⟩ (fun e => hin (e ▸ hid)) hg hpg
        refine ⟨k0, k1.move hu.S hu.keep (fun g hg => g8.block g (k1.lt hg) (hn g hg)), fun g hg h => ?_, fun g hg h => ?_, k2⟩
        · rcases g4 _ h with h | h | h
          · exact h1.mem.sr i _ g hi hg h
          · have := k1.lt hg; omega
          · exact hn g hg h
        · rcases (g7 _ h.left).1 with h | h
          · have := k1.lt hg; omega
          · exact hn g hg h
  obtain ⟨⟨b2, ρ2, s2⟩, e1, e2, e3, hm2⟩ := outE_mid (N := Any rfs) (X := X) (B := B) (M1 := { M1 with S := S' }) (hargs σ1 w' { M1 with S := S' } (fun t p h => hu.v (h1.tm t p h)) (fun c v h => hu.rep (h.mono hmo (fun _ _ => rfl)))) (argsE_gd ha hvc) rfl rfl (fun _ => rfl) hm g2 (fun g hg => ⟨g6.notS hg.right, fun h => g6.split h hg, by
    rcases (g7 g hg.right).1 with h | h
    · exact .inl (Nat.le_trans h1.hB h)
    · exact (hblk g h).2.2⟩) g6.to0 ho2 hth hnd
  simp only at e1 e2
  subst e1
  replace e2 := e2.symm
  subst e2
  have mem2 := Mid.mem (M' := ⟨M1.β, ρ2, S'⟩) (hu.gl h1.mem.gl) h1.mem rfl g5 hm2
  have hs2 : Sim X n B w0 σ2 a w' ⟨M1.β, ρ2, S'⟩ := ⟨h1.size, h1.defs, hm2.tm, mem2, h1.fr.trans (g8.weak h1.hB (fun g hg hz => (hblk g hz).2.2.resolve_left (by omega))), Nat.le_trans h1.hB g8.size, fun g hg => by
    rcases g4 g hg with h | h | h
    · exact h1.sS g h
    · exact .inr (.inl (Nat.le_trans h1.hB h))
    · exact .inr (hblk g h).2.2, h1.sβ, fun i hi hb => (e3 i).trans (h1.sρ i hi hb)⟩
  obtain ⟨M', hM⟩ := ret_sim hs2 hd (v := v) (rfs := rfs) g1 g6.left (fun g hg => by
      rcases (g7 g hg.left).1 with h | h
      · exact .inl (Nat.le_trans h1.hB h)
      · exact (hblk g h).2.2)
    (fun i q hi hg => ((hm2.box i q hi).2.resolve_left (by simp)).n hg)
    (fun i r g hi hg hg' => by
      obtain ⟨sz', es'⟩ := r
      exact ((hm2.row i sz' es' hi).2.resolve_left (by simp)).n g hg hg') hret
  exact hK v w' M' hM
theorem callE_wp (G : GOK P Γ) (hs : Sim X n B w0 σ a w M) {dst : Option Nat} (hd : ∀ d, dst = some d → d < n) {f : FuncId} {us : List Value} {xs : List XO}
    (hargs : ∀ (σ1 : St) (w1 : World) (M1 : Gh), (∀ t p, (t, p) ∈ σ1.tm → RelV w1 M1 p (a.tmps.getD t undef)) → (∀ c v, Rep w M.S c v → Rep w1 M1.S c v) → All2 (ArgR σ1 w1 M1) xs us)
    {vc : Prop} {σ' : St} (he : callE Γ σ dst f xs = some (vc, σ')) (hvc : vc) :
    okCallee P f = true ∧ ∀ (K : Value → World → Prop) (E : Ending → World → Prop), (∀ v w' M', Sim X n B w0 σ' (a.put dst v) w' M' → K v w') →
      Calls P f us.toArray w fun e w' => match e with | .returned v => K v w' | e => E e w' := by
  unfold callE at he
  split at he
  · rename_i sp hsp
    split at he
    · rename_i hal
      split at he
      · rename_i vc' ds ha
        split at he
        · rename_i hnd
          split at he
          · rename_i σ2 ho2
            simp only [Option.map_eq_some_iff, Prod.mk.injEq] at he
            obtain ⟨σ3, hret, rfl, rfl⟩ := he
            obtain ⟨h1, h2⟩ := callS_wp G hs hd hargs hsp ha hnd hvc.1 hvc.2
            refine ⟨h1, fun K E hK => h2 K E (fun r o hro => ?_)⟩
            obtain ⟨rfl, rfl⟩ := (Spec.may_none hal).1 hro
            exact ⟨σ2, σ3, ho2, hret, hK⟩
          · cases he
        · cases he
      · cases he
    · cases he
  · cases he
theorem orF_mono' {α : Type} {x : Option α} {F F' : α → Prop} (hK : ∀ a, F a → F' a) (h : orF x F) : orF x F' := by
  unfold orF at *
  split at h
  · exact hK _ h
  · exact h.elim
theorem orF_some {α : Type} {x : Option α} {F : α → Prop} (h : orF x F) : ∃ a, x = some a ∧ F a := by
  unfold orF at h
  split at h
  · exact ⟨_, rfl, h⟩
  · exact h.elim
theorem callR_wp (G : GOK P Γ) (hs : Sim X n B w0 σ a w M) {dst : Option Nat} (hd : ∀ d, dst = some d → d < n) {f : FuncId} {us : List Value} {xs : List XO}
    (hargs : ∀ (σ1 : St) (w1 : World) (M1 : Gh), (∀ t p, (t, p) ∈ σ1.tm → RelV w1 M1 p (a.tmps.getD t undef)) → (∀ c v, Rep w M.S c v → Rep w1 M1.S c v) → All2 (ArgR σ1 w1 M1) xs us)
    {K' : St → Prop} (he : callR Γ σ dst f xs K') :
    okCallee P f = true ∧ ∀ (K : Value → World → Prop) (E : Ending → World → Prop), (∀ σ' v w' M', K' σ' → Sim X n B w0 σ' (a.put dst v) w' M' → K v w') →
      Calls P f us.toArray w fun e w' => match e with | .returned v => K v w' | e => E e w' := by
  unfold callR at he
  split at he
  · rename_i sp hsp
    split at he
    · rename_i vc' ds ha
      obtain ⟨hnd, hvc, hpre, hall⟩ := he
      obtain ⟨h1, h2⟩ := callS_wp G hs hd hargs hsp ha hnd hvc hpre
      refine ⟨h1, fun K E hK => h2 K E (fun r o hro => ?_)⟩
      obtain ⟨σ2, ho2, h3⟩ := orF_some (hall r o hro)
      obtain ⟨σ3, hret, h4⟩ := orF_some h3
      exact ⟨σ2, σ3, ho2, hret, fun v w' M' h => hK σ3 v w' M' h4 h⟩
    · exact he.elim
  · exact he.elim
/-! ### Calls that are lent private rows, and hand back rows of their own -/
theorem flL_get : ∀ {cs : List C}, flL cs = true → ∀ (j : Nat) c, cs[j]? = some c → flC c = true := by
  intro cs
  induction cs with
  | nil => intro _ j c h; simp at h
  | cons x cs ih =>
    intro h j c hc
    simp only [flL, Bool.and_eq_true] at h
    cases j with
    | zero => simp at hc; subst hc; exact h.1
    | succ j => exact ih h.2 j c (by simpa using hc)
theorem flR_get : ∀ {es : List (List C)}, flR es = true → ∀ (i j : Nat) e c, es[i]? = some e → e[j]? = some c → flC c = true := by
  intro es
  induction es with
  | nil => intro _ i j e c h; simp at h
  | cons x es ih =>
    intro h i j e c he hc
    simp only [flR, Bool.and_eq_true] at h
    cases i with
    | zero => simp at he; subst he; exact flL_get h.1 j c hc
    | succ i => exact ih h.2 i j e c (by simpa using he) hc
theorem RepX.fl {S S' : Nat → Prop} {h : List (Nat × Nat) → Value} {c : C} {u : Value} {D : Nat → Prop} (k : RepX w S h c u D) : flC c = true → RepX w S' h c u D := by
  induction k with
  | pl hr => intro hf; refine .pl ?_; cases hr <;> first | (simp [flC] at hf; done) | constructor
  | jk _ => intro hf; simp [flC] at hf
  | nil h0 hh => intro _; exact .nil h0 hh
  | @own _ _ es _ _ _ _ _ ψ h0 hh hg hn hc hs hsz hD hψ hd u hu _ ih =>
    intro hf
    have hf : flR es = true := by simpa [flC] using hf
    exact .own ψ h0 hh hg hn hc hs hsz hD hψ hd u hu (fun i j e c he hj => ih i j e c he hj (flR_get hf i j e c he hj))
theorem Priv.fl {S S' : Nat → Prop} {sz : Nat} {es : List (List C)} {r : RV} (h : Priv w S sz es r) (hf : flR es = true) : Priv w S' sz es r := by
  refine ⟨?_, h.2⟩
  rcases h.1 with ⟨e, us, h1, ⟨a1, a2, ψ, a3, a4, a5⟩, h3⟩ | h
  · exact .inl ⟨e, us, h1, ⟨a1, a2, ψ, a3, a4, fun i j e c he hj => by obtain ⟨u, b1, b2⟩ := a5 i j e c he hj; exact ⟨u, b1, b2.fl (flR_get hf i j e c he hj)⟩⟩, h3⟩
  · exact .inr h
theorem RepP.fl {S S' : Nat → Prop} {p : Pt} {v : Value} {f : Nat → Prop} (h : RepP w S p v f) (hf : p.fl = true) : RepP w S' p v f := by
  cases p with
  | c x => exact ⟨flatC_rel hf h.1, h.2⟩
  | o sz es => obtain ⟨h0, r, h1, h2, h3⟩ := h; exact ⟨h0, r, h1, h2.fl hf, h3⟩
theorem RepPs.fl {S S' : Nat → Prop} {ps : List Pt} {us : List Value} {fs : List (Nat → Prop)} (h : All3 (RepP w S) ps us fs) : ps.all Pt.fl = true → All3 (RepP w S') ps us fs := by
  induction h with
  | nil => intro _; exact .nil
  | cons h _ ih =>
    intro hf
    simp only [List.all_cons, Bool.and_eq_true] at hf
    exact .cons (h.fl hf.1) (ih hf.2)
theorem RepA.fl {S S' : Nat → Prop} {x : AV} {v : Value} {f : Nat → Prop} (h : RepA w S x v f) (hf : x.fl = true) : RepA w S' x v f := by
  cases x with
  | d x =>
    cases x with
    | one c => exact ⟨flatC_rel hf h.1, h.2⟩
    | agg cs =>
      obtain ⟨⟨us, h1, h2, h3⟩, h4⟩ := h
      refine ⟨⟨us, h1, h2, fun i c hc => ?_⟩, h4⟩
      obtain ⟨u, k1, k2⟩ := h3 i c hc
      have hf : cs.all flatC = true := hf
      rw [List.all_eq_true] at hf
      exact ⟨u, k1, flatC_rel (hf c (List.mem_of_getElem? hc)) k2⟩
  | own sz es => obtain ⟨h0, r, h1, h2, h3⟩ := h; exact ⟨h0, r, h1, h2.fl hf, h3⟩
  | ag ps => obtain ⟨us, fs, h1, h2, h3, h4⟩ := h; exact ⟨us, fs, h1, RepPs.fl h2 hf, h3, h4⟩
  | ref _ => cases hf
  | gone => cases hf
theorem RepAs.fl {S S' : Nat → Prop} {xs : List AV} {vs : List Value} {fs : List (Nat → Prop)} (h : All3 (RepA w S) xs vs fs) : xs.all AV.fl = true → All3 (RepA w S') xs vs fs := by
  induction h with
  | nil => intro _; exact .nil
  | cons h _ ih =>
    intro hf
    simp only [List.all_cons, Bool.and_eq_true] at hf
    exact .cons (h.fl hf.1) (ih hf.2)
theorem RepR.fl {S S' : Nat → Prop} {ds : List AV} {v : Value} {fs : List (Nat → Prop)} (h : RepR w S ds v fs) (hf : ds.all AV.fl = true) : RepR w S' ds v fs := by
  unfold RepR at *
  split at h
  · exact RepA.fl h (by simpa using hf)
  · exact ⟨h.1, by obtain ⟨vs, h1, h2⟩ := h.2; exact ⟨vs, h1, RepAs.fl h2 hf⟩⟩
theorem callL_wp (G : GOK P Γ) (hs : Sim X n B w0 σ a w M) {dst : Option Nat} (hd : ∀ d, dst = some d → d < n) {f : FuncId} {os : List Operand} {xs : List XO} (ho : okOs os xs = true)
    {vc : Prop} {σ' : St} (he : callL Γ σ dst f xs = some (vc, σ')) (hvc : vc) :
    okCallee P f = true ∧ ∀ (K : Value → World → Prop) (E : Ending → World → Prop), (∀ v w' M', Sim X n B w0 σ' (a.put dst v) w' M' → K v w') →
      Calls P f (os.map a.eval).toArray w fun e w' => match e with | .returned v => K v w' | e => E e w' := by
  have mem := hs.mem
  unfold callL at he
  split at he
  · rename_i sp vc' ds hsp ha
    split at he
    · rename_i hal
      split at he
      · rename_i hfl
        simp only [Option.map_eq_some_iff, Prod.mk.injEq] at he
        obtain ⟨σ2, hret, rfl, rfl⟩ := he
        obtain ⟨h1, h2⟩ := G f sp hsp
        refine ⟨h1, fun K E hK => ?_⟩
        have hlt : ∀ g, LentS σ M g → g < w.heap.size := fun g hg => by
          rcases hg with hg | ⟨i, ⟨sz, es⟩, hi, hg⟩
          · exact mem.lt g hg
          · exact (mem.row _ _ _ hi).2.1.lt hg
        have hgl : Gl w (LentS σ M) := fun i c hi => by
          obtain ⟨k1, u, k2, k3⟩ := mem.gl i c hi
          exact ⟨.inl k1, u, k2, k3.mono (fun _ h => .inl h) (fun _ _ => rfl)⟩
        refine (h2 ds hvc.2 w (LentS σ M) _ _ hgl hlt (fun g hg => absurd hg Any_false) Apart_false (argsB_rel mem hs.tm ho ha hvc.1)).mono ?_
        rintro e w' ⟨r, o, hro, v, S', rfs, fps', rfl, g1, g2, g4, g5, g6, g7, g8⟩
        obtain ⟨rfl, rfl⟩ := (Spec.may_none hal).1 hro
        have hw := g8.weak (B := w.heap.size) (X := fun _ => False) (Nat.le_refl _) (fun g _ hg => absurd hg Any_false)
        have hu : Up (fun _ => False) w M w' M := ⟨rfl, rfl, fun _ h => h, fun _ h => .inl h, fun g hg => Nat.lt_of_lt_of_le (mem.lt g hg) hw.size, fun _ _ h => h, hw⟩
        have hs2 : Sim X n B w0 σ a w' M := ⟨hs.size, hs.defs, fun t p h => hu.v mem.lt (hs.tm t p h), mem.up hu (fun _ _ _ h => h) (fun _ _ _ _ _ h => h), hs.fr.trans (hw.weak hs.hB (fun _ _ h => h.elim)), Nat.le_trans hs.hB hw.size, hs.sS, hs.sβ, hs.sρ⟩
        have hnew : ∀ g, Any rfs g → w.heap.size ≤ g := fun g hg => (g7 g hg.left).1.resolve_right Any_false
        obtain ⟨M', hM⟩ := ret_sim hs2 hd (v := v) (rfs := rfs) (g1.fl hfl) (g6.left.widen (fun g hg hS => by have := hnew g hg; have := mem.lt g hS; omega)) (fun g hg => .inl (Nat.le_trans hs.hB (hnew g hg)))
          (fun i q hi hg => by
            obtain ⟨_, t', cells', h1, _⟩ := mem.box i q hi
            exact absurd (Array.getElem?_eq_some_iff.1 h1).1 (Nat.not_lt.2 (hnew _ hg)))
          (fun i r g hi hg hg' => by
            obtain ⟨sz, es⟩ := r
            have := (mem.row i sz es hi).2.1.lt hg
            have := hnew g hg'; omega) hret
        exact hK v w' M' hM
      · cases he
    · cases he
  · cases he
end
end Go.Proofs.Pw
/- Calls that write rows which lie in private rows, or the private rows of an aggregate. -/
namespace Go.Proofs.Pw
open Go.RowKit
set_option linter.unusedSectionVars false
variable [Globs]
section
variable {P : Program} {Γ : FuncId → Option Spec} {σ σ' : St} {a : Act} {w w' : World} {M M' : Gh} {X : Nat → Prop} {B n : Nat} {w0 : W0}

theorem lend_q {l : List Nat} {ρ' : Nat → RV} (hu : Ub w M w' M) (hρ : ∀ j, j ∉ l → ρ' j = M.ρ j) (hv : ∀ j, (ρ' j).v = (M.ρ j).v) (q : Q) (v : Value) (h : RelQ w M q v) : RelQ w' { M with ρ := ρ' } (q.killL l) v := by
  have h := hu.q h
  cases q with
  | own j => simp only [Q.killL, RelQ, hv] at *; exact h
  | rp j sz k o => simp only [Q.killL, RelQ, hv] at *; exact h
  | vw j sz lo n => simp only [Q.killL, RelQ, hv] at *; exact h
  | vc j sz lo n c => simp only [Q.killL, RelQ, hv] at *; exact h
  | nr j π =>
    simp only [Q.killL]
    split
    · trivial
    · rename_i hn; simp only [RelQ, hρ j hn] at *; exact h
  | np j π sz k o =>
    simp only [Q.killL]
    split
    · trivial
    · rename_i hn; simp only [RelQ, hρ j hn] at *; exact h
  | _ => exact h
/-- The private rows of l have been written, and stand where they stood. -/
theorem lend_sim (hs : Sim X n B w0 σ a w M) {l : List Nat} {ρ' : Nat → RV} {rw' : List (Nat × Nat × List (List C))} {Z : Nat → Prop} (hf : Fr Z w.heap.size w w') (hZ : ∀ g, Z g → ∃ i r, i ∈ l ∧ (i, r) ∈ σ.rw ∧ pblk (M.ρ i) g)
    (hρ : ∀ j, j ∉ l → ρ' j = M.ρ j) (hv : ∀ j, (ρ' j).v = (M.ρ j).v) (hrw : ∀ j r, (j, r) ∈ rw' → j ∉ l → (j, r) ∈ σ.rw)
    (hnew : ∀ j sz es, j ∈ l → (j, sz, es) ∈ rw' → 0 < sz ∧ Priv w' M.S sz es (ρ' j) ∧ ∀ g, pblk (ρ' j) g → w.heap.size ≤ g ∨ ∃ i r, i ∈ l ∧ (i, r) ∈ σ.rw ∧ pblk (M.ρ i) g)
    (hdis : ∀ i r j r' g, i ∈ l → j ∈ l → i ≠ j → (i, r) ∈ rw' → (j, r') ∈ rw' → pblk (ρ' i) g → ¬ pblk (ρ' j) g) : Sim X n B w0 { σ.map (Q.killL l) with rw := rw' } a w' { M with ρ := ρ' } := by
  have hZS : ∀ g, M.S g → ¬ Z g := fun g hg hz => by
    obtain ⟨i, r, _, hi, hp⟩ := hZ g hz
    exact hs.mem.sr i r g hi hp hg
  have hu : Ub w M w' M := ⟨rfl, rfl, fun _ h => h, fun g hg => hf.block g (hs.mem.lt g hg) (hZS g hg)⟩
  refine ⟨hs.size, hs.defs, fun t p h => ?_, ?_, hs.fr.trans (hf.weak hs.hB (fun g hg hz => ?_)), Nat.le_trans hs.hB hf.size, hs.sS, hs.sβ, fun i hi hb => (hv i).trans (hs.sρ i hi hb)⟩
  · simp only [St.map, List.mem_map, Prod.mk.injEq] at h
    obtain ⟨⟨t', p'⟩, h', rfl, rfl⟩ := h
    exact map_v (lend_q hu hρ hv) (hs.tm _ _ h')
  · refine hs.mem.regroup hs.hB (fun j => j ∈ l) (ρ' := ρ') (f := Q.killL l) hρ (fun i' q hq => ?_) (lend_q hu hρ hv) (fun g hg hL => hf.block g hg (fun hz => hL ?_)) hf.size hrw (fun i sz es hL hi => hnew i sz es hL hi) hdis
    · simp only [St.map, List.mem_map, Prod.mk.injEq] at hq
      obtain ⟨⟨j, q'⟩, hj, rfl, rfl⟩ := hq
      exact ⟨q', hj, rfl⟩
    · obtain ⟨i, r, h1, h2, h3⟩ := hZ g hz
      exact ⟨i, r, h1, h2, h3⟩
  · obtain ⟨i, ⟨sz, es⟩, _, hi, hp⟩ := hZ g hz
    rcases (hs.mem.row i sz es hi).2.2 g hp with h | h
    · omega
    · exact h
/-- A row that lies in a private row: it may be written, and put back. -/
theorem Priv.nest {S : Nat → Prop} {sz : Nat} {es : List (List C)} {R : RV} (h : Priv w S sz es R) {k o s : Nat} {ys : List (List C)} {e0 : List C} (hk : es[k]? = some e0) (ho : e0[o]? = some (.own s ys)) (hl : ∀ g, S g → g < w.heap.size) (hSR : ∀ g, pblk R g → ¬ S g) :
    ∃ sub : RV, sub.v = R.h [(k, o)] ∧ 0 < s ∧ Priv w S s ys sub ∧ (∀ g, pblk sub g → R.D g) ∧
      ∀ (w' : World) (sub' : RV) (s' : Nat) (ys' : List (List C)), Fr (pblk sub) w.heap.size w w' → sub'.v = sub.v → 0 < s' → Priv w' S s' ys' sub' → (∀ g, pblk sub' g → w.heap.size ≤ g ∨ pblk sub g) →
        ∃ R' : RV, R'.v = R.v ∧ Priv w' S sz (es.set k (e0.set o (.own s' ys'))) R' ∧ ∀ g, pblk R' g → w.heap.size ≤ g ∨ pblk R g := by
  obtain ⟨e, us, hown, hf, hnD⟩ : ∃ e us, w.ownsRow 0 e sz R.v es.length us ∧ FlatX w S R.h R.D sz es us ∧ ∀ g, oblk R.v g → ¬ R.D g := by
    rcases h.1 with h | ⟨rfl, _⟩
    · exact h
    · simp at hk
  obtain ⟨f1, f2, ψ, f3, f4, f5⟩ := hf
  obtain ⟨u, g1, g2⟩ := f5 k o _ _ hk ho
  obtain ⟨D', p1, p2, p3, p4⟩ := g2.priv (fun g hg => h.2 g (f3 _ g hg))
  refine ⟨⟨fun π => R.h ((k, o) :: π), D'⟩, rfl, p3, p1, fun g hg => f3 _ g (p4 g hg), fun w' sub' s' ys' hfr hv hs' hp' hnew => ?_⟩
  have hlt : ∀ g, pblk R g → g < w.heap.size := fun g hg => h.lt hg
  have hkeep : ∀ g, S g → w'.heap[g]? = w.heap[g]? := fun g hg => hfr.block g (hl g hg) (fun hz => hSR g (.inr (f3 _ g (p4 g hz))) hg)
  have hksz : k < es.length := (List.getElem?_eq_some_iff.1 hk).1
  have hosz : o < sz := by have := (List.getElem?_eq_some_iff.1 ho).1; rw [f1 k e0 hk] at this; exact this
  have hbig : ∀ g, pblk sub' g → w.heap.size ≤ g ∨ ψ (k * sz + o) g := fun g hg => (hnew g hg).imp id (p4 g)
  refine ⟨⟨fun π => match π with
    | [] => R.h []
    | (a, b) :: π => if a = k ∧ b = o then sub'.h π else R.h ((a, b) :: π), fun g => R.D g ∨ pblk sub' g⟩, rfl, ⟨.inl ⟨e, us, ?_, ⟨fun i e' he => ?_, by rw [List.length_set]; exact f2, fun p g => if p = k * sz + o then pblk sub' g else ψ p g, fun p x hx => ?_, fun p q x hpq hpx hqx => ?_, fun i j e' c he hj => ?_⟩, fun g hg hD => ?_⟩, fun g hg => ?_⟩, fun g hg => ?_⟩
  · rw [List.length_set]
    refine ownsRow_move hown (fun g hg => hfr.block g (hlt g (.inl hg)) (fun hz => hnD g hg (f3 _ g (p4 g hz)))) (.inl (by omega))
  · rw [List.getElem?_set] at he
    split at he
    · simp at he; obtain ⟨_, rfl⟩ := he; rw [List.length_set]; exact f1 k e0 hk
    · exact f1 i e' he
  · dsimp only at hx ⊢
    split at hx
    · exact .inr hx
    · exact .inl (f3 p x hx)
  · dsimp only at hpx hqx
    split at hpx <;> split at hqx
    · omega
    · rename_i e1 _
      rcases hbig x hpx with hb | hb
      · have := hlt x (.inr (f3 q x hqx)); omega
      · exact f4 _ q x (by omega) hb hqx
    · rename_i _ e1
      rcases hbig x hqx with hb | hb
      · have := hlt x (.inr (f3 p x hpx)); omega
      · exact f4 p _ x (by omega) hpx hb
    · exact f4 p q x hpq hpx hqx
  · have hjs : j < sz := by
      have h1 := (List.getElem?_eq_some_iff.1 hj).1
      rw [List.getElem?_set] at he
      split at he
      · simp at he; obtain ⟨_, rfl⟩ := he; rw [List.length_set, f1 k e0 hk] at h1; exact h1
      · rw [f1 i e' he] at h1; exact h1
    have old : ∀ e1, es[i]? = some e1 → e1[j]? = some c → ¬ (i = k ∧ j = o) → ∃ u, us[i * sz + j]? = some u ∧
        RepX w' S (fun π => if i = k ∧ j = o then sub'.h π else R.h ((i, j) :: π)) c u (fun g => if i * sz + j = k * sz + o then pblk sub' g else ψ (i * sz + j) g) := fun e1 h1 h2 hne => by
      obtain ⟨u, k1, k2⟩ := f5 i j e1 c h1 h2
      have hnp : i * sz + j ≠ k * sz + o := fun e => by
        by_cases hik : i = k
        · subst hik; exact hne ⟨rfl, by omega⟩
        · have := row_part (sz := sz) (i := i) (k := k) hjs hik o 1 (by omega); omega
      refine ⟨u, k1, ?_⟩
      simp only [if_neg hne, if_neg hnp]
      exact k2.move (fun _ h => h) hkeep (fun g hg => hfr.block g (hlt g (.inr (f3 _ g hg))) (fun hz => f4 _ _ g hnp hg (p4 g hz)))
    rw [List.getElem?_set] at he
    split at he
    · rename_i hik
      subst hik
      simp at he
      obtain ⟨_, rfl⟩ := he
      rw [List.getElem?_set] at hj
      split at hj
      · rename_i hoj
        subst hoj
        simp at hj
        obtain ⟨_, rfl⟩ := hj
        refine ⟨u, g1, ?_⟩
        simp only [if_true, and_self]
        have := hp'.repX hs'
        rw [show u = sub'.v from p2.trans hv.symm]
        exact this
      · rename_i hoj
        exact old e0 hk hj (fun e => hoj e.2.symm)
    · rename_i hik
      exact old e' he hj (fun e => hik e.1.symm)
  · rcases hD with hD | hD
    · exact hnD g hg hD
    · rcases hbig g hD with hb | hb
      · have := hlt g (.inl hg); omega
      · exact hnD g hg (f3 _ g hb)
  · rcases hg with hg | hg
    · exact Nat.lt_of_lt_of_le (hlt g (.inr hg)) hfr.size
    · exact hp'.lt hg
  · rcases hg with hg | hg | hg
    · exact .inr (.inl hg)
    · exact .inr (.inr hg)
    · exact (hbig g hg).imp id (fun h => .inr (f3 _ g h))

theorem agPts_rel (mem : Mem X B σ.bx σ.rw w M) : ∀ {qs : List Q} {ps : List Pt} {us : List Value}, agPts σ.rw qs = some ps → us.length = qs.length → (∀ (i : Nat) q, qs[i]? = some q → ∃ u, us[i]? = some u ∧ u.oneCell' = true ∧ RelQ w M q u) → nodupN (agOwn qs) = true →
    ∃ fs, All3 (RepP w M.S) ps us fs ∧ Apart0 fs ∧ (∀ g, Any fs g ↔ ∃ i ∈ agOwn qs, pblk (M.ρ i) g) ∧ ∀ i ∈ agOwn qs, ∃ r, (i, r) ∈ σ.rw := by
  intro qs
  induction qs with
  | nil =>
    intro ps us h hl _ _
    simp only [agPts, Option.some.injEq] at h
    subst h
    have := List.eq_nil_of_length_eq_zero (l := us) (by simpa using hl)
    subst this
    exact ⟨[], .nil, trivial, fun g => by simp [Any, agOwn], by simp [agOwn]⟩
  | cons q qs ih =>
    intro ps us h hl hq hnd
    cases us with
    | nil => simp at hl
    | cons u us =>
      have hl' : us.length = qs.length := by simpa using hl
      have hq' : ∀ (i : Nat) q, qs[i]? = some q → ∃ u, us[i]? = some u ∧ u.oneCell' = true ∧ RelQ w M q u := fun i q' h' => by simpa using hq (i + 1) q' (by simpa using h')
      obtain ⟨u', hu', _, hr⟩ := hq 0 q (by simp)
      simp only [List.getElem?_cons_zero, Option.some.injEq] at hu'
      subst hu'
      have rest : ∀ {c : C} {ps'}, q.toC = some c → agPts σ.rw qs = some ps' → ps = .c c :: ps' → agOwn (q :: qs) = agOwn qs → ∃ fs, All3 (RepP w M.S) ps (u :: us) fs ∧ Apart0 fs ∧ (∀ g, Any fs g ↔ ∃ i ∈ agOwn (q :: qs), pblk (M.ρ i) g) ∧ ∀ i ∈ agOwn (q :: qs), ∃ r, (i, r) ∈ σ.rw := fun {c ps'} h1 h2 h3 he => by
        subst h3
        rw [he] at hnd ⊢
        obtain ⟨fs, i1, i2, i3, i4⟩ := ih h2 hl' hq' hnd
        refine ⟨(fun _ => False) :: fs, .cons ⟨toC_rel hr h1, fun _ h => h⟩ i1, ⟨fun g hg => hg.elim, i2⟩, fun g => ?_, i4⟩
        rw [← i3]
        exact ⟨fun ⟨z, hz, hg⟩ => by
          rcases List.mem_cons.1 hz with rfl | hz
          · exact hg.elim
          · exact ⟨z, hz, hg⟩, fun ⟨z, hz, hg⟩ => ⟨z, by simp [hz], hg⟩⟩
      have gen : (∀ i, q ≠ .own i) → (match q.toC, agPts σ.rw qs with
          | some c, some ps => some (Pt.c c :: ps)
          | _, _ => none) = some ps → ∃ fs, All3 (RepP w M.S) ps (u :: us) fs ∧ Apart0 fs ∧ (∀ g, Any fs g ↔ ∃ i ∈ agOwn (q :: qs), pblk (M.ρ i) g) ∧ ∀ i ∈ agOwn (q :: qs), ∃ r, (i, r) ∈ σ.rw := fun hno h => by
        split at h
        · rename_i c ps' e1 e2
          cases h
          exact rest e1 e2 rfl (by cases q <;> first | rfl | exact absurd rfl (hno _))
        · cases h
      cases q with
      | own i =>
        simp only [agPts] at h
        split at h
        · rename_i sz es ps' e1 e2
          cases h
          have hin := get?_mem e1
          obtain ⟨k0, k1, k2⟩ := mem.row _ _ _ hin
          simp only [agOwn, nodupN, Bool.and_eq_true, Bool.not_eq_true', List.contains_eq_mem, decide_eq_false_iff_not] at hnd
          obtain ⟨fs, i1, i2, i3, i4⟩ := ih e2 hl' hq' hnd.2
          refine ⟨pblk (M.ρ i) :: fs, .cons ⟨k0, _, hr.1, k1, fun g => Iff.rfl⟩ i1, ⟨fun g hg z hz hzg => ?_, i2⟩, fun g => ?_, fun j hj => ?_⟩
          · obtain ⟨j, hj, hjg⟩ := (i3 g).1 ⟨z, hz, hzg⟩
            obtain ⟨r, hr'⟩ := i4 j hj
            exact mem.rr _ _ _ _ g hin hr' (fun e => hnd.1 (e ▸ hj)) hg hjg
          · simp only [agOwn, List.mem_cons, exists_eq_or_imp, ← i3]
            exact ⟨fun ⟨z, hz, hg⟩ => by
              rcases List.mem_cons.1 hz with rfl | hz
              · exact .inl hg
              · exact .inr ⟨z, hz, hg⟩, fun h => by
              rcases h with h | ⟨z, hz, hg⟩
              · exact ⟨_, by simp, h⟩
              · exact ⟨z, by simp [hz], hg⟩⟩
          · simp only [agOwn, List.mem_cons] at hj
            rcases hj with rfl | hj
            · exact ⟨_, hin⟩
            · exact i4 j hj
        · cases h
      | _ => exact gen (fun _ => by simp) h
theorem agPut_rel {S' : Nat → Prop} : ∀ {qs : List Q} {ps : List Pt} {us : List Value} {fs : List (Nat → Prop)} {rw_ rw' : List (Nat × Nat × List (List C))}, agPut qs ps rw_ = some rw' → (∀ (i : Nat) q, qs[i]? = some q → ∃ u, us[i]? = some u ∧ u.oneCell' = true ∧ RelQ w M q u) →
    All3 (RepP w' S') ps us fs → Apart0 fs → nodupN (agOwn qs) = true →
    ∃ ρ' : Nat → RV, (∀ j, j ∉ agOwn qs → ρ' j = M.ρ j) ∧ (∀ j, (ρ' j).v = (M.ρ j).v) ∧ (∀ j r, (j, r) ∈ rw' → j ∉ agOwn qs → (j, r) ∈ rw_) ∧
      (∀ j sz es, j ∈ agOwn qs → (j, sz, es) ∈ rw' → 0 < sz ∧ Priv w' M.S sz es (ρ' j) ∧ ∀ g, pblk (ρ' j) g → Any fs g) ∧
      ∀ i r j r' g, i ∈ agOwn qs → j ∈ agOwn qs → i ≠ j → (i, r) ∈ rw' → (j, r') ∈ rw' → pblk (ρ' i) g → ¬ pblk (ρ' j) g := by
  intro qs
  induction qs with
  | nil =>
    intro ps us fs rw_ rw' h hq h3 hap hnd
    cases ps with
    | nil =>
      simp only [agPut, Option.some.injEq] at h
      subst h
      exact ⟨M.ρ, fun _ _ => rfl, fun _ => rfl, fun _ _ h _ => h, by simp [agOwn], by simp [agOwn]⟩
    | cons _ _ => simp [agPut] at h
  | cons q qs ih =>
    intro ps us fs rw_ rw' h hq h3 hap hnd
    cases h3 with
    | nil => cases q <;> simp [agPut] at h
    | @cons p u f ps us fs h1 h2 =>
      have hq' : ∀ (i : Nat) q, qs[i]? = some q → ∃ u, us[i]? = some u ∧ u.oneCell' = true ∧ RelQ w M q u := fun i q' h' => by simpa using hq (i + 1) q' (by simpa using h')
      obtain ⟨u', hu', _, hr⟩ := hq 0 q (by simp)
      simp only [List.getElem?_cons_zero, Option.some.injEq] at hu'
      subst hu'
      have rest : agPut qs ps rw_ = some rw' → agOwn (q :: qs) = agOwn qs → ∃ ρ' : Nat → RV, (∀ j, j ∉ agOwn (q :: qs) → ρ' j = M.ρ j) ∧ (∀ j, (ρ' j).v = (M.ρ j).v) ∧ (∀ j r, (j, r) ∈ rw' → j ∉ agOwn (q :: qs) → (j, r) ∈ rw_) ∧
          (∀ j sz es, j ∈ agOwn (q :: qs) → (j, sz, es) ∈ rw' → 0 < sz ∧ Priv w' M.S sz es (ρ' j) ∧ ∀ g, pblk (ρ' j) g → Any (f :: fs) g) ∧
          ∀ i r j r' g, i ∈ agOwn (q :: qs) → j ∈ agOwn (q :: qs) → i ≠ j → (i, r) ∈ rw' → (j, r') ∈ rw' → pblk (ρ' i) g → ¬ pblk (ρ' j) g := fun h he => by
        rw [he] at hnd ⊢
        obtain ⟨ρ', i1, i2, i3, i4, i5⟩ := ih h hq' h2 hap.2 hnd
        exact ⟨ρ', i1, i2, i3, fun j sz es hj hm => by obtain ⟨a1, a2, a3⟩ := i4 j sz es hj hm; exact ⟨a1, a2, fun g hg => by obtain ⟨z, hz, hzg⟩ := a3 g hg; exact ⟨z, by simp [hz], hzg⟩⟩, i5⟩
      cases q with
      | own i =>
        cases p with
        | c x => simp [agPut] at h
        | o sz es =>
          simp only [agPut] at h
          split at h
          · rename_i hfl
            simp only [agOwn, nodupN, Bool.and_eq_true, Bool.not_eq_true', List.contains_eq_mem, decide_eq_false_iff_not] at hnd
            obtain ⟨ρ1, i1, i2, i3, i4, i5⟩ := ih h hq' h2 hap.2 hnd.2
            obtain ⟨hpos, r, hrv, hp, hfp⟩ := h1
            have hp' : Priv w' M.S sz es r := hp.fl hfl
            have tail : ∀ j g, j ∈ agOwn qs → (∃ sz es, (j, sz, es) ∈ rw') → pblk (ρ1 j) g → Any fs g := fun j g hj ⟨sz, es, hm⟩ hg => (i4 j sz es hj hm).2.2 g hg
            refine ⟨fun j => if j = i then r else ρ1 j, fun j hj => ?_, fun j => ?_, fun j r' hm hj => ?_, fun j sz' es' hj hm => ?_, fun j r1 k r2 g hj hk hne hm1 hm2 hg1 hg2 => ?_⟩
            · simp only [agOwn, List.mem_cons, not_or] at hj
              show (if j = i then r else ρ1 j) = _
              rw [if_neg hj.1]; exact i1 j hj.2
            · show (if j = i then r else ρ1 j).v = _
              split
              · rename_i e; subst e; rw [← hrv]; exact hr.1
              · exact i2 j
            · simp only [agOwn, List.mem_cons, not_or] at hj
              rcases upd_mem (i3 j r' hm hj.2) with ⟨e, _⟩ | ⟨_, h⟩
              · exact absurd e hj.1
              · exact h
            · by_cases e : j = i
              · subst e
                rcases upd_mem (i3 j _ hm hnd.1) with ⟨_, e⟩ | ⟨e, _⟩
                · cases e
                  simp only [if_true]
                  exact ⟨hpos, hp', fun g hg => ⟨f, by simp, (hfp g).2 hg⟩⟩
                · exact absurd rfl e
              · simp only [agOwn, List.mem_cons] at hj
                simp only [if_neg e]
                obtain ⟨a1, a2, a3⟩ := i4 j sz' es' (hj.resolve_left e) hm
                exact ⟨a1, a2, fun g hg => by obtain ⟨z, hz, hzg⟩ := a3 g hg; exact ⟨z, by simp [hz], hzg⟩⟩
            · simp only [agOwn, List.mem_cons] at hj hk
              by_cases e1 : j = i
              · have e2 : k ≠ i := fun e => hne (e1.trans e.symm)
                simp only [if_pos e1] at hg1
                simp only [if_neg e2] at hg2
                obtain ⟨z, hz, hzg⟩ := tail k g (hk.resolve_left e2) ⟨_, _, hm2⟩ hg2
                exact hap.1 g ((hfp g).2 hg1) z hz hzg
              · simp only [if_neg e1] at hg1
                by_cases e2 : k = i
                · simp only [if_pos e2] at hg2
                  obtain ⟨z, hz, hzg⟩ := tail j g (hj.resolve_left e1) ⟨_, _, hm1⟩ hg1
                  exact hap.1 g ((hfp g).2 hg2) z hz hzg
                · simp only [if_neg e2] at hg2
                  exact i5 j r1 k r2 g (hj.resolve_left e1) (hk.resolve_left e2) hne hm1 hm2 hg1 hg2
          · cases h
      | _ =>
        cases p with
        | o sz es => simp [agPut] at h
        | c x => exact rest (by simpa [agPut] using h) rfl
theorem callM_wp (G : GOK P Γ) (hs : Sim X n B w0 σ a w M) {dst : Option Nat} (hd : ∀ d, dst = some d → d < n) {f : FuncId} {os : List Operand} {x y : XO} (ho : okOs os [x, y] = true)
    {vc : Prop} {σ' : St} (he : callM Γ σ dst f x y = some (vc, σ')) (hvc : vc) :
    okCallee P f = true ∧ ∀ (K : Value → World → Prop) (E : Ending → World → Prop), (∀ v w' M', Sim X n B w0 σ' (a.put dst v) w' M' → K v w') →
      Calls P f (os.map a.eval).toArray w fun e w' => match e with | .returned v => K v w' | e => E e w' := by
  have mem := hs.mem
  obtain ⟨o1, o2, rfl, ho1, ho2⟩ : ∃ o1 o2, os = [o1, o2] ∧ okO o1 x = true ∧ okO o2 y = true := by
    cases os with
    | nil => simp [okOs] at ho
    | cons o1 os => cases os with
      | nil => simp [okOs] at ho
      | cons o2 os => cases os with
        | nil => simp only [okOs, Bool.and_eq_true, Bool.and_true] at ho; exact ⟨o1, o2, rfl, ho.1, ho.2⟩
        | cons _ _ => simp [okOs] at ho
  unfold callM at he
  split at he
  · cases he
  rename_i sp hsp
  obtain ⟨hc, hsound⟩ := G f sp hsp
  split at he
  rotate_left
  · cases he
  rename_i d hal hyd
  split at he
  · rename_i g i k o e1
    split at he
    rotate_left
    · cases he
    rename_i sz es hq
    split at he
    rotate_left
    · cases he
    rename_i s ys hcell
    split at he
    rotate_left
    · cases he
    rename_i s' ys' r hout hret
    split at he
    rotate_left
    · cases he
    rename_i hfl
    simp only [Option.some.injEq, Prod.mk.injEq] at he
    obtain ⟨rfl, rfl⟩ := he
    obtain ⟨hg, hgy, hk, hoff, hpre⟩ := hvc
    refine ⟨hc, fun K E hK => ?_⟩
    have rx := okO_rel hs.tm ho1 (by rw [e1]; exact hg)
    rw [e1] at rx
    have ry := toD_rel (okO_rel hs.tm ho2 hgy) hyd
    have hin := get?_mem hq
    obtain ⟨hpos, hp, hmine⟩ := mem.row i sz es hin
    have hel : es[k]? = some (es.getD k []) := by simp [List.getD, List.getElem?_eq_getElem hk]
    generalize es.getD k [] = ek at *
    have hj : ek[o]? = some (.own s ys) := by rw [← hcell]; simp [List.getD, List.getElem?_eq_getElem hoff]
    obtain ⟨sub, s1, s2, s3, s4, s5⟩ := hp.nest hel hj mem.lt (fun g hg => mem.sr i _ g hin hg)
    have hin2 : ∀ g, pblk sub g → pblk (M.ρ i) g := fun g hg => .inr (s4 g hg)
    have hany : ∀ g, Any [pblk sub, fun _ => False] g ↔ pblk sub g := fun g => by simp [Any]
    refine (hsound [.own s ys, .d d] hpre w M.S [a.eval o1, a.eval o2] [pblk sub, fun _ => False] mem.gl mem.lt (fun g hg => s3.lt ((hany g).1 hg)) ⟨fun g hg => mem.sr i _ g hin (hin2 g hg), fun g _ q hq => by simp at hq; subst hq; exact fun h => h, fun _ h => h.elim, fun _ h => h.elim, trivial⟩
      (.cons ⟨s2, sub, rx.1.trans s1.symm, s3, fun g => Iff.rfl⟩ (.cons ⟨ry, fun _ h => h⟩ .nil))).mono ?_
    rintro e w' ⟨r', o', hro, v, S', rfs, fps', rfl, g1, g2, g4, g5, g6, g7, g8⟩
    obtain ⟨rfl, rfl⟩ := (Spec.may_none hal).1 hro
    show K v w'
    rw [hout] at g2
    cases g2 with
    | @cons _ _ fp1 _ _ _ h1 h2 =>
    obtain ⟨hs', sub', hv', hp', hfp'⟩ := h1
    have hZ : ∀ g, pblk sub g ↔ Any [pblk sub, fun _ => False] g := fun g => (hany g).symm
    have hfr : Fr (pblk sub) w.heap.size w w' := by
      have : pblk sub = Any [pblk sub, fun _ => False] := funext fun g => propext (hZ g)
      rw [this]; exact g8
    obtain ⟨R', r1, r2, r3⟩ := s5 w' sub' s' ys' hfr (hv'.symm.trans (rx.1.trans s1.symm)) hs' (hp'.fl hfl.1) (fun g hg => ((g7 g (Any.right ⟨fp1, by simp, (hfp' g).2 hg⟩)).1).imp id (hany g).1)
    have hs2 : Sim X n B w0 { σ.map (Q.killL [i]) with rw := upd i (sz, es.set k (ek.set o (.own s' ys'))) σ.rw } a w' { M with ρ := (M.nr i R').ρ } := by
      refine lend_sim hs hfr (fun g hg => ⟨i, _, by simp, hin, hin2 g hg⟩) (fun j hj => by simp at hj; simp [Gh.nr, hj]) (fun j => ?_) (fun j r hm hj => ?_) (fun j sz' es' hj hm => ?_) (fun i1 r1 i2 r2 g h1 h2 hne => ?_)
      · by_cases hj : j = i
        · subst hj; simp [Gh.nr, r1]
        · simp [Gh.nr, hj]
      · rcases upd_mem hm with ⟨e, _⟩ | ⟨_, h⟩
        · simp [e] at hj
        · exact h
      · simp at hj
        subst hj
        rcases upd_mem hm with ⟨_, e⟩ | ⟨e, _⟩
        · cases e
          simp only [Gh.nr, if_true]
          exact ⟨hpos, r2, fun g hg => (r3 g hg).imp id (fun h => ⟨j, _, by simp, hin, h⟩)⟩
        · exact absurd rfl e
      · simp at h1 h2; exact absurd (h1.trans h2.symm) hne
    exact hK v w' _ (hs2.put hd (Up.refl hs2.mem.lt) (fun _ _ h => h.elim) hs2.mem (flatP_rel (M := { M with S := S' }) (M' := { M with ρ := (M.nr i R').ρ }) hfl.2 (retP_rel hret g1)))
  · rename_i g qs e1
    split at he
    rotate_left
    · cases he
    rename_i ps hps
    split at he
    rotate_left
    · cases he
    rename_i ps' r hout hret
    split at he
    rotate_left
    · cases he
    rename_i hfl
    simp only [Option.map_eq_some_iff, Prod.mk.injEq] at he
    obtain ⟨rw', hput, rfl, rfl⟩ := he
    obtain ⟨hg, hgy, hpre⟩ := hvc
    refine ⟨hc, fun K E hK => ?_⟩
    have rx := okO_rel hs.tm ho1 (by rw [e1]; exact hg)
    rw [e1] at rx
    have ry := toD_rel (okO_rel hs.tm ho2 hgy) hyd
    obtain ⟨us, hus, hul, huq⟩ : RelA w M qs _ := rx
    have huq' : ∀ (i : Nat) q, qs[i]? = some q → ∃ u, us.toList[i]? = some u ∧ u.oneCell' = true ∧ RelQ w M q u := fun i q hi => by simpa using huq i q hi
    obtain ⟨fs, f1, f2, f3, f4⟩ := agPts_rel mem (us := us.toList) hps (by simpa using hul) huq' hfl.1
    have hany : ∀ g, Any [Any fs, fun _ => False] g ↔ Any fs g := fun g => by
      constructor
      · rintro ⟨p, hp, hg⟩
        simp only [List.mem_cons, List.not_mem_nil, or_false] at hp
        rcases hp with rfl | rfl
        · exact hg
        · exact hg.elim
      · exact fun h => ⟨Any fs, by simp, h⟩
    have hown : ∀ g, Any fs g → ∃ i r, i ∈ agOwn qs ∧ (i, r) ∈ σ.rw ∧ pblk (M.ρ i) g := fun g hg => by
      obtain ⟨i, hi, hp⟩ := (f3 g).1 hg
      obtain ⟨r, hr⟩ := f4 i hi
      exact ⟨i, r, hi, hr, hp⟩
    have hlt : ∀ g, Any fs g → g < w.heap.size := fun g hg => by
      obtain ⟨i, ⟨sz, es⟩, _, hi, hp⟩ := hown g hg
      exact (mem.row i sz es hi).2.1.lt hp
    refine (hsound [.ag ps, .d d] hpre w M.S [a.eval o1, a.eval o2] [Any fs, fun _ => False] mem.gl mem.lt (fun g hg => hlt g ((hany g).1 hg)) ⟨fun g hg => by
        obtain ⟨i, r, _, hi, hp⟩ := hown g hg
        exact mem.sr i r g hi hp, fun g _ q hq => by simp at hq; subst hq; exact fun h => h, fun _ h => h.elim, fun _ h => h.elim, trivial⟩
      (.cons ⟨us.toList, fs, by rw [hus], f1, f2, fun g => Iff.rfl⟩ (.cons ⟨ry, fun _ h => h⟩ .nil))).mono ?_
    rintro e w' ⟨r', o', hro, v, S', rfs, fps', rfl, g1, g2, g4, g5, g6, g7, g8⟩
    obtain ⟨rfl, rfl⟩ := (Spec.may_none hal).1 hro
    show K v w'
    rw [hout] at g2
    cases g2 with
    | @cons _ _ fp1 _ _ _ h1 h2 =>
    obtain ⟨us', fs', hus', k1, k2, k3⟩ := h1
    have hue : us' = us.toList := by
      rw [hus] at hus'
      injection hus' with h
      rw [h]
    subst hue
    obtain ⟨ρ', i1, i2, i3, i4, i5⟩ := agPut_rel (M := M) hput huq' k1 k2 hfl.1
    have hfr : Fr (Any fs) w.heap.size w w' := by
      have : Any fs = Any [Any fs, fun _ => False] := funext fun g => propext (hany g).symm
      rw [this]; exact g8
    have hs2 := lend_sim hs hfr hown i1 i2 i3 (fun j sz es hj hm => by
      obtain ⟨a1, a2, a3⟩ := i4 j sz es hj hm
      refine ⟨a1, a2, fun g hg => ?_⟩
      rcases (g7 g (Any.right ⟨fp1, by simp, (k3 g).2 (a3 g hg)⟩)).1 with h | h
      · exact .inl h
      · exact .inr (hown g ((hany g).1 h))) i5
    exact hK v w' _ (hs2.put hd (Up.refl hs2.mem.lt) (fun _ _ h => h.elim) hs2.mem (flatP_rel (M := { M with S := S' }) (M' := { M with ρ := ρ' }) hfl.2 (retP_rel hret g1)))
  · cases he
end
end Go.Proofs.Pw
/- One operation of the small code, and a region in its order. -/
namespace Go.Proofs.Pw
open Go.RowKit
set_option linter.unusedSectionVars false
variable [Globs]
section
variable {P : Program} {Γ : FuncId → Option Spec} {σ σ' : St} {a : Act} {w w' : World} {M M' : Gh} {X : Nat → Prop} {B n : Nat} {w0 : W0} {ops : Array Oper} {o : Oper} {x : XOp}

def isEff : XK → Bool
  | .st .. => true
  | .mkf .. => true
  | .box .. => true
  | .alloc .. => true
  | .app .. => true
  | .mk .. => true
  | .clr .. => true
  | .apn .. => true
  | .cpy .. => true
  | .bslx .. => true
  | .stx .. => true
  | .appx .. => true
  | .ldx .. => true
  | _ => false
def isSt : XK → Bool
  | .st .. => true
  | .stx .. => true
  | _ => false
def okGd (ops : Array Oper) : Option (Nat × Bool) → Option (Nat × Bool) → Bool
  | none, none => true
  | some (j, wt), some (t, wt') => wt == wt' && ((ops[j]?).bind (·.dst) == some t)
  | _, _ => false
def okOp (P : Program) (n : Nat) (ops : Array Oper) (o : Oper) (x : XOp) : Bool :=
  o.dst == x.dst && (match o.dst with | some d => decide (d < n) | none => true) && okGd ops o.guard x.g &&
  (bif isEff x.op then chkE P o.op x.op && (bif isSt x.op then o.dst.isNone else true) else chkM P o.op x.op)

theorem okOp_dst (h : okOp P n ops o x = true) : o.dst = x.dst ∧ ∀ d, o.dst = some d → d < n := by
  simp only [okOp, Bool.and_eq_true, beq_iff_eq] at h
  refine ⟨h.1.1.1, fun d hd => ?_⟩
  have := h.1.1.2
  rw [hd] at this
  simpa using this
theorem okOp_gd (h : okOp P n ops o x = true) : okGd ops o.guard x.g = true := by
  simp only [okOp, Bool.and_eq_true] at h; exact h.1.2
theorem okOp_eff (h : okOp P n ops o x = true) (he : isEff x.op = true) : chkE P o.op x.op = true ∧ ∀ y z ag, x.op = .st y z ag ∨ x.op = .stx y z ag → o.dst = none := by
  simp only [okOp, Bool.and_eq_true, he, cond_true] at h
  refine ⟨h.2.1, fun y z ag hx => ?_⟩
  have := h.2.2
  rcases hx with hx | hx <;> rw [hx] at this <;> simpa [isSt] using this
theorem okOp_mono (h : okOp P n ops o x = true) (he : isEff x.op = false) : chkM P o.op x.op = true := by
  simp only [okOp, Bool.and_eq_true, he, cond_false] at h; exact h.2
theorem eval_eff {k : XK} {r : Prop × PV} (h : evalK Γ σ k = some r) : isEff k = false := by
  cases k <;> first | rfl | (simp [evalK] at h)

theorem wanted_none (h : okGd ops o.guard none = true) (ts : Array Value) : Region.wanted o (yielded ops ts) = true := by
  cases hg : o.guard with
  | none => simp [Region.wanted, hg]
  | some _ => rw [hg] at h; simp [okGd] at h
theorem wanted_some {t : Nat} {want g b : Bool} (h : okGd ops o.guard (some (t, want)) = true) (ht : ∀ t p, (t, p) ∈ σ.tm → RelV w M p (a.tmps.getD t undef)) (hu : (get (.q .no) t σ.tm).un = (g, .q (.c (.bool b)))) :
    Region.wanted o (yielded ops a.tmps) = (g && (b == want)) := by
  cases hg : o.guard with
  | none => rw [hg] at h; simp [okGd] at h
  | some jw =>
    obtain ⟨j, wt⟩ := jw
    rw [hg] at h
    simp only [okGd, Bool.and_eq_true, beq_iff_eq] at h
    obtain ⟨rfl, hj⟩ := h
    simp only [Region.wanted, hg, yielded, hj, Option.bind_some]
    have hl := look_rel ht t
    cases g with
    | true =>
      have := un_rel hl (by rw [hu])
      rw [hu] at this
      have hb := relC_bool this
      rw [Array.getD_eq_getD_getElem?] at hb
      cases hx : a.tmps[t]? with
      | none => rw [hx] at hb; simp [undef] at hb
      | some v =>
        rw [hx] at hb
        simp only [Option.getD_some] at hb
        subst hb
        cases b <;> cases wt <;> rfl
    | false =>
      have := un_false hl (by rw [hu])
      rw [Array.getD_eq_getD_getElem?] at this
      cases hx : a.tmps[t]? with
      | none => rfl
      | some v =>
        rw [hx] at this
        simp only [Option.getD_some] at this
        subst this
        rfl

theorem mono_step (G : GOK P Γ) (hok : okOp P n ops o x = true) {vc : Prop} {p : PV} (he : stepM Γ σ x = some (vc, p)) (hvc : vc)
    (ht : ∀ t p, (t, p) ∈ σ.tm → RelV w M p (a.tmps.getD t undef)) (mem : Mem X B σ.bx σ.rw w M) {K : Act → World → Prop} {E : Exit → Act → World → Prop}
    (hn : ∀ v w' M', Up (fun _ => False) w M w' M' → RelV w' M' p v → K (a.put o.dst v) w') :
    if Region.wanted o (yielded ops a.tmps) then o.wp P a w K E else K (a.put o.dst undef) w := by
  unfold stepM at he
  have hgd := okOp_gd hok
  split at he
  · rename_i t want hg
    rw [hg] at hgd
    split at he
    · rename_i g b hu
      simp only [Option.map_eq_some_iff, Prod.mk.injEq] at he
      obtain ⟨⟨vc', p'⟩, hev, rfl, rfl⟩ := he
      rw [wanted_some hgd ht hu]
      split
      · rename_i hw
        exact monoK G (okOp_mono hok (eval_eff hev)) hev (hvc hw) ht mem (fun v w' M' hu hr => hn v w' M' hu ⟨fun _ => hr, fun h => absurd (hw.symm.trans h) (by simp)⟩)
      · rename_i hw
        exact hn undef w M (Up.refl mem.lt) ⟨fun h => absurd h hw, fun _ => rfl⟩
    · cases he
  · rename_i hg
    rw [hg] at hgd
    rw [wanted_none hgd, if_pos rfl]
    exact monoK G (okOp_mono hok (eval_eff he)) he hvc ht mem hn

theorem eff_step (hok : okOp P n ops o x = true) (hg : x.g = none) (hef : isEff x.op = true) (hs : Sim X n B w0 σ a w M) {vc : Prop} (he : effK σ x.dst x.op = some (vc, σ')) (hvc : vc)
    {K : Act → World → Prop} {E : Exit → Act → World → Prop} (hn : ∀ a' w' M', Sim X n B w0 σ' a' w' M' → K a' w') :
    if Region.wanted o (yielded ops a.tmps) then o.wp P a w K E else K (a.put o.dst undef) w := by
  have hgd := okOp_gd hok
  rw [hg] at hgd
  obtain ⟨h1, h2⟩ := okOp_dst hok
  obtain ⟨h3, h4⟩ := okOp_eff hok hef
  rw [wanted_none hgd, if_pos rfl]
  exact effK_wp hs h3 h2 h4 (by rw [h1]; exact he) hvc hn

theorem call_step (G : GOK P Γ) (hok : okOp P n ops o x = true) (hg : x.g = none) (hs : Sim X n B w0 σ a w M) {f : FuncId} {xs : List XO}
    (hx : x.op = .call f xs ∨ (x.op = .callo f xs ∨ ∃ y, x.op = .calli y xs ∧ σ.v y = (true, .q (.c (.fn f))))) {vc : Prop} (he : callE Γ σ x.dst f xs = some (vc, σ')) (hvc : vc)
    {K : Act → World → Prop} {E : Exit → Act → World → Prop} (hn : ∀ a' w' M', Sim X n B w0 σ' a' w' M' → K a' w') :
    if Region.wanted o (yielded ops a.tmps) then o.wp P a w K E else K (a.put o.dst undef) w := by
  have hgd := okOp_gd hok
  rw [hg] at hgd
  obtain ⟨h1, h2⟩ := okOp_dst hok
  rw [wanted_none hgd, if_pos rfl]
  have h3 : ∃ c g, o.op = .call c ∧ c.callee = .value g ∧ a.eval g = .func (.func f) #[] #[] ∧ okOs c.args.toList xs = true := by
    rcases hx with hx | hx | ⟨y, hx, hy⟩
    · have hm := okOp_mono hok (by rw [hx]; rfl)
      rw [hx] at hm
      simp only [chkM] at hm
      split at hm
      · rename_i c ho
        unfold okCall at hm
        split at hm
        · rename_i g hc
          simp only [Bool.and_eq_true, beq_iff_eq] at hm
          obtain ⟨rfl, hos⟩ := hm
          exact ⟨c, _, ho, hc, rfl, hos⟩
        · cases hm
      · cases hm
    · have hm := okOp_mono hok (by rw [hx]; rfl)
      rw [hx] at hm
      simp only [chkM] at hm
      split at hm
      · rename_i c ho
        unfold okCall at hm
        split at hm
        · rename_i g hc
          simp only [Bool.and_eq_true, beq_iff_eq] at hm
          obtain ⟨rfl, hos⟩ := hm
          exact ⟨c, _, ho, hc, rfl, hos⟩
        · cases hm
      · cases hm
    · have hm := okOp_mono hok (by rw [hx]; rfl)
      rw [hx] at hm
      simp only [chkM] at hm
      split at hm
      · rename_i c ho
        unfold okCalli at hm
        split at hm
        · rename_i g hc
          simp only [Bool.and_eq_true] at hm
          have rf := okO_rel (o := g) (x := y) hs.tm hm.1 (by rw [hy])
          rw [hy] at rf
          exact ⟨c, _, ho, hc, relC_fn rf, hm.2⟩
        · cases hm
      · cases hm
  obtain ⟨c, g, ho, hc, hev, hos⟩ := h3
  obtain ⟨k1, k2⟩ := callE_wp G hs (dst := o.dst) h2 (fun σ1 w1 M1 ht _ => okOs_rel ht hos) (by rw [h1]; exact he) hvc
  obtain ⟨dst, op, ty, pos, after, guard⟩ := o
  simp only at ho; subst ho
  exact upon_enter (call_run hc hev k1) (fun E => k2 _ E (fun v w' M' h => hn _ _ _ h))

theorem callL_step (G : GOK P Γ) (hok : okOp P n ops o x = true) (hg : x.g = none) (hs : Sim X n B w0 σ a w M) {f : FuncId} {xs : List XO} (hx : x.op = .callx f xs) {vc : Prop} (he : callL Γ σ x.dst f xs = some (vc, σ')) (hvc : vc)
    {K : Act → World → Prop} {E : Exit → Act → World → Prop} (hn : ∀ a' w' M', Sim X n B w0 σ' a' w' M' → K a' w') :
    if Region.wanted o (yielded ops a.tmps) then o.wp P a w K E else K (a.put o.dst undef) w := by
  have hgd := okOp_gd hok
  rw [hg] at hgd
  obtain ⟨h1, h2⟩ := okOp_dst hok
  rw [wanted_none hgd, if_pos rfl]
  have hm := okOp_mono hok (by rw [hx]; rfl)
  rw [hx] at hm
  simp only [chkM] at hm
  split at hm
  · rename_i c ho
    unfold okCall at hm
    split at hm
    · rename_i g hc
      simp only [Bool.and_eq_true, beq_iff_eq] at hm
      obtain ⟨rfl, hos⟩ := hm
      obtain ⟨k1, k2⟩ := callL_wp G hs (dst := o.dst) h2 hos (by rw [h1]; exact he) hvc
      obtain ⟨dst, op, ty, pos, after, guard⟩ := o
      simp only at ho; subst ho
      exact upon_enter (call_run hc rfl k1) (fun E => k2 _ E (fun v w' M' h => hn _ _ _ h))
    · cases hm
  · cases hm
theorem callM_step (G : GOK P Γ) (hok : okOp P n ops o x = true) (hg : x.g = none) (hs : Sim X n B w0 σ a w M) {f : FuncId} {y z : XO} (hx : x.op = .callm f y z) {vc : Prop} (he : callM Γ σ x.dst f y z = some (vc, σ')) (hvc : vc)
    {K : Act → World → Prop} {E : Exit → Act → World → Prop} (hn : ∀ a' w' M', Sim X n B w0 σ' a' w' M' → K a' w') :
    if Region.wanted o (yielded ops a.tmps) then o.wp P a w K E else K (a.put o.dst undef) w := by
  have hgd := okOp_gd hok
  rw [hg] at hgd
  obtain ⟨h1, h2⟩ := okOp_dst hok
  rw [wanted_none hgd, if_pos rfl]
  have hm := okOp_mono hok (by rw [hx]; rfl)
  rw [hx] at hm
  simp only [chkM] at hm
  split at hm
  · rename_i c ho
    unfold okCall at hm
    split at hm
    · rename_i g hc
      simp only [Bool.and_eq_true, beq_iff_eq] at hm
      obtain ⟨rfl, hos⟩ := hm
      obtain ⟨k1, k2⟩ := callM_wp G hs (dst := o.dst) h2 hos (by rw [h1]; exact he) hvc
      obtain ⟨dst, op, ty, pos, after, guard⟩ := o
      simp only at ho; subst ho
      exact upon_enter (call_run hc rfl k1) (fun E => k2 _ E (fun v w' M' h => hn _ _ _ h))
    · cases hm
  · cases hm
theorem clo_step (G : GOK P Γ) (hok : okOp P n ops o x = true) (hg : x.g = none) (hs : Sim X n B w0 σ a w M) {f : FuncId} {xs : List XO} {cs : List C} {y : XO}
    (hx : x.op = .calli y xs) (hy : σ.v y = (true, .q (.c (.clo f cs)))) {vc : Prop} (he : callE Γ σ x.dst f (xs ++ cs.map fun c => .k c.toQ) = some (vc, σ')) (hvc : vc)
    {K : Act → World → Prop} {E : Exit → Act → World → Prop} (hn : ∀ a' w' M', Sim X n B w0 σ' a' w' M' → K a' w') :
    if Region.wanted o (yielded ops a.tmps) then o.wp P a w K E else K (a.put o.dst undef) w := by
  have hgd := okOp_gd hok
  rw [hg] at hgd
  obtain ⟨h1, h2⟩ := okOp_dst hok
  rw [wanted_none hgd, if_pos rfl]
  have hm := okOp_mono hok (by rw [hx]; rfl)
  rw [hx] at hm
  simp only [chkM] at hm
  split at hm
  · rename_i c ho
    unfold okCalli at hm
    split at hm
    · rename_i g hc
      simp only [Bool.and_eq_true] at hm
      have rf := okO_rel (o := g) (x := y) hs.tm hm.1 (by rw [hy])
      rw [hy] at rf
      obtain ⟨us, hev, hl, hr⟩ := relC_clo rf
      obtain ⟨k1, k2⟩ := callE_wp G hs (dst := o.dst) (us := c.args.toList.map a.eval ++ us) h2 (fun σ1 w1 M1 ht hmo => All2.append (okOs_rel ht hm.2) (caps_rel hl (fun j c hj => by obtain ⟨u, hu, h⟩ := hr j c hj; exact ⟨u, hu, hmo _ _ h⟩))) (by rw [h1]; exact he) hvc
      obtain ⟨dst, op, ty, pos, after, guard⟩ := o
      simp only at ho; subst ho
      exact upon_enter (clo_run hc hev k1) (fun E => k2 _ E (fun v w' M' h => hn _ _ _ h))
    · cases hm
  · cases hm

theorem step_wp (G : GOK P Γ) (hok : okOp P n ops o x = true) (hs : Sim X n B w0 σ a w M) {pre : Bool} {vc : Prop} (he : stepX Γ pre σ x = some (vc, σ')) (hvc : vc)
    {K : Act → World → Prop} {E : Exit → Act → World → Prop} (hn : ∀ a' w' M', Sim X n B w0 σ' a' w' M' → K a' w') :
    if Region.wanted o (yielded ops a.tmps) then o.wp P a w K E else K (a.put o.dst undef) w := by
  obtain ⟨h1, h2⟩ := okOp_dst hok
  have viaM : ∀ {p}, stepM Γ σ x = some (vc, p) → σ' = σ.put x.dst p → if Region.wanted o (yielded ops a.tmps) then o.wp P a w K E else K (a.put o.dst undef) w := fun {p} hm hσ => by
    subst hσ
    refine mono_step G hok hm hvc hs.tm hs.mem (fun v w' M' hu hr => hn _ _ M' ?_)
    rw [← h1]
    exact hs.put h2 hu (fun _ _ h => h.elim) (hs.mem.up hu (fun _ _ _ h => h) (fun _ _ _ _ _ h => h)) hr
  unfold stepX at he
  split at he
  · simp only [Option.map_eq_some_iff, Prod.mk.injEq] at he
    obtain ⟨⟨vc', p⟩, hm, rfl, rfl⟩ := he
    exact viaM hm rfl
  · rename_i hg
    split at he
    · rename_i hx; exact eff_step hok hg (by rw [hx]; rfl) hs (by rw [hx]; exact he) hvc hn
    · rename_i hx; exact eff_step hok hg (by rw [hx]; rfl) hs (by rw [hx]; exact he) hvc hn
    · rename_i hx; exact eff_step hok hg (by rw [hx]; rfl) hs (by rw [hx]; exact he) hvc hn
    · rename_i hx; exact eff_step hok hg (by rw [hx]; rfl) hs (by rw [hx]; exact he) hvc hn
    · rename_i hx; exact eff_step hok hg (by rw [hx]; rfl) hs (by rw [hx]; exact he) hvc hn
    · rename_i hx; exact eff_step hok hg (by rw [hx]; rfl) hs (by rw [hx]; exact he) hvc hn
    · rename_i hx; exact eff_step hok hg (by rw [hx]; rfl) hs (by rw [hx]; exact he) hvc hn
    · rename_i hx; exact eff_step hok hg (by rw [hx]; rfl) hs (by rw [hx]; exact he) hvc hn
    · rename_i hx; exact eff_step hok hg (by rw [hx]; rfl) hs (by rw [hx]; exact he) hvc hn
    · rename_i hx; exact eff_step hok hg (by rw [hx]; rfl) hs (by rw [hx]; exact he) hvc hn
    · rename_i hx; exact eff_step hok hg (by rw [hx]; rfl) hs (by rw [hx]; exact he) hvc hn
    · rename_i hx; exact eff_step hok hg (by rw [hx]; rfl) hs (by rw [hx]; exact he) hvc hn
    · rename_i hx; exact eff_step hok hg (by rw [hx]; rfl) hs (by rw [hx]; exact he) hvc hn
    · rename_i hx; exact callL_step G hok hg hs hx he hvc hn
    · rename_i hx; exact callM_step G hok hg hs hx he hvc hn
    · rename_i hx; exact call_step G hok hg hs (.inl hx) he hvc hn
    · rename_i hx; exact call_step G hok hg hs (.inr (.inl hx)) he hvc hn
    · rename_i f' xs hx
      split at he
      · rename_i g f e1
        simp only [Option.map_eq_some_iff, Prod.mk.injEq] at he
        obtain ⟨⟨vc', σ2⟩, hc, rfl, rfl⟩ := he
        exact call_step G hok hg hs (.inr (.inr ⟨f', hx, by rw [e1, hvc.1]⟩)) hc hvc.2 hn
      · rename_i g f cs e1
        simp only [Option.map_eq_some_iff, Prod.mk.injEq] at he
        obtain ⟨⟨vc', σ2⟩, hc, rfl, rfl⟩ := he
        exact clo_step G hok hg hs hx (by rw [e1, hvc.1]) hc hvc.2 hn
      · cases he
    · simp only [Option.map_eq_some_iff, Prod.mk.injEq] at he
      obtain ⟨⟨vc', p⟩, hm, rfl, rfl⟩ := he
      exact viaM (by unfold stepM; rw [hg]; exact hm) rfl

theorem callr_step (G : GOK P Γ) (hok : okOp P n ops o x = true) (hg : x.g = none) (hs : Sim X n B w0 σ a w M) {f : FuncId} {xs : List XO} (hx : x.op = .callr f xs) {K' : St → Prop} (he : callR Γ σ x.dst f xs K')
    {K : Act → World → Prop} {E : Exit → Act → World → Prop} (hn : ∀ σ' a' w' M', K' σ' → Sim X n B w0 σ' a' w' M' → K a' w') :
    if Region.wanted o (yielded ops a.tmps) then o.wp P a w K E else K (a.put o.dst undef) w := by
  have hgd := okOp_gd hok
  rw [hg] at hgd
  obtain ⟨h1, h2⟩ := okOp_dst hok
  rw [wanted_none hgd, if_pos rfl]
  have hm := okOp_mono hok (by rw [hx]; rfl)
  rw [hx] at hm
  simp only [chkM] at hm
  split at hm
  · rename_i c ho
    unfold okCall at hm
    split at hm
    · rename_i g hc
      simp only [Bool.and_eq_true, beq_iff_eq] at hm
      obtain ⟨rfl, hos⟩ := hm
      obtain ⟨k1, k2⟩ := callR_wp G hs (dst := o.dst) h2 (fun σ1 w1 M1 ht _ => okOs_rel ht hos) (by rw [h1]; exact he)
      obtain ⟨dst, op, ty, pos, after, guard⟩ := o
      simp only at ho; subst ho
      exact upon_enter (call_run hc rfl k1) (fun E => k2 _ E (fun σ' v w' M' h h' => hn σ' _ _ _ h h'))
    · cases hm
  · cases hm
theorem callr_gd (G : GOK P Γ) (hok : okOp P n ops o x = true) {t : Nat} {want b : Bool} (hg : x.g = some (t, want)) (hu : (get (.q .no) t σ.tm).un = (true, .q (.c (.bool b)))) (hs : Sim X n B w0 σ a w M) {f : FuncId} {xs : List XO} (hx : x.op = .callr f xs) {K' : St → Prop}
    (he : (b == want) = true → callR Γ σ x.dst f xs K') (he' : (b == want) = false → K' (σ.put x.dst (.gd false (.q (.c (.int .i64 0))))))
    {K : Act → World → Prop} {E : Exit → Act → World → Prop} (hn : ∀ σ' a' w' M', K' σ' → Sim X n B w0 σ' a' w' M' → K a' w') :
    if Region.wanted o (yielded ops a.tmps) then o.wp P a w K E else K (a.put o.dst undef) w := by
  have hgd := okOp_gd hok
  rw [hg] at hgd
  obtain ⟨h1, h2⟩ := okOp_dst hok
  rw [wanted_some hgd hs.tm hu, Bool.true_and]
  split
  · rename_i hb
    have hm := okOp_mono hok (by rw [hx]; rfl)
    rw [hx] at hm
    simp only [chkM] at hm
    split at hm
    · rename_i c ho
      unfold okCall at hm
      split at hm
      · rename_i g hc
        simp only [Bool.and_eq_true, beq_iff_eq] at hm
        obtain ⟨rfl, hos⟩ := hm
        obtain ⟨k1, k2⟩ := callR_wp G hs (dst := o.dst) h2 (fun σ1 w1 M1 ht _ => okOs_rel ht hos) (by rw [h1]; exact he hb)
        obtain ⟨dst, op, ty, pos, after, guard⟩ := o
        simp only at ho; subst ho
        exact upon_enter (call_run hc rfl k1) (fun E => k2 _ E (fun σ' v w' M' h h' => hn σ' _ _ _ h h'))
      · cases hm
    · cases hm
  · rename_i hb
    refine hn _ _ w M (he' (by simpa using hb)) ?_
    rw [← h1]
    exact hs.put h2 (Up.refl hs.mem.lt) (fun _ _ h => h.elim) hs.mem ⟨fun h => by simp at h, fun _ => rfl⟩
theorem PV.mapmap {f g : Q → Q} : ∀ (p : PV), (p.map f).map g = p.map (g ∘ f)
  | .q x => rfl
  | .agg xs => by simp [PV.map]
  | .tup xs => by
    simp only [PV.map, List.map_map]
    congr 1
    refine List.map_congr_left (fun x _ => ?_)
    cases x <;> simp [SV.map]
  | .gd b p => by simp only [PV.map]; rw [PV.mapmap p]
theorem capr_step (hok : okOp P n ops o x = true) (hg : x.g = none) (hs : Sim X n B w0 σ a w M) {y : XO} (hx : x.op = .capr y) {K' : St → Prop} (he : capR σ x.dst y K')
    {K : Act → World → Prop} {E : Exit → Act → World → Prop} (hn : ∀ σ' a' w' M', K' σ' → Sim X n B w0 σ' a' w' M' → K a' w') :
    if Region.wanted o (yielded ops a.tmps) then o.wp P a w K E else K (a.put o.dst undef) w := by
  have hgd := okOp_gd hok
  rw [hg] at hgd
  obtain ⟨h1, h2⟩ := okOp_dst hok
  rw [wanted_none hgd, if_pos rfl]
  have hm := okOp_mono hok (by rw [hx]; rfl)
  rw [hx] at hm
  simp only [chkM] at hm
  unfold chkK at hm
  split at hm <;> try (rename_i hh; cases hh; done)
  all_goals first | (cases hm; done) | skip
  rename_i c y' ho hy'
  cases hy'
  unfold okCap at hm
  split at hm
  · rename_i x0 t hcb hca hct
    simp only [Bool.and_eq_true] at hm
    obtain ⟨hx0, hm⟩ := hm
    split at hm
    · rename_i e ht
      unfold capR at he
      split at he
      · rename_i g r d e1 e2
        split at he
        · rename_i sz es hq
          obtain ⟨hg1, hdr, hK⟩ := he
          have rx := okO_rel (o := x0) (x := y) hs.tm hx0 (by rw [e1]; exact hg1)
          rw [e1] at rx
          have hin := get?_mem hq
          obtain ⟨A, c1, hρ, hcap⟩ := mem_rowc hs.mem hq
          obtain ⟨h0, hp, _⟩ := hs.mem.row r _ es hin
          have hc63 : (c1 : Int) ≤ 9223372036854775807 := by
            rcases hp.1 with ⟨e', us, h10, _⟩ | ⟨_, A2, h10⟩ <;> rw [hρ] at h10
            · rcases h10.2 with ⟨h11, _⟩ | ⟨g1, cap, cur, h11, _, h12, h13, h14, _⟩
              · injection h11 with _ _ h15; omega
              · injection h11 with _ _ h15; simp only [maxLen] at h14; omega
            · injection h10 with _ _ h15; omega
          have hd : o.dst = some d := h1.trans e2
          have hdn := h2 d hd
          have hs2 := hs.rowMove (d := d) hin (.inl hdn) h0 hp (fun _ h => h)
          have hv := rx.1
          rw [hρ] at hv
          have hq2 : ∀ q v, RelQ w M q v → RelQ w (M.nr d (M.ρ r)) ((q.killO d).toVc r d sz es.length c1) v := fun q v h => by
            have hr2 := kill_q d q v h
            cases q with
            | own i =>
              by_cases hi : i = d
              · simp [Q.killO, hi, Q.toVc, RelQ]
              · by_cases hir : i = r
                · simp only [Q.killO, if_neg hi, Q.toVc, if_pos hir]
                  have := h.1
                  rw [hir, hρ] at this
                  exact ⟨A, es.length, A, by simp [Gh.nr, hρ], by omega, by rw [this]; rfl, fun _ => by cases A <;> simp [Addr.add]⟩
                · simp only [Q.killO, if_neg hi, Q.toVc, if_neg hir, RelQ, Gh.nr]; exact h
            | rp i _ _ _ => by_cases hi : i = d <;> by_cases hir : i = r <;> simp_all [Q.killO, Q.toVc, RelQ, Gh.nr]
            | vw i _ _ _ => by_cases hi : i = d <;> by_cases hir : i = r <;> simp_all [Q.killO, Q.toVc, RelQ, Gh.nr]
            | vc i _ _ _ _ => by_cases hi : i = d <;> by_cases hir : i = r <;> simp_all [Q.killO, Q.toVc, RelQ, Gh.nr]
            | nr i _ => by_cases hi : i = d <;> by_cases hir : i = r <;> simp_all [Q.killO, Q.toVc, RelQ, Gh.nr]
            | np i _ _ _ _ => by_cases hi : i = d <;> by_cases hir : i = r <;> simp_all [Q.killO, Q.toVc, RelQ, Gh.nr]
            | _ => exact h
          have hrun : (execOp a.eval o).run P w = .ok (.value (.int .i64 c1)) w := by
            obtain ⟨dst, op, ty, pos, after, guard⟩ := o
            simp only at ho; subst ho
            obtain ⟨callee, args, argTypes⟩ := c
            simp only at hcb hca hct
            subst hcb
            have ha : args = #[x0] := by rw [← Array.toArray_toList (xs := args), hca]
            have htt : argTypes = #[t] := by rw [← Array.toArray_toList (xs := argTypes), hct]
            subst ha htt
            simp [execOp, resolve, invoke, builtin, Builtin.cap_, run_underlying ht, hv, goInt]
          refine upon_value hrun (hn _ _ _ (M.nr d (M.ρ r)) (hK c1 hcap hc63) ?_)
          rw [hd]
          refine ⟨by simpa [Act.put] using hs.size, hs.defs, fun t' p' h => ?_, hs2.mem, hs2.fr, hs2.hB, hs2.sS, hs2.sβ, hs2.sρ⟩
          have hdn' : d < a.tmps.size := by rw [hs.size]; exact hdn
          rcases upd_mem h with ⟨rfl, rfl⟩ | ⟨hne, h⟩
          · have : (a.put (some t') (.int .i64 c1)).tmps.getD t' undef = .int .i64 c1 := by simp [Act.put, Array.getD, hdn']
            rw [this]; exact Rep.int _ _
          · simp only [St.map, List.map_map, List.mem_map, Prod.mk.injEq] at h
            obtain ⟨⟨t2, p0⟩, h3, rfl, rfl⟩ := h
            have he : (a.put (some d) (.int .i64 c1)).tmps.getD t2 undef = a.tmps.getD t2 undef := by
              simp only [Act.put, Array.getD_eq_getD_getElem?, Array.getElem?_setIfInBounds]
              rw [if_neg (fun e => hne e.symm)]
            show RelV w _ _ ((a.put (some d) _).tmps.getD t2 undef)
            rw [he]
            have := map_v hq2 (hs.tm _ _ h3)
            rw [show (fun q => (Q.killO d q).toVc r d sz es.length c1) = (Q.toVc r d sz es.length c1 ∘ Q.killO d) from rfl, ← PV.mapmap] at this
            exact this
        · exact he.elim
      · exact he.elim
    · cases hm
  · cases hm
theorem stepR_wp (G : GOK P Γ) (hok : okOp P n ops o x = true) (hs : Sim X n B w0 σ a w M) {k : Nat} {K' : St → Prop} (he : stepR Γ k σ x K')
    {K : Act → World → Prop} {E : Exit → Act → World → Prop} (hn : ∀ σ' a' w' M', K' σ' → Sim X n B w0 σ' a' w' M' → K a' w') :
    if Region.wanted o (yielded ops a.tmps) then o.wp P a w K E else K (a.put o.dst undef) w := by
  unfold stepR at he
  split at he
  · rename_i f ys hx
    split at he
    · rename_i hg
      exact callr_step G hok hg hs hx he hn
    · rename_i hg
      split at he
      · rename_i b hu
        exact callr_gd G hok hg hu hs hx he.1 he.2 hn
      · exact he.elim
    · exact he.elim
  · rename_i y hx
    split at he
    · rename_i hg
      exact capr_step hok hg hs hx he hn
    · exact he.elim
  · split at he
    · rename_i vc σ' hst
      exact step_wp G hok hs hst he.1 (fun a' w' M' h => hn σ' a' w' M' (he.2 he.1) h)
    · exact he.elim
def okOps (P : Program) (n : Nat) (ops : Array Oper) : List Oper → List XOp → Bool
  | [], [] => true
  | o :: os, x :: xs => okOp P n ops o x && okOps P n ops os xs
  | _, _ => false

theorem runX_list (G : GOK P Γ) {E : Exit → Act → World → Prop} {K : St → Prop} (hK : ∀ σ' a' w' M', K σ' → Sim X n B w0 σ' a' w' M' → E .normal a' w') : ∀ {l : List Oper} {xs : List XOp} {σ : St} {a : Act} {w : World} {M : Gh} {k : Nat},
    okOps P n ops l xs = true → Sim X n B w0 σ a w M → runX Γ k xs σ K → wpList P ops E l a w := by
  intro l
  induction l with
  | nil =>
    intro xs σ a w M k hok hs hr
    cases xs with
    | nil => exact wpList_nil (hK σ a w M hr hs)
    | cons _ _ => simp [okOps] at hok
  | cons o l ih =>
    intro xs σ a w M k hok hs hr
    cases xs with
    | nil => simp [okOps] at hok
    | cons x xs =>
      simp only [okOps, Bool.and_eq_true] at hok
      simp only [runX] at hr
      exact wpList_step fun K hK => stepR_wp G hok.1 hs hr (fun σ' a' w' M' hk h => hK _ _ (ih hok.2 h hk))
end
end Go.Proofs.Pw
/- Regions whose order is open: what the pure run tells of each operation. -/
namespace Go.Proofs.Pw
open Go.RowKit
set_option linter.unusedSectionVars false
variable [Globs]
section
variable {P : Program} {Γ : FuncId → Option Spec} {σ σ' : St}

/-- The last value of t among the listed operations. -/
def vl (d0 : PV) (t : Nat) (L : Nat → Bool) : Nat → List (Option Nat × PV) → PV
  | _, [] => d0
  | i, (d, p) :: r => vl (if L i && d == some t then p else d0) t L (i + 1) r
theorem vl_congr {t : Nat} {L L' : Nat → Bool} : ∀ {r : List (Option Nat × PV)} {i : Nat} {d0 : PV}, (∀ j p, r[j]? = some (some t, p) → L (i + j) = L' (i + j)) → vl d0 t L i r = vl d0 t L' i r := by
  intro r
  induction r with
  | nil => intro i d0 _; rfl
  | cons x r ih =>
    obtain ⟨d, p⟩ := x
    intro i d0 h
    simp only [vl]
    have e : (if (L i && d == some t) = true then p else d0) = (if (L' i && d == some t) = true then p else d0) := by
      by_cases hd : d = some t
      · subst hd
        have := h 0 p (by simp)
        simp only [Nat.add_zero] at this
        rw [this]
      · have : (d == some t) = false := by simpa using hd
        simp [this]
    rw [e]
    exact ih (fun j p' hj => by have := h (j + 1) p' (by simpa using hj); rwa [show i + (j + 1) = i + 1 + j by omega] at this)
theorem vl_none {t : Nat} {L : Nat → Bool} : ∀ {r : List (Option Nat × PV)} {i : Nat} {d0 : PV}, (∀ j p, r[j]? = some (some t, p) → L (i + j) = false) → vl d0 t L i r = d0 := by
  intro r
  induction r with
  | nil => intro i d0 _; rfl
  | cons x r ih =>
    obtain ⟨d, p⟩ := x
    intro i d0 h
    simp only [vl]
    rw [ih (fun j p' hj => by have := h (j + 1) p' (by simpa using hj); rwa [show i + (j + 1) = i + 1 + j by omega] at this)]
    by_cases hd : d = some t
    · subst hd
      have := h 0 p (by simp)
      simp only [Nat.add_zero] at this
      simp [this]
    · have : (d == some t) = false := by simpa using hd
      simp [this]
theorem vl_last {t : Nat} {L : Nat → Bool} {p : PV} : ∀ {r : List (Option Nat × PV)} {i j : Nat} {d0 : PV}, r[j]? = some (some t, p) → L (i + j) = true → (∀ j' p', j < j' → r[j']? = some (some t, p') → L (i + j') = false) → vl d0 t L i r = p := by
  intro r
  induction r with
  | nil => intro i j d0 h; simp at h
  | cons x r ih =>
    obtain ⟨d, q⟩ := x
    intro i j d0 h hl hn
    simp only [vl]
    cases j with
    | zero =>
      simp only [List.getElem?_cons_zero, Option.some.injEq, Prod.mk.injEq] at h
      obtain ⟨rfl, rfl⟩ := h
      simp only [Nat.add_zero] at hl
      rw [vl_none (fun j p' hj => by have := hn (j + 1) p' (by omega) (by simpa using hj); rwa [show i + (j + 1) = i + 1 + j by omega] at this)]
      simp [hl]
    | succ j =>
      exact ih (by simpa using h) (by rwa [show i + (j + 1) = i + 1 + j by omega] at hl) (fun j' p' hj hp => by have := hn (j' + 1) p' (by omega) (by simpa using hp); rwa [show i + (j' + 1) = i + 1 + j' by omega] at this)

theorem get_del {α : Type} {d : α} {t u : Nat} (h : u ≠ t) : ∀ {l : List (Nat × α)}, get d u (del t l) = get d u l := by
  intro l
  induction l with
  | nil => rfl
  | cons x l ih =>
    obtain ⟨i, y⟩ := x
    simp only [del]
    split
    · rename_i hi; simp only [get]; rw [if_neg (by omega)]; exact ih
    · simp only [get]; rw [ih]
theorem get_upd {α : Type} {d y : α} {t u : Nat} : ∀ {l : List (Nat × α)}, get d u (upd t y l) = if t = u then y else get d u l := by
  intro l
  induction l with
  | nil => simp only [upd, get]
  | cons x l ih =>
    obtain ⟨i, z⟩ := x
    simp only [upd]
    split
    · rename_i hi
      subst hi
      simp only [get]
      split
      · rfl
      · rename_i hne; exact get_del (fun e => hne e.symm)
    · rename_i hi
      simp only [get, ih]
      by_cases h1 : i = u <;> by_cases h2 : t = u <;> simp [h1, h2]
      omega
theorem get_put {dst : Option Nat} {p : PV} {t : Nat} : get (.q .no) t (σ.put dst p).tm = if dst = some t then p else get (.q .no) t σ.tm := by
  cases dst with
  | none => simp [St.put]
  | some d => simp only [St.put, get_upd, Option.some.injEq]
theorem put_bx {dst : Option Nat} {p : PV} : (σ.put dst p).bx = σ.bx ∧ (σ.put dst p).rw = σ.rw := by cases dst <;> exact ⟨rfl, rfl⟩
theorem put_mem {dst : Option Nat} {p q : PV} {t : Nat} (h : (t, q) ∈ (σ.put dst p).tm) : (dst = some t ∧ q = p) ∨ (dst ≠ some t ∧ (t, q) ∈ σ.tm) := by
  cases dst with
  | none => exact .inr ⟨by simp, h⟩
  | some d =>
    rcases upd_mem h with ⟨rfl, rfl⟩ | ⟨h1, h2⟩
    · exact .inl ⟨rfl, rfl⟩
    · exact .inr ⟨fun e => h1 (by cases e; rfl), h2⟩

/-- The run in the order of the text. -/
inductive Tr (Γ : FuncId → Option Spec) : St → List XOp → List (Option Nat × PV) → St → Prop
  | nil (σ : St) : Tr Γ σ [] [] σ
  | cons {σ σ' : St} {x : XOp} {xs : List XOp} {tr : List (Option Nat × PV)} {vc : Prop} {p : PV} (h : stepM Γ σ x = some (vc, p)) (hvc : vc) (t : Tr Γ (σ.put x.dst p) xs tr σ') : Tr Γ σ (x :: xs) ((x.dst, p) :: tr) σ'

theorem stepX_pre (x : XOp) : stepX Γ true σ x = (stepM Γ σ x).map fun r => (r.1, σ.put x.dst r.2) := by
  obtain ⟨d, g, op⟩ := x
  cases g with
  | some _ => rfl
  | none => cases op <;> rfl
theorem runX_pre {K : St → Prop} : ∀ {k : Nat} {xs : List XOp} {σ : St}, k ≤ xs.length → runX Γ k xs σ K → ∃ tr σ', Tr Γ σ (xs.take k) tr σ' ∧ runX Γ 0 (xs.drop k) σ' K := by
  intro k
  induction k with
  | zero => intro xs σ _ h; exact ⟨[], σ, by simpa using Tr.nil σ, by simpa using h⟩
  | succ k ih =>
    intro xs σ hl h
    cases xs with
    | nil => simp at hl
    | cons x xs =>
      simp only [runX, stepR, show (k + 1 != 0) = true from by simp, stepX_pre, Nat.add_sub_cancel] at h
      split at h
      · exact h.elim
      · exact h.elim
      split at h
      · rename_i vc σ1 he
        simp only [Option.map_eq_some_iff, Prod.mk.injEq] at he
        obtain ⟨⟨vc', p⟩, hm, rfl, rfl⟩ := he
        obtain ⟨tr, σ', h1, h2⟩ := ih (by simpa using hl) (h.2 h.1)
        exact ⟨_, σ', by simpa using Tr.cons hm h.1 h1, by simpa using h2⟩
      · exact h.elim

theorem Tr.len {xs : List XOp} {tr : List (Option Nat × PV)} (h : Tr Γ σ xs tr σ') : tr.length = xs.length := by
  induction h with
  | nil => rfl
  | cons _ _ _ ih => simp [ih]
theorem Tr.last {xs : List XOp} {tr : List (Option Nat × PV)} (h : Tr Γ σ xs tr σ') : ∀ s, σ'.bx = σ.bx ∧ σ'.rw = σ.rw ∧ ∀ t, get (.q .no) t σ'.tm = vl (get (.q .no) t σ.tm) t (fun _ => true) s tr := by
  induction h with
  | nil => intro s; exact ⟨rfl, rfl, fun t => rfl⟩
  | cons h hvc t ih =>
    intro s
    obtain ⟨h1, h2, h3⟩ := ih (s + 1)
    refine ⟨h1.trans put_bx.1, h2.trans put_bx.2, fun t => ?_⟩
    rw [h3, get_put]
    simp only [vl, Bool.true_and, beq_iff_eq]
theorem Tr.at {xs : List XOp} {tr : List (Option Nat × PV)} (h : Tr Γ σ xs tr σ') : ∀ (s i : Nat) x, xs[i]? = some x → ∃ σi vc p, stepM Γ σi x = some (vc, p) ∧ vc ∧ tr[i]? = some (x.dst, p) ∧ σi.bx = σ.bx ∧ σi.rw = σ.rw ∧
    ∀ t, get (.q .no) t σi.tm = vl (get (.q .no) t σ.tm) t (fun j => decide (j < s + i)) s tr := by
  induction h with
  | nil => intro s i x hx; simp at hx
  | @cons σ σ' x0 xs tr vc p h hvc tt ih =>
    intro s i x hx
    cases i with
    | zero =>
      simp only [List.getElem?_cons_zero, Option.some.injEq] at hx
      subst hx
      exact ⟨σ, vc, p, h, hvc, by simp, rfl, rfl, fun t => by rw [vl_none]; intro j p' _; simp⟩
    | succ i =>
      obtain ⟨σi, vc', p', h1, h2, h3, h4, h5, h6⟩ := ih (s + 1) i x (by simpa using hx)
      refine ⟨σi, vc', p', h1, h2, by simpa using h3, h4.trans put_bx.1, h5.trans put_bx.2, fun t => ?_⟩
      rw [h6, get_put]
      rw [show s + (i + 1) = s + 1 + i from by omega]
      simp only [vl, show (decide (s < s + 1 + i)) = true from by simp; omega, Bool.true_and, beq_iff_eq]
theorem Tr.stale {xs : List XOp} {tr : List (Option Nat × PV)} (h : Tr Γ σ xs tr σ') {t : Nat} {p : PV} (hp : (t, p) ∈ σ'.tm) : p = get (.q .no) t σ'.tm ∨ ((∀ (j : Nat) (p' : PV), tr[j]? ≠ some (some t, p')) ∧ (t, p) ∈ σ.tm) := by
  induction h with
  | nil => exact .inr ⟨by simp, hp⟩
  | @cons σ σ' x0 xs tr vc p0 h hvc tt ih =>
    rcases ih hp with h1 | ⟨h1, h2⟩
    · exact .inl h1
    · rcases put_mem h2 with ⟨h3, rfl⟩ | ⟨h3, h4⟩
      · left
        rw [(tt.last 0).2.2, vl_none (fun j p' hj => absurd hj (h1 j p')), get_put, if_pos h3]
      · refine .inr ⟨fun j p' hj => ?_, h4⟩
        cases j with
        | zero => simp at hj; exact h3 hj.1
        | succ j => exact h1 j p' (by simpa using hj)
end
end Go.Proofs.Pw
/- Regions whose order is open. -/
namespace Go.Proofs.Pw
open Go.RowKit
set_option linter.unusedSectionVars false
variable [Globs]
section
variable {P : Program} {Γ : FuncId → Option Spec} {σ σ' : St} {a : Act} {w w' : World} {M M' : Gh} {X : Nat → Prop} {B n : Nat} {w0 : W0} {ops : Array Oper}

def XO.rd : XO → List Nat
  | .t n => [n]
  | .k _ => []
def oRd : Option XO → List Nat
  | some x => x.rd
  | none => []
def XK.rd : XK → List Nat
  | .mv x => x.rd
  | .pick c a b => c.rd ++ (a.rd ++ b.rd)
  | .bin _ _ x y => x.rd ++ y.rd
  | .not x => x.rd
  | .load x _ => x.rd
  | .fa x _ => x.rd
  | .ia x i _ => x.rd ++ i.rd
  | .idx x i => x.rd ++ i.rd
  | .fld x _ _ => x.rd
  | .ext x _ => x.rd
  | .len x _ => x.rd
  | .call _ xs => xs.flatMap XO.rd
  | .calli f xs => f.rd ++ xs.flatMap XO.rd
  | .callr _ xs => xs.flatMap XO.rd
  | .callo _ xs => xs.flatMap XO.rd
  | .callb _ xs => xs.flatMap XO.rd
  | .mm _ x y => x.rd ++ y.rd
  | .mkf _ x => x.rd
  | .sub x lo hi _ => x.rd ++ (oRd lo ++ oRd hi)
  | .conv _ x => x.rd
  | .build _ ps => ps.flatMap fun p => p.2.1.rd
  | .bsl _ ps => ps.flatMap fun p => p.1.rd
  | .nilc x => x.rd
  | .st x y _ => x.rd ++ y.rd
  | .box x _ => x.rd
  | .alloc _ => []
  | .app x y _ _ ex => x.rd ++ (y.rd ++ ex)
  | .mk x _ _ => x.rd
  | .glb _ => []
  | .isn x => x.rd
  | .cap x => x.rd
  | .clr x _ => x.rd
  | .apn x n _ _ => x.rd ++ n.rd
  | .capr x => x.rd
  | .ovl x y => x.rd ++ y.rd
  | .cpy x y _ => x.rd ++ y.rd
  | .bslx _ ps => ps.flatMap fun p => p.1.rd
  | .stx x y _ => x.rd ++ y.rd
  | .appx x y _ _ => x.rd ++ y.rd
  | .ldx x => x.rd
  | .callx _ xs => xs.flatMap XO.rd
  | .callm _ x y => x.rd ++ y.rd
  | .bts x => x.rd
  | .callw _ xs => xs.flatMap XO.rd
  | .sub3 x y z u _ => x.rd ++ (y.rd ++ (z.rd ++ u.rd))
def XOp.rd (x : XOp) : List Nat := (match x.g with | some (t, _) => [t] | none => []) ++ x.op.rd

/-- Both states tell the same of t. -/
def Sm (σ σ' : St) (l : List Nat) : Prop := ∀ t ∈ l, get (.q .no) t σ.tm = get (.q .no) t σ'.tm
theorem Sm.l {l l' : List Nat} (h : Sm σ σ' (l ++ l')) : Sm σ σ' l := fun t ht => h t (by simp [ht])
theorem Sm.r {l l' : List Nat} (h : Sm σ σ' (l ++ l')) : Sm σ σ' l' := fun t ht => h t (by simp [ht])
theorem v_congr {x : XO} (h : Sm σ σ' x.rd) : σ.v x = σ'.v x := by
  cases x with
  | t n => simp only [St.v]; rw [h n (by simp [XO.rd])]
  | k q => rfl
theorem args_congr : ∀ {xs : List XO}, Sm σ σ' (xs.flatMap XO.rd) → argsX σ xs = argsX σ' xs := by
  intro xs
  induction xs with
  | nil => intro _; rfl
  | cons x xs ih =>
    intro h
    rw [List.flatMap_cons] at h
    simp only [argsX, v_congr h.l, ih h.r]
theorem allCB_congr (hr : σ.rw = σ'.rw) {qs : List Q} : allCB σ qs = allCB σ' qs := by
  induction qs with
  | nil => rfl
  | cons q qs ih =>
    have : q.toCB σ = q.toCB σ' := by cases q <;> simp only [Q.toCB, hr]
    simp only [allCB, this, ih]
theorem argsB_congr (hr : σ.rw = σ'.rw) : ∀ {xs : List XO}, Sm σ σ' (xs.flatMap XO.rd) → argsB σ xs = argsB σ' xs := by
  intro xs
  induction xs with
  | nil => intro _; rfl
  | cons x xs ih =>
    intro h
    rw [List.flatMap_cons] at h
    have : ∀ p : PV, p.toDB σ = p.toDB σ' := fun p => by
      cases p with
      | q x => have : x.toCB σ = x.toCB σ' := by cases x <;> simp only [Q.toCB, hr]
               simp only [PV.toDB, this]
      | agg qs => simp only [PV.toDB, allCB_congr hr]
      | _ => rfl
    simp only [argsB, v_congr h.l, ih h.r, this]
theorem build_congr : ∀ {ps : List (Nat × XO × Option Nat)} {r : Prop × List Q}, Sm σ σ' (ps.flatMap fun p => p.2.1.rd) → buildX σ ps r = buildX σ' ps r := by
  intro ps
  induction ps with
  | nil => intro r _; rfl
  | cons p ps ih =>
    obtain ⟨o, x, ag⟩ := p
    intro r h
    rw [List.flatMap_cons] at h
    obtain ⟨vc, qs⟩ := r
    simp only [buildX, v_congr h.l]
    split
    · exact ih h.r
    · rfl
theorem bsl_congr {sz : Nat} : ∀ {ps : List (XO × Option Nat)}, Sm σ σ' (ps.flatMap fun p => p.1.rd) → bslX σ sz ps = bslX σ' sz ps := by
  intro ps
  induction ps with
  | nil => intro _; rfl
  | cons p ps ih =>
    obtain ⟨x, ag⟩ := p
    intro h
    rw [List.flatMap_cons] at h
    simp only [bslX, v_congr h.l, ih h.r]
theorem lo_congr {d : Int} {x : Option XO} (h : Sm σ σ' (oRd x)) : loX σ d x = loX σ' d x := by
  cases x with
  | none => rfl
  | some x => simp only [loX]; rw [v_congr h]
theorem eval_congr (hb : σ.bx = σ'.bx) (hr : σ.rw = σ'.rw) {k : XK} (h : Sm σ σ' k.rd) : evalK Γ σ k = evalK Γ σ' k := by
  cases k with
  | mv x => simp only [evalK, v_congr h]
  | pick c a b => simp only [evalK, v_congr h.l, v_congr h.r.l, v_congr h.r.r]
  | bin bl op x y => simp only [evalK, v_congr h.l, v_congr h.r]
  | not x => simp only [evalK, v_congr h]
  | load x ag => simp only [evalK, v_congr h, hb, hr]
  | fa x off => simp only [evalK, v_congr h]
  | ia x i sz => simp only [evalK, v_congr h.l, v_congr h.r, hr]
  | idx x i => simp only [evalK, v_congr h.l, v_congr h.r]
  | fld x off ag => simp only [evalK, v_congr h]
  | ext x i => simp only [evalK, v_congr h]
  | len x str => cases str <;> simp only [evalK, v_congr h, hr]
  | call f xs => simp only [evalK, callX, args_congr h]
  | calli f xs => simp only [evalK, callX, v_congr h.l, args_congr h.r]
  | callr f xs => rfl
  | callo f xs => rfl
  | sub3 x y z u sz => simp only [evalK, v_congr h.l, v_congr h.r.l, v_congr h.r.r.l, v_congr h.r.r.r, hr]
  | callb f xs => simp only [evalK, callB, argsB_congr hr h]
  | mm mx x y => simp only [evalK, v_congr h.l, v_congr h.r]
  | mkf f x => rfl
  | sub x lo hi sz => cases sz <;> simp only [evalK, v_congr h.l, lo_congr h.r.l, lo_congr h.r.r, hr]
  | isn x => simp only [evalK, v_congr h, hr]
  | cap x => simp only [evalK, v_congr h]
  | clr x zs => rfl
  | apn x n zs bytes => rfl
  | capr x => rfl
  | ovl x y => simp only [evalK, v_congr h.l, v_congr h.r, hr]
  | cpy x y sz => rfl
  | bslx sz ps => rfl
  | stx x y ag => rfl
  | appx x y sz bytes => rfl
  | ldx x => rfl
  | callx f xs => rfl
  | callm f x y => rfl
  | bts x => simp only [evalK, v_congr h]
  | callw f xs => simp only [evalK, callW, args_congr h]
  | conv k x => simp only [evalK, v_congr h]
  | build zs ps => simp only [evalK, build_congr h]
  | bsl sz ps =>
    cases ps with
    | nil => rfl
    | cons p ps => simp only [evalK, bsl_congr h]
  | nilc x => simp only [evalK, v_congr h]
  | st x y ag => rfl
  | box x ag => rfl
  | alloc zs => rfl
  | app x y sz bytes ex => rfl
  | mk x zs bytes => rfl
  | glb i => rfl
theorem step_congr (hb : σ.bx = σ'.bx) (hr : σ.rw = σ'.rw) {x : XOp} (h : Sm σ σ' x.rd) : stepM Γ σ x = stepM Γ σ' x := by
  unfold XOp.rd at h
  unfold stepM
  cases hg : x.g with
  | none => rw [hg] at h; exact eval_congr hb hr h.r
  | some tw =>
    obtain ⟨t, want⟩ := tw
    rw [hg] at h
    simp only
    rw [h t (by simp), eval_congr hb hr h.r]
theorem get_keep {t : Nat} : ∀ {l : List Nat}, t ∈ l → get (PV.q .no) t (l.map fun t => (t, get (.q .no) t σ.tm)) = get (.q .no) t σ.tm := by
  intro l
  induction l with
  | nil => intro h; simp at h
  | cons u l ih =>
    intro h
    simp only [List.map_cons, get]
    split
    · rename_i he; rw [he]
    · rename_i hne
      rcases List.mem_cons.1 h with h | h
      · exact absurd h.symm hne
      · exact ih h

/-! ### What must lie ahead of an operation -/
def uni (a : List Nat) : List Nat → List Nat
  | [] => a
  | x :: r => if a.contains x then uni a r else uni (x :: a) r
theorem mem_uni {j : Nat} : ∀ {b a : List Nat}, j ∈ uni a b → j ∈ a ∨ j ∈ b := by
  intro b
  induction b with
  | nil => intro a h; exact .inl h
  | cons x r ih =>
    intro a h
    simp only [uni] at h
    split at h
    · rcases ih h with h | h
      · exact .inl h
      · exact .inr (by simp [h])
    · rcases ih h with h | h
      · rcases List.mem_cons.1 h with rfl | h
        · exact .inr (by simp)
        · exact .inl h
      · exact .inr (by simp [h])
def aheadL (acc : List (List Nat)) : List Edge → List Nat
  | [] => []
  | e :: es => bif Region.binds .any e then uni (aheadL acc es) (e.on :: acc.getD e.on []) else aheadL acc es
theorem mem_aheadL {acc : List (List Nat)} {j : Nat} : ∀ {es : List Edge}, j ∈ aheadL acc es → ∃ e ∈ es, Region.binds .any e = true ∧ (j = e.on ∨ j ∈ acc.getD e.on []) := by
  intro es
  induction es with
  | nil => intro h; simp [aheadL] at h
  | cons e es ih =>
    intro h
    simp only [aheadL] at h
    cases hb : Region.binds .any e with
    | true =>
      rw [hb, cond_true] at h
      rcases mem_uni h with h | h
      · obtain ⟨e', h1, h2⟩ := ih h; exact ⟨e', by simp [h1], h2⟩
      · exact ⟨e, by simp, hb, by simpa using h⟩
    | false =>
      rw [hb, cond_false] at h
      obtain ⟨e', h1, h2⟩ := ih h; exact ⟨e', by simp [h1], h2⟩
def ahead (o : Oper) (acc : List (List Nat)) : List Nat := aheadL acc o.after.toList
def ancs : List Oper → List (List Nat) → List (List Nat)
  | [], acc => acc
  | o :: os, acc => ancs os (acc ++ [ahead o acc])
def Closed (ops : Array Oper) (L : Nat → Bool) : Prop := ∀ (i : Nat) o, ops[i]? = some o → L i = true → ∀ e ∈ o.after, Region.binds .any e = true → L e.on = true
def AncOk (ops : Array Oper) (acc : List (List Nat)) : Prop := ∀ (i : Nat) o, ops[i]? = some o → i < acc.length → ∀ j ∈ acc.getD i [], ∀ L, Closed ops L → (∀ e ∈ o.after, Region.binds .any e = true → L e.on = true) → L j = true
theorem ancs_ok : ∀ {os : List Oper} {acc : List (List Nat)}, (∀ j, os[j]? = ops[acc.length + j]?) → AncOk ops acc → AncOk ops (ancs os acc) := by
  intro os
  induction os with
  | nil => intro acc _ h; exact h
  | cons o os ih =>
    intro acc hl h
    refine ih (fun j => by have := hl (j + 1); simpa [Nat.add_assoc, Nat.add_comm 1 j] using this) ?_
    intro i o' ho hi j hj L hc he
    by_cases hlt : i < acc.length
    · refine h i o' ho hlt j ?_ L hc he
      simpa [List.getD_eq_getElem?_getD, List.getElem?_append_left hlt] using hj
    · have hie : i = acc.length := by simp at hi; omega
      subst hie
      have h0 := hl 0
      simp only [List.getElem?_cons_zero, Nat.add_zero, ho, Option.some.injEq] at h0
      subst h0
      rw [List.getD_eq_getElem?_getD, List.getElem?_append_right (Nat.le_refl _), Nat.sub_self, List.getElem?_cons_zero, Option.getD_some] at hj
      obtain ⟨e, hem, hb, hj⟩ := mem_aheadL hj
      have hem' : e ∈ o.after := by simpa using hem
      have h1 := he e hem' hb
      rcases hj with rfl | hj
      · exact h1
      · by_cases hel : e.on < acc.length
        · cases hoe : ops[e.on]? with
          | none =>
            have h2 := (Array.getElem?_eq_some_iff.1 ho).1
            have h3 := Array.getElem?_eq_none_iff.1 hoe
            omega
          | some oe => exact h e.on oe hoe hel j hj L hc (hc e.on oe hoe h1)
        · rw [List.getD_eq_getElem?_getD, List.getElem?_eq_none (by omega)] at hj
          simp at hj

def freeOf (x y : XOp) : Bool := match y.dst with
  | none => true
  | some t => !x.rd.contains t && x.dst != some t
def okPair (an : List (List Nat)) (x y : XOp) (i j : Nat) : Bool := i == j || freeOf x y || (decide (j < i) && (an.getD i []).contains j) || (decide (i < j) && (an.getD j []).contains i)
def okPairs (an : List (List Nat)) (xs : List XOp) : Bool := xs.zipIdx.all fun x => xs.zipIdx.all fun y => okPair an x.1 y.1 x.2 y.2
def okEdges (ops : Array Oper) : Bool := ops.toList.zipIdx.all fun o => o.1.after.all fun e => !Region.binds .any e || decide (e.on < o.2)
def okTail (an : List (List Nat)) (npre m : Nat) : Bool := (List.range m).all fun k => decide (k < npre) || (List.range k).all fun j => (an.getD k []).contains j
def okDraw (ops : Array Oper) (xs : List XOp) (npre : Nat) : Bool :=
  decide (npre ≤ xs.length) && okEdges ops && okTail (ancs ops.toList []) npre xs.length && okPairs (ancs ops.toList []) (xs.take npre)
end
end Go.Proofs.Pw
/- Regions whose order is open, run. -/
namespace Go.Proofs.Pw
open Go.RowKit
set_option linter.unusedSectionVars false
variable [Globs]
section
variable {P : Program} {Γ : FuncId → Option Spec} {σ σ' : St} {a : Act} {w w' : World} {M M' : Gh} {X : Nat → Prop} {B n : Nat} {w0 : W0} {ops : Array Oper}

def Lst (listed : Array Bool) (i : Nat) : Bool := listed.getD i false
def cnt (listed : Array Bool) : Nat := listed.toList.countP fun b => !b
theorem cnt_zero {listed : Array Bool} (h : cnt listed = 0) {i : Nat} (hi : i < listed.size) : Lst listed i = true := by
  unfold cnt at h
  rw [List.countP_eq_zero] at h
  have := h listed[i] (by simp)
  simpa [Lst, Array.getD, hi] using this
theorem cnt_set {listed : Array Bool} {i : Nat} (hi : i < listed.size) (h : Lst listed i = false) : cnt (listed.setIfInBounds i true) + 1 = cnt listed := by
  have hx : listed[i] = false := by simpa [Lst, Array.getD, hi] using h
  have hpos : 0 < listed.toList.countP fun b => !b := List.countP_pos_iff.2 ⟨listed[i], by simp, by simp [hx]⟩
  unfold cnt
  rw [Array.toList_setIfInBounds, List.countP_set (by simpa using hi)]
  simp only [Array.getElem_toList, hx, Bool.not_false, if_true, Bool.not_true, Bool.false_eq_true, if_false]
  omega
theorem Lst_set {listed : Array Bool} {i j : Nat} (hi : i < listed.size) : Lst (listed.setIfInBounds i true) j = (Lst listed j || decide (j = i)) := by
  simp only [Lst, Array.getD_eq_getD_getElem?, Array.getElem?_setIfInBounds]
  by_cases h : i = j
  · subst h; simp [hi]
  · rw [if_neg h]; simp [show ¬ j = i from fun e => h e.symm]
theorem ready_mem {listed : Array Bool} {i : Nat} (hsz : listed.size = ops.size) : i ∈ Region.ready .any ops listed ↔ i < ops.size ∧ Lst listed i = false ∧ ∃ o, ops[i]? = some o ∧ ∀ e ∈ o.after, Region.binds .any e = true → Lst listed e.on = true := by
  simp only [Region.ready, List.mem_filter, List.mem_range, Bool.and_eq_true, Bool.not_eq_true']
  constructor
  · rintro ⟨h1, h2, h3⟩
    refine ⟨h1, ?_, ?_⟩
    · simpa [Lst, Array.getD, hsz, h1] using h2
    · cases ho : ops[i]? with
      | none => rw [ho] at h3; simp at h3
      | some o =>
        rw [ho] at h3
        simp only [Option.map_some, Option.getD_some, Array.all_eq_true_iff_forall_mem] at h3
        refine ⟨o, rfl, fun e he hb => ?_⟩
        have := h3 e he
        simpa [hb, Lst] using this
  · rintro ⟨h1, h2, o, ho, h3⟩
    refine ⟨h1, ?_, ?_⟩
    · simpa [Lst, Array.getD, hsz, h1] using h2
    · rw [ho]
      simp only [Option.map_some, Option.getD_some, Array.all_eq_true_iff_forall_mem]
      intro e he
      cases hb : Region.binds .any e with
      | false => simp
      | true => simpa [Lst] using h3 e he hb

theorem edges_lt (h : okEdges ops = true) {i : Nat} {o : Oper} (ho : ops[i]? = some o) {e : Edge} (he : e ∈ o.after) (hb : Region.binds .any e = true) : e.on < i := by
  unfold okEdges at h
  rw [List.all_eq_true] at h
  have := h (o, i) (List.mem_zipIdx_iff_getElem?.2 (by simpa using ho))
  rw [Array.all_eq_true_iff_forall_mem] at this
  simpa [hb] using this e he
theorem ready_some (h : okEdges ops = true) {listed : Array Bool} (hsz : listed.size = ops.size) : ∀ (i : Nat), i < ops.size → Lst listed i = false → ∃ r, r ∈ Region.ready .any ops listed := by
  intro i
  induction i using Nat.strongRecOn with
  | _ i ih =>
    intro hi hl
    by_cases hall : ∀ j, j < i → Lst listed j = true
    · refine ⟨i, (ready_mem hsz).2 ⟨hi, hl, ops[i], by simp [hi], fun e he hb => hall _ (edges_lt h (by simp [hi]) he hb)⟩⟩
    · simp only [Classical.not_forall] at hall
      obtain ⟨j, hj, hn⟩ := hall
      exact ih j hj (by omega) (by simpa using hn)
theorem tail_all {npre m : Nat} (h : okTail (ancs ops.toList []) npre m = true) {listed : Array Bool} (hc : Closed ops (Lst listed)) {i : Nat} {o : Oper} (ho : ops[i]? = some o) (him : i < m) (hn : npre ≤ i)
    (he : ∀ e ∈ o.after, Region.binds .any e = true → Lst listed e.on = true) : ∀ j, j < i → Lst listed j = true := by
  intro j hj
  unfold okTail at h
  rw [List.all_eq_true] at h
  have := h i (by simpa using him)
  simp only [Bool.or_eq_true, decide_eq_true_eq, List.all_eq_true, List.mem_range] at this
  have hmem := (this.resolve_left (by omega)) j hj
  have hanc : AncOk ops (ancs ops.toList []) := ancs_ok (by simp) (fun i o _ hi => by simp at hi)
  by_cases hlen : i < (ancs ops.toList []).length
  · exact hanc i o ho hlen j (by simpa using hmem) _ hc he
  · rw [List.getD_eq_getElem?_getD, List.getElem?_eq_none (by omega)] at hmem
    simp at hmem
theorem anc_all {an : Nat} {listed : Array Bool} (hc : Closed ops (Lst listed)) {i : Nat} {o : Oper} (ho : ops[i]? = some o)
    (he : ∀ e ∈ o.after, Region.binds .any e = true → Lst listed e.on = true) (hm : an ∈ (ancs ops.toList []).getD i []) : Lst listed an = true := by
  have hanc : AncOk ops (ancs ops.toList []) := ancs_ok (by simp) (fun i o _ hi => by simp at hi)
  by_cases hlen : i < (ancs ops.toList []).length
  · exact hanc i o ho hlen an hm _ hc he
  · rw [List.getD_eq_getElem?_getD, List.getElem?_eq_none (by omega)] at hm
    simp at hm
theorem closed_set {listed : Array Bool} (hc : Closed ops (Lst listed)) {i : Nat} {o : Oper} (hi : i < listed.size) (ho : ops[i]? = some o)
    (he : ∀ e ∈ o.after, Region.binds .any e = true → Lst listed e.on = true) : Closed ops (Lst (listed.setIfInBounds i true)) := by
  intro j oj hj hl e hem hb
  rw [Lst_set hi] at hl ⊢
  simp only [Bool.or_eq_true, decide_eq_true_eq] at hl ⊢
  rcases hl with hl | rfl
  · exact .inl (hc j oj hj hl e hem hb)
  · rw [ho] at hj; cases hj
    exact .inl (he e hem hb)

theorem okOps_at {n : Nat} : ∀ {os : List Oper} {xs : List XOp} {i : Nat} {o : Oper}, okOps P n ops os xs = true → os[i]? = some o → ∃ x, xs[i]? = some x ∧ okOp P n ops o x = true := by
  intro os
  induction os with
  | nil => intro xs i o _ h; simp at h
  | cons o' os ih =>
    intro xs i o hok h
    cases xs with
    | nil => simp [okOps] at hok
    | cons x xs =>
      simp only [okOps, Bool.and_eq_true] at hok
      cases i with
      | zero => simp at h; subst h; exact ⟨x, rfl, hok.1⟩
      | succ i => simpa using ih hok.2 (by simpa using h)
theorem okOps_len {n : Nat} : ∀ {os : List Oper} {xs : List XOp}, okOps P n ops os xs = true → os.length = xs.length := by
  intro os
  induction os with
  | nil => intro xs h; cases xs with
    | nil => rfl
    | cons _ _ => simp [okOps] at h
  | cons o os ih => intro xs h; cases xs with
    | nil => simp [okOps] at h
    | cons x xs =>
      simp only [okOps, Bool.and_eq_true] at h
      simp [ih h.2]

/-- The tail: each operation waits for all ahead of it. -/
theorem draw_tail (G : GOK P Γ) {E : Exit → Act → World → Prop} {K : St → Prop} (hK : ∀ σ' a' w' M', K σ' → Sim X n B w0 σ' a' w' M' → E .normal a' w') {xs : List XOp} {npre : Nat} (hok : okOps P n ops ops.toList xs = true)
    (hed : okEdges ops = true) (htl : okTail (ancs ops.toList []) npre xs.length = true) :
    ∀ (fuel k : Nat) (listed : Array Bool) (σ : St) (a : Act) (w : World) (M : Gh), npre ≤ k → k ≤ ops.size → listed.size = ops.size → (∀ i, i < ops.size → Lst listed i = decide (i < k)) → Closed ops (Lst listed) → cnt listed ≤ fuel →
      Sim X n B w0 σ a w M → runX Γ 0 (xs.drop k) σ K → wpAny P .any ops E fuel listed a w := by
  have hlen : ops.size = xs.length := by simpa using okOps_len hok
  intro fuel
  induction fuel with
  | zero =>
    intro k listed σ a w M hk hks hsz hl hcl hc hs hr
    have hkk : k = ops.size := by
      by_cases h : k = ops.size
      · exact h
      · have h1 := cnt_zero (by omega : cnt listed = 0) (i := k) (by omega)
        rw [hl k (by omega)] at h1; simp at h1
    refine ⟨?_, ?_⟩
    · rw [List.eq_nil_iff_forall_not_mem]
      intro i hi
      obtain ⟨h1, h2, _⟩ := (ready_mem hsz).1 hi
      rw [hl i h1] at h2
      simp at h2; omega
    · rw [hkk, hlen, List.drop_length] at hr
      exact hK σ a w M hr hs
  | succ fuel ih =>
    intro k listed σ a w M hk hks hsz hl hcl hc hs hr
    refine ⟨fun hnil => ?_, fun i hi => ?_⟩
    · have hkk : k = ops.size := by
        by_cases h : k = ops.size
        · exact h
        · obtain ⟨r, hr⟩ := ready_some hed hsz k (by omega) (by rw [hl k (by omega)]; simp)
          rw [hnil] at hr; simp at hr
      rw [hkk, hlen, List.drop_length] at hr
      exact hK σ a w M hr hs
    · obtain ⟨h1, h2, o, ho, he⟩ := (ready_mem hsz).1 hi
      have hik : k ≤ i := by rw [hl i h1] at h2; simpa using h2
      have hall := tail_all htl hcl ho (by omega) (by omega) he
      have hki : i = k := by
        by_cases h : i = k
        · exact h
        · have := hall k (by omega)
          rw [hl k (by omega)] at this; simp at this
      subst hki
      obtain ⟨x, hx, hop⟩ := okOps_at hok (by simpa using ho)
      rw [List.drop_eq_getElem_cons (by omega)] at hr
      have hx' : xs[i]'(by omega) = x := by
        rw [List.getElem?_eq_getElem (by omega)] at hx; simpa using hx
      rw [hx'] at hr
      simp only [runX] at hr
      unfold wpOp
      rw [ho]
      have key := stepR_wp (K := wpAny P .any ops E fuel (listed.setIfInBounds i true)) (E := E) G hop hs hr (fun σ1 a' w' M' hk h => ih (i + 1) _ σ1 a' w' M' (by omega) (by omega) (by simpa using hsz) (fun j hj => by
        rw [Lst_set (by omega), hl j hj]
        rw [← Bool.decide_or]
        congr 1
        exact propext ⟨fun h => by omega, fun h => by omega⟩) (closed_set hcl (by omega) ho he) (by have := cnt_set (listed := listed) (i := i) (by omega) h2; omega) h hk)
      simp only
      split
      · rename_i hw; rw [if_pos hw] at key; exact .inl key
      · rename_i hw; rw [if_neg hw] at key; exact key
end
end Go.Proofs.Pw
/- Regions whose order is open: the head, in any order; the whole. -/
namespace Go.Proofs.Pw
open Go.RowKit
set_option linter.unusedSectionVars false
variable [Globs]
section
variable {P : Program} {Γ : FuncId → Option Spec} {σ σ' : St} {a : Act} {w w' : World} {M M' : Gh} {X : Nat → Prop} {B n : Nat} {w0 : W0} {ops : Array Oper}

theorem pairs_at {an : List (List Nat)} {xs : List XOp} (h : okPairs an xs = true) {i j : Nat} {x y : XOp} (hx : xs[i]? = some x) (hy : xs[j]? = some y) : okPair an x y i j = true := by
  unfold okPairs at h
  rw [List.all_eq_true] at h
  have h1 := h (x, i) (List.mem_zipIdx_iff_getElem?.2 hx)
  rw [List.all_eq_true] at h1
  exact h1 (y, j) (List.mem_zipIdx_iff_getElem?.2 hy)
/-- Two operations that touch the same: which is listed first. -/
theorem pair_cases {xs : List XOp} {npre : Nat} (hp : okPairs (ancs ops.toList []) (xs.take npre) = true) {listed : Array Bool} (hcl : Closed ops (Lst listed)) {i j : Nat} {x y : XOp} {o : Oper} (hi : Lst listed i = false) (ho : ops[i]? = some o)
    (he : ∀ e ∈ o.after, Region.binds .any e = true → Lst listed e.on = true) (hj : j < ops.size) (hx : (xs.take npre)[i]? = some x) (hy : (xs.take npre)[j]? = some y) (hf : freeOf x y = false) :
    Lst listed j = decide (j < i) := by
  have h := pairs_at hp hx hy
  unfold okPair at h
  rw [hf] at h
  simp only [Bool.or_false, Bool.or_eq_true, beq_iff_eq, Bool.and_eq_true, decide_eq_true_eq, List.contains_iff_mem] at h
  rcases h with (rfl | ⟨h1, h2⟩) | ⟨h1, h2⟩
  · rw [hi]; simp
  · rw [anc_all hcl ho he h2]; simp [h1]
  · have : Lst listed j = false := by
      cases hl : Lst listed j with
      | false => rfl
      | true =>
        have hoj : ops[j]? = some ops[j] := by simp [hj]
        have := anc_all hcl hoj (hcl j _ hoj hl) h2
        rw [hi] at this; cases this
    rw [this]; simp; omega

theorem put_same {d : Nat} {v : Value} (h : d < a.tmps.size) : (a.put (some d) v).tmps.getD d undef = v := by
  simp [Act.put, Array.getD_eq_getD_getElem?, h]
theorem put_other {dst : Option Nat} {t : Nat} {v : Value} (h : dst ≠ some t) : (a.put dst v).tmps.getD t undef = a.tmps.getD t undef := by
  cases dst with
  | none => rfl
  | some d =>
    simp only [Act.put, Array.getD_eq_getD_getElem?, Array.getElem?_setIfInBounds]
    rw [if_neg (fun e => h (by rw [e]))]

theorem draw_pre (G : GOK P Γ) {E : Exit → Act → World → Prop} {K : St → Prop} (hK : ∀ σ' a' w' M', K σ' → Sim X n B w0 σ' a' w' M' → E .normal a' w') {xs : List XOp} {npre : Nat} (hok : okOps P n ops ops.toList xs = true)
    (hdr : okDraw ops xs npre = true) {σ0 σk : St} {tr : List (Option Nat × PV)} (htr : Tr Γ σ0 (xs.take npre) tr σk) (hrun : runX Γ 0 (xs.drop npre) σk K) :
    ∀ (fuel : Nat) (listed : Array Bool) (a : Act) (w : World) (M : Gh), listed.size = ops.size → Closed ops (Lst listed) → (∀ i, i < ops.size → Lst listed i = true → i < npre) → cnt listed ≤ fuel →
      Sim X n B w0 { σ0 with tm := [] } a w M → (∀ t, RelV w M (vl (get (.q .no) t σ0.tm) t (Lst listed) 0 tr) (a.tmps.getD t undef)) →
      (∀ t p, (t, p) ∈ σ0.tm → (∀ (j : Nat) p', tr[j]? = some (some t, p') → Lst listed j = false) → RelV w M p (a.tmps.getD t undef)) → wpAny P .any ops E fuel listed a w := by
  have hlen : ops.size = xs.length := by simpa using okOps_len hok
  simp only [okDraw, Bool.and_eq_true, decide_eq_true_eq] at hdr
  obtain ⟨⟨⟨hn, hed⟩, htl⟩, hpr⟩ := hdr
  have htlen : tr.length = npre := by rw [htr.len, List.length_take]; omega
  intro fuel
  induction fuel with
  | zero =>
    intro listed a w M hsz hcl hpre hc hs hag hst
    have hall : ∀ i, i < npre → Lst listed i = true := fun i hi => cnt_zero (by omega) (by omega)
    obtain ⟨hb, hr, hlast⟩ := htr.last 0
    refine draw_tail G hK hok hed htl 0 npre listed σk a w M (Nat.le_refl _) (by omega) hsz (fun i hi => ?_) hcl hc ⟨hs.size, hs.defs, fun t p hp => ?_, by rw [hb, hr]; exact hs.mem, hs.fr, hs.hB, hs.sS, hs.sβ, hs.sρ⟩ hrun
    · by_cases h : i < npre
      · rw [hall i h]; simp [h]
      · cases hl : Lst listed i with
        | false => simp [h]
        | true => exact absurd (hpre i hi hl) h
    · rcases htr.stale hp with rfl | ⟨h1, h2⟩
      · rw [hlast t, vl_congr (L' := Lst listed) (fun j p' hj => by rw [Nat.zero_add, hall j (by rw [← htlen]; exact (List.getElem?_eq_some_iff.1 hj).1)])]
        exact hag t
      · exact hst t p h2 (fun j p' hj => absurd hj (h1 j p'))
  | succ fuel ih =>
    intro listed a w M hsz hcl hpre hc hs hag hst
    by_cases hall : ∀ i, i < npre → Lst listed i = true
    · obtain ⟨hb, hr, hlast⟩ := htr.last 0
      refine draw_tail G hK hok hed htl (fuel + 1) npre listed σk a w M (Nat.le_refl _) (by omega) hsz (fun i hi => ?_) hcl hc ⟨hs.size, hs.defs, fun t p hp => ?_, by rw [hb, hr]; exact hs.mem, hs.fr, hs.hB, hs.sS, hs.sβ, hs.sρ⟩ hrun
      · by_cases h : i < npre
        · rw [hall i h]; simp [h]
        · cases hl : Lst listed i with
          | false => simp [h]
          | true => exact absurd (hpre i hi hl) h
      · rcases htr.stale hp with rfl | ⟨h1, h2⟩
        · rw [hlast t, vl_congr (L' := Lst listed) (fun j p' hj => by rw [Nat.zero_add, hall j (by rw [← htlen]; exact (List.getElem?_eq_some_iff.1 hj).1)])]
          exact hag t
        · exact hst t p h2 (fun j p' hj => absurd hj (h1 j p'))
    · refine ⟨fun hnil => ?_, fun i hi => ?_⟩
      · simp only [Classical.not_forall] at hall
        obtain ⟨i, hi, hl⟩ := hall
        obtain ⟨r, hr⟩ := ready_some hed hsz i (by omega) (by simpa using hl)
        rw [hnil] at hr; simp at hr
      · obtain ⟨h1, h2, o, ho, he⟩ := (ready_mem hsz).1 hi
        by_cases hin : npre ≤ i
        · exact absurd (fun j hj => tail_all htl hcl ho (by omega) hin he j (by omega)) hall
        · obtain ⟨x, hx, hop⟩ := okOps_at hok (by simpa using ho)
          have hxt : (xs.take npre)[i]? = some x := by rw [List.getElem?_take, if_pos (by omega)]; exact hx
          obtain ⟨σi, vc, p, hst', hvc, hti, hb, hr, hget⟩ := htr.at 0 i x hxt
          have hwr : ∀ (j : Nat) t p', tr[j]? = some (some t, p') → ∃ y, (xs.take npre)[j]? = some y ∧ y.dst = some t ∧ j < ops.size := fun j t p' hj => by
            have hjl : j < npre := by rw [← htlen]; exact (List.getElem?_eq_some_iff.1 hj).1
            have hjx : j < xs.length := by omega
            have hy : (xs.take npre)[j]? = some xs[j] := by rw [List.getElem?_take, if_pos hjl]; simp [hjx]
            obtain ⟨_, _, q, _, _, hq, _⟩ := htr.at 0 j _ hy
            rw [hq] at hj
            simp only [Option.some.injEq, Prod.mk.injEq] at hj
            exact ⟨_, hy, hj.1, by omega⟩
          obtain ⟨hd1, hd2⟩ := okOp_dst hop
          unfold wpOp
          rw [ho]
          have hkeep : stepM Γ { σi with tm := x.rd.map fun t => (t, get (.q .no) t σi.tm) } x = some (vc, p) := by
            rw [← hst']
            exact step_congr (σ := { σi with tm := x.rd.map fun t => (t, get (.q .no) t σi.tm) }) (σ' := σi) rfl rfl (fun t ht => get_keep (σ := σi) ht)
          have key := mono_step (K := wpAny P .any ops E fuel (listed.setIfInBounds i true)) (E := E) G hop hkeep hvc (a := a) (w := w) (M := M) (X := X) (B := B) (fun t q hq => by
              simp only [List.mem_map, Prod.mk.injEq] at hq
              obtain ⟨t', ht', rfl, rfl⟩ := hq
              rw [hget, vl_congr (L' := Lst listed)]
              · exact hag t'
              · intro j p' hj
                obtain ⟨y, hy, hyd, hjs⟩ := hwr j _ p' hj
                rw [Nat.zero_add, Nat.zero_add]
                refine (pair_cases hpr hcl h2 ho he hjs hxt hy ?_).symm
                simp only [freeOf, hyd, Bool.and_eq_false_iff, Bool.not_eq_false']
                exact .inl (by simpa using ht'))
            (by rw [show ({ σi with tm := x.rd.map fun t => (t, get (.q .no) t σi.tm) } : St).bx = σ0.bx from hb, show ({ σi with tm := x.rd.map fun t => (t, get (.q .no) t σi.tm) } : St).rw = σ0.rw from hr]; exact hs.mem)
            (fun v w' M' hu hv => by
              refine ih (listed.setIfInBounds i true) (a.put o.dst v) w' M' (by simpa using hsz) (closed_set hcl (by omega) ho he) (fun j hj hl => ?_) (by have := cnt_set (listed := listed) (i := i) (by omega) h2; omega) ⟨?_, ?_, ?_, ?_, ?_, ?_, hs.upS hu, by rw [hu.β]; exact hs.sβ, by rw [hu.ρ]; exact hs.sρ⟩ (fun t => ?_) (fun t q hq hnw => ?_)
              · rw [Lst_set (by omega)] at hl
                simp only [Bool.or_eq_true, decide_eq_true_eq] at hl
                rcases hl with hl | rfl
                · exact hpre j hj hl
                · omega
              · have := hs.size
                cases hdd : o.dst <;> simpa [Act.put] using this
              · have := hs.defs
                cases hdd : o.dst <;> simpa [Act.put] using this
              · intro t q hq; simp at hq
              · exact hs.mem.up hu (fun _ _ _ h => h) (fun _ _ _ _ _ h => h)
              · exact hs.fr.trans (hu.fr.weak hs.hB (fun _ _ h => h.elim))
              · exact Nat.le_trans hs.hB hu.fr.size
              · by_cases hdt : o.dst = some t
                · rw [hdt, put_same (by rw [hs.size]; exact hd2 t hdt)]
                  rw [hd1] at hdt
                  rw [hdt] at hti
                  rw [vl_last hti (by rw [Nat.zero_add, Lst_set (by omega)]; simp) (fun j' p' hlt hj' => by
                    obtain ⟨y, hy, hyd, hjs⟩ := hwr j' _ p' hj'
                    rw [Nat.zero_add, Lst_set (by omega), pair_cases hpr hcl h2 ho he hjs hxt hy (by simp [freeOf, hyd, hdt])]
                    simp; omega)]
                  exact hv
                · rw [put_other hdt]
                  rw [vl_congr (L' := Lst listed) (fun j p' hj => by
                    rw [Nat.zero_add, Lst_set (by omega)]
                    by_cases hji : j = i
                    · subst hji
                      rw [hti] at hj
                      simp only [Option.some.injEq, Prod.mk.injEq] at hj
                      exact absurd (hd1.trans hj.1) hdt
                    · simp [hji])]
                  exact hu.v hs.mem.lt (hag t)
              · by_cases hdt : o.dst = some t
                · have := hnw i p (by rw [hti, ← hd1, hdt])
                  rw [Lst_set (by omega)] at this
                  simp at this
                · rw [put_other hdt]
                  refine hu.v hs.mem.lt (hst t q hq (fun j p' hj => ?_))
                  have := hnw j p' hj
                  rw [Lst_set (by omega)] at this
                  simp only [Bool.or_eq_false_iff] at this
                  exact this.1)
          simp only
          split
          · rename_i hw; rw [if_pos hw] at key; exact .inl key
          · rename_i hw; rw [if_neg hw] at key; exact key

theorem Sim.drew (hs : Sim X n B w0 σ a w M) : Sim X n B w0 σ a { w with drawn := w.drawn + 1 } M := by
  have hu : Up (fun _ => False) w M { w with drawn := w.drawn + 1 } M := ⟨rfl, rfl, fun _ h => h, fun _ h => .inl h, hs.mem.lt, fun _ _ h => h, ⟨rfl, rfl, rfl, Nat.le_refl _, fun _ _ _ => rfl, fun _ => rfl⟩⟩
  exact ⟨hs.size, hs.defs, fun t p h => hu.v hs.mem.lt (hs.tm t p h), hs.mem.up hu (fun _ _ _ h => h) (fun _ _ _ _ _ h => h), hs.fr.trans (hu.fr.weak hs.hB (fun _ _ h => h.elim)), hs.hB, hs.sS, hs.sβ, hs.sρ⟩

theorem draw_wp (hm : P.follows .mixedOrders = true) (G : GOK P Γ) {E : Exit → Act → World → Prop} {K : St → Prop} (hK : ∀ σ' a' w' M', K σ' → Sim X n B w0 σ' a' w' M' → E .normal a' w') {xs : List XOp} {npre : Nat} (hok : okOps P n ops ops.toList xs = true)
    (hdr : okDraw ops xs npre = true) (hs : Sim X n B w0 σ a w M) (hr : runX Γ npre xs σ K) {id : Nat} : (Code.region id ops true).wp P E a w := by
  have hn : npre ≤ xs.length := by
    simp only [okDraw, Bool.and_eq_true, decide_eq_true_eq] at hdr
    exact hdr.1.1.1
  obtain ⟨tr, σk, h1, h2⟩ := runX_pre hn hr
  have hs' := hs.drew
  have hL : ∀ i, Lst (Array.replicate ops.size false) i = false := fun i => by
    simp only [Lst, Array.getD_eq_getD_getElem?, Array.getElem?_replicate]
    split <;> rfl
  refine wp_region_any hm (draw_pre G hK hok hdr h1 h2 ops.size _ a _ M (by simp) (fun i o _ hl => ?_) (fun i _ hl => ?_) ?_ ⟨hs'.size, hs'.defs, fun t q h => ?_, hs'.mem, hs'.fr, hs'.hB, hs'.sS, hs'.sβ, hs'.sρ⟩ (fun t => ?_) (fun t p hp _ => hs'.tm t p hp))
  · rw [hL] at hl; cases hl
  · rw [hL] at hl; cases hl
  · refine Nat.le_trans (List.countP_le_length ..) (by simp)
  · simp at h
  · rw [vl_none (fun j p _ => hL _)]
    exact look_rel hs'.tm t
end
end Go.Proofs.Pw
