/- One operation of the small code, and a region in its order. -/
import Derived.Test.YtmbenbobnjmklaaDoorPwB
import Derived.Deep.LoopGhost
namespace Go.Proofs.Pw
open Go.RowKit
set_option linter.unusedSectionVars false
variable [Globs]
section
variable {P : Program} {Γ : FuncId → Option Spec} {σ σ' : St} {a : Act} {w w' : World} {M M' : Gh} {X : Nat → Prop} {B n : Nat} {w0 : W0} {ops : Array Oper} {o : Oper} {x : XOp}

def isEff : XK → Bool
  | .st .. => true
  | .mkf .. => true
  | .box .. => true
  | .alloc .. => true
  | .app .. => true
  | .mk .. => true
  | _ => false
def isSt : XK → Bool
  | .st .. => true
  | _ => false
def okGd (ops : Array Oper) : Option (Nat × Bool) → Option (Nat × Bool) → Bool
  | none, none => true
  | some (j, wt), some (t, wt') => wt == wt' && ((ops[j]?).bind (·.dst) == some t)
  | _, _ => false
def okOp (P : Program) (n : Nat) (ops : Array Oper) (o : Oper) (x : XOp) : Bool :=
  o.dst == x.dst && (match o.dst with | some d => decide (d < n) | none => true) && okGd ops o.guard x.g &&
  (bif isEff x.op then chkE P o.op x.op && (bif isSt x.op then o.dst.isNone else true) else chkM P o.op x.op)

theorem okOp_dst (h : okOp P n ops o x = true) : o.dst = x.dst ∧ ∀ d, o.dst = some d → d < n := by
  simp only [okOp, Bool.and_eq_true, beq_iff_eq] at h
  refine ⟨h.1.1.1, fun d hd => ?_⟩
  have := h.1.1.2
  rw [hd] at this
  simpa using this
theorem okOp_gd (h : okOp P n ops o x = true) : okGd ops o.guard x.g = true := by
  simp only [okOp, Bool.and_eq_true] at h; exact h.1.2
theorem okOp_eff (h : okOp P n ops o x = true) (he : isEff x.op = true) : chkE P o.op x.op = true ∧ ∀ y z ag, x.op = .st y z ag → o.dst = none := by
  simp only [okOp, Bool.and_eq_true, he, cond_true] at h
  refine ⟨h.2.1, fun y z ag hx => ?_⟩
  have := h.2.2
  rw [hx] at this
  simpa [isSt] using this
theorem okOp_mono (h : okOp P n ops o x = true) (he : isEff x.op = false) : chkM P o.op x.op = true := by
  simp only [okOp, Bool.and_eq_true, he, cond_false] at h; exact h.2
theorem eval_eff {k : XK} {r : Prop × PV} (h : evalK Γ σ k = some r) : isEff k = false := by
  cases k <;> first | rfl | (simp [evalK] at h)

theorem wanted_none (h : okGd ops o.guard none = true) (ts : Array Value) : Region.wanted o (yielded ops ts) = true := by
  cases hg : o.guard with
  | none => simp [Region.wanted, hg]
  | some _ => rw [hg] at h; simp [okGd] at h
theorem wanted_some {t : Nat} {want g b : Bool} (h : okGd ops o.guard (some (t, want)) = true) (ht : ∀ t p, (t, p) ∈ σ.tm → RelV w M p (a.tmps.getD t undef)) (hu : (get (.q .no) t σ.tm).un = (g, .q (.c (.bool b)))) :
    Region.wanted o (yielded ops a.tmps) = (g && (b == want)) := by
  cases hg : o.guard with
  | none => rw [hg] at h; simp [okGd] at h
  | some jw =>
    obtain ⟨j, wt⟩ := jw
    rw [hg] at h
    simp only [okGd, Bool.and_eq_true, beq_iff_eq] at h
    obtain ⟨rfl, hj⟩ := h
    simp only [Region.wanted, hg, yielded, hj, Option.bind_some]
    have hl := look_rel ht t
    cases g with
    | true =>
      have := un_rel hl (by rw [hu])
      rw [hu] at this
      have hb := relC_bool this
      rw [Array.getD_eq_getD_getElem?] at hb
      cases hx : a.tmps[t]? with
      | none => rw [hx] at hb; simp [undef] at hb
      | some v =>
        rw [hx] at hb
        simp only [Option.getD_some] at hb
        subst hb
        cases b <;> cases wt <;> rfl
    | false =>
      have := un_false hl (by rw [hu])
      rw [Array.getD_eq_getD_getElem?] at this
      cases hx : a.tmps[t]? with
      | none => rfl
      | some v =>
        rw [hx] at this
        simp only [Option.getD_some] at this
        subst this
        rfl

theorem mono_step (G : GOK P Γ) (hok : okOp P n ops o x = true) {vc : Prop} {p : PV} (he : stepM Γ σ x = some (vc, p)) (hvc : vc)
    (ht : ∀ t p, (t, p) ∈ σ.tm → RelV w M p (a.tmps.getD t undef)) (mem : Mem X B σ.bx σ.rw w M) {K : Act → World → Prop} {E : Exit → Act → World → Prop}
    (hn : ∀ v w' M', Up (fun _ => False) w M w' M' → RelV w' M' p v → K (a.put o.dst v) w') :
    if Region.wanted o (yielded ops a.tmps) then o.wp P a w K E else K (a.put o.dst undef) w := by
  unfold stepM at he
  have hgd := okOp_gd hok
  split at he
  · rename_i t want hg
    rw [hg] at hgd
    split at he
    · rename_i g b hu
      simp only [Option.map_eq_some_iff, Prod.mk.injEq] at he
      obtain ⟨⟨vc', p'⟩, hev, rfl, rfl⟩ := he
      rw [wanted_some hgd ht hu]
      split
      · rename_i hw
        exact monoK G (okOp_mono hok (eval_eff hev)) hev (hvc hw) ht mem (fun v w' M' hu hr => hn v w' M' hu ⟨fun _ => hr, fun h => absurd (hw.symm.trans h) (by simp)⟩)
      · rename_i hw
        exact hn undef w M (Up.refl mem.lt) ⟨fun h => absurd h hw, fun _ => rfl⟩
    · cases he
  · rename_i hg
    rw [hg] at hgd
    rw [wanted_none hgd, if_pos rfl]
    exact monoK G (okOp_mono hok (eval_eff he)) he hvc ht mem hn

theorem eff_step (hok : okOp P n ops o x = true) (hg : x.g = none) (hef : isEff x.op = true) (hs : Sim X n B w0 σ a w M) {vc : Prop} (he : effK σ x.dst x.op = some (vc, σ')) (hvc : vc)
    {K : Act → World → Prop} {E : Exit → Act → World → Prop} (hn : ∀ a' w' M', Sim X n B w0 σ' a' w' M' → K a' w') :
    if Region.wanted o (yielded ops a.tmps) then o.wp P a w K E else K (a.put o.dst undef) w := by
  have hgd := okOp_gd hok
  rw [hg] at hgd
  obtain ⟨h1, h2⟩ := okOp_dst hok
  obtain ⟨h3, h4⟩ := okOp_eff hok hef
  rw [wanted_none hgd, if_pos rfl]
  exact effK_wp hs h3 h2 h4 (by rw [h1]; exact he) hvc hn

theorem call_step (G : GOK P Γ) (hok : okOp P n ops o x = true) (hg : x.g = none) (hs : Sim X n B w0 σ a w M) {f : FuncId} {xs : List XO}
    (hx : x.op = .call f xs ∨ ∃ y, x.op = .calli y xs ∧ σ.v y = (true, .q (.c (.fn f)))) {vc : Prop} (he : callE Γ σ x.dst f xs = some (vc, σ')) (hvc : vc)
    {K : Act → World → Prop} {E : Exit → Act → World → Prop} (hn : ∀ a' w' M', Sim X n B w0 σ' a' w' M' → K a' w') :
    if Region.wanted o (yielded ops a.tmps) then o.wp P a w K E else K (a.put o.dst undef) w := by
  have hgd := okOp_gd hok
  rw [hg] at hgd
  obtain ⟨h1, h2⟩ := okOp_dst hok
  rw [wanted_none hgd, if_pos rfl]
  have h3 : ∃ c g, o.op = .call c ∧ c.callee = .value g ∧ a.eval g = .func (.func f) #[] #[] ∧ okOs c.args.toList xs = true := by
    rcases hx with hx | ⟨y, hx, hy⟩
    · have hm := okOp_mono hok (by rw [hx]; rfl)
      rw [hx] at hm
      simp only [chkM] at hm
      split at hm
      · rename_i c ho
        unfold okCall at hm
        split at hm
        · rename_i g hc
          simp only [Bool.and_eq_true, beq_iff_eq] at hm
          obtain ⟨rfl, hos⟩ := hm
          exact ⟨c, _, ho, hc, rfl, hos⟩
        · cases hm
      · cases hm
    · have hm := okOp_mono hok (by rw [hx]; rfl)
      rw [hx] at hm
      simp only [chkM] at hm
      split at hm
      · rename_i c ho
        unfold okCalli at hm
        split at hm
        · rename_i g hc
          simp only [Bool.and_eq_true] at hm
          have rf := okO_rel (o := g) (x := y) hs.tm hm.1 (by rw [hy])
          rw [hy] at rf
          exact ⟨c, _, ho, hc, relC_fn rf, hm.2⟩
        · cases hm
      · cases hm
  obtain ⟨c, g, ho, hc, hev, hos⟩ := h3
  obtain ⟨k1, k2⟩ := callE_wp G hs (dst := o.dst) h2 (fun σ1 w1 M1 ht _ => okOs_rel ht hos) (by rw [h1]; exact he) hvc
  obtain ⟨dst, op, ty, pos, after, guard⟩ := o
  simp only at ho; subst ho
  exact upon_enter (call_run hc hev k1) (fun E => k2 _ E (fun v w' M' h => hn _ _ _ h))

theorem clo_step (G : GOK P Γ) (hok : okOp P n ops o x = true) (hg : x.g = none) (hs : Sim X n B w0 σ a w M) {f : FuncId} {xs : List XO} {cs : List C} {y : XO}
    (hx : x.op = .calli y xs) (hy : σ.v y = (true, .q (.c (.clo f cs)))) {vc : Prop} (he : callE Γ σ x.dst f (xs ++ cs.map fun c => .k c.toQ) = some (vc, σ')) (hvc : vc)
    {K : Act → World → Prop} {E : Exit → Act → World → Prop} (hn : ∀ a' w' M', Sim X n B w0 σ' a' w' M' → K a' w') :
    if Region.wanted o (yielded ops a.tmps) then o.wp P a w K E else K (a.put o.dst undef) w := by
  have hgd := okOp_gd hok
  rw [hg] at hgd
  obtain ⟨h1, h2⟩ := okOp_dst hok
  rw [wanted_none hgd, if_pos rfl]
  have hm := okOp_mono hok (by rw [hx]; rfl)
  rw [hx] at hm
  simp only [chkM] at hm
  split at hm
  · rename_i c ho
    unfold okCalli at hm
    split at hm
    · rename_i g hc
      simp only [Bool.and_eq_true] at hm
      have rf := okO_rel (o := g) (x := y) hs.tm hm.1 (by rw [hy])
      rw [hy] at rf
      obtain ⟨us, hev, hl, hr⟩ := relC_clo rf
      obtain ⟨k1, k2⟩ := callE_wp G hs (dst := o.dst) (us := c.args.toList.map a.eval ++ us) h2 (fun σ1 w1 M1 ht hmo => All2.append (okOs_rel ht hm.2) (caps_rel hl (fun j c hj => by obtain ⟨u, hu, h⟩ := hr j c hj; exact ⟨u, hu, hmo _ _ h⟩))) (by rw [h1]; exact he) hvc
      obtain ⟨dst, op, ty, pos, after, guard⟩ := o
      simp only at ho; subst ho
      exact upon_enter (clo_run hc hev k1) (fun E => k2 _ E (fun v w' M' h => hn _ _ _ h))
    · cases hm
  · cases hm

theorem step_wp (G : GOK P Γ) (hok : okOp P n ops o x = true) (hs : Sim X n B w0 σ a w M) {pre : Bool} {vc : Prop} (he : stepX Γ pre σ x = some (vc, σ')) (hvc : vc)
    {K : Act → World → Prop} {E : Exit → Act → World → Prop} (hn : ∀ a' w' M', Sim X n B w0 σ' a' w' M' → K a' w') :
    if Region.wanted o (yielded ops a.tmps) then o.wp P a w K E else K (a.put o.dst undef) w := by
  obtain ⟨h1, h2⟩ := okOp_dst hok
  have viaM : ∀ {p}, stepM Γ σ x = some (vc, p) → σ' = σ.put x.dst p → if Region.wanted o (yielded ops a.tmps) then o.wp P a w K E else K (a.put o.dst undef) w := fun {p} hm hσ => by
    subst hσ
    refine mono_step G hok hm hvc hs.tm hs.mem (fun v w' M' hu hr => hn _ _ M' ?_)
    rw [← h1]
    exact hs.put h2 hu (fun _ _ h => h.elim) (hs.mem.up hu (fun _ _ _ h => h) (fun _ _ _ _ _ h => h)) hr
  unfold stepX at he
  split at he
  · simp only [Option.map_eq_some_iff, Prod.mk.injEq] at he
    obtain ⟨⟨vc', p⟩, hm, rfl, rfl⟩ := he
    exact viaM hm rfl
  · rename_i hg
    split at he
    · rename_i hx; exact eff_step hok hg (by rw [hx]; rfl) hs (by rw [hx]; exact he) hvc hn
    · rename_i hx; exact eff_step hok hg (by rw [hx]; rfl) hs (by rw [hx]; exact he) hvc hn
    · rename_i hx; exact eff_step hok hg (by rw [hx]; rfl) hs (by rw [hx]; exact he) hvc hn
    · rename_i hx; exact eff_step hok hg (by rw [hx]; rfl) hs (by rw [hx]; exact he) hvc hn
    · rename_i hx; exact eff_step hok hg (by rw [hx]; rfl) hs (by rw [hx]; exact he) hvc hn
    · rename_i hx; exact eff_step hok hg (by rw [hx]; rfl) hs (by rw [hx]; exact he) hvc hn
    · rename_i hx; exact call_step G hok hg hs (.inl hx) he hvc hn
    · rename_i f' xs hx
      split at he
      · rename_i g f e1
        simp only [Option.map_eq_some_iff, Prod.mk.injEq] at he
        obtain ⟨⟨vc', σ2⟩, hc, rfl, rfl⟩ := he
        exact call_step G hok hg hs (.inr ⟨f', hx, by rw [e1, hvc.1]⟩) hc hvc.2 hn
      · rename_i g f cs e1
        simp only [Option.map_eq_some_iff, Prod.mk.injEq] at he
        obtain ⟨⟨vc', σ2⟩, hc, rfl, rfl⟩ := he
        exact clo_step G hok hg hs hx (by rw [e1, hvc.1]) hc hvc.2 hn
      · cases he
    · simp only [Option.map_eq_some_iff, Prod.mk.injEq] at he
      obtain ⟨⟨vc', p⟩, hm, rfl, rfl⟩ := he
      exact viaM (by unfold stepM; rw [hg]; exact hm) rfl

theorem callr_step (G : GOK P Γ) (hok : okOp P n ops o x = true) (hg : x.g = none) (hs : Sim X n B w0 σ a w M) {f : FuncId} {xs : List XO} (hx : x.op = .callr f xs) {K' : St → Prop} (he : callR Γ σ x.dst f xs K')
    {K : Act → World → Prop} {E : Exit → Act → World → Prop} (hn : ∀ σ' a' w' M', K' σ' → Sim X n B w0 σ' a' w' M' → K a' w') :
    if Region.wanted o (yielded ops a.tmps) then o.wp P a w K E else K (a.put o.dst undef) w := by
  have hgd := okOp_gd hok
  rw [hg] at hgd
  obtain ⟨h1, h2⟩ := okOp_dst hok
  rw [wanted_none hgd, if_pos rfl]
  have hm := okOp_mono hok (by rw [hx]; rfl)
  rw [hx] at hm
  simp only [chkM] at hm
  split at hm
  · rename_i c ho
    unfold okCall at hm
    split at hm
    · rename_i g hc
      simp only [Bool.and_eq_true, beq_iff_eq] at hm
      obtain ⟨rfl, hos⟩ := hm
      obtain ⟨k1, k2⟩ := callR_wp G hs (dst := o.dst) h2 (fun σ1 w1 M1 ht _ => okOs_rel ht hos) (by rw [h1]; exact he)
      obtain ⟨dst, op, ty, pos, after, guard⟩ := o
      simp only at ho; subst ho
      exact upon_enter (call_run hc rfl k1) (fun E => k2 _ E (fun σ' v w' M' h h' => hn σ' _ _ _ h h'))
    · cases hm
  · cases hm
theorem stepR_wp (G : GOK P Γ) (hok : okOp P n ops o x = true) (hs : Sim X n B w0 σ a w M) {k : Nat} {K' : St → Prop} (he : stepR Γ k σ x K')
    {K : Act → World → Prop} {E : Exit → Act → World → Prop} (hn : ∀ σ' a' w' M', K' σ' → Sim X n B w0 σ' a' w' M' → K a' w') :
    if Region.wanted o (yielded ops a.tmps) then o.wp P a w K E else K (a.put o.dst undef) w := by
  unfold stepR at he
  split at he
  · rename_i f ys hx
    split at he
    · rename_i hg
      exact callr_step G hok hg hs hx he hn
    · exact he.elim
  · split at he
    · rename_i vc σ' hst
      exact step_wp G hok hs hst he.1 (fun a' w' M' h => hn σ' a' w' M' (he.2 he.1) h)
    · exact he.elim
def okOps (P : Program) (n : Nat) (ops : Array Oper) : List Oper → List XOp → Bool
  | [], [] => true
  | o :: os, x :: xs => okOp P n ops o x && okOps P n ops os xs
  | _, _ => false

theorem runX_list (G : GOK P Γ) {E : Exit → Act → World → Prop} {K : St → Prop} (hK : ∀ σ' a' w' M', K σ' → Sim X n B w0 σ' a' w' M' → E .normal a' w') : ∀ {l : List Oper} {xs : List XOp} {σ : St} {a : Act} {w : World} {M : Gh} {k : Nat},
    okOps P n ops l xs = true → Sim X n B w0 σ a w M → runX Γ k xs σ K → wpList P ops E l a w := by
  intro l
  induction l with
  | nil =>
    intro xs σ a w M k hok hs hr
    cases xs with
    | nil => exact wpList_nil (hK σ a w M hr hs)
    | cons _ _ => simp [okOps] at hok
  | cons o l ih =>
    intro xs σ a w M k hok hs hr
    cases xs with
    | nil => simp [okOps] at hok
    | cons x xs =>
      simp only [okOps, Bool.and_eq_true] at hok
      simp only [runX] at hr
      exact wpList_step fun K hK => stepR_wp G hok.1 hs hr (fun σ' a' w' M' hk h => hK _ _ (ih hok.2 h hk))
end
end Go.Proofs.Pw
/- Regions whose order is open: what the pure run tells of each operation. -/
namespace Go.Proofs.Pw
open Go.RowKit
set_option linter.unusedSectionVars false
variable [Globs]
section
variable {P : Program} {Γ : FuncId → Option Spec} {σ σ' : St}

/-- The last value of t among the listed operations. -/
def vl (d0 : PV) (t : Nat) (L : Nat → Bool) : Nat → List (Option Nat × PV) → PV
  | _, [] => d0
  | i, (d, p) :: r => vl (if L i && d == some t then p else d0) t L (i + 1) r
theorem vl_congr {t : Nat} {L L' : Nat → Bool} : ∀ {r : List (Option Nat × PV)} {i : Nat} {d0 : PV}, (∀ j p, r[j]? = some (some t, p) → L (i + j) = L' (i + j)) → vl d0 t L i r = vl d0 t L' i r := by
  intro r
  induction r with
  | nil => intro i d0 _; rfl
  | cons x r ih =>
    obtain ⟨d, p⟩ := x
    intro i d0 h
    simp only [vl]
    have e : (if (L i && d == some t) = true then p else d0) = (if (L' i && d == some t) = true then p else d0) := by
      by_cases hd : d = some t
      · subst hd
        have := h 0 p (by simp)
        simp only [Nat.add_zero] at this
        rw [this]
      · have : (d == some t) = false := by simpa using hd
        simp [this]
    rw [e]
    exact ih (fun j p' hj => by have := h (j + 1) p' (by simpa using hj); rwa [show i + (j + 1) = i + 1 + j by omega] at this)
theorem vl_none {t : Nat} {L : Nat → Bool} : ∀ {r : List (Option Nat × PV)} {i : Nat} {d0 : PV}, (∀ j p, r[j]? = some (some t, p) → L (i + j) = false) → vl d0 t L i r = d0 := by
  intro r
  induction r with
  | nil => intro i d0 _; rfl
  | cons x r ih =>
    obtain ⟨d, p⟩ := x
    intro i d0 h
    simp only [vl]
    rw [ih (fun j p' hj => by have := h (j + 1) p' (by simpa using hj); rwa [show i + (j + 1) = i + 1 + j by omega] at this)]
    by_cases hd : d = some t
    · subst hd
      have := h 0 p (by simp)
      simp only [Nat.add_zero] at this
      simp [this]
    · have : (d == some t) = false := by simpa using hd
      simp [this]
theorem vl_last {t : Nat} {L : Nat → Bool} {p : PV} : ∀ {r : List (Option Nat × PV)} {i j : Nat} {d0 : PV}, r[j]? = some (some t, p) → L (i + j) = true → (∀ j' p', j < j' → r[j']? = some (some t, p') → L (i + j') = false) → vl d0 t L i r = p := by
  intro r
  induction r with
  | nil => intro i j d0 h; simp at h
  | cons x r ih =>
    obtain ⟨d, q⟩ := x
    intro i j d0 h hl hn
    simp only [vl]
    cases j with
    | zero =>
      simp only [List.getElem?_cons_zero, Option.some.injEq, Prod.mk.injEq] at h
      obtain ⟨rfl, rfl⟩ := h
      simp only [Nat.add_zero] at hl
      rw [vl_none (fun j p' hj => by have := hn (j + 1) p' (by omega) (by simpa using hj); rwa [show i + (j + 1) = i + 1 + j by omega] at this)]
      simp [hl]
    | succ j =>
      exact ih (by simpa using h) (by rwa [show i + (j + 1) = i + 1 + j by omega] at hl) (fun j' p' hj hp => by have := hn (j' + 1) p' (by omega) (by simpa using hp); rwa [show i + (j' + 1) = i + 1 + j' by omega] at this)

theorem get_del {α : Type} {d : α} {t u : Nat} (h : u ≠ t) : ∀ {l : List (Nat × α)}, get d u (del t l) = get d u l := by
  intro l
  induction l with
  | nil => rfl
  | cons x l ih =>
    obtain ⟨i, y⟩ := x
    simp only [del]
    split
    · rename_i hi; simp only [get]; rw [if_neg (by omega)]; exact ih
    · simp only [get]; rw [ih]
theorem get_upd {α : Type} {d y : α} {t u : Nat} : ∀ {l : List (Nat × α)}, get d u (upd t y l) = if t = u then y else get d u l := by
  intro l
  induction l with
  | nil => simp only [upd, get]
  | cons x l ih =>
    obtain ⟨i, z⟩ := x
    simp only [upd]
    split
    · rename_i hi
      subst hi
      simp only [get]
      split
      · rfl
      · rename_i hne; exact get_del (fun e => hne e.symm)
    · rename_i hi
      simp only [get, ih]
      by_cases h1 : i = u <;> by_cases h2 : t = u <;> simp [h1, h2]
      omega
theorem get_put {dst : Option Nat} {p : PV} {t : Nat} : get (.q .no) t (σ.put dst p).tm = if dst = some t then p else get (.q .no) t σ.tm := by
  cases dst with
  | none => simp [St.put]
  | some d => simp only [St.put, get_upd, Option.some.injEq]
theorem put_bx {dst : Option Nat} {p : PV} : (σ.put dst p).bx = σ.bx ∧ (σ.put dst p).rw = σ.rw := by cases dst <;> exact ⟨rfl, rfl⟩
theorem put_mem {dst : Option Nat} {p q : PV} {t : Nat} (h : (t, q) ∈ (σ.put dst p).tm) : (dst = some t ∧ q = p) ∨ (dst ≠ some t ∧ (t, q) ∈ σ.tm) := by
  cases dst with
  | none => exact .inr ⟨by simp, h⟩
  | some d =>
    rcases upd_mem h with ⟨rfl, rfl⟩ | ⟨h1, h2⟩
    · exact .inl ⟨rfl, rfl⟩
    · exact .inr ⟨fun e => h1 (by cases e; rfl), h2⟩

/-- The run in the order of the text. -/
inductive Tr (Γ : FuncId → Option Spec) : St → List XOp → List (Option Nat × PV) → St → Prop
  | nil (σ : St) : Tr Γ σ [] [] σ
  | cons {σ σ' : St} {x : XOp} {xs : List XOp} {tr : List (Option Nat × PV)} {vc : Prop} {p : PV} (h : stepM Γ σ x = some (vc, p)) (hvc : vc) (t : Tr Γ (σ.put x.dst p) xs tr σ') : Tr Γ σ (x :: xs) ((x.dst, p) :: tr) σ'

theorem stepX_pre (x : XOp) : stepX Γ true σ x = (stepM Γ σ x).map fun r => (r.1, σ.put x.dst r.2) := by
  obtain ⟨d, g, op⟩ := x
  cases g with
  | some _ => rfl
  | none => cases op <;> rfl
theorem runX_pre {K : St → Prop} : ∀ {k : Nat} {xs : List XOp} {σ : St}, k ≤ xs.length → runX Γ k xs σ K → ∃ tr σ', Tr Γ σ (xs.take k) tr σ' ∧ runX Γ 0 (xs.drop k) σ' K := by
  intro k
  induction k with
  | zero => intro xs σ _ h; exact ⟨[], σ, by simpa using Tr.nil σ, by simpa using h⟩
  | succ k ih =>
    intro xs σ hl h
    cases xs with
    | nil => simp at hl
    | cons x xs =>
      simp only [runX, stepR, show (k + 1 != 0) = true from by simp, stepX_pre, Nat.add_sub_cancel] at h
      split at h
      · exact h.elim
      split at h
      · rename_i vc σ1 he
        simp only [Option.map_eq_some_iff, Prod.mk.injEq] at he
        obtain ⟨⟨vc', p⟩, hm, rfl, rfl⟩ := he
        obtain ⟨tr, σ', h1, h2⟩ := ih (by simpa using hl) (h.2 h.1)
        exact ⟨_, σ', by simpa using Tr.cons hm h.1 h1, by simpa using h2⟩
      · exact h.elim

theorem Tr.len {xs : List XOp} {tr : List (Option Nat × PV)} (h : Tr Γ σ xs tr σ') : tr.length = xs.length := by
  induction h with
  | nil => rfl
  | cons _ _ _ ih => simp [ih]
theorem Tr.last {xs : List XOp} {tr : List (Option Nat × PV)} (h : Tr Γ σ xs tr σ') : ∀ s, σ'.bx = σ.bx ∧ σ'.rw = σ.rw ∧ ∀ t, get (.q .no) t σ'.tm = vl (get (.q .no) t σ.tm) t (fun _ => true) s tr := by
  induction h with
  | nil => intro s; exact ⟨rfl, rfl, fun t => rfl⟩
  | cons h hvc t ih =>
    intro s
    obtain ⟨h1, h2, h3⟩ := ih (s + 1)
    refine ⟨h1.trans put_bx.1, h2.trans put_bx.2, fun t => ?_⟩
    rw [h3, get_put]
    simp only [vl, Bool.true_and, beq_iff_eq]
theorem Tr.at {xs : List XOp} {tr : List (Option Nat × PV)} (h : Tr Γ σ xs tr σ') : ∀ (s i : Nat) x, xs[i]? = some x → ∃ σi vc p, stepM Γ σi x = some (vc, p) ∧ vc ∧ tr[i]? = some (x.dst, p) ∧ σi.bx = σ.bx ∧ σi.rw = σ.rw ∧
    ∀ t, get (.q .no) t σi.tm = vl (get (.q .no) t σ.tm) t (fun j => decide (j < s + i)) s tr := by
  induction h with
  | nil => intro s i x hx; simp at hx
  | @cons σ σ' x0 xs tr vc p h hvc tt ih =>
    intro s i x hx
    cases i with
    | zero =>
      simp only [List.getElem?_cons_zero, Option.some.injEq] at hx
      subst hx
      exact ⟨σ, vc, p, h, hvc, by simp, rfl, rfl, fun t => by rw [vl_none]; intro j p' _; simp⟩
    | succ i =>
      obtain ⟨σi, vc', p', h1, h2, h3, h4, h5, h6⟩ := ih (s + 1) i x (by simpa using hx)
      refine ⟨σi, vc', p', h1, h2, by simpa using h3, h4.trans put_bx.1, h5.trans put_bx.2, fun t => ?_⟩
      rw [h6, get_put]
      rw [show s + (i + 1) = s + 1 + i from by omega]
      simp only [vl, show (decide (s < s + 1 + i)) = true from by simp; omega, Bool.true_and, beq_iff_eq]
theorem Tr.stale {xs : List XOp} {tr : List (Option Nat × PV)} (h : Tr Γ σ xs tr σ') {t : Nat} {p : PV} (hp : (t, p) ∈ σ'.tm) : p = get (.q .no) t σ'.tm ∨ ((∀ (j : Nat) (p' : PV), tr[j]? ≠ some (some t, p')) ∧ (t, p) ∈ σ.tm) := by
  induction h with
  | nil => exact .inr ⟨by simp, hp⟩
  | @cons σ σ' x0 xs tr vc p0 h hvc tt ih =>
    rcases ih hp with h1 | ⟨h1, h2⟩
    · exact .inl h1
    · rcases put_mem h2 with ⟨h3, rfl⟩ | ⟨h3, h4⟩
      · left
        rw [(tt.last 0).2.2, vl_none (fun j p' hj => absurd hj (h1 j p')), get_put, if_pos h3]
      · refine .inr ⟨fun j p' hj => ?_, h4⟩
        cases j with
        | zero => simp at hj; exact h3 hj.1
        | succ j => exact h1 j p' (by simpa using hj)
end
end Go.Proofs.Pw
/- Regions whose order is open. -/
namespace Go.Proofs.Pw
open Go.RowKit
set_option linter.unusedSectionVars false
variable [Globs]
section
variable {P : Program} {Γ : FuncId → Option Spec} {σ σ' : St} {a : Act} {w w' : World} {M M' : Gh} {X : Nat → Prop} {B n : Nat} {w0 : W0} {ops : Array Oper}

def XO.rd : XO → List Nat
  | .t n => [n]
  | .k _ => []
def oRd : Option XO → List Nat
  | some x => x.rd
  | none => []
def XK.rd : XK → List Nat
  | .mv x => x.rd
  | .pick c a b => c.rd ++ (a.rd ++ b.rd)
  | .bin _ _ x y => x.rd ++ y.rd
  | .not x => x.rd
  | .load x _ => x.rd
  | .fa x _ => x.rd
  | .ia x i _ => x.rd ++ i.rd
  | .idx x i => x.rd ++ i.rd
  | .fld x _ _ => x.rd
  | .ext x _ => x.rd
  | .len x _ => x.rd
  | .call _ xs => xs.flatMap XO.rd
  | .calli f xs => f.rd ++ xs.flatMap XO.rd
  | .callr _ xs => xs.flatMap XO.rd
  | .mm _ x y => x.rd ++ y.rd
  | .mkf _ x => x.rd
  | .sub x lo hi _ => x.rd ++ (oRd lo ++ oRd hi)
  | .conv _ x => x.rd
  | .build _ ps => ps.flatMap fun p => p.2.1.rd
  | .bsl _ ps => ps.flatMap fun p => p.1.rd
  | .nilc x => x.rd
  | .st x y _ => x.rd ++ y.rd
  | .box x _ => x.rd
  | .alloc _ => []
  | .app x y _ _ => x.rd ++ y.rd
  | .mk x _ _ => x.rd
  | .glb _ => []
def XOp.rd (x : XOp) : List Nat := (match x.g with | some (t, _) => [t] | none => []) ++ x.op.rd

/-- Both states tell the same of t. -/
def Sm (σ σ' : St) (l : List Nat) : Prop := ∀ t ∈ l, get (.q .no) t σ.tm = get (.q .no) t σ'.tm
theorem Sm.l {l l' : List Nat} (h : Sm σ σ' (l ++ l')) : Sm σ σ' l := fun t ht => h t (by simp [ht])
theorem Sm.r {l l' : List Nat} (h : Sm σ σ' (l ++ l')) : Sm σ σ' l' := fun t ht => h t (by simp [ht])
theorem v_congr {x : XO} (h : Sm σ σ' x.rd) : σ.v x = σ'.v x := by
  cases x with
  | t n => simp only [St.v]; rw [h n (by simp [XO.rd])]
  | k q => rfl
theorem args_congr : ∀ {xs : List XO}, Sm σ σ' (xs.flatMap XO.rd) → argsX σ xs = argsX σ' xs := by
  intro xs
  induction xs with
  | nil => intro _; rfl
  | cons x xs ih =>
    intro h
    rw [List.flatMap_cons] at h
    simp only [argsX, v_congr h.l, ih h.r]
theorem build_congr : ∀ {ps : List (Nat × XO × Option Nat)} {r : Prop × List Q}, Sm σ σ' (ps.flatMap fun p => p.2.1.rd) → buildX σ ps r = buildX σ' ps r := by
  intro ps
  induction ps with
  | nil => intro r _; rfl
  | cons p ps ih =>
    obtain ⟨o, x, ag⟩ := p
    intro r h
    rw [List.flatMap_cons] at h
    obtain ⟨vc, qs⟩ := r
    simp only [buildX, v_congr h.l]
    split
    · exact ih h.r
    · rfl
theorem bsl_congr {sz : Nat} : ∀ {ps : List (XO × Option Nat)}, Sm σ σ' (ps.flatMap fun p => p.1.rd) → bslX σ sz ps = bslX σ' sz ps := by
  intro ps
  induction ps with
  | nil => intro _; rfl
  | cons p ps ih =>
    obtain ⟨x, ag⟩ := p
    intro h
    rw [List.flatMap_cons] at h
    simp only [bslX, v_congr h.l, ih h.r]
theorem lo_congr {d : Int} {x : Option XO} (h : Sm σ σ' (oRd x)) : loX σ d x = loX σ' d x := by
  cases x with
  | none => rfl
  | some x => simp only [loX]; rw [v_congr h]
theorem eval_congr (hb : σ.bx = σ'.bx) (hr : σ.rw = σ'.rw) {k : XK} (h : Sm σ σ' k.rd) : evalK Γ σ k = evalK Γ σ' k := by
  cases k with
  | mv x => simp only [evalK, v_congr h]
  | pick c a b => simp only [evalK, v_congr h.l, v_congr h.r.l, v_congr h.r.r]
  | bin bl op x y => simp only [evalK, v_congr h.l, v_congr h.r]
  | not x => simp only [evalK, v_congr h]
  | load x ag => simp only [evalK, v_congr h, hb, hr]
  | fa x off => simp only [evalK, v_congr h]
  | ia x i sz => simp only [evalK, v_congr h.l, v_congr h.r, hr]
  | idx x i => simp only [evalK, v_congr h.l, v_congr h.r]
  | fld x off ag => simp only [evalK, v_congr h]
  | ext x i => simp only [evalK, v_congr h]
  | len x str => cases str <;> simp only [evalK, v_congr h, hr]
  | call f xs => simp only [evalK, callX, args_congr h]
  | calli f xs => simp only [evalK, callX, v_congr h.l, args_congr h.r]
  | callr f xs => rfl
  | mm mx x y => simp only [evalK, v_congr h.l, v_congr h.r]
  | mkf f x => rfl
  | sub x lo hi sz => cases sz <;> simp only [evalK, v_congr h.l, lo_congr h.r.l, lo_congr h.r.r]
  | conv k x => simp only [evalK, v_congr h]
  | build zs ps => simp only [evalK, build_congr h]
  | bsl sz ps =>
    cases ps with
    | nil => rfl
    | cons p ps => simp only [evalK, bsl_congr h]
  | nilc x => simp only [evalK, v_congr h]
  | st x y ag => rfl
  | box x ag => rfl
  | alloc zs => rfl
  | app x y sz bytes => rfl
  | mk x zs bytes => rfl
  | glb i => rfl
theorem step_congr (hb : σ.bx = σ'.bx) (hr : σ.rw = σ'.rw) {x : XOp} (h : Sm σ σ' x.rd) : stepM Γ σ x = stepM Γ σ' x := by
  unfold XOp.rd at h
  unfold stepM
  cases hg : x.g with
  | none => rw [hg] at h; exact eval_congr hb hr h.r
  | some tw =>
    obtain ⟨t, want⟩ := tw
    rw [hg] at h
    simp only
    rw [h t (by simp), eval_congr hb hr h.r]
theorem get_keep {t : Nat} : ∀ {l : List Nat}, t ∈ l → get (PV.q .no) t (l.map fun t => (t, get (.q .no) t σ.tm)) = get (.q .no) t σ.tm := by
  intro l
  induction l with
  | nil => intro h; simp at h
  | cons u l ih =>
    intro h
    simp only [List.map_cons, get]
    split
    · rename_i he; rw [he]
    · rename_i hne
      rcases List.mem_cons.1 h with h | h
      · exact absurd h.symm hne
      · exact ih h

/-! ### What must lie ahead of an operation -/
def uni (a : List Nat) : List Nat → List Nat
  | [] => a
  | x :: r => if a.contains x then uni a r else uni (x :: a) r
theorem mem_uni {j : Nat} : ∀ {b a : List Nat}, j ∈ uni a b → j ∈ a ∨ j ∈ b := by
  intro b
  induction b with
  | nil => intro a h; exact .inl h
  | cons x r ih =>
    intro a h
    simp only [uni] at h
    split at h
    · rcases ih h with h | h
      · exact .inl h
      · exact .inr (by simp [h])
    · rcases ih h with h | h
      · rcases List.mem_cons.1 h with rfl | h
        · exact .inr (by simp)
        · exact .inl h
      · exact .inr (by simp [h])
def aheadL (acc : List (List Nat)) : List Edge → List Nat
  | [] => []
  | e :: es => bif Region.binds .any e then uni (aheadL acc es) (e.on :: acc.getD e.on []) else aheadL acc es
theorem mem_aheadL {acc : List (List Nat)} {j : Nat} : ∀ {es : List Edge}, j ∈ aheadL acc es → ∃ e ∈ es, Region.binds .any e = true ∧ (j = e.on ∨ j ∈ acc.getD e.on []) := by
  intro es
  induction es with
  | nil => intro h; simp [aheadL] at h
  | cons e es ih =>
    intro h
    simp only [aheadL] at h
    cases hb : Region.binds .any e with
    | true =>
      rw [hb, cond_true] at h
      rcases mem_uni h with h | h
      · obtain ⟨e', h1, h2⟩ := ih h; exact ⟨e', by simp [h1], h2⟩
      · exact ⟨e, by simp, hb, by simpa using h⟩
    | false =>
      rw [hb, cond_false] at h
      obtain ⟨e', h1, h2⟩ := ih h; exact ⟨e', by simp [h1], h2⟩
def ahead (o : Oper) (acc : List (List Nat)) : List Nat := aheadL acc o.after.toList
def ancs : List Oper → List (List Nat) → List (List Nat)
  | [], acc => acc
  | o :: os, acc => ancs os (acc ++ [ahead o acc])
def Closed (ops : Array Oper) (L : Nat → Bool) : Prop := ∀ (i : Nat) o, ops[i]? = some o → L i = true → ∀ e ∈ o.after, Region.binds .any e = true → L e.on = true
def AncOk (ops : Array Oper) (acc : List (List Nat)) : Prop := ∀ (i : Nat) o, ops[i]? = some o → i < acc.length → ∀ j ∈ acc.getD i [], ∀ L, Closed ops L → (∀ e ∈ o.after, Region.binds .any e = true → L e.on = true) → L j = true
theorem ancs_ok : ∀ {os : List Oper} {acc : List (List Nat)}, (∀ j, os[j]? = ops[acc.length + j]?) → AncOk ops acc → AncOk ops (ancs os acc) := by
  intro os
  induction os with
  | nil => intro acc _ h; exact h
  | cons o os ih =>
    intro acc hl h
    refine ih (fun j => by have := hl (j + 1); simpa [Nat.add_assoc, Nat.add_comm 1 j] using this) ?_
    intro i o' ho hi j hj L hc he
    by_cases hlt : i < acc.length
    · refine h i o' ho hlt j ?_ L hc he
      simpa [List.getD_eq_getElem?_getD, List.getElem?_append_left hlt] using hj
    · have hie : i = acc.length := by simp at hi; omega
      subst hie
      have h0 := hl 0
      simp only [List.getElem?_cons_zero, Nat.add_zero, ho, Option.some.injEq] at h0
      subst h0
      rw [List.getD_eq_getElem?_getD, List.getElem?_append_right (Nat.le_refl _), Nat.sub_self, List.getElem?_cons_zero, Option.getD_some] at hj
      obtain ⟨e, hem, hb, hj⟩ := mem_aheadL hj
      have hem' : e ∈ o.after := by simpa using hem
      have h1 := he e hem' hb
      rcases hj with rfl | hj
      · exact h1
      · by_cases hel : e.on < acc.length
        · cases hoe : ops[e.on]? with
          | none =>
            have h2 := (Array.getElem?_eq_some_iff.1 ho).1
            have h3 := Array.getElem?_eq_none_iff.1 hoe
            omega
          | some oe => exact h e.on oe hoe hel j hj L hc (hc e.on oe hoe h1)
        · rw [List.getD_eq_getElem?_getD, List.getElem?_eq_none (by omega)] at hj
          simp at hj

def freeOf (x y : XOp) : Bool := match y.dst with
  | none => true
  | some t => !x.rd.contains t && x.dst != some t
def okPair (an : List (List Nat)) (x y : XOp) (i j : Nat) : Bool := i == j || freeOf x y || (decide (j < i) && (an.getD i []).contains j) || (decide (i < j) && (an.getD j []).contains i)
def okPairs (an : List (List Nat)) (xs : List XOp) : Bool := xs.zipIdx.all fun x => xs.zipIdx.all fun y => okPair an x.1 y.1 x.2 y.2
def okEdges (ops : Array Oper) : Bool := ops.toList.zipIdx.all fun o => o.1.after.all fun e => !Region.binds .any e || decide (e.on < o.2)
def okTail (an : List (List Nat)) (npre m : Nat) : Bool := (List.range m).all fun k => decide (k < npre) || (List.range k).all fun j => (an.getD k []).contains j
def okDraw (ops : Array Oper) (xs : List XOp) (npre : Nat) : Bool :=
  decide (npre ≤ xs.length) && okEdges ops && okTail (ancs ops.toList []) npre xs.length && okPairs (ancs ops.toList []) (xs.take npre)
end
end Go.Proofs.Pw
/- Regions whose order is open, run. -/
namespace Go.Proofs.Pw
open Go.RowKit
set_option linter.unusedSectionVars false
variable [Globs]
section
variable {P : Program} {Γ : FuncId → Option Spec} {σ σ' : St} {a : Act} {w w' : World} {M M' : Gh} {X : Nat → Prop} {B n : Nat} {w0 : W0} {ops : Array Oper}

def Lst (listed : Array Bool) (i : Nat) : Bool := listed.getD i false
def cnt (listed : Array Bool) : Nat := listed.toList.countP fun b => !b
theorem cnt_zero {listed : Array Bool} (h : cnt listed = 0) {i : Nat} (hi : i < listed.size) : Lst listed i = true := by
  unfold cnt at h
  rw [List.countP_eq_zero] at h
  have := h listed[i] (by simp)
  simpa [Lst, Array.getD, hi] using this
theorem cnt_set {listed : Array Bool} {i : Nat} (hi : i < listed.size) (h : Lst listed i = false) : cnt (listed.setIfInBounds i true) + 1 = cnt listed := by
  have hx : listed[i] = false := by simpa [Lst, Array.getD, hi] using h
  have hpos : 0 < listed.toList.countP fun b => !b := List.countP_pos_iff.2 ⟨listed[i], by simp, by simp [hx]⟩
  unfold cnt
  rw [Array.toList_setIfInBounds, List.countP_set (by simpa using hi)]
  simp only [Array.getElem_toList, hx, Bool.not_false, if_true, Bool.not_true, Bool.false_eq_true, if_false]
  omega
theorem Lst_set {listed : Array Bool} {i j : Nat} (hi : i < listed.size) : Lst (listed.setIfInBounds i true) j = (Lst listed j || decide (j = i)) := by
  simp only [Lst, Array.getD_eq_getD_getElem?, Array.getElem?_setIfInBounds]
  by_cases h : i = j
  · subst h; simp [hi]
  · rw [if_neg h]; simp [show ¬ j = i from fun e => h e.symm]
theorem ready_mem {listed : Array Bool} {i : Nat} (hsz : listed.size = ops.size) : i ∈ Region.ready .any ops listed ↔ i < ops.size ∧ Lst listed i = false ∧ ∃ o, ops[i]? = some o ∧ ∀ e ∈ o.after, Region.binds .any e = true → Lst listed e.on = true := by
  simp only [Region.ready, List.mem_filter, List.mem_range, Bool.and_eq_true, Bool.not_eq_true']
  constructor
  · rintro ⟨h1, h2, h3⟩
    refine ⟨h1, ?_, ?_⟩
    · simpa [Lst, Array.getD, hsz, h1] using h2
    · cases ho : ops[i]? with
      | none => rw [ho] at h3; simp at h3
      | some o =>
        rw [ho] at h3
        simp only [Option.map_some, Option.getD_some, Array.all_eq_true_iff_forall_mem] at h3
        refine ⟨o, rfl, fun e he hb => ?_⟩
        have := h3 e he
        simpa [hb, Lst] using this
  · rintro ⟨h1, h2, o, ho, h3⟩
    refine ⟨h1, ?_, ?_⟩
    · simpa [Lst, Array.getD, hsz, h1] using h2
    · rw [ho]
      simp only [Option.map_some, Option.getD_some, Array.all_eq_true_iff_forall_mem]
      intro e he
      cases hb : Region.binds .any e with
      | false => simp
      | true => simpa [Lst] using h3 e he hb

theorem edges_lt (h : okEdges ops = true) {i : Nat} {o : Oper} (ho : ops[i]? = some o) {e : Edge} (he : e ∈ o.after) (hb : Region.binds .any e = true) : e.on < i := by
  unfold okEdges at h
  rw [List.all_eq_true] at h
  have := h (o, i) (List.mem_zipIdx_iff_getElem?.2 (by simpa using ho))
  rw [Array.all_eq_true_iff_forall_mem] at this
  simpa [hb] using this e he
theorem ready_some (h : okEdges ops = true) {listed : Array Bool} (hsz : listed.size = ops.size) : ∀ (i : Nat), i < ops.size → Lst listed i = false → ∃ r, r ∈ Region.ready .any ops listed := by
  intro i
  induction i using Nat.strongRecOn with
  | _ i ih =>
    intro hi hl
    by_cases hall : ∀ j, j < i → Lst listed j = true
    · refine ⟨i, (ready_mem hsz).2 ⟨hi, hl, ops[i], by simp [hi], fun e he hb => hall _ (edges_lt h (by simp [hi]) he hb)⟩⟩
    · simp only [Classical.not_forall] at hall
      obtain ⟨j, hj, hn⟩ := hall
      exact ih j hj (by omega) (by simpa using hn)
theorem tail_all {npre m : Nat} (h : okTail (ancs ops.toList []) npre m = true) {listed : Array Bool} (hc : Closed ops (Lst listed)) {i : Nat} {o : Oper} (ho : ops[i]? = some o) (him : i < m) (hn : npre ≤ i)
    (he : ∀ e ∈ o.after, Region.binds .any e = true → Lst listed e.on = true) : ∀ j, j < i → Lst listed j = true := by
  intro j hj
  unfold okTail at h
  rw [List.all_eq_true] at h
  have := h i (by simpa using him)
  simp only [Bool.or_eq_true, decide_eq_true_eq, List.all_eq_true, List.mem_range] at this
  have hmem := (this.resolve_left (by omega)) j hj
  have hanc : AncOk ops (ancs ops.toList []) := ancs_ok (by simp) (fun i o _ hi => by simp at hi)
  by_cases hlen : i < (ancs ops.toList []).length
  · exact hanc i o ho hlen j (by simpa using hmem) _ hc he
  · rw [List.getD_eq_getElem?_getD, List.getElem?_eq_none (by omega)] at hmem
    simp at hmem
theorem anc_all {an : Nat} {listed : Array Bool} (hc : Closed ops (Lst listed)) {i : Nat} {o : Oper} (ho : ops[i]? = some o)
    (he : ∀ e ∈ o.after, Region.binds .any e = true → Lst listed e.on = true) (hm : an ∈ (ancs ops.toList []).getD i []) : Lst listed an = true := by
  have hanc : AncOk ops (ancs ops.toList []) := ancs_ok (by simp) (fun i o _ hi => by simp at hi)
  by_cases hlen : i < (ancs ops.toList []).length
  · exact hanc i o ho hlen an hm _ hc he
  · rw [List.getD_eq_getElem?_getD, List.getElem?_eq_none (by omega)] at hm
    simp at hm
theorem closed_set {listed : Array Bool} (hc : Closed ops (Lst listed)) {i : Nat} {o : Oper} (hi : i < listed.size) (ho : ops[i]? = some o)
    (he : ∀ e ∈ o.after, Region.binds .any e = true → Lst listed e.on = true) : Closed ops (Lst (listed.setIfInBounds i true)) := by
  intro j oj hj hl e hem hb
  rw [Lst_set hi] at hl ⊢
  simp only [Bool.or_eq_true, decide_eq_true_eq] at hl ⊢
  rcases hl with hl | rfl
  · exact .inl (hc j oj hj hl e hem hb)
  · rw [ho] at hj; cases hj
    exact .inl (he e hem hb)

theorem okOps_at {n : Nat} : ∀ {os : List Oper} {xs : List XOp} {i : Nat} {o : Oper}, okOps P n ops os xs = true → os[i]? = some o → ∃ x, xs[i]? = some x ∧ okOp P n ops o x = true := by
  intro os
  induction os with
  | nil => intro xs i o _ h; simp at h
  | cons o' os ih =>
    intro xs i o hok h
    cases xs with
    | nil => simp [okOps] at hok
    | cons x xs =>
      simp only [okOps, Bool.and_eq_true] at hok
      cases i with
      | zero => simp at h; subst h; exact ⟨x, rfl, hok.1⟩
      | succ i => simpa using ih hok.2 (by simpa using h)
theorem okOps_len {n : Nat} : ∀ {os : List Oper} {xs : List XOp}, okOps P n ops os xs = true → os.length = xs.length := by
  intro os
  induction os with
  | nil => intro xs h; cases xs with
    | nil => rfl
    | cons _ _ => simp [okOps] at h
  | cons o os ih => intro xs h; cases xs with
    | nil => simp [okOps] at h
    | cons x xs =>
      simp only [okOps, Bool.and_eq_true] at h
      simp [ih h.2]

/-- The tail: each operation waits for all ahead of it. -/
theorem draw_tail (G : GOK P Γ) {E : Exit → Act → World → Prop} {K : St → Prop} (hK : ∀ σ' a' w' M', K σ' → Sim X n B w0 σ' a' w' M' → E .normal a' w') {xs : List XOp} {npre : Nat} (hok : okOps P n ops ops.toList xs = true)
    (hed : okEdges ops = true) (htl : okTail (ancs ops.toList []) npre xs.length = true) :
    ∀ (fuel k : Nat) (listed : Array Bool) (σ : St) (a : Act) (w : World) (M : Gh), npre ≤ k → k ≤ ops.size → listed.size = ops.size → (∀ i, i < ops.size → Lst listed i = decide (i < k)) → Closed ops (Lst listed) → cnt listed ≤ fuel →
      Sim X n B w0 σ a w M → runX Γ 0 (xs.drop k) σ K → wpAny P .any ops E fuel listed a w := by
  have hlen : ops.size = xs.length := by simpa using okOps_len hok
  intro fuel
  induction fuel with
  | zero =>
    intro k listed σ a w M hk hks hsz hl hcl hc hs hr
    have hkk : k = ops.size := by
      by_cases h : k = ops.size
      · exact h
      · have h1 := cnt_zero (by omega : cnt listed = 0) (i := k) (by omega)
        rw [hl k (by omega)] at h1; simp at h1
    refine ⟨?_, ?_⟩
    · rw [List.eq_nil_iff_forall_not_mem]
      intro i hi
      obtain ⟨h1, h2, _⟩ := (ready_mem hsz).1 hi
      rw [hl i h1] at h2
      simp at h2; omega
    · rw [hkk, hlen, List.drop_length] at hr
      exact hK σ a w M hr hs
  | succ fuel ih =>
    intro k listed σ a w M hk hks hsz hl hcl hc hs hr
    refine ⟨fun hnil => ?_, fun i hi => ?_⟩
    · have hkk : k = ops.size := by
        by_cases h : k = ops.size
        · exact h
        · obtain ⟨r, hr⟩ := ready_some hed hsz k (by omega) (by rw [hl k (by omega)]; simp)
          rw [hnil] at hr; simp at hr
      rw [hkk, hlen, List.drop_length] at hr
      exact hK σ a w M hr hs
    · obtain ⟨h1, h2, o, ho, he⟩ := (ready_mem hsz).1 hi
      have hik : k ≤ i := by rw [hl i h1] at h2; simpa using h2
      have hall := tail_all htl hcl ho (by omega) (by omega) he
      have hki : i = k := by
        by_cases h : i = k
        · exact h
        · have := hall k (by omega)
          rw [hl k (by omega)] at this; simp at this
      subst hki
      obtain ⟨x, hx, hop⟩ := okOps_at hok (by simpa using ho)
      rw [List.drop_eq_getElem_cons (by omega)] at hr
      have hx' : xs[i]'(by omega) = x := by
        rw [List.getElem?_eq_getElem (by omega)] at hx; simpa using hx
      rw [hx'] at hr
      simp only [runX] at hr
      unfold wpOp
      rw [ho]
      have key := stepR_wp (K := wpAny P .any ops E fuel (listed.setIfInBounds i true)) (E := E) G hop hs hr (fun σ1 a' w' M' hk h => ih (i + 1) _ σ1 a' w' M' (by omega) (by omega) (by simpa using hsz) (fun j hj => by
        rw [Lst_set (by omega), hl j hj]
        rw [← Bool.decide_or]
        congr 1
        exact propext ⟨fun h => by omega, fun h => by omega⟩) (closed_set hcl (by omega) ho he) (by have := cnt_set (listed := listed) (i := i) (by omega) h2; omega) h hk)
      simp only
      split
      · rename_i hw; rw [if_pos hw] at key; exact .inl key
      · rename_i hw; rw [if_neg hw] at key; exact key
end
end Go.Proofs.Pw
/- Regions whose order is open: the head, in any order; the whole. -/
namespace Go.Proofs.Pw
open Go.RowKit
set_option linter.unusedSectionVars false
variable [Globs]
section
variable {P : Program} {Γ : FuncId → Option Spec} {σ σ' : St} {a : Act} {w w' : World} {M M' : Gh} {X : Nat → Prop} {B n : Nat} {w0 : W0} {ops : Array Oper}

theorem pairs_at {an : List (List Nat)} {xs : List XOp} (h : okPairs an xs = true) {i j : Nat} {x y : XOp} (hx : xs[i]? = some x) (hy : xs[j]? = some y) : okPair an x y i j = true := by
  unfold okPairs at h
  rw [List.all_eq_true] at h
  have h1 := h (x, i) (List.mem_zipIdx_iff_getElem?.2 hx)
  rw [List.all_eq_true] at h1
  exact h1 (y, j) (List.mem_zipIdx_iff_getElem?.2 hy)
/-- Two operations that touch the same: which is listed first. -/
theorem pair_cases {xs : List XOp} {npre : Nat} (hp : okPairs (ancs ops.toList []) (xs.take npre) = true) {listed : Array Bool} (hcl : Closed ops (Lst listed)) {i j : Nat} {x y : XOp} {o : Oper} (hi : Lst listed i = false) (ho : ops[i]? = some o)
    (he : ∀ e ∈ o.after, Region.binds .any e = true → Lst listed e.on = true) (hj : j < ops.size) (hx : (xs.take npre)[i]? = some x) (hy : (xs.take npre)[j]? = some y) (hf : freeOf x y = false) :
    Lst listed j = decide (j < i) := by
  have h := pairs_at hp hx hy
  unfold okPair at h
  rw [hf] at h
  simp only [Bool.or_false, Bool.or_eq_true, beq_iff_eq, Bool.and_eq_true, decide_eq_true_eq, List.contains_iff_mem] at h
  rcases h with (rfl | ⟨h1, h2⟩) | ⟨h1, h2⟩
  · rw [hi]; simp
  · rw [anc_all hcl ho he h2]; simp [h1]
  · have : Lst listed j = false := by
      cases hl : Lst listed j with
      | false => rfl
      | true =>
        have hoj : ops[j]? = some ops[j] := by simp [hj]
        have := anc_all hcl hoj (hcl j _ hoj hl) h2
        rw [hi] at this; cases this
    rw [this]; simp; omega

theorem put_same {d : Nat} {v : Value} (h : d < a.tmps.size) : (a.put (some d) v).tmps.getD d undef = v := by
  simp [Act.put, Array.getD_eq_getD_getElem?, h]
theorem put_other {dst : Option Nat} {t : Nat} {v : Value} (h : dst ≠ some t) : (a.put dst v).tmps.getD t undef = a.tmps.getD t undef := by
  cases dst with
  | none => rfl
  | some d =>
    simp only [Act.put, Array.getD_eq_getD_getElem?, Array.getElem?_setIfInBounds]
    rw [if_neg (fun e => h (by rw [e]))]

theorem draw_pre (G : GOK P Γ) {E : Exit → Act → World → Prop} {K : St → Prop} (hK : ∀ σ' a' w' M', K σ' → Sim X n B w0 σ' a' w' M' → E .normal a' w') {xs : List XOp} {npre : Nat} (hok : okOps P n ops ops.toList xs = true)
    (hdr : okDraw ops xs npre = true) {σ0 σk : St} {tr : List (Option Nat × PV)} (htr : Tr Γ σ0 (xs.take npre) tr σk) (hrun : runX Γ 0 (xs.drop npre) σk K) :
    ∀ (fuel : Nat) (listed : Array Bool) (a : Act) (w : World) (M : Gh), listed.size = ops.size → Closed ops (Lst listed) → (∀ i, i < ops.size → Lst listed i = true → i < npre) → cnt listed ≤ fuel →
      Sim X n B w0 { σ0 with tm := [] } a w M → (∀ t, RelV w M (vl (get (.q .no) t σ0.tm) t (Lst listed) 0 tr) (a.tmps.getD t undef)) →
      (∀ t p, (t, p) ∈ σ0.tm → (∀ (j : Nat) p', tr[j]? = some (some t, p') → Lst listed j = false) → RelV w M p (a.tmps.getD t undef)) → wpAny P .any ops E fuel listed a w := by
  have hlen : ops.size = xs.length := by simpa using okOps_len hok
  simp only [okDraw, Bool.and_eq_true, decide_eq_true_eq] at hdr
  obtain ⟨⟨⟨hn, hed⟩, htl⟩, hpr⟩ := hdr
  have htlen : tr.length = npre := by rw [htr.len, List.length_take]; omega
  intro fuel
  induction fuel with
  | zero =>
    intro listed a w M hsz hcl hpre hc hs hag hst
    have hall : ∀ i, i < npre → Lst listed i = true := fun i hi => cnt_zero (by omega) (by omega)
    obtain ⟨hb, hr, hlast⟩ := htr.last 0
    refine draw_tail G hK hok hed htl 0 npre listed σk a w M (Nat.le_refl _) (by omega) hsz (fun i hi => ?_) hcl hc ⟨hs.size, hs.defs, fun t p hp => ?_, by rw [hb, hr]; exact hs.mem, hs.fr, hs.hB, hs.sS, hs.sβ⟩ hrun
    · by_cases h : i < npre
      · rw [hall i h]; simp [h]
      · cases hl : Lst listed i with
        | false => simp [h]
        | true => exact absurd (hpre i hi hl) h
    · rcases htr.stale hp with rfl | ⟨h1, h2⟩
      · rw [hlast t, vl_congr (L' := Lst listed) (fun j p' hj => by rw [Nat.zero_add, hall j (by rw [← htlen]; exact (List.getElem?_eq_some_iff.1 hj).1)])]
        exact hag t
      · exact hst t p h2 (fun j p' hj => absurd hj (h1 j p'))
  | succ fuel ih =>
    intro listed a w M hsz hcl hpre hc hs hag hst
    by_cases hall : ∀ i, i < npre → Lst listed i = true
    · obtain ⟨hb, hr, hlast⟩ := htr.last 0
      refine draw_tail G hK hok hed htl (fuel + 1) npre listed σk a w M (Nat.le_refl _) (by omega) hsz (fun i hi => ?_) hcl hc ⟨hs.size, hs.defs, fun t p hp => ?_, by rw [hb, hr]; exact hs.mem, hs.fr, hs.hB, hs.sS, hs.sβ⟩ hrun
      · by_cases h : i < npre
        · rw [hall i h]; simp [h]
        · cases hl : Lst listed i with
          | false => simp [h]
          | true => exact absurd (hpre i hi hl) h
      · rcases htr.stale hp with rfl | ⟨h1, h2⟩
        · rw [hlast t, vl_congr (L' := Lst listed) (fun j p' hj => by rw [Nat.zero_add, hall j (by rw [← htlen]; exact (List.getElem?_eq_some_iff.1 hj).1)])]
          exact hag t
        · exact hst t p h2 (fun j p' hj => absurd hj (h1 j p'))
    · refine ⟨fun hnil => ?_, fun i hi => ?_⟩
      · simp only [Classical.not_forall] at hall
        obtain ⟨i, hi, hl⟩ := hall
        obtain ⟨r, hr⟩ := ready_some hed hsz i (by omega) (by simpa using hl)
        rw [hnil] at hr; simp at hr
      · obtain ⟨h1, h2, o, ho, he⟩ := (ready_mem hsz).1 hi
        by_cases hin : npre ≤ i
        · exact absurd (fun j hj => tail_all htl hcl ho (by omega) hin he j (by omega)) hall
        · obtain ⟨x, hx, hop⟩ := okOps_at hok (by simpa using ho)
          have hxt : (xs.take npre)[i]? = some x := by rw [List.getElem?_take, if_pos (by omega)]; exact hx
          obtain ⟨σi, vc, p, hst', hvc, hti, hb, hr, hget⟩ := htr.at 0 i x hxt
          have hwr : ∀ (j : Nat) t p', tr[j]? = some (some t, p') → ∃ y, (xs.take npre)[j]? = some y ∧ y.dst = some t ∧ j < ops.size := fun j t p' hj => by
            have hjl : j < npre := by rw [← htlen]; exact (List.getElem?_eq_some_iff.1 hj).1
            have hjx : j < xs.length := by omega
            have hy : (xs.take npre)[j]? = some xs[j] := by rw [List.getElem?_take, if_pos hjl]; simp [hjx]
            obtain ⟨_, _, q, _, _, hq, _⟩ := htr.at 0 j _ hy
            rw [hq] at hj
            simp only [Option.some.injEq, Prod.mk.injEq] at hj
            exact ⟨_, hy, hj.1, by omega⟩
          obtain ⟨hd1, hd2⟩ := okOp_dst hop
          unfold wpOp
          rw [ho]
          have hkeep : stepM Γ { σi with tm := x.rd.map fun t => (t, get (.q .no) t σi.tm) } x = some (vc, p) := by
            rw [← hst']
            exact step_congr (σ := { σi with tm := x.rd.map fun t => (t, get (.q .no) t σi.tm) }) (σ' := σi) rfl rfl (fun t ht => get_keep (σ := σi) ht)
          have key := mono_step (K := wpAny P .any ops E fuel (listed.setIfInBounds i true)) (E := E) G hop hkeep hvc (a := a) (w := w) (M := M) (X := X) (B := B) (fun t q hq => by
              simp only [List.mem_map, Prod.mk.injEq] at hq
              obtain ⟨t', ht', rfl, rfl⟩ := hq
              rw [hget, vl_congr (L' := Lst listed)]
              · exact hag t'
              · intro j p' hj
                obtain ⟨y, hy, hyd, hjs⟩ := hwr j _ p' hj
                rw [Nat.zero_add, Nat.zero_add]
                refine (pair_cases hpr hcl h2 ho he hjs hxt hy ?_).symm
                simp only [freeOf, hyd, Bool.and_eq_false_iff, Bool.not_eq_false']
                exact .inl (by simpa using ht'))
            (by rw [show ({ σi with tm := x.rd.map fun t => (t, get (.q .no) t σi.tm) } : St).bx = σ0.bx from hb, show ({ σi with tm := x.rd.map fun t => (t, get (.q .no) t σi.tm) } : St).rw = σ0.rw from hr]; exact hs.mem)
            (fun v w' M' hu hv => by
              refine ih (listed.setIfInBounds i true) (a.put o.dst v) w' M' (by simpa using hsz) (closed_set hcl (by omega) ho he) (fun j hj hl => ?_) (by have := cnt_set (listed := listed) (i := i) (by omega) h2; omega) ⟨?_, ?_, ?_, ?_, ?_, ?_, hs.upS hu, by rw [hu.β]; exact hs.sβ⟩ (fun t => ?_) (fun t q hq hnw => ?_)
              · rw [Lst_set (by omega)] at hl
                simp only [Bool.or_eq_true, decide_eq_true_eq] at hl
                rcases hl with hl | rfl
                · exact hpre j hj hl
                · omega
              · have := hs.size
                cases hdd : o.dst <;> simpa [Act.put] using this
              · have := hs.defs
                cases hdd : o.dst <;> simpa [Act.put] using this
              · intro t q hq; simp at hq
              · exact hs.mem.up hu (fun _ _ _ h => h) (fun _ _ _ _ _ h => h)
              · exact hs.fr.trans (hu.fr.weak hs.hB (fun _ _ h => h.elim))
              · exact Nat.le_trans hs.hB hu.fr.size
              · by_cases hdt : o.dst = some t
                · rw [hdt, put_same (by rw [hs.size]; exact hd2 t hdt)]
                  rw [hd1] at hdt
                  rw [hdt] at hti
                  rw [vl_last hti (by rw [Nat.zero_add, Lst_set (by omega)]; simp) (fun j' p' hlt hj' => by
                    obtain ⟨y, hy, hyd, hjs⟩ := hwr j' _ p' hj'
                    rw [Nat.zero_add, Lst_set (by omega), pair_cases hpr hcl h2 ho he hjs hxt hy (by simp [freeOf, hyd, hdt])]
                    simp; omega)]
                  exact hv
                · rw [put_other hdt]
                  rw [vl_congr (L' := Lst listed) (fun j p' hj => by
                    rw [Nat.zero_add, Lst_set (by omega)]
                    by_cases hji : j = i
                    · subst hji
                      rw [hti] at hj
                      simp only [Option.some.injEq, Prod.mk.injEq] at hj
                      exact absurd (hd1.trans hj.1) hdt
                    · simp [hji])]
                  exact hu.v hs.mem.lt (hag t)
              · by_cases hdt : o.dst = some t
                · have := hnw i p (by rw [hti, ← hd1, hdt])
                  rw [Lst_set (by omega)] at this
                  simp at this
                · rw [put_other hdt]
                  refine hu.v hs.mem.lt (hst t q hq (fun j p' hj => ?_))
                  have := hnw j p' hj
                  rw [Lst_set (by omega)] at this
                  simp only [Bool.or_eq_false_iff] at this
                  exact this.1)
          simp only
          split
          · rename_i hw; rw [if_pos hw] at key; exact .inl key
          · rename_i hw; rw [if_neg hw] at key; exact key

theorem Sim.drew (hs : Sim X n B w0 σ a w M) : Sim X n B w0 σ a { w with drawn := w.drawn + 1 } M := by
  have hu : Up (fun _ => False) w M { w with drawn := w.drawn + 1 } M := ⟨rfl, rfl, fun _ h => h, fun _ h => .inl h, hs.mem.lt, fun _ _ h => h, ⟨rfl, rfl, rfl, Nat.le_refl _, fun _ _ _ => rfl, fun _ => rfl⟩⟩
  exact ⟨hs.size, hs.defs, fun t p h => hu.v hs.mem.lt (hs.tm t p h), hs.mem.up hu (fun _ _ _ h => h) (fun _ _ _ _ _ h => h), hs.fr.trans (hu.fr.weak hs.hB (fun _ _ h => h.elim)), hs.hB, hs.sS, hs.sβ⟩

theorem draw_wp (hm : P.follows .mixedOrders = true) (G : GOK P Γ) {E : Exit → Act → World → Prop} {K : St → Prop} (hK : ∀ σ' a' w' M', K σ' → Sim X n B w0 σ' a' w' M' → E .normal a' w') {xs : List XOp} {npre : Nat} (hok : okOps P n ops ops.toList xs = true)
    (hdr : okDraw ops xs npre = true) (hs : Sim X n B w0 σ a w M) (hr : runX Γ npre xs σ K) {id : Nat} : (Code.region id ops true).wp P E a w := by
  have hn : npre ≤ xs.length := by
    simp only [okDraw, Bool.and_eq_true, decide_eq_true_eq] at hdr
    exact hdr.1.1.1
  obtain ⟨tr, σk, h1, h2⟩ := runX_pre hn hr
  have hs' := hs.drew
  have hL : ∀ i, Lst (Array.replicate ops.size false) i = false := fun i => by
    simp only [Lst, Array.getD_eq_getD_getElem?, Array.getElem?_replicate]
    split <;> rfl
  refine wp_region_any hm (draw_pre G hK hok hdr h1 h2 ops.size _ a _ M (by simp) (fun i o _ hl => ?_) (fun i _ hl => ?_) ?_ ⟨hs'.size, hs'.defs, fun t q h => ?_, hs'.mem, hs'.fr, hs'.hB, hs'.sS, hs'.sβ⟩ (fun t => ?_) (fun t p hp _ => hs'.tm t p hp))
  · rw [hL] at hl; cases hl
  · rw [hL] at hl; cases hl
  · refine Nat.le_trans (List.countP_le_length ..) (by simp)
  · simp at h
  · rw [vl_none (fun j p _ => hL _)]
    exact look_rel hs'.tm t
end
end Go.Proofs.Pw
/- The small code as a whole. -/
namespace Go.Proofs.Pw
open Go.RowKit
set_option linter.unusedSectionVars false
variable [Globs]
section
variable {P : Program} {Γ : FuncId → Option Spec} {σ σ' : St} {a : Act} {w w' : World} {M M' : Gh} {X₀ : Nat → Prop} {B n : Nat} {w0 : W0} {ops : Array Oper}

def chkX (P : Program) (n : Nat) : Code → X → Bool
  | _, .bad => true
  | .skip, .skip => true
  | .ret, .ret => true
  | .exit i, .exit j => i == j
  | .seq a b, .seq x y => chkX P n a x && chkX P n b y
  | .cond c a b, .cond y x x' => okO c y && chkX P n a x && chkX P n b x'
  | .block i c, .block j x => i == j && chkX P n c x
  | .loop c, .loop x => chkX P n c x
  | .region _ ops draw, .reg xs dr _ => okOps P n ops ops.toList xs && (match draw, dr with
    | false, none => true
    | true, some npre => okDraw ops xs npre && P.follows .mixedOrders
    | _, _ => false)
  | _, _ => false

theorem Sim.keep (hs : Sim X₀ n B w0 σ a w M) (live : List Nat) : Sim X₀ n B w0 (σ.keep live) a w M :=
  ⟨hs.size, hs.defs, fun t p h => by
    simp only [St.keep, List.mem_map, Prod.mk.injEq] at h
    obtain ⟨t', _, rfl, rfl⟩ := h
    exact look_rel hs.tm _, hs.mem, hs.fr, hs.hB, hs.sS, hs.sβ⟩

def post (Q : Ex → St → Prop) (X₀ : Nat → Prop) (n B : Nat) (w0 : W0) : Exit → Act → World → Prop
  | .normal, a, w => ∃ σ M, Q .normal σ ∧ Sim X₀ n B w0 σ a w M
  | .exit i, a, w => ∃ σ M, Q (.exit i) σ ∧ Sim X₀ n B w0 σ a w M
  | .ret, a, w => ∃ σ M, Q .ret σ ∧ Sim X₀ n B w0 σ a w M
  | _, _, _ => False

theorem pw_wp (G : GOK P Γ) : ∀ (x : X) {c : Code} {Q : Ex → St → Prop} {σ : St} {a : Act} {w : World} {M : Gh}, chkX P n c x = true → pw Γ x Q σ → Sim X₀ n B w0 σ a w M → c.wp P (post Q X₀ n B w0) a w := by
  intro x
  induction x with
  | bad => intro c Q σ a w M _ hp; exact hp.elim
  | skip =>
    intro c Q σ a w M hc hp hs
    cases c <;> simp [chkX] at hc
    exact wp_skip ⟨σ, M, hp, hs⟩
  | ret =>
    intro c Q σ a w M hc hp hs
    cases c <;> simp [chkX] at hc
    exact wp_ret ⟨σ, M, hp, hs⟩
  | exit id =>
    intro c Q σ a w M hc hp hs
    cases c <;> simp [chkX] at hc
    subst hc
    exact wp_exit ⟨σ, M, hp, hs⟩
  | seq x y ihx ihy =>
    intro c Q σ a w M hc hp hs
    cases c <;> simp [chkX] at hc
    obtain ⟨h1, h2⟩ := hc
    refine wp_seq (wp_mono (ihx h1 hp hs) ?_)
    intro e a' w' h
    cases e with
    | normal => obtain ⟨σ', M', hq, hs'⟩ := h; exact ihy h2 hq hs'
    | exit i => exact h
    | ret => exact h
    | goto l => exact h.elim
    | panic ch => exact h.elim
    | outgrown => exact h.elim
  | cond y x x' ihx ihy =>
    intro c Q σ a w M hc hp hs
    cases c <;> simp [chkX] at hc
    obtain ⟨⟨h0, h1⟩, h2⟩ := hc
    simp only [pw] at hp
    split at hp
    · rename_i g t e1
      obtain ⟨hg, ht, hf⟩ := hp
      have := okO_rel hs.tm h0 (by rw [e1]; exact hg)
      rw [e1] at this
      exact wp_cond_split (relC_bool this) (fun h => ihx h1 (ht h) hs) (fun h => ihy h2 (hf h) hs)
    · exact hp.elim
  | block id x ih =>
    intro c Q σ a w M hc hp hs
    cases c <;> simp [chkX] at hc
    obtain ⟨rfl, h1⟩ := hc
    refine wp_block (wp_mono (ih h1 hp hs) ?_)
    intro e a' w' h
    cases e with
    | normal => exact h
    | exit i =>
      obtain ⟨σ', M', hq, hs'⟩ := h
      simp only [Exit.inBlock]
      simp only [blkQ] at hq
      split
      · rename_i hi; rw [if_pos hi] at hq; exact ⟨σ', M', hq, hs'⟩
      · rename_i hi; rw [if_neg hi] at hq; exact ⟨σ', M', hq, hs'⟩
    | ret => exact h
    | goto l => exact h.elim
    | panic ch => exact h.elim
    | outgrown => exact h.elim
  | loop x ih =>
    intro c Q σ a w M hc hp hs
    cases c <;> simp [chkX] at hc
    obtain ⟨I, ⟨k, σ', hle, hI⟩, hr⟩ := hp
    obtain ⟨M1, h1⟩ := hle _ _ _ _ _ _ _ hs
    refine wp_loop_ghost (fun k a w => ∃ σ M, I k σ ∧ Sim X₀ n B w0 σ a w M) k ⟨σ', M1, hI, h1⟩ ?_
    rintro k a w ⟨σ, M, hI, hs⟩
    refine wp_mono (ih hc (hr k σ hI) hs) ?_
    intro e a' w' h
    cases e with
    | normal =>
      obtain ⟨σ1, M1, ⟨m, σ2, hlt, hle, hI⟩, hs1⟩ := h
      obtain ⟨M2, hs2⟩ := hle _ _ _ _ _ _ _ hs1
      exact ⟨m, hlt, σ2, M2, hI, hs2⟩
    | exit i => exact h
    | ret => exact h
    | goto l => exact h.elim
    | panic ch => exact h.elim
    | outgrown => exact h.elim
  | reg xs dr live =>
    intro c Q σ a w M hc hp hs
    cases c with
    | region id ops draw =>
      simp only [chkX, Bool.and_eq_true] at hc
      obtain ⟨h1, h2⟩ := hc
      have hK : ∀ σ' a' w' M', Q .normal (σ'.keep live) → Sim X₀ n B w0 σ' a' w' M' → post Q X₀ n B w0 .normal a' w' := fun σ' a' w' M' h hs => ⟨_, M', h, hs.keep live⟩
      split at h2
      · exact wp_region_list (runX_list G hK h1 hs hp)
      · rename_i npre
        simp only [Bool.and_eq_true] at h2
        exact draw_wp h2.2 G hK h1 h2.1 hs hp
      · cases h2
    | _ => simp [chkX] at hc

/-! ### A function as a whole -/
inductive RX where
  | tmp (t : Nat)
  | cell (t : Nat) (ag : Option Nat)
def okRs (P : Program) : List ResultVar → List RX → Bool
  | [], [] => true
  | .tmp t :: rs, .tmp t' :: xs => t == t' && okRs P rs xs
  | .cell t ty :: rs, .cell t' ag :: xs => t == t' && okAg P ty ag && okRs P rs xs
  | _, _ => false
/-- What one result reads as. -/
def resV (σ : St) : RX → Option (Prop × PV)
  | .tmp t => some ((σ.v (.t t)).1 = true, (σ.v (.t t)).2)
  | .cell t ag => match σ.v (.t t) with
    | (g, .q (.box i 0)) => (get? i σ.bx).map fun qs => (g = true ∧ (loadQ qs 0 ag).1, (loadQ qs 0 ag).2)
    | _ => none
def resD (σ : St) : List RX → Option (Prop × List AV)
  | [] => some (True, [])
  | r :: rs => match resV σ r, resD σ rs with
    | some (vc, p), some (vc', ds) => p.toD.map fun d => (vc ∧ vc', .d d :: ds)
    | _, _ => none
def resOwns (σ : St) : List RX → List Nat
  | [] => []
  | r :: rs => (match resV σ r with | some (_, p) => p.owns | none => []) ++ resOwns σ rs
def refOwns (σ : St) : Nat → List AV → List Nat
  | _, [] => []
  | k, .ref _ :: as => ((get? k σ.bx).getD []).flatMap ownsQ ++ refOwns σ (k + 1) as
  | k, _ :: as => refOwns σ (k + 1) as
def outX (σ : St) : Nat → List AV → Option (List AV)
  | _, [] => some []
  | k, .ref _ :: as => match (get? k σ.bx).bind allC, outX σ (k + 1) as with
    | some cs, some os => some (.ref cs :: os)
    | _, _ => none
  | k, _ :: as => (outX σ (k + 1) as).map fun os => .gone :: os
/-- The state at the start: argument i lies in slot i; what it hands over to be written bears the name k. -/
def initX : Nat → Nat → List AV → St
  | _, _, [] => ⟨[], [], []⟩
  | i, k, .d x :: as => { initX (i + 1) (k + 1) as with tm := (i, x.toP) :: (initX (i + 1) (k + 1) as).tm }
  | i, k, .ref cs :: as => { initX (i + 1) (k + 1) as with tm := (i, .q (.box k 0)) :: (initX (i + 1) (k + 1) as).tm, bx := (k, cs.map .c) :: (initX (i + 1) (k + 1) as).bx }
  | i, k, .own sz es :: as => { initX (i + 1) (k + 1) as with tm := (i, .q (.own k)) :: (initX (i + 1) (k + 1) as).tm, rw := (k, sz, es) :: (initX (i + 1) (k + 1) as).rw }
  | i, k, .gone :: as => initX (i + 1) (k + 1) as
/-- The end of a run. -/
def finX (n : Nat) (sp : Spec) (args : List AV) (rs : List RX) (σ : St) : Prop :=
  match sp.res args with
  | [.own sz es] => match rs with
    | [.tmp t] => match σ.v (.t t) with
      | (g, .q (.own i)) => g = true ∧ get? i σ.rw = some (sz, es) ∧ outX (((refOwns σ n args).filter (fun j => j != i)).foldl (fun σ i => σ.pub i) σ) n args = some (sp.out args)
      | (g, .q (.z sz')) => g = true ∧ sz' = sz ∧ 0 < sz ∧ es = [] ∧ outX ((refOwns σ n args).foldl (fun σ i => σ.pub i) σ) n args = some (sp.out args)
      | _ => False
    | _ => False
  | [.ref cs] => match rs with
    | [.tmp t] => match σ.v (.t t) with
      | (g, .q (.box i 0)) => g = true ∧ (get? i σ.bx).bind allC = some cs ∧ outX (((refOwns { σ with bx := del i σ.bx } n args).foldl (fun σ i => σ.pub i) { σ with bx := del i σ.bx })) n args = some (sp.out args)
      | _ => False
    | _ => False
  | ds => match resD ((resOwns σ rs ++ refOwns σ n args).foldl (fun σ i => σ.pub i) σ) rs with
    | some (vc, ds') => vc ∧ ds = ds' ∧ outX ((resOwns σ rs ++ refOwns σ n args).foldl (fun σ i => σ.pub i) σ) n args = some (sp.out args)
    | none => False
end
end Go.Proofs.Pw
/- A function as a whole: its start and its end. -/
namespace Go.Proofs.Pw
open Go.RowKit
set_option linter.unusedSectionVars false
variable [Globs]
section
variable {P : Program} {Γ : FuncId → Option Spec} {σ σ' : St} {a : Act} {w w' : World} {M M' : Gh} {n : Nat}

theorem All3.at {α β γ : Type} {R : α → β → γ → Prop} {xs : List α} {ys : List β} {zs : List γ} (h : All3 R xs ys zs) : ∀ {j : Nat} {x : α}, xs[j]? = some x → ∃ y z, ys[j]? = some y ∧ zs[j]? = some z ∧ R x y z := by
  induction h with
  | nil => intro j x hx; simp at hx
  | cons h _ ih =>
    intro j x hx
    cases j with
    | zero => simp at hx; subst hx; exact ⟨_, _, rfl, rfl, h⟩
    | succ j => simpa using ih (by simpa using hx)
theorem All3.len {α β γ : Type} {R : α → β → γ → Prop} {xs : List α} {ys : List β} {zs : List γ} (h : All3 R xs ys zs) : ys.length = xs.length := by
  induction h with
  | nil => rfl
  | cons _ _ ih => simp [ih]
theorem Apart.two {S : Nat → Prop} {ps : List (Nat → Prop)} (h : Apart S ps) : ∀ {i j : Nat} {p q : Nat → Prop} {g : Nat}, ps[i]? = some p → ps[j]? = some q → i ≠ j → p g → ¬ q g := by
  induction ps with
  | nil => intro i j p q g hp; simp at hp
  | cons r ps ih =>
    intro i j p q g hp hq hne hg hg'
    cases i with
    | zero =>
      cases j with
      | zero => exact hne rfl
      | succ j =>
        simp at hp hq; subst hp
        exact h.2.1 g hg q (List.mem_of_getElem? hq) hg'
    | succ i =>
      cases j with
      | zero =>
        simp at hp hq; subst hq
        exact h.2.1 g hg' p (List.mem_of_getElem? hp) hg
      | succ j => exact ih h.2.2 (by simpa using hp) (by simpa using hq) (by omega) hg hg'

def argP (k : Nat) : AV → PV → Prop
  | .d d, p => p = d.toP
  | .ref _, p => p = .q (.box k 0)
  | .own _ _, p => p = .q (.own k)
  | .gone, _ => False
theorem initX_tm {t : Nat} {p : PV} : ∀ {args : List AV} {i k : Nat}, (t, p) ∈ (initX i k args).tm → ∃ j x, t = i + j ∧ args[j]? = some x ∧ argP (k + j) x p := by
  intro args
  induction args with
  | nil => intro i k h; simp [initX] at h
  | cons y args ih =>
    intro i k h
    have rest : (t, p) ∈ (initX (i + 1) (k + 1) args).tm → ∃ j x, t = i + j ∧ (y :: args)[j]? = some x ∧ argP (k + j) x p := fun h => by
      obtain ⟨j, x, h1, h2, h3⟩ := ih h
      exact ⟨j + 1, x, by omega, by simpa using h2, by rw [show k + (j + 1) = k + 1 + j by omega]; exact h3⟩
    cases y with
    | d x =>
      simp only [initX, List.mem_cons, Prod.mk.injEq] at h
      rcases h with ⟨rfl, rfl⟩ | h
      · exact ⟨0, _, rfl, rfl, rfl⟩
      · exact rest h
    | ref cs =>
      simp only [initX, List.mem_cons, Prod.mk.injEq] at h
      rcases h with ⟨rfl, rfl⟩ | h
      · exact ⟨0, _, rfl, rfl, rfl⟩
      · exact rest h
    | own sz es =>
      simp only [initX, List.mem_cons, Prod.mk.injEq] at h
      rcases h with ⟨rfl, rfl⟩ | h
      · exact ⟨0, _, rfl, rfl, rfl⟩
      · exact rest h
    | gone => exact rest h
theorem initX_bx {t : Nat} {qs : List Q} : ∀ {args : List AV} {i k : Nat}, (t, qs) ∈ (initX i k args).bx → ∃ j cs, t = k + j ∧ args[j]? = some (.ref cs) ∧ qs = cs.map .c := by
  intro args
  induction args with
  | nil => intro i k h; simp [initX] at h
  | cons y args ih =>
    intro i k h
    have rest : (t, qs) ∈ (initX (i + 1) (k + 1) args).bx → ∃ j cs, t = k + j ∧ (y :: args)[j]? = some (.ref cs) ∧ qs = cs.map .c := fun h => by
      obtain ⟨j, x, h1, h2, h3⟩ := ih h
      exact ⟨j + 1, x, by omega, by simpa using h2, h3⟩
    cases y with
    | ref cs =>
      simp only [initX, List.mem_cons, Prod.mk.injEq] at h
      rcases h with ⟨rfl, rfl⟩ | h
      · exact ⟨0, _, rfl, rfl, rfl⟩
      · exact rest h
    | d x => exact rest h
    | own sz es => exact rest h
    | gone => exact rest h
theorem initX_rw {t sz : Nat} {es : List (List C)} : ∀ {args : List AV} {i k : Nat}, (t, sz, es) ∈ (initX i k args).rw → ∃ j, t = k + j ∧ args[j]? = some (.own sz es) := by
  intro args
  induction args with
  | nil => intro i k h; simp [initX] at h
  | cons y args ih =>
    intro i k h
    have rest : (t, sz, es) ∈ (initX (i + 1) (k + 1) args).rw → ∃ j, t = k + j ∧ (y :: args)[j]? = some (.own sz es) := fun h => by
      obtain ⟨j, h1, h2⟩ := ih h
      exact ⟨j + 1, by omega, by simpa using h2⟩
    cases y with
    | own sz' es' =>
      simp only [initX, List.mem_cons, Prod.mk.injEq] at h
      rcases h with ⟨rfl, rfl, rfl⟩ | h
      · exact ⟨0, rfl, rfl⟩
      · exact rest h
    | d x => exact rest h
    | ref cs => exact rest h
    | gone => exact rest h

def ptrB : Value → Nat
  | .pointer (some a) => a.block
  | _ => 0
def Gh.init (n : Nat) (vs : List Value) (S : Nat → Prop) : Gh := { β := fun i => ptrB (vs.getD (i - n) undef), ρ := fun i => vs.getD (i - n) undef, S := S }

theorem priv_one {S : Nat → Prop} {sz : Nat} {es : List (List C)} {v : Value} (h : Priv w S sz es v) : v.oneCell' = true := by
  rcases h with ⟨_, _, h, _⟩ | ⟨_, A, rfl⟩
  · rcases h.2 with ⟨rfl, _⟩ | ⟨_, _, _, rfl, _⟩ <;> rfl
  · rfl

theorem init_sim {args : List AV} {S : Nat → Prop} {vs : List Value} {fps : List (Nat → Prop)} (hG : Gl w S) (hS : ∀ g, S g → g < w.heap.size) (ha : Apart S fps) (hA : All3 (RepA w S) args vs fps) (hn : args.length ≤ n) :
    Sim (Any fps) n w.heap.size ⟨w, S, (Gh.init n vs S).β⟩ (initX 0 n args) { tmps := vs.toArray ++ Array.replicate (n - vs.toArray.size) undef, defers := [] } w (Gh.init n vs S) := by
  have hlen := hA.len
  have hv : ∀ (j : Nat) v, vs[j]? = some v → vs.getD (n + j - n) undef = v := fun j v h => by
    rw [Nat.add_sub_cancel_left]; simp [h]
  have box : ∀ {t qs}, (t, qs) ∈ (initX 0 n args).bx → ∃ j cs fp, t = n + j ∧ qs = cs.map .c ∧ fps[j]? = some fp ∧ Cells w S cs ((Gh.init n vs S).β t) ∧ fp ((Gh.init n vs S).β t) := fun {t qs} h => by
    obtain ⟨j, cs, rfl, h2, rfl⟩ := initX_bx h
    obtain ⟨v, fp, h3, h4, g, rfl, h6, h7⟩ := hA.at h2
    have hb : (Gh.init n vs S).β (n + j) = g := by simp only [Gh.init]; rw [hv j _ h3]; rfl
    exact ⟨j, cs, fp, rfl, rfl, h4, by rw [hb]; exact h6, by rw [hb]; exact (h7 g).2 rfl⟩
  have row : ∀ {t sz es}, (t, sz, es) ∈ (initX 0 n args).rw → ∃ j fp, t = n + j ∧ fps[j]? = some fp ∧ 0 < sz ∧ Priv w S sz es ((Gh.init n vs S).ρ t) ∧ ∀ g, fp g ↔ pblk ((Gh.init n vs S).ρ t) g := fun {t sz es} h => by
    obtain ⟨j, rfl, h2⟩ := initX_rw h
    obtain ⟨v, fp, h3, h4, h5, h6, h7⟩ := hA.at h2
    have hb : (Gh.init n vs S).ρ (n + j) = v := by simp only [Gh.init]; exact hv j _ h3
    exact ⟨j, fp, rfl, h4, h5, by rw [hb]; exact h6, by rw [hb]; exact h7⟩
  have any : ∀ {j : Nat} {fp g}, fps[j]? = some fp → fp g → Any fps g := fun h hg => ⟨_, List.mem_of_getElem? h, hg⟩
  refine ⟨by simp; omega, rfl, fun t p h => ?_, ⟨fun i qs h => ?_, fun i sz es h => ?_, fun i q i' q' h h' hne => ?_, fun i q i' r h h' hg => ?_, fun i r i' r' g h h' hne hg hg' => ?_, hS, fun i q h => ?_, fun i r g h hg => ?_, hG⟩, Fr.refl _ _ _, Nat.le_refl _, fun g h => .inl h, fun _ _ => rfl⟩
  · obtain ⟨j, x, rfl, h2, h3⟩ := initX_tm h
    obtain ⟨v, fp, h4, h5, h6⟩ := hA.at h2
    have hj : j < vs.length := (List.getElem?_eq_some_iff.1 h4).1
    have he : (vs.toArray ++ Array.replicate (n - vs.toArray.size) undef).getD (0 + j) undef = v := by
      rw [Nat.zero_add, Array.getD_eq_getD_getElem?, Array.getElem?_append_left (by simpa using hj)]
      simp [h4]
    show RelV w _ p ((vs.toArray ++ Array.replicate (n - vs.toArray.size) undef).getD (0 + j) undef)
    rw [he]
    cases x with
    | d d => simp only [argP] at h3; subst h3; exact toP_rel (M := Gh.init n vs S) h6.1
    | ref cs =>
      simp only [argP] at h3; subst h3
      obtain ⟨g, rfl, _⟩ := h6
      show _ = _
      simp only [Gh.init]; rw [hv j _ h4]; rfl
    | own sz es =>
      simp only [argP] at h3; subst h3
      exact ⟨by simp only [Gh.init]; rw [hv j _ h4], priv_one h6.2.1⟩
    | gone => exact h3.elim
  · obtain ⟨j, cs, fp, rfl, rfl, h3, h4, h5⟩ := box h
    exact ⟨.inr (any h3 h5), cells_rel (M := Gh.init n vs S) h4⟩
  · obtain ⟨j, fp, rfl, h2, h3, h4, h5⟩ := row h
    exact ⟨h3, h4, fun g hg => .inr (any h2 ((h5 g).2 hg))⟩
  · obtain ⟨j, cs, fp, rfl, rfl, h3, _, h5⟩ := box h
    obtain ⟨j', cs', fp', rfl, rfl, h3', _, h5'⟩ := box h'
    exact fun e => ha.two h3 h3' (by omega) h5 (e ▸ h5')
  · obtain ⟨j, cs, fp, rfl, rfl, h3, _, h5⟩ := box h
    obtain ⟨sz, es⟩ := r
    obtain ⟨j', fp', rfl, h2', _, _, h5'⟩ := row h'
    by_cases hj : j = j'
    · subst hj
      obtain ⟨j0, _, e1, e2, _⟩ := initX_bx h
      obtain ⟨j1, e3, e4⟩ := initX_rw h'
      have e5 : j0 = j1 := by omega
      subst e5
      rw [e2] at e4; cases e4
    · exact ha.two h3 h2' hj h5 ((h5' _).2 hg)
  · obtain ⟨sz, es⟩ := r
    obtain ⟨sz', es'⟩ := r'
    obtain ⟨j, fp, rfl, h2, _, _, h5⟩ := row h
    obtain ⟨j', fp', rfl, h2', _, _, h5'⟩ := row h'
    exact ha.two h2 h2' (by omega) ((h5 _).2 hg) ((h5' _).2 hg')
  · obtain ⟨j, cs, fp, rfl, rfl, h3, _, h5⟩ := box h
    exact ha.notS (any h3 h5)
  · obtain ⟨sz, es⟩ := r
    obtain ⟨j, fp, rfl, h2, _, _, h5⟩ := row h
    exact ha.notS (any h2 ((h5 _).2 hg))
end
end Go.Proofs.Pw
/- What a function hands back; what is shown of its code holds of it. -/
namespace Go.Proofs.Pw
open Go.RowKit
set_option linter.unusedSectionVars false
variable [Globs]
section
variable {P : Program} {Γ : FuncId → Option Spec} {σ σ' : St} {a : Act} {w w' : World} {M M' : Gh} {n : Nat} {X₀ : Nat → Prop} {B : Nat} {w0 : W0}

def resOne (tmps : Array Value) : ResultVar → Sem Value
  | .tmp t => pure (tmps.getD t undef)
  | .cell a t => do loadVar t (← asAddr (tmps.getD a undef))
theorem results_eq (fn : Func) (tmps : Array Value) : results fn tmps = (do
    let vs ← fn.results.mapM (resOne tmps)
    pure (if h : vs.size = 1 then vs[0] else .tuple vs)) := rfl

theorem resV_run (hs : Sim X₀ n B w0 σ a w M) {r : ResultVar} {x : RX} {rs : List ResultVar} {xs : List RX} (hk : okRs P (r :: rs) (x :: xs) = true) {vc : Prop} {p : PV} (hv : resV σ x = some (vc, p)) (hvc : vc) :
    okRs P rs xs = true ∧ ∃ v, (resOne a.tmps r).run P w = .ok v w ∧ RelV w M p v := by
  cases r with
  | tmp t =>
    cases x with
    | tmp t' =>
      simp only [okRs, Bool.and_eq_true, beq_iff_eq] at hk
      obtain ⟨rfl, hk⟩ := hk
      simp only [resV, Option.some.injEq, Prod.mk.injEq] at hv
      obtain ⟨rfl, rfl⟩ := hv
      exact ⟨hk, _, rfl, un_rel (look_rel hs.tm t) hvc⟩
    | cell _ _ => simp [okRs] at hk
  | cell t ty =>
    cases x with
    | tmp _ => simp [okRs] at hk
    | cell t' ag =>
      simp only [okRs, Bool.and_eq_true, beq_iff_eq] at hk
      obtain ⟨⟨rfl, hag⟩, hk⟩ := hk
      refine ⟨hk, ?_⟩
      simp only [resV] at hv
      split at hv
      · rename_i g i e1
        simp only [Option.map_eq_some_iff, Prod.mk.injEq] at hv
        obtain ⟨qs, hq, rfl, rfl⟩ := hv
        have hp : RelV w M (σ.v (.t t)).2 (a.tmps.getD t undef) := un_rel (look_rel hs.tm t) (by rw [show (get (PV.q .no) t σ.tm).un = σ.v (.t t) from rfl, e1]; exact hvc.1)
        rw [e1] at hp
        have hin := get?_mem hq
        obtain ⟨_, ty', cells, h1, h2, h3⟩ := hs.mem.box _ _ hin
        have hl := loadQ_len hvc.2
        have hc : ∀ j, j < ag.getD 1 → w.cell? ((⟨M.β i, 0, none⟩ : Addr).add j) = some (cells.getD j undef) := fun j hj => by
          have hjs : j < cells.size := by omega
          rw [Addr.add_lit, Nat.zero_add]
          simp [World.cell?, h1, hjs]
        have hld := load_run hag hc
        refine ⟨_, ?_, loadQ_rel (M := M) (w := w) (us := fun j => cells.getD j undef) hvc.2 (fun j q hj => ?_)⟩
        · have he : a.tmps.getD t undef = .pointer (some ⟨M.β i, 0, none⟩) := hp
          simp only [resOne, he]
          simpa [Instr.loadAt, Instr.sureAddr, asAddr] using hld
        · rw [Nat.zero_add] at hj
          obtain ⟨u, k1, k2, k3⟩ := h3 j q hj
          simp only [Array.getD_eq_getD_getElem?, k1, Option.getD_some]
          exact ⟨k2, k3⟩
      · cases hv

theorem resD_run (hs : Sim X₀ n B w0 σ a w M) : ∀ {rs : List ResultVar} {xs : List RX} {vc : Prop} {ds : List AV}, okRs P rs xs = true → resD σ xs = some (vc, ds) → vc →
    ∃ vs, (rs.mapM (resOne a.tmps)).run P w = .ok vs w ∧ All3 (RepA w M.S) ds vs (ds.map fun _ => fun _ => False) := by
  intro rs
  induction rs with
  | nil =>
    intro xs vc ds hk hd hvc
    cases xs with
    | nil => simp only [resD, Option.some.injEq, Prod.mk.injEq] at hd; rw [← hd.2]; exact ⟨[], rfl, .nil⟩
    | cons _ _ => simp [okRs] at hk
  | cons r rs ih =>
    intro xs vc ds hk hd hvc
    cases xs with
    | nil => cases r <;> simp [okRs] at hk
    | cons x xs =>
      simp only [resD] at hd
      split at hd
      · rename_i vc1 p vc2 ds' e1 e2
        simp only [Option.map_eq_some_iff, Prod.mk.injEq] at hd
        obtain ⟨d, hpd, rfl, rfl⟩ := hd
        obtain ⟨hk', v, h1, h2⟩ := resV_run hs hk e1 hvc.1
        obtain ⟨vs, h3, h4⟩ := ih hk' e2 hvc.2
        exact ⟨v :: vs, by simp only [List.mapM_cons, Sem.run_bind, h1, h3, Result.andThen_ok]; rfl, .cons ⟨toD_rel h2 hpd, fun _ h => h⟩ h4⟩
      · cases hd

/-- Where the variables lie that were handed over. -/
def outFps : List AV → List (Nat → Prop) → List (Nat → Prop)
  | .ref _ :: as, fp :: fps => fp :: outFps as fps
  | _ :: as, _ :: fps => (fun _ => False) :: outFps as fps
  | _, _ => []
theorem outFps_any {g : Nat} : ∀ {as : List AV} {fps : List (Nat → Prop)}, Any (outFps as fps) g → ∃ (j : Nat) (cs : List C) (fp : Nat → Prop), as[j]? = some (.ref cs) ∧ fps[j]? = some fp ∧ fp g := by
  intro as
  induction as with
  | nil => rintro fps ⟨p, hp, _⟩; simp [outFps] at hp
  | cons y as ih =>
    intro fps h
    cases fps with
    | nil => obtain ⟨p, hp, _⟩ := h; cases y <;> simp [outFps] at hp
    | cons fp fps =>
      have rest : Any (outFps as fps) g → ∃ (j : Nat) (cs : List C) (fp' : Nat → Prop), (y :: as)[j]? = some (.ref cs) ∧ (fp :: fps)[j]? = some fp' ∧ fp' g := fun h => by
        obtain ⟨j, cs, fp', h1, h2, h3⟩ := ih h
        exact ⟨j + 1, cs, fp', by simpa using h1, by simpa using h2, h3⟩
      obtain ⟨p, hp, hg⟩ := h
      cases y with
      | ref cs =>
        simp only [outFps, List.mem_cons] at hp
        rcases hp with rfl | hp
        · exact ⟨0, cs, p, rfl, rfl, hg⟩
        · exact rest ⟨p, hp, hg⟩
      | d _ =>
        simp only [outFps, List.mem_cons] at hp
        rcases hp with rfl | hp
        · exact hg.elim
        · exact rest ⟨p, hp, hg⟩
      | own _ _ =>
        simp only [outFps, List.mem_cons] at hp
        rcases hp with rfl | hp
        · exact hg.elim
        · exact rest ⟨p, hp, hg⟩
      | gone =>
        simp only [outFps, List.mem_cons] at hp
        rcases hp with rfl | hp
        · exact hg.elim
        · exact rest ⟨p, hp, hg⟩
theorem outFps_le {g : Nat} {as : List AV} {fps : List (Nat → Prop)} (h : Any (outFps as fps) g) : Any fps g := by
  obtain ⟨j, cs, fp, _, h2, h3⟩ := outFps_any h
  exact ⟨fp, List.mem_of_getElem? h2, h3⟩
theorem outFps_apart {S : Nat → Prop} : ∀ {as : List AV} {fps : List (Nat → Prop)}, Apart S fps → Apart S (outFps as fps) := by
  intro as
  induction as with
  | nil => intro fps _; trivial
  | cons y as ih =>
    intro fps h
    cases fps with
    | nil => cases y <;> trivial
    | cons fp fps =>
      cases y with
      | ref cs => exact ⟨h.1, fun g hg q hq hqg => by
          obtain ⟨q', hq', hg'⟩ := outFps_le (as := as) ⟨q, hq, hqg⟩
          exact h.2.1 g hg q' hq' hg', ih h.2.2⟩
      | d _ => exact ⟨fun _ h => h.elim, fun _ h => h.elim, ih h.2.2⟩
      | own _ _ => exact ⟨fun _ h => h.elim, fun _ h => h.elim, ih h.2.2⟩
      | gone => exact ⟨fun _ h => h.elim, fun _ h => h.elim, ih h.2.2⟩
theorem outX_rel {S : Nat → Prop} {wa : World} (mem : Mem X₀ B σ.bx σ.rw w M) : ∀ {as : List AV} {vs : List Value} {fps : List (Nat → Prop)} {os : List AV} {k : Nat}, outX σ k as = some os → All3 (RepA wa S) as vs fps → (∀ (j : Nat) v, vs[j]? = some v → M.β (k + j) = ptrB v) →
    All3 (RepA w M.S) os vs (outFps as fps) ∧ ∀ (j : Nat) cs v, as[j]? = some (.ref cs) → vs[j]? = some v → ∃ q, (k + j, q) ∈ σ.bx := by
  intro as
  induction as with
  | nil =>
    intro vs fps os k h h3 hb
    cases h3
    simp only [outX, Option.some.injEq] at h
    subst h
    exact ⟨.nil, by simp⟩
  | cons y as ih =>
    intro vs fps os k h h3 hb
    cases h3 with
    | @cons _ v fp _ vs fps hr h3 =>
    have hb' : ∀ (j : Nat) u, vs[j]? = some u → M.β (k + 1 + j) = ptrB u := fun j u hu => by
      rw [show k + 1 + j = k + (j + 1) by omega]; exact hb (j + 1) u (by simpa using hu)
    have rest : ∀ {os'}, outX σ (k + 1) as = some os' → (∀ cs, y ≠ .ref cs) → os = .gone :: os' → All3 (RepA w M.S) os (v :: vs) ((fun _ => False) :: outFps as fps) ∧ ∀ (j : Nat) cs u, (y :: as)[j]? = some (.ref cs) → (v :: vs)[j]? = some u → ∃ q, (k + j, q) ∈ σ.bx := fun {os'} h1 hne ho => by
      obtain ⟨i1, i2⟩ := ih h1 h3 hb'
      subst ho
      refine ⟨.cons (fun _ h => h) i1, fun j cs u hj hu => ?_⟩
      cases j with
      | zero => simp at hj; exact absurd hj (hne cs)
      | succ j => rw [show k + (j + 1) = k + 1 + j by omega]; exact i2 j cs u (by simpa using hj) (by simpa using hu)
    cases y with
    | ref cs0 =>
      simp only [outX] at h
      split at h
      · rename_i cs os' e1 e2
        simp only [Option.some.injEq] at h
        subst h
        obtain ⟨i1, i2⟩ := ih e2 h3 hb'
        rw [Option.bind_eq_some_iff] at e1
        obtain ⟨qs, hq, hcs⟩ := e1
        have hin := get?_mem hq
        obtain ⟨_, t, cells, c1, c2, c3⟩ := mem.box _ _ hin
        obtain ⟨c4, c5⟩ := allC_rel ⟨c2, c3⟩ hcs
        obtain ⟨g, rfl, _, hfp⟩ := hr
        have hbk : M.β k = g := by have := hb 0 _ rfl; simpa [ptrB] using this
        refine ⟨.cons ⟨g, rfl, ⟨t, cells, by rw [← hbk]; exact c1, c4, c5⟩, hfp⟩ i1, fun j cs' u hj hu => ?_⟩
        cases j with
        | zero => exact ⟨qs, hin⟩
        | succ j => rw [show k + (j + 1) = k + 1 + j by omega]; exact i2 j cs' u (by simpa using hj) (by simpa using hu)
      · cases h
    | d x =>
      simp only [outX, Option.map_eq_some_iff] at h
      obtain ⟨os', h1, h2⟩ := h
      exact rest h1 (by simp) h2.symm
    | own sz es =>
      simp only [outX, Option.map_eq_some_iff] at h
      obtain ⟨os', h1, h2⟩ := h
      exact rest h1 (by simp) h2.symm
    | gone =>
      simp only [outX, Option.map_eq_some_iff] at h
      obtain ⟨os', h1, h2⟩ := h
      exact rest h1 (by simp) h2.symm
end
end Go.Proofs.Pw
/- What is shown of a function's small code holds of the function. -/
namespace Go.Proofs.Pw
open Go.RowKit
set_option linter.unusedSectionVars false
variable [Globs]
section
variable {P : Program} {Γ : FuncId → Option Spec} {σ σ' : St} {a : Act} {w w' : World} {M M' : Gh} {n : Nat} {B : Nat} {w0 : W0}

theorem Apart.append {S : Nat → Prop} {ps qs : List (Nat → Prop)} (h : Apart S ps) (k : Apart S qs) (hn : ∀ g, Any ps g → ¬ Any qs g) : Apart S (ps ++ qs) := by
  induction ps with
  | nil => exact k
  | cons p ps ih =>
    refine ⟨h.1, fun g hg q hq hqg => ?_, ih h.2.2 (fun g ⟨q, hq, hg⟩ => hn g ⟨q, by simp [hq], hg⟩)⟩
    rcases List.mem_append.1 hq with hq | hq
    · exact h.2.1 g hg q hq hqg
    · exact hn g ⟨p, by simp, hg⟩ ⟨q, hq, hqg⟩

/-- What a call must leave. -/
def Left (sp : Spec) (args : List AV) (w : World) (S : Nat → Prop) (vs : List Value) (fps : List (Nat → Prop)) (e : Ending) (w' : World) : Prop :=
  ∃ v S' rfs fps', e = .returned v ∧ RepR w' S' (sp.res args) v rfs ∧ All3 (RepA w' S') (sp.out args) vs fps' ∧
      (∀ g, S' g → S g ∨ w.heap.size ≤ g ∨ Any fps g) ∧ (∀ g, S' g → g < w'.heap.size) ∧
      Apart S' (rfs ++ fps') ∧ (∀ g, Any (rfs ++ fps') g → (w.heap.size ≤ g ∨ Any fps g) ∧ g < w'.heap.size) ∧ Fr (Any fps) w.heap.size w w'

theorem left_of {sp : Spec} {args : List AV} {S : Nat → Prop} {vs : List Value} {fps : List (Nat → Prop)} (hF : ∀ g, Any fps g → g < w.heap.size) (ha : Apart S fps) (hA : All3 (RepA w S) args vs fps)
    (hs : Sim (Any fps) n w.heap.size ⟨w, S, (Gh.init n vs S).β⟩ σ a w' M) (ho : outX σ n args = some (sp.out args)) {v : Value} {rfs : List (Nat → Prop)} (hr : RepR w' M.S (sp.res args) v rfs) (hap : Apart M.S rfs)
    (hrf : ∀ g, Any rfs g → (w.heap.size ≤ g ∨ Any fps g) ∧ g < w'.heap.size) (hro : ∀ g, Any rfs g → ∀ i q, (i, q) ∈ σ.bx → g ≠ M.β i) : Left sp args w S vs fps (.returned v) w' := by
  have hβ : ∀ (j : Nat) u, vs[j]? = some u → M.β (n + j) = ptrB u := fun j u hu => by
    rw [hs.sβ (n + j) (by omega)]
    simp only [Gh.init]
    rw [Nat.add_sub_cancel_left]; simp [hu]
  obtain ⟨h1, h2⟩ := outX_rel hs.mem ho hA hβ
  have hout : ∀ g, Any (outFps args fps) g → ∃ i q, (i, q) ∈ σ.bx ∧ g = M.β i := fun g hg => by
    obtain ⟨j, cs, fp, k1, k2, k3⟩ := outFps_any hg
    obtain ⟨v, fp', k4, k5, g', rfl, _, k6⟩ := hA.at k1
    rw [k2] at k5; cases k5
    obtain ⟨q, hq⟩ := h2 j cs _ k1 k4
    refine ⟨_, q, hq, ?_⟩
    rw [hβ j _ k4, (k6 g).1 k3]; rfl
  refine ⟨v, M.S, rfs, outFps args fps, rfl, hr, h1, fun g hg => hs.sS g hg, hs.mem.lt, hap.append ((outFps_apart ha).widen (fun g hg => ?_)) (fun g hg hg' => ?_), fun g hg => ?_, hs.fr⟩
  · obtain ⟨i, q, hq, rfl⟩ := hout g hg
    exact hs.mem.sb i q hq
  · obtain ⟨i, q, hq, rfl⟩ := hout g hg'
    exact hro _ hg i q hq rfl
  · obtain ⟨p, hp, hg⟩ := hg
    rcases List.mem_append.1 hp with hp | hp
    · exact hrf g ⟨p, hp, hg⟩
    · have := outFps_le ⟨p, hp, hg⟩
      exact ⟨.inr this, Nat.lt_of_lt_of_le (hF g this) hs.fr.size⟩

theorem results_run {fn : Func} {vs : List Value} (h : (fn.results.toList.mapM (resOne a.tmps)).run P w = .ok vs w) : (results fn a.tmps).run P w = .ok (if h : vs.toArray.size = 1 then vs.toArray[0] else .tuple vs.toArray) w := by
  rw [results_eq, Array.mapM_eq_mapM_toList]
  simp only [map_eq_pure_bind, bind_assoc, pure_bind, Sem.run_bind, h, Result.andThen_ok]
  rfl

theorem okRs_one {rs : List ResultVar} {t : Nat} (h : okRs P rs [.tmp t] = true) : rs = [.tmp t] := by
  cases rs with
  | nil => simp [okRs] at h
  | cons r rs =>
    cases r with
    | tmp t' =>
      cases rs with
      | nil => simp [okRs] at h; subst h; rfl
      | cons r' rs => cases r' <;> simp [okRs] at h
    | cell _ _ => simp [okRs] at h

theorem tuple_repR {S : Nat → Prop} {ds : List AV} {vs : List Value} {fps : List (Nat → Prop)} (h : All3 (RepA w S) ds vs fps) (hf : fps.length = ds.length) : RepR w S ds (if h : vs.toArray.size = 1 then vs.toArray[0] else .tuple vs.toArray) fps := by
  have hl := h.len
  cases h with
  | nil => exact ⟨by simp, [], by simp, .nil⟩
  | @cons d v fp ds' vs' fps' h1 h2 =>
    cases h2 with
    | nil => exact h1
    | cons h3 h4 =>
      refine ⟨by simp, _, ?_, .cons h1 (.cons h3 h4)⟩
      rw [dif_neg (by simp)]

theorem fin_ret {sp : Spec} {args : List AV} {rs : List RX} {fn : Func} {S : Nat → Prop} {vs : List Value} {fps : List (Nat → Prop)} (hF : ∀ g, Any fps g → g < w.heap.size) (ha : Apart S fps) (hA : All3 (RepA w S) args vs fps)
    (hs : Sim (Any fps) n w.heap.size ⟨w, S, (Gh.init n vs S).β⟩ σ a w' M) (hk : okRs P fn.results.toList rs = true) (hf : finX n sp args rs σ) :
    a.defers = [] ∧ ∃ v, (results fn a.tmps).run P w' = .ok v w' ∧ Left sp args w S vs fps (.returned v) w' := by
  refine ⟨hs.defs, ?_⟩
  unfold finX at hf
  split at hf
  · rename_i sz es hres
    split at hf
    · rename_i t
      have hrs := okRs_one hk
      have hrun : ∀ M', Sim (Any fps) n w.heap.size ⟨w, S, (Gh.init n vs S).β⟩ σ a w' M' → (results fn a.tmps).run P w' = .ok (a.tmps.getD t undef) w' := fun M' _ => by
        have := results_run (P := P) (w := w') (a := a) (fn := fn) (vs := [a.tmps.getD t undef]) (by rw [hrs]; rfl)
        simpa using this
      split at hf
      · rename_i g i e1
        obtain ⟨hg, hrow, hout⟩ := hf
        have hp : ∀ M' σ', Sim (Any fps) n w.heap.size ⟨w, S, (Gh.init n vs S).β⟩ σ' a w' M' → σ'.v (.t t) = (g, .q (.own i)) → a.tmps.getD t undef = M'.ρ i := fun M' σ' h e => by
          have := un_rel (look_rel h.tm t) (by rw [show (get (PV.q .no) t σ'.tm).un = σ'.v (.t t) from rfl, e]; exact hg)
          rw [show (get (PV.q .no) t σ'.tm).un = σ'.v (.t t) from rfl, e] at this
          exact this.1
        -- the row's own name stays: what else is told as data is another's
        have keep : ∀ (l : List Nat) (σ : St) (M : Gh), (∀ j ∈ l, j ≠ i) → Sim (Any fps) n w.heap.size ⟨w, S, (Gh.init n vs S).β⟩ σ a w' M → get? i σ.rw = some (sz, es) → a.tmps.getD t undef = M.ρ i →
            ∃ M', Sim (Any fps) n w.heap.size ⟨w, S, (Gh.init n vs S).β⟩ (l.foldl (fun σ i => σ.pub i) σ) a w' M' ∧ get? i (l.foldl (fun σ i => σ.pub i) σ).rw = some (sz, es) ∧ a.tmps.getD t undef = M'.ρ i := by
          intro l
          induction l with
          | nil => intro σ M _ h1 h2 h3; exact ⟨M, h1, h2, h3⟩
          | cons j l ih =>
            intro σ M hl h1 h2 h3
            obtain ⟨M1, k1, k2, _⟩ := h1.pub' j
            refine ih _ M1 (fun j' hj' => hl j' (by simp [hj'])) k1 ?_ (by rw [k2]; exact h3)
            show get? i (σ.pub j).rw = some (sz, es)
            unfold St.pub
            split
            · rw [show get? i (del j σ.rw) = get? i σ.rw from get?_del (hl j (by simp))]; exact h2
            · exact h2
        obtain ⟨M1, h1, h2, h3⟩ := keep ((refOwns σ n args).filter (fun j => j != i)) σ M (fun j hj => by simpa using (List.mem_filter.1 hj).2) hs hrow (hp M σ hs e1)
        have hin := get?_mem h2
        obtain ⟨k0, k1, k2⟩ := h1.mem.row _ _ _ hin
        refine ⟨_, hrun M hs, left_of (rfs := [pblk (M1.ρ i)]) hF ha hA h1 hout ?_ ?_ ?_ ?_⟩
        · rw [hres]; exact ⟨k0, by rw [h3]; exact k1, fun g => by rw [h3]⟩
        · exact ⟨fun g hg => h1.mem.sr _ _ g hin hg, fun _ _ q hq => by simp at hq, trivial⟩
        · rintro g ⟨p, hp, hg⟩
          rw [List.mem_singleton] at hp; subst hp
          exact ⟨k2 g hg, k1.lt hg⟩
        · rintro g ⟨p, hp, hg⟩ j q hq rfl
          rw [List.mem_singleton] at hp; subst hp
          exact h1.mem.br _ _ _ _ hq hin hg
      · rename_i g sz' e1
        obtain ⟨hg, rfl, h0, rfl, hout⟩ := hf
        have hz := un_rel (look_rel hs.tm t) (by rw [show (get (PV.q .no) t σ.tm).un = σ.v (.t t) from rfl, e1]; exact hg)
        rw [show (get (PV.q .no) t σ.tm).un = σ.v (.t t) from rfl, e1] at hz
        obtain ⟨A, hz⟩ := hz
        obtain ⟨M1, h1⟩ := hs.pubL (refOwns σ n args)
        have hpb : ∀ g, ¬ pblk (a.tmps.getD t undef) g := fun g => by rw [hz]; cases A <;> simp [pblk]
        refine ⟨_, hrun M hs, left_of (rfs := [pblk (a.tmps.getD t undef)]) hF ha hA h1 hout ?_ ?_ ?_ ?_⟩
        · rw [hres]; exact ⟨h0, .inr ⟨rfl, A, hz⟩, fun g => Iff.rfl⟩
        · exact ⟨fun g hg => absurd hg (hpb g), fun g hg => absurd hg (hpb g), trivial⟩
        · rintro g ⟨p, hp, hg⟩
          rw [List.mem_singleton] at hp; subst hp
          exact absurd hg (hpb g)
        · rintro g ⟨p, hp, hg⟩
          rw [List.mem_singleton] at hp; subst hp
          exact absurd hg (hpb g)
      · exact hf.elim
    · exact hf.elim
  · rename_i cs hres
    split at hf
    · rename_i t
      have hrs := okRs_one hk
      have hrun : (results fn a.tmps).run P w' = .ok (a.tmps.getD t undef) w' := by
        have := results_run (P := P) (w := w') (a := a) (fn := fn) (vs := [a.tmps.getD t undef]) (by rw [hrs]; rfl)
        simpa using this
      split at hf
      · rename_i g i e1
        obtain ⟨hg, hrow, hout⟩ := hf
        have hp : a.tmps.getD t undef = .pointer (some ⟨M.β i, 0, none⟩) := by
          have := un_rel (look_rel hs.tm t) (by rw [show (get (PV.q .no) t σ.tm).un = σ.v (.t t) from rfl, e1]; exact hg)
          rw [show (get (PV.q .no) t σ.tm).un = σ.v (.t t) from rfl, e1] at this
          exact this
        rw [Option.bind_eq_some_iff] at hrow
        obtain ⟨qs, hq, hcs⟩ := hrow
        have hin := get?_mem hq
        obtain ⟨hB, ty, cells, h1, h2, h3⟩ := hs.mem.box i qs hin
        obtain ⟨h4, h5⟩ := allC_rel ⟨h2, h3⟩ hcs
        have hlt : M.β i < w'.heap.size := (Array.getElem?_eq_some_iff.1 h1).1
        have hs1 : Sim (Any fps) n w.heap.size ⟨w, S, (Gh.init n vs S).β⟩ { σ with bx := del i σ.bx } a w' M :=
          ⟨hs.size, hs.defs, hs.tm, ⟨fun j q h => hs.mem.box j q (del_mem h).2, hs.mem.row, fun j q k q' h h' => hs.mem.bb j q k q' (del_mem h).2 (del_mem h').2, fun j q k r h => hs.mem.br j q k r (del_mem h).2, hs.mem.rr, hs.mem.lt, fun j q h => hs.mem.sb j q (del_mem h).2, hs.mem.sr, hs.mem.gl⟩, hs.fr, hs.hB, hs.sS, hs.sβ⟩
        obtain ⟨M1, k1, k2, k3, k4⟩ := hs1.pubL2 (refOwns { σ with bx := del i σ.bx } n args)
        have hnS : ¬ M1.S (M.β i) := fun h => by
          rcases k3 _ h with h | ⟨j, r, hj, hg⟩
          · exact hs.mem.sb i qs hin h
          · exact hs.mem.br _ _ _ _ hin hj hg
        refine ⟨_, hrun, left_of (rfs := [fun g => g = M.β i]) hF ha hA k1 hout ?_ ?_ ?_ ?_⟩
        · rw [hres]
          exact ⟨M.β i, hp, ⟨ty, cells, h1, h4, fun j c hc => by obtain ⟨u, g1, g2⟩ := h5 j c hc; exact ⟨u, g1, g2.mono k2 (fun _ _ => rfl)⟩⟩, fun g => Iff.rfl⟩
        · exact ⟨fun g hg => by rw [hg]; exact hnS, fun _ _ q hq => by simp at hq, trivial⟩
        · rintro g ⟨p, hp, hg⟩
          rw [List.mem_singleton] at hp; subst hp
          rw [hg]
          exact ⟨hB, hlt⟩
        · rintro g ⟨p, hp, hg⟩ j q hj e
          rw [List.mem_singleton] at hp; subst hp
          rw [hg] at e
          rw [k4] at e
          obtain ⟨q', hj'⟩ := pubL_bx hj
          obtain ⟨hne, hj'⟩ := del_mem hj'
          exact hs.mem.bb _ _ _ _ hin hj' (fun e => hne e.symm) e
      · exact hf.elim
    · exact hf.elim
  · split at hf
    · rename_i vc ds' e1
      obtain ⟨hvc, hds, hout⟩ := hf
      obtain ⟨M1, h1⟩ := hs.pubL (resOwns σ rs ++ refOwns σ n args)
      obtain ⟨us, k1, k2⟩ := resD_run h1 hk e1 hvc
      refine ⟨_, results_run k1, left_of (rfs := ds'.map fun _ => fun _ => False) hF ha hA h1 hout ?_ Apart_false (fun g hg => absurd hg Any_false) (fun g hg => absurd hg Any_false)⟩
      rw [hds]
      exact tuple_repR k2 (by simp)
    · exact hf.elim

/-- A specification that gives just that. -/
def Spec.at (r o : List AV) : Spec := { md := [], pre := fun _ => True, res := fun _ => r, out := fun _ => o }
/-- THE RULE: what is shown of a function's small code holds of the function. -/
theorem sound_of_pw (G : GOK P Γ) {f : FuncId} {fn : Func} {c : Code} {x : X} {rs : List RX} {sp : Spec} (hf : P.funcs[f]? = some fn) (hb : fn.body = some c) (hc : chkX P fn.ntmps c x = true) (hk : okRs P fn.results.toList rs = true)
    (hl : ∀ args, sp.pre args → args.length ≤ fn.ntmps) (h : ∀ args, sp.pre args → pw Γ x (fun e σ => match e with | .exit _ => False | _ => ∃ r o, sp.may args r o ∧ finX fn.ntmps (Spec.at r o) args rs σ) (initX 0 fn.ntmps args)) : Sound P f sp := by
  intro args hpre w S vs fps hG hS hF ha hA
  refine calls_of_wp hf hb (wp_mono (pw_wp G x hc (h args hpre) (init_sim hG hS ha hA (hl args hpre))) ?_)
  have key : ∀ {σ M a' w'}, (∃ r o, sp.may args r o ∧ finX fn.ntmps (Spec.at r o) args rs σ) → Sim (Any fps) fn.ntmps w.heap.size ⟨w, S, (Gh.init fn.ntmps vs S).β⟩ σ a' w' M →
      a'.defers = [] ∧ ∃ v, (results fn a'.tmps).run P w' = .ok v w' ∧ ∃ r o, sp.may args r o ∧ ∃ v' S' rfs fps', Ending.returned v = .returned v' ∧ RepR w' S' r v' rfs ∧ All3 (RepA w' S') o vs fps' ∧
        (∀ g, S' g → S g ∨ w.heap.size ≤ g ∨ Any fps g) ∧ (∀ g, S' g → g < w'.heap.size) ∧
        Apart S' (rfs ++ fps') ∧ (∀ g, Any (rfs ++ fps') g → (w.heap.size ≤ g ∨ Any fps g) ∧ g < w'.heap.size) ∧ Fr (Any fps) w.heap.size w w' := by
    rintro σ M a' w' ⟨r, o, hro, hfin⟩ hs
    obtain ⟨h1, v, h2, h3⟩ := fin_ret hF ha hA hs hk hfin
    exact ⟨h1, v, h2, r, o, hro, h3⟩
  intro e a' w' hq
  cases e with
  | normal => obtain ⟨σ, M, hfin, hs⟩ := hq; exact key hfin hs
  | ret => obtain ⟨σ, M, hfin, hs⟩ := hq; exact key hfin hs
  | exit i => obtain ⟨σ, M, hfin, _⟩ := hq; exact hfin.elim
  | goto l => exact hq.elim
  | panic ch => exact hq.elim
  | outgrown => exact hq.elim
end
end Go.Proofs.Pw
/- Tools for those who use the rule: loops, specifications over families, recursion. -/
namespace Go.Proofs.Pw
open Go.RowKit
set_option linter.unusedSectionVars false
variable [Globs]

theorem Le.refl (σ : St) : Le σ σ := fun _ _ _ _ _ _ M h => ⟨M, h⟩
theorem Le.trans {a b c : St} (h : Le a b) (k : Le b c) : Le a c := fun X n B w0 ac w M hs => by
  obtain ⟨M1, h1⟩ := h X n B w0 ac w M hs
  exact k X n B w0 ac w M1 h1
theorem Le.pub (i : Nat) (σ : St) : Le σ (σ.pub i) := fun _ _ _ _ _ _ _ h => h.pub i
theorem Le.of_eq {a b : St} (h : a = b) : Le a b := h ▸ Le.refl a
/-- A slice without capacity is a private row. -/
theorem Le.own {tm : List (Nat × PV)} {bx : List (Nat × List Q)} {rw_ : List (Nat × Nat × List (List C))} {tm' : List (Nat × PV)} {t d sz : Nat} (h0 : 0 < sz) (ht : (t, PV.q (.z sz)) ∈ tm)
    (hb : ∀ p ∈ bx, ∀ q ∈ p.2, q.killO d = q) (ht' : ∀ p ∈ tm', p = (t, PV.q (.own d)) ∨ ∃ p' ∈ tm, p = (p'.1, p'.2.map (Q.killO d))) :
    Le ⟨tm, bx, rw_⟩ ⟨tm', bx, upd d (sz, []) rw_⟩ := fun X n B w0 ac w M hs => by
  obtain ⟨A, hz⟩ : ∃ A, ac.tmps.getD t undef = .slice A 0 0 := hs.tm _ _ ht
  have hpb : ∀ g, ¬ pblk (ac.tmps.getD t undef) g := fun g => by rw [hz]; cases A <;> simp [pblk]
  have hm := Mem.getRow (σ := ⟨tm, bx, rw_⟩) (d := d) (es := []) (v' := ac.tmps.getD t undef) hs.mem h0 (.inr ⟨rfl, A, hz⟩) (fun g hg => absurd hg (hpb g)) (fun g hg => absurd hg (hpb g)) (fun _ _ _ hg => absurd hg (hpb _)) (fun _ _ g _ _ hg => absurd hg (hpb g))
  have hbx : (St.map (Q.killO d) ⟨tm, bx, rw_⟩).bx = bx := by
    simp only [St.map]
    conv => rhs; rw [← List.map_id bx]
    refine List.map_congr_left (fun p hp => ?_)
    obtain ⟨i, qs⟩ := p
    simp only [id, Prod.mk.injEq, true_and]
    conv => rhs; rw [← List.map_id qs]
    exact List.map_congr_left (fun q hq => hb _ hp q hq)
  rw [hbx] at hm
  refine ⟨M.nr d (ac.tmps.getD t undef), hs.size, hs.defs, fun t' p hp => ?_, hm, hs.fr, hs.hB, hs.sS, hs.sβ⟩
  rcases ht' _ hp with he | ⟨⟨t2, p2⟩, hp2, he⟩
  · simp only [Prod.mk.injEq] at he
    obtain ⟨rfl, rfl⟩ := he
    exact ⟨by simp [Gh.nr], by rw [hz]; rfl⟩
  · simp only [Prod.mk.injEq] at he
    obtain ⟨rfl, rfl⟩ := he
    exact map_v (nr_q (d := d) (Up.refl hs.mem.lt) hs.mem.lt) (hs.tm _ _ hp2)

/-- A value that tells no more. -/
def PLe (p q : PV) : Prop := ∀ w M v, RelV w M p v → RelV w M q v
theorem PLe.refl (p : PV) : PLe p p := fun _ _ _ h => h
theorem PLe.z (sz : Nat) : PLe (.q (.z sz)) (.q (.c (.row sz []))) := fun _ _ _ h => by
  obtain ⟨A, rfl⟩ := h; exact .nil sz A 0
theorem PLe.full (sz : Nat) (es : List (List C)) : PLe (.q (.full sz es)) (.q (.c (.row sz es))) := fun _ _ _ h => h.1
theorem PLe.no (p : PV) : PLe p (.q .no) := fun _ _ _ _ => trivial
theorem Le.tm {tm tm' : List (Nat × PV)} {bx : List (Nat × List Q)} {rw_ : List (Nat × Nat × List (List C))} (h : ∀ p ∈ tm', ∃ q, (p.1, q) ∈ tm ∧ PLe q p.2) : Le ⟨tm, bx, rw_⟩ ⟨tm', bx, rw_⟩ := fun X n B w0 ac w M hs => by
  refine ⟨M, hs.size, hs.defs, fun t p hp => ?_, hs.mem, hs.fr, hs.hB, hs.sS, hs.sβ⟩
  obtain ⟨q, hq, hle⟩ := h _ hp
  exact hle w M _ (hs.tm _ _ hq)

/-- A loop over a family of states. -/
theorem loop_fam {F : (Ex → St → Prop) → St → Prop} {Q : Ex → St → Prop} {σ : St} {ι : Type} (μ : ι → Nat) (Pr : ι → Prop) (S : ι → St) (i0 : ι) (hp : Pr i0) (hle : Le σ (S i0))
    (h : ∀ i, Pr i → F (fun e σ' => match e with | .normal => ∃ j, Pr j ∧ μ j < μ i ∧ Le σ' (S j) | .exit k => Q (.exit k) σ' | .ret => Q .ret σ') (S i))
    (mono : ∀ (A B : Ex → St → Prop), (∀ e σ, A e σ → B e σ) → ∀ σ, F A σ → F B σ) : pwL F Q σ := by
  refine ⟨fun n σ => ∃ i, μ i = n ∧ Pr i ∧ σ = S i, ⟨μ i0, S i0, hle, i0, rfl, hp, rfl⟩, ?_⟩
  rintro n σ ⟨i, rfl, hpi, rfl⟩
  refine mono _ _ ?_ _ (h i hpi)
  intro e σ' hq
  cases e with
  | normal => obtain ⟨j, h1, h2, h3⟩ := hq; exact ⟨μ j, S j, h2, h3, j, rfl, h1, rfl⟩
  | exit k => exact hq
  | ret => exact hq

theorem orF_mono {α : Type} {x : Option α} {F F' : α → Prop} (hK : ∀ a, F a → F' a) (h : orF x F) : orF x F' := by
  unfold orF at *
  split at h
  · exact hK _ h
  · exact h.elim
theorem stepR_mono {Γ : FuncId → Option Spec} {K K' : St → Prop} (hK : ∀ σ, K σ → K' σ) {n : Nat} {σ : St} {x : XOp} (h : stepR Γ n σ x K) : stepR Γ n σ x K' := by
  unfold stepR at h ⊢
  split
  · rename_i f ys hx
    rw [hx] at h
    simp only at h
    split at h
    · unfold callR at h ⊢
      split
      · rename_i sp hsp
        rw [hsp] at h
        simp only at h
        split at h
        · rename_i vc ds ha
          exact ⟨h.1, h.2.1, h.2.2.1, fun r o hro => orF_mono (fun σ1 h => orF_mono hK h) (h.2.2.2 r o hro)⟩
        · exact h.elim
      · rename_i hsp
        rw [hsp] at h
        exact h.elim
    · exact h.elim
  · rename_i hx
    split at h
    · rename_i f ys hx'; exact absurd hx' (hx f ys)
    · split at h
      · exact ⟨h.1, fun hv => hK _ (h.2 hv)⟩
      · exact h.elim
theorem runX_mono {Γ : FuncId → Option Spec} {K K' : St → Prop} (hK : ∀ σ, K σ → K' σ) : ∀ {xs : List XOp} {n : Nat} {σ : St}, runX Γ n xs σ K → runX Γ n xs σ K' := by
  intro xs
  induction xs with
  | nil => intro n σ h; exact hK σ h
  | cons x xs ih => intro n σ h; exact stepR_mono (fun σ' h => ih h) h
theorem pw_mono {Γ : FuncId → Option Spec} : ∀ (x : X) (A B : Ex → St → Prop), (∀ e σ, A e σ → B e σ) → ∀ σ, pw Γ x A σ → pw Γ x B σ := by
  intro x
  induction x with
  | bad => intro A B h σ hp; exact hp
  | skip => intro A B h σ hp; exact h _ _ hp
  | ret => intro A B h σ hp; exact h _ _ hp
  | exit id => intro A B h σ hp; exact h _ _ hp
  | seq a b iha ihb =>
    intro A B h σ hp
    refine iha _ _ ?_ σ hp
    intro e σ' hq
    cases e with
    | normal => exact ihb _ _ h σ' hq
    | exit k => exact h _ _ hq
    | ret => exact h _ _ hq
  | cond c a b iha ihb =>
    intro A B h σ hp
    simp only [pw] at hp ⊢
    split at hp
    · exact ⟨hp.1, fun ht => iha _ _ h σ (hp.2.1 ht), fun hf => ihb _ _ h σ (hp.2.2 hf)⟩
    · exact hp.elim
  | block id b ih =>
    intro A B h σ hp
    refine ih _ _ ?_ σ hp
    intro e σ' hq
    cases e with
    | normal => exact h _ _ hq
    | exit k =>
      simp only [blkQ] at hq ⊢
      split
      · rename_i hi; rw [if_pos hi] at hq; exact h _ _ hq
      · rename_i hi; rw [if_neg hi] at hq; exact h _ _ hq
    | ret => exact h _ _ hq
  | loop b ih =>
    intro A B h σ hp
    obtain ⟨I, h0, h1⟩ := hp
    refine ⟨I, h0, fun n σ hI => ih _ _ ?_ σ (h1 n σ hI)⟩
    intro e σ' hq
    cases e with
    | normal => exact hq
    | exit k => exact h _ _ hq
    | ret => exact h _ _ hq
  | reg ops dr live =>
    intro A B h σ hp
    exact runX_mono (fun σ' => h _ _) hp
def loopQ {ι : Type} (μ : ι → Nat) (Pr : ι → Prop) (S : ι → St) (i : ι) (Q : Ex → St → Prop) : Ex → St → Prop
  | .normal, σ => ∃ j, Pr j ∧ μ j < μ i ∧ Le σ (S j)
  | e, σ => Q e σ
def condQ (Γ : FuncId → Option Spec) (v : Bool × PV) (a b : X) (Q : Ex → St → Prop) (σ : St) : Prop := match v with
  | (g, .q (.c (.bool t))) => g = true ∧ (t = true → pw Γ a Q σ) ∧ (t = false → pw Γ b Q σ)
  | _ => False
/-- How a function's run must end. -/
def endQ (F : St → Prop) : Ex → St → Prop
  | .exit _, _ => False
  | _, σ => F σ
/-- The loop rule, for small code. -/
theorem pwL_fam {Γ : FuncId → Option Spec} {x : X} {Q : Ex → St → Prop} {σ : St} {ι : Type} (μ : ι → Nat) (Pr : ι → Prop) (S : ι → St) (i0 : ι) (hp : Pr i0) (hle : Le σ (S i0))
    (h : ∀ i, Pr i → pw Γ x (fun e σ' => match e with | .normal => ∃ j, Pr j ∧ μ j < μ i ∧ Le σ' (S j) | .exit k => Q (.exit k) σ' | .ret => Q .ret σ') (S i)) : pwL (pw Γ x) Q σ :=
  loop_fam μ Pr S i0 hp hle h (pw_mono x)

theorem pw_loop {Γ : FuncId → Option Spec} {x : X} {Q : Ex → St → Prop} {σ : St} {ι : Type} (μ : ι → Nat) (Pr : ι → Prop) (S : ι → St) (i0 : ι) (hp : Pr i0) (hle : Le σ (S i0))
    (h : ∀ i, Pr i → pw Γ x (loopQ μ Pr S i Q) (S i)) : pw Γ (.loop x) Q σ :=
  loop_fam μ Pr S i0 hp hle (fun i hi => pw_mono x _ _ (fun e σ' hq => by cases e <;> exact hq) _ (h i hi)) (pw_mono x)

/-! ### How the small code is read, a step at a time -/
section
variable {Γ : FuncId → Option Spec} {Q : Ex → St → Prop} {σ : St}
theorem pw_skip : pw Γ .skip Q σ = Q .normal σ := rfl
theorem pw_ret : pw Γ .ret Q σ = Q .ret σ := rfl
theorem pw_exit (i : Nat) : pw Γ (.exit i) Q σ = Q (.exit i) σ := rfl
theorem pw_seq (a b : X) : pw Γ (.seq a b) Q σ = pw Γ a (thenQ (pw Γ b Q) Q) σ := rfl
theorem pw_cond (c : XO) (a b : X) : pw Γ (.cond c a b) Q σ = condQ Γ (σ.v c) a b Q σ := rfl
theorem condQ_t (g : Bool) (a b : X) : condQ Γ (g, .q (.c (.bool true))) a b Q σ = (g = true ∧ pw Γ a Q σ) := by simp [condQ]
theorem condQ_f (g : Bool) (a b : X) : condQ Γ (g, .q (.c (.bool false))) a b Q σ = (g = true ∧ pw Γ b Q σ) := by simp [condQ]
theorem condQ_d (g : Bool) (p : Prop) [Decidable p] (a b : X) : condQ Γ (g, .q (.c (.bool (decide p)))) a b Q σ = (g = true ∧ (p → pw Γ a Q σ) ∧ (¬ p → pw Γ b Q σ)) := by simp [condQ]
theorem condQ_v (t : Bool) (g : Bool) (a b : X) : condQ Γ (g, .q (.c (.bool t))) a b Q σ = (g = true ∧ (t = true → pw Γ a Q σ) ∧ (t = false → pw Γ b Q σ)) := rfl
theorem not_dec (p : Prop) [Decidable p] : (!decide p) = decide (¬ p) := by simp
theorem pw_block (i : Nat) (b : X) : pw Γ (.block i b) Q σ = pw Γ b (blkQ i Q) σ := rfl
theorem pw_reg (ops : List XOp) (dr : Option Nat) (live : List Nat) : pw Γ (.reg ops dr live) Q σ = runX Γ (dr.getD 0) ops σ (fun σ' => Q .normal (σ'.keep live)) := rfl
theorem thenQ_n (N : St → Prop) : thenQ N Q .normal σ = N σ := rfl
theorem thenQ_r (N : St → Prop) : thenQ N Q .ret σ = Q .ret σ := rfl
theorem thenQ_e (N : St → Prop) (i : Nat) : thenQ N Q (.exit i) σ = Q (.exit i) σ := rfl
theorem blkQ_n (i : Nat) : blkQ i Q .normal σ = Q .normal σ := rfl
theorem blkQ_r (i : Nat) : blkQ i Q .ret σ = Q .ret σ := rfl
theorem blkQ_e (i j : Nat) : blkQ i Q (.exit j) σ = if j = i then Q .normal σ else Q (.exit j) σ := rfl
theorem loopQ_n {ι : Type} (μ : ι → Nat) (Pr : ι → Prop) (S : ι → St) (i : ι) : loopQ μ Pr S i Q .normal σ = ∃ j, Pr j ∧ μ j < μ i ∧ Le σ (S j) := rfl
theorem loopQ_r {ι : Type} (μ : ι → Nat) (Pr : ι → Prop) (S : ι → St) (i : ι) : loopQ μ Pr S i Q .ret σ = Q .ret σ := rfl
theorem loopQ_e {ι : Type} (μ : ι → Nat) (Pr : ι → Prop) (S : ι → St) (i : ι) (k : Nat) : loopQ μ Pr S i Q (.exit k) σ = Q (.exit k) σ := rfl
end

/-! ### Specifications over a family of arguments -/
open Classical in
noncomputable def Spec.of {ι : Type} (md : List Bool) (args : ι → List AV) (pre : ι → Prop) (res out : ι → List AV) : Spec :=
  { md := md, pre := fun ds => ∃ i, args i = ds ∧ pre i, res := fun ds => if h : ∃ i, args i = ds then res (Classical.choose h) else [], out := fun ds => if h : ∃ i, args i = ds then out (Classical.choose h) else [] }
theorem Spec.of_pre {ι : Type} {md : List Bool} {args : ι → List AV} {pre : ι → Prop} {res out : ι → List AV} (i : ι) (h : pre i) : (Spec.of md args pre res out).pre (args i) := ⟨i, rfl, h⟩
theorem Spec.of_res {ι : Type} {md : List Bool} {args : ι → List AV} {pre : ι → Prop} {res out : ι → List AV} (hinj : ∀ i j, args i = args j → i = j) (i : ι) : (Spec.of md args pre res out).res (args i) = res i := by
  have h : ∃ j, args j = args i := ⟨i, rfl⟩
  simp only [Spec.of, dif_pos h]
  rw [hinj _ _ (Classical.choose_spec h)]
theorem Spec.of_out {ι : Type} {md : List Bool} {args : ι → List AV} {pre : ι → Prop} {res out : ι → List AV} (hinj : ∀ i j, args i = args j → i = j) (i : ι) : (Spec.of md args pre res out).out (args i) = out i := by
  have h : ∃ j, args j = args i := ⟨i, rfl⟩
  simp only [Spec.of, dif_pos h]
  rw [hinj _ _ (Classical.choose_spec h)]
theorem Spec.of_pre' {ι : Type} {md : List Bool} {args : ι → List AV} {pre : ι → Prop} {res out : ι → List AV} (hinj : ∀ i j, args i = args j → i = j) (i : ι) : (Spec.of md args pre res out).pre (args i) = pre i := by
  refine propext ⟨?_, fun h => ⟨i, rfl, h⟩⟩
  rintro ⟨j, h, hp⟩
  rw [hinj _ _ h] at hp
  exact hp
/-- All smaller calls, then all. -/
theorem Sound.all {P : Program} {f : FuncId} {ι : Type} {md : List Bool} {args : ι → List AV} {pre : ι → Prop} {res out : ι → List AV} (μ : ι → Nat) (h : ∀ k, Sound P f (Spec.of md args (fun i => pre i ∧ μ i < k) res out)) : Sound P f (Spec.of md args pre res out) := by
  rintro _ ⟨i, rfl, hi⟩
  exact h (μ i + 1) (args i) ⟨i, rfl, hi, Nat.lt_succ_self _⟩
theorem Sound.none {P : Program} {f : FuncId} {ι : Type} {md : List Bool} {args : ι → List AV} {pre : ι → Prop} {res out : ι → List AV} {μ : ι → Nat} : Sound P f (Spec.of md args (fun i => pre i ∧ μ i < 0) res out) := by
  rintro _ ⟨i, rfl, hi⟩
  exact absurd hi.2 (Nat.not_lt_zero _)
/-- The rule, over a family. -/
theorem sound_fam {P : Program} {Γ : FuncId → Option Spec} (G : GOK P Γ) {f : FuncId} {fn : Func} {c : Code} {x : X} {rs : List RX} {ι : Type} {md : List Bool} {args : ι → List AV} {pre : ι → Prop} {res out : ι → List AV} (hf : P.funcs[f]? = some fn) (hb : fn.body = some c) {n : Nat} (hn : fn.ntmps = n)
    (hc : chkX P n c x = true) (hk : okRs P fn.results.toList rs = true) (hl : ∀ i, (args i).length ≤ n) (hinj : ∀ i j, args i = args j → i = j)
    (h : ∀ i, pre i → pw Γ x (endQ (finX n (Spec.at (res i) (out i)) (args i) rs)) (initX 0 n (args i))) : Sound P f (Spec.of md args pre res out) := by
  subst hn
  refine sound_of_pw G hf hb hc hk ?_ ?_
  · rintro _ ⟨i, rfl, _⟩; exact hl i
  · rintro _ ⟨i, rfl, hi⟩
    refine pw_mono x _ _ ?_ _ (h i hi)
    intro e σ hq
    have key : finX fn.ntmps (Spec.at (res i) (out i)) (args i) rs σ → ∃ r o, (Spec.of md args pre res out).may (args i) r o ∧ finX fn.ntmps (Spec.at r o) (args i) rs σ := fun hfin =>
      ⟨res i, out i, (Spec.may_none rfl).2 ⟨(Spec.of_res hinj i).symm, (Spec.of_out hinj i).symm⟩, hfin⟩
    cases e with
    | normal => exact key hq
    | exit k => exact hq
    | ret => exact key hq
/-! ### Specifications that leave open which of several is handed back -/
def Spec.ofR {ι κ : Type} (md : List Bool) (args : ι → List AV) (pre : ι → Prop) (rel : ι → κ → Prop) (res out : ι → κ → List AV) : Spec :=
  { md := md, pre := fun ds => ∃ i, args i = ds ∧ pre i, res := fun _ => [], out := fun _ => [], alts := some fun ds r o => ∃ i k, args i = ds ∧ rel i k ∧ r = res i k ∧ o = out i k }
theorem Spec.ofR_pre {ι κ : Type} {md : List Bool} {args : ι → List AV} {pre : ι → Prop} {rel : ι → κ → Prop} {res out : ι → κ → List AV} (hinj : ∀ i j, args i = args j → i = j) (i : ι) : (Spec.ofR md args pre rel res out).pre (args i) = pre i := by
  refine propext ⟨?_, fun h => ⟨i, rfl, h⟩⟩
  rintro ⟨j, h, hp⟩
  rw [hinj _ _ h] at hp
  exact hp
theorem Spec.ofR_all {ι κ : Type} {md : List Bool} {args : ι → List AV} {pre : ι → Prop} {rel : ι → κ → Prop} {res out : ι → κ → List AV} (hinj : ∀ i j, args i = args j → i = j) (i : ι) (F : List AV → List AV → Prop) :
    (Spec.ofR md args pre rel res out).all (args i) F = ∀ k, rel i k → F (res i k) (out i k) := by
  refine propext ⟨fun h k hk => h _ _ ⟨i, k, rfl, hk, rfl, rfl⟩, ?_⟩
  rintro h r o ⟨j, k, hj, hk, rfl, rfl⟩
  rw [hinj _ _ hj] at *
  exact h k hk
theorem Sound.allR {P : Program} {f : FuncId} {ι κ : Type} {md : List Bool} {args : ι → List AV} {pre : ι → Prop} {rel : ι → κ → Prop} {res out : ι → κ → List AV} (μ : ι → Nat) (h : ∀ k, Sound P f (Spec.ofR md args (fun i => pre i ∧ μ i < k) rel res out)) : Sound P f (Spec.ofR md args pre rel res out) := by
  rintro _ ⟨i, rfl, hi⟩
  exact h (μ i + 1) (args i) ⟨i, rfl, hi, Nat.lt_succ_self _⟩
theorem Sound.noneR {P : Program} {f : FuncId} {ι κ : Type} {md : List Bool} {args : ι → List AV} {pre : ι → Prop} {rel : ι → κ → Prop} {res out : ι → κ → List AV} {μ : ι → Nat} : Sound P f (Spec.ofR md args (fun i => pre i ∧ μ i < 0) rel res out) := by
  rintro _ ⟨i, rfl, hi⟩
  exact absurd hi.2 (Nat.not_lt_zero _)
theorem sound_famR {P : Program} {Γ : FuncId → Option Spec} (G : GOK P Γ) {f : FuncId} {fn : Func} {c : Code} {x : X} {rs : List RX} {ι κ : Type} {md : List Bool} {args : ι → List AV} {pre : ι → Prop} {rel : ι → κ → Prop} {res out : ι → κ → List AV} (hf : P.funcs[f]? = some fn) (hb : fn.body = some c) {n : Nat} (hn : fn.ntmps = n)
    (hc : chkX P n c x = true) (hk : okRs P fn.results.toList rs = true) (hl : ∀ i, (args i).length ≤ n)
    (h : ∀ i, pre i → pw Γ x (endQ (fun σ => ∃ k, rel i k ∧ finX n (Spec.at (res i k) (out i k)) (args i) rs σ)) (initX 0 n (args i))) : Sound P f (Spec.ofR md args pre rel res out) := by
  subst hn
  refine sound_of_pw G hf hb hc hk ?_ ?_
  · rintro _ ⟨i, rfl, _⟩; exact hl i
  · rintro _ ⟨i, rfl, hi⟩
    refine pw_mono x _ _ ?_ _ (h i hi)
    intro e σ hq
    have key : (∃ k, rel i k ∧ finX fn.ntmps (Spec.at (res i k) (out i k)) (args i) rs σ) → ∃ r o, (Spec.ofR md args pre rel res out).may (args i) r o ∧ finX fn.ntmps (Spec.at r o) (args i) rs σ := fun ⟨k, hk, hfin⟩ =>
      ⟨_, _, ⟨i, k, rfl, hk, rfl, rfl⟩, hfin⟩
    cases e with
    | normal => exact key hq
    | exit k => exact hq
    | ret => exact key hq

/-! ### What is known of other functions -/
def Gam (l : List (FuncId × Spec)) : FuncId → Option Spec := fun f => get? f l
theorem GOK.nil {P : Program} : GOK P (Gam []) := fun f sp h => by simp [Gam, get?] at h
theorem GOK.cons {P : Program} {l : List (FuncId × Spec)} {f : FuncId} {sp : Spec} (hc : okCallee P f = true) (hs : Sound P f sp) (h : GOK P (Gam l)) : GOK P (Gam ((f, sp) :: l)) := fun g sp' hg => by
  simp only [Gam, get?] at hg
  split at hg
  · rename_i he; subst he; simp at hg; subst hg; exact ⟨hc, hs⟩
  · exact h g sp' hg
end Go.Proofs.Pw
namespace Go.Proofs.Pw
set_option linter.unusedSectionVars false
variable [Globs]
theorem allC_map (cs : List C) : allC (cs.map .c) = some cs := by
  induction cs with
  | nil => rfl
  | cons c cs ih => simp [allC, Q.toC, ih]
theorem toD_map (cs : List C) : PV.toD (.agg (cs.map .c)) = some (.agg cs) := by simp [PV.toD, allC_map]
end Go.Proofs.Pw
namespace Go.Proofs.Pw
set_option linter.unusedSectionVars false
variable [Globs]
theorem owns_map (cs : List C) : (cs.map Q.c).flatMap ownsQ = [] := by
  induction cs with
  | nil => rfl
  | cons c cs ih => simp [ownsQ]
end Go.Proofs.Pw
namespace Go.Proofs.Pw
theorem fill_set {α : Type} {A B : List α} {a : α} {i : Nat} (hl : A.length = B.length) (h : A[i]? = some a) : (A.take i ++ B.drop i).set i a = A.take (i + 1) ++ B.drop (i + 1) := by
  have hi : i < A.length := (List.getElem?_eq_some_iff.1 h).1
  have hlen : (A.take i).length = i := by simp; omega
  rw [List.set_append_right _ _ (by omega), hlen, Nat.sub_self, List.drop_eq_getElem_cons (by omega), List.set_cons_zero, List.take_add_one, h]
  simp
theorem fill_get {α : Type} {A B : List α} {d : α} {i : Nat} (hl : A.length = B.length) (h : i < A.length) : (A.take i ++ B.drop i).getD i d = B.getD i d := by
  have hlen : (A.take i).length = i := by simp; omega
  rw [List.getD_eq_getElem?_getD, List.getElem?_append_right (by omega), hlen, Nat.sub_self, List.getElem?_drop, Nat.add_zero, List.getD_eq_getElem?_getD]
theorem fill_len {α : Type} {A B : List α} {i : Nat} (hl : A.length = B.length) : (A.take i ++ B.drop i).length = B.length := by simp; omega
theorem fill_all {α : Type} {A B : List α} (hl : A.length = B.length) : A.take A.length ++ B.drop A.length = A := by rw [hl, List.drop_length, ← hl, List.take_length, List.append_nil]
theorem placeC_whole {qs ys : List C} (h : qs.length = ys.length) : placeC qs 0 ys = ys := by simp [placeC, ← h]
theorem getD_rep {α : Type} {n i : Nat} {x d : α} (h : i < n) : (List.replicate n x).getD i d = x := by simp [h]
end Go.Proofs.Pw
namespace Go.Proofs.Pw
theorem pick_or (p q : Prop) [Decidable p] [Decidable q] : (bif decide p then true else decide q) = decide (p ∨ q) := by by_cases p <;> simp_all
theorem pick_and (p q : Prop) [Decidable p] [Decidable q] : (bif decide p then decide q else false) = decide (p ∧ q) := by by_cases p <;> simp_all
theorem dec_and (p q : Prop) [Decidable p] [Decidable q] : (decide p && decide q) = decide (p ∧ q) := by simp
theorem bq_t (b : Bool) : (b == true) = b := by cases b <;> rfl
theorem bq_f (b : Bool) : (b == false) = !b := by cases b <;> rfl
theorem pick_t (x y : Bool) : (bif true then x else y) = x := rfl
theorem pick_f (x y : Bool) : (bif false then x else y) = y := rfl
end Go.Proofs.Pw
namespace Go.Proofs.Pw
theorem killB_map (d : Nat) (cs : List C) : (cs.map Q.c).map (Q.killB d) = cs.map Q.c := by rw [List.map_map]; rfl
theorem killO_map (d : Nat) (cs : List C) : (cs.map Q.c).map (Q.killO d) = cs.map Q.c := by rw [List.map_map]; rfl
theorem pub_map (d : Nat) (c : C) (cs : List C) : (cs.map Q.c).map (Q.pub d c) = cs.map Q.c := by rw [List.map_map]; rfl
end Go.Proofs.Pw
namespace Go.Proofs.Pw
set_option linter.unusedSectionVars false
variable [Globs]
/-- Less may be told. -/
theorem Le.sub {σ σ' : St} (ht : ∀ p ∈ σ'.tm, p ∈ σ.tm) (hb : ∀ p ∈ σ'.bx, p ∈ σ.bx) (hr : ∀ p ∈ σ'.rw, p ∈ σ.rw) : Le σ σ' := fun _ _ _ _ _ _ M hs =>
  ⟨M, hs.size, hs.defs, fun t p h => hs.tm t p (ht _ h), ⟨fun i q h => hs.mem.box i q (hb _ h), fun i sz es h => hs.mem.row i sz es (hr _ h), fun i q j q' h k => hs.mem.bb i q j q' (hb _ h) (hb _ k), fun i q j r h k => hs.mem.br i q j r (hb _ h) (hr _ k), fun i r j r' g h k => hs.mem.rr i r j r' g (hr _ h) (hr _ k), hs.mem.lt, fun i q h => hs.mem.sb i q (hb _ h), fun i r g h => hs.mem.sr i r g (hr _ h), hs.mem.gl⟩, hs.fr, hs.hB, hs.sS, hs.sβ⟩
end Go.Proofs.Pw
