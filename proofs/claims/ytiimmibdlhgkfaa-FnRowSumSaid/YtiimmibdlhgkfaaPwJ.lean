/- An operation that may be first is taken first. -/
import Derived.Test.YtiimmibdlhgkfaaPwH
import Derived.Deep.LoopGhost
set_option linter.unusedSimpArgs false
set_option linter.unusedVariables false
namespace Go.Proofs.Pw
open Go.RowKit
set_option linter.unusedSectionVars false
variable [Globs]
def memE : XK → Bool
  | .load .. => false
  | .ia .. => false
  | .len .. => false
  | .st .. => false
  | .app .. => false
  | .sub .. => false
  | .isn .. => false
  | .ovl .. => false
  | .sub3 .. => false
  | .callr .. => false
  | .callo .. => false
  | .callb .. => false
  | _ => true
def isK : XK → Bool
  | .box .. => true
  | .alloc .. => true
  | .app .. => true
  | .mk .. => true
  | .callo .. => true
  | _ => false
def resPl : XK → Bool
  | .pick .. => true
  | .bin .. => true
  | .mm .. => true
  | .not .. => true
  | .idx .. => true
  | .len .. => true
  | .call .. => true
  | .callb .. => true
  | .calli .. => true
  | .isn .. => true
  | .cap .. => true
  | .conv .. => true
  | .bsl .. => true
  | .glb .. => true
  | _ => false
def triv (y x : XOp) : Bool := (!isW y.op && !isW x.op) || ((memE y.op && !isW y.op) && (resPl y.op || !isK x.op)) || ((memE x.op && !isW x.op) && (resPl x.op || !isK y.op))
def plO : Option PV → Prop
  | none => True
  | some p => p.pl
structure Info (x : XOp) (r : Rc) : Prop where
  w : isW x.op = false → r.wr = [] ∧ r.k = none ∧ r.u.bs = []
  m : memE x.op = true → r.mem = []
  k : isK x.op = false → r.k = none
  p : resPl x.op = true → plO r.u.s
theorem opKil_isK {σ : St} {x : XOp} (h : isK x.op = false) : opKil σ x = none := by
  obtain ⟨d, g, k⟩ := x
  cases k <;> first | (simp [isK] at h; done) | (cases g <;> cases d <;> rfl)
theorem memK_memE {σ : St} {x : XOp} (h : memE x.op = true) : memK σ x = [] := by
  obtain ⟨d, g, k⟩ := x
  cases k <;> first | rfl | (simp [memE] at h)
theorem toP_pl (d : DV) : d.toP.pl := by
  cases d with
  | one c => cases c <;> trivial
  | agg cs => exact plL_map cs
theorem tup_pl (ds : List DV) : plS (ds.map DV.toS) := by
  induction ds with
  | nil => trivial
  | cons d r ih =>
    refine ⟨?_, ih⟩
    cases d with
    | one c => trivial
    | agg cs => exact plL_map cs
theorem retP_pl {ds : List AV} {p : PV} (h : retP ds = some p) : p.pl := by
  unfold retP at h
  split at h
  · cases h; exact toP_pl _
  · cases h; exact tup_pl _
  · cases h
theorem callX_pl {Γ : FuncId → Option Spec} {σ : St} {f : FuncId} {xs : List XO} {vc : Prop} {p : PV} (h : callX Γ σ f xs = some (vc, p)) : p.pl := by
  unfold callX at h
  split at h
  · split at h
    · simp only [Option.map_eq_some_iff, Prod.mk.injEq] at h
      obtain ⟨q, hq, _, rfl⟩ := h
      exact retP_pl hq
    · cases h
  · cases h
theorem evalK_pl {Γ : FuncId → Option Spec} {σ : St} {k : XK} (hk : resPl k = true) {vc : Prop} {p : PV} (h : evalK Γ σ k = some (vc, p)) : p.pl := by
  cases k <;> first | (simp [resPl] at hk; done) | skip
  case pick => simp only [evalK] at h; split at h <;> first | (cases h; trivial) | (split at h <;> cases h; trivial) | cases h
  case bin =>
    simp only [evalK] at h
    split at h
    · simp only [Option.map_eq_some_iff, Prod.mk.injEq] at h
      obtain ⟨r, _, _, rfl⟩ := h
      trivial
    · cases h
  case not => simp only [evalK] at h; split at h <;> cases h; trivial
  case idx => simp only [evalK] at h; split at h <;> cases h; trivial
  case len x str =>
    cases str with
    | true => simp only [evalK] at h; split at h <;> cases h; trivial
    | false =>
      simp only [evalK] at h
      split at h
      · simp only [Option.map_eq_some_iff, Prod.mk.injEq] at h
        obtain ⟨r, _, _, rfl⟩ := h
        trivial
      · cases h; trivial
      · cases h; trivial
      · simp only [Option.map_eq_some_iff, Prod.mk.injEq] at h
        obtain ⟨r, _, _, rfl⟩ := h
        trivial
  case call f xs => exact callX_pl h
  case callb f xs =>
    simp only [evalK, callB] at h
    split at h
    · split at h
      · split at h
        · rename_i p' hp
          split at h
          · cases h; exact retP_pl hp
          · cases h
        · cases h
      · cases h
    · cases h
  case calli f xs =>
    simp only [evalK] at h
    split at h
    · simp only [Option.map_eq_some_iff, Prod.mk.injEq] at h
      obtain ⟨⟨v, q⟩, hr, _, rfl⟩ := h
      exact callX_pl hr
    · cases h
  case mm => simp only [evalK] at h; split at h <;> first | (split at h <;> cases h; trivial) | cases h
  case cap x => simp only [evalK] at h; split at h <;> first | (cases h; trivial) | cases h
  case isn x =>
    simp only [evalK] at h
    split at h <;>
    · simp only [Option.map_eq_some_iff, Prod.mk.injEq] at h
      obtain ⟨r, _, _, rfl⟩ := h
      trivial
  case conv => simp only [evalK] at h; split at h <;> cases h; trivial
  case bsl sz parts =>
    cases parts with
    | nil => simp only [evalK] at h; cases h; trivial
    | cons a r =>
      simp only [evalK, Option.map_eq_some_iff, Prod.mk.injEq] at h
      obtain ⟨q, _, _, rfl⟩ := h
      trivial
  case glb =>
    simp only [evalK, Option.map_eq_some_iff, Prod.mk.injEq] at h
    obtain ⟨q, _, _, rfl⟩ := h
    trivial
theorem stepM_pl {Γ : FuncId → Option Spec} {σ : St} {x : XOp} (hk : resPl x.op = true) {vc : Prop} {p : PV} (h : stepM Γ σ x = some (vc, p)) : p.pl := by
  unfold stepM at h
  split at h
  · split at h
    · simp only [Option.map_eq_some_iff, Prod.mk.injEq] at h
      obtain ⟨⟨v, q⟩, hr, _, rfl⟩ := h
      exact (evalK_pl hk hr : q.pl)
    · cases h
  · exact evalK_pl hk h
theorem effC_pure {Γ : FuncId → Option Spec} {σ : St} {x : XOp} {K : Updr → Prop} (hx : isW x.op = false) (h : effC Γ σ x K) : ∃ vc p, stepM Γ σ x = some (vc, p) ∧ vc ∧ K ⟨some p, [], []⟩ := by
  have key : (match stepM Γ σ x with | some (vc, p) => vc ∧ K ⟨some p, [], []⟩ | none => False) → ∃ vc p, stepM Γ σ x = some (vc, p) ∧ vc ∧ K ⟨some p, [], []⟩ := fun h => by
    split at h
    · rename_i vc p e; exact ⟨vc, p, e, h.1, h.2⟩
    · exact h.elim
  obtain ⟨d, g, k⟩ := x
  cases k <;> cases g <;> first | (simp [isW] at hx; done) | exact h.elim | exact key h
theorem effC_info {Γ : FuncId → Option Spec} {σ : St} {x : XOp} {K : Updr → Prop} (h : effC Γ σ x K) : effC Γ σ x (fun u => Info x (rcOf σ x u) ∧ K u) := by
  cases hw : isW x.op with
  | true =>
    have hr : resPl x.op = false := by
      obtain ⟨d, g, k⟩ := x
      cases k <;> first | rfl | (simp [isW] at hw)
    refine effC_mono (fun u hu => ⟨⟨fun h => ?_, fun h => memK_memE h, fun h => opKil_isK h, fun h => ?_⟩, hu⟩) h
    · rw [hw] at h; cases h
    · rw [hr] at h; cases h
  | false =>
    obtain ⟨vc, p, h1, h2, h3⟩ := effC_pure hw h
    have hK : isK x.op = false := by
      obtain ⟨d, g, k⟩ := x
      cases k <;> first | rfl | (simp [isW] at hw)
    have hi : Info x (rcOf σ x ⟨some p, [], []⟩) := ⟨fun _ => ⟨by simp [rcOf, wrU, opKil_isK hK, kilI], opKil_isK hK, rfl⟩, fun h => memK_memE h, fun h => opKil_isK h, fun h => stepM_pl h h1⟩
    have key : ∀ (F : Updr → Prop), F ⟨some p, [], []⟩ → effC Γ σ x F := fun F hF => by
      have h4 := h
      obtain ⟨d, g, k⟩ := x
      cases k <;> cases g <;> first | (simp [isW] at hw; done) | exact h4.elim | (simp only [effC, h1]; exact ⟨h2, hF⟩)
    exact key _ ⟨hi, h3⟩
theorem one_info {Γ : FuncId → Option Spec} {σ : St} {x : XOp} {F : Rc → St → Prop} (h : one Γ σ x F) : one Γ σ x (fun r τ => Info x r ∧ F r τ) :=
  ⟨h.1, effC_mono (fun _ h => ⟨h.2.1, h.1, h.2.2⟩) (effC_info h.2)⟩
theorem invU_pl {k : Kil} {u : Updr} (h : plO u.s ∨ k = none) (hb : u.bs = []) : invU k u := by
  refine ⟨?_, by rw [hb]; trivial⟩
  cases hs : u.s with
  | none => trivial
  | some p =>
    rcases h with h | h
    · rw [hs] at h; exact PV.pl_kil h _
    · rw [h]; exact kilP_none p
theorem disj_nil (a : List (Bool × Nat)) : disj a [] = true := by unfold disj; rw [List.all_eq_true]; intro z _; rfl
theorem triv_ok {y x : XOp} {ry rx : Rc} (h : triv y x = true) (iy : Info y ry) (ix : Info x rx) : pairOk ry rx := by
  simp only [triv, Bool.or_eq_true, Bool.and_eq_true, Bool.not_eq_true'] at h
  rcases h with (⟨h1, h2⟩ | ⟨⟨h1, h2⟩, h3⟩) | ⟨⟨h1, h2⟩, h3⟩
  · obtain ⟨a1, a2, a3⟩ := iy.w h1
    obtain ⟨b1, b2, b3⟩ := ix.w h2
    refine ⟨⟨by rw [a1]; rfl, by rw [b1]; rfl⟩, ?_, ?_⟩
    · rw [a2]; exact invU_pl (.inr rfl) b3
    · rw [b2]; exact invU_pl (.inr rfl) a3
  · obtain ⟨a1, a2, a3⟩ := iy.w h2
    refine ⟨⟨by rw [a1]; rfl, by rw [iy.m h1]; exact disj_nil _⟩, ?_, ?_⟩
    · rw [a2]
      refine ⟨?_, invB_iff.2 fun _ l _ => kilL_none l⟩
      cases rx.u.s with
      | none => trivial
      | some p => exact kilP_none p
    · exact invU_pl (h3.imp iy.p ix.k) a3
  · obtain ⟨b1, b2, b3⟩ := ix.w h2
    refine ⟨⟨by rw [b1, ix.m h1]; exact disj_nil _, by rw [b1]; rfl⟩, ?_, ?_⟩
    · exact invU_pl (h3.imp ix.p iy.k) b3
    · rw [b2]
      refine ⟨?_, invB_iff.2 fun _ l _ => kilL_none l⟩
      cases ry.u.s with
      | none => trivial
      | some p => exact kilP_none p

abbrev Past := Nat → Option Rc
def setP (p : Past) (i : Nat) (r : Rc) : Past := fun j => if j = i then some r else p j
def okPast (p : Past) : List Nat → Rc → Prop
  | [], _ => True
  | j :: js, r => (match p j with | some ry => pairOk ry r | none => True) ∧ okPast p js r
/-- The head in the order of the text. -/
def runM (Γ : FuncId → Option Spec) (prs : List (List Nat)) : Past → List (XOp × Nat) → St → (St → Prop) → Prop
  | _, [], σ, K => K σ
  | p, (x, i) :: rest, σ, K => one Γ σ x (fun r σ' => okPast p (prs.getD i []) r ∧ runM Γ prs (setP p i r) rest σ' K)
theorem okPast_iff {p : Past} {r : Rc} : ∀ {l : List Nat}, okPast p l r ↔ ∀ j ∈ l, ∀ ry, p j = some ry → pairOk ry r := by
  intro l
  induction l with
  | nil => simp [okPast]
  | cons j l ih =>
    simp only [okPast, ih, List.mem_cons]
    constructor
    · rintro ⟨h1, h2⟩ j' (rfl | h) ry hr
      · rw [hr] at h1; exact h1
      · exact h2 j' h ry hr
    · intro h
      refine ⟨?_, fun j' h' => h j' (.inr h')⟩
      split
      · rename_i ry hr; exact h j (.inl rfl) ry hr
      · trivial
section
variable {Γ : FuncId → Option Spec} {prs : List (List Nat)}
theorem runM_eqv {K : St → Prop} (hK : ∀ σ σ', Eqv σ σ' → K σ → K σ') : ∀ {rest : List (XOp × Nat)} {p : Past} {σ σ' : St}, Eqv σ σ' → runM Γ prs p rest σ K → runM Γ prs p rest σ' K := by
  intro rest
  induction rest with
  | nil => intro p σ σ' h hr; exact hK _ _ h hr
  | cons x rest ih =>
    obtain ⟨x, i⟩ := x
    intro p σ σ' h hr
    exact one_mono (fun r τ' ⟨τ, he, h1, h2⟩ => ⟨h1, ih he h2⟩) (one_eqv h hr)
theorem runM_mono {K K' : St → Prop} (hK : ∀ σ, K σ → K' σ) : ∀ {rest : List (XOp × Nat)} {p : Past} {σ : St}, runM Γ prs p rest σ K → runM Γ prs p rest σ K' := by
  intro rest
  induction rest with
  | nil => intro p σ hr; exact hK _ hr
  | cons x rest ih =>
    obtain ⟨x, i⟩ := x
    intro p σ hr
    exact one_mono (fun r τ' ⟨h1, h2⟩ => ⟨h1, ih h2⟩) hr
theorem one_ex {σ : St} {x : XOp} {F : Rc → St → Prop} {A : Prop} (h : one Γ σ x F) (hA : ∀ r τ, F r τ → A) : A := by
  obtain ⟨vc, O, hne, hn⟩ := effC_nf Γ σ x
  have h1 := (hn _).1 h.2
  obtain ⟨u, hu⟩ := hne h1.1
  exact hA _ _ (h1.2 u hu).2
theorem setP_comm {p : Past} {i j : Nat} (h : i ≠ j) (r r' : Rc) : setP (setP p i r) j r' = setP (setP p j r') i r := by
  funext t
  unfold setP
  by_cases h1 : t = i <;> by_cases h2 : t = j <;> simp [h1, h2] <;> (intro h3; omega)
/-- What is unordered may be taken first. -/
theorem comm {K : St → Prop} (hK : ∀ σ σ', Eqv σ σ' → K σ → K σ') {B : List (XOp × Nat)} {i : Nat} {x : XOp} : ∀ {A : List (XOp × Nat)} {p : Past} {σ : St},
    (∀ y ∈ A, p y.2 = none ∧ y.2 ≠ i ∧ Stt y.1 x ∧ (y.2 ∈ prs.getD i [] ∨ triv y.1 x = true) ∧ i ∉ prs.getD y.2 []) → A.Pairwise (fun y z => y.2 ≠ z.2) → runM Γ prs p (A ++ (x, i) :: B) σ K →
    one Γ σ x (fun r σ' => okPast p (prs.getD i []) r ∧ runM Γ prs (setP p i r) (A ++ B) σ' K) := by
  intro A
  induction A with
  | nil => intro p σ _ _ h; exact h
  | cons y A ih =>
    obtain ⟨y, j⟩ := y
    intro p σ hA hnd h
    obtain ⟨hpj, hji, hst, hpr, hnp⟩ := hA (y, j) (by simp)
    simp only [List.pairwise_cons] at hnd
    have h1 : one Γ σ y (fun ry σ1 => one Γ σ1 x (fun rx σ2 => (pairOk ry rx ∧ okPast p (prs.getD j []) ry ∧ okPast (setP p j ry) (prs.getD i []) rx) ∧ runM Γ prs (setP (setP p j ry) i rx) (A ++ B) σ2 K)) := by
      refine one_mono ?_ (one_info h)
      rintro ry σ1 ⟨iy, h2, h3⟩
      have h4 := ih (fun z hz => by
        obtain ⟨a1, a2⟩ := hA z (by simp [hz])
        refine ⟨?_, a2⟩
        unfold setP
        rw [if_neg (fun e => hnd.1 z hz e.symm)]
        exact a1) hnd.2 h3
      refine one_mono ?_ (one_info h4)
      rintro rx σ2 ⟨ix, h5, h6⟩
      refine ⟨⟨?_, h2, h5⟩, h6⟩
      rcases hpr with hpr | hpr
      · exact okPast_iff.1 h5 j hpr ry (by simp [setP])
      · exact triv_ok hpr iy ix
    refine one_mono ?_ (swap hst (K := fun ry rx σ2 => (pairOk ry rx ∧ okPast p (prs.getD j []) ry ∧ okPast (setP p j ry) (prs.getD i []) rx) ∧ runM Γ prs (setP (setP p j ry) i rx) (A ++ B) σ2 K) (fun _ _ _ h => h.1.1) h1)
    intro rx τ1 h2
    refine ⟨one_ex h2 (fun ry τ2 ⟨σ2, _, ⟨_, _, h3⟩, _⟩ => okPast_iff.2 fun j' hj' r' hr' => okPast_iff.1 h3 j' hj' r' ?_), ?_⟩
    · unfold setP
      rw [if_neg (fun e => by rw [e, hpj] at hr'; cases hr')]
      exact hr'
    · refine one_mono ?_ h2
      rintro ry τ2 ⟨σ2, he, ⟨_, h3, _⟩, h4⟩
      refine ⟨okPast_iff.2 fun j' hj' r' hr' => okPast_iff.1 h3 j' hj' r' ?_, ?_⟩
      · unfold setP at hr'
        rw [if_neg (fun e => hnp (by rw [← e]; exact hj'))] at hr'
        exact hr'
      · rw [setP_comm (fun e => hji e.symm)]
        exact runM_eqv hK he h4
end
end Go.Proofs.Pw
/- Mixed regions on the machine. -/
namespace Go.Proofs.Pw
open Go.RowKit
set_option linter.unusedSectionVars false
variable [Globs]
section
variable {P : Program} {Γ : FuncId → Option Spec} {σ σ' : St} {a : Act} {w w' : World} {M M' : Gh} {X : Nat → Prop} {B n : Nat} {w0 : W0} {ops : Array Oper}

theorem Sim.eqv (he : Eqv σ σ') (hs : Sim X n B w0 σ' a w M) : Sim X n B w0 σ a w M := by
  refine ⟨hs.size, hs.defs, fun t p h => hs.tm t p ((he.1.1 _).1 h), ?_, hs.fr, hs.hB, hs.sS, hs.sβ, hs.sρ⟩
  have hb : ∀ {i qs}, (i, qs) ∈ σ.bx → (i, qs) ∈ σ'.bx := fun h => (he.2.1.1 _).1 h
  have hr : ∀ {i r}, (i, r) ∈ σ.rw → (i, r) ∈ σ'.rw := fun h => (he.2.2.1 _).1 h
  have m := hs.mem
  exact ⟨fun i qs h => m.box i qs (hb h), fun i sz es h => m.row i sz es (hr h), fun i q i' q' h h' => m.bb i q i' q' (hb h) (hb h'), fun i q i' r h h' => m.br i q i' r (hb h) (hr h'),
    fun i r i' r' g h h' => m.rr i r i' r' g (hr h) (hr h'), m.lt, fun i q h => m.sb i q (hb h), fun i r g h => m.sr i r g (hr h), m.gl⟩

theorem outB_outE {σ0 : St} : ∀ {xs : List XO} {ms : List Bool} {os : List AV} {b : List (Nat × List Q)} {σ : St}, outB σ0 xs ms os = some b → outE σ0 xs ms os σ = some { σ with bx := updL b σ.bx } := by
  intro xs
  induction xs with
  | nil =>
    intro ms os b σ h
    cases ms <;> cases os <;> simp only [outB, reduceCtorEq, Option.some.injEq] at h
    subst h; rfl
  | cons x xs ih =>
    intro ms os b σ h
    cases ms with
    | nil => simp [outB] at h
    | cons m ms =>
      cases os with
      | nil => cases m <;> simp [outB] at h
      | cons o os =>
        cases m with
        | false =>
          cases o <;> simp only [outB, reduceCtorEq] at h
          simp only [outE]
          exact ih h
        | true =>
          cases o <;> simp only [outB, reduceCtorEq] at h
          simp only [outE]
          split at h
          · rename_i i o' b' e1 e2
            cases h
            rw [e1]
            simp only
            rw [ih e2]
            rfl
          · cases h
theorem effR_callR {f : FuncId} {ys : List XO} {d : Option Nat} {K : Updr → Prop} (h : effR Γ σ f ys K) : callR Γ σ d f ys (fun σ' => ∃ u : Updr, K u ∧ σ' = u.app none d σ) := by
  unfold effR at h
  unfold callR
  split at h
  · rename_i sp hsp
    rw [hsp]
    simp only
    split at h
    · rename_i vc ds ha
      obtain ⟨⟨h1, h2, h3, h4, h5⟩, h6⟩ := h
      have hp : σ.pubs ys sp.md = σ := by unfold St.pubs; rw [h1]; rfl
      rw [hp, ha]
      refine ⟨h2, h3, h4, fun r o hro => ?_⟩
      obtain ⟨p, hr, h7⟩ := orF_some (h6 r o hro)
      obtain ⟨b, hb, h8⟩ := orF_some h7
      rw [outB_outE hb]
      show orF (retE d r { σ with bx := updL b σ.bx }) _
      have : retE d r { σ with bx := updL b σ.bx } = some (({ σ with bx := updL b σ.bx } : St).put d p) := by
        unfold retE
        split
        · simp [retP, allD] at hr
        · simp [retP, allD] at hr
        · rw [hr]
      rw [this]
      exact ⟨_, h8, by cases d <;> rfl⟩
    · exact h.elim
  · exact h.elim
theorem put_app {d : Option Nat} {p : PV} : σ.put d p = Updr.app none d ⟨some p, [], []⟩ σ := by cases d <;> rfl
theorem effC_step {x : XOp} {K : Updr → Prop} (h : effC Γ σ x K) : ∃ k, stepR Γ k σ x (fun σ' => ∃ u : Updr, K u ∧ σ' = u.app (opKil σ x) x.dst σ) := by
  cases hw : isW x.op with
  | false =>
    obtain ⟨vc, p, h1, h2, h3⟩ := effC_pure hw h
    refine ⟨1, ?_⟩
    have hk : opKil σ x = none := opKil_isK (by
      obtain ⟨d, g, k⟩ := x
      cases k <;> first | rfl | (simp [isW] at hw))
    unfold stepR
    split
    · rename_i f ys hx; rw [hx] at hw; simp [isW] at hw
    · rename_i y hx
      exfalso
      obtain ⟨d, g, k⟩ := x
      simp only at hx
      subst hx
      unfold stepM at h1
      cases g with
      | none => simp [evalK] at h1
      | some tw => simp only at h1; split at h1 <;> simp [evalK] at h1
    · rw [show ((1 : Nat) != 0) = true from rfl, stepX_pre, h1]
      refine ⟨h2, fun _ => ⟨_, h3, ?_⟩⟩
      rw [hk]
      exact put_app
  | true =>
    refine ⟨0, ?_⟩
    obtain ⟨d, g, k⟩ := x
    cases k <;> first | (simp [isW] at hw; done) | skip
    case callr f ys =>
      cases g with
      | none =>
        have : opKil σ ⟨d, none, .callr f ys⟩ = none := opKil_isK rfl
        rw [this]
        exact effR_callR h
      | some tw =>
        obtain ⟨t, want⟩ := tw
        have : opKil σ ⟨d, some (t, want), .callr f ys⟩ = none := opKil_isK rfl
        rw [this]
        simp only [effC] at h
        simp only [stepR]
        split at h
        · rename_i b e1
          rw [e1]
          exact ⟨fun hb => effR_callR (h.1 hb), fun hb => ⟨_, h.2 hb, put_app⟩⟩
        · exact h.elim
    all_goals cases g with
      | some tw =>
        simp only [effC, stepM] at h
        split at h
        · rename_i vc p e1
          split at e1
          · simp [evalK] at e1
          · cases e1
        · exact h.elim
      | none => ?_
    case st.none a b ag =>
      simp only [effC] at h
      simp only [stepR, stepX, effK, bne_self_eq_false]
      split at h
      · split at h
        · rename_i e0 e0' _ _ qs ys e1 e2
          rw [e0, e0']
          simp only [e1, e2]
          exact ⟨h.1, fun _ => ⟨_, h.2, by cases d <;> rfl⟩⟩
        · exact h.elim
      · split at h
        · rename_i e0 e0' _ _ sz' es ys e1 e2
          split at h
          · rename_i cs e3
            rw [e0, e0']
            simp only [e1, e2, e3]
            exact ⟨h.1, fun _ => ⟨_, h.2, by cases d <;> rfl⟩⟩
          · exact h.elim
        · exact h.elim
      · exact h.elim
    case box.none a ag =>
      cases d with
      | none => exact h.elim
      | some d =>
        simp only [effC] at h
        simp only [stepR, stepX, effK, bne_self_eq_false]
        split at h
        · rename_i ys e1
          simp only [e1]
          exact ⟨h.1, fun _ => ⟨_, h.2, rfl⟩⟩
        · exact h.elim
    case alloc.none zs =>
      cases d with
      | none => exact h.elim
      | some d => exact ⟨trivial, fun _ => ⟨_, h.2, rfl⟩⟩
    case app.none a b sz bytes ex =>
      cases d with
      | none => exact h.elim
      | some d =>
        simp only [effC] at h
        simp only [stepR, stepX, effK, bne_self_eq_false]
        simp only [opKil]
        split at h
        · rename_i d' g r g' p hd e0 e0'
          cases hd
          rw [e0, e0']
          split at h
          · rename_i sz' es sz'' ys e1 e2
            simp only [e1, e2]
            rw [if_neg (by have := h.1.2.2.2.2.2; omega)]
            exact ⟨⟨h.1.1, h.1.2.1, h.1.2.2.1, h.1.2.2.2.1, h.1.2.2.2.2.1⟩, fun _ => ⟨_, h.2, rfl⟩⟩
          · exact h.elim
        · rename_i d' g r sz1 lo n1 g' p hd e0 e0'
          cases hd
          rw [e0, e0']
          split at h
          · rename_i sz' es sz'' ys e1 e2
            simp only [e1, e2]
            split at h
            · rename_i hfit
              rw [if_pos hfit, if_pos hfit]
              exact ⟨h.1, fun _ => ⟨_, h.2, rfl⟩⟩
            · rename_i hfit
              rw [if_neg hfit, if_neg hfit]
              split at h
              · rename_i hlo
                rw [if_pos hlo]
                exact ⟨h.1, fun _ => ⟨_, h.2, rfl⟩⟩
              · exact h.elim
          · exact h.elim
        · rename_i d' g p g' p' hno hno' hd e0 e0'
          cases hd
          rw [e0, e0']
          split at h
          · rename_i sz' sz'' ys e2
            simp only [e2]
            exact ⟨h.1, fun _ => ⟨_, h.2, rfl⟩⟩
          · rename_i sz' es sz'' ys e2
            simp only [e2]
            exact ⟨h.1, fun _ => ⟨_, h.2, rfl⟩⟩
          · exact h.elim
        · exact h.elim
    case callo.none f ys =>
      cases d with
      | none =>
        simp only [effC] at h
      | some d =>
        simp only [effC] at h
        simp only [stepR, stepX, bne_self_eq_false]
        split at h
        · rename_i d' sp hd hsp
          cases hd
          split at h
          · rename_i vc ds ha
            split at h
            · rename_i sz es e1 e2
              obtain ⟨⟨h0, h1, h2, h3, h4⟩, h5⟩ := h
              have hp : σ.pubs ys sp.md = σ := by unfold St.pubs; rw [h1]; rfl
              have ho := outB_outE (σ := σ) e2
              simp only [callE, hsp, h0, hp, ha, h2, if_true, ho, e1, retE, Option.map_some]
              exact ⟨⟨h3, h4⟩, fun _ => ⟨_, h5, rfl⟩⟩
            · exact h.elim
          · exact h.elim
        · exact h.elim
    case mk.none m zs bytes =>
      cases d with
      | none =>
        simp only [effC] at h
      | some d =>
        simp only [effC] at h
        simp only [stepR, stepX, effK, bne_self_eq_false]
        split at h
        · rename_i d' g k m' hd e0
          cases hd
          rw [e0]
          exact ⟨h.1, fun _ => ⟨_, h.2, rfl⟩⟩
        · exact h.elim
end
end Go.Proofs.Pw
/- Mixed regions in any order. -/
namespace Go.Proofs.Pw
open Go.RowKit
set_option linter.unusedSectionVars false
variable [Globs]
section
variable {P : Program} {Γ : FuncId → Option Spec} {σ σ' : St} {a : Act} {w w' : World} {M M' : Gh} {X : Nat → Prop} {B n : Nat} {w0 : W0} {ops : Array Oper}
def disjN (a b : List Nat) : Bool := a.all fun x => !b.contains x
def sttB (y x : XOp) : Bool := (match y.dst with | some d => !x.rd.contains d | none => true) && (match x.dst with | some d => !y.rd.contains d && y.dst != some d | none => true) && disjN (excOf y) x.rd && disjN (excOf x) y.rd
theorem disjN_ok {a b : List Nat} (h : disjN a b = true) : ∀ t ∈ a, t ∉ b := fun t ht hb => by
  unfold disjN at h
  rw [List.all_eq_true] at h
  have := h t ht
  simp at this
  exact this hb
theorem sttB_ok {y x : XOp} (h : sttB y x = true) : Stt y x := by
  simp only [sttB, Bool.and_eq_true] at h
  obtain ⟨⟨⟨h1, h2⟩, h3⟩, h4⟩ := h
  refine ⟨fun d hd => ?_, fun d hd => ?_, fun t ht hy => ?_, disjN_ok h3, disjN_ok h4⟩
  · rw [hd] at h1; simpa using h1
  · rw [hd] at h2; simp at h2; exact h2.1
  · rw [ht] at h2; simp at h2; exact h2.2 hy
/-- Which pairs are looked at. -/
def pairM (an prs : List (List Nat)) (y x : XOp) (j i : Nat) : Bool := (an.getD i []).contains j || (sttB y x && ((prs.getD i []).contains j || triv y x))
def ltAll : List (List Nat) → Nat → Bool
  | [], _ => true
  | l :: r, i => l.all (fun j => decide (j < i)) && ltAll r (i + 1)
theorem ltAll_ok : ∀ {l : List (List Nat)} {k i : Nat}, ltAll l k = true → ∀ j ∈ l.getD i [], j < k + i := by
  intro l
  induction l with
  | nil => intro k i _ j hj; simp at hj
  | cons x l ih =>
    intro k i h j hj
    simp only [ltAll, Bool.and_eq_true, List.all_eq_true, decide_eq_true_eq] at h
    cases i with
    | zero => simp at hj; have := h.1 j hj; omega
    | succ i => have := ih h.2 j (by simpa using hj) (i := i); omega
def okMix (ops : Array Oper) (xs : List XOp) (npre : Nat) (prs : List (List Nat)) : Bool :=
  decide (npre ≤ xs.length) && okEdges ops && okTail (ancs ops.toList []) npre xs.length && ltAll prs 0 &&
    ((xs.take npre).zipIdx.all fun x => (xs.take npre).zipIdx.all fun y => decide (x.2 ≤ y.2) || pairM (ancs ops.toList []) prs y.1 x.1 y.2 x.2)

/-- What is left of the head. -/
def left (L : Nat → Bool) (l : List (XOp × Nat)) : List (XOp × Nat) := l.filter fun p => !L p.2
theorem left_split {L L' : Nat → Bool} {i : Nat} (hL : ∀ j, L' j = (L j || decide (j = i))) (hi : L i = false) {x : XOp} : ∀ {l : List (XOp × Nat)}, l.Pairwise (fun y z => y.2 < z.2) → (x, i) ∈ l →
    ∃ A B, left L l = A ++ (x, i) :: B ∧ left L' l = A ++ B ∧ ∀ y ∈ A, y ∈ l ∧ y.2 < i ∧ L y.2 = false := by
  intro l
  induction l with
  | nil => intro _ h; simp at h
  | cons z l ih =>
    intro hp hm
    obtain ⟨z, k⟩ := z
    simp only [List.pairwise_cons] at hp
    have tail : i < k → left L l = left L' l → False ∨ True := fun _ _ => .inr trivial
    rcases List.mem_cons.1 hm with he | hm
    · cases he
      have hsame : left L l = left L' l := by
        unfold left
        refine List.filter_congr fun p hp' => ?_
        rw [hL]
        have := hp.1 p hp'
        have : decide (p.2 = i) = false := by simp; omega
        rw [this, Bool.or_false]
      refine ⟨[], left L l, ?_, ?_, by simp⟩
      · simp [left, hi]
      · rw [hsame]; simp [left, hL]
    · obtain ⟨A, B, h1, h2, h3⟩ := ih hp.2 hm
      have hk : k < i := hp.1 _ hm
      have hk' : L' k = L k := by
        rw [hL]
        have : decide (k = i) = false := by simp; omega
        rw [this, Bool.or_false]
      cases hlk : L k with
      | true =>
        rw [hlk] at hk'
        refine ⟨A, B, ?_, ?_, fun y hy => ⟨List.mem_cons_of_mem _ (h3 y hy).1, (h3 y hy).2⟩⟩
        · rw [← h1]; simp [left, hlk]
        · rw [← h2]; simp [left, hk']
      | false =>
        rw [hlk] at hk'
        refine ⟨(z, k) :: A, B, ?_, ?_, fun y hy => ?_⟩
        · rw [List.cons_append, ← h1]; simp [left, hlk]
        · rw [List.cons_append, ← h2]; simp [left, hk']
        · rcases List.mem_cons.1 hy with rfl | hy
          · exact ⟨by simp, hk, hlk⟩
          · exact ⟨List.mem_cons_of_mem _ (h3 y hy).1, (h3 y hy).2⟩
theorem zip_pw (l : List XOp) : ∀ k, (l.zipIdx k).Pairwise (fun y z => y.2 < z.2) := by
  induction l with
  | nil => intro k; simp
  | cons x l ih =>
    intro k
    rw [List.zipIdx_cons, List.pairwise_cons]
    refine ⟨fun z hz => ?_, ih (k + 1)⟩
    have := (List.mem_zipIdx hz).1
    show k < z.2
    omega
theorem pw_ne {l : List (XOp × Nat)} (h : l.Pairwise (fun y z => y.2 < z.2)) : l.Pairwise (fun y z => y.2 ≠ z.2) := h.imp (fun h => by omega)

def endM (Γ : FuncId → Option Spec) (tl : List XOp) (K : St → Prop) (σ : St) : Prop := ∃ σ', Eqv σ' σ ∧ runX Γ 0 tl σ' K
theorem mix_pre (G : GOK P Γ) {E : Exit → Act → World → Prop} {K : St → Prop} (hK : ∀ σ' a' w' M', K σ' → Sim X n B w0 σ' a' w' M' → E .normal a' w') {xs : List XOp} {npre : Nat} {prs : List (List Nat)} (hok : okOps P n ops ops.toList xs = true)
    (hdr : okMix ops xs npre prs = true) :
    ∀ (fuel : Nat) (listed : Array Bool) (p : Past) (σ : St) (a : Act) (w : World) (M : Gh), listed.size = ops.size → Closed ops (Lst listed) → (∀ i, i < ops.size → Lst listed i = true → i < npre) → cnt listed ≤ fuel →
      (∀ i, Lst listed i = false → p i = none) → Sim X n B w0 σ a w M → runM Γ prs p (left (Lst listed) (xs.take npre).zipIdx) σ (endM Γ (xs.drop npre) K) → wpAny P .any ops E fuel listed a w := by
  have hlen : ops.size = xs.length := by simpa using okOps_len hok
  simp only [okMix, Bool.and_eq_true, decide_eq_true_eq] at hdr
  obtain ⟨⟨⟨⟨hn, hed⟩, htl⟩, hlt⟩, hpr⟩ := hdr
  have hEK : ∀ σ σ', Eqv σ σ' → endM Γ (xs.drop npre) K σ → endM Γ (xs.drop npre) K σ' := fun σ σ' he ⟨τ, h1, h2⟩ => ⟨τ, h1.trans he, h2⟩
  have fin : ∀ (fuel : Nat) (listed : Array Bool) (p : Past) (σ : St) (a : Act) (w : World) (M : Gh), listed.size = ops.size → Closed ops (Lst listed) → (∀ i, i < ops.size → Lst listed i = true → i < npre) → cnt listed ≤ fuel → (∀ i, i < npre → Lst listed i = true) →
      Sim X n B w0 σ a w M → runM Γ prs p (left (Lst listed) (xs.take npre).zipIdx) σ (endM Γ (xs.drop npre) K) → wpAny P .any ops E fuel listed a w := by
    intro fuel listed p σ a w M hsz hcl hpre hc hall hs hr
    have hnil : left (Lst listed) (xs.take npre).zipIdx = [] := by
      unfold left
      rw [List.filter_eq_nil_iff]
      intro z hz
      have h1 := (List.mem_zipIdx hz).2.1
      rw [List.length_take] at h1
      simp [hall z.2 (by omega)]
    rw [hnil] at hr
    obtain ⟨τ, h1, h2⟩ := hr
    refine draw_tail G hK hok hed htl fuel npre listed τ a w M (Nat.le_refl _) (by omega) hsz (fun i hi => ?_) hcl hc (hs.eqv h1) h2
    by_cases h : i < npre
    · rw [hall i h]; simp [h]
    · cases hl : Lst listed i with
      | false => simp [h]
      | true => exact absurd (hpre i hi hl) h
  intro fuel
  induction fuel with
  | zero =>
    intro listed p σ a w M hsz hcl hpre hc hp hs hr
    exact fin 0 listed p σ a w M hsz hcl hpre hc (fun i hi => cnt_zero (by omega) (by omega)) hs hr
  | succ fuel ih =>
    intro listed p σ a w M hsz hcl hpre hc hp hs hr
    by_cases hall : ∀ i, i < npre → Lst listed i = true
    · exact fin (fuel + 1) listed p σ a w M hsz hcl hpre hc hall hs hr
    · refine ⟨fun hnil => ?_, fun i hi => ?_⟩
      · simp only [Classical.not_forall] at hall
        obtain ⟨i, hi, hl⟩ := hall
        obtain ⟨r, hr⟩ := ready_some hed hsz i (by omega) (by simpa using hl)
        rw [hnil] at hr; simp at hr
      · obtain ⟨h1, h2, o, ho, he⟩ := (ready_mem hsz).1 hi
        by_cases hin : npre ≤ i
        · exact absurd (fun j hj => tail_all htl hcl ho (by omega) hin he j (by omega)) hall
        · obtain ⟨x, hx, hop⟩ := okOps_at hok (by simpa using ho)
          have hxt : (xs.take npre)[i]? = some x := by rw [List.getElem?_take, if_pos (by omega)]; exact hx
          have hxm : (x, i) ∈ (xs.take npre).zipIdx := List.mem_zipIdx_iff_getElem?.2 hxt
          obtain ⟨A, C, hA1, hA2, hA3⟩ := left_split (L' := Lst (listed.setIfInBounds i true)) (fun j => Lst_set (by omega)) h2 (zip_pw _ 0) hxm
          rw [hA1] at hr
          have hcm := comm hEK (fun y hy => by
            obtain ⟨b1, b2, b3⟩ := hA3 y hy
            rw [List.all_eq_true] at hpr
            have c1 := hpr _ hxm
            rw [List.all_eq_true] at c1
            have c2 := c1 y b1
            simp only [Bool.or_eq_true, decide_eq_true_eq] at c2
            have c3 := c2.resolve_left (by omega)
            simp only [pairM, Bool.or_eq_true, List.contains_iff_mem] at c3
            have c4 : y.2 ∉ (ancs ops.toList []).getD i [] := fun hm => by
              have := anc_all hcl ho he hm
              rw [b3] at this; cases this
            have c5 := c3.resolve_left c4
            simp only [Bool.and_eq_true, Bool.or_eq_true, List.contains_iff_mem] at c5
            exact ⟨hp _ b3, by omega, sttB_ok c5.1, c5.2, fun hm => by have := ltAll_ok hlt _ hm; omega⟩) (by
              have hq : (left (Lst listed) (xs.take npre).zipIdx).Pairwise (fun y z => y.2 < z.2) := (zip_pw _ 0).filter _
              rw [hA1, List.pairwise_append] at hq
              exact pw_ne hq.1) hr
          obtain ⟨k, hst⟩ := effC_step hcm.2
          unfold wpOp
          rw [ho]
          have key := stepR_wp (K := wpAny P .any ops E fuel (listed.setIfInBounds i true)) (E := E) G hop hs hst (fun σ1 a' w' M' ⟨u, ⟨_, _, hu⟩, hσ⟩ hs' => by
            subst hσ
            rw [← hA2] at hu
            refine ih (listed.setIfInBounds i true) _ _ a' w' M' (by simpa using hsz) (closed_set hcl (by omega) ho he) (fun j hj hl => ?_) (by have := cnt_set (listed := listed) (i := i) (by omega) h2; omega) (fun j hj => ?_) hs' hu
            · rw [Lst_set (by omega)] at hl
              simp only [Bool.or_eq_true, decide_eq_true_eq] at hl
              rcases hl with hl | rfl
              · exact hpre j hj hl
              · omega
            · rw [Lst_set (by omega)] at hj
              simp only [Bool.or_eq_false_iff, decide_eq_false_iff_not] at hj
              unfold setP
              rw [if_neg hj.2]
              exact hp j hj.1)
          simp only
          split
          · rename_i hw; rw [if_pos hw] at key; exact .inl key
          · rename_i hw; rw [if_neg hw] at key; exact key
theorem mix_wp (hm : P.follows .mixedOrders = true) (G : GOK P Γ) {E : Exit → Act → World → Prop} {K : St → Prop} (hK : ∀ σ' a' w' M', K σ' → Sim X n B w0 σ' a' w' M' → E .normal a' w') {xs : List XOp} {npre : Nat} {prs : List (List Nat)} (hok : okOps P n ops ops.toList xs = true)
    (hdr : okMix ops xs npre prs = true) (hs : Sim X n B w0 σ a w M) (hr : runM Γ prs (fun _ => none) (xs.take npre).zipIdx σ (runX Γ 0 (xs.drop npre) · K)) {id : Nat} : (Code.region id ops true).wp P E a w := by
  have hL : ∀ i, Lst (Array.replicate ops.size false) i = false := fun i => by
    simp only [Lst, Array.getD_eq_getD_getElem?, Array.getElem?_replicate]
    split <;> rfl
  refine wp_region_any hm (mix_pre G hK hok hdr ops.size _ (fun _ => none) σ a _ M (by simp) (fun i o _ hl => ?_) (fun i _ hl => ?_) ?_ (fun _ _ => rfl) hs.drew ?_)
  · rw [hL] at hl; cases hl
  · rw [hL] at hl; cases hl
  · refine Nat.le_trans (List.countP_le_length ..) (by simp)
  · have : left (Lst (Array.replicate ops.size false)) (xs.take npre).zipIdx = (xs.take npre).zipIdx := by
      unfold left
      rw [List.filter_eq_self]
      intro z _
      rw [hL]; rfl
    rw [this]
    exact runM_mono (fun σ h => ⟨σ, Eqv.refl σ, h⟩) hr
end
end Go.Proofs.Pw
/- The small code as a whole: what a run of it asks. -/
namespace Go.Proofs.Pw
open Go.RowKit
set_option linter.unusedSectionVars false
variable [Globs]
/-- A head in the order of the text, and its tail. -/
def runH (Γ : FuncId → Option Spec) (prs : List (List Nat)) : Nat → Past → List XOp → St → (St → Prop) → Prop
  | _, _, [], σ, K => K σ
  | i, p, x :: rest, σ, K => one Γ σ x (fun r σ' => okPast p (prs.getD i []) r ∧ runH Γ prs (i + 1) (setP p i r) rest σ' K)
theorem runH_eq {Γ : FuncId → Option Spec} {prs : List (List Nat)} {K : St → Prop} : ∀ {xs : List XOp} {i : Nat} {p : Past} {σ : St}, runH Γ prs i p xs σ K = runM Γ prs p (xs.zipIdx i) σ K := by
  intro xs
  induction xs with
  | nil => intro i p σ; rfl
  | cons x xs ih =>
    intro i p σ
    rw [List.zipIdx_cons]
    simp only [runH, runM, ih]
inductive X where
  | skip
  | bad
  | ret
  | exit (id : Nat)
  | seq (a b : X)
  | cond (c : XO) (a b : X)
  | block (id : Nat) (b : X)
  | loop (b : X)
  | reg (ops : List XOp) (dr : Option Nat) (live : List Nat)
  | mix (hd tl : List XOp) (prs : List (List Nat)) (live : List Nat)
  | gh (x : X)
def St.keep (σ : St) (live : List Nat) : St := { σ with tm := live.map fun t => (t, get (.q .no) t σ.tm) }

inductive Ex where
  | normal
  | exit (id : Nat)
  | ret
/-- σ may be told as σ'. -/
def Le (σ σ' : St) : Prop := ∀ X n B w0 a w M, Sim X n B w0 σ a w M → ∃ M', Sim X n B w0 σ' a w M'

/-- σ may be told as one of these. -/
def LeS (σ : St) (T : St → Prop) : Prop := ∀ X n B w0 a w M, Sim X n B w0 σ a w M → ∃ σ' M', T σ' ∧ Sim X n B w0 σ' a w M'
/-- A loop: an invariant that bears a number, which every round lowers. -/
def pwL (F : (Ex → St → Prop) → St → Prop) (Q : Ex → St → Prop) (σ : St) : Prop := ∃ I : Nat → St → Prop, (∃ n σ', Le σ σ' ∧ I n σ') ∧
  ∀ n σ, I n σ → F (fun e σ' => match e with | .normal => ∃ m σ'', m < n ∧ Le σ' σ'' ∧ I m σ'' | .exit i => Q (.exit i) σ' | .ret => Q .ret σ') σ
def thenQ (N : St → Prop) (Q : Ex → St → Prop) : Ex → St → Prop
  | .normal, σ => N σ
  | e, σ => Q e σ
def blkQ (id : Nat) (Q : Ex → St → Prop) : Ex → St → Prop
  | .exit i, σ => if i = id then Q .normal σ else Q (.exit i) σ
  | e, σ => Q e σ
def pw (Γ : FuncId → Option Spec) : X → (Ex → St → Prop) → St → Prop
  | .skip, Q, σ => Q .normal σ
  | .bad, _, _ => False
  | .ret, Q, σ => Q .ret σ
  | .exit id, Q, σ => Q (.exit id) σ
  | .seq a b, Q, σ => pw Γ a (thenQ (pw Γ b Q) Q) σ
  | .cond c a b, Q, σ => match σ.v c with
    | (g, .q (.c (.bool t))) => g = true ∧ (t = true → pw Γ a Q σ) ∧ (t = false → pw Γ b Q σ)
    | (g, .q (.nt t)) => g = true ∧ (t = true → pw Γ a Q σ) ∧ pw Γ b Q σ
    | _ => False
  | .block id b, Q, σ => pw Γ b (blkQ id Q) σ
  | .loop b, Q, σ => pwL (pw Γ b) Q σ
  | .reg ops dr live, Q, σ => runX Γ (dr.getD 0) ops σ (fun σ' => Q .normal (σ'.keep live))
  | .mix hd tl prs live, Q, σ => runH Γ prs 0 (fun _ => none) hd σ (fun σ' => runX Γ 0 tl σ' (fun σ'' => Q .normal (σ''.keep live)))
  | .gh x, Q, σ => ∃ T : St → Prop, LeS σ T ∧ ∀ σ', T σ' → pw Γ x Q σ'
end Go.Proofs.Pw
/- The small code as a whole. -/
namespace Go.Proofs.Pw
open Go.RowKit
set_option linter.unusedSectionVars false
variable [Globs]
section
variable {P : Program} {Γ : FuncId → Option Spec} {σ σ' : St} {a : Act} {w w' : World} {M M' : Gh} {X₀ : Nat → Prop} {B n : Nat} {w0 : W0} {ops : Array Oper}

def chkX (P : Program) (n : Nat) : Code → X → Bool
  | _, .bad => true
  | c, .gh x => chkX P n c x
  | .skip, .skip => true
  | .ret, .ret => true
  | .exit i, .exit j => i == j
  | .seq a b, .seq x y => chkX P n a x && chkX P n b y
  | .cond c a b, .cond y x x' => okO c y && chkX P n a x && chkX P n b x'
  | .block i c, .block j x => i == j && chkX P n c x
  | .loop c, .loop x => chkX P n c x
  | .region _ ops draw, .reg xs dr _ => okOps P n ops ops.toList xs && (match draw, dr with
    | false, none => true
    | true, some npre => okDraw ops xs npre && P.follows .mixedOrders
    | _, _ => false)
  | .region _ ops draw, .mix hd tl prs _ => okOps P n ops ops.toList (hd ++ tl) && (draw && okMix ops (hd ++ tl) hd.length prs && P.follows .mixedOrders)
  | _, _ => false

theorem Sim.keep (hs : Sim X₀ n B w0 σ a w M) (live : List Nat) : Sim X₀ n B w0 (σ.keep live) a w M :=
  ⟨hs.size, hs.defs, fun t p h => by
    simp only [St.keep, List.mem_map, Prod.mk.injEq] at h
    obtain ⟨t', _, rfl, rfl⟩ := h
    exact look_rel hs.tm _, hs.mem, hs.fr, hs.hB, hs.sS, hs.sβ, hs.sρ⟩

def post (Q : Ex → St → Prop) (X₀ : Nat → Prop) (n B : Nat) (w0 : W0) : Exit → Act → World → Prop
  | .normal, a, w => ∃ σ M, Q .normal σ ∧ Sim X₀ n B w0 σ a w M
  | .exit i, a, w => ∃ σ M, Q (.exit i) σ ∧ Sim X₀ n B w0 σ a w M
  | .ret, a, w => ∃ σ M, Q .ret σ ∧ Sim X₀ n B w0 σ a w M
  | _, _, _ => False

theorem pw_wp (G : GOK P Γ) : ∀ (x : X) {c : Code} {Q : Ex → St → Prop} {σ : St} {a : Act} {w : World} {M : Gh}, chkX P n c x = true → pw Γ x Q σ → Sim X₀ n B w0 σ a w M → c.wp P (post Q X₀ n B w0) a w := by
  intro x
  induction x with
  | bad => intro c Q σ a w M _ hp; exact hp.elim
  | skip =>
    intro c Q σ a w M hc hp hs
    cases c <;> simp [chkX] at hc
    exact wp_skip ⟨σ, M, hp, hs⟩
  | ret =>
    intro c Q σ a w M hc hp hs
    cases c <;> simp [chkX] at hc
    exact wp_ret ⟨σ, M, hp, hs⟩
  | exit id =>
    intro c Q σ a w M hc hp hs
    cases c <;> simp [chkX] at hc
    subst hc
    exact wp_exit ⟨σ, M, hp, hs⟩
  | seq x y ihx ihy =>
    intro c Q σ a w M hc hp hs
    cases c <;> simp [chkX] at hc
    obtain ⟨h1, h2⟩ := hc
    refine wp_seq (wp_mono (ihx h1 hp hs) ?_)
    intro e a' w' h
    cases e with
    | normal => obtain ⟨σ', M', hq, hs'⟩ := h; exact ihy h2 hq hs'
    | exit i => exact h
    | ret => exact h
    | goto l => exact h.elim
    | panic ch => exact h.elim
    | outgrown => exact h.elim
  | cond y x x' ihx ihy =>
    intro c Q σ a w M hc hp hs
    cases c <;> simp [chkX] at hc
    obtain ⟨⟨h0, h1⟩, h2⟩ := hc
    simp only [pw] at hp
    split at hp
    · rename_i g t e1
      obtain ⟨hg, ht, hf⟩ := hp
      have := okO_rel hs.tm h0 (by rw [e1]; exact hg)
      rw [e1] at this
      exact wp_cond_split (relC_bool this) (fun h => ihx h1 (ht h) hs) (fun h => ihy h2 (hf h) hs)
    · rename_i g t e1
      obtain ⟨hg, ht, hf⟩ := hp
      have := okO_rel hs.tm h0 (by rw [e1]; exact hg)
      rw [e1] at this
      obtain ⟨b, hb, hbt⟩ := this
      exact wp_cond_split hb (fun h => ihx h1 (ht (hbt h)) hs) (fun _ => ihy h2 hf hs)
    · exact hp.elim
  | block id x ih =>
    intro c Q σ a w M hc hp hs
    cases c <;> simp [chkX] at hc
    obtain ⟨rfl, h1⟩ := hc
    refine wp_block (wp_mono (ih h1 hp hs) ?_)
    intro e a' w' h
    cases e with
    | normal => exact h
    | exit i =>
      obtain ⟨σ', M', hq, hs'⟩ := h
      simp only [Exit.inBlock]
      simp only [blkQ] at hq
      split
      · rename_i hi; rw [if_pos hi] at hq; exact ⟨σ', M', hq, hs'⟩
      · rename_i hi; rw [if_neg hi] at hq; exact ⟨σ', M', hq, hs'⟩
    | ret => exact h
    | goto l => exact h.elim
    | panic ch => exact h.elim
    | outgrown => exact h.elim
  | loop x ih =>
    intro c Q σ a w M hc hp hs
    cases c <;> simp [chkX] at hc
    obtain ⟨I, ⟨k, σ', hle, hI⟩, hr⟩ := hp
    obtain ⟨M1, h1⟩ := hle _ _ _ _ _ _ _ hs
    refine wp_loop_ghost (fun k a w => ∃ σ M, I k σ ∧ Sim X₀ n B w0 σ a w M) k ⟨σ', M1, hI, h1⟩ ?_
    rintro k a w ⟨σ, M, hI, hs⟩
    refine wp_mono (ih hc (hr k σ hI) hs) ?_
    intro e a' w' h
    cases e with
    | normal =>
      obtain ⟨σ1, M1, ⟨m, σ2, hlt, hle, hI⟩, hs1⟩ := h
      obtain ⟨M2, hs2⟩ := hle _ _ _ _ _ _ _ hs1
      exact ⟨m, hlt, σ2, M2, hI, hs2⟩
    | exit i => exact h
    | ret => exact h
    | goto l => exact h.elim
    | panic ch => exact h.elim
    | outgrown => exact h.elim
  | reg xs dr live =>
    intro c Q σ a w M hc hp hs
    cases c with
    | region id ops draw =>
      simp only [chkX, Bool.and_eq_true] at hc
      obtain ⟨h1, h2⟩ := hc
      have hK : ∀ σ' a' w' M', Q .normal (σ'.keep live) → Sim X₀ n B w0 σ' a' w' M' → post Q X₀ n B w0 .normal a' w' := fun σ' a' w' M' h hs => ⟨_, M', h, hs.keep live⟩
      split at h2
      · exact wp_region_list (runX_list G hK h1 hs hp)
      · rename_i npre
        simp only [Bool.and_eq_true] at h2
        exact draw_wp h2.2 G hK h1 h2.1 hs hp
      · cases h2
    | _ => simp [chkX] at hc
  | mix hd tl prs live =>
    intro c Q σ a w M hc hp hs
    cases c with
    | region id ops draw =>
      simp only [chkX, Bool.and_eq_true] at hc
      obtain ⟨h1, ⟨rfl, h2⟩, h3⟩ := hc
      have hK : ∀ σ' a' w' M', Q .normal (σ'.keep live) → Sim X₀ n B w0 σ' a' w' M' → post Q X₀ n B w0 .normal a' w' := fun σ' a' w' M' h hs => ⟨_, M', h, hs.keep live⟩
      have hp' : runH Γ prs 0 (fun _ => none) hd σ (fun σ' => runX Γ 0 tl σ' (fun σ'' => Q .normal (σ''.keep live))) := hp
      rw [runH_eq] at hp'
      refine mix_wp h3 G hK h1 h2 hs ?_
      rw [List.take_left, List.drop_left]
      exact hp'
    | _ => simp [chkX] at hc

  | gh x ih =>
    intro c Q σ a w M hc hp hs
    obtain ⟨T, hT, hx⟩ := hp
    obtain ⟨σ', M', hσ, hs'⟩ := hT _ _ _ _ _ _ _ hs
    have hc' : chkX P n c x = true := by cases c <;> simpa [chkX] using hc
    exact ih hc' (hx σ' hσ) hs'

/-! ### A function as a whole -/
inductive RX where
  | tmp (t : Nat)
  | cell (t : Nat) (ag : Option Nat)
def okRs (P : Program) : List ResultVar → List RX → Bool
  | [], [] => true
  | .tmp t :: rs, .tmp t' :: xs => t == t' && okRs P rs xs
  | .cell t ty :: rs, .cell t' ag :: xs => t == t' && okAg P ty ag && okRs P rs xs
  | _, _ => false
/-- What one result reads as. -/
def resV (σ : St) : RX → Option (Prop × PV)
  | .tmp t => some ((σ.v (.t t)).1 = true, (σ.v (.t t)).2)
  | .cell t ag => match σ.v (.t t) with
    | (g, .q (.box i 0)) => (get? i σ.bx).map fun qs => (g = true ∧ (loadQ qs 0 ag).1, (loadQ qs 0 ag).2)
    | _ => none
def resD (σ : St) : List RX → Option (Prop × List AV)
  | [] => some (True, [])
  | r :: rs => match resV σ r, resD σ rs with
    | some (vc, p), some (vc', ds) => p.toD.map fun d => (vc ∧ vc', .d d :: ds)
    | _, _ => none
def resOwns (σ : St) : List RX → List Nat
  | [] => []
  | r :: rs => (match resV σ r with | some (_, p) => p.owns | none => []) ++ resOwns σ rs
def refOwns (σ : St) : Nat → List AV → List Nat
  | _, [] => []
  | k, .ref _ :: as => ((get? k σ.bx).getD []).flatMap ownsQ ++ refOwns σ (k + 1) as
  | k, _ :: as => refOwns σ (k + 1) as
def outX (σ : St) : Nat → List AV → Option (List AV)
  | _, [] => some []
  | k, .ref _ :: as => match (get? k σ.bx).bind allC, outX σ (k + 1) as with
    | some cs, some os => some (.ref cs :: os)
    | _, _ => none
  | k, .own _ _ :: as => match get? (k + BASE) σ.rw with
    | some (sz, es) => (outX σ (k + 1) as).map fun os => .own sz es :: os
    | none => (outX σ (k + 1) as).map fun os => .gone :: os
  | k, _ :: as => (outX σ (k + 1) as).map fun os => .gone :: os
/-- The state at the start: argument i lies in slot i; what it hands over to be written bears the name k. -/
def initX : Nat → Nat → List AV → St
  | _, _, [] => ⟨[], [], []⟩
  | i, k, .d x :: as => { initX (i + 1) (k + 1) as with tm := (i, x.toP) :: (initX (i + 1) (k + 1) as).tm }
  | i, k, .ref cs :: as => { initX (i + 1) (k + 1) as with tm := (i, .q (.box k 0)) :: (initX (i + 1) (k + 1) as).tm, bx := (k, cs.map .c) :: (initX (i + 1) (k + 1) as).bx }
  | i, k, .own sz es :: as => { initX (i + 1) (k + 1) as with tm := (i, .q (.own (k + BASE))) :: (initX (i + 1) (k + 1) as).tm, rw := (k + BASE, sz, es) :: (initX (i + 1) (k + 1) as).rw }
  | i, k, .gone :: as => initX (i + 1) (k + 1) as
  | i, k, .ag _ :: as => initX (i + 1) (k + 1) as
/-- The private rows among what is handed back. -/
def agI : List Pt → List Q → List Nat
  | .o _ _ :: ps, .own i :: qs => i :: agI ps qs
  | _ :: ps, _ :: qs => agI ps qs
  | _, _ => []
def oneI : AV → PV → List Nat
  | .own _ _, .q (.own i) => [i]
  | .ag ps, .agg qs => agI ps qs
  | _, _ => []
def idsR (σ : St) (r : RX) (x : AV) : List Nat := match resV σ r with
  | some (_, p) => oneI x p
  | none => []
def gIds (σ : St) : List RX → List AV → List Nat
  | r :: rs, x :: as => idsR σ r x ++ gIds σ rs as
  | _, _ => []
def ptOk (σ : St) : List Pt → List Q → Prop
  | [], [] => True
  | .c x :: ps, q :: qs => q.toC = some x ∧ ptOk σ ps qs
  | .o sz es :: ps, .own i :: qs => get? i σ.rw = some (sz, es) ∧ ptOk σ ps qs
  | .o sz es :: ps, .z sz' :: qs => (sz' = sz ∧ 0 < sz ∧ es = []) ∧ ptOk σ ps qs
  | _, _ => False
def oneOk (σ : St) (x : AV) (p : PV) : Prop := match x with
  | .d x => p.toD = some x
  | .own sz es => match p with
    | .q (.own i) => get? i σ.rw = some (sz, es)
    | .q (.z sz') => sz' = sz ∧ 0 < sz ∧ es = []
    | _ => False
  | .ag ps => match p with
    | .agg qs => ptOk σ ps qs
    | _ => False
  | _ => False
def gOk (σ : St) : List RX → List AV → Prop
  | [], [] => True
  | r :: rs, x :: as => (match resV σ r with | some (vc, p) => vc ∧ oneOk σ x p | none => False) ∧ gOk σ rs as
  | _, _ => False
def delL (l : List Nat) (r : List (Nat × Nat × List (List C))) : List (Nat × Nat × List (List C)) := l.foldl (fun r i => del i r) r
def St.delO (i : Nat) (σ : St) : St := { σ with rw := del i σ.rw }
def notIn (l is : List Nat) : List Nat := is.filter fun i => !l.contains i
def finG (n : Nat) (sp : Spec) (args ds : List AV) (rs : List RX) (σ σ' : St) : Prop := nodupN (gIds σ' rs ds) = true ∧ gOk σ' rs ds ∧ outX { σ' with rw := delL (gIds σ' rs ds) σ'.rw } n args = some (sp.out args)
/-- The end of a run. -/
def finX (n : Nat) (sp : Spec) (args : List AV) (rs : List RX) (σ : St) : Prop :=
  match sp.res args with
  | [.own sz es] => match rs with
    | [.tmp t] => match σ.v (.t t) with
      | (g, .q (.own i)) => g = true ∧ get? i σ.rw = some (sz, es) ∧ outX ((((refOwns σ n args).filter (fun j => j != i)).foldl (fun σ i => σ.pub i) σ).delO i) n args = some (sp.out args)
      | (g, .q (.z sz')) => g = true ∧ sz' = sz ∧ 0 < sz ∧ es = [] ∧ outX ((refOwns σ n args).foldl (fun σ i => σ.pub i) σ) n args = some (sp.out args)
      | _ => False
    | _ => False
  | [.ref cs] => match rs with
    | [.tmp t] => match σ.v (.t t) with
      | (g, .q (.box i 0)) => g = true ∧ (get? i σ.bx).bind allC = some cs ∧ outX (((refOwns { σ with bx := del i σ.bx } n args).foldl (fun σ i => σ.pub i) { σ with bx := del i σ.bx })) n args = some (sp.out args)
      | _ => False
    | _ => False
  | ds => match allD ds with
    | some _ => match resD ((resOwns σ rs ++ refOwns σ n args).foldl (fun σ i => σ.pub i) σ) rs with
      | some (vc, ds') => vc ∧ ds = ds' ∧ outX ((resOwns σ rs ++ refOwns σ n args).foldl (fun σ i => σ.pub i) σ) n args = some (sp.out args)
      | none => False
    | none => finG n sp args ds rs σ ((notIn (gIds σ rs ds) (resOwns σ rs ++ refOwns σ n args)).foldl (fun σ i => σ.pub i) σ)
end
end Go.Proofs.Pw
/- A function as a whole: its start and its end. -/
namespace Go.Proofs.Pw
open Go.RowKit
set_option linter.unusedSectionVars false
variable [Globs]
section
variable {P : Program} {Γ : FuncId → Option Spec} {σ σ' : St} {a : Act} {w w' : World} {M M' : Gh} {n : Nat}

theorem All3.at {α β γ : Type} {R : α → β → γ → Prop} {xs : List α} {ys : List β} {zs : List γ} (h : All3 R xs ys zs) : ∀ {j : Nat} {x : α}, xs[j]? = some x → ∃ y z, ys[j]? = some y ∧ zs[j]? = some z ∧ R x y z := by
  induction h with
  | nil => intro j x hx; simp at hx
  | cons h _ ih =>
    intro j x hx
    cases j with
    | zero => simp at hx; subst hx; exact ⟨_, _, rfl, rfl, h⟩
    | succ j => simpa using ih (by simpa using hx)
theorem All3.len {α β γ : Type} {R : α → β → γ → Prop} {xs : List α} {ys : List β} {zs : List γ} (h : All3 R xs ys zs) : ys.length = xs.length := by
  induction h with
  | nil => rfl
  | cons _ _ ih => simp [ih]
theorem Apart.two {S : Nat → Prop} {ps : List (Nat → Prop)} (h : Apart S ps) : ∀ {i j : Nat} {p q : Nat → Prop} {g : Nat}, ps[i]? = some p → ps[j]? = some q → i ≠ j → p g → ¬ q g := by
  induction ps with
  | nil => intro i j p q g hp; simp at hp
  | cons r ps ih =>
    intro i j p q g hp hq hne hg hg'
    cases i with
    | zero =>
      cases j with
      | zero => exact hne rfl
      | succ j =>
        simp at hp hq; subst hp
        exact h.2.1 g hg q (List.mem_of_getElem? hq) hg'
    | succ i =>
      cases j with
      | zero =>
        simp at hp hq; subst hq
        exact h.2.1 g hg' p (List.mem_of_getElem? hp) hg
      | succ j => exact ih h.2.2 (by simpa using hp) (by simpa using hq) (by omega) hg hg'

def argP (k : Nat) : AV → PV → Prop
  | .d d, p => p = d.toP
  | .ref _, p => p = .q (.box k 0)
  | .own _ _, p => p = .q (.own (k + BASE))
  | .gone, _ => False
  | .ag _, _ => False
theorem initX_tm {t : Nat} {p : PV} : ∀ {args : List AV} {i k : Nat}, (t, p) ∈ (initX i k args).tm → ∃ j x, t = i + j ∧ args[j]? = some x ∧ argP (k + j) x p := by
  intro args
  induction args with
  | nil => intro i k h; simp [initX] at h
  | cons y args ih =>
    intro i k h
    have rest : (t, p) ∈ (initX (i + 1) (k + 1) args).tm → ∃ j x, t = i + j ∧ (y :: args)[j]? = some x ∧ argP (k + j) x p := fun h => by
      obtain ⟨j, x, h1, h2, h3⟩ := ih h
      exact ⟨j + 1, x, by omega, by simpa using h2, by rw [show k + (j + 1) = k + 1 + j by omega]; exact h3⟩
    cases y with
    | d x =>
      simp only [initX, List.mem_cons, Prod.mk.injEq] at h
      rcases h with ⟨rfl, rfl⟩ | h
      · exact ⟨0, _, rfl, rfl, rfl⟩
      · exact rest h
    | ref cs =>
      simp only [initX, List.mem_cons, Prod.mk.injEq] at h
      rcases h with ⟨rfl, rfl⟩ | h
      · exact ⟨0, _, rfl, rfl, rfl⟩
      · exact rest h
    | own sz es =>
      simp only [initX, List.mem_cons, Prod.mk.injEq] at h
      rcases h with ⟨rfl, rfl⟩ | h
      · exact ⟨0, _, rfl, rfl, rfl⟩
      · exact rest h
    | gone => exact rest h
    | ag _ => exact rest h
theorem initX_bx {t : Nat} {qs : List Q} : ∀ {args : List AV} {i k : Nat}, (t, qs) ∈ (initX i k args).bx → ∃ j cs, t = k + j ∧ args[j]? = some (.ref cs) ∧ qs = cs.map .c := by
  intro args
  induction args with
  | nil => intro i k h; simp [initX] at h
  | cons y args ih =>
    intro i k h
    have rest : (t, qs) ∈ (initX (i + 1) (k + 1) args).bx → ∃ j cs, t = k + j ∧ (y :: args)[j]? = some (.ref cs) ∧ qs = cs.map .c := fun h => by
      obtain ⟨j, x, h1, h2, h3⟩ := ih h
      exact ⟨j + 1, x, by omega, by simpa using h2, h3⟩
    cases y with
    | ref cs =>
      simp only [initX, List.mem_cons, Prod.mk.injEq] at h
      rcases h with ⟨rfl, rfl⟩ | h
      · exact ⟨0, _, rfl, rfl, rfl⟩
      · exact rest h
    | d x => exact rest h
    | own sz es => exact rest h
    | gone => exact rest h
    | ag _ => exact rest h
theorem initX_rw {t sz : Nat} {es : List (List C)} : ∀ {args : List AV} {i k : Nat}, (t, sz, es) ∈ (initX i k args).rw → ∃ j, t = k + j + BASE ∧ args[j]? = some (.own sz es) := by
  intro args
  induction args with
  | nil => intro i k h; simp [initX] at h
  | cons y args ih =>
    intro i k h
    have rest : (t, sz, es) ∈ (initX (i + 1) (k + 1) args).rw → ∃ j, t = k + j + BASE ∧ (y :: args)[j]? = some (.own sz es) := fun h => by
      obtain ⟨j, h1, h2⟩ := ih h
      exact ⟨j + 1, by omega, by simpa using h2⟩
    cases y with
    | own sz' es' =>
      simp only [initX, List.mem_cons, Prod.mk.injEq] at h
      rcases h with ⟨rfl, rfl, rfl⟩ | h
      · exact ⟨0, rfl, rfl⟩
      · exact rest h
    | d x => exact rest h
    | ref cs => exact rest h
    | gone => exact rest h
    | ag _ => exact rest h

def ptrB : Value → Nat
  | .pointer (some a) => a.block
  | _ => 0
def Gh.init (n : Nat) (vs : List Value) (S : Nat → Prop) : Gh := { β := fun i => ptrB (vs.getD (i - n) undef), ρ := fun i => vs.getD (i - BASE - n) undef, S := S }

theorem priv_one {S : Nat → Prop} {sz : Nat} {es : List (List C)} {v : Value} (h : Priv w S sz es v) : v.oneCell' = true := by
  rcases h with ⟨_, _, h, _⟩ | ⟨_, A, rfl⟩
  · rcases h.2 with ⟨rfl, _⟩ | ⟨_, _, _, rfl, _⟩ <;> rfl
  · rfl

theorem init_sim {args : List AV} {S : Nat → Prop} {vs : List Value} {fps : List (Nat → Prop)} (hG : Gl w S) (hS : ∀ g, S g → g < w.heap.size) (ha : Apart S fps) (hA : All3 (RepA w S) args vs fps) (hn : args.length ≤ n) :
    Sim (Any fps) n w.heap.size ⟨w, S, (Gh.init n vs S).β, (Gh.init n vs S).ρ⟩ (initX 0 n args) { tmps := vs.toArray ++ Array.replicate (n - vs.toArray.size) undef, defers := [] } w (Gh.init n vs S) := by
  have hlen := hA.len
  have hv : ∀ (j : Nat) v, vs[j]? = some v → vs.getD (n + j - n) undef = v := fun j v h => by
    rw [Nat.add_sub_cancel_left]; simp [h]
  have box : ∀ {t qs}, (t, qs) ∈ (initX 0 n args).bx → ∃ j cs fp, t = n + j ∧ qs = cs.map .c ∧ fps[j]? = some fp ∧ Cells w S cs ((Gh.init n vs S).β t) ∧ fp ((Gh.init n vs S).β t) := fun {t qs} h => by
    obtain ⟨j, cs, rfl, h2, rfl⟩ := initX_bx h
    obtain ⟨v, fp, h3, h4, g, rfl, h6, h7⟩ := hA.at h2
    have hb : (Gh.init n vs S).β (n + j) = g := by simp only [Gh.init]; rw [hv j _ h3]; rfl
    exact ⟨j, cs, fp, rfl, rfl, h4, by rw [hb]; exact h6, by rw [hb]; exact (h7 g).2 rfl⟩
  have row : ∀ {t sz es}, (t, sz, es) ∈ (initX 0 n args).rw → ∃ j fp, t = n + j + BASE ∧ fps[j]? = some fp ∧ 0 < sz ∧ Priv w S sz es ((Gh.init n vs S).ρ t) ∧ ∀ g, fp g ↔ pblk ((Gh.init n vs S).ρ t) g := fun {t sz es} h => by
    obtain ⟨j, rfl, h2⟩ := initX_rw h
    obtain ⟨v, fp, h3, h4, h5, h6, h7⟩ := hA.at h2
    have hb : (Gh.init n vs S).ρ (n + j + BASE) = v := by simp only [Gh.init]; rw [Nat.add_sub_cancel]; exact hv j _ h3
    exact ⟨j, fp, rfl, h4, h5, by rw [hb]; exact h6, by rw [hb]; exact h7⟩
  have any : ∀ {j : Nat} {fp g}, fps[j]? = some fp → fp g → Any fps g := fun h hg => ⟨_, List.mem_of_getElem? h, hg⟩
  refine ⟨by simp; omega, rfl, fun t p h => ?_, ⟨fun i qs h => ?_, fun i sz es h => ?_, fun i q i' q' h h' hne => ?_, fun i q i' r h h' hg => ?_, fun i r i' r' g h h' hne hg hg' => ?_, hS, fun i q h => ?_, fun i r g h hg => ?_, hG⟩, Fr.refl _ _ _, Nat.le_refl _, fun g h => .inl h, fun _ _ => rfl, fun _ _ _ => rfl⟩
  · obtain ⟨j, x, rfl, h2, h3⟩ := initX_tm h
    obtain ⟨v, fp, h4, h5, h6⟩ := hA.at h2
    have hj : j < vs.length := (List.getElem?_eq_some_iff.1 h4).1
    have he : (vs.toArray ++ Array.replicate (n - vs.toArray.size) undef).getD (0 + j) undef = v := by
      rw [Nat.zero_add, Array.getD_eq_getD_getElem?, Array.getElem?_append_left (by simpa using hj)]
      simp [h4]
    show RelV w _ p ((vs.toArray ++ Array.replicate (n - vs.toArray.size) undef).getD (0 + j) undef)
    rw [he]
    cases x with
    | d d => simp only [argP] at h3; subst h3; exact toP_rel (M := Gh.init n vs S) h6.1
    | ref cs =>
      simp only [argP] at h3; subst h3
      obtain ⟨g, rfl, _⟩ := h6
      show _ = _
      simp only [Gh.init]; rw [hv j _ h4]; rfl
    | own sz es =>
      simp only [argP] at h3; subst h3
      exact ⟨by simp only [Gh.init]; rw [Nat.add_sub_cancel, hv j _ h4], priv_one h6.2.1⟩
    | gone => exact h3.elim
    | ag _ => exact h3.elim
  · obtain ⟨j, cs, fp, rfl, rfl, h3, h4, h5⟩ := box h
    exact ⟨.inr (any h3 h5), cells_rel (M := Gh.init n vs S) h4⟩
  · obtain ⟨j, fp, rfl, h2, h3, h4, h5⟩ := row h
    exact ⟨h3, h4, fun g hg => .inr (any h2 ((h5 g).2 hg))⟩
  · obtain ⟨j, cs, fp, rfl, rfl, h3, _, h5⟩ := box h
    obtain ⟨j', cs', fp', rfl, rfl, h3', _, h5'⟩ := box h'
    exact fun e => ha.two h3 h3' (by omega) h5 (e ▸ h5')
  · obtain ⟨j, cs, fp, rfl, rfl, h3, _, h5⟩ := box h
    obtain ⟨sz, es⟩ := r
    obtain ⟨j', fp', rfl, h2', _, _, h5'⟩ := row h'
    by_cases hj : j = j'
    · subst hj
      obtain ⟨j0, _, e1, e2, _⟩ := initX_bx h
      obtain ⟨j1, e3, e4⟩ := initX_rw h'
      have e5 : j0 = j1 := by omega
      subst e5
      rw [e2] at e4; cases e4
    · exact ha.two h3 h2' hj h5 ((h5' _).2 hg)
  · obtain ⟨sz, es⟩ := r
    obtain ⟨sz', es'⟩ := r'
    obtain ⟨j, fp, rfl, h2, _, _, h5⟩ := row h
    obtain ⟨j', fp', rfl, h2', _, _, h5'⟩ := row h'
    exact ha.two h2 h2' (by omega) ((h5 _).2 hg) ((h5' _).2 hg')
  · obtain ⟨j, cs, fp, rfl, rfl, h3, _, h5⟩ := box h
    exact ha.notS (any h3 h5)
  · obtain ⟨sz, es⟩ := r
    obtain ⟨j, fp, rfl, h2, _, _, h5⟩ := row h
    exact ha.notS (any h2 ((h5 _).2 hg))
end
end Go.Proofs.Pw
/- What a function hands back; what is shown of its code holds of it. -/
namespace Go.Proofs.Pw
open Go.RowKit
set_option linter.unusedSectionVars false
variable [Globs]
section
variable {P : Program} {Γ : FuncId → Option Spec} {σ σ' : St} {a : Act} {w w' : World} {M M' : Gh} {n : Nat} {X₀ : Nat → Prop} {B : Nat} {w0 : W0}

def resOne (tmps : Array Value) : ResultVar → Sem Value
  | .tmp t => pure (tmps.getD t undef)
  | .cell a t => do loadVar t (← asAddr (tmps.getD a undef))
theorem results_eq (fn : Func) (tmps : Array Value) : results fn tmps = (do
    let vs ← fn.results.mapM (resOne tmps)
    pure (if h : vs.size = 1 then vs[0] else .tuple vs)) := rfl

theorem resV_run (hs : Sim X₀ n B w0 σ a w M) {r : ResultVar} {x : RX} {rs : List ResultVar} {xs : List RX} (hk : okRs P (r :: rs) (x :: xs) = true) {vc : Prop} {p : PV} (hv : resV σ x = some (vc, p)) (hvc : vc) :
    okRs P rs xs = true ∧ ∃ v, (resOne a.tmps r).run P w = .ok v w ∧ RelV w M p v := by
  cases r with
  | tmp t =>
    cases x with
    | tmp t' =>
      simp only [okRs, Bool.and_eq_true, beq_iff_eq] at hk
      obtain ⟨rfl, hk⟩ := hk
      simp only [resV, Option.some.injEq, Prod.mk.injEq] at hv
      obtain ⟨rfl, rfl⟩ := hv
      exact ⟨hk, _, rfl, un_rel (look_rel hs.tm t) hvc⟩
    | cell _ _ => simp [okRs] at hk
  | cell t ty =>
    cases x with
    | tmp _ => simp [okRs] at hk
    | cell t' ag =>
      simp only [okRs, Bool.and_eq_true, beq_iff_eq] at hk
      obtain ⟨⟨rfl, hag⟩, hk⟩ := hk
      refine ⟨hk, ?_⟩
      simp only [resV] at hv
      split at hv
      · rename_i g i e1
        simp only [Option.map_eq_some_iff, Prod.mk.injEq] at hv
        obtain ⟨qs, hq, rfl, rfl⟩ := hv
        have hp : RelV w M (σ.v (.t t)).2 (a.tmps.getD t undef) := un_rel (look_rel hs.tm t) (by rw [show (get (PV.q .no) t σ.tm).un = σ.v (.t t) from rfl, e1]; exact hvc.1)
        rw [e1] at hp
        have hin := get?_mem hq
        obtain ⟨_, ty', cells, h1, h2, h3⟩ := hs.mem.box _ _ hin
        have hl := loadQ_len hvc.2
        have hc : ∀ j, j < ag.getD 1 → w.cell? ((⟨M.β i, 0, none⟩ : Addr).add j) = some (cells.getD j undef) := fun j hj => by
          have hjs : j < cells.size := by omega
          rw [Addr.add_lit, Nat.zero_add]
          simp [World.cell?, h1, hjs]
        have hld := load_run hag hc
        refine ⟨_, ?_, loadQ_rel (M := M) (w := w) (us := fun j => cells.getD j undef) hvc.2 (fun j q hj => ?_)⟩
        · have he : a.tmps.getD t undef = .pointer (some ⟨M.β i, 0, none⟩) := hp
          simp only [resOne, he]
          simpa [Instr.loadAt, Instr.sureAddr, asAddr] using hld
        · rw [Nat.zero_add] at hj
          obtain ⟨u, k1, k2, k3⟩ := h3 j q hj
          simp only [Array.getD_eq_getD_getElem?, k1, Option.getD_some]
          exact ⟨k2, k3⟩
      · cases hv

theorem resD_run (hs : Sim X₀ n B w0 σ a w M) : ∀ {rs : List ResultVar} {xs : List RX} {vc : Prop} {ds : List AV}, okRs P rs xs = true → resD σ xs = some (vc, ds) → vc →
    ∃ vs, (rs.mapM (resOne a.tmps)).run P w = .ok vs w ∧ All3 (RepA w M.S) ds vs (ds.map fun _ => fun _ => False) := by
  intro rs
  induction rs with
  | nil =>
    intro xs vc ds hk hd hvc
    cases xs with
    | nil => simp only [resD, Option.some.injEq, Prod.mk.injEq] at hd; rw [← hd.2]; exact ⟨[], rfl, .nil⟩
    | cons _ _ => simp [okRs] at hk
  | cons r rs ih =>
    intro xs vc ds hk hd hvc
    cases xs with
    | nil => cases r <;> simp [okRs] at hk
    | cons x xs =>
      simp only [resD] at hd
      split at hd
      · rename_i vc1 p vc2 ds' e1 e2
        simp only [Option.map_eq_some_iff, Prod.mk.injEq] at hd
        obtain ⟨d, hpd, rfl, rfl⟩ := hd
        obtain ⟨hk', v, h1, h2⟩ := resV_run hs hk e1 hvc.1
        obtain ⟨vs, h3, h4⟩ := ih hk' e2 hvc.2
        exact ⟨v :: vs, by simp only [List.mapM_cons, Sem.run_bind, h1, h3, Result.andThen_ok]; rfl, .cons ⟨toD_rel h2 hpd, fun _ h => h⟩ h4⟩
      · cases hd

/-- Where that lies which is given back. -/
def outFps : List AV → List (Nat → Prop) → List (Nat → Prop)
  | .ref _ :: as, fp :: fps => fp :: outFps as fps
  | .own _ _ :: as, fp :: fps => fp :: outFps as fps
  | _ :: as, _ :: fps => (fun _ => False) :: outFps as fps
  | _, _ => []
def isBack : AV → Prop
  | .ref _ => True
  | .own _ _ => True
  | _ => False
theorem outFps_any {g : Nat} : ∀ {as : List AV} {fps : List (Nat → Prop)}, Any (outFps as fps) g → ∃ (j : Nat) (o : AV) (fp : Nat → Prop), as[j]? = some o ∧ isBack o ∧ fps[j]? = some fp ∧ fp g := by
  intro as
  induction as with
  | nil => rintro fps ⟨p, hp, _⟩; simp [outFps] at hp
  | cons y as ih =>
    intro fps h
    cases fps with
    | nil => obtain ⟨p, hp, _⟩ := h; cases y <;> simp [outFps] at hp
    | cons fp fps =>
      have rest : Any (outFps as fps) g → ∃ (j : Nat) (o : AV) (fp' : Nat → Prop), (y :: as)[j]? = some o ∧ isBack o ∧ (fp :: fps)[j]? = some fp' ∧ fp' g := fun h => by
        obtain ⟨j, o, fp', h1, h2, h3, h4⟩ := ih h
        exact ⟨j + 1, o, fp', by simpa using h1, h2, by simpa using h3, h4⟩
      obtain ⟨p, hp, hg⟩ := h
      cases y with
      | ref cs =>
        simp only [outFps, List.mem_cons] at hp
        rcases hp with rfl | hp
        · exact ⟨0, _, p, rfl, trivial, rfl, hg⟩
        · exact rest ⟨p, hp, hg⟩
      | own _ _ =>
        simp only [outFps, List.mem_cons] at hp
        rcases hp with rfl | hp
        · exact ⟨0, _, p, rfl, trivial, rfl, hg⟩
        · exact rest ⟨p, hp, hg⟩
      | d _ =>
        simp only [outFps, List.mem_cons] at hp
        rcases hp with rfl | hp
        · exact hg.elim
        · exact rest ⟨p, hp, hg⟩
      | gone =>
        simp only [outFps, List.mem_cons] at hp
        rcases hp with rfl | hp
        · exact hg.elim
        · exact rest ⟨p, hp, hg⟩
      | ag _ =>
        simp only [outFps, List.mem_cons] at hp
        rcases hp with rfl | hp
        · exact hg.elim
        · exact rest ⟨p, hp, hg⟩
theorem outFps_le {g : Nat} {as : List AV} {fps : List (Nat → Prop)} (h : Any (outFps as fps) g) : Any fps g := by
  obtain ⟨j, o, fp, _, _, h2, h3⟩ := outFps_any h
  exact ⟨fp, List.mem_of_getElem? h2, h3⟩
theorem outFps_apart {S : Nat → Prop} : ∀ {as : List AV} {fps : List (Nat → Prop)}, Apart S fps → Apart S (outFps as fps) := by
  intro as
  induction as with
  | nil => intro fps _; trivial
  | cons y as ih =>
    intro fps h
    cases fps with
    | nil => cases y <;> trivial
    | cons fp fps =>
      have one : Apart S (fp :: outFps as fps) := ⟨h.1, fun g hg q hq hqg => by
          obtain ⟨q', hq', hg'⟩ := outFps_le (as := as) ⟨q, hq, hqg⟩
          exact h.2.1 g hg q' hq' hg', ih h.2.2⟩
      cases y with
      | ref cs => exact one
      | own _ _ => exact one
      | d _ => exact ⟨fun _ h => h.elim, fun _ h => h.elim, ih h.2.2⟩
      | gone => exact ⟨fun _ h => h.elim, fun _ h => h.elim, ih h.2.2⟩
      | ag _ => exact ⟨fun _ h => h.elim, fun _ h => h.elim, ih h.2.2⟩
theorem outX_rel {S : Nat → Prop} {wa : World} (mem : Mem X₀ B σ.bx σ.rw w M) : ∀ {as : List AV} {vs : List Value} {fps : List (Nat → Prop)} {os : List AV} {k : Nat}, outX σ k as = some os → All3 (RepA wa S) as vs fps → (∀ (j : Nat) v, vs[j]? = some v → M.β (k + j) = ptrB v ∧ M.ρ (k + j + BASE) = v) →
    All3 (RepA w M.S) os vs (outFps os fps) ∧ (∀ (j : Nat) cs fp g, os[j]? = some (.ref cs) → fps[j]? = some fp → fp g → ∃ q, (k + j, q) ∈ σ.bx ∧ g = M.β (k + j)) ∧
      ∀ (j : Nat) sz es fp g, os[j]? = some (.own sz es) → fps[j]? = some fp → fp g → (k + j + BASE, sz, es) ∈ σ.rw ∧ pblk (M.ρ (k + j + BASE)) g := by
  intro as
  induction as with
  | nil =>
    intro vs fps os k h h3 hb
    cases h3
    simp only [outX, Option.some.injEq] at h
    subst h
    exact ⟨.nil, by simp, by simp⟩
  | cons y as ih =>
    intro vs fps os k h h3 hb
    cases h3 with
    | @cons _ v fp _ vs fps hr h3 =>
    have hb' : ∀ (j : Nat) u, vs[j]? = some u → M.β (k + 1 + j) = ptrB u ∧ M.ρ (k + 1 + j + BASE) = u := fun j u hu => by
      rw [show k + 1 + j = k + (j + 1) by omega]; exact hb (j + 1) u (by simpa using hu)
    have rest : ∀ {os'}, outX σ (k + 1) as = some os' → os = .gone :: os' → All3 (RepA w M.S) os (v :: vs) (outFps os (fp :: fps)) ∧ (∀ (j : Nat) cs fp' g, os[j]? = some (.ref cs) → (fp :: fps)[j]? = some fp' → fp' g → ∃ q, (k + j, q) ∈ σ.bx ∧ g = M.β (k + j)) ∧
        ∀ (j : Nat) sz es fp' g, os[j]? = some (.own sz es) → (fp :: fps)[j]? = some fp' → fp' g → (k + j + BASE, sz, es) ∈ σ.rw ∧ pblk (M.ρ (k + j + BASE)) g := fun {os'} h1 ho => by
      obtain ⟨i1, i2, i3⟩ := ih h1 h3 hb'
      subst ho
      refine ⟨.cons (fun _ h => h) i1, fun j cs fp' g hj hf hg => ?_, fun j sz es fp' g hj hf hg => ?_⟩
      · cases j with
        | zero => simp at hj
        | succ j => rw [show k + (j + 1) = k + 1 + j by omega]; exact i2 j cs fp' g (by simpa using hj) (by simpa using hf) hg
      · cases j with
        | zero => simp at hj
        | succ j => rw [show k + (j + 1) = k + 1 + j by omega]; exact i3 j sz es fp' g (by simpa using hj) (by simpa using hf) hg
    cases y with
    | ref cs0 =>
      simp only [outX] at h
      split at h
      · rename_i cs os' e1 e2
        simp only [Option.some.injEq] at h
        subst h
        obtain ⟨i1, i2, i3⟩ := ih e2 h3 hb'
        rw [Option.bind_eq_some_iff] at e1
        obtain ⟨qs, hq, hcs⟩ := e1
        have hin := get?_mem hq
        obtain ⟨_, t, cells, c1, c2, c3⟩ := mem.box _ _ hin
        obtain ⟨c4, c5⟩ := allC_rel ⟨c2, c3⟩ hcs
        obtain ⟨g, rfl, _, hfp⟩ := hr
        have hbk : M.β k = g := by have := (hb 0 _ rfl).1; simpa [ptrB] using this
        refine ⟨.cons ⟨g, rfl, ⟨t, cells, by rw [← hbk]; exact c1, c4, c5⟩, hfp⟩ i1, fun j cs' fp' g' hj hf hg => ?_, fun j sz es fp' g' hj hf hg => ?_⟩
        · cases j with
          | zero => simp at hf; subst hf; exact ⟨qs, hin, by rw [Nat.add_zero, hbk]; exact (hfp g').1 hg⟩
          | succ j => rw [show k + (j + 1) = k + 1 + j by omega]; exact i2 j cs' fp' g' (by simpa using hj) (by simpa using hf) hg
        · cases j with
          | zero => simp at hj
          | succ j => rw [show k + (j + 1) = k + 1 + j by omega]; exact i3 j sz es fp' g' (by simpa using hj) (by simpa using hf) hg
      · cases h
    | d x =>
      simp only [outX, Option.map_eq_some_iff] at h
      obtain ⟨os', h1, h2⟩ := h
      exact rest h1 h2.symm
    | own sz0 es0 =>
      simp only [outX] at h
      split at h
      · rename_i sz es hq
        simp only [Option.map_eq_some_iff] at h
        obtain ⟨os', h1, h2⟩ := h
        obtain ⟨i1, i2, i3⟩ := ih h1 h3 hb'
        subst h2
        have hin := get?_mem hq
        obtain ⟨c0, c1, _⟩ := mem.row _ _ _ hin
        have hρ : M.ρ (k + BASE) = v := by have := (hb 0 _ rfl).2; simpa using this
        rw [hρ] at c1
        refine ⟨.cons ⟨c0, c1, hr.2.2⟩ i1, fun j cs' fp' g' hj hf hg => ?_, fun j sz' es' fp' g' hj hf hg => ?_⟩
        · cases j with
          | zero => simp at hj
          | succ j => rw [show k + (j + 1) = k + 1 + j by omega]; exact i2 j cs' fp' g' (by simpa using hj) (by simpa using hf) hg
        · cases j with
          | zero =>
            simp at hf hj; subst hf
            obtain ⟨rfl, rfl⟩ := hj
            exact ⟨hin, by rw [Nat.add_zero, hρ]; exact (hr.2.2 g').1 hg⟩
          | succ j => rw [show k + (j + 1) = k + 1 + j by omega]; exact i3 j sz' es' fp' g' (by simpa using hj) (by simpa using hf) hg
      · simp only [Option.map_eq_some_iff] at h
        obtain ⟨os', h1, h2⟩ := h
        exact rest h1 h2.symm
    | gone =>
      simp only [outX, Option.map_eq_some_iff] at h
      obtain ⟨os', h1, h2⟩ := h
      exact rest h1 h2.symm
    | ag _ =>
      simp only [outX, Option.map_eq_some_iff] at h
      obtain ⟨os', h1, h2⟩ := h
      exact rest h1 h2.symm
end
end Go.Proofs.Pw
/- What is shown of a function's small code holds of the function. -/
namespace Go.Proofs.Pw
open Go.RowKit
set_option linter.unusedSectionVars false
variable [Globs]
section
variable {P : Program} {Γ : FuncId → Option Spec} {σ σ' : St} {a : Act} {w w' : World} {M M' : Gh} {n : Nat} {B : Nat} {w0 : W0} {X₀ : Nat → Prop}

theorem Apart.append {S : Nat → Prop} {ps qs : List (Nat → Prop)} (h : Apart S ps) (k : Apart S qs) (hn : ∀ g, Any ps g → ¬ Any qs g) : Apart S (ps ++ qs) := by
  induction ps with
  | nil => exact k
  | cons p ps ih =>
    refine ⟨h.1, fun g hg q hq hqg => ?_, ih h.2.2 (fun g ⟨q, hq, hg⟩ => hn g ⟨q, by simp [hq], hg⟩)⟩
    rcases List.mem_append.1 hq with hq | hq
    · exact h.2.1 g hg q hq hqg
    · exact hn g ⟨p, by simp, hg⟩ ⟨q, hq, hqg⟩

/-- What a call must leave. -/
def Left (sp : Spec) (args : List AV) (w : World) (S : Nat → Prop) (vs : List Value) (fps : List (Nat → Prop)) (e : Ending) (w' : World) : Prop :=
  ∃ v S' rfs fps', e = .returned v ∧ RepR w' S' (sp.res args) v rfs ∧ All3 (RepA w' S') (sp.out args) vs fps' ∧
      (∀ g, S' g → S g ∨ w.heap.size ≤ g ∨ Any fps g) ∧ (∀ g, S' g → g < w'.heap.size) ∧
      Apart S' (rfs ++ fps') ∧ (∀ g, Any (rfs ++ fps') g → (w.heap.size ≤ g ∨ Any fps g) ∧ g < w'.heap.size) ∧ Fr (Any fps) w.heap.size w w'

theorem left_of {sp : Spec} {args : List AV} {S : Nat → Prop} {vs : List Value} {fps : List (Nat → Prop)} (hF : ∀ g, Any fps g → g < w.heap.size) (ha : Apart S fps) (hA : All3 (RepA w S) args vs fps)
    (hs : Sim (Any fps) n w.heap.size ⟨w, S, (Gh.init n vs S).β, (Gh.init n vs S).ρ⟩ σ a w' M) (ho : outX σ n args = some (sp.out args)) {v : Value} {rfs : List (Nat → Prop)} (hr : RepR w' M.S (sp.res args) v rfs) (hap : Apart M.S rfs)
    (hrf : ∀ g, Any rfs g → (w.heap.size ≤ g ∨ Any fps g) ∧ g < w'.heap.size) (hro : ∀ g, Any rfs g → ∀ i q, (i, q) ∈ σ.bx → g ≠ M.β i)
    (hrr : ∀ g, Any rfs g → ∀ i r, (i, r) ∈ σ.rw → ¬ pblk (M.ρ i) g) : Left sp args w S vs fps (.returned v) w' := by
  have hβ : ∀ (j : Nat) u, vs[j]? = some u → M.β (n + j) = ptrB u ∧ M.ρ (n + j + BASE) = u := fun j u hu => by
    rw [hs.sβ (n + j) (by omega), hs.sρ (n + j + BASE) (by omega) (by omega)]
    simp only [Gh.init]
    rw [Nat.add_sub_cancel, Nat.add_sub_cancel_left]; simp [hu]
  obtain ⟨h1, h2, h3⟩ := outX_rel hs.mem ho hA hβ
  have hout : ∀ g, Any (outFps (sp.out args) fps) g → (∃ i q, (i, q) ∈ σ.bx ∧ g = M.β i) ∨ ∃ i r, (i, r) ∈ σ.rw ∧ pblk (M.ρ i) g := fun g hg => by
    obtain ⟨j, o, fp, k1, kb, k2, k3⟩ := outFps_any hg
    cases o with
    | ref cs => obtain ⟨q, hq, he⟩ := h2 j cs fp g k1 k2 k3; exact .inl ⟨_, q, hq, he⟩
    | own sz es => obtain ⟨hq, he⟩ := h3 j sz es fp g k1 k2 k3; exact .inr ⟨_, _, hq, he⟩
    | d _ => exact kb.elim
    | gone => exact kb.elim
    | ag _ => exact kb.elim
  refine ⟨v, M.S, rfs, outFps (sp.out args) fps, rfl, hr, h1, fun g hg => hs.sS g hg, hs.mem.lt, hap.append ((outFps_apart ha).widen (fun g hg => ?_)) (fun g hg hg' => ?_), fun g hg => ?_, hs.fr⟩
  · rcases hout g hg with ⟨i, q, hq, rfl⟩ | ⟨i, r, hr, hg⟩
    · exact hs.mem.sb i q hq
    · exact hs.mem.sr i r g hr hg
  · rcases hout g hg' with ⟨i, q, hq, rfl⟩ | ⟨i, r, hr, hg2⟩
    · exact hro _ hg i q hq rfl
    · exact hrr _ hg i r hr hg2
  · obtain ⟨p, hp, hg⟩ := hg
    rcases List.mem_append.1 hp with hp | hp
    · exact hrf g ⟨p, hp, hg⟩
    · have := outFps_le ⟨p, hp, hg⟩
      exact ⟨.inr this, Nat.lt_of_lt_of_le (hF g this) hs.fr.size⟩

theorem results_run {fn : Func} {vs : List Value} (h : (fn.results.toList.mapM (resOne a.tmps)).run P w = .ok vs w) : (results fn a.tmps).run P w = .ok (if h : vs.toArray.size = 1 then vs.toArray[0] else .tuple vs.toArray) w := by
  rw [results_eq, Array.mapM_eq_mapM_toList]
  simp only [map_eq_pure_bind, bind_assoc, pure_bind, Sem.run_bind, h, Result.andThen_ok]
  rfl

theorem okRs_one {rs : List ResultVar} {t : Nat} (h : okRs P rs [.tmp t] = true) : rs = [.tmp t] := by
  cases rs with
  | nil => simp [okRs] at h
  | cons r rs =>
    cases r with
    | tmp t' =>
      cases rs with
      | nil => simp [okRs] at h; subst h; rfl
      | cons r' rs => cases r' <;> simp [okRs] at h
    | cell _ _ => simp [okRs] at h

theorem tuple_repR {S : Nat → Prop} {ds : List AV} {vs : List Value} {fps : List (Nat → Prop)} (h : All3 (RepA w S) ds vs fps) (hf : fps.length = ds.length) : RepR w S ds (if h : vs.toArray.size = 1 then vs.toArray[0] else .tuple vs.toArray) fps := by
  have hl := h.len
  cases h with
  | nil => exact ⟨by simp, [], by simp, .nil⟩
  | @cons d v fp ds' vs' fps' h1 h2 =>
    cases h2 with
    | nil => exact h1
    | cons h3 h4 =>
      refine ⟨by simp, _, ?_, .cons h1 (.cons h3 h4)⟩
      rw [dif_neg (by simp)]

/-! ### Several private rows handed back -/
def gIdl (σ : St) : List RX → List AV → List (List Nat)
  | r :: rs, x :: as => idsR σ r x :: gIdl σ rs as
  | _, _ => []
theorem gIdl_flat {rs : List RX} : ∀ {as : List AV}, (gIdl σ rs as).flatten = gIds σ rs as := by
  induction rs with
  | nil => intro as; rfl
  | cons r rs ih => intro as; cases as with
    | nil => rfl
    | cons x as => simp only [gIdl, gIds, List.flatten_cons, ih]
theorem gOk_len {rs : List RX} : ∀ {as : List AV}, gOk σ rs as → (gIdl σ rs as).length = as.length := by
  induction rs with
  | nil => intro as h; cases as with
    | nil => rfl
    | cons _ _ => exact h.elim
  | cons r rs ih => intro as h; cases as with
    | nil => exact h.elim
    | cons x as => simp only [gIdl, List.length_cons, ih h.2]
theorem ptOk_rel (mem : Mem X₀ B σ.bx σ.rw w M) : ∀ {ps : List Pt} {qs : List Q} {us : List Value}, ptOk σ ps qs → us.length = qs.length → (∀ (i : Nat) q, qs[i]? = some q → ∃ u, us[i]? = some u ∧ u.oneCell' = true ∧ RelQ w M q u) → nodupN (agI ps qs) = true →
    ∃ fs, All3 (RepP w M.S) ps us fs ∧ Apart0 fs ∧ (∀ g, Any fs g ↔ ∃ i ∈ agI ps qs, pblk (M.ρ i) g) ∧ ∀ i ∈ agI ps qs, ∃ r, (i, r) ∈ σ.rw := by
  intro ps
  induction ps with
  | nil =>
    intro qs us h hl hq _
    cases qs with
    | nil =>
      have := List.eq_nil_of_length_eq_zero (l := us) (by simpa using hl)
      subst this
      exact ⟨[], .nil, trivial, fun g => by simp [Any, agI], by simp [agI]⟩
    | cons _ _ => exact h.elim
  | cons p ps ih =>
    intro qs us h hl hq hnd
    cases qs with
    | nil => cases p <;> exact h.elim
    | cons q qs =>
      cases us with
      | nil => simp at hl
      | cons u us =>
        have hl' : us.length = qs.length := by simpa using hl
        have hq' : ∀ (i : Nat) q, qs[i]? = some q → ∃ u, us[i]? = some u ∧ u.oneCell' = true ∧ RelQ w M q u := fun i q' h' => by simpa using hq (i + 1) q' (by simpa using h')
        obtain ⟨u', hu', _, hr⟩ := hq 0 q (by simp)
        simp only [List.getElem?_cons_zero, Option.some.injEq] at hu'
        subst hu'
        have rest : ∀ {F : Nat → Prop}, (∀ g, ¬ F g) → RepP w M.S p u F → agI (p :: ps) (q :: qs) = agI ps qs → ptOk σ ps qs → ∃ fs, All3 (RepP w M.S) (p :: ps) (u :: us) fs ∧ Apart0 fs ∧ (∀ g, Any fs g ↔ ∃ i ∈ agI (p :: ps) (q :: qs), pblk (M.ρ i) g) ∧ ∀ i ∈ agI (p :: ps) (q :: qs), ∃ r, (i, r) ∈ σ.rw := fun {F} hF hp he hk => by
          rw [he] at hnd ⊢
          obtain ⟨fs, i1, i2, i3, i4⟩ := ih hk hl' hq' hnd
          refine ⟨F :: fs, .cons hp i1, ⟨fun g hg => (hF g hg).elim, i2⟩, fun g => ?_, i4⟩
          rw [← i3]
          exact ⟨fun ⟨z, hz, hg⟩ => by
            rcases List.mem_cons.1 hz with rfl | hz
            · exact (hF g hg).elim
            · exact ⟨z, hz, hg⟩, fun ⟨z, hz, hg⟩ => ⟨z, by simp [hz], hg⟩⟩
        cases p with
        | c x =>
          exact rest (F := fun _ => False) (fun _ h => h) ⟨toC_rel hr h.1, fun _ h => h⟩ (by cases q <;> rfl) h.2
        | o sz es =>
          cases q with
          | z sz' =>
            obtain ⟨⟨rfl, h0, rfl⟩, h2⟩ := h
            obtain ⟨A, hA⟩ := hr
            have hpb : ∀ g, ¬ pblk u g := fun g => by rw [hA]; cases A <;> simp [pblk]
            exact rest (F := fun _ => False) (fun _ h => h) ⟨h0, .inr ⟨rfl, A, hA⟩, fun g => ⟨fun h => h.elim, fun h => (hpb g h).elim⟩⟩ rfl h2
          | own i =>
            obtain ⟨h1, h2⟩ := h
            have hin := get?_mem h1
            obtain ⟨k0, k1, k2⟩ := mem.row _ _ _ hin
            simp only [agI, nodupN, Bool.and_eq_true, Bool.not_eq_true', List.contains_eq_mem, decide_eq_false_iff_not] at hnd
            obtain ⟨fs, i1, i2, i3, i4⟩ := ih h2 hl' hq' hnd.2
            refine ⟨pblk (M.ρ i) :: fs, .cons ⟨k0, by rw [hr.1]; exact k1, fun g => by rw [hr.1]⟩ i1, ⟨fun g hg z hz hzg => ?_, i2⟩, fun g => ?_, fun j hj => ?_⟩
            · obtain ⟨j, hj, hjg⟩ := (i3 g).1 ⟨z, hz, hzg⟩
              obtain ⟨r, hr'⟩ := i4 j hj
              exact mem.rr _ _ _ _ g hin hr' (fun e => hnd.1 (e ▸ hj)) hg hjg
            · simp only [agI, List.mem_cons, exists_eq_or_imp, ← i3]
              exact ⟨fun ⟨z, hz, hg⟩ => by
                rcases List.mem_cons.1 hz with rfl | hz
                · exact .inl hg
                · exact .inr ⟨z, hz, hg⟩, fun h => by
                rcases h with h | ⟨z, hz, hg⟩
                · exact ⟨_, by simp, h⟩
                · exact ⟨z, by simp [hz], hg⟩⟩
            · simp only [agI, List.mem_cons] at hj
              rcases hj with rfl | hj
              · exact ⟨_, hin⟩
              · exact i4 j hj
          | _ => exact h.elim
theorem nodupN_app {a b : List Nat} (h : nodupN (a ++ b) = true) : nodupN a = true ∧ nodupN b = true ∧ ∀ i ∈ a, i ∉ b := by
  induction a with
  | nil => exact ⟨rfl, h, by simp⟩
  | cons x a ih =>
    simp only [List.cons_append, nodupN, Bool.and_eq_true, Bool.not_eq_true', List.contains_eq_mem, decide_eq_false_iff_not, List.mem_append, not_or] at h ⊢
    obtain ⟨h1, h2, h3⟩ := ih h.2
    refine ⟨⟨h.1.1, h1⟩, h2, fun i hi => ?_⟩
    rcases List.mem_cons.1 hi with rfl | hi
    · exact h.1.2
    · exact h3 i hi
theorem gOk_rel (hs : Sim X₀ n B w0 σ a w M) : ∀ {rs : List ResultVar} {xs : List RX} {as : List AV}, okRs P rs xs = true → gOk σ xs as → nodupN (gIds σ xs as) = true →
    ∃ vs, (rs.mapM (resOne a.tmps)).run P w = .ok vs w ∧ All3 (RepA w M.S) as vs ((gIdl σ xs as).map fun l g => ∃ i ∈ l, pblk (M.ρ i) g) ∧ ∀ l ∈ gIdl σ xs as, ∀ i ∈ l, ∃ r, (i, r) ∈ σ.rw := by
  intro rs
  induction rs with
  | nil =>
    intro xs as hk h _
    cases xs with
    | nil => cases as with
      | nil => exact ⟨[], rfl, .nil, by simp [gIdl]⟩
      | cons _ _ => exact h.elim
    | cons _ _ => simp [okRs] at hk
  | cons r rs ih =>
    intro xs as hk h hnd
    cases xs with
    | nil => cases r <;> simp [okRs] at hk
    | cons x xs =>
      cases as with
      | nil => exact h.elim
      | cons y as =>
        obtain ⟨h1, h2⟩ := h
        simp only [gIds] at hnd
        obtain ⟨n1, n2, _⟩ := nodupN_app hnd
        split at h1
        · rename_i vc p e1
          have hid : idsR σ x y = oneI y p := by unfold idsR; rw [e1]
          rw [hid] at n1
          obtain ⟨hk', v, r1, r2⟩ := resV_run hs hk e1 h1.1
          obtain ⟨vs, i1, i2, i3⟩ := ih hk' h2 n2
          have hone : RepA w M.S y v (fun g => ∃ i ∈ oneI y p, pblk (M.ρ i) g) ∧ ∀ i ∈ oneI y p, ∃ r, (i, r) ∈ σ.rw := by
            have h3 := h1.2
            cases y with
            | d x =>
              have : oneI (.d x) p = [] := by cases p <;> rfl
              rw [this]
              exact ⟨⟨toD_rel r2 h3, fun g ⟨i, hi, _⟩ => by simp at hi⟩, by simp⟩
            | ref _ => exact h3.elim
            | gone => exact h3.elim
            | own sz es =>
              simp only [oneOk] at h3
              split at h3
              · rename_i i
                have hin := get?_mem h3
                obtain ⟨k0, k1, k2⟩ := hs.mem.row _ _ _ hin
                have r3 : v = M.ρ i ∧ v.oneCell' = true := r2
                refine ⟨⟨k0, by rw [r3.1]; exact k1, fun g => by simp [oneI, r3.1]⟩, ?_⟩
                simp only [oneI, List.mem_singleton]
                rintro i' rfl
                exact ⟨_, hin⟩
              · obtain ⟨rfl, h0, rfl⟩ := h3
                obtain ⟨A, hA⟩ : ∃ A, v = .slice A 0 0 := r2
                have hpb : ∀ g, ¬ pblk v g := fun g => by rw [hA]; cases A <;> simp [pblk]
                exact ⟨⟨h0, .inr ⟨rfl, A, hA⟩, fun g => by simp [oneI, hpb]⟩, by simp [oneI]⟩
              · exact h3.elim
            | ag ps =>
              simp only [oneOk] at h3
              split at h3
              · rename_i qs
                obtain ⟨us, rfl, u2, u3⟩ : RelA w M qs v := r2
                obtain ⟨fs, f1, f2, f3, f4⟩ := ptOk_rel hs.mem (us := us.toList) h3 (by simpa using u2) (fun i q hi => by simpa using u3 i q hi) n1
                exact ⟨⟨us.toList, fs, by simp, f1, f2, fun g => (f3 g).symm⟩, f4⟩
              · exact h3.elim
          refine ⟨v :: vs, by simp only [List.mapM_cons, Sem.run_bind, r1, i1, Result.andThen_ok]; rfl, ?_, ?_⟩
          · simp only [gIdl, hid, List.map_cons]
            exact .cons hone.1 i2
          · simp only [gIdl, hid, List.mem_cons]
            rintro l (rfl | hl) i hi
            · exact hone.2 i hi
            · exact i3 l hl i hi
        · exact h1.elim
theorem gIdl_apart (mem : Mem X₀ B σ.bx σ.rw w M) {L : List (List Nat)} (hr : ∀ l ∈ L, ∀ i ∈ l, ∃ r, (i, r) ∈ σ.rw) (hnd : nodupN L.flatten = true) : Apart M.S (L.map fun l g => ∃ i ∈ l, pblk (M.ρ i) g) := by
  induction L with
  | nil => trivial
  | cons l L ih =>
    rw [List.flatten_cons] at hnd
    obtain ⟨_, n2, n3⟩ := nodupN_app hnd
    refine ⟨fun g ⟨i, hi, hg⟩ => ?_, fun g ⟨i, hi, hg⟩ q hq hqg => ?_, ih (fun l hl => hr l (by simp [hl])) n2⟩
    · obtain ⟨r, h⟩ := hr l (by simp) i hi
      exact mem.sr _ _ g h hg
    · simp only [List.mem_map] at hq
      obtain ⟨l', hl', rfl⟩ := hq
      obtain ⟨i', hi', hg'⟩ := hqg
      obtain ⟨r, h⟩ := hr l (by simp) i hi
      obtain ⟨r', h'⟩ := hr l' (by simp [hl']) i' hi'
      exact mem.rr _ _ _ _ g h h' (fun e => n3 i hi (by rw [List.mem_flatten]; exact ⟨l', hl', e ▸ hi'⟩)) hg hg'
theorem delL_mem {l : List Nat} : ∀ {r : List (Nat × Nat × List (List C))} {p : Nat × Nat × List (List C)}, p ∈ delL l r → p.1 ∉ l ∧ p ∈ r := by
  induction l with
  | nil => intro r p h; exact ⟨by simp, h⟩
  | cons i l ih =>
    intro r p h
    obtain ⟨h1, h2⟩ := ih (r := del i r) h
    obtain ⟨h3, h4⟩ := del_mem (x := p.2) h2
    exact ⟨by simp only [List.mem_cons, not_or]; exact ⟨h3, h1⟩, h4⟩
theorem fin_ret {sp : Spec} {args : List AV} {rs : List RX} {fn : Func} {S : Nat → Prop} {vs : List Value} {fps : List (Nat → Prop)} (hF : ∀ g, Any fps g → g < w.heap.size) (ha : Apart S fps) (hA : All3 (RepA w S) args vs fps)
    (hs : Sim (Any fps) n w.heap.size ⟨w, S, (Gh.init n vs S).β, (Gh.init n vs S).ρ⟩ σ a w' M) (hk : okRs P fn.results.toList rs = true) (hf : finX n sp args rs σ) :
    a.defers = [] ∧ ∃ v, (results fn a.tmps).run P w' = .ok v w' ∧ Left sp args w S vs fps (.returned v) w' := by
  refine ⟨hs.defs, ?_⟩
  unfold finX at hf
  split at hf
  · rename_i sz es hres
    split at hf
    · rename_i t
      have hrs := okRs_one hk
      have hrun : ∀ M', Sim (Any fps) n w.heap.size ⟨w, S, (Gh.init n vs S).β, (Gh.init n vs S).ρ⟩ σ a w' M' → (results fn a.tmps).run P w' = .ok (a.tmps.getD t undef) w' := fun M' _ => by
        have := results_run (P := P) (w := w') (a := a) (fn := fn) (vs := [a.tmps.getD t undef]) (by rw [hrs]; rfl)
        simpa using this
      split at hf
      · rename_i g i e1
        obtain ⟨hg, hrow, hout⟩ := hf
        have hp : ∀ M' σ', Sim (Any fps) n w.heap.size ⟨w, S, (Gh.init n vs S).β, (Gh.init n vs S).ρ⟩ σ' a w' M' → σ'.v (.t t) = (g, .q (.own i)) → a.tmps.getD t undef = M'.ρ i := fun M' σ' h e => by
          have := un_rel (look_rel h.tm t) (by rw [show (get (PV.q .no) t σ'.tm).un = σ'.v (.t t) from rfl, e]; exact hg)
          rw [show (get (PV.q .no) t σ'.tm).un = σ'.v (.t t) from rfl, e] at this
          exact this.1
        -- the row's own name stays: what else is told as data is another's
        have keep : ∀ (l : List Nat) (σ : St) (M : Gh), (∀ j ∈ l, j ≠ i) → Sim (Any fps) n w.heap.size ⟨w, S, (Gh.init n vs S).β, (Gh.init n vs S).ρ⟩ σ a w' M → get? i σ.rw = some (sz, es) → a.tmps.getD t undef = M.ρ i →
            ∃ M', Sim (Any fps) n w.heap.size ⟨w, S, (Gh.init n vs S).β, (Gh.init n vs S).ρ⟩ (l.foldl (fun σ i => σ.pub i) σ) a w' M' ∧ get? i (l.foldl (fun σ i => σ.pub i) σ).rw = some (sz, es) ∧ a.tmps.getD t undef = M'.ρ i := by
          intro l
          induction l with
          | nil => intro σ M _ h1 h2 h3; exact ⟨M, h1, h2, h3⟩
          | cons j l ih =>
            intro σ M hl h1 h2 h3
            obtain ⟨M1, k1, k2, _⟩ := h1.pub' j
            refine ih _ M1 (fun j' hj' => hl j' (by simp [hj'])) k1 ?_ (by rw [k2]; exact h3)
            show get? i (σ.pub j).rw = some (sz, es)
            unfold St.pub
            split
            · rw [show get? i (del j σ.rw) = get? i σ.rw from get?_del (hl j (by simp))]; exact h2
            · exact h2
        obtain ⟨M1, h1, h2, h3⟩ := keep ((refOwns σ n args).filter (fun j => j != i)) σ M (fun j hj => by simpa using (List.mem_filter.1 hj).2) hs hrow (hp M σ hs e1)
        have hin := get?_mem h2
        obtain ⟨k0, k1, k2⟩ := h1.mem.row _ _ _ hin
        have h1d : Sim (Any fps) n w.heap.size ⟨w, S, (Gh.init n vs S).β, (Gh.init n vs S).ρ⟩ (St.delO i (((refOwns σ n args).filter (fun j => j != i)).foldl (fun σ i => σ.pub i) σ)) a w' M1 := h1.sub (fun _ h => h) (fun _ h => h) (fun p hp => (del_mem (x := p.2) hp).2)
        refine ⟨_, hrun M hs, left_of (rfs := [pblk (M1.ρ i)]) hF ha hA h1d hout ?_ ?_ ?_ ?_ ?_⟩
        · rw [hres]; exact ⟨k0, by rw [h3]; exact k1, fun g => by rw [h3]⟩
        · exact ⟨fun g hg => h1.mem.sr _ _ g hin hg, fun _ _ q hq => by simp at hq, trivial⟩
        · rintro g ⟨p, hp, hg⟩
          rw [List.mem_singleton] at hp; subst hp
          exact ⟨k2 g hg, k1.lt hg⟩
        · rintro g ⟨p, hp, hg⟩ j q hq rfl
          rw [List.mem_singleton] at hp; subst hp
          exact h1.mem.br _ _ _ _ hq hin hg
        · rintro g ⟨p, hp, hg⟩ j r hj hg'
          rw [List.mem_singleton] at hp; subst hp
          exact h1.mem.rr _ _ _ _ g (del_mem hj).2 hin (del_mem hj).1 hg' hg
      · rename_i g sz' e1
        obtain ⟨hg, rfl, h0, rfl, hout⟩ := hf
        have hz := un_rel (look_rel hs.tm t) (by rw [show (get (PV.q .no) t σ.tm).un = σ.v (.t t) from rfl, e1]; exact hg)
        rw [show (get (PV.q .no) t σ.tm).un = σ.v (.t t) from rfl, e1] at hz
        obtain ⟨A, hz⟩ := hz
        obtain ⟨M1, h1⟩ := hs.pubL (refOwns σ n args)
        have hpb : ∀ g, ¬ pblk (a.tmps.getD t undef) g := fun g => by rw [hz]; cases A <;> simp [pblk]
        refine ⟨_, hrun M hs, left_of (rfs := [pblk (a.tmps.getD t undef)]) hF ha hA h1 hout ?_ ?_ ?_ ?_ ?_⟩
        · rw [hres]; exact ⟨h0, .inr ⟨rfl, A, hz⟩, fun g => Iff.rfl⟩
        · exact ⟨fun g hg => absurd hg (hpb g), fun g hg => absurd hg (hpb g), trivial⟩
        · rintro g ⟨p, hp, hg⟩
          rw [List.mem_singleton] at hp; subst hp
          exact absurd hg (hpb g)
        · rintro g ⟨p, hp, hg⟩
          rw [List.mem_singleton] at hp; subst hp
          exact absurd hg (hpb g)
        · rintro g ⟨p, hp, hg⟩
          rw [List.mem_singleton] at hp; subst hp
          exact absurd hg (hpb g)
      · exact hf.elim
    · exact hf.elim
  · rename_i cs hres
    split at hf
    · rename_i t
      have hrs := okRs_one hk
      have hrun : (results fn a.tmps).run P w' = .ok (a.tmps.getD t undef) w' := by
        have := results_run (P := P) (w := w') (a := a) (fn := fn) (vs := [a.tmps.getD t undef]) (by rw [hrs]; rfl)
        simpa using this
      split at hf
      · rename_i g i e1
        obtain ⟨hg, hrow, hout⟩ := hf
        have hp : a.tmps.getD t undef = .pointer (some ⟨M.β i, 0, none⟩) := by
          have := un_rel (look_rel hs.tm t) (by rw [show (get (PV.q .no) t σ.tm).un = σ.v (.t t) from rfl, e1]; exact hg)
          rw [show (get (PV.q .no) t σ.tm).un = σ.v (.t t) from rfl, e1] at this
          exact this
        rw [Option.bind_eq_some_iff] at hrow
        obtain ⟨qs, hq, hcs⟩ := hrow
        have hin := get?_mem hq
        obtain ⟨hB, ty, cells, h1, h2, h3⟩ := hs.mem.box i qs hin
        obtain ⟨h4, h5⟩ := allC_rel ⟨h2, h3⟩ hcs
        have hlt : M.β i < w'.heap.size := (Array.getElem?_eq_some_iff.1 h1).1
        have hs1 : Sim (Any fps) n w.heap.size ⟨w, S, (Gh.init n vs S).β, (Gh.init n vs S).ρ⟩ { σ with bx := del i σ.bx } a w' M :=
          ⟨hs.size, hs.defs, hs.tm, ⟨fun j q h => hs.mem.box j q (del_mem h).2, hs.mem.row, fun j q k q' h h' => hs.mem.bb j q k q' (del_mem h).2 (del_mem h').2, fun j q k r h => hs.mem.br j q k r (del_mem h).2, hs.mem.rr, hs.mem.lt, fun j q h => hs.mem.sb j q (del_mem h).2, hs.mem.sr, hs.mem.gl⟩, hs.fr, hs.hB, hs.sS, hs.sβ, hs.sρ⟩
        obtain ⟨M1, k1, k2, k3, k4, k5⟩ := hs1.pubL2 (refOwns { σ with bx := del i σ.bx } n args)
        have hnS : ¬ M1.S (M.β i) := fun h => by
          rcases k3 _ h with h | ⟨j, r, hj, hg⟩
          · exact hs.mem.sb i qs hin h
          · exact hs.mem.br _ _ _ _ hin hj hg
        refine ⟨_, hrun, left_of (rfs := [fun g => g = M.β i]) hF ha hA k1 hout ?_ ?_ ?_ ?_ ?_⟩
        · rw [hres]
          exact ⟨M.β i, hp, ⟨ty, cells, h1, h4, fun j c hc => by obtain ⟨u, g1, g2⟩ := h5 j c hc; exact ⟨u, g1, g2.mono k2 (fun _ _ => rfl)⟩⟩, fun g => Iff.rfl⟩
        · exact ⟨fun g hg => by rw [hg]; exact hnS, fun _ _ q hq => by simp at hq, trivial⟩
        · rintro g ⟨p, hp, hg⟩
          rw [List.mem_singleton] at hp; subst hp
          rw [hg]
          exact ⟨hB, hlt⟩
        · rintro g ⟨p, hp, hg⟩ j q hj e
          rw [List.mem_singleton] at hp; subst hp
          rw [hg] at e
          rw [k4] at e
          obtain ⟨q', hj'⟩ := pubL_bx hj
          obtain ⟨hne, hj'⟩ := del_mem hj'
          exact hs.mem.bb _ _ _ _ hin hj' (fun e => hne e.symm) e
        · rintro g ⟨p, hp, hg⟩ j r hj hg'
          rw [List.mem_singleton] at hp; subst hp
          rw [k5, hg] at hg'
          exact hs.mem.br _ _ _ _ hin (pubL_rw (σ := { σ with bx := del i σ.bx }) hj) hg'
      · exact hf.elim
    · exact hf.elim
  · split at hf
    rotate_left
    · obtain ⟨M1, h1⟩ := hs.pubL (notIn (gIds σ rs (sp.res args)) (resOwns σ rs ++ refOwns σ n args))
      obtain ⟨f1, f2, f3⟩ := hf
      obtain ⟨us, k1, k2, k3⟩ := gOk_rel h1 hk f2 f1
      refine ⟨_, results_run k1, left_of (rfs := (gIdl _ rs (sp.res args)).map fun l g => ∃ i ∈ l, pblk (M1.ρ i) g) hF ha hA (h1.sub (σ' := { (((notIn (gIds σ rs (sp.res args)) (resOwns σ rs ++ refOwns σ n args)).foldl (fun σ i => σ.pub i) σ)) with rw := delL _ _ }) (fun _ h => h) (fun _ h => h) (fun p hp => (delL_mem hp).2)) f3 ?_ (gIdl_apart h1.mem k3 (by rw [gIdl_flat]; exact f1)) (fun g hg => ?_) (fun g hg i q hi e => ?_) (fun g hg i r hi hgi => ?_)⟩
      · exact tuple_repR k2 (by rw [List.length_map]; exact gOk_len f2)
      · obtain ⟨p, hp, hg⟩ := hg
        simp only [List.mem_map] at hp
        obtain ⟨l, hl, rfl⟩ := hp
        obtain ⟨i, hi, hg⟩ := hg
        obtain ⟨⟨sz, es⟩, hr⟩ := k3 l hl i hi
        obtain ⟨_, g1, g2⟩ := h1.mem.row _ _ _ hr
        exact ⟨g2 g hg, g1.lt hg⟩
      · obtain ⟨p, hp, hg⟩ := hg
        simp only [List.mem_map] at hp
        obtain ⟨l, hl, rfl⟩ := hp
        obtain ⟨i', hi', hg⟩ := hg
        obtain ⟨⟨sz, es⟩, hr⟩ := k3 l hl i' hi'
        subst e
        exact h1.mem.br _ _ _ _ hi hr hg
      · obtain ⟨p, hp, hg⟩ := hg
        simp only [List.mem_map] at hp
        obtain ⟨l, hl, rfl⟩ := hp
        obtain ⟨i', hi', hg⟩ := hg
        obtain ⟨⟨sz, es⟩, hr⟩ := k3 l hl i' hi'
        obtain ⟨d1, d2⟩ := delL_mem hi
        exact h1.mem.rr _ _ _ _ g hr d2 (fun e => d1 (by rw [← gIdl_flat, List.mem_flatten]; exact ⟨l, hl, e ▸ hi'⟩)) hg hgi
    rename_i hallD
    split at hf
    · rename_i vc ds' e1
      obtain ⟨hvc, hds, hout⟩ := hf
      obtain ⟨M1, h1⟩ := hs.pubL (resOwns σ rs ++ refOwns σ n args)
      obtain ⟨us, k1, k2⟩ := resD_run h1 hk e1 hvc
      refine ⟨_, results_run k1, left_of (rfs := ds'.map fun _ => fun _ => False) hF ha hA h1 hout ?_ Apart_false (fun g hg => absurd hg Any_false) (fun g hg => absurd hg Any_false) (fun g hg => absurd hg Any_false)⟩
      rw [hds]
      exact tuple_repR k2 (by simp)
    · exact hf.elim

/-- A specification that gives just that. -/
def Spec.at (r o : List AV) : Spec := { md := [], pre := fun _ => True, res := fun _ => r, out := fun _ => o }
/-- THE RULE: what is shown of a function's small code holds of the function. -/
theorem sound_of_pw (G : GOK P Γ) {f : FuncId} {fn : Func} {c : Code} {x : X} {rs : List RX} {sp : Spec} (hf : P.funcs[f]? = some fn) (hb : fn.body = some c) (hc : chkX P fn.ntmps c x = true) (hk : okRs P fn.results.toList rs = true)
    (hl : ∀ args, sp.pre args → args.length ≤ fn.ntmps) (h : ∀ args, sp.pre args → pw Γ x (fun e σ => match e with | .exit _ => False | _ => ∃ r o, sp.may args r o ∧ finX fn.ntmps (Spec.at r o) args rs σ) (initX 0 fn.ntmps args)) : Sound P f sp := by
  intro args hpre w S vs fps hG hS hF ha hA
  refine calls_of_wp hf hb (wp_mono (pw_wp G x hc (h args hpre) (init_sim hG hS ha hA (hl args hpre))) ?_)
  have key : ∀ {σ M a' w'}, (∃ r o, sp.may args r o ∧ finX fn.ntmps (Spec.at r o) args rs σ) → Sim (Any fps) fn.ntmps w.heap.size ⟨w, S, (Gh.init fn.ntmps vs S).β, (Gh.init fn.ntmps vs S).ρ⟩ σ a' w' M →
      a'.defers = [] ∧ ∃ v, (results fn a'.tmps).run P w' = .ok v w' ∧ ∃ r o, sp.may args r o ∧ ∃ v' S' rfs fps', Ending.returned v = .returned v' ∧ RepR w' S' r v' rfs ∧ All3 (RepA w' S') o vs fps' ∧
        (∀ g, S' g → S g ∨ w.heap.size ≤ g ∨ Any fps g) ∧ (∀ g, S' g → g < w'.heap.size) ∧
        Apart S' (rfs ++ fps') ∧ (∀ g, Any (rfs ++ fps') g → (w.heap.size ≤ g ∨ Any fps g) ∧ g < w'.heap.size) ∧ Fr (Any fps) w.heap.size w w' := by
    rintro σ M a' w' ⟨r, o, hro, hfin⟩ hs
    obtain ⟨h1, v, h2, h3⟩ := fin_ret hF ha hA hs hk hfin
    exact ⟨h1, v, h2, r, o, hro, h3⟩
  intro e a' w' hq
  cases e with
  | normal => obtain ⟨σ, M, hfin, hs⟩ := hq; exact key hfin hs
  | ret => obtain ⟨σ, M, hfin, hs⟩ := hq; exact key hfin hs
  | exit i => obtain ⟨σ, M, hfin, _⟩ := hq; exact hfin.elim
  | goto l => exact hq.elim
  | panic ch => exact hq.elim
  | outgrown => exact hq.elim
end
end Go.Proofs.Pw
/- Tools for those who use the rule: loops, specifications over families, recursion. -/
namespace Go.Proofs.Pw
open Go.RowKit
set_option linter.unusedSectionVars false
variable [Globs]

theorem Le.refl (σ : St) : Le σ σ := fun _ _ _ _ _ _ M h => ⟨M, h⟩
theorem Le.trans {a b c : St} (h : Le a b) (k : Le b c) : Le a c := fun X n B w0 ac w M hs => by
  obtain ⟨M1, h1⟩ := h X n B w0 ac w M hs
  exact k X n B w0 ac w M1 h1
theorem Le.pub (i : Nat) (σ : St) : Le σ (σ.pub i) := fun _ _ _ _ _ _ _ h => h.pub i
theorem Le.of_eq {a b : St} (h : a = b) : Le a b := h ▸ Le.refl a
/-- A slice without capacity is a private row. -/
theorem Le.own {tm : List (Nat × PV)} {bx : List (Nat × List Q)} {rw_ : List (Nat × Nat × List (List C))} {tm' : List (Nat × PV)} {t d sz : Nat} (h0 : 0 < sz) (ht : (t, PV.q (.z sz)) ∈ tm)
    (hb : ∀ p ∈ bx, ∀ q ∈ p.2, q.killO d = q) (ht' : ∀ p ∈ tm', p = (t, PV.q (.own d)) ∨ ∃ p' ∈ tm, p = (p'.1, p'.2.map (Q.killO d))) (hdB : d < BASE := by decide) :
    Le ⟨tm, bx, rw_⟩ ⟨tm', bx, upd d (sz, []) rw_⟩ := fun X n B w0 ac w M hs => by
  obtain ⟨A, hz⟩ : ∃ A, ac.tmps.getD t undef = .slice A 0 0 := hs.tm _ _ ht
  have hpb : ∀ g, ¬ pblk (ac.tmps.getD t undef) g := fun g => by rw [hz]; cases A <;> simp [pblk]
  have hm := Mem.getRow (σ := ⟨tm, bx, rw_⟩) (d := d) (es := []) (v' := ac.tmps.getD t undef) hs.mem h0 (.inr ⟨rfl, A, hz⟩) (fun g hg => absurd hg (hpb g)) (fun g hg => absurd hg (hpb g)) (fun _ _ _ hg => absurd hg (hpb _)) (fun _ _ g _ _ hg => absurd hg (hpb g))
  have hbx : (St.map (Q.killO d) ⟨tm, bx, rw_⟩).bx = bx := by
    simp only [St.map]
    conv => rhs; rw [← List.map_id bx]
    refine List.map_congr_left (fun p hp => ?_)
    obtain ⟨i, qs⟩ := p
    simp only [id, Prod.mk.injEq, true_and]
    conv => rhs; rw [← List.map_id qs]
    exact List.map_congr_left (fun q hq => hb _ hp q hq)
  rw [hbx] at hm
  refine ⟨M.nr d (ac.tmps.getD t undef), hs.size, hs.defs, fun t' p hp => ?_, hm, hs.fr, hs.hB, hs.sS, hs.sβ, fun i hi hb => ?_⟩
  rotate_left
  · simp only [Gh.nr]; rw [if_neg (by omega)]; exact hs.sρ i hi hb
  rcases ht' _ hp with he | ⟨⟨t2, p2⟩, hp2, he⟩
  · simp only [Prod.mk.injEq] at he
    obtain ⟨rfl, rfl⟩ := he
    exact ⟨by simp [Gh.nr], by rw [hz]; rfl⟩
  · simp only [Prod.mk.injEq] at he
    obtain ⟨rfl, rfl⟩ := he
    exact map_v (nr_q (d := d) (Up.refl hs.mem.lt) hs.mem.lt) (hs.tm _ _ hp2)

/-- A value that tells no more. -/
def PLe (p q : PV) : Prop := ∀ w M v, RelV w M p v → RelV w M q v
theorem PLe.refl (p : PV) : PLe p p := fun _ _ _ h => h
theorem PLe.z (sz : Nat) : PLe (.q (.z sz)) (.q (.c (.row sz []))) := fun _ _ _ h => by
  obtain ⟨A, rfl⟩ := h; exact .nil sz A 0
theorem PLe.full (sz : Nat) (es : List (List C)) : PLe (.q (.full sz es)) (.q (.c (.row sz es))) := fun _ _ _ h => h.1
theorem PLe.no (p : PV) : PLe p (.q .no) := fun _ _ _ _ => trivial
theorem Le.tm {tm tm' : List (Nat × PV)} {bx : List (Nat × List Q)} {rw_ : List (Nat × Nat × List (List C))} (h : ∀ p ∈ tm', ∃ q, (p.1, q) ∈ tm ∧ PLe q p.2) : Le ⟨tm, bx, rw_⟩ ⟨tm', bx, rw_⟩ := fun X n B w0 ac w M hs => by
  refine ⟨M, hs.size, hs.defs, fun t p hp => ?_, hs.mem, hs.fr, hs.hB, hs.sS, hs.sβ, hs.sρ⟩
  obtain ⟨q, hq, hle⟩ := h _ hp
  exact hle w M _ (hs.tm _ _ hq)

/-- A loop over a family of states. -/
theorem loop_fam {F : (Ex → St → Prop) → St → Prop} {Q : Ex → St → Prop} {σ : St} {ι : Type} (μ : ι → Nat) (Pr : ι → Prop) (S : ι → St) (i0 : ι) (hp : Pr i0) (hle : Le σ (S i0))
    (h : ∀ i, Pr i → F (fun e σ' => match e with | .normal => ∃ j, Pr j ∧ μ j < μ i ∧ Le σ' (S j) | .exit k => Q (.exit k) σ' | .ret => Q .ret σ') (S i))
    (mono : ∀ (A B : Ex → St → Prop), (∀ e σ, A e σ → B e σ) → ∀ σ, F A σ → F B σ) : pwL F Q σ := by
  refine ⟨fun n σ => ∃ i, μ i = n ∧ Pr i ∧ σ = S i, ⟨μ i0, S i0, hle, i0, rfl, hp, rfl⟩, ?_⟩
  rintro n σ ⟨i, rfl, hpi, rfl⟩
  refine mono _ _ ?_ _ (h i hpi)
  intro e σ' hq
  cases e with
  | normal => obtain ⟨j, h1, h2, h3⟩ := hq; exact ⟨μ j, S j, h2, h3, j, rfl, h1, rfl⟩
  | exit k => exact hq
  | ret => exact hq

theorem orF_mono {α : Type} {x : Option α} {F F' : α → Prop} (hK : ∀ a, F a → F' a) (h : orF x F) : orF x F' := by
  unfold orF at *
  split at h
  · exact hK _ h
  · exact h.elim
theorem callR_mono {Γ : FuncId → Option Spec} {K K' : St → Prop} (hK : ∀ σ, K σ → K' σ) {σ : St} {d : Option Nat} {f : FuncId} {ys : List XO} (h : callR Γ σ d f ys K) : callR Γ σ d f ys K' := by
  unfold callR at h ⊢
  split
  · rename_i sp hsp
    rw [hsp] at h
    simp only at h
    split at h
    · rename_i vc ds ha
      exact ⟨h.1, h.2.1, h.2.2.1, fun r o hro => orF_mono (fun σ1 h => orF_mono hK h) (h.2.2.2 r o hro)⟩
    · exact h.elim
  · rename_i hsp
    rw [hsp] at h
    exact h.elim
theorem runH_mono {Γ : FuncId → Option Spec} {prs : List (List Nat)} {K K' : St → Prop} (hK : ∀ σ, K σ → K' σ) {i : Nat} {p : Past} {xs : List XOp} {σ : St} (h : runH Γ prs i p xs σ K) : runH Γ prs i p xs σ K' := by
  rw [runH_eq] at h ⊢
  exact runM_mono hK h
theorem stepR_mono {Γ : FuncId → Option Spec} {K K' : St → Prop} (hK : ∀ σ, K σ → K' σ) {n : Nat} {σ : St} {x : XOp} (h : stepR Γ n σ x K) : stepR Γ n σ x K' := by
  unfold stepR at h ⊢
  split
  · rename_i f ys hx
    rw [hx] at h
    simp only at h
    split at h
    · unfold callR at h ⊢
      split
      · rename_i sp hsp
        rw [hsp] at h
        simp only at h
        split at h
        · rename_i vc ds ha
          exact ⟨h.1, h.2.1, h.2.2.1, fun r o hro => orF_mono (fun σ1 h => orF_mono hK h) (h.2.2.2 r o hro)⟩
        · exact h.elim
      · rename_i hsp
        rw [hsp] at h
        exact h.elim
    · split at h
      · exact ⟨fun hb => callR_mono hK (h.1 hb), fun hb => hK _ (h.2 hb)⟩
      · exact h.elim
    · exact h.elim
  · rename_i y hx
    rw [hx] at h
    simp only at h
    split at h
    · unfold capR at h ⊢
      split
      · rename_i g r d e1 e2
        rw [e1, e2] at h
        simp only at h
        split at h
        · exact ⟨h.1, h.2.1, fun c h1 h2 => hK _ (h.2.2 c h1 h2)⟩
        · exact h.elim
      · rename_i hno
        split at h
        · rename_i g r d e1 e2
          exact absurd e2 (hno g r d e1)
        · exact h.elim
    · exact h.elim
  · rename_i hx hx2
    split at h
    · rename_i f ys hx'; exact absurd hx' (hx f ys)
    · rename_i y hx'; exact absurd hx' (hx2 y)
    · split at h
      · exact ⟨h.1, fun hv => hK _ (h.2 hv)⟩
      · exact h.elim
theorem runX_mono {Γ : FuncId → Option Spec} {K K' : St → Prop} (hK : ∀ σ, K σ → K' σ) : ∀ {xs : List XOp} {n : Nat} {σ : St}, runX Γ n xs σ K → runX Γ n xs σ K' := by
  intro xs
  induction xs with
  | nil => intro n σ h; exact hK σ h
  | cons x xs ih => intro n σ h; exact stepR_mono (fun σ' h => ih h) h
theorem pw_mono {Γ : FuncId → Option Spec} : ∀ (x : X) (A B : Ex → St → Prop), (∀ e σ, A e σ → B e σ) → ∀ σ, pw Γ x A σ → pw Γ x B σ := by
  intro x
  induction x with
  | bad => intro A B h σ hp; exact hp
  | skip => intro A B h σ hp; exact h _ _ hp
  | ret => intro A B h σ hp; exact h _ _ hp
  | exit id => intro A B h σ hp; exact h _ _ hp
  | seq a b iha ihb =>
    intro A B h σ hp
    refine iha _ _ ?_ σ hp
    intro e σ' hq
    cases e with
    | normal => exact ihb _ _ h σ' hq
    | exit k => exact h _ _ hq
    | ret => exact h _ _ hq
  | cond c a b iha ihb =>
    intro A B h σ hp
    simp only [pw] at hp ⊢
    split at hp
    · exact ⟨hp.1, fun ht => iha _ _ h σ (hp.2.1 ht), fun hf => ihb _ _ h σ (hp.2.2 hf)⟩
    · exact ⟨hp.1, fun ht => iha _ _ h σ (hp.2.1 ht), ihb _ _ h σ hp.2.2⟩
    · exact hp.elim
  | block id b ih =>
    intro A B h σ hp
    refine ih _ _ ?_ σ hp
    intro e σ' hq
    cases e with
    | normal => exact h _ _ hq
    | exit k =>
      simp only [blkQ] at hq ⊢
      split
      · rename_i hi; rw [if_pos hi] at hq; exact h _ _ hq
      · rename_i hi; rw [if_neg hi] at hq; exact h _ _ hq
    | ret => exact h _ _ hq
  | loop b ih =>
    intro A B h σ hp
    obtain ⟨I, h0, h1⟩ := hp
    refine ⟨I, h0, fun n σ hI => ih _ _ ?_ σ (h1 n σ hI)⟩
    intro e σ' hq
    cases e with
    | normal => exact hq
    | exit k => exact h _ _ hq
    | ret => exact h _ _ hq
  | reg ops dr live =>
    intro A B h σ hp
    exact runX_mono (fun σ' => h _ _) hp
  | mix hd tl prs live =>
    intro A B h σ hp
    exact runH_mono (fun σ' h' => runX_mono (fun σ'' => h _ _) h') hp
  | gh x ih =>
    intro A B h σ hp
    obtain ⟨T, hT, hx⟩ := hp
    exact ⟨T, hT, fun σ' hσ => ih _ _ h σ' (hx σ' hσ)⟩
def loopQ {ι : Type} (μ : ι → Nat) (Pr : ι → Prop) (S : ι → St) (i : ι) (Q : Ex → St → Prop) : Ex → St → Prop
  | .normal, σ => ∃ j, Pr j ∧ μ j < μ i ∧ Le σ (S j)
  | e, σ => Q e σ
def condQ (Γ : FuncId → Option Spec) (v : Bool × PV) (a b : X) (Q : Ex → St → Prop) (σ : St) : Prop := match v with
  | (g, .q (.c (.bool t))) => g = true ∧ (t = true → pw Γ a Q σ) ∧ (t = false → pw Γ b Q σ)
  | (g, .q (.nt t)) => g = true ∧ (t = true → pw Γ a Q σ) ∧ pw Γ b Q σ
  | _ => False
/-- How a function's run must end. -/
def endQ (F : St → Prop) : Ex → St → Prop
  | .exit _, _ => False
  | _, σ => F σ
theorem pw_loop {Γ : FuncId → Option Spec} {x : X} {Q : Ex → St → Prop} {σ : St} {ι : Type} (μ : ι → Nat) (Pr : ι → Prop) (S : ι → St) (i0 : ι) (hp : Pr i0) (hle : Le σ (S i0))
    (h : ∀ i, Pr i → pw Γ x (loopQ μ Pr S i Q) (S i)) : pw Γ (.loop x) Q σ :=
  loop_fam μ Pr S i0 hp hle (fun i hi => pw_mono x _ _ (fun e σ' hq => by cases e <;> exact hq) _ (h i hi)) (pw_mono x)

/-! ### How the small code is read, a step at a time -/
section
variable {Γ : FuncId → Option Spec} {Q : Ex → St → Prop} {σ : St}
theorem pw_skip : pw Γ .skip Q σ = Q .normal σ := rfl
theorem pw_ret : pw Γ .ret Q σ = Q .ret σ := rfl
theorem pw_exit (i : Nat) : pw Γ (.exit i) Q σ = Q (.exit i) σ := rfl
theorem pw_seq (a b : X) : pw Γ (.seq a b) Q σ = pw Γ a (thenQ (pw Γ b Q) Q) σ := rfl
theorem pw_cond (c : XO) (a b : X) : pw Γ (.cond c a b) Q σ = condQ Γ (σ.v c) a b Q σ := rfl
theorem condQ_t (g : Bool) (a b : X) : condQ Γ (g, .q (.c (.bool true))) a b Q σ = (g = true ∧ pw Γ a Q σ) := by simp [condQ]
theorem condQ_f (g : Bool) (a b : X) : condQ Γ (g, .q (.c (.bool false))) a b Q σ = (g = true ∧ pw Γ b Q σ) := by simp [condQ]
theorem condQ_d (g : Bool) (p : Prop) [Decidable p] (a b : X) : condQ Γ (g, .q (.c (.bool (decide p)))) a b Q σ = (g = true ∧ (p → pw Γ a Q σ) ∧ (¬ p → pw Γ b Q σ)) := by simp [condQ]
theorem condQ_n (t : Bool) (g : Bool) (a b : X) : condQ Γ (g, .q (.nt t)) a b Q σ = (g = true ∧ (t = true → pw Γ a Q σ) ∧ pw Γ b Q σ) := rfl
theorem not_dec (p : Prop) [Decidable p] : (!decide p) = decide (¬ p) := by simp
theorem pw_block (i : Nat) (b : X) : pw Γ (.block i b) Q σ = pw Γ b (blkQ i Q) σ := rfl
theorem pw_reg (ops : List XOp) (dr : Option Nat) (live : List Nat) : pw Γ (.reg ops dr live) Q σ = runX Γ (dr.getD 0) ops σ (fun σ' => Q .normal (σ'.keep live)) := rfl
theorem pw_mix (hd tl : List XOp) (prs : List (List Nat)) (live : List Nat) : pw Γ (.mix hd tl prs live) Q σ = runH Γ prs 0 (fun _ => none) hd σ (fun σ' => runX Γ 0 tl σ' (fun σ'' => Q .normal (σ''.keep live))) := rfl
theorem gh_le {x : X} {σ' : St} (h : Le σ σ') (hp : pw Γ x Q σ') : pw Γ (.gh x) Q σ :=
  ⟨fun τ => τ = σ', fun X n B w0 a w M hs => by obtain ⟨M', h'⟩ := h X n B w0 a w M hs; exact ⟨σ', M', rfl, h'⟩, fun τ hτ => hτ ▸ hp⟩
theorem gh_skip {x : X} (hp : pw Γ x Q σ) : pw Γ (.gh x) Q σ := gh_le (Le.refl σ) hp
theorem thenQ_n (N : St → Prop) : thenQ N Q .normal σ = N σ := rfl
theorem thenQ_r (N : St → Prop) : thenQ N Q .ret σ = Q .ret σ := rfl
theorem thenQ_e (N : St → Prop) (i : Nat) : thenQ N Q (.exit i) σ = Q (.exit i) σ := rfl
theorem blkQ_n (i : Nat) : blkQ i Q .normal σ = Q .normal σ := rfl
theorem blkQ_r (i : Nat) : blkQ i Q .ret σ = Q .ret σ := rfl
theorem blkQ_e (i j : Nat) : blkQ i Q (.exit j) σ = if j = i then Q .normal σ else Q (.exit j) σ := rfl
theorem loopQ_n {ι : Type} (μ : ι → Nat) (Pr : ι → Prop) (S : ι → St) (i : ι) : loopQ μ Pr S i Q .normal σ = ∃ j, Pr j ∧ μ j < μ i ∧ Le σ (S j) := rfl
theorem loopQ_r {ι : Type} (μ : ι → Nat) (Pr : ι → Prop) (S : ι → St) (i : ι) : loopQ μ Pr S i Q .ret σ = Q .ret σ := rfl
theorem loopQ_e {ι : Type} (μ : ι → Nat) (Pr : ι → Prop) (S : ι → St) (i : ι) (k : Nat) : loopQ μ Pr S i Q (.exit k) σ = Q (.exit k) σ := rfl
end

/-! ### Specifications over a family of arguments -/
open Classical in
noncomputable def Spec.of {ι : Type} (md : List Bool) (args : ι → List AV) (pre : ι → Prop) (res out : ι → List AV) : Spec :=
  { md := md, pre := fun ds => ∃ i, args i = ds ∧ pre i, res := fun ds => if h : ∃ i, args i = ds then res (Classical.choose h) else [], out := fun ds => if h : ∃ i, args i = ds then out (Classical.choose h) else [] }
theorem Spec.of_res {ι : Type} {md : List Bool} {args : ι → List AV} {pre : ι → Prop} {res out : ι → List AV} (hinj : ∀ i j, args i = args j → i = j) (i : ι) : (Spec.of md args pre res out).res (args i) = res i := by
  have h : ∃ j, args j = args i := ⟨i, rfl⟩
  simp only [Spec.of, dif_pos h]
  rw [hinj _ _ (Classical.choose_spec h)]
theorem Spec.of_out {ι : Type} {md : List Bool} {args : ι → List AV} {pre : ι → Prop} {res out : ι → List AV} (hinj : ∀ i j, args i = args j → i = j) (i : ι) : (Spec.of md args pre res out).out (args i) = out i := by
  have h : ∃ j, args j = args i := ⟨i, rfl⟩
  simp only [Spec.of, dif_pos h]
  rw [hinj _ _ (Classical.choose_spec h)]
theorem Spec.of_pre' {ι : Type} {md : List Bool} {args : ι → List AV} {pre : ι → Prop} {res out : ι → List AV} (hinj : ∀ i j, args i = args j → i = j) (i : ι) : (Spec.of md args pre res out).pre (args i) = pre i := by
  refine propext ⟨?_, fun h => ⟨i, rfl, h⟩⟩
  rintro ⟨j, h, hp⟩
  rw [hinj _ _ h] at hp
  exact hp
/-- All smaller calls, then all. -/
theorem Sound.all {P : Program} {f : FuncId} {ι : Type} {md : List Bool} {args : ι → List AV} {pre : ι → Prop} {res out : ι → List AV} (μ : ι → Nat) (h : ∀ k, Sound P f (Spec.of md args (fun i => pre i ∧ μ i < k) res out)) : Sound P f (Spec.of md args pre res out) := by
  rintro _ ⟨i, rfl, hi⟩
  exact h (μ i + 1) (args i) ⟨i, rfl, hi, Nat.lt_succ_self _⟩
theorem Sound.none {P : Program} {f : FuncId} {ι : Type} {md : List Bool} {args : ι → List AV} {pre : ι → Prop} {res out : ι → List AV} {μ : ι → Nat} : Sound P f (Spec.of md args (fun i => pre i ∧ μ i < 0) res out) := by
  rintro _ ⟨i, rfl, hi⟩
  exact absurd hi.2 (Nat.not_lt_zero _)
/-- The rule, over a family. -/
theorem sound_fam {P : Program} {Γ : FuncId → Option Spec} (G : GOK P Γ) {f : FuncId} {fn : Func} {c : Code} {x : X} {rs : List RX} {ι : Type} {md : List Bool} {args : ι → List AV} {pre : ι → Prop} {res out : ι → List AV} (hf : P.funcs[f]? = some fn) (hb : fn.body = some c) {n : Nat} (hn : fn.ntmps = n)
    (hc : chkX P n c x = true) (hk : okRs P fn.results.toList rs = true) (hl : ∀ i, (args i).length ≤ n) (hinj : ∀ i j, args i = args j → i = j)
    (h : ∀ i, pre i → pw Γ x (endQ (finX n (Spec.at (res i) (out i)) (args i) rs)) (initX 0 n (args i))) : Sound P f (Spec.of md args pre res out) := by
  subst hn
  refine sound_of_pw G hf hb hc hk ?_ ?_
  · rintro _ ⟨i, rfl, _⟩; exact hl i
  · rintro _ ⟨i, rfl, hi⟩
    refine pw_mono x _ _ ?_ _ (h i hi)
    intro e σ hq
    have key : finX fn.ntmps (Spec.at (res i) (out i)) (args i) rs σ → ∃ r o, (Spec.of md args pre res out).may (args i) r o ∧ finX fn.ntmps (Spec.at r o) (args i) rs σ := fun hfin =>
      ⟨res i, out i, (Spec.may_none rfl).2 ⟨(Spec.of_res hinj i).symm, (Spec.of_out hinj i).symm⟩, hfin⟩
    cases e with
    | normal => exact key hq
    | exit k => exact hq
    | ret => exact key hq
/-! ### Specifications that leave open which of several is handed back -/
def Spec.ofR {ι κ : Type} (md : List Bool) (args : ι → List AV) (pre : ι → Prop) (rel : ι → κ → Prop) (res out : ι → κ → List AV) : Spec :=
  { md := md, pre := fun ds => ∃ i, args i = ds ∧ pre i, res := fun _ => [], out := fun _ => [], alts := some fun ds r o => ∃ i k, args i = ds ∧ rel i k ∧ r = res i k ∧ o = out i k }
theorem Spec.ofR_pre {ι κ : Type} {md : List Bool} {args : ι → List AV} {pre : ι → Prop} {rel : ι → κ → Prop} {res out : ι → κ → List AV} (hinj : ∀ i j, args i = args j → i = j) (i : ι) : (Spec.ofR md args pre rel res out).pre (args i) = pre i := by
  refine propext ⟨?_, fun h => ⟨i, rfl, h⟩⟩
  rintro ⟨j, h, hp⟩
  rw [hinj _ _ h] at hp
  exact hp
theorem Spec.ofR_all {ι κ : Type} {md : List Bool} {args : ι → List AV} {pre : ι → Prop} {rel : ι → κ → Prop} {res out : ι → κ → List AV} (hinj : ∀ i j, args i = args j → i = j) (i : ι) (F : List AV → List AV → Prop) :
    (Spec.ofR md args pre rel res out).all (args i) F = ∀ k, rel i k → F (res i k) (out i k) := by
  refine propext ⟨fun h k hk => h _ _ ⟨i, k, rfl, hk, rfl, rfl⟩, ?_⟩
  rintro h r o ⟨j, k, hj, hk, rfl, rfl⟩
  rw [hinj _ _ hj] at *
  exact h k hk
theorem Spec.ofR_ne {ι κ : Type} {md : List Bool} {args : ι → List AV} {pre : ι → Prop} {rel : ι → κ → Prop} {res out : ι → κ → List AV} (hinj : ∀ i j, args i = args j → i = j) (i : ι) :
    (Spec.ofR md args pre rel res out).ne (args i) = ∃ k, rel i k := by
  refine propext ⟨?_, fun ⟨k, hk⟩ => ⟨_, _, i, k, rfl, hk, rfl, rfl⟩⟩
  rintro ⟨r, o, j, k, hj, hk, rfl, rfl⟩
  rw [hinj _ _ hj] at hk
  exact ⟨k, hk⟩
theorem Spec.all_fn {sp : Spec} (h : sp.alts = none) (ds : List AV) (F : List AV → List AV → Prop) : sp.all ds F = F (sp.res ds) (sp.out ds) := by
  refine propext ⟨fun h' => h' _ _ ((Spec.may_none h).2 ⟨rfl, rfl⟩), fun h' r o hro => ?_⟩
  obtain ⟨rfl, rfl⟩ := (Spec.may_none h).1 hro
  exact h'
theorem Spec.ne_fn {sp : Spec} (h : sp.alts = none) (ds : List AV) : sp.ne ds = True := eq_true ⟨_, _, (Spec.may_none h).2 ⟨rfl, rfl⟩⟩
theorem Sound.allR {P : Program} {f : FuncId} {ι κ : Type} {md : List Bool} {args : ι → List AV} {pre : ι → Prop} {rel : ι → κ → Prop} {res out : ι → κ → List AV} (μ : ι → Nat) (h : ∀ k, Sound P f (Spec.ofR md args (fun i => pre i ∧ μ i < k) rel res out)) : Sound P f (Spec.ofR md args pre rel res out) := by
  rintro _ ⟨i, rfl, hi⟩
  exact h (μ i + 1) (args i) ⟨i, rfl, hi, Nat.lt_succ_self _⟩
theorem Sound.noneR {P : Program} {f : FuncId} {ι κ : Type} {md : List Bool} {args : ι → List AV} {pre : ι → Prop} {rel : ι → κ → Prop} {res out : ι → κ → List AV} {μ : ι → Nat} : Sound P f (Spec.ofR md args (fun i => pre i ∧ μ i < 0) rel res out) := by
  rintro _ ⟨i, rfl, hi⟩
  exact absurd hi.2 (Nat.not_lt_zero _)
theorem sound_famR {P : Program} {Γ : FuncId → Option Spec} (G : GOK P Γ) {f : FuncId} {fn : Func} {c : Code} {x : X} {rs : List RX} {ι κ : Type} {md : List Bool} {args : ι → List AV} {pre : ι → Prop} {rel : ι → κ → Prop} {res out : ι → κ → List AV} (hf : P.funcs[f]? = some fn) (hb : fn.body = some c) {n : Nat} (hn : fn.ntmps = n)
    (hc : chkX P n c x = true) (hk : okRs P fn.results.toList rs = true) (hl : ∀ i, (args i).length ≤ n)
    (h : ∀ i, pre i → pw Γ x (endQ (fun σ => ∃ k, rel i k ∧ finX n (Spec.at (res i k) (out i k)) (args i) rs σ)) (initX 0 n (args i))) : Sound P f (Spec.ofR md args pre rel res out) := by
  subst hn
  refine sound_of_pw G hf hb hc hk ?_ ?_
  · rintro _ ⟨i, rfl, _⟩; exact hl i
  · rintro _ ⟨i, rfl, hi⟩
    refine pw_mono x _ _ ?_ _ (h i hi)
    intro e σ hq
    have key : (∃ k, rel i k ∧ finX fn.ntmps (Spec.at (res i k) (out i k)) (args i) rs σ) → ∃ r o, (Spec.ofR md args pre rel res out).may (args i) r o ∧ finX fn.ntmps (Spec.at r o) (args i) rs σ := fun ⟨k, hk, hfin⟩ =>
      ⟨_, _, ⟨i, k, rfl, hk, rfl, rfl⟩, hfin⟩
    cases e with
    | normal => exact key hq
    | exit k => exact hq
    | ret => exact key hq

theorem Apart.rightA {S : Nat → Prop} {ps qs : List (Nat → Prop)} (h : Apart S (ps ++ qs)) : Apart S qs := by
  induction ps with
  | nil => exact h
  | cons p ps ih => exact ih h.2.2
theorem Apart.falses {S : Nat → Prop} {α : Type} (r : List α) {qs : List (Nat → Prop)} (h : Apart S qs) : Apart S ((r.map fun _ _ => False) ++ qs) := by
  induction r with
  | nil => exact h
  | cons x r ih => exact ⟨fun _ h => h.elim, fun _ h => h.elim, ih⟩
/-! ### What is handed back may be told as data -/
def Pt.toC : Pt → C
  | .c x => x
  | .o sz es => .row sz es
def AV.weak : AV → AV
  | .ag ps => .d (.agg (ps.map Pt.toC))
  | .own sz es => .d (.one (.row sz es))
  | x => x
def Spec.weak (sp : Spec) : Spec := { sp with res := fun ds => (sp.res ds).map AV.weak, alts := sp.alts.map fun R ds r o => ∃ r', R ds r' o ∧ r = r'.map AV.weak }
theorem RepP.weak {w : World} {S S' : Nat → Prop} {p : Pt} {u : Value} {f : Nat → Prop} (h : RepP w S p u f) (hS : ∀ g, S g → S' g) (hf : ∀ g, f g → S' g) : Rep w S' p.toC u := by
  cases p with
  | c x => exact h.1.mono hS (fun _ _ => rfl)
  | o sz es => exact (priv_rep h.2.1).mono (fun g hg => hg.elim (hS g) (fun hg => hf g ((h.2.2 g).2 hg))) (fun _ _ => rfl)
theorem RepPs.weak {w : World} {S S' : Nat → Prop} {ps : List Pt} {us : List Value} {fs : List (Nat → Prop)} (h : All3 (RepP w S) ps us fs) (hS : ∀ g, S g → S' g) (hf : ∀ g, Any fs g → S' g) :
    us.length = ps.length ∧ ∀ (i : Nat) c, (ps.map Pt.toC)[i]? = some c → ∃ u, us[i]? = some u ∧ Rep w S' c u := by
  induction h with
  | nil => exact ⟨rfl, fun i c hc => by simp at hc⟩
  | @cons p u f ps us fs h1 _ ih =>
    obtain ⟨i1, i2⟩ := ih (fun g ⟨q, hq, hg⟩ => hf g ⟨q, by simp [hq], hg⟩)
    refine ⟨by simp [i1], fun i c hc => ?_⟩
    cases i with
    | zero =>
      simp only [List.map_cons, List.getElem?_cons_zero, Option.some.injEq] at hc
      subst hc
      exact ⟨u, rfl, h1.weak hS (fun g hg => hf g ⟨f, by simp, hg⟩)⟩
    | succ i => simpa using i2 i c (by simpa using hc)
theorem RepA.weak {w : World} {S S' : Nat → Prop} {x : AV} {v : Value} {fp : Nat → Prop} (h : RepA w S x v fp) (hS : ∀ g, S g → S' g) (hf : ∀ g, fp g → S' g) (hx : ∀ cs, x ≠ .ref cs) : RepA w S' x.weak v (fun _ => False) := by
  cases x with
  | d x => exact ⟨h.1.mono hS (fun _ _ => rfl), fun _ h => h⟩
  | ref cs => exact absurd rfl (hx cs)
  | gone => exact fun _ h => h
  | own sz es => exact ⟨(priv_rep h.2.1).mono (fun g hg => hg.elim (hS g) (fun hg => hf g ((h.2.2 g).2 hg))) (fun _ _ => rfl), fun _ h => h⟩
  | ag ps =>
    obtain ⟨us, fs, rfl, h1, _, h3⟩ := h
    obtain ⟨k1, k2⟩ := RepPs.weak h1 hS (fun g hg => hf g ((h3 g).2 hg))
    exact ⟨⟨us.toArray, rfl, by simpa using k1, fun i c hc => by simpa using k2 i c hc⟩, fun _ h => h⟩
theorem All3.weak {w : World} {S S' : Nat → Prop} {xs : List AV} {vs : List Value} {fps : List (Nat → Prop)} (h : All3 (RepA w S) xs vs fps) (hS : ∀ g, S g → S' g) (hf : ∀ g, Any fps g → S' g) (hx : ∀ x ∈ xs, ∀ cs, x ≠ .ref cs) :
    All3 (RepA w S') (xs.map AV.weak) vs (xs.map fun _ _ => False) := by
  induction h with
  | nil => exact .nil
  | @cons x v f xs vs fs h1 _ ih => exact .cons (h1.weak hS (fun g hg => hf g ⟨f, by simp, hg⟩) (hx x (by simp))) (ih (fun g ⟨q, hq, hg⟩ => hf g ⟨q, by simp [hq], hg⟩) (fun y hy => hx y (by simp [hy])))
theorem Sound.weak {P : Program} {f : FuncId} {sp : Spec} (h : Sound P f sp) (hx : ∀ ds r o, sp.pre ds → sp.may ds r o → ∀ x ∈ r, ∀ cs, x ≠ .ref cs) : Sound P f sp.weak := by
  intro args hp w S vs fps hG hS hF ha hA
  refine (h args hp w S vs fps hG hS hF ha hA).mono ?_
  rintro e w' ⟨r, o, hro, v, S', rfs, fps', he, g1, g2, g4, g5, g6, g7, g8⟩
  have hr := hx args r o hp hro
  refine ⟨r.map AV.weak, o, ?_, v, fun g => S' g ∨ Any rfs g, r.map fun _ _ => False, fps', he, ?_, g2.imp (fun _ _ _ h => RepA.monoS (fun _ h => .inl h) h), fun g hg => ?_, fun g hg => ?_, ?_, fun g hg => ?_, g8⟩
  · unfold Spec.may Spec.weak at *
    cases hal : sp.alts with
    | none =>
      rw [hal] at hro
      simp only at hro
      obtain ⟨rfl, rfl⟩ := hro
      exact ⟨rfl, rfl⟩
    | some R =>
      rw [hal] at hro
      exact ⟨r, hro, rfl⟩
  · obtain ⟨us, a1, a2⟩ := RepR.all3 g1
    have a3 := a1.weak (S' := fun g => S' g ∨ Any rfs g) (fun _ h => .inl h) (fun _ h => .inr h) hr
    rcases a2 with rfl | ⟨a2, rfl⟩
    · cases a1 with
      | cons b1 b2 => cases b2; cases a3 with
        | cons c1 _ => exact c1
    · have hl := a1.lens
      have hl2 : (r.map AV.weak).length ≠ 1 := by simpa [hl] using a2
      unfold RepR
      split
      · rename_i e _; exact absurd (by have := congrArg List.length e; simpa using this) (by simpa using hl2)
      · exact ⟨hl2, us, rfl, a3⟩
  · rcases hg with hg | hg
    · exact g4 g hg
    · exact .inr (g7 g hg.left).1
  · rcases hg with hg | hg
    · exact g5 g hg
    · exact (g7 g hg.left).2
  · have k : Apart (fun g => S' g ∨ Any rfs g) fps' := (Apart.rightA g6).widen (fun g hg h => h.elim (fun h => (Apart.rightA g6).notS hg h) (fun h => g6.split h hg))
    clear g1
    induction r with
    | nil => exact k
    | cons x r ih => exact ⟨fun _ h => h.elim, fun _ h => h.elim, (Apart.falses r k)⟩
  · rcases Any.of_app hg with ⟨p, hp, hg⟩ | hg
    · simp only [List.mem_map] at hp
      obtain ⟨_, _, rfl⟩ := hp
      exact hg.elim
    · exact g7 g hg.right
/-! ### What is known of other functions -/
def Gam (l : List (FuncId × Spec)) : FuncId → Option Spec := fun f => get? f l
theorem GOK.nil {P : Program} : GOK P (Gam []) := fun f sp h => by simp [Gam, get?] at h
theorem GOK.cons {P : Program} {l : List (FuncId × Spec)} {f : FuncId} {sp : Spec} (hc : okCallee P f = true) (hs : Sound P f sp) (h : GOK P (Gam l)) : GOK P (Gam ((f, sp) :: l)) := fun g sp' hg => by
  simp only [Gam, get?] at hg
  split at hg
  · rename_i he; subst he; simp at hg; subst hg; exact ⟨hc, hs⟩
  · exact h g sp' hg
end Go.Proofs.Pw
namespace Go.Proofs.Pw
set_option linter.unusedSectionVars false
variable [Globs]
theorem allC_map (cs : List C) : allC (cs.map .c) = some cs := by
  induction cs with
  | nil => rfl
  | cons c cs ih => simp [allC, Q.toC, ih]
end Go.Proofs.Pw
namespace Go.Proofs.Pw
set_option linter.unusedSectionVars false
variable [Globs]
theorem owns_map (cs : List C) : (cs.map Q.c).flatMap ownsQ = [] := by
  induction cs with
  | nil => rfl
  | cons c cs ih => simp [ownsQ]
end Go.Proofs.Pw
namespace Go.Proofs.Pw
end Go.Proofs.Pw
namespace Go.Proofs.Pw
theorem pick_or (p q : Prop) [Decidable p] [Decidable q] : (bif decide p then true else decide q) = decide (p ∨ q) := by by_cases p <;> simp_all
theorem pick_and (p q : Prop) [Decidable p] [Decidable q] : (bif decide p then decide q else false) = decide (p ∧ q) := by by_cases p <;> simp_all
theorem dec_and (p q : Prop) [Decidable p] [Decidable q] : (decide p && decide q) = decide (p ∧ q) := by simp
theorem bq_t (b : Bool) : (b == true) = b := by cases b <;> rfl
theorem bq_f (b : Bool) : (b == false) = !b := by cases b <;> rfl
theorem pick_t (x y : Bool) : (bif true then x else y) = x := rfl
theorem pick_f (x y : Bool) : (bif false then x else y) = y := rfl
end Go.Proofs.Pw
namespace Go.Proofs.Pw
theorem killB_map (d : Nat) (cs : List C) : (cs.map Q.c).map (Q.killB d) = cs.map Q.c := by rw [List.map_map]; rfl
theorem killO_map (d : Nat) (cs : List C) : (cs.map Q.c).map (Q.killO d) = cs.map Q.c := by rw [List.map_map]; rfl
theorem pub_map (d : Nat) (c : C) (cs : List C) : (cs.map Q.c).map (Q.pub d c) = cs.map Q.c := by rw [List.map_map]; rfl
end Go.Proofs.Pw
namespace Go.Proofs.Pw
set_option linter.unusedSectionVars false
variable [Globs]
/-- Less may be told. -/
theorem Le.sub {σ σ' : St} (ht : ∀ p ∈ σ'.tm, p ∈ σ.tm) (hb : ∀ p ∈ σ'.bx, p ∈ σ.bx) (hr : ∀ p ∈ σ'.rw, p ∈ σ.rw) : Le σ σ' := fun _ _ _ _ _ _ M hs =>
  ⟨M, hs.size, hs.defs, fun t p h => hs.tm t p (ht _ h), ⟨fun i q h => hs.mem.box i q (hb _ h), fun i sz es h => hs.mem.row i sz es (hr _ h), fun i q j q' h k => hs.mem.bb i q j q' (hb _ h) (hb _ k), fun i q j r h k => hs.mem.br i q j r (hb _ h) (hr _ k), fun i r j r' g h k => hs.mem.rr i r j r' g (hr _ h) (hr _ k), hs.mem.lt, fun i q h => hs.mem.sb i q (hb _ h), fun i r g h => hs.mem.sr i r g (hr _ h), hs.mem.gl⟩, hs.fr, hs.hB, hs.sS, hs.sβ, hs.sρ⟩
end Go.Proofs.Pw
namespace Go.Proofs.Pw
set_option linter.unusedSectionVars false
variable [Globs]
theorem get_mem' {α : Type} {d : α} {t : Nat} {l : List (Nat × α)} {x : α} (h : get d t l = x) (hx : x ≠ d) : (t, x) ∈ l := by
  rcases get_mem (d := d) (t := t) (l := l) with h' | h'
  · rw [h] at h'; exact h'
  · rw [h] at h'; exact absurd h' hx
/-- A private row bears another name. -/
theorem Le.move {σ : St} {t r d sz : Nat} {es : List (List C)} (ht : get (.q .no) t σ.tm = .q (.own r)) (hq : get? r σ.rw = some (sz, es)) (hd : d < BASE) :
    Le σ { σ.rowMove r d sz es with tm := upd t (.q (.own d)) (σ.rowMove r d sz es).tm } := fun X N B w0 ac w M hs => by
  have hin := get?_mem hq
  obtain ⟨h0, hp, _⟩ := hs.mem.row r _ es hin
  have hv := hs.tm t _ (get_mem' ht (by simp))
  have hs2 := hs.rowMove (d := d) hin (.inr hd) h0 hp (fun _ h => h)
  refine ⟨_, hs2.size, hs2.defs, fun t' p hp => ?_, hs2.mem, hs2.fr, hs2.hB, hs2.sS, hs2.sβ, hs2.sρ⟩
  rcases upd_mem hp with ⟨rfl, rfl⟩ | ⟨_, hp⟩
  · exact ⟨by rw [hv.1]; simp [Gh.nr], hv.2⟩
  · exact hs2.tm _ _ hp
/-- The beginning of a private row takes its place. -/
theorem Le.cut {σ : St} {t r d sz n : Nat} {es : List (List C)} (ht : get (.q .no) t σ.tm = .q (.vw r sz 0 n)) (hq : get? r σ.rw = some (sz, es)) (hn : n ≤ es.length) (hd : d < BASE) :
    Le σ { σ.rowMove r d sz (es.take n) with tm := upd t (.q (.own d)) (σ.rowMove r d sz (es.take n)).tm } := fun X N B w0 ac w M hs => by
  have hin := get?_mem hq
  obtain ⟨h0, hp, _⟩ := hs.mem.row r _ es hin
  have hv := hs.tm t _ (get_mem' ht (by simp))
  obtain ⟨A, m, c, A', hρ, hc, hv, hA⟩ := hv
  have hA' : 0 < c → A' = A := fun h => by rw [hA h]; cases A <;> simp [Addr.add]
  have hp2 : Priv w M.S sz (es.take n) (.slice A' n c) := by rw [hρ] at hp; exact hp.cut hn hA'
  have hsub : ∀ g, pblk (.slice A' n c) g → pblk (M.ρ r) g := fun g hg => by
    rw [hρ]
    rcases Nat.eq_zero_or_pos c with h | h
    · subst h; cases A' <;> simp [pblk] at hg
    · rw [hA' h] at hg
      cases c with
      | zero => omega
      | succ c => cases A with
        | none => exact hg.elim
        | some ad => exact hg
  have hs2 := hs.rowMove (d := d) hin (.inr hd) h0 hp2 hsub
  rw [Nat.sub_zero] at hv
  refine ⟨_, hs2.size, hs2.defs, fun t' p hp => ?_, hs2.mem, hs2.fr, hs2.hB, hs2.sS, hs2.sβ, hs2.sρ⟩
  rcases upd_mem hp with ⟨rfl, rfl⟩ | ⟨_, hp⟩
  · exact ⟨by rw [hv]; simp [Gh.nr], by rw [hv]; rfl⟩
  · exact hs2.tm _ _ hp
/-- The same of a view whose capacity is known. -/
theorem Le.cutC {σ : St} {t r d sz n c : Nat} {es : List (List C)} (ht : get (.q .no) t σ.tm = .q (.vc r sz 0 n c)) (hq : get? r σ.rw = some (sz, es)) (hn : n ≤ es.length) (hd : d < BASE) :
    Le σ { σ.rowMove r d sz (es.take n) with tm := upd t (.q (.own d)) (σ.rowMove r d sz (es.take n)).tm } := fun X N B w0 ac w M hs => by
  have hin := get?_mem hq
  obtain ⟨h0, hp, _⟩ := hs.mem.row r _ es hin
  have hv := hs.tm t _ (get_mem' ht (by simp))
  obtain ⟨A, m, A', hρ, hc, hv, hA⟩ := hv
  have hA' : 0 < c → A' = A := fun h => by rw [hA h]; cases A <;> simp [Addr.add]
  have hp2 : Priv w M.S sz (es.take n) (.slice A' n c) := by rw [hρ] at hp; exact hp.cut hn hA'
  have hsub : ∀ g, pblk (.slice A' n c) g → pblk (M.ρ r) g := fun g hg => by
    rw [hρ]
    rcases Nat.eq_zero_or_pos c with h | h
    · subst h; cases A' <;> simp [pblk] at hg
    · rw [hA' h] at hg
      cases c with
      | zero => omega
      | succ c => cases A with
        | none => exact hg.elim
        | some ad => exact hg
  have hs2 := hs.rowMove (d := d) hin (.inr hd) h0 hp2 hsub
  rw [Nat.sub_zero] at hv
  refine ⟨_, hs2.size, hs2.defs, fun t' p hp => ?_, hs2.mem, hs2.fr, hs2.hB, hs2.sS, hs2.sβ, hs2.sρ⟩
  rcases upd_mem hp with ⟨rfl, rfl⟩ | ⟨_, hp⟩
  · exact ⟨by rw [hv]; simp [Gh.nr], by rw [hv]; rfl⟩
  · exact hs2.tm _ _ hp
end Go.Proofs.Pw
