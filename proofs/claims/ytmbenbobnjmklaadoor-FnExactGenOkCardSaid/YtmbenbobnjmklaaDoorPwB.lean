/- What writes: stores, new variables, appends, makes. -/
import Derived.Test.YtmbenbobnjmklaaDoorPwA
namespace Go.Proofs.Pw
open Go.RowKit
set_option linter.unusedSectionVars false
variable [Globs]
section
variable {P : Program} {Γ : FuncId → Option Spec} {σ : St} {a : Act} {w w' : World} {M M' : Gh} {X : Nat → Prop} {B n : Nat} {w0 : W0}

theorem del_mem {α : Type} {t i : Nat} {x : α} : ∀ {l : List (Nat × α)}, (i, x) ∈ del t l → i ≠ t ∧ (i, x) ∈ l := by
  intro l
  induction l with
  | nil => intro h; simp [del] at h
  | cons y r ih =>
    obtain ⟨j, y⟩ := y
    intro h
    simp only [del] at h
    split at h
    · exact ⟨(ih h).1, List.mem_cons_of_mem _ (ih h).2⟩
    · rename_i hne
      rcases List.mem_cons.1 h with h | h
      · cases h; exact ⟨hne, by simp⟩
      · exact ⟨(ih h).1, List.mem_cons_of_mem _ (ih h).2⟩
theorem upd_mem {α : Type} {t i : Nat} {x y : α} : ∀ {l : List (Nat × α)}, (i, x) ∈ upd t y l → (i = t ∧ x = y) ∨ (i ≠ t ∧ (i, x) ∈ l) := by
  intro l
  induction l with
  | nil => intro h; simp [upd] at h; exact .inl h
  | cons z r ih =>
    obtain ⟨j, z⟩ := z
    intro h
    simp only [upd] at h
    split at h
    · rename_i he
      rcases List.mem_cons.1 h with h | h
      · cases h; exact .inl ⟨rfl, rfl⟩
      · exact .inr ⟨(del_mem h).1, List.mem_cons_of_mem _ (del_mem h).2⟩
    · rename_i hne
      rcases List.mem_cons.1 h with h | h
      · cases h; exact .inr ⟨hne, by simp⟩
      · rcases ih h with h | h
        · exact .inl h
        · exact .inr ⟨h.1, List.mem_cons_of_mem _ h.2⟩

section
variable {f : Q → Q} (hf : ∀ q v, RelQ w M q v → RelQ w' M' (f q) v)
include hf
theorem map_a {qs : List Q} {v : Value} (h : RelA w M qs v) : RelA w' M' (qs.map f) v := by
  obtain ⟨us, h1, h2, h3⟩ := h
  refine ⟨us, h1, by simpa using h2, fun i q hq => ?_⟩
  simp only [List.getElem?_map, Option.map_eq_some_iff] at hq
  obtain ⟨q0, hq0, rfl⟩ := hq
  obtain ⟨u, g1, g2, g3⟩ := h3 i q0 hq0
  exact ⟨u, g1, g2, hf _ _ g3⟩
theorem map_s {x : SV} {v : Value} (h : RelS w M x v) : RelS w' M' (x.map f) v := by
  cases x with
  | q x => exact hf _ _ h
  | agg xs => exact map_a hf h
theorem map_v {p : PV} {v : Value} (h : RelV w M p v) : RelV w' M' (p.map f) v := by
  induction p with
  | q x => exact hf _ _ h
  | agg xs => exact map_a hf h
  | tup xs =>
    obtain ⟨vs, h1, h2⟩ := h
    refine ⟨vs, h1, ?_⟩
    clear h1
    induction h2 with
    | nil => exact .nil
    | cons h _ ih => exact .cons (map_s hf h) ih
  | gd b p ih => exact ⟨fun hb => ih (h.1 hb), h.2⟩
theorem map_cs {qs : List Q} {us : Array Value} (h : RelCs w M qs us) : RelCs w' M' (qs.map f) us := by
  obtain ⟨h2, h3⟩ := h
  refine ⟨by simpa using h2, fun i q hq => ?_⟩
  simp only [List.getElem?_map, Option.map_eq_some_iff] at hq
  obtain ⟨q0, hq0, rfl⟩ := hq
  obtain ⟨u, g1, g2, g3⟩ := h3 i q0 hq0
  exact ⟨u, g1, g2, hf _ _ g3⟩
end

theorem Sim.upS (hs : Sim X n B w0 σ a w M) {Z : Nat → Prop} (hu : Up Z w M w' M') (g : Nat) (hg : M'.S g) : w0.S g ∨ Mine X B g := by
  rcases hu.new g hg with h | h
  · exact hs.sS g h
  · exact .inr (.inl (Nat.le_trans hs.hB h))
theorem Sim.put (hs : Sim X n B w0 σ a w M) {dst : Option Nat} (hd : ∀ d, dst = some d → d < n) {Z : Nat → Prop} (hu : Up Z w M w' M') (hZ : ∀ g, g < B → Z g → X g) (hm : Mem X B σ.bx σ.rw w' M') {p : PV} {v : Value} (hv : RelV w' M' p v) :
    Sim X n B w0 (σ.put dst p) (a.put dst v) w' M' := by
  have hfr : Fr X B w0.w w' := hs.fr.trans (hu.fr.weak hs.hB hZ)
  cases dst with
  | none => exact ⟨hs.size, hs.defs, fun t p h => hu.v hs.mem.lt (hs.tm t p h), hm, hfr, Nat.le_trans hs.hB hu.fr.size, hs.upS hu, by rw [hu.β]; exact hs.sβ⟩
  | some d =>
    refine ⟨by simpa [Act.put] using hs.size, hs.defs, fun t p' h => ?_, hm, hfr, Nat.le_trans hs.hB hu.fr.size, hs.upS hu, by rw [hu.β]; exact hs.sβ⟩
    have hdn : d < a.tmps.size := by rw [hs.size]; exact hd d rfl
    rcases upd_mem h with ⟨rfl, rfl⟩ | ⟨hne, h⟩
    · simpa [Act.put, Array.getD, hdn] using hv
    · have := hu.v hs.mem.lt (hs.tm t p' h)
      have he : (a.put (some d) v).tmps.getD t undef = a.tmps.getD t undef := by
        simp only [Act.put, Array.getD_eq_getD_getElem?, Array.getElem?_setIfInBounds]
        rw [if_neg (fun e => hne e.symm)]
      rw [he]; exact this

/-- A box's content turns. -/
theorem Mem.setBox {bx : List (Nat × List Q)} {rw_ : List (Nat × Nat × List (List C))} (h : Mem X B bx rw_ w M) {i : Nat} {qs qs' : List Q} (hi : (i, qs) ∈ bx) (hu : Up (fun g => g = M.β i) w M w' M')
    {t : TypeId} {cells : Array Value} (hc : w'.heap[M.β i]? = some (.cells cells t (0, 0))) (hr : RelCs w' M' qs' cells) : Mem X B (upd i qs' bx) rw_ w' M' := by
  have hz : ∀ i' qs'', (i', qs'') ∈ bx → i' ≠ i → M.β i' ≠ M.β i := fun i' qs'' h' hne => h.bb i' qs'' i qs h' hi hne
  have hzr : ∀ i' r g, (i', r) ∈ rw_ → pblk (M.ρ i') g → g ≠ M.β i := fun i' r g h' hg e => h.br i qs i' r hi h' (e ▸ hg)
  refine ⟨fun i' qs'' h' => ?_, fun i' sz es h' => ?_, fun i' q1 j q2 h1 h2 hne => ?_, fun i' q1 j r h1 h2 => ?_, ?_, hu.lt, fun i' q1 h1 hs => ?_, fun i' r g h1 hg hs => ?_, (hu.ub h.lt).gl h.gl⟩
  · rw [hu.β]
    rcases upd_mem h' with ⟨rfl, rfl⟩ | ⟨hne, h'⟩
    · exact ⟨(h.box _ _ hi).1, t, cells, hc, hr⟩
    · obtain ⟨hB, t', cells', h1, h2, h3⟩ := h.box i' qs'' h'
      refine ⟨hB, t', cells', ?_, h2, fun j q hq => ?_⟩
      · rw [hu.fr.block _ (Array.getElem?_eq_some_iff.1 h1).1 (hz i' qs'' h' hne)]; exact h1
      · obtain ⟨u, a1, a2, a3⟩ := h3 j q hq; exact ⟨u, a1, a2, hu.q h.lt a3⟩
  · obtain ⟨h0, hp, hx⟩ := h.row i' sz es h'
    rw [hu.ρ]
    exact ⟨h0, hp.move hu.S (hu.keep h.lt) (fun g hg => hu.fr.block g (hp.lt hg) (hzr i' _ g h' hg)), hx⟩
  · rw [hu.β]
    have e : ∀ {i' q1}, (i', q1) ∈ upd i qs' bx → ∃ q, (i', q) ∈ bx := fun {i' q1} h' => by
      rcases upd_mem h' with ⟨rfl, _⟩ | ⟨_, h'⟩
      · exact ⟨qs, hi⟩
      · exact ⟨_, h'⟩
    obtain ⟨_, e1⟩ := e h1; obtain ⟨_, e2⟩ := e h2
    exact h.bb _ _ _ _ e1 e2 hne
  · rw [hu.β, hu.ρ]
    rcases upd_mem h1 with ⟨rfl, _⟩ | ⟨_, h'⟩
    · exact h.br _ _ _ _ hi h2
    · exact h.br _ _ _ _ h' h2
  · rw [hu.ρ]; exact h.rr
  · rw [hu.β] at hs
    have hin : ∃ q, (i', q) ∈ bx := by
      rcases upd_mem h1 with ⟨rfl, _⟩ | ⟨_, h'⟩
      · exact ⟨qs, hi⟩
      · exact ⟨_, h'⟩
    obtain ⟨q, hq⟩ := hin
    obtain ⟨_, t', cells', h1, _⟩ := h.box i' q hq
    rcases hu.new _ hs with hs | hs
    · exact h.sb i' q hq hs
    · have := (Array.getElem?_eq_some_iff.1 h1).1; omega
  · rw [hu.ρ] at hg
    obtain ⟨sz, es⟩ := r
    obtain ⟨_, hp, _⟩ := h.row i' sz es h1
    rcases hu.new _ hs with hs | hs
    · exact h.sr i' _ g h1 hg hs
    · have := hp.lt hg; omega

/-- A new box. -/
def Gh.nb (M : Gh) (d b : Nat) : Gh := { M with β := fun i => if i = d then b else M.β i }
theorem nb_q {d b : Nat} (hu : Up (fun _ => False) w M w' M) (hl : ∀ g, M.S g → g < w.heap.size) (q : Q) (v : Value) (h : RelQ w M q v) : RelQ w' (M.nb d b) (q.killB d) v := by
  have h' := hu.q hl h
  cases q with
  | box i o =>
    simp only [Q.killB]
    split
    · trivial
    · rename_i hne; simp only [RelQ, Gh.nb, if_neg hne] at *; exact h'
  | _ => exact h'
theorem Mem.newBox (h : Mem X B σ.bx σ.rw w M) (hB : B ≤ w.heap.size) (d : Nat) {cells : Array Value} {t : TypeId} {qs : List Q} (hr : RelCs w M qs cells) :
    Mem X B (upd d (qs.map (Q.killB d)) (σ.map (Q.killB d)).bx) σ.rw (w.alloc (.cells cells t)) (M.nb d w.heap.size) ∧ Up (fun _ => False) w M (w.alloc (.cells cells t)) M := by
  have hu : Up (fun _ => False) w M (w.alloc (.cells cells t)) M := ⟨rfl, rfl, fun _ h => h, fun _ h => .inl h, fun g hg => by simp; have := h.lt g hg; omega, fun _ _ h => h, ⟨rfl, rfl, rfl, by simp, fun k hk _ => Below.heap_alloc _ _ _ hk, frozen?_alloc_cells _ _ _⟩⟩
  have hm := h.up hu (fun _ _ _ h => h) (fun _ _ _ _ _ h => h)
  have hq := nb_q (d := d) (b := w.heap.size) hu h.lt
  have hin : ∀ {i' q1}, (i', q1) ∈ upd d (qs.map (Q.killB d)) (σ.map (Q.killB d)).bx → (i' = d ∧ q1 = qs.map (Q.killB d)) ∨ (i' ≠ d ∧ ∃ q, (i', q) ∈ σ.bx ∧ q1 = q.map (Q.killB d)) := fun {i' q1} h' => by
    rcases upd_mem h' with h' | ⟨hne, h'⟩
    · exact .inl h'
    · simp only [St.map, List.mem_map, Prod.mk.injEq] at h'
      obtain ⟨⟨j, q⟩, hj, rfl, rfl⟩ := h'
      exact .inr ⟨hne, q, hj, rfl⟩
  have hlt : ∀ {i' q}, (i', q) ∈ σ.bx → M.β i' < w.heap.size := fun {i' q} h' => by
    obtain ⟨_, t', cells', h1, _⟩ := h.box i' q h'
    exact (Array.getElem?_eq_some_iff.1 h1).1
  refine ⟨⟨fun i' q1 h' => ?_, fun i' sz es h' => hm.row i' sz es h', fun i' q1 j q2 h1 h2 hne => ?_, fun i' q1 j r h1 h2 hg => ?_, hm.rr, hm.lt, fun i' q1 h1 hs => ?_, hm.sr, hm.gl⟩, hu⟩
  · rcases hin h' with ⟨rfl, rfl⟩ | ⟨hne, q, hj, rfl⟩
    · simp only [Gh.nb, if_true]
      exact ⟨.inl hB, t, cells, heap_alloc_new _ _, map_cs hq hr⟩
    · simp only [Gh.nb, if_neg hne]
      obtain ⟨hB', t', cells', h1, h2, h3⟩ := h.box i' q hj
      exact ⟨hB', t', cells', by rw [Below.heap_alloc _ _ _ (hlt hj)]; exact h1, map_cs hq ⟨h2, h3⟩⟩
  · rcases hin h1 with ⟨rfl, _⟩ | ⟨n1, q, hj, _⟩ <;> rcases hin h2 with ⟨rfl, _⟩ | ⟨n2, q', hj', _⟩
    · exact absurd rfl hne
    · simp only [Gh.nb, if_true, if_neg n2]; have := hlt hj'; omega
    · simp only [Gh.nb, if_true, if_neg n1]; have := hlt hj; omega
    · simp only [Gh.nb, if_neg n1, if_neg n2]; exact h.bb _ _ _ _ hj hj' hne
  · rcases hin h1 with ⟨rfl, _⟩ | ⟨n1, q, hj, _⟩
    · simp only [Gh.nb, if_true] at hg
      obtain ⟨sz, es⟩ := r
      have := (h.row j sz es h2).2.1.lt hg; omega
    · simp only [Gh.nb, if_neg n1] at hg
      exact h.br _ _ _ _ hj h2 hg
  · rcases hin h1 with ⟨rfl, _⟩ | ⟨n1, q, hj, _⟩
    · simp only [Gh.nb, if_true] at hs
      have := h.lt _ hs; omega
    · simp only [Gh.nb, if_neg n1] at hs
      exact h.sb _ _ hj hs

/-- A new private row, or one that is no longer what it was. -/
def Gh.nr (M : Gh) (d : Nat) (v : Value) : Gh := { M with ρ := fun i => if i = d then v else M.ρ i }
theorem nr_q {Z : Nat → Prop} {d : Nat} {v' : Value} (hu : Up Z w M w' M) (hl : ∀ g, M.S g → g < w.heap.size) (q : Q) (v : Value) (h : RelQ w M q v) : RelQ w' (M.nr d v') (q.killO d) v := by
  have h' := hu.q hl h
  cases q with
  | own i =>
    simp only [Q.killO]
    split
    · trivial
    · rename_i hne; simp only [RelQ, Gh.nr, if_neg hne] at *; exact h'
  | rp i sz k o =>
    simp only [Q.killO]
    split
    · trivial
    · rename_i hne; simp only [RelQ, Gh.nr, if_neg hne] at *; exact h'
  | _ => exact h'
theorem Mem.newRow {Z : Nat → Prop} (h : Mem X B σ.bx σ.rw w M) (hB : B ≤ w.heap.size) {d sz : Nat} {es : List (List C)} {v' : Value} (h0 : 0 < sz) (hu : Up Z w M w' M) (hz : ∀ g, Z g → ∃ r, (d, r) ∈ σ.rw ∧ pblk (M.ρ d) g)
    (hp : Priv w' M.S sz es v') (hb : ∀ g, pblk v' g → w.heap.size ≤ g ∨ ∃ r, (d, r) ∈ σ.rw ∧ pblk (M.ρ d) g) : Mem X B (σ.map (Q.killO d)).bx (upd d (sz, es) σ.rw) w' (M.nr d v') := by
  have hq := nr_q (d := d) (v' := v') hu h.lt
  have hbx : ∀ {i' q1}, (i', q1) ∈ (σ.map (Q.killO d)).bx → ∃ q, (i', q) ∈ σ.bx ∧ q1 = q.map (Q.killO d) := fun {i' q1} h' => by
    simp only [St.map, List.mem_map, Prod.mk.injEq] at h'
    obtain ⟨⟨j, q⟩, hj, rfl, rfl⟩ := h'
    exact ⟨q, hj, rfl⟩
  have hzb : ∀ i' q, (i', q) ∈ σ.bx → ¬ Z (M.β i') := fun i' q hj hZ => by
    obtain ⟨r, hr, hg⟩ := hz _ hZ; exact h.br _ _ _ _ hj hr hg
  have hbl : ∀ {i' q}, (i', q) ∈ σ.bx → M.β i' < w.heap.size := fun {i' q} h' => by
    obtain ⟨_, t', cells', h1, _⟩ := h.box i' q h'
    exact (Array.getElem?_eq_some_iff.1 h1).1
  have hrl : ∀ {i' r g}, (i', r) ∈ σ.rw → pblk (M.ρ i') g → g < w.heap.size := fun {i' r g} h' hg => by
    obtain ⟨sz', es'⟩ := r
    exact (h.row i' sz' es' h').2.1.lt hg
  refine ⟨fun i' q1 h' => ?_, fun i' sz' es' h' => ?_, fun i' q1 j q2 h1 h2 hne => ?_, fun i' q1 j r h1 h2 hg => ?_, fun i' r j r' g h1 h2 hne hg hg' => ?_, hu.lt, fun i' q1 h1 hs => ?_, fun i' r g h1 hg hs => ?_, (hu.ub h.lt).gl h.gl⟩
  · obtain ⟨q, hj, rfl⟩ := hbx h'
    obtain ⟨hB', t', cells', h1, h2, h3⟩ := h.box i' q hj
    exact ⟨hB', t', cells', by show w'.heap[M.β i']? = _; rw [hu.fr.block _ (hbl hj) (hzb _ _ hj)]; exact h1, map_cs hq ⟨h2, h3⟩⟩
  · rcases upd_mem h' with ⟨rfl, he⟩ | ⟨hne, h'⟩
    · cases he
      simp only [Gh.nr, if_true]
      refine ⟨h0, hp, fun g hg => ?_⟩
      rcases hb g hg with hg | ⟨r, hr, hg⟩
      · exact .inl (by omega)
      · obtain ⟨sz', es'⟩ := r
        exact (h.row _ sz' es' hr).2.2 g hg
    · simp only [Gh.nr, if_neg hne]
      obtain ⟨h1, h2, h3⟩ := h.row i' sz' es' h'
      refine ⟨h1, h2.move hu.S (hu.keep h.lt) (fun g hg => hu.fr.block g (h2.lt hg) (fun hZ => ?_)), h3⟩
      obtain ⟨r, hr, hg'⟩ := hz _ hZ
      exact h.rr _ _ _ _ g h' hr hne hg hg'
  · obtain ⟨q, hj, _⟩ := hbx h1; obtain ⟨q', hj', _⟩ := hbx h2
    exact h.bb _ _ _ _ hj hj' hne
  · obtain ⟨q, hj, _⟩ := hbx h1
    rcases upd_mem h2 with ⟨rfl, _⟩ | ⟨hne, h2⟩
    · simp only [Gh.nr, if_true] at hg
      rcases hb _ hg with hg | ⟨r', hr, hg⟩
      · have := hbl hj; omega
      · exact h.br _ _ _ _ hj hr hg
    · simp only [Gh.nr, if_neg hne] at hg
      exact h.br _ _ _ _ hj h2 hg
  · rcases upd_mem h1 with ⟨rfl, _⟩ | ⟨n1, k1⟩ <;> rcases upd_mem h2 with ⟨rfl, _⟩ | ⟨n2, k2⟩
    · exact hne rfl
    · simp only [Gh.nr, if_true] at hg; simp only [Gh.nr, if_neg n2] at hg'
      rcases hb _ hg with hg | ⟨r1, hr, hg⟩
      · have := hrl k2 hg'; omega
      · exact h.rr _ _ _ _ g hr k2 hne hg hg'
    · simp only [Gh.nr, if_neg n1] at hg; simp only [Gh.nr, if_true] at hg'
      rcases hb _ hg' with hg' | ⟨r1, hr, hg'⟩
      · have := hrl k1 hg; omega
      · exact h.rr _ _ _ _ g k1 hr hne hg hg'
    · simp only [Gh.nr, if_neg n1] at hg; simp only [Gh.nr, if_neg n2] at hg'
      exact h.rr _ _ _ _ g k1 k2 hne hg hg'
  · obtain ⟨q, hj, _⟩ := hbx h1
    exact h.sb _ _ hj hs
  · rcases upd_mem h1 with ⟨rfl, _⟩ | ⟨hne, h1⟩
    · simp only [Gh.nr, if_true] at hg
      rcases hb _ hg with hg | ⟨r1, hr, hg⟩
      · have := h.lt _ hs; omega
      · exact h.sr _ _ g hr hg hs
    · simp only [Gh.nr, if_neg hne] at hg
      exact h.sr _ _ g h1 hg hs

/-- A private row's elements turn where they lie. -/
theorem Mem.setRow {bx : List (Nat × List Q)} {rw_ : List (Nat × Nat × List (List C))} (h : Mem X B bx rw_ w M) {i sz sz' : Nat} {es es' : List (List C)} (hi : (i, sz, es) ∈ rw_) (hu : Up (pblk (M.ρ i)) w M w' M')
    (h0 : 0 < sz') (hp' : Priv w' M'.S sz' es' (M.ρ i)) : Mem X B bx (upd i (sz', es') rw_) w' M' := by
  have hin : ∀ {i' r}, (i', r) ∈ upd i (sz', es') rw_ → ∃ r', (i', r') ∈ rw_ := fun {i' r} h' => by
    rcases upd_mem h' with ⟨rfl, _⟩ | ⟨_, h'⟩
    · exact ⟨_, hi⟩
    · exact ⟨_, h'⟩
  have hrl : ∀ {i' r g}, (i', r) ∈ rw_ → pblk (M.ρ i') g → g < w.heap.size := fun {i' r g} h' hg => by
    obtain ⟨sz', es'⟩ := r
    exact (h.row i' sz' es' h').2.1.lt hg
  refine ⟨fun i' qs h' => ?_, fun i' sz'' es'' h' => ?_, by rw [hu.β]; exact h.bb, fun i' q j r h1 h2 => ?_, fun i' r j r' g h1 h2 hne => ?_, hu.lt, fun i' q h1 hs => ?_, fun i' r g h1 hg hs => ?_, (hu.ub h.lt).gl h.gl⟩
  · rw [hu.β]
    obtain ⟨hB, t, cells, h1, h2, h3⟩ := h.box i' qs h'
    refine ⟨hB, t, cells, ?_, h2, fun j q hq => ?_⟩
    · rw [hu.fr.block _ (Array.getElem?_eq_some_iff.1 h1).1 (h.br _ _ _ _ h' hi)]; exact h1
    · obtain ⟨u, a1, a2, a3⟩ := h3 j q hq; exact ⟨u, a1, a2, hu.q h.lt a3⟩
  · rw [hu.ρ]
    rcases upd_mem h' with ⟨rfl, he⟩ | ⟨hne, h'⟩
    · cases he; exact ⟨h0, hp', (h.row _ _ _ hi).2.2⟩
    · obtain ⟨h1, h2, h3⟩ := h.row i' sz'' es'' h'
      exact ⟨h1, h2.move hu.S (hu.keep h.lt) (fun g hg => hu.fr.block g (h2.lt hg) (h.rr _ _ _ _ g h' hi hne hg)), h3⟩
  · rw [hu.β, hu.ρ]
    obtain ⟨r', h2⟩ := hin h2
    exact h.br _ _ _ _ h1 h2
  · rw [hu.ρ]
    obtain ⟨_, h1⟩ := hin h1; obtain ⟨_, h2⟩ := hin h2
    exact h.rr _ _ _ _ g h1 h2 hne
  · rw [hu.β] at hs
    obtain ⟨_, t', cells', h2, _⟩ := h.box i' q h1
    rcases hu.new _ hs with hs | hs
    · exact h.sb i' q h1 hs
    · have := (Array.getElem?_eq_some_iff.1 h2).1; omega
  · rw [hu.ρ] at hg
    obtain ⟨r', h1⟩ := hin h1
    rcases hu.new _ hs with hs | hs
    · exact h.sr i' _ g h1 hg hs
    · have := hrl h1 hg; omega
end
end Go.Proofs.Pw
/- The operations that write. -/
namespace Go.Proofs.Pw
open Go.RowKit
set_option linter.unusedSectionVars false
variable [Globs]
section
variable {P : Program} {Γ : FuncId → Option Spec} {σ : St} {a : Act} {w w' : World} {M M' : Gh} {X : Nat → Prop} {B n : Nat} {w0 : W0}

theorem okAg_size {t : TypeId} {ag : Option Nat} (h : okAg P t ag = true) : ∃ i, P.info? t = some i ∧ i.size = ag.getD 1 := by
  cases ag with
  | none => obtain ⟨d, i, _, h2, h3, _⟩ := okAg_none h; exact ⟨i, h2, h3⟩
  | some m => obtain ⟨_, i, _, h2, h3⟩ := okAg_some h; exact ⟨i, h2, h3⟩

/-- A store into a block that is told. -/
theorem store_run {t : TypeId} {ag : Option Nat} (hk : okAg P t ag = true) {g o : Nat} {cells : Array Value} {ty : TypeId} (hg : w.heap[g]? = some (.cells cells ty (0, 0))) {v : Value} (hv : v.cells.size = ag.getD 1) (hl : o + ag.getD 1 ≤ cells.size) (h1 : ∀ u ∈ v.cells.toList, u.oneCell' = true) :
    (Instr.storeAt t (.pointer (some ⟨g, o, none⟩)) v).run P w = .ok () (w.setRow g (cells.toList.take o ++ v.cells.toList ++ cells.toList.drop (o + ag.getD 1)).toArray) := by
  obtain ⟨i, h2, h3⟩ := okAg_size hk
  have := run_storeCells_at P g o ty v.cells.toList 0 cells w hg (by simp [hv]; omega) h1
  simp only [Nat.add_zero, Array.length_toList, hv] at this
  simp [Instr.storeAt, Instr.sureAddr, storeVar, hv, sizeOf, typeInfo, h2, h3, this]

theorem seg_get {α : Type} (l vs : List α) (o k : Nat) (h : o + vs.length ≤ l.length) : (l.take o ++ vs ++ l.drop (o + vs.length))[k]? = if o ≤ k ∧ k < o + vs.length then vs[k - o]? else l[k]? := by
  by_cases h1 : k < o
  · rw [if_neg (by omega), List.append_assoc, List.getElem?_append_left (by simp; omega), List.getElem?_take, if_pos h1]
  · by_cases h2 : k < o + vs.length
    · rw [if_pos (by omega), List.append_assoc, List.getElem?_append_right (by simp; omega), List.getElem?_append_left (by simp; omega)]
      simp [show min o l.length = o by omega]
    · rw [if_neg (by omega), List.getElem?_append_right (by simp; omega), List.getElem?_drop]
      congr 1; simp; omega
theorem RelCs.all_one {qs : List Q} {us : Array Value} (h : RelCs w M qs us) : ∀ u ∈ us.toList, u.oneCell' = true := by
  intro u hu
  obtain ⟨i, hi⟩ := List.getElem?_of_mem hu
  have hlt : i < qs.length := by have := (List.getElem?_eq_some_iff.1 hi).1; simp at this; rw [← h.1]; exact this
  obtain ⟨u', h1, h2, _⟩ := h.2 i _ (List.getElem?_eq_getElem hlt)
  simp at hi h1
  rw [hi] at h1; cases h1; exact h2

/-- What a store leaves. -/
theorem put_cells {qs ys : List Q} {cells : Array Value} {v : Value} {o : Nat} (hq : RelCs w M qs cells) (hy : RelCs w M ys v.cells) (hl : o + ys.length ≤ qs.length) :
    RelCs w M (place qs o ys) (cells.toList.take o ++ v.cells.toList ++ cells.toList.drop (o + ys.length)).toArray := by
  have hvl : v.cells.toList.length = ys.length := by simpa using hy.1
  have hcl : cells.toList.length = qs.length := by simpa using hq.1
  refine ⟨by rw [place_len _ _ _ hl]; simp only [List.size_toArray, List.length_append, List.length_take, List.length_drop]; omega, fun i q hi => ?_⟩
  rw [place_get _ _ _ _ hl] at hi
  have hs := seg_get cells.toList v.cells.toList o i (by omega)
  rw [hvl] at hs
  simp only [List.getElem?_toArray]
  rw [hs]
  split at hi
  · rename_i hh
    rw [if_pos hh]
    obtain ⟨u, h1, h2⟩ := hy.2 _ q hi
    exact ⟨u, by simpa using h1, h2⟩
  · rename_i hh
    rw [if_neg hh]
    obtain ⟨u, h1, h2⟩ := hq.2 _ q hi
    exact ⟨u, by simpa using h1, h2⟩
theorem RelCs.ub (hu : Ub w M w' M') {qs : List Q} {us : Array Value} (h : RelCs w M qs us) : RelCs w' M' qs us :=
  ⟨h.1, fun i q hq => by obtain ⟨u, a1, a2, a3⟩ := h.2 i q hq; exact ⟨u, a1, a2, hu.q a3⟩⟩
theorem RelCs.up {Z : Nat → Prop} (hu : Up Z w M w' M') (hl : ∀ g, M.S g → g < w.heap.size) {qs : List Q} {us : Array Value} (h : RelCs w M qs us) : RelCs w' M' qs us :=
  ⟨h.1, fun i q hq => by obtain ⟨u, a1, a2, a3⟩ := h.2 i q hq; exact ⟨u, a1, a2, hu.q hl a3⟩⟩
theorem frozen_setRow (w : World) (g : Nat) (cs : Array Value) (a : Addr) : (w.setRow g cs).frozen? a = w.frozen? a := by
  by_cases h : a.block = g
  · subst h
    unfold World.frozen? World.setRow
    simp only [Array.getElem?_modify, if_true]
    cases w.heap[a.block]? with
    | none => rfl
    | some o => cases o <;> rfl
  · exact World.frozen?_of_block (setRow_other w g a.block cs h)
theorem up_setRow (hl : ∀ g, M.S g → g < w.heap.size) {g : Nat} {cs : Array Value} (hg : ¬ M.S g) : Up (fun k => k = g) w M (w.setRow g cs) M :=
  ⟨rfl, rfl, fun _ h => h, fun _ h => .inl h, fun k hk => by simpa using hl k hk, fun k hk e => hg (e ▸ hk), ⟨rfl, rfl, rfl, by simp, fun k _ hk => setRow_other w g k cs hk, frozen_setRow w g cs⟩⟩

def okApp (P : Program) (c : Call) (x y : XO) (sz bytes : Nat) : Bool := match c.callee, c.args.toList, c.argTypes.toList with
  | .builtin .append, [x', y'], [t, t'] => t == t' && okO x' x && okO y' y && (match P.underlying t with
      | some (.slice e) => (match P.info? e with
        | some i => i.size == sz && sz != 0 && i.bytes == bytes && bytes != 0 && (match i.zero with | some z => z.cells.size == sz | none => false)
        | none => false)
      | _ => false)
  | _, _, _ => false
def chkE (P : Program) (o : Op) (k : XK) : Bool := match k with
  | .st x y ag => (match o with | .store t x' y' => okO x' x && okO y' y && okAg P t ag | _ => false)
  | .box y _ => (match o with | .box _ x => okO x y | _ => false)
  | .alloc zs => (match o with
    | .alloc t => (match P.info? t with
      | some i => (match i.zero with | some z => okVs z.cells.toList zs | none => false)
      | none => false)
    | _ => false)
  | .app x y sz bytes => (match o with | .call c => okApp P c x y sz bytes | _ => false)
  | .mk x zs bytes => (match o with
    | .makeSlice t l c => okO l x && okO c x && (match P.underlying t with
      | some (.slice e) => (match P.info? e with
        | some i => i.size == zs.length && i.bytes == bytes && (match i.zero with | some z => okVs z.cells.toList (zs.map .c) | none => false)
        | none => false)
      | _ => false)
    | _ => false)
  | .mkf f x => (match o with | .makeFunc (.func g) fi ca => (match fi.toList, ca.toList with | [], [y] => g == f && okO y x | _, _ => false) | _ => false)
  | _ => false

/-- A store into a private variable. -/
theorem st_box (hs : Sim X n B w0 σ a w M) {o : Oper} {t : TypeId} {x y : Operand} {x' y' : XO} {ag : Option Nat} (ho : o.op = .store t x y) (hd : o.dst = none) (hx : okO x x' = true) (hy : okO y y' = true) (hag : okAg P t ag = true)
    {g g' : Bool} {i off : Nat} {p : PV} (e1 : σ.v x' = (g, .q (.box i off))) (e2 : σ.v y' = (g', p)) {qs ys : List Q} (hq : get? i σ.bx = some qs) (hys : cellsOf p ag = some ys) (hg : g = true) (hg' : g' = true) (hl : off + ys.length ≤ qs.length)
    {next : Act → World → Prop} {Q : Exit → Act → World → Prop} (hn : ∀ w' M', Sim X n B w0 { σ with bx := upd i (place qs off ys) σ.bx } a w' M' → next a w') : o.wp P a w next Q := by
  have rx := okO_rel (o := x) (x := x') hs.tm hx (by rw [e1]; exact hg); rw [e1] at rx
  have ry := okO_rel (o := y) (x := y') hs.tm hy (by rw [e2]; exact hg'); rw [e2] at ry
  obtain ⟨hrel, hlen⟩ := cellsOf_rel ry hys
  have hin := get?_mem hq
  obtain ⟨hB, ty, cells, hh, hsz, hc⟩ := hs.mem.box i qs hin
  simp only [RelV, RelQ] at rx
  have hrun := store_run (w := w) hag hh (v := a.eval y) (o := off) (by rw [hrel.1, hlen]) (by omega) hrel.all_one
  have hu := up_setRow (M := M) hs.mem.lt (g := M.β i) (cs := (cells.toList.take off ++ (a.eval y).cells.toList ++ cells.toList.drop (off + ag.getD 1)).toArray) (hs.mem.sb i qs hin)
  unfold Oper.wp
  have hex : (execOp a.eval o).run P w = .ok .skip (w.setRow (M.β i) (cells.toList.take off ++ (a.eval y).cells.toList ++ cells.toList.drop (off + ag.getD 1)).toArray) := by
    unfold execOp; rw [ho]; simp only [rx, Sem.run_bind, hrun]; rfl
  rw [hex]
  show next (a.put o.dst undef) _
  rw [hd]
  refine hn _ M ⟨hs.size, hs.defs, fun t p h => hu.v hs.mem.lt (hs.tm t p h), ?_, hs.fr.trans (hu.fr.weak hs.hB (fun g hg e => ?_)), by simpa using hs.hB, hs.sS, hs.sβ⟩
  · refine hs.mem.setBox hin hu (setRow_heap _ _ _ _ _ _ hh) ?_
    rw [← hlen] at hu ⊢
    exact (put_cells ⟨hsz, hc⟩ hrel hl).up hu hs.mem.lt
  · subst e
    rcases hB with h | h
    · omega
    · exact h
end
end Go.Proofs.Pw
namespace Go.Proofs.Pw
open Go.RowKit
set_option linter.unusedSectionVars false
variable [Globs]
section
variable {P : Program} {Γ : FuncId → Option Spec} {σ : St} {a : Act} {w w' : World} {M M' : Gh} {X : Nat → Prop} {B n : Nat} {w0 : W0}

theorem placeC_get (qs ys : List C) (o i : Nat) (h : o + ys.length ≤ qs.length) : (placeC qs o ys)[i]? = if o ≤ i ∧ i < o + ys.length then ys[i - o]? else qs[i]? := seg_get qs ys o i h
theorem placeC_len (qs ys : List C) (o : Nat) (h : o + ys.length ≤ qs.length) : (placeC qs o ys).length = qs.length := by unfold placeC; simp; omega

theorem row_part {sz i k j : Nat} (hj : j < sz) (hik : i ≠ k) : ∀ off len, off + len ≤ sz → ¬ (k * sz + off ≤ i * sz + j ∧ i * sz + j < k * sz + off + len) := by
  intro off len hl
  rcases Nat.lt_or_gt_of_ne hik with h | h
  · have := Nat.mul_le_mul_right sz (show i + 1 ≤ k by omega)
    rw [Nat.add_mul] at this; omega
  · have := Nat.mul_le_mul_right sz (show k + 1 ≤ i by omega)
    rw [Nat.add_mul] at this; omega
theorem row_fit {sz n k j : Nat} (hk : k < n) (hj : j < sz) : k * sz + j < n * sz := by
  have := Nat.mul_le_mul_right sz (show k + 1 ≤ n by omega)
  rw [Nat.add_mul] at this; omega

theorem st_row (hs : Sim X n B w0 σ a w M) {o : Oper} {t : TypeId} {x y : Operand} {x' y' : XO} {ag : Option Nat} (ho : o.op = .store t x y) (hd : o.dst = none) (hx : okO x x' = true) (hy : okO y y' = true) (hag : okAg P t ag = true)
    {g g' : Bool} {i sz k off : Nat} {p : PV} (e1 : σ.v x' = (g, .q (.rp i sz k off))) (e2 : σ.v y' = (g', p)) {es : List (List C)} {ys : List Q} {cs : List C} (hq : get? i σ.rw = some (sz, es)) (hys : cellsOf p ag = some ys) (hcs : allC ys = some cs)
    (hg : g = true) (hg' : g' = true) (hk : k < es.length) (hl : off + cs.length ≤ sz)
    {next : Act → World → Prop} {Q : Exit → Act → World → Prop} (hn : ∀ w' M', Sim X n B w0 { σ with rw := upd i (sz, es.set k (placeC (es.getD k []) off cs)) σ.rw } a w' M' → next a w') : o.wp P a w next Q := by
  have rx := okO_rel (o := x) (x := x') hs.tm hx (by rw [e1]; exact hg); rw [e1] at rx
  have ry := okO_rel (o := y) (x := y') hs.tm hy (by rw [e2]; exact hg'); rw [e2] at ry
  obtain ⟨hrel, hlen⟩ := cellsOf_rel ry hys
  obtain ⟨hc1, hc2⟩ := allC_rel hrel hcs
  have hcl : ys.length = cs.length := (allC_get hcs).1
  have hin := get?_mem hq
  obtain ⟨h0, hp, hmine⟩ := hs.mem.row i sz es hin
  obtain ⟨gg, nn, cap, hρ, hv⟩ := rx
  obtain ⟨e, us, hown, hf1, hf2, hf3⟩ : ∃ e us, w.ownsRow 0 e sz (M.ρ i) es.length us ∧ Flat w M.S sz es us := by
    rcases hp with h | ⟨rfl, _⟩
    · exact h
    · simp at hk
  rw [hρ] at hown
  obtain ⟨hul, hown⟩ := hown
  obtain ⟨gg', cap', cur, hh, _, hheap, hnc, hcm, hcs', htake⟩ := hown.resolve_left (fun h => by cases h.1)
  injection hh with h1 h2 h3
  injection h1 with h1
  injection h1 with h1
  subst h1 h2 h3
  have hel : es[k]? = some (es.getD k []) := by simp [List.getD, List.getElem?_eq_getElem hk]
  generalize es.getD k [] = ek at *
  have hesz := hf1 k _ hel
  have hfit : k * sz + off + cs.length ≤ es.length * sz := by
    have := Nat.mul_le_mul_right sz (show k + 1 ≤ es.length by omega)
    rw [Nat.add_mul] at this; omega
  have hnc' := Nat.mul_le_mul_right sz hnc
  have hgd : ag.getD 1 = cs.length := by omega
  have hrun := store_run (w := w) hag hheap (v := a.eval y) (o := k * sz + off) (by rw [hrel.1, hlen]) (by omega) hrel.all_one
  have hpb : pblk (M.ρ i) gg := by
    rw [hρ]
    cases cap with
    | zero => omega
    | succ c => simp [pblk]
  have hnS : ¬ M.S gg := hs.mem.sr i _ gg hin hpb
  have hu0 := up_setRow (M := M) hs.mem.lt (g := gg) (cs := (cur.toList.take (k * sz + off) ++ (a.eval y).cells.toList ++ cur.toList.drop (k * sz + off + ag.getD 1)).toArray) hnS
  generalize hw' : w.setRow gg (cur.toList.take (k * sz + off) ++ (a.eval y).cells.toList ++ cur.toList.drop (k * sz + off + ag.getD 1)).toArray = w' at *
  have hheap' : w'.heap[gg]? = some (.cells (cur.toList.take (k * sz + off) ++ (a.eval y).cells.toList ++ cur.toList.drop (k * sz + off + ag.getD 1)).toArray e (0, 0)) := by
    rw [← hw']; exact setRow_heap _ _ _ _ _ _ hheap
  have hu : Up (pblk (M.ρ i)) w M w' M := ⟨hu0.β, hu0.ρ, hu0.S, hu0.new, hu0.lt, fun k hk hp => hs.mem.sr i _ k hin hp hk, hu0.fr.weak (Nat.le_refl _) (fun k _ e => by rw [e]; exact hpb)⟩
  unfold Oper.wp
  have hex : (execOp a.eval o).run P w = .ok .skip w' := by
    unfold execOp; rw [ho]; simp only [hv, Sem.run_bind, hrun]; rfl
  rw [hex]
  show next (a.put o.dst undef) _
  rw [hd]
  refine hn _ M ⟨hs.size, hs.defs, fun t p h => hu.v hs.mem.lt (hs.tm t p h), ?_, hs.fr.trans (hu.fr.weak hs.hB (fun g hg e => ?_)), Nat.le_trans hs.hB hu.fr.size, hs.sS, hs.sβ⟩
  · refine hs.mem.setRow hin hu h0 (.inl ⟨e, (cur.toList.take (k * sz + off) ++ (a.eval y).cells.toList ++ cur.toList.drop (k * sz + off + ag.getD 1)).take (es.length * sz), ?_, ?_⟩)
    · rw [hρ, List.length_set]
      refine ⟨?_, .inr ⟨gg, cap, _, rfl, Nat.zero_le _, hheap', hnc, hcm, ?_, by simp⟩⟩
      · have hvl : (a.eval y).cells.toList.length = cs.length := by simpa using hc1
        simp only [List.length_take, List.length_append, List.length_drop, Array.length_toList]; omega
      · have hvl : (a.eval y).cells.toList.length = cs.length := by simpa using hc1
        simp only [List.size_toArray, List.length_append, List.length_take, List.length_drop, Array.length_toList]; omega
    · have hvl : (a.eval y).cells.toList.length = cs.length := by simpa using hc1
      have hcurl : cur.toList.length = cap * sz := by simpa using hcs'
      have hseg := fun q => seg_get cur.toList (a.eval y).cells.toList (k * sz + off) q (by rw [hvl]; omega)
      rw [hvl] at hseg
      rw [hgd]
      have hold : ∀ q, q < es.length * sz → cur.toList[q]? = us[q]? := fun q hq => by
        rw [← htake, List.getElem?_take, if_pos hq]
      refine ⟨fun i' e' hi' => ?_, ?_, fun i' j e' c hi' hj => ?_⟩
      · rw [List.getElem?_set] at hi'
        split at hi'
        · simp at hi'; subst hi'; rw [placeC_len _ _ _ (by rw [hesz]; exact hl)]; exact hesz
        · exact hf1 _ _ hi'
      · simp only [List.length_take, List.length_append, List.length_drop, List.length_set]; omega
      · rw [List.getElem?_set] at hi'
        split at hi'
        · rename_i heq; subst heq
          simp at hi'; subst hi'
          rw [placeC_get _ _ _ _ (by rw [hesz]; exact hl)] at hj
          split at hj
          · rename_i hh
            obtain ⟨u, g1, g2⟩ := hc2 _ c hj
            refine ⟨u, ?_, hu.rep hs.mem.lt g2⟩
            rw [List.getElem?_take, if_pos (by omega), hseg, if_pos (by omega)]
            rw [show k * sz + j - (k * sz + off) = j - off by omega]
            simpa using g1
          · rename_i hh
            have hjsz : j < sz := by have := (List.getElem?_eq_some_iff.1 hj).1; omega
            obtain ⟨u, g1, g2⟩ := hf3 k j _ c hel hj
            refine ⟨u, ?_, hu.rep hs.mem.lt g2⟩
            have := row_fit hk hjsz
            rw [List.getElem?_take, if_pos (by omega), hseg, if_neg (by omega), hold _ (by omega)]
            exact g1
        · rename_i hne
          have hjsz : j < sz := by have := (List.getElem?_eq_some_iff.1 hj).1; rw [hf1 _ _ hi'] at this; exact this
          have hilt : i' < es.length := (List.getElem?_eq_some_iff.1 hi').1
          obtain ⟨u, g1, g2⟩ := hf3 i' j _ c hi' hj
          refine ⟨u, ?_, hu.rep hs.mem.lt g2⟩
          have := row_fit hilt hjsz
          rw [List.getElem?_take, if_pos (by omega), hseg, if_neg (row_part hjsz (fun e => hne e.symm) off cs.length hl), hold _ (by omega)]
          exact g1
  · rcases hmine g e with h | h
    · omega
    · exact h
end
end Go.Proofs.Pw
namespace Go.Proofs.Pw
open Go.RowKit
set_option linter.unusedSectionVars false
variable [Globs]
section
variable {P : Program} {Γ : FuncId → Option Spec} {σ : St} {a : Act} {w w' : World} {M M' : Gh} {X : Nat → Prop} {B n : Nat} {w0 : W0}

theorem Sim.mapPut (hs : Sim X n B w0 σ a w M) {d : Nat} (hd : d < n) {f : Q → Q} (hf : ∀ q v, RelQ w M q v → RelQ w' M' (f q) v) {bx' : List (Nat × List Q)} {rw' : List (Nat × Nat × List (List C))}
    (hm : Mem X B bx' rw' w' M') (hfr : Fr X B w w') {p : PV} {v : Value} (hv : RelV w' M' p v) (hS : M'.S = M.S) (hβ : ∀ i, n ≤ i → M'.β i = M.β i) : Sim X n B w0 ⟨upd d p (σ.map f).tm, bx', rw'⟩ (a.put (some d) v) w' M' := by
  refine ⟨by simpa [Act.put] using hs.size, hs.defs, fun t p' h => ?_, hm, hs.fr.trans hfr, Nat.le_trans hs.hB hfr.size, fun g hg => hs.sS g (hS ▸ hg), fun i hi => (hβ i hi).trans (hs.sβ i hi)⟩
  have hdn : d < a.tmps.size := by rw [hs.size]; exact hd
  rcases upd_mem h with ⟨rfl, rfl⟩ | ⟨hne, h⟩
  · simpa [Act.put, Array.getD, hdn] using hv
  · simp only [St.map, List.mem_map, Prod.mk.injEq] at h
    obtain ⟨⟨t', p0⟩, h1, rfl, rfl⟩ := h
    have he : (a.put (some d) v).tmps.getD t' undef = a.tmps.getD t' undef := by
      simp only [Act.put, Array.getD_eq_getD_getElem?, Array.getElem?_setIfInBounds]
      rw [if_neg (fun e => hne e.symm)]
    show RelV w' M' _ ((a.put (some d) v).tmps.getD t' undef)
    rw [he]; exact map_v hf (hs.tm _ _ h1)

theorem box_eff (hs : Sim X n B w0 σ a w M) {o : Oper} {d : Nat} (hd : o.dst = some d) (hdn : d < n) {cells : Array Value} {t : TypeId} {qs : List Q} (hr : RelCs w M qs cells)
    (hrun : (execOp a.eval o).run P w = .ok (.value (.pointer (some ⟨w.heap.size, 0, none⟩))) (w.alloc (.cells cells t)))
    {next : Act → World → Prop} {E : Exit → Act → World → Prop}
    (hn : ∀ a' w' M', Sim X n B w0 { tm := upd d (.q (.box d 0)) (σ.map (Q.killB d)).tm, bx := upd d (qs.map (Q.killB d)) (σ.map (Q.killB d)).bx, rw := σ.rw } a' w' M' → next a' w') : o.wp P a w next E := by
  refine upon_value hrun (hn _ _ (M.nb d w.heap.size) ?_)
  obtain ⟨h1, h2⟩ := hs.mem.newBox hs.hB d (t := t) hr
  rw [hd]
  refine hs.mapPut hdn (nb_q h2 hs.mem.lt) h1 (h2.fr.weak hs.hB (fun _ _ h => h.elim)) ?_ rfl (fun i hi => by simp only [Gh.nb]; rw [if_neg (by omega)])
  simp only [RelV, RelQ, Gh.nb, if_true]

theorem pubB_q {i : Nat} {cs : List C} (hr : ∀ (o : Nat), RelQ w { M with S := fun g => M.S g ∨ g = M.β i } (.el (cs.drop o)) (.pointer (some ⟨M.β i, o, none⟩))) (q : Q) (v : Value) (h : RelQ w M q v) : RelQ w { M with S := fun g => M.S g ∨ g = M.β i } (q.pubB i cs) v := by
  have mono : ∀ {c v}, Rep w M.S c v → Rep w (fun g => M.S g ∨ g = M.β i) c v := fun h => h.mono (fun _ h => .inl h) (fun _ _ => rfl)
  cases q with
  | no => trivial
  | c x => exact mono h
  | z _ => exact h
  | full sz es => exact ⟨mono h.1, h.2⟩
  | own j => exact h
  | box j o =>
    simp only [Q.pubB]
    split
    · rename_i he; subst he
      have : v = .pointer (some ⟨M.β j, o, none⟩) := h
      subst this; exact hr o
    · exact h
  | el xs =>
    obtain ⟨A, h1, h2⟩ := h
    exact ⟨A, h1, fun j c hc => by obtain ⟨u, g1, g2, g3⟩ := h2 j c hc; exact ⟨u, g1, .inl g2, mono g3⟩⟩
  | rp j sz k o => exact h
theorem mkf_eff (hs : Sim X n B w0 σ a w M) {o : Oper} {d i : Nat} (hd : o.dst = some d) (hdn : d < n) {f : FuncId} {y : Operand} {qs : List Q} {cs : List C} (hq : get? i σ.bx = some qs) (hcs : allC qs = some cs)
    (hy : a.eval y = .pointer (some ⟨M.β i, 0, none⟩)) (ho : o.op = .makeFunc (.func f) #[] #[y])
    {next : Act → World → Prop} {E : Exit → Act → World → Prop}
    (hn : ∀ a' w' M', Sim X n B w0 { tm := upd d (.q (.c (.clo f [.ptr cs]))) (σ.map (Q.pubB i cs)).tm, bx := del i (σ.map (Q.pubB i cs)).bx, rw := σ.rw } a' w' M' → next a' w') : o.wp P a w next E := by
  have hin := get?_mem hq
  obtain ⟨hB, t, cells, h1, h2, h3⟩ := hs.mem.box i qs hin
  obtain ⟨h4, h5⟩ := allC_rel ⟨h2, h3⟩ hcs
  have hlt : M.β i < w.heap.size := (Array.getElem?_eq_some_iff.1 h1).1
  have mono : ∀ {c v}, Rep w M.S c v → Rep w (fun g => M.S g ∨ g = M.β i) c v := fun h => h.mono (fun _ h => .inl h) (fun _ _ => rfl)
  have hr : ∀ (o : Nat), RelQ w { M with S := fun g => M.S g ∨ g = M.β i } (.el (cs.drop o)) (.pointer (some ⟨M.β i, o, none⟩)) := fun o => by
    refine ⟨_, rfl, fun j c hj => ?_⟩
    rw [List.getElem?_drop] at hj
    obtain ⟨u, g1, g2⟩ := h5 _ c hj
    refine ⟨u, ?_, .inr rfl, mono g2⟩
    rw [Addr.add_lit]
    simp [World.cell?, h1, g1]
  have hq' := pubB_q (M := M) (w := w) hr
  have hbx : ∀ {i' q1}, (i', q1) ∈ del i (σ.map (Q.pubB i cs)).bx → i' ≠ i ∧ ∃ q, (i', q) ∈ σ.bx ∧ q1 = q.map (Q.pubB i cs) := fun {i' q1} h' => by
    obtain ⟨hne, h'⟩ := del_mem h'
    simp only [St.map, List.mem_map, Prod.mk.injEq] at h'
    obtain ⟨⟨j, q⟩, hj, rfl, rfl⟩ := h'
    exact ⟨hne, q, hj, rfl⟩
  have hmem : Mem X B (del i (σ.map (Q.pubB i cs)).bx) σ.rw w { M with S := fun g => M.S g ∨ g = M.β i } := by
    refine ⟨fun i' q1 h' => ?_, fun i' sz' es' h' => ?_, fun i' q1 j q2 h1 h2 hne => ?_, fun i' q1 j r h1 h2 hg => ?_, hs.mem.rr, fun g h => ?_, fun i' q1 h1 h => ?_, fun i' r g h1 hg h => ?_, fun j c hi => ?_⟩
    · obtain ⟨hne, q, hj, rfl⟩ := hbx h'
      obtain ⟨hB', t', cells', h1, h2, h3⟩ := hs.mem.box i' q hj
      exact ⟨hB', t', cells', h1, map_cs hq' ⟨h2, h3⟩⟩
    · obtain ⟨h1, h2, h3⟩ := hs.mem.row i' sz' es' h'
      exact ⟨h1, h2.move (fun _ h => .inl h) (fun _ _ => rfl) (fun _ _ => rfl), h3⟩
    · obtain ⟨_, q, hj, _⟩ := hbx h1; obtain ⟨_, q', hj', _⟩ := hbx h2
      exact hs.mem.bb _ _ _ _ hj hj' hne
    · obtain ⟨_, q, hj, _⟩ := hbx h1
      exact hs.mem.br _ _ _ _ hj h2 hg
    · rcases h with h | rfl
      · exact hs.mem.lt g h
      · exact hlt
    · obtain ⟨hne, q, hj, _⟩ := hbx h1
      rcases h with h | h
      · exact hs.mem.sb _ _ hj h
      · exact hs.mem.bb _ _ _ _ hj hin hne h
    · rcases h with h | rfl
      · exact hs.mem.sr _ _ g h1 hg h
      · exact hs.mem.br _ _ _ _ hin h1 hg
    · obtain ⟨k1, u, k2, k3⟩ := hs.mem.gl j c hi
      exact ⟨.inl k1, u, k2, mono k3⟩
  have hrun : (execOp a.eval o).run P w = .ok (.value (.func (.func f) #[] #[a.eval y])) w := by
    simp [execOp, ho, Instr.makeFunc]
  refine upon_value hrun (hn _ _ { M with S := fun g => M.S g ∨ g = M.β i } ?_)
  rw [hd]
  refine ⟨by simpa [Act.put] using hs.size, hs.defs, fun t p' h => ?_, hmem, hs.fr, hs.hB, fun g hg => ?_, hs.sβ⟩
  · have hdn' : d < a.tmps.size := by rw [hs.size]; exact hdn
    rcases upd_mem h with ⟨rfl, rfl⟩ | ⟨hne, h⟩
    · have : (a.put (some t) (.func (.func f) #[] #[a.eval y])).tmps.getD t undef = .func (.func f) #[] #[a.eval y] := by simp [Act.put, Array.getD, hdn']
      rw [this]
      have hp := el_rep (hr 0)
      rw [List.drop_zero, ← hy] at hp
      exact Rep.clo f [.ptr cs] [a.eval y] (fun _ => a.eval y) rfl (fun j c hj => by cases j <;> simp_all) (fun j c hj => by
        cases j with
        | zero => simp at hj; subst hj; exact hp
        | succ j => simp at hj)
    · simp only [St.map, List.mem_map, Prod.mk.injEq] at h
      obtain ⟨⟨t', p0⟩, h1, rfl, rfl⟩ := h
      have he : (a.put (some d) (.func (.func f) #[] #[a.eval y])).tmps.getD t' undef = a.tmps.getD t' undef := by
        simp only [Act.put, Array.getD_eq_getD_getElem?, Array.getElem?_setIfInBounds]
        rw [if_neg (fun e => hne e.symm)]
      show RelV w _ _ ((a.put (some d) _).tmps.getD t' undef)
      rw [he]; exact map_v hq' (hs.tm _ _ h1)
  · rcases hg with h | rfl
    · exact hs.sS g h
    · exact .inr hB

theorem alloc_up (hl : ∀ g, M.S g → g < w.heap.size) (cc : Array Value) (tt : TypeId) : Up (fun _ => False) w M (w.alloc (.cells cc tt)) M :=
  ⟨rfl, rfl, fun _ h => h, fun _ h => .inl h, fun g hg => by simp; have := hl g hg; omega, fun _ _ h => h, ⟨rfl, rfl, rfl, by simp, fun k hk _ => Below.heap_alloc _ _ _ hk, frozen?_alloc_cells _ _ _⟩⟩

/-- The cells of a row that is read. -/
theorem rep_cells {sz : Nat} {es : List (List C)} {v : Value} (h : Rep w M.S (.row sz es) v) : ∃ A c, v = .slice A es.length c ∧ es.length ≤ c ∧ (es = [] ∨ ∃ ad us, A = some ad ∧ Flat w M.S sz es us ∧ (∀ j u, us[j]? = some u → w.cell? (ad.add j) = some u) ∧ ∀ u ∈ us, u.oneCell' = true) := by
  cases h with
  | nil _ A c => exact ⟨A, c, rfl, Nat.zero_le _, .inl rfl⟩
  | row _ _ ad c u hcap hS hsz hc hr =>
    refine ⟨some ad, c, rfl, hcap, .inr ⟨ad, (List.range (es.length * sz)).map u, rfl, ⟨hsz, by simp, fun i j e c he hj => ?_⟩, fun j uu hj => ?_, fun uu hu => ?_⟩⟩
    · have hlt : j < sz := by have := (List.getElem?_eq_some_iff.1 hj).1; rw [hsz i e he] at this; exact this
      have hilt : i < es.length := (List.getElem?_eq_some_iff.1 he).1
      have := row_fit hilt hlt
      exact ⟨u (i * sz + j), by simp [this], hr i j e c he hj⟩
    · simp only [List.getElem?_map, Option.map_eq_some_iff] at hj
      obtain ⟨j', hj', rfl⟩ := hj
      have hlt : j < es.length * sz := by have := (List.getElem?_eq_some_iff.1 hj').1; simpa using this
      simp [hlt] at hj'; subst hj'
      have h0 : 0 < sz := by rcases Nat.eq_zero_or_pos sz with h | h; · subst h; simp at hlt
                             · exact h
      have hi : j / sz < es.length := Nat.div_lt_of_lt_mul (by rw [Nat.mul_comm]; exact hlt)
      have he := List.getElem?_eq_getElem hi
      have hm : j % sz < (es[j / sz]).length := by rw [hsz _ _ he]; exact Nat.mod_lt _ h0
      have := hc (j / sz) (j % sz) _ _ he (List.getElem?_eq_getElem hm)
      rwa [show j / sz * sz + j % sz = j by rw [Nat.mul_comm]; exact Nat.div_add_mod j sz] at this
    · simp only [List.mem_map, List.mem_range] at hu
      obtain ⟨j, hlt, rfl⟩ := hu
      have h0 : 0 < sz := by rcases Nat.eq_zero_or_pos sz with h | h; · subst h; simp at hlt
                             · exact h
      have hi : j / sz < es.length := Nat.div_lt_of_lt_mul (by rw [Nat.mul_comm]; exact hlt)
      have he := List.getElem?_eq_getElem hi
      have hm : j % sz < (es[j / sz]).length := by rw [hsz _ _ he]; exact Nat.mod_lt _ h0
      have := (hr (j / sz) (j % sz) _ _ he (List.getElem?_eq_getElem hm)).one
      rwa [show j / sz * sz + j % sz = j by rw [Nat.mul_comm]; exact Nat.div_add_mod j sz] at this

theorem Flat.append {S : Nat → Prop} {sz : Nat} {es ys : List (List C)} {us vs : List Value} (h : Flat w S sz es us) (k : Flat w S sz ys vs) : Flat w S sz (es ++ ys) (us ++ vs) := by
  refine ⟨fun i e hi => ?_, by rw [List.length_append, List.length_append, h.2.1, k.2.1, Nat.add_mul], fun i j e c hi hj => ?_⟩
  · by_cases hlt : i < es.length
    · rw [List.getElem?_append_left hlt] at hi; exact h.1 i e hi
    · rw [List.getElem?_append_right (by omega)] at hi; exact k.1 _ e hi
  · by_cases hlt : i < es.length
    · rw [List.getElem?_append_left hlt] at hi
      obtain ⟨u, h1, h2⟩ := h.2.2 i j e c hi hj
      exact ⟨u, by rw [List.getElem?_append_left (List.getElem?_eq_some_iff.1 h1).1]; exact h1, h2⟩
    · rw [List.getElem?_append_right (by omega)] at hi
      obtain ⟨u, h1, h2⟩ := k.2.2 _ j e c hi hj
      refine ⟨u, ?_, h2⟩
      have e1 : i * sz = es.length * sz + (i - es.length) * sz := by rw [← Nat.add_mul]; congr 1; omega
      rw [List.getElem?_append_right (by rw [h.2.1]; omega), h.2.1, show i * sz + j - es.length * sz = (i - es.length) * sz + j by omega]
      exact h1
theorem Flat.nil {S : Nat → Prop} {sz : Nat} : Flat w S sz [] [] := ⟨by simp, by simp, by simp⟩

/-- A row in a new block. -/
theorem grown_priv {S : Nat → Prop} {sz : Nat} {es ys : List (List C)} {olds news : List Value} (h : Flat w S sz es olds) (k : Flat w S sz ys news) (hl : ∀ g, S g → g < w.heap.size) {z : Value} (hz : z.cells.size = sz) {e : TypeId} {cap : Nat}
    (h1 : es.length + ys.length ≤ cap) (h2 : cap ≤ maxLen) :
    Priv (w.drew.alloc (.cells (olds.toArray ++ news.toArray ++ Builtin.zeroCells z.cells (cap - (es.length + ys.length))) e)) S sz (es ++ ys) (.slice (some ⟨w.heap.size, 0, none⟩) (es.length + ys.length) cap) := by
  have hm : ∀ g, S g → (w.drew.alloc (.cells (olds.toArray ++ news.toArray ++ Builtin.zeroCells z.cells (cap - (es.length + ys.length))) e)).heap[g]? = w.heap[g]? := fun g hg => Below.heap_alloc w.drew _ g (by simpa using hl g hg)
  refine .inl ⟨e, olds ++ news, ⟨by rw [List.length_append, List.length_append, h.2.1, k.2.1, Nat.add_mul], .inr ⟨w.heap.size, cap, _, by rw [List.length_append], Nat.zero_le _, heap_alloc_new w.drew _, by rw [List.length_append]; exact h1, h2, ?_, ?_⟩⟩, (h.append k).mono (fun _ h => h) hm⟩
  · simp only [Array.size_append, List.size_toArray, size_zeroCells, h.2.1, k.2.1, hz]
    rw [← Nat.add_mul, ← Nat.add_mul]; congr 1; omega
  · simp only [Array.toList_append, List.length_append]
    rw [List.take_append_of_le_length (by simp [h.2.1, k.2.1, Nat.add_mul])]
    exact List.take_of_length_le (by simp [h.2.1, k.2.1, Nat.add_mul])

theorem append_nil_run {t ty e : TypeId} {ti : TypeInfo} (ht : P.underlying t = some (.slice e)) (hi : P.info? e = some ti) {A A' : Option Addr} {m c c' : Nat} (hm : m ≤ c) :
    (Builtin.append_ #[t, t] ty #[.slice A m c, .slice A' 0 c']).run P w = .ok (.slice A m c) w := by
  cases A <;> cases A' <;> simp [Builtin.append_, run_underlying ht, sizeOf, typeInfo, hi, Builtin.lenOf, Builtin.firstCells, hm, storeCells, loadCells, loadCellsFrom]

/-- What an append leaves: of a slice whose capacity is its length. -/
theorem append_full {t ty e : TypeId} {ti : TypeInfo} {z : Value} {sz bytes : Nat} (ht : P.underlying t = some (.slice e)) (hi : P.info? e = some ti) (hsz : ti.size = sz) (hby : ti.bytes = bytes) (hz : ti.zero = some z) (hzs : z.cells.size = sz)
    (hl : ∀ g, M.S g → g < w.heap.size) {A : Option Addr} {vy : Value} {es ys : List (List C)} (hy : Rep w M.S (.row sz ys) vy) (hb : (es.length + ys.length) * bytes ≤ 140737488355328) (hmx : es.length + ys.length ≤ 9223372036854775807)
    (ho : es = [] ∨ Rep w M.S (.row sz es) (.slice A es.length es.length)) (hne : es = [] ∨ 0 < ys.length) :
    ∃ v' w', (Builtin.append_ #[t, t] ty #[.slice A es.length es.length, vy]).run P w = .ok v' w' ∧ Priv w' M.S sz (es ++ ys) v' ∧ Fr (fun _ => False) w.heap.size w w' ∧ (∀ g, pblk v' g → w.heap.size ≤ g) := by
  obtain ⟨A', c', rfl, hcy, hy⟩ := rep_cells hy
  by_cases hys : ys = []
  · subst hys
    have hes : es = [] := by rcases hne with h | h; · exact h
                             · simp at h
    subst hes
    exact ⟨_, w, append_nil_run ht hi (Nat.le_refl _), .inr ⟨rfl, A, rfl⟩, Fr.refl _ _ _, fun g hg => by cases A <;> simp [pblk] at hg⟩
  · obtain ⟨ad, us, rfl, hf, hcell, _⟩ := hy.resolve_left hys
    have hpos : 0 < ys.length := by cases ys with
      | nil => exact absurd rfl hys
      | cons _ _ => simp
    have hgc := grownCap_ge w (es.length + ys.length) es.length e
    have hgm := grownCap_le_maxLen w (es.length + ys.length) es.length e (by simp only [maxLen]; omega)
    have hfr : ∀ cc tt, Fr (fun _ => False) w.heap.size w (w.drew.alloc (.cells cc tt)) := fun cc tt => ⟨rfl, rfl, rfl, by simp, fun k hk _ => Below.heap_alloc w.drew _ k (by simpa using hk), fun a => frozen?_alloc_cells w.drew _ _ a⟩
    have hpb : ∀ n c g, pblk (.slice (some ⟨w.heap.size, 0, none⟩) n c) g → w.heap.size ≤ g := fun n c g hg => by
      cases c <;> simp [pblk] at hg; omega
    have h63 : ((es.length + ys.length : Nat) : Int) ≤ 9223372036854775807 := by omega
    have hfit := growslice_fits (need := es.length + ys.length) (old := es.length) (bytes := ti.bytes) (by omega) (by rw [hby]; exact hb)
    by_cases hA : A = none ∧ es = []
    · obtain ⟨rfl, rfl⟩ := hA
      simp only [List.length_nil, Nat.zero_add] at *
      have hr := run_append_nil (P := P) w t ty e ti z ht hi hz ad ys.length c' us (by rw [hf.2.1, hsz]) hcell hpos h63 (by rw [hby]; omega)
      have hg := grown_priv (w := w) (S := M.S) (e := e) (Flat.nil (w := w) (S := M.S) (sz := sz)) hf hl hzs (cap := grownCap w ys.length 0 e) (by simpa using hgc) hgm
      simp only [List.nil_append, List.length_nil, Nat.zero_add] at hg
      refine ⟨_, _, hr, ?_, hfr _ _, hpb _ _⟩
      simpa using hg
    · obtain ⟨b, olds, rfl, hfo, hco⟩ : ∃ b olds, A = some b ∧ Flat w M.S sz es olds ∧ ∀ j u, olds[j]? = some u → w.cell? (b.add j) = some u := by
        rcases ho with he | ho
        · subst he
          cases A with
          | none => exact absurd ⟨rfl, rfl⟩ hA
          | some b => exact ⟨b, [], rfl, Flat.nil, by simp⟩
        · obtain ⟨A2, c2, he, _, h2⟩ := rep_cells ho
          injection he with e1 _ e3
          rcases h2 with h2 | ⟨b, olds, h3, h4, h5, _⟩
          · subst h2
            cases A with
            | none => exact absurd ⟨rfl, rfl⟩ hA
            | some b => exact ⟨b, [], rfl, Flat.nil, by simp⟩
          · exact ⟨b, olds, e1.trans h3, h4, h5⟩
      have hr := run_append_grow (P := P) w t ty e ti z ht hi hz b es.length es.length olds (by rw [hfo.2.1, hsz]) hco ad ys.length c' us (by rw [hf.2.1, hsz]) hcell (by omega) h63 hfit
      exact ⟨_, _, hr, grown_priv hfo hf hl hzs hgc hgm, hfr _ _, hpb _ _⟩

theorem append_room {t ty e e' : TypeId} {i : TypeInfo} (ht : P.underlying t = some (.slice e)) (hi : P.info? e = some i)
    {g sLen sCap : Nat} {cur : Array Value} (hg : w.heap[g]? = some (.cells cur e' (0, 0)))
    {b : Addr} {m c : Nat} {news : List Value} (hl : news.length = m * i.size) (hnews : ∀ j u, news[j]? = some u → w.cell? (b.add j) = some u) (h1 : ∀ u ∈ news, u.oneCell' = true)
    (hroom : sLen + m ≤ sCap) (hfit : sLen * i.size + news.length ≤ cur.size) :
    (Builtin.append_ #[t, t] ty #[.slice (some ⟨g, 0, none⟩) sLen sCap, .slice (some b) m c]).run P w =
      .ok (.slice (some ⟨g, 0, none⟩) (sLen + m) sCap) (w.setRow g (cur.toList.take (sLen * i.size) ++ news ++ cur.toList.drop (sLen * i.size + news.length)).toArray) := by
  have hf := run_firstCells_some (P := P) w i.size m b m c news hl hnews
  have hst := run_storeCells_at P g (sLen * i.size) e' news 0 cur w hg (by simpa using hfit) h1
  simp only [Nat.add_zero] at hst
  simp [Builtin.append_, run_underlying ht, sizeOf, typeInfo, hi, Builtin.lenOf, hroom, hf, Addr.add_lit, hst]

/-- What an append leaves: of a private row. -/
theorem append_own {t ty e : TypeId} {ti : TypeInfo} {z : Value} {sz bytes : Nat} (ht : P.underlying t = some (.slice e)) (hi : P.info? e = some ti) (hsz : ti.size = sz) (hby : ti.bytes = bytes) (hz : ti.zero = some z) (hzs : z.cells.size = sz)
    (hl : ∀ g, M.S g → g < w.heap.size) {vo vy : Value} {es ys : List (List C)} (hy : Rep w M.S (.row sz ys) vy) (hb : (es.length + ys.length) * bytes ≤ 140737488355328) (hmx : es.length + ys.length ≤ 9223372036854775807)
    (ho : Priv w M.S sz es vo) (hS : ∀ g, pblk vo g → ¬ M.S g) :
    ∃ v' w', (Builtin.append_ #[t, t] ty #[vo, vy]).run P w = .ok v' w' ∧ Priv w' M.S sz (es ++ ys) v' ∧ Fr (pblk vo) w.heap.size w w' ∧ (∀ g, pblk v' g → w.heap.size ≤ g ∨ pblk vo g) := by
  have zero : ∀ A, es = [] → vo = .slice A 0 0 → ∃ v' w', (Builtin.append_ #[t, t] ty #[vo, vy]).run P w = .ok v' w' ∧ Priv w' M.S sz (es ++ ys) v' ∧ Fr (pblk vo) w.heap.size w w' ∧ (∀ g, pblk v' g → w.heap.size ≤ g ∨ pblk vo g) := by
    intro A he hv
    subst he hv
    obtain ⟨v', w', h1, h2, h3, h4⟩ := append_full (es := []) (A := A) ht hi hsz hby hz hzs hl hy hb hmx (.inl rfl) (.inl rfl)
    exact ⟨v', w', h1, h2, h3.weak (Nat.le_refl _) (fun _ _ h => h.elim), fun g hg => .inl (h4 g hg)⟩
  rcases ho with ⟨e', olds, hown, hfo⟩ | ⟨he, A, hv⟩
  · rcases hown.2 with ⟨rfl, h0⟩ | ⟨g, cap, cur, rfl, _, hheap, hnc, hcm, hcs, htake⟩
    · exact zero none (List.eq_nil_of_length_eq_zero h0) rfl
    · cases cap with
      | zero => exact zero _ (List.eq_nil_of_length_eq_zero (by omega)) (by rw [show es.length = 0 by omega])
      | succ cap =>
        have hco : ∀ j u, olds[j]? = some u → w.cell? ((⟨g, 0, none⟩ : Addr).add j) = some u := hown.cells rfl
        have hee : e' = e' := rfl
        obtain ⟨A', c', rfl, hcy, hy⟩ := rep_cells hy
        by_cases hys : ys = []
        · subst hys
          refine ⟨_, w, append_nil_run ht hi hnc, ?_, Fr.refl _ _ _, fun g' hg => .inr hg⟩
          rw [List.append_nil]; exact .inl ⟨e', olds, hown, hfo⟩
        · obtain ⟨ad, us, rfl, hf, hcell, hone⟩ := hy.resolve_left hys
          have hpos : 0 < ys.length := by cases ys with
            | nil => exact absurd rfl hys
            | cons _ _ => simp
          by_cases hroom : es.length + ys.length ≤ cap + 1
          · have hmul := Nat.mul_le_mul_right sz hroom
            rw [Nat.add_mul] at hmul
            have hr := append_room (P := P) (ty := ty) ht hi hheap (m := ys.length) (c := c') (by rw [hf.2.1, hsz]) hcell hone hroom (by rw [hsz, hf.2.1, hcs]; omega)
            rw [hsz, hf.2.1] at hr
            have hnS : ¬ M.S g := hS g (by simp [pblk])
            have hsame : ∀ g', M.S g' → (w.setRow g (cur.toList.take (es.length * sz) ++ us ++ cur.toList.drop (es.length * sz + ys.length * sz)).toArray).heap[g']? = w.heap[g']? := fun g' hg' => setRow_other w g g' _ (fun e => hnS (e ▸ hg'))
            refine ⟨_, _, hr, .inl ⟨e', olds ++ us, ⟨by rw [List.length_append, List.length_append, hfo.2.1, hf.2.1, Nat.add_mul], .inr ⟨g, cap + 1, _, by rw [List.length_append], Nat.zero_le _, setRow_heap _ _ _ _ _ _ hheap, by rw [List.length_append]; exact hroom, hcm, ?_, ?_⟩⟩, (hfo.append hf).mono (fun _ h => h) hsame⟩, ⟨rfl, rfl, rfl, by simp, fun k _ hk => setRow_other w g k _ (fun e => hk (by rw [e]; simp [pblk])), frozen_setRow w g _⟩, fun g' hg => .inr (by simpa [pblk] using hg)⟩
            · have := hf.2.1
              simp only [List.size_toArray, List.length_append, List.length_take, List.length_drop, Array.length_toList]; omega
            · rw [List.length_append, Nat.add_mul, htake]
              have h1 := hfo.2.1; have h2 := hf.2.1
              rw [List.take_append_of_le_length (by rw [List.length_append, h1, h2]; omega)]
              exact List.take_of_length_le (by rw [List.length_append, h1, h2]; omega)
          · have hgc := grownCap_ge w (es.length + ys.length) (cap + 1) e
            have hgm := grownCap_le_maxLen w (es.length + ys.length) (cap + 1) e (by simp only [maxLen]; omega)
            have h63 : ((es.length + ys.length : Nat) : Int) ≤ 9223372036854775807 := by omega
            have hfit := growslice_fits (need := es.length + ys.length) (old := cap + 1) (bytes := ti.bytes) (by omega) (by rw [hby]; exact hb)
            have hr := run_append_grow (P := P) w t ty e ti z ht hi hz ⟨g, 0, none⟩ es.length (cap + 1) olds (by rw [hfo.2.1, hsz]) hco ad ys.length c' us (by rw [hf.2.1, hsz]) hcell (by omega) h63 hfit
            refine ⟨_, _, hr, grown_priv hfo hf hl hzs hgc hgm, ⟨rfl, rfl, rfl, by simp, fun k hk _ => Below.heap_alloc w.drew _ k (by simpa using hk), fun a => frozen?_alloc_cells w.drew _ _ a⟩, fun g' hg => ?_⟩
            generalize grownCap w (es.length + ys.length) (cap + 1) e = cc at hg
            cases cc <;> simp [pblk] at hg; exact .inl (by omega)
  · exact zero A he hv
end
end Go.Proofs.Pw
/- All operations that write, in one theorem. -/
namespace Go.Proofs.Pw
open Go.RowKit
set_option linter.unusedSectionVars false
variable [Globs]
section
variable {P : Program} {Γ : FuncId → Option Spec} {σ : St} {a : Act} {w w' : World} {M M' : Gh} {X : Nat → Prop} {B n : Nat} {w0 : W0}

/-- A row takes the place of another one, or is new. -/
theorem row_eff (hs : Sim X n B w0 σ a w M) {o : Oper} {d r sz : Nat} (hd : o.dst = some d) (hdn : d < n) {es : List (List C)} {v' : Value} {w' : World} {Z : Nat → Prop} (h0 : 0 < sz)
    (hrun : (execOp a.eval o).run P w = .ok (.value v') w') (hp : Priv w' M.S sz es v') (hfr : Fr Z w.heap.size w w') (hz : ∀ g, Z g → ∃ x, (r, x) ∈ σ.rw ∧ pblk (M.ρ r) g)
    (hb : ∀ g, pblk v' g → w.heap.size ≤ g ∨ ∃ x, (r, x) ∈ σ.rw ∧ pblk (M.ρ r) g)
    {next : Act → World → Prop} {E : Exit → Act → World → Prop}
    (hn : ∀ a' w' M', Sim X n B w0 { tm := upd d (.q (.own r)) (σ.map (Q.killO r)).tm, bx := (σ.map (Q.killO r)).bx, rw := upd r (sz, es) σ.rw } a' w' M' → next a' w') : o.wp P a w next E := by
  have hu : Up Z w M w' M := ⟨rfl, rfl, fun _ h => h, fun _ h => .inl h, fun g hg => Nat.lt_of_lt_of_le (hs.mem.lt g hg) hfr.size, fun g hg hZ => by obtain ⟨x, hx, hg'⟩ := hz g hZ; exact hs.mem.sr _ _ g hx hg' hg, hfr⟩
  refine upon_value hrun (hn _ _ (M.nr r v') ?_)
  rw [hd]
  refine hs.mapPut hdn (nr_q hu hs.mem.lt) (hs.mem.newRow hs.hB h0 hu hz hp hb) (hfr.weak hs.hB (fun g hg hZ => ?_)) ?_ rfl (fun _ _ => rfl)
  · obtain ⟨⟨sz', es'⟩, hx, hg'⟩ := hz g hZ
    rcases (hs.mem.row _ sz' es' hx).2.2 g hg' with h | h
    · omega
    · exact h
  · simp only [RelV, RelQ, Gh.nr, if_true]
    refine ⟨trivial, ?_⟩
    rcases hp with ⟨_, _, h, _⟩ | ⟨_, A, rfl⟩
    · rcases h.2 with ⟨rfl, _⟩ | ⟨_, _, _, rfl, _⟩ <;> rfl
    · rfl

theorem app_run {c : Call} {dst : Option Tmp} {ty : TypeId} {pos : String} {after : Array Edge} {guard : Option (Nat × Bool)} {x y : Operand} {t : TypeId} (hb : c.callee = .builtin .append) (ha : c.args = #[x, y]) (ht : c.argTypes = #[t, t]) :
    (execOp a.eval ⟨dst, .call c, ty, pos, after, guard⟩).run P w = ((Builtin.append_ #[t, t] ty #[a.eval x, a.eval y]).run P w).andThen fun v w' => .ok (.value v) w' := by
  simp [execOp, resolve, hb, ha, ht, invoke, builtin]

theorem effK_wp (hs : Sim X n B w0 σ a w M) {o : Oper} {k : XK} (hk : chkE P o.op k = true) (hdst : ∀ d, o.dst = some d → d < n) (hst : ∀ x y ag, k = .st x y ag → o.dst = none) {vc : Prop} {σ' : St} (he : effK σ o.dst k = some (vc, σ')) (hvc : vc)
    {next : Act → World → Prop} {E : Exit → Act → World → Prop} (hn : ∀ a' w' M', Sim X n B w0 σ' a' w' M' → next a' w') : o.wp P a w next E := by
  unfold chkE at hk
  split at hk
  · -- store
    rename_i x' y' ag
    split at hk
    · rename_i t x y ho
      simp only [Bool.and_eq_true] at hk
      obtain ⟨⟨hx, hy⟩, hag⟩ := hk
      have hd := hst _ _ _ rfl
      simp only [effK] at he
      split at he
      · rename_i g i off g' p e1 e2
        split at he
        · rename_i qs ys hq hys
          simp only [Option.some.injEq, Prod.mk.injEq] at he
          obtain ⟨rfl, rfl⟩ := he
          exact st_box hs ho hd hx hy hag e1 e2 hq hys hvc.1 hvc.2.1 hvc.2.2 (fun w' M' h => hn _ _ _ h)
        · cases he
      · rename_i g i sz k off g' p e1 e2
        split at he
        · rename_i sz' es ys hq hys
          split at he
          · rename_i cs hcs
            simp only [Option.some.injEq, Prod.mk.injEq] at he
            obtain ⟨rfl, rfl⟩ := he
            obtain ⟨h1, h2, rfl, h3, h4⟩ := hvc
            exact st_row hs ho hd hx hy hag e1 e2 hq hys hcs h1 h2 h3 h4 (fun w' M' h => hn _ _ _ h)
          · cases he
        · cases he
      · cases he
    · cases hk
  · -- box
    rename_i y ag
    split at hk
    · rename_i t x ho
      simp only [effK] at he
      split at he
      · rename_i d g p e1 e2
        split at he
        · rename_i ys hys
          simp only [Option.some.injEq, Prod.mk.injEq] at he
          obtain ⟨rfl, rfl⟩ := he
          have rx := okO_rel (o := x) (x := y) hs.tm hk (by rw [e2]; exact hvc); rw [e2] at rx
          obtain ⟨hrel, _⟩ := cellsOf_rel rx hys
          exact box_eff (t := t) hs e1 (hdst _ e1) hrel (by unfold execOp; rw [ho]; simp [Instr.box, newVar, newRow]) hn
        · cases he
      · cases he
    · cases hk
  · -- alloc
    rename_i zs
    split at hk
    · rename_i t ho
      split at hk
      · rename_i i hi
        split at hk
        · rename_i z hz
          simp only [effK] at he
          split at he
          · rename_i d e1
            simp only [Option.some.injEq, Prod.mk.injEq] at he
            obtain ⟨rfl, rfl⟩ := he
            have hr : RelCs w M zs z.cells := by simpa using okVs_rel (w := w) (M := M) hk
            exact box_eff (t := t) hs e1 (hdst _ e1) hr (by unfold execOp; rw [ho]; simp [Instr.alloc, zeroValue, typeInfo, hi, hz, newVar, newRow]) hn
          · cases he
        · cases hk
      · cases hk
    · cases hk
  · -- append
    rename_i x' y' sz bytes
    split at hk
    · rename_i c ho
      unfold okApp at hk
      split at hk
      · rename_i x y t t' hcb hca hct
        simp only [Bool.and_eq_true, beq_iff_eq] at hk
        obtain ⟨⟨⟨rfl, hx⟩, hy⟩, hk⟩ := hk
        split at hk
        · rename_i e ht
          split at hk
          · rename_i ti hi
            simp only [Bool.and_eq_true, beq_iff_eq, bne_iff_ne, ne_eq] at hk
            obtain ⟨⟨⟨⟨hsz, hsz0⟩, hby⟩, hby0⟩, hz⟩ := hk
            split at hz
            · rename_i z hz'
              rw [beq_iff_eq] at hz
              have hca' : c.args = #[x, y] := by rw [← Array.toArray_toList (xs := c.args), hca]
              have hct' : c.argTypes = #[t, t] := by rw [← Array.toArray_toList (xs := c.argTypes), hct]
              have hrun : ∀ v' w', (Builtin.append_ #[t, t] o.type #[a.eval x, a.eval y]).run P w = .ok v' w' → (execOp a.eval o).run P w = .ok (.value v') w' := fun v' w' h => by
                obtain ⟨dst, op, ty, pos, after, guard⟩ := o
                simp only at ho; subst ho
                rw [app_run hcb hca' hct', h]; rfl
              have hmx : ∀ m : Nat, m * bytes ≤ 140737488355328 → m ≤ 9223372036854775807 := fun m hm => by
                have := Nat.le_mul_of_pos_right m (show 0 < bytes by omega)
                omega
              have rx := okO_rel (o := x) (x := x') hs.tm hx
              have ry := okO_rel (o := y) (x := y') hs.tm hy
              simp only [effK] at he
              split at he
              · rename_i d g r g' p e1 e2 e3
                rw [e2] at rx; rw [e3] at ry
                split at he
                · rename_i sz' es sz'' ys hq hrow
                  simp only [Option.some.injEq, Prod.mk.injEq] at he
                  obtain ⟨rfl, rfl⟩ := he
                  obtain ⟨h1, h2, rfl, rfl, h3⟩ := hvc
                  have hv := (rx h1).1
                  have hin := get?_mem hq
                  obtain ⟨_, hp, _⟩ := hs.mem.row r _ es hin
                  obtain ⟨v', w', k1, k2, k3, k4⟩ := append_own (ty := o.type) ht hi hsz hby hz' hz hs.mem.lt (row_rel (ry h2) hrow) h3 (hmx _ h3) hp (fun g hg => hs.mem.sr _ _ g hin hg)
                  rw [← hv] at k1
                  exact row_eff hs e1 (hdst _ e1) (by omega) (hrun _ _ k1) k2 k3 (fun g hg => ⟨_, hin, hg⟩) (fun g hg => (k4 g hg).imp id (fun h => ⟨_, hin, h⟩)) hn
                · cases he
              · rename_i d g p g' p' hno e1 e2 e3
                rw [e2] at rx; rw [e3] at ry
                split at he
                · rename_i sz' sz'' ys hrow
                  simp only [Option.some.injEq, Prod.mk.injEq] at he
                  obtain ⟨rfl, rfl⟩ := he
                  obtain ⟨h1, h2, rfl, rfl, h3⟩ := hvc
                  obtain ⟨A, hv⟩ := rx h1
                  obtain ⟨v', w', k1, k2, k3, k4⟩ := append_full (ty := o.type) (es := []) (A := A) ht hi hsz hby hz' hz hs.mem.lt (row_rel (ry h2) hrow) (by simpa using h3) (by simpa using hmx _ h3) (.inl rfl) (.inl rfl)
                  simp only [List.length_nil] at k1
                  rw [← hv] at k1
                  exact row_eff hs e1 (hdst _ e1) (by omega) (hrun _ _ k1) k2 k3 (fun g hg => hg.elim) (fun g hg => .inl (k4 g hg)) hn
                · rename_i sz' es sz'' ys hrow
                  simp only [Option.some.injEq, Prod.mk.injEq] at he
                  obtain ⟨rfl, rfl⟩ := he
                  obtain ⟨h1, h2, rfl, rfl, h4, h3⟩ := hvc
                  obtain ⟨hr, A, hv⟩ := rx h1
                  rw [hv] at hr
                  obtain ⟨v', w', k1, k2, k3, k4⟩ := append_full (ty := o.type) (es := es) (A := A) ht hi hsz hby hz' hz hs.mem.lt (row_rel (ry h2) hrow) h3 (hmx _ h3) (.inr hr) (.inr h4)
                  rw [← hv] at k1
                  exact row_eff hs e1 (hdst _ e1) (by omega) (hrun _ _ k1) k2 k3 (fun g hg => hg.elim) (fun g hg => .inl (k4 g hg)) hn
                · cases he
              · cases he
            · cases hz
          · cases hk
        · cases hk
      · cases hk
    · cases hk
  · -- make
    rename_i x' zs bytes
    split at hk
    · rename_i t l c ho
      simp only [Bool.and_eq_true] at hk
      obtain ⟨⟨hl, hc⟩, hk⟩ := hk
      split at hk
      · rename_i e ht
        split at hk
        · rename_i ti hi
          simp only [Bool.and_eq_true, beq_iff_eq] at hk
          obtain ⟨⟨hsz, hby⟩, hz⟩ := hk
          split at hz
          · rename_i z hz'
            simp only [effK] at he
            split at he
            · rename_i d g k m e1 e2
              simp only [Option.some.injEq, Prod.mk.injEq] at he
              obtain ⟨rfl, rfl⟩ := he
              obtain ⟨h1, h2, h3, h4, h5⟩ := hvc
              have rl := okO_rel (o := l) (x := x') hs.tm hl (by rw [e2]; exact h1); rw [e2] at rl
              have rc := okO_rel (o := c) (x := x') hs.tm hc (by rw [e2]; exact h1); rw [e2] at rc
              have hr : RelCs w M (zs.map .c) z.cells := by simpa using okVs_rel (w := w) (M := M) hz
              have hzl : z.cells.size = zs.length := by simpa using hr.1
              have hmk := run_make (P := P) w t e ti z ht hi hz' k k m m h2 (Int.le_refl _) (by rw [hby]; exact h4) h3
              rw [hsz] at hmk
              have hmn : m.toNat ≤ maxLen := by simp only [maxLen]; omega
              refine row_eff (Z := fun _ => False) hs e1 (hdst _ e1) h5 (v' := .slice (some ⟨w.heap.size, 0, none⟩) m.toNat m.toNat) (w' := w.alloc (.cells (madeCells z.cells (m.toNat * zs.length)) e))
                (by unfold execOp; rw [ho]; simp only [relC_int rl, relC_int rc, Sem.run_bind, hmk]; rfl) ?_ (alloc_up hs.mem.lt _ _).fr (fun g hg => hg.elim) (fun g hg => ?_) hn
              · have hown := World.ownsRow_lit (base := 0) (e := e) (size := zs.length) w (madeCells z.cells (m.toNat * zs.length)) m.toNat (Nat.zero_le _) hmn (size_madeCells _ _)
                refine .inl ⟨e, _, by rw [List.length_replicate]; exact hown, fun i' e' he' => ?_, by simp [size_madeCells], fun i' j e' c' he' hj => ?_⟩
                · rw [List.getElem?_replicate] at he'
                  split at he' <;> cases he'; rfl
                · rw [List.getElem?_replicate] at he'
                  split at he'
                  · rename_i hlt
                    cases he'
                    obtain ⟨u, g1, _, g3⟩ := hr.2 j (.c c') (by simp [hj])
                    have hjl : j < zs.length := (List.getElem?_eq_some_iff.1 hj).1
                    have := row_fit hlt hjl
                    refine ⟨u, ?_, (alloc_up hs.mem.lt _ _).rep hs.mem.lt g3⟩
                    have hmod : (i' * zs.length + j) % z.cells.size = j := by rw [hzl, Nat.mul_comm, Nat.mul_add_mod]; exact Nat.mod_eq_of_lt hjl
                    simp [madeCells, this, hmod, getElem!_def, g1]
                  · cases he'
              · generalize m.toNat = mm at hg
                cases mm <;> simp [pblk] at hg; exact .inl (by omega)
            · cases he
          · cases hz
        · cases hk
      · cases hk
    · cases hk
  · -- a closure
    rename_i f x
    split at hk
    · rename_i g fi ca ho0
      split at hk
      case h_2 => cases hk
      rename_i y hfi hca
      have ho : o.op = .makeFunc (.func g) #[] #[y] := by
        rw [ho0, ← Array.toArray_toList (xs := fi), ← Array.toArray_toList (xs := ca), hfi, hca]
      simp only [Bool.and_eq_true, beq_iff_eq] at hk
      obtain ⟨rfl, hy⟩ := hk
      simp only [effK] at he
      split at he
      · rename_i d gd i e1 e2
        split at he
        · rename_i cs hcs
          simp only [Option.some.injEq, Prod.mk.injEq] at he
          obtain ⟨rfl, rfl⟩ := he
          rw [Option.bind_eq_some_iff] at hcs
          obtain ⟨qs, hq, hcs⟩ := hcs
          have ry := okO_rel (o := y) (x := x) hs.tm hy (by rw [e2]; exact hvc)
          rw [e2] at ry
          exact mkf_eff hs e1 (hdst _ e1) hq hcs ry ho hn
        · cases he
      · cases he
    · cases hk
  · cases hk
end
end Go.Proofs.Pw
/- A private row is told as a datum. -/
namespace Go.Proofs.Pw
open Go.RowKit
set_option linter.unusedSectionVars false
variable [Globs]
section
variable {P : Program} {Γ : FuncId → Option Spec} {σ : St} {a : Act} {w w' : World} {M M' : Gh} {X : Nat → Prop} {B n : Nat} {w0 : W0}

theorem priv_rep {S : Nat → Prop} {sz : Nat} {es : List (List C)} {v : Value} (h : Priv w S sz es v) : Rep w (fun g => S g ∨ pblk v g) (.row sz es) v := by
  rcases h with ⟨e, us, hown, hf⟩ | ⟨rfl, A, rfl⟩
  · rcases hown.2 with ⟨rfl, h0⟩ | ⟨g, cap, cur, rfl, _, hheap, hnc, _⟩
    · have := List.eq_nil_of_length_eq_zero h0
      subst this; exact .nil ..
    · cases cap with
      | zero =>
        have := List.eq_nil_of_length_eq_zero (l := es) (by omega)
        subst this; exact .nil ..
      | succ cap =>
        refine .row sz es _ _ (fun k => us.getD k undef) hnc (.inr (by simp [pblk])) hf.1 (fun i j e c he hj => ?_) (fun i j e c he hj => ?_)
        · obtain ⟨u, h1, _⟩ := hf.2.2 i j e c he hj
          rw [hown.cells rfl _ _ h1]; simp [h1]
        · obtain ⟨u, h1, h2⟩ := hf.2.2 i j e c he hj
          simp only [List.getD_eq_getElem?_getD, h1, Option.getD_some]
          exact h2.mono (fun _ h => .inl h) (fun _ _ => rfl)
  · exact .nil ..

/-- The row's block is told as data from here on. -/
def Gh.pub (M : Gh) (i : Nat) : Gh := { M with S := fun g => M.S g ∨ pblk (M.ρ i) g }
theorem pub_q {i sz : Nat} {es : List (List C)} (hr : Rep w (M.pub i).S (.row sz es) (M.ρ i)) (q : Q) (v : Value) (h : RelQ w M q v) : RelQ w (M.pub i) (q.pub i (.row sz es)) v := by
  have mono : ∀ {c v}, Rep w M.S c v → Rep w (M.pub i).S c v := fun h => h.mono (fun _ h => .inl h) (fun _ _ => rfl)
  cases q with
  | no => trivial
  | c x => exact mono h
  | z _ => exact h
  | full sz es => exact ⟨mono h.1, h.2⟩
  | own j =>
    simp only [Q.pub]
    split
    · rename_i he; subst he
      have := h.1
      subst this; exact hr
    · exact h
  | box i o => exact h
  | el xs =>
    obtain ⟨A, h1, h2⟩ := h
    exact ⟨A, h1, fun j c hc => by obtain ⟨u, g1, g2, g3⟩ := h2 j c hc; exact ⟨u, g1, .inl g2, mono g3⟩⟩
  | rp j sz k o =>
    simp only [Q.pub]
    split
    · trivial
    · exact h
theorem Sim.pub' (hs : Sim X n B w0 σ a w M) (i : Nat) : ∃ M', Sim X n B w0 (σ.pub i) a w M' ∧ M'.ρ = M.ρ ∧ (∀ g, M.S g → M'.S g) ∧ (∀ g, M'.S g → M.S g ∨ ∃ j r, (j, r) ∈ σ.rw ∧ pblk (M.ρ j) g) ∧ M'.β = M.β := by
  unfold St.pub
  split
  · rename_i sz es hg
    have hin := get?_mem hg
    have hp := (hs.mem.row _ _ _ hin).2.1
    have hq := pub_q (M := M) (i := i) (priv_rep hp)
    have hbx : ∀ {i' q1}, (i', q1) ∈ (σ.map (Q.pub i (.row sz es))).bx → ∃ q, (i', q) ∈ σ.bx ∧ q1 = q.map (Q.pub i (.row sz es)) := fun {i' q1} h' => by
      simp only [St.map, List.mem_map, Prod.mk.injEq] at h'
      obtain ⟨⟨j, q⟩, hj, rfl, rfl⟩ := h'
      exact ⟨q, hj, rfl⟩
    refine ⟨M.pub i, ⟨hs.size, hs.defs, fun t p h => ?_, ⟨fun i' q1 h' => ?_, fun i' sz' es' h' => ?_, fun i' q1 j q2 h1 h2 hne => ?_, fun i' q1 j r h1 h2 hg => ?_, fun i' r j r' g h1 h2 hne hg hg' => ?_, fun g h => ?_, fun i' q1 h1 h => ?_, fun i' r g h1 hg h => ?_, fun i c hi => ?_⟩, hs.fr, hs.hB, fun g h => ?_, hs.sβ⟩, rfl, fun _ h => .inl h, fun g h => h.imp id (fun h => ⟨i, _, hin, h⟩), rfl⟩
    · simp only [St.map, List.mem_map, Prod.mk.injEq] at h
      obtain ⟨⟨t', p'⟩, h', rfl, rfl⟩ := h
      exact map_v hq (hs.tm _ _ h')
    · obtain ⟨q, hj, rfl⟩ := hbx h'
      obtain ⟨hB', t', cells', h1, h2, h3⟩ := hs.mem.box i' q hj
      exact ⟨hB', t', cells', h1, map_cs hq ⟨h2, h3⟩⟩
    · obtain ⟨hne, h'⟩ := del_mem h'
      obtain ⟨h1, h2, h3⟩ := hs.mem.row i' sz' es' h'
      exact ⟨h1, h2.move (fun _ h => .inl h) (fun _ _ => rfl) (fun _ _ => rfl), h3⟩
    · obtain ⟨q, hj, _⟩ := hbx h1; obtain ⟨q', hj', _⟩ := hbx h2
      exact hs.mem.bb _ _ _ _ hj hj' hne
    · obtain ⟨q, hj, _⟩ := hbx h1
      exact hs.mem.br _ _ _ _ hj (del_mem h2).2 hg
    · exact hs.mem.rr _ _ _ _ g (del_mem h1).2 (del_mem h2).2 hne hg hg'
    · rcases h with h | h
      · exact hs.mem.lt g h
      · exact hp.lt h
    · obtain ⟨q, hj, _⟩ := hbx h1
      rcases h with h | h
      · exact hs.mem.sb _ _ hj h
      · exact hs.mem.br _ _ _ _ hj hin h
    · obtain ⟨hne, h1⟩ := del_mem h1
      rcases h with h | h
      · exact hs.mem.sr _ _ g h1 hg h
      · exact hs.mem.rr _ _ _ _ g h1 hin hne hg h
    · obtain ⟨k1, u, k2, k3⟩ := hs.mem.gl i c hi
      exact ⟨.inl k1, u, k2, k3.mono (fun _ h => .inl h) (fun _ _ => rfl)⟩
    · rcases h with h | h
      · exact hs.sS g h
      · exact .inr ((hs.mem.row _ _ _ hin).2.2 g h)
  · exact ⟨M, hs, rfl, fun _ h => h, fun _ h => .inl h, rfl⟩
theorem Sim.pub (hs : Sim X n B w0 σ a w M) (i : Nat) : ∃ M', Sim X n B w0 (σ.pub i) a w M' := by
  obtain ⟨M', h, _⟩ := hs.pub' i
  exact ⟨M', h⟩
theorem get?_del {α : Type} {t u : Nat} (h : u ≠ t) : ∀ {l : List (Nat × α)}, get? t (del u l) = get? t l := by
  intro l
  induction l with
  | nil => rfl
  | cons x l ih =>
    obtain ⟨i, y⟩ := x
    simp only [del]
    split
    · rename_i hi; simp only [get?]; rw [if_neg (by omega)]; exact ih
    · simp only [get?]; rw [ih]
theorem Sim.pubL (is : List Nat) : ∀ {σ : St} {M : Gh}, Sim X n B w0 σ a w M → ∃ M', Sim X n B w0 (is.foldl (fun σ i => σ.pub i) σ) a w M' := by
  induction is with
  | nil => intro σ M hs; exact ⟨M, hs⟩
  | cons i is ih =>
    intro σ M hs
    obtain ⟨M1, h1⟩ := hs.pub i
    exact ih h1
theorem Sim.pub2 (hs : Sim X n B w0 σ a w M) (i : Nat) : ∃ M', Sim X n B w0 (σ.pub i) a w M' ∧ (∀ g, M.S g → M'.S g) ∧ (∀ g, M'.S g → M.S g ∨ ∃ j r, (j, r) ∈ σ.rw ∧ pblk (M.ρ j) g) ∧ M'.β = M.β ∧ M'.ρ = M.ρ := by
  obtain ⟨M', h1, h2, h3, h4, h5⟩ := hs.pub' i
  exact ⟨M', h1, h3, h4, h5, h2⟩
theorem pub_rw {i j : Nat} {r : Nat × List (List C)} (h : (j, r) ∈ (σ.pub i).rw) : (j, r) ∈ σ.rw := by
  unfold St.pub at h
  split at h
  · exact (del_mem h).2
  · exact h
theorem pub_bx {i j : Nat} {q : List Q} (h : (j, q) ∈ (σ.pub i).bx) : ∃ q', (j, q') ∈ σ.bx := by
  unfold St.pub at h
  split at h
  · simp only [St.map, List.mem_map, Prod.mk.injEq] at h
    obtain ⟨⟨k, q'⟩, hk, rfl, rfl⟩ := h
    exact ⟨q', hk⟩
  · exact ⟨q, h⟩
theorem pubL_bx {is : List Nat} : ∀ {σ : St} {j : Nat} {q : List Q}, (j, q) ∈ (is.foldl (fun σ i => σ.pub i) σ).bx → ∃ q', (j, q') ∈ σ.bx := by
  induction is with
  | nil => intro σ j q h; exact ⟨q, h⟩
  | cons i is ih =>
    intro σ j q h
    obtain ⟨q', h'⟩ := ih h
    exact pub_bx h'
theorem Sim.pubL2 (is : List Nat) : ∀ {σ : St} {M : Gh}, Sim X n B w0 σ a w M → ∃ M', Sim X n B w0 (is.foldl (fun σ i => σ.pub i) σ) a w M' ∧ (∀ g, M.S g → M'.S g) ∧ (∀ g, M'.S g → M.S g ∨ ∃ j r, (j, r) ∈ σ.rw ∧ pblk (M.ρ j) g) ∧ M'.β = M.β := by
  induction is with
  | nil => intro σ M hs; exact ⟨M, hs, fun _ h => h, fun _ h => .inl h, rfl⟩
  | cons i is ih =>
    intro σ M hs
    obtain ⟨M1, h1, h2, h3, h4, h5⟩ := hs.pub2 i
    obtain ⟨M2, g1, g2, g3, g4⟩ := ih h1
    refine ⟨M2, g1, fun g h => g2 g (h2 g h), fun g h => ?_, g4.trans h4⟩
    rcases g3 g h with h | ⟨j, r, hj, hg⟩
    · exact h3 g h
    · exact .inr ⟨j, r, pub_rw hj, by rw [← h5]; exact hg⟩
theorem Sim.pubL' (is : List Nat) : ∀ {σ : St} {M : Gh}, Sim X n B w0 σ a w M → ∃ M', Sim X n B w0 (is.foldl (fun σ i => σ.pub i) σ) a w M' ∧ ∀ g, M.S g → M'.S g := by
  induction is with
  | nil => intro σ M hs; exact ⟨M, hs, fun _ h => h⟩
  | cons i is ih =>
    intro σ M hs
    obtain ⟨M1, h1, _, h2, _⟩ := hs.pub' i
    obtain ⟨M2, h3, h4⟩ := ih h1
    exact ⟨M2, h3, fun g h => h4 g (h2 g h)⟩
end
end Go.Proofs.Pw
/- What is handed over to a call: where it lies, and that it lies apart. -/
namespace Go.Proofs.Pw
open Go.RowKit
set_option linter.unusedSectionVars false
variable [Globs]
section
variable {P : Program} {Γ : FuncId → Option Spec} {σ : St} {a : Act} {w w' : World} {M M' : Gh} {X : Nat → Prop} {B n : Nat} {w0 : W0}

theorem Apart.split {S : Nat → Prop} {ps qs : List (Nat → Prop)} (h : Apart S (ps ++ qs)) {g : Nat} (hg : Any ps g) : ¬ Any qs g := by
  induction ps with
  | nil => obtain ⟨_, hp, _⟩ := hg; cases hp
  | cons p ps ih =>
    obtain ⟨q, hq, hg⟩ := hg
    rcases List.mem_cons.1 hq with rfl | hq
    · rintro ⟨q', hq', hg'⟩
      exact h.2.1 _ hg q' (by simp [hq']) hg'
    · exact ih h.2.2 ⟨q, hq, hg⟩
theorem Any.left {ps qs : List (Nat → Prop)} {g : Nat} (h : Any ps g) : Any (ps ++ qs) g := by obtain ⟨p, hp, hg⟩ := h; exact ⟨p, by simp [hp], hg⟩
theorem Any.right {ps qs : List (Nat → Prop)} {g : Nat} (h : Any qs g) : Any (ps ++ qs) g := by obtain ⟨p, hp, hg⟩ := h; exact ⟨p, by simp [hp], hg⟩

def blkOf (M : Gh) (x : Bool × Nat) (g : Nat) : Prop := if x.1 then pblk (M.ρ x.2) g else g = M.β x.2
def fpIds (p : PV) (m : Bool) : List (Bool × Nat) := if m then (match p with | .q (.box i _) => [(false, i)] | .q (.own i) => [(true, i)] | _ => []) else []
def fpsOf (M : Gh) (σ : St) : List XO → List Bool → List (Nat → Prop)
  | x :: xs, m :: ms => (fun g => ∃ id ∈ fpIds (σ.v x).2 m, blkOf M id g) :: fpsOf M σ xs ms
  | _, _ => []
def There (σ : St) (x : Bool × Nat) : Prop := if x.1 then ∃ r, (x.2, r) ∈ σ.rw else ∃ q, (x.2, q) ∈ σ.bx

theorem mutIds_cons {x : XO} {xs : List XO} {m : Bool} {ms : List Bool} : mutIds σ (x :: xs) (m :: ms) = fpIds (σ.v x).2 m ++ mutIds σ xs ms := by
  cases m <;> simp [mutIds, fpIds]; rfl

theorem any_fps {g : Nat} : ∀ {xs : List XO} {ms : List Bool}, Any (fpsOf M σ xs ms) g ↔ ∃ id ∈ mutIds σ xs ms, blkOf M id g := by
  intro xs
  induction xs with
  | nil => intro ms; simp [fpsOf, mutIds, Any]
  | cons x xs ih =>
    intro ms
    cases ms with
    | nil => simp [fpsOf, mutIds, Any]
    | cons m ms =>
      rw [mutIds_cons]
      constructor
      · rintro ⟨p, hp, hg⟩
        simp only [fpsOf] at hp
        rcases List.mem_cons.1 hp with rfl | hp
        · obtain ⟨id, h1, h2⟩ := hg; exact ⟨id, by simp [h1], h2⟩
        · obtain ⟨id, h1, h2⟩ := ih.1 ⟨p, hp, hg⟩; exact ⟨id, by simp [h1], h2⟩
      · rintro ⟨id, h1, h2⟩
        simp only [fpsOf]
        rcases List.mem_append.1 h1 with h1 | h1
        · exact ⟨_, List.mem_cons_self .., ⟨id, h1, h2⟩⟩
        · obtain ⟨p, hp, hg⟩ := ih.2 ⟨id, h1, h2⟩
          exact ⟨p, List.mem_cons_of_mem _ hp, hg⟩

/-- What is handed over reads so. -/
def ArgR (σ : St) (w : World) (M : Gh) (x : XO) (v : Value) : Prop := (σ.v x).1 = true → RelV w M (σ.v x).2 v
theorem okOs_rel (ht : ∀ t p, (t, p) ∈ σ.tm → RelV w M p (a.tmps.getD t undef)) : ∀ {os : List Operand} {xs : List XO}, okOs os xs = true → All2 (ArgR σ w M) xs (os.map a.eval) := by
  intro os
  induction os with
  | nil => intro xs h; cases xs with
    | nil => exact .nil
    | cons _ _ => simp [okOs] at h
  | cons o os ih => intro xs h; cases xs with
    | nil => simp [okOs] at h
    | cons x xs =>
      simp only [okOs, Bool.and_eq_true] at h
      exact .cons (fun hg => okO_rel ht h.1 hg) (ih h.2)
theorem caps_rel : ∀ {cs : List C} {us : List Value}, us.length = cs.length → (∀ (j : Nat) c, cs[j]? = some c → ∃ u, us[j]? = some u ∧ Rep w M.S c u) → All2 (ArgR σ w M) (cs.map fun c => .k c.toQ) us := by
  intro cs
  induction cs with
  | nil => intro us hl _; cases us with
    | nil => exact .nil
    | cons _ _ => simp at hl
  | cons c cs ih => intro us hl h; cases us with
    | nil => simp at hl
    | cons u us =>
      refine .cons (fun _ => ?_) (ih (by simpa using hl) (fun j c hj => by simpa using h (j + 1) c (by simpa using hj)))
      obtain ⟨u', hu, hr⟩ := h 0 c (by simp)
      simp at hu; subst hu
      exact toQ_rel hr
theorem All2.append {α β : Type} {R : α → β → Prop} {xs xs' : List α} {ys ys' : List β} (h : All2 R xs ys) (k : All2 R xs' ys') : All2 R (xs ++ xs') (ys ++ ys') := by
  induction h with
  | nil => exact k
  | cons h _ ih => exact .cons h ih

/-- The arguments, as they are handed over. -/
theorem argsE_rel (mem : Mem X B σ.bx σ.rw w M) : ∀ {xs : List XO} {us : List Value} {ms : List Bool} {vc : Prop} {ds : List AV}, All2 (ArgR σ w M) xs us → argsE σ xs ms = some (vc, ds) → vc →
    All3 (RepA w M.S) ds us (fpsOf M σ xs ms) ∧ ∀ id ∈ mutIds σ xs ms, There σ id := by
  intro xs
  induction xs with
  | nil =>
    intro us ms vc ds hk hx hvc
    cases hk
    cases ms with
    | nil => simp only [argsE, Option.some.injEq, Prod.mk.injEq] at hx; rw [← hx.2]; exact ⟨.nil, by simp [mutIds]⟩
    | cons _ _ => simp [argsE] at hx
  | cons x xs ih =>
    intro us ms vc ds hk hx hvc
    cases hk with
    | @cons _ u _ us hk1 hk2 =>
      cases ms with
      | nil => simp [argsE] at hx
      | cons m ms =>
        rw [mutIds_cons]
        simp only [fpsOf]
        simp only [argsE] at hx
        split at hx
        · rename_i vc' ds' e2
          split at hx
          · rename_i p hp
            split at hx
            · rename_i d hd
              simp only [Option.some.injEq, Prod.mk.injEq] at hx
              obtain ⟨rfl, rfl⟩ := hx
              have rx := hk1 hvc.1
              obtain ⟨i1, i2⟩ := ih hk2 e2 hvc.2
              exact ⟨.cons ⟨toD_rel rx hd, by simp [fpIds]⟩ i1, by simpa [fpIds] using i2⟩
            · cases hx
          · rename_i i e1
            split at hx
            · rename_i qs hq
              split at hx
              · rename_i cs hcs
                simp only [Option.some.injEq, Prod.mk.injEq] at hx
                obtain ⟨rfl, rfl⟩ := hx
                have rx := hk1 hvc.1
                rw [e1] at rx
                obtain ⟨i1, i2⟩ := ih hk2 e2 hvc.2
                have hin := get?_mem hq
                obtain ⟨_, t, cells, h1, h2, h3⟩ := mem.box _ _ hin
                obtain ⟨h4, h5⟩ := allC_rel ⟨h2, h3⟩ hcs
                refine ⟨.cons ⟨M.β i, rx, ⟨t, cells, h1, h4, h5⟩, fun g => by simp [fpIds, e1, blkOf]⟩ i1, ?_⟩
                simp only [fpIds, e1, if_true, List.cons_append, List.nil_append, List.mem_cons]
                rintro id (rfl | h)
                · exact ⟨qs, hin⟩
                · exact i2 _ h
              · cases hx
            · cases hx
          · rename_i r e1
            split at hx
            · rename_i sz es hq
              simp only [Option.some.injEq, Prod.mk.injEq] at hx
              obtain ⟨rfl, rfl⟩ := hx
              have rx := hk1 hvc.1
              rw [e1] at rx
              obtain ⟨i1, i2⟩ := ih hk2 e2 hvc.2
              have hin := get?_mem hq
              obtain ⟨h1, h2, h3⟩ := mem.row _ _ _ hin
              refine ⟨.cons ⟨h1, by rw [rx.1]; exact h2, fun g => by simp [fpIds, e1, blkOf, rx.1]⟩ i1, ?_⟩
              simp only [fpIds, e1, if_true, List.cons_append, List.nil_append, List.mem_cons]
              rintro id (rfl | h)
              · exact ⟨_, hin⟩
              · exact i2 _ h
            · cases hx
          · cases hx
        · cases hx

theorem blk_apart (mem : Mem X B σ.bx σ.rw w M) {x y : Bool × Nat} (hx : There σ x) (hy : There σ y) (hne : x ≠ y) {g : Nat} (h : blkOf M x g) : ¬ blkOf M y g := by
  obtain ⟨bx, ix⟩ := x
  obtain ⟨by', iy⟩ := y
  cases bx <;> cases by' <;> simp only [There, blkOf, if_true, Bool.false_eq_true, if_false] at * <;> obtain ⟨_, hx⟩ := hx <;> obtain ⟨_, hy⟩ := hy
  · subst h; exact mem.bb _ _ _ _ hx hy (fun e => hne (by rw [e]))
  · subst h; exact mem.br _ _ _ _ hx hy
  · rintro rfl; exact mem.br _ _ _ _ hy hx h
  · exact mem.rr _ _ _ _ g hx hy (fun e => hne (by rw [e])) h
theorem blk_notS (mem : Mem X B σ.bx σ.rw w M) {x : Bool × Nat} (hx : There σ x) {g : Nat} (h : blkOf M x g) : ¬ M.S g ∧ g < w.heap.size ∧ Mine X B g := by
  obtain ⟨bx, ix⟩ := x
  cases bx <;> simp only [There, blkOf, if_true, Bool.false_eq_true, if_false] at * <;> obtain ⟨r, hx⟩ := hx
  · subst h
    obtain ⟨h1, t, cells, h2, _⟩ := mem.box _ _ hx
    exact ⟨mem.sb _ _ hx, (Array.getElem?_eq_some_iff.1 h2).1, h1⟩
  · obtain ⟨sz, es⟩ := r
    obtain ⟨_, h1, h2⟩ := mem.row _ _ _ hx
    exact ⟨mem.sr _ _ g hx h, h1.lt h, h2 g h⟩
theorem nodup_split {l1 l2 : List (Bool × Nat)} (h : nodupIds (l1 ++ l2) = true) : nodupIds l2 = true ∧ ∀ x ∈ l1, ∀ y ∈ l2, x ≠ y := by
  induction l1 with
  | nil => exact ⟨h, by simp⟩
  | cons z l1 ih =>
    simp only [List.cons_append, nodupIds, Bool.and_eq_true, Bool.not_eq_true', List.any_eq_false] at h
    obtain ⟨h1, h2⟩ := ih h.2
    refine ⟨h1, fun x hx y hy e => ?_⟩
    rcases List.mem_cons.1 hx with rfl | hx
    · subst e; exact h.1 x (by simp [hy]) (by simp)
    · exact h2 x hx y hy e
theorem fps_apart (mem : Mem X B σ.bx σ.rw w M) : ∀ {xs : List XO} {ms : List Bool}, (∀ id ∈ mutIds σ xs ms, There σ id) → nodupIds (mutIds σ xs ms) = true → Apart M.S (fpsOf M σ xs ms) := by
  intro xs
  induction xs with
  | nil => intro ms _ _; trivial
  | cons x xs ih =>
    intro ms hth hnd
    cases ms with
    | nil => trivial
    | cons m ms =>
      rw [mutIds_cons] at hth hnd
      obtain ⟨h1, h2⟩ := nodup_split hnd
      refine ⟨fun g ⟨id, hid, hg⟩ => (blk_notS mem (hth id (by simp [hid])) hg).1, fun g ⟨id, hid, hg⟩ q hq hqg => ?_, ih (fun id h => hth id (by simp [h])) h1⟩
      obtain ⟨id', h3, h4⟩ := any_fps.1 ⟨q, hq, hqg⟩
      exact blk_apart mem (hth id (by simp [hid])) (hth id' (by simp [h3])) (h2 id hid id' h3) hg h4
end
end Go.Proofs.Pw
/- Calls that are handed what they may write. -/
namespace Go.Proofs.Pw
open Go.RowKit
set_option linter.unusedSectionVars false
variable [Globs]
section
variable {P : Program} {Γ : FuncId → Option Spec} {σ σ0 : St} {a : Act} {w w' : World} {M M' : Gh} {X : Nat → Prop} {B n : Nat} {w0 : W0}

/-- A variable's cells stand in the world, and no one else's. -/
structure BoxOk (w : World) (M : Gh) (N : Nat → Prop) (i : Nat) (qs : List Q) : Prop where
  cells : ∃ t cells, w.heap[M.β i]? = some (.cells cells t (0, 0)) ∧ RelCs w M qs cells
  s : ¬ M.S (M.β i)
  n : ¬ N (M.β i)
structure RowOk (w : World) (M : Gh) (N : Nat → Prop) (i sz : Nat) (es : List (List C)) : Prop where
  pos : 0 < sz
  priv : Priv w M.S sz es (M.ρ i)
  s : ∀ g, pblk (M.ρ i) g → ¬ M.S g
  n : ∀ g, pblk (M.ρ i) g → ¬ N g
/-- The state between: what is yet to be handed back is not told. -/
structure Mid (w : World) (M : Gh) (N : Nat → Prop) (a : Act) (σ0 : St) (todo : List (Bool × Nat)) (σ : St) : Prop where
  tm : ∀ t p, (t, p) ∈ σ.tm → RelV w M p (a.tmps.getD t undef)
  box : ∀ i qs, (i, qs) ∈ σ.bx → There σ0 (false, i) ∧ ((false, i) ∈ todo ∨ BoxOk w M N i qs)
  row : ∀ i sz es, (i, sz, es) ∈ σ.rw → There σ0 (true, i) ∧ ((true, i) ∈ todo ∨ RowOk w M N i sz es)

theorem killO_q {i : Nat} (q : Q) (v : Value) (h : RelQ w M q v) : RelQ w M (q.killO i) v := by
  cases q with
  | own j =>
    simp only [Q.killO]
    split
    · trivial
    · exact h
  | rp j sz k o =>
    simp only [Q.killO]
    split
    · trivial
    · exact h
  | _ => exact h
theorem cells_rel {cs : List C} {g : Nat} (h : Cells w M.S cs g) : ∃ t cells, w.heap[g]? = some (.cells cells t (0, 0)) ∧ RelCs w M (cs.map .c) cells := by
  obtain ⟨t, cells, h1, h2, h3⟩ := h
  refine ⟨t, cells, h1, by simpa using h2, fun j q hq => ?_⟩
  simp only [List.getElem?_map, Option.map_eq_some_iff] at hq
  obtain ⟨c, hc, rfl⟩ := hq
  obtain ⟨u, g1, g2⟩ := h3 j c hc
  exact ⟨u, g1, g2.one, g2⟩

theorem outE_mid {N : Nat → Prop} : ∀ {xs : List XO} {us : List Value} {ms : List Bool} {outs : List AV} {fps : List (Nat → Prop)} {σ σ' : St}, All2 (ArgR σ0 w M) xs us →
    (∀ x m, (x, m) ∈ xs.zip ms → m = true → (σ0.v x).1 = true) →
    Mid w M N a σ0 (mutIds σ0 xs ms) σ → All3 (RepA w M.S) outs us fps → (∀ g, Any fps g → ¬ M.S g ∧ ¬ N g) → outE σ0 xs ms outs σ = some σ' → (∀ id ∈ mutIds σ0 xs ms, There σ0 id) → Mid w M N a σ0 [] σ' := by
  intro xs
  induction xs with
  | nil =>
    intro us ms outs fps σ σ' hk hg hm h3 hf ho hth
    cases hk
    cases h3
    cases ms with
    | nil => simp only [outE, Option.some.injEq] at ho; subst ho; exact hm
    | cons _ _ => simp [outE] at ho
  | cons x xs ih =>
    intro us ms outs fps σ σ' hk hg hm h3 hf ho hth
    cases hk with
    | @cons _ u _ us hk1 hk2 =>
      cases ms with
      | nil => cases h3; simp [outE] at ho
      | cons m ms =>
        rw [mutIds_cons] at hm hth
        cases h3 with
        | @cons ov _ fp _ _ fps hr h3 =>
        have hf' : ∀ g, Any fps g → ¬ M.S g ∧ ¬ N g := fun g ⟨p, hp, h⟩ => hf g ⟨p, by simp [hp], h⟩
        have hfh : ∀ g, fp g → ¬ M.S g ∧ ¬ N g := fun g h => hf g ⟨fp, by simp, h⟩
        have hg' : ∀ y m', (y, m') ∈ xs.zip ms → m' = true → (σ0.v y).1 = true := fun y m' h => hg y m' (by simp [h])
        have hth' : ∀ id ∈ mutIds σ0 xs ms, There σ0 id := fun id h => hth id (by simp [h])
        cases m with
        | false =>
          cases ov with
          | gone =>
            simp only [outE] at ho
            exact ih hk2 hg' (by simpa [fpIds] using hm) h3 hf' ho hth'
          | d _ => simp [outE] at ho
          | ref _ => simp [outE] at ho
          | own _ _ => simp [outE] at ho
        | true =>
          simp only [outE] at ho
          have rx := hk1 (hg x true (by simp) rfl)
          split at ho
          · rename_i i off cs e1
            rw [e1] at rx hm hth
            simp only [fpIds, if_true, List.cons_append, List.nil_append] at hm hth
            obtain ⟨g, hv, hc, hfp⟩ := hr
            have hgi : g = M.β i := by
              rw [show u = .pointer (some ⟨M.β i, off, none⟩) from rx] at hv
              simp at hv; exact hv.1.symm
            subst hgi
            refine ih (σ := { σ with bx := upd i (cs.map .c) σ.bx }) hk2 hg' ⟨hm.tm, fun j qs hj => ?_, fun j sz es hj => ?_⟩ h3 hf' ho hth'
            · rcases upd_mem hj with ⟨rfl, rfl⟩ | ⟨hne, hj⟩
              · exact ⟨hth _ (by simp), .inr ⟨cells_rel hc, (hfh _ ((hfp _).2 rfl)).1, (hfh _ ((hfp _).2 rfl)).2⟩⟩
              · obtain ⟨k1, k2⟩ := hm.box j qs hj
                refine ⟨k1, k2.imp (fun h => ?_) id⟩
                rcases List.mem_cons.1 h with h | h
                · cases h; exact absurd rfl hne
                · exact h
            · obtain ⟨k1, k2⟩ := hm.row j sz es hj
              refine ⟨k1, k2.imp (fun h => ?_) id⟩
              rcases List.mem_cons.1 h with h | h
              · cases h
              · exact h
          · rename_i i sz es e1
            rw [e1] at rx hm hth
            simp only [fpIds, if_true, List.cons_append, List.nil_append] at hm hth
            obtain ⟨h0, hp, hfp⟩ := hr
            rw [rx.1] at hp hfp
            refine ih (σ := { σ with rw := upd i (sz, es) σ.rw }) hk2 hg' ⟨hm.tm, fun j qs hj => ?_, fun j sz' es' hj => ?_⟩ h3 hf' ho hth'
            · obtain ⟨k1, k2⟩ := hm.box j qs hj
              refine ⟨k1, k2.imp (fun h => ?_) id⟩
              rcases List.mem_cons.1 h with h | h
              · cases h
              · exact h
            · rcases upd_mem hj with ⟨rfl, he⟩ | ⟨hne, hj⟩
              · cases he
                exact ⟨hth _ (by simp), .inr ⟨h0, hp, fun g hg => (hfh _ ((hfp _).2 hg)).1, fun g hg => (hfh _ ((hfp _).2 hg)).2⟩⟩
              · obtain ⟨k1, k2⟩ := hm.row j sz' es' hj
                refine ⟨k1, k2.imp (fun h => ?_) id⟩
                rcases List.mem_cons.1 h with h | h
                · cases h; exact absurd rfl hne
                · exact h
          · rename_i i e1
            rw [e1] at rx hm hth
            simp only [fpIds, if_true, List.cons_append, List.nil_append] at hm hth
            refine ih hk2 hg' ⟨fun t p h => ?_, fun j qs hj => ?_, fun j sz' es' hj => ?_⟩ h3 hf' ho hth'
            · simp only [St.map, List.mem_map, Prod.mk.injEq] at h
              obtain ⟨⟨t', p'⟩, h', rfl, rfl⟩ := h
              exact map_v killO_q (hm.tm _ _ h')
            · simp only [St.map, List.mem_map, Prod.mk.injEq] at hj
              obtain ⟨⟨j', q⟩, hj, rfl, rfl⟩ := hj
              obtain ⟨k1, k2⟩ := hm.box _ q hj
              refine ⟨k1, k2.imp (fun h => ?_) (fun h => ?_)⟩
              · rcases List.mem_cons.1 h with h | h
                · cases h
                · exact h
              · obtain ⟨⟨t, cells, g1, g2⟩, g3, g4⟩ := h
                exact ⟨⟨t, cells, g1, map_cs killO_q g2⟩, g3, g4⟩
            · obtain ⟨hne, hj⟩ := del_mem hj
              obtain ⟨k1, k2⟩ := hm.row j sz' es' hj
              refine ⟨k1, k2.imp (fun h => ?_) id⟩
              rcases List.mem_cons.1 h with h | h
              · cases h; exact absurd rfl hne
              · exact h
          · cases ho

theorem Mid.mem (hg : Gl w' M'.S) (hm : Mem X B σ0.bx σ0.rw w M) (hβ : M'.β = M.β) (hρ : M'.ρ = M.ρ) (hl : ∀ g, M'.S g → g < w'.heap.size) {N : Nat → Prop} (h : Mid w' M' N a σ0 [] σ) : Mem X B σ.bx σ.rw w' M' := by
  have bx : ∀ {i qs}, (i, qs) ∈ σ.bx → ∃ q, (i, q) ∈ σ0.bx := fun {i qs} h1 => (h.box i qs h1).1
  have rw : ∀ {i r}, (i, r) ∈ σ.rw → ∃ q, (i, q) ∈ σ0.rw := fun {i r} h1 => by obtain ⟨sz, es⟩ := r; exact (h.row i sz es h1).1
  have bok : ∀ {i qs}, (i, qs) ∈ σ.bx → BoxOk w' M' N i qs := fun {i qs} h1 => (h.box i qs h1).2.resolve_left (by simp)
  have rok : ∀ {i sz es}, (i, sz, es) ∈ σ.rw → RowOk w' M' N i sz es := fun {i sz es} h1 => (h.row i sz es h1).2.resolve_left (by simp)
  refine ⟨fun i qs h1 => ?_, fun i sz es h1 => ?_, fun i q j q' h1 h2 hne => ?_, fun i q j r h1 h2 => ?_, fun i r j r' g h1 h2 hne => ?_, hl, fun i q h1 => (bok h1).s, fun i r g h1 hg => ?_, hg⟩
  · obtain ⟨q, hq⟩ := bx h1
    obtain ⟨t, cells, g1, g2⟩ := (bok h1).cells
    exact ⟨by rw [hβ]; exact (hm.box i q hq).1, t, cells, g1, g2⟩
  · obtain ⟨⟨sz', es'⟩, hq⟩ := rw h1
    exact ⟨(rok h1).pos, (rok h1).priv, by rw [hρ]; exact (hm.row i sz' es' hq).2.2⟩
  · obtain ⟨_, e1⟩ := bx h1; obtain ⟨_, e2⟩ := bx h2
    rw [hβ]; exact hm.bb _ _ _ _ e1 e2 hne
  · obtain ⟨_, e1⟩ := bx h1; obtain ⟨_, e2⟩ := rw h2
    rw [hβ, hρ]; exact hm.br _ _ _ _ e1 e2
  · obtain ⟨_, e1⟩ := rw h1; obtain ⟨_, e2⟩ := rw h2
    rw [hρ]; exact hm.rr _ _ _ _ g e1 e2 hne
  · obtain ⟨sz, es⟩ := r
    exact (rok h1).s g hg

/-- A row that is handed back takes its place. -/
theorem Mem.getRow (h : Mem X B σ.bx σ.rw w M) {d sz : Nat} {es : List (List C)} {v' : Value} (h0 : 0 < sz) (hp : Priv w M.S sz es v') (hmine : ∀ g, pblk v' g → Mine X B g) (hS : ∀ g, pblk v' g → ¬ M.S g)
    (hb : ∀ i q, (i, q) ∈ σ.bx → ¬ pblk v' (M.β i)) (hr : ∀ i r g, (i, r) ∈ σ.rw → pblk (M.ρ i) g → ¬ pblk v' g) : Mem X B (σ.map (Q.killO d)).bx (upd d (sz, es) σ.rw) w (M.nr d v') := by
  have hq := nr_q (d := d) (v' := v') (Up.refl h.lt) h.lt
  have hbx : ∀ {i' q1}, (i', q1) ∈ (σ.map (Q.killO d)).bx → ∃ q, (i', q) ∈ σ.bx ∧ q1 = q.map (Q.killO d) := fun {i' q1} h' => by
    simp only [St.map, List.mem_map, Prod.mk.injEq] at h'
    obtain ⟨⟨j, q⟩, hj, rfl, rfl⟩ := h'
    exact ⟨q, hj, rfl⟩
  refine ⟨fun i' q1 h' => ?_, fun i' sz' es' h' => ?_, fun i' q1 j q2 h1 h2 hne => ?_, fun i' q1 j r h1 h2 hg => ?_, fun i' r j r' g h1 h2 hne hg hg' => ?_, h.lt, fun i' q1 h1 hs => ?_, fun i' r g h1 hg hs => ?_, h.gl⟩
  · obtain ⟨q, hj, rfl⟩ := hbx h'
    obtain ⟨hB', t', cells', h1, h2, h3⟩ := h.box i' q hj
    exact ⟨hB', t', cells', h1, map_cs hq ⟨h2, h3⟩⟩
  · rcases upd_mem h' with ⟨rfl, he⟩ | ⟨hne, h'⟩
    · cases he
      simp only [Gh.nr, if_true]
      exact ⟨h0, hp, hmine⟩
    · simp only [Gh.nr, if_neg hne]
      exact h.row i' sz' es' h'
  · obtain ⟨q, hj, _⟩ := hbx h1; obtain ⟨q', hj', _⟩ := hbx h2
    exact h.bb _ _ _ _ hj hj' hne
  · obtain ⟨q, hj, _⟩ := hbx h1
    rcases upd_mem h2 with ⟨rfl, _⟩ | ⟨hne, h2⟩
    · simp only [Gh.nr, if_true] at hg
      exact hb _ _ hj hg
    · simp only [Gh.nr, if_neg hne] at hg
      exact h.br _ _ _ _ hj h2 hg
  · rcases upd_mem h1 with ⟨rfl, _⟩ | ⟨n1, k1⟩ <;> rcases upd_mem h2 with ⟨rfl, _⟩ | ⟨n2, k2⟩
    · exact hne rfl
    · simp only [Gh.nr, if_true] at hg; simp only [Gh.nr, if_neg n2] at hg'
      exact hr _ _ g k2 hg' hg
    · simp only [Gh.nr, if_neg n1] at hg; simp only [Gh.nr, if_true] at hg'
      exact hr _ _ g k1 hg hg'
    · simp only [Gh.nr, if_neg n1] at hg; simp only [Gh.nr, if_neg n2] at hg'
      exact h.rr _ _ _ _ g k1 k2 hne hg hg'
  · obtain ⟨q, hj, _⟩ := hbx h1
    exact h.sb _ _ hj hs
  · rcases upd_mem h1 with ⟨rfl, _⟩ | ⟨hne, h1⟩
    · simp only [Gh.nr, if_true] at hg
      exact hS g hg hs
    · simp only [Gh.nr, if_neg hne] at hg
      exact h.sr _ _ g h1 hg hs
end
end Go.Proofs.Pw
/- A call that is handed what it may write, run. -/
namespace Go.Proofs.Pw
open Go.RowKit
set_option linter.unusedSectionVars false
variable [Globs]
section
variable {P : Program} {Γ : FuncId → Option Spec} {σ σ0 : St} {a : Act} {w w' : World} {M M' : Gh} {X : Nat → Prop} {B n : Nat} {w0 : W0}

theorem argsE_gd : ∀ {xs : List XO} {ms : List Bool} {vc : Prop} {ds : List AV}, argsE σ xs ms = some (vc, ds) → vc → ∀ x m, (x, m) ∈ xs.zip ms → m = true → (σ.v x).1 = true := by
  intro xs
  induction xs with
  | nil => intro ms vc ds h hvc x m hx; simp at hx
  | cons y xs ih =>
    intro ms vc ds h hvc x m hx hm
    cases ms with
    | nil => simp at hx
    | cons m' ms =>
      simp only [argsE] at h
      split at h
      · rename_i vc' ds' e2
        have key : (σ.v y).1 = true → vc' → (σ.v x).1 = true := fun h1 h2 => by
          simp only [List.zip_cons_cons, List.mem_cons, Prod.mk.injEq] at hx
          rcases hx with ⟨rfl, rfl⟩ | hx
          · exact h1
          · exact ih e2 h2 x m hx hm
        split at h
        · split at h
          · simp only [Option.some.injEq, Prod.mk.injEq] at h
            obtain ⟨rfl, rfl⟩ := h
            exact key hvc.1 hvc.2
          · cases h
        · split at h
          · split at h
            · simp only [Option.some.injEq, Prod.mk.injEq] at h
              obtain ⟨rfl, rfl⟩ := h
              exact key hvc.1 hvc.2
            · cases h
          · cases h
        · split at h
          · simp only [Option.some.injEq, Prod.mk.injEq] at h
            obtain ⟨rfl, rfl⟩ := h
            exact key hvc.1 hvc.2
          · cases h
        · cases h
      · cases h

/-- A variable that is handed back takes its place. -/
theorem Mem.getBox (h : Mem X B σ.bx σ.rw w M) {d b : Nat} {qs : List Q} {t : TypeId} {cells : Array Value} (hc : w.heap[b]? = some (.cells cells t (0, 0))) (hr : RelCs w M qs cells) (hmine : Mine X B b) (hS : ¬ M.S b)
    (hb : ∀ i q, (i, q) ∈ σ.bx → M.β i ≠ b) (hrw : ∀ i r, (i, r) ∈ σ.rw → ¬ pblk (M.ρ i) b) : Mem X B (upd d (qs.map (Q.killB d)) (σ.map (Q.killB d)).bx) σ.rw w (M.nb d b) := by
  have hq := nb_q (d := d) (b := b) (Up.refl h.lt) h.lt
  have hin : ∀ {i' q1}, (i', q1) ∈ upd d (qs.map (Q.killB d)) (σ.map (Q.killB d)).bx → (i' = d ∧ q1 = qs.map (Q.killB d)) ∨ (i' ≠ d ∧ ∃ q, (i', q) ∈ σ.bx ∧ q1 = q.map (Q.killB d)) := fun {i' q1} h' => by
    rcases upd_mem h' with h' | ⟨hne, h'⟩
    · exact .inl h'
    · simp only [St.map, List.mem_map, Prod.mk.injEq] at h'
      obtain ⟨⟨j, q⟩, hj, rfl, rfl⟩ := h'
      exact .inr ⟨hne, q, hj, rfl⟩
  refine ⟨fun i' q1 h' => ?_, fun i' sz es h' => h.row i' sz es h', fun i' q1 j q2 h1 h2 hne => ?_, fun i' q1 j r h1 h2 hg => ?_, h.rr, h.lt, fun i' q1 h1 hs => ?_, h.sr, h.gl⟩
  · rcases hin h' with ⟨rfl, rfl⟩ | ⟨hne, q, hj, rfl⟩
    · simp only [Gh.nb, if_true]
      exact ⟨hmine, t, cells, hc, map_cs hq hr⟩
    · simp only [Gh.nb, if_neg hne]
      obtain ⟨hB', t', cells', h1, h2, h3⟩ := h.box i' q hj
      exact ⟨hB', t', cells', h1, map_cs hq ⟨h2, h3⟩⟩
  · rcases hin h1 with ⟨rfl, _⟩ | ⟨n1, q, hj, _⟩ <;> rcases hin h2 with ⟨rfl, _⟩ | ⟨n2, q', hj', _⟩
    · exact absurd rfl hne
    · simp only [Gh.nb, if_true, if_neg n2]; exact fun e => hb _ _ hj' e.symm
    · simp only [Gh.nb, if_true, if_neg n1]; exact hb _ _ hj
    · simp only [Gh.nb, if_neg n1, if_neg n2]; exact h.bb _ _ _ _ hj hj' hne
  · rcases hin h1 with ⟨rfl, _⟩ | ⟨n1, q, hj, _⟩
    · simp only [Gh.nb, if_true] at hg
      exact hrw _ _ h2 hg
    · simp only [Gh.nb, if_neg n1] at hg
      exact h.br _ _ _ _ hj h2 hg
  · rcases hin h1 with ⟨rfl, _⟩ | ⟨n1, q, hj, _⟩
    · simp only [Gh.nb, if_true] at hs
      exact hS hs
    · simp only [Gh.nb, if_neg n1] at hs
      exact h.sb _ _ hj hs
theorem callS_wp (G : GOK P Γ) (hs : Sim X n B w0 σ a w M) {dst : Option Nat} (hd : ∀ d, dst = some d → d < n) {f : FuncId} {us : List Value} {xs : List XO}
    (hargs : ∀ (σ1 : St) (w1 : World) (M1 : Gh), (∀ t p, (t, p) ∈ σ1.tm → RelV w1 M1 p (a.tmps.getD t undef)) → (∀ c v, Rep w M.S c v → Rep w1 M1.S c v) → All2 (ArgR σ1 w1 M1) xs us)
    {sp : Spec} (hsp : Γ f = some sp) {vc : Prop} {ds : List AV} (ha : argsE (σ.pubs xs sp.md) xs sp.md = some (vc, ds)) (hnd : nodupIds (mutIds (σ.pubs xs sp.md) xs sp.md) = true) (hvc : vc) (hpre : sp.pre ds) :
    okCallee P f = true ∧ ∀ (K : Value → World → Prop) (E : Ending → World → Prop),
      (∀ r o, sp.may ds r o → ∃ σ2 σ3, outE (σ.pubs xs sp.md) xs sp.md o (σ.pubs xs sp.md) = some σ2 ∧ retE dst r σ2 = some σ3 ∧ ∀ v w' M', Sim X n B w0 σ3 (a.put dst v) w' M' → K v w') →
      Calls P f us.toArray w fun e w' => match e with | .returned v => K v w' | e => E e w' := by
  obtain ⟨hc, hsound⟩ := G f sp hsp
  refine ⟨hc, fun K E hK => ?_⟩
  obtain ⟨M1, h1, hmo⟩ := hs.pubL' (pubIds σ xs sp.md)
  change Sim X n B w0 (σ.pubs xs sp.md) a w M1 at h1
  generalize hσ1 : σ.pubs xs sp.md = σ1 at *
  obtain ⟨A3, hth⟩ := argsE_rel h1.mem (hargs σ1 w M1 h1.tm (fun c v h => h.mono hmo (fun _ _ => rfl))) ha hvc
  have hap := fps_apart h1.mem hth hnd
  have hblk : ∀ g, Any (fpsOf M1 σ1 xs sp.md) g → ¬ M1.S g ∧ g < w.heap.size ∧ Mine X B g := fun g hg => by
    obtain ⟨id, hid, hg⟩ := any_fps.1 hg
    exact blk_notS h1.mem (hth id hid) hg
  refine (hsound.full ds hpre w M1.S _ _ h1.mem.gl h1.mem.lt (fun g hg => (hblk g hg).2.1) hap A3).mono ?_
  rintro e w' ⟨r, o, hro, v, S', rfs, fps', rfl, g1, g2, g3, g4, g5, g6, g7, g8⟩
  show K v w'
  have hK2 := hK r o hro
  clear hK
  obtain ⟨σ2, σ3, ho2, hret, hK⟩ := hK2
  have hu : Ub w M1 w' { M1 with S := S' } := ⟨rfl, rfl, g3, fun g hg => g8.block g (h1.mem.lt g hg) (fun hg' => (hblk g hg').1 hg)⟩
  have hm : Mid w' { M1 with S := S' } (Any rfs) a σ1 (mutIds σ1 xs sp.md) σ1 := by
    refine ⟨fun t p h => hu.v (h1.tm t p h), fun i qs hi => ⟨⟨qs, hi⟩, ?_⟩, fun i sz es hi => ⟨⟨_, hi⟩, ?_⟩⟩
    · by_cases hin : (false, i) ∈ mutIds σ1 xs sp.md
      · exact .inl hin
      · right
        obtain ⟨_, t, cells, k1, k2⟩ := h1.mem.box i qs hi
        have hn : ¬ Any (fpsOf M1 σ1 xs sp.md) (M1.β i) := fun hg => by
          obtain ⟨id, hid, hg⟩ := any_fps.1 hg
          exact blk_apart h1.mem (hth id hid) (y := (false, i)) ⟨qs, hi⟩ (fun e => hin (e ▸ hid)) hg rfl
        have hlt := (Array.getElem?_eq_some_iff.1 k1).1
        refine ⟨⟨t, cells, by rw [← k1]; exact g8.block _ hlt hn, RelCs.ub hu k2⟩, fun h => ?_, fun h => ?_⟩
        · rcases g4 _ h with h | h | h
          · exact h1.mem.sb i qs hi h
          · exact absurd hlt (Nat.not_lt.2 h)
          · exact hn h
        · rcases (g7 _ h.left).1 with h | h
          · exact absurd hlt (Nat.not_lt.2 h)
          · exact hn h
    · by_cases hin : (true, i) ∈ mutIds σ1 xs sp.md
      · exact .inl hin
      · right
        obtain ⟨k0, k1, k2⟩ := h1.mem.row i sz es hi
        have hn : ∀ g, pblk (M1.ρ i) g → ¬ Any (fpsOf M1 σ1 xs sp.md) g := fun g hpg hg => by
          obtain ⟨id, hid, hg⟩ := any_fps.1 hg
          exact blk_apart h1.mem (hth id hid) (y := (true, i)) ⟨_, hi⟩ (fun e => hin (e ▸ hid)) hg hpg
        refine ⟨k0, k1.move hu.S hu.keep (fun g hg => g8.block g (k1.lt hg) (hn g hg)), fun g hg h => ?_, fun g hg h => ?_⟩
        · rcases g4 _ h with h | h | h
          · exact h1.mem.sr i _ g hi hg h
          · have := k1.lt hg; omega
          · exact hn g hg h
        · rcases (g7 _ h.left).1 with h | h
          · have := k1.lt hg; omega
          · exact hn g hg h
  have hm2 := outE_mid (N := Any rfs) (hargs σ1 w' { M1 with S := S' } (fun t p h => hu.v (h1.tm t p h)) (fun c v h => hu.rep (h.mono hmo (fun _ _ => rfl)))) (argsE_gd ha hvc) hm g2 (fun g hg => ⟨g6.notS hg.right, fun h => g6.split h hg⟩) ho2 hth
  have mem2 := Mid.mem (M' := { M1 with S := S' }) (hu.gl h1.mem.gl) h1.mem rfl rfl g5 hm2
  have hs2 : Sim X n B w0 σ2 a w' { M1 with S := S' } := ⟨h1.size, h1.defs, hm2.tm, mem2, h1.fr.trans (g8.weak h1.hB (fun g hg hz => (hblk g hz).2.2.resolve_left (by omega))), Nat.le_trans h1.hB g8.size, fun g hg => by
    rcases g4 g hg with h | h | h
    · exact h1.sS g h
    · exact .inr (.inl (Nat.le_trans h1.hB h))
    · exact .inr (hblk g h).2.2, h1.sβ⟩
  unfold retE at hret
  split at hret
  · rename_i sz es
    split at hret
    · rename_i d
      simp only [Option.some.injEq] at hret
      subst hret
      have : ∃ fp, rfs = [fp] ∧ RepA w' S' (.own sz es) v fp := by
        cases rfs with
        | nil => exact absurd rfl g1.1
        | cons fp r => cases r with
          | nil => exact ⟨fp, rfl, g1⟩
          | cons _ _ => exact absurd rfl g1.1
      obtain ⟨fp, rfl, k0, k1, k2⟩ := this
      have hany : ∀ g, pblk v g → Any [fp] g := fun g hg => ⟨fp, by simp, (k2 g).2 hg⟩
      have hone : v.oneCell' = true := by
        rcases k1 with ⟨_, _, h, _⟩ | ⟨_, A, rfl⟩
        · rcases h.2 with ⟨rfl, _⟩ | ⟨_, _, _, rfl, _⟩ <;> rfl
        · rfl
      refine hK v w' (({ M1 with S := S' } : Gh).nr d v) ⟨by simpa [Act.put] using hs2.size, hs2.defs, fun t p h => ?_, Mem.getRow mem2 k0 k1 (fun g hg => ?_) (fun g hg => g6.notS (hany g hg).left) (fun i q hi hg => ?_) (fun i r g hi hg hg' => ?_), hs2.fr, hs2.hB, hs2.sS, hs2.sβ⟩
      · have hdn : d < a.tmps.size := by rw [hs2.size]; exact hd d rfl
        rcases upd_mem h with ⟨rfl, rfl⟩ | ⟨hne, h⟩
        · simp only [Act.put, Array.getD_eq_getD_getElem?, Array.getElem?_setIfInBounds, hdn, if_true, Option.getD_some]
          exact ⟨by simp [Gh.nr], hone⟩
        · simp only [St.map, List.mem_map, Prod.mk.injEq] at h
          obtain ⟨⟨t', p'⟩, h', rfl, rfl⟩ := h
          have := map_v (nr_q (d := d) (v' := v) (Up.refl mem2.lt) mem2.lt) (hs2.tm _ _ h')
          simp only [Act.put, Array.getD_eq_getD_getElem?, Array.getElem?_setIfInBounds]
          rw [if_neg (fun e => hne e.symm), ← Array.getD_eq_getD_getElem?]
          exact this
      · rcases (g7 g (hany g hg).left).1 with h | h
        · exact .inl (Nat.le_trans h1.hB h)
        · exact (hblk g h).2.2
      · exact ((hm2.box i q hi).2.resolve_left (by simp)).n (hany _ hg)
      · obtain ⟨sz', es'⟩ := r
        exact ((hm2.row i sz' es' hi).2.resolve_left (by simp)).n g hg (hany _ hg')
    · cases hret
  · rename_i cs
    split at hret
    · rename_i d
      simp only [Option.some.injEq] at hret
      subst hret
      have : ∃ fp, rfs = [fp] ∧ RepA w' S' (.ref cs) v fp := by
        cases rfs with
        | nil => exact absurd rfl g1.1
        | cons fp r => cases r with
          | nil => exact ⟨fp, rfl, g1⟩
          | cons _ _ => exact absurd rfl g1.1
      obtain ⟨fp, rfl, b, rfl, hc, hfp⟩ := this
      obtain ⟨tt, cells, c1, c2⟩ := cells_rel (M := { M1 with S := S' }) hc
      have hb : Any [fp] b := ⟨fp, by simp, (hfp b).2 rfl⟩
      refine hK _ w' (({ M1 with S := S' } : Gh).nb d b) ⟨by simpa [Act.put] using hs2.size, hs2.defs, fun t p h => ?_, Mem.getBox mem2 c1 c2 ?_ (g6.notS hb.left) (fun i q hi hg => ?_) (fun i r hi hg => ?_), hs2.fr, hs2.hB, hs2.sS, fun i hi => ?_⟩
      · have hdn : d < a.tmps.size := by rw [hs2.size]; exact hd d rfl
        rcases upd_mem h with ⟨rfl, rfl⟩ | ⟨hne, h⟩
        · simp only [Act.put, Array.getD_eq_getD_getElem?, Array.getElem?_setIfInBounds, hdn, if_true, Option.getD_some]
          simp [RelV, RelQ, Gh.nb]
        · simp only [St.map, List.mem_map, Prod.mk.injEq] at h
          obtain ⟨⟨t', p'⟩, h', rfl, rfl⟩ := h
          have := map_v (nb_q (d := d) (b := b) (Up.refl mem2.lt) mem2.lt) (hs2.tm _ _ h')
          simp only [Act.put, Array.getD_eq_getD_getElem?, Array.getElem?_setIfInBounds]
          rw [if_neg (fun e => hne e.symm), ← Array.getD_eq_getD_getElem?]
          exact this
      · rcases (g7 b hb.left).1 with h | h
        · exact .inl (Nat.le_trans h1.hB h)
        · exact (hblk b h).2.2
      · have := ((hm2.box i q hi).2.resolve_left (by simp)).n
        rw [hg] at this; exact this hb
      · obtain ⟨sz', es'⟩ := r
        exact ((hm2.row i sz' es' hi).2.resolve_left (by simp)).n _ hg hb
      · have hdn := hd d rfl
        simp only [Gh.nb]; rw [if_neg (by omega)]; exact hs2.sβ i hi
    · cases hret
  · simp only [Option.map_eq_some_iff] at hret
    obtain ⟨p, hp, rfl⟩ := hret
    refine hK v w' { M1 with S := S' } ?_
    exact hs2.put hd (Up.refl mem2.lt) (fun _ _ h => h.elim) mem2 (retP_rel (M := { M1 with S := S' }) hp g1)
theorem callE_wp (G : GOK P Γ) (hs : Sim X n B w0 σ a w M) {dst : Option Nat} (hd : ∀ d, dst = some d → d < n) {f : FuncId} {us : List Value} {xs : List XO}
    (hargs : ∀ (σ1 : St) (w1 : World) (M1 : Gh), (∀ t p, (t, p) ∈ σ1.tm → RelV w1 M1 p (a.tmps.getD t undef)) → (∀ c v, Rep w M.S c v → Rep w1 M1.S c v) → All2 (ArgR σ1 w1 M1) xs us)
    {vc : Prop} {σ' : St} (he : callE Γ σ dst f xs = some (vc, σ')) (hvc : vc) :
    okCallee P f = true ∧ ∀ (K : Value → World → Prop) (E : Ending → World → Prop), (∀ v w' M', Sim X n B w0 σ' (a.put dst v) w' M' → K v w') →
      Calls P f us.toArray w fun e w' => match e with | .returned v => K v w' | e => E e w' := by
  unfold callE at he
  split at he
  · rename_i sp hsp
    split at he
    · rename_i hal
      split at he
      · rename_i vc' ds ha
        split at he
        · rename_i hnd
          split at he
          · rename_i σ2 ho2
            simp only [Option.map_eq_some_iff, Prod.mk.injEq] at he
            obtain ⟨σ3, hret, rfl, rfl⟩ := he
            obtain ⟨h1, h2⟩ := callS_wp G hs hd hargs hsp ha hnd hvc.1 hvc.2
            refine ⟨h1, fun K E hK => h2 K E (fun r o hro => ?_)⟩
            obtain ⟨rfl, rfl⟩ := (Spec.may_none hal).1 hro
            exact ⟨σ2, σ3, ho2, hret, hK⟩
          · cases he
        · cases he
      · cases he
    · cases he
  · cases he
theorem orF_some {α : Type} {x : Option α} {F : α → Prop} (h : orF x F) : ∃ a, x = some a ∧ F a := by
  unfold orF at h
  split at h
  · exact ⟨_, rfl, h⟩
  · exact h.elim
theorem callR_wp (G : GOK P Γ) (hs : Sim X n B w0 σ a w M) {dst : Option Nat} (hd : ∀ d, dst = some d → d < n) {f : FuncId} {us : List Value} {xs : List XO}
    (hargs : ∀ (σ1 : St) (w1 : World) (M1 : Gh), (∀ t p, (t, p) ∈ σ1.tm → RelV w1 M1 p (a.tmps.getD t undef)) → (∀ c v, Rep w M.S c v → Rep w1 M1.S c v) → All2 (ArgR σ1 w1 M1) xs us)
    {K' : St → Prop} (he : callR Γ σ dst f xs K') :
    okCallee P f = true ∧ ∀ (K : Value → World → Prop) (E : Ending → World → Prop), (∀ σ' v w' M', K' σ' → Sim X n B w0 σ' (a.put dst v) w' M' → K v w') →
      Calls P f us.toArray w fun e w' => match e with | .returned v => K v w' | e => E e w' := by
  unfold callR at he
  split at he
  · rename_i sp hsp
    split at he
    · rename_i vc' ds ha
      obtain ⟨hnd, hvc, hpre, hall⟩ := he
      obtain ⟨h1, h2⟩ := callS_wp G hs hd hargs hsp ha hnd hvc hpre
      refine ⟨h1, fun K E hK => h2 K E (fun r o hro => ?_)⟩
      obtain ⟨σ2, ho2, h3⟩ := orF_some (hall r o hro)
      obtain ⟨σ3, hret, h4⟩ := orF_some h3
      exact ⟨σ2, σ3, ho2, hret, fun v w' M' h => hK σ3 v w' M' h4 h⟩
    · exact he.elim
  · exact he.elim
end
end Go.Proofs.Pw
