/- All operations that write, in one theorem. -/
import Derived.Test.YtiimmibdlhgkfaaPwB
set_option linter.unusedSimpArgs false
set_option linter.unusedVariables false
namespace Go.Proofs.Pw
open Go.RowKit
set_option linter.unusedSectionVars false
variable [Globs]
section
variable {P : Program} {Γ : FuncId → Option Spec} {σ : St} {a : Act} {w w' : World} {M M' : Gh} {X : Nat → Prop} {B n : Nat} {w0 : W0}

/-- A row takes the place of another one, or is new. -/
theorem row_eff (hs : Sim X n B w0 σ a w M) {o : Oper} {d r sz : Nat} (hd : o.dst = some d) (hdn : d < n) {es : List (List C)} {v' : Value} {w' : World} {Z : Nat → Prop} (h0 : 0 < sz)
    (hrun : (execOp a.eval o).run P w = .ok (.value v') w') (hp : Priv w' M.S sz es v') (hfr : Fr Z w.heap.size w w') (hz : ∀ g, Z g → ∃ x, (r, x) ∈ σ.rw ∧ pblk (M.ρ r) g)
    (hb : ∀ g, pblk v' g → w.heap.size ≤ g ∨ ∃ x, (r, x) ∈ σ.rw ∧ pblk (M.ρ r) g) (hrn : r < n ∨ r < BASE)
    {next : Act → World → Prop} {E : Exit → Act → World → Prop}
    (hn : ∀ a' w' M', Sim X n B w0 { tm := upd d (.q (.own r)) (σ.map (Q.killO r)).tm, bx := (σ.map (Q.killO r)).bx, rw := upd r (sz, es) σ.rw } a' w' M' → next a' w') : o.wp P a w next E := by
  have hu : Up Z w M w' M := ⟨rfl, rfl, fun _ h => h, fun _ h => .inl h, fun g hg => Nat.lt_of_lt_of_le (hs.mem.lt g hg) hfr.size, fun g hg hZ => by obtain ⟨x, hx, hg'⟩ := hz g hZ; exact hs.mem.sr _ _ g hx hg' hg, hfr⟩
  refine upon_value hrun (hn _ _ (M.nr r v') ?_)
  rw [hd]
  refine hs.mapPut hdn (nr_q hu hs.mem.lt) (hs.mem.newRow hs.hB h0 hu hz hp hb) (hfr.weak hs.hB (fun g hg hZ => ?_)) ?_ rfl (fun _ _ => rfl) ?_
  · obtain ⟨⟨sz', es'⟩, hx, hg'⟩ := hz g hZ
    rcases (hs.mem.row _ sz' es' hx).2.2 g hg' with h | h
    · omega
    · exact h
  rotate_left
  · intro i hi hbi; simp only [Gh.nr]; rw [if_neg (by omega)]
  · simp only [RelV, RelQ, Gh.nr, if_true]
    refine ⟨trivial, ?_⟩
    rcases hp with ⟨_, _, h, _⟩ | ⟨_, A, rfl⟩
    · rcases h.2 with ⟨rfl, _⟩ | ⟨_, _, _, rfl, _⟩ <;> rfl
    · rfl

theorem app_run {c : Call} {dst : Option Tmp} {ty : TypeId} {pos : String} {after : Array Edge} {guard : Option (Nat × Bool)} {x y : Operand} {t : TypeId} (hb : c.callee = .builtin .append) (ha : c.args = #[x, y]) (ht : c.argTypes = #[t, t]) :
    (execOp a.eval ⟨dst, .call c, ty, pos, after, guard⟩).run P w = ((Builtin.append_ #[t, t] ty #[a.eval x, a.eval y]).run P w).andThen fun v w' => .ok (.value v) w' := by
  simp [execOp, resolve, hb, ha, ht, invoke, builtin]

/-- Names may be forgotten. -/
theorem kill_q (r : Nat) (q : Q) (v : Value) (h : RelQ w M q v) : RelQ w M (q.killO r) v := by
  cases q with
  | own i => simp only [Q.killO]; split; trivial; exact h
  | rp i sz k o => simp only [Q.killO]; split; trivial; exact h
  | vw i sz lo n => simp only [Q.killO]; split; trivial; exact h
  | vc i sz lo n c => simp only [Q.killO]; split; trivial; exact h
  | _ => exact h
/-- A private row, or its beginning, by another name. -/
theorem Sim.rowMove (hs : Sim X n B w0 σ a w M) {r d sz sz' : Nat} {es es' : List (List C)} {v' : Value} (hin : (r, sz', es') ∈ σ.rw) (hd : d < n ∨ d < BASE) (h0 : 0 < sz) (hp : Priv w M.S sz es v') (hsub : ∀ g, pblk v' g → pblk (M.ρ r) g) :
    Sim X n B w0 (σ.rowMove r d sz es) a w (M.nr d v') := by
  have m := hs.mem
  have hm1 : Mem X B (St.map (Q.killO r) σ).bx (del r σ.rw) w M := by
    have hbx : ∀ {i' q1}, (i', q1) ∈ (σ.map (Q.killO r)).bx → ∃ q, (i', q) ∈ σ.bx ∧ q1 = q.map (Q.killO r) := fun {i' q1} h' => by
      simp only [St.map, List.mem_map, Prod.mk.injEq] at h'
      obtain ⟨⟨j, q⟩, hj, rfl, rfl⟩ := h'
      exact ⟨q, hj, rfl⟩
    refine ⟨fun i q1 h => ?_, fun i sz es h => m.row i sz es (del_mem h).2, fun i q i' q' h h' => ?_, fun i q i' x h h' => ?_, fun i x i' x' g h h' => m.rr i x i' x' g (del_mem h).2 (del_mem h').2, m.lt, fun i q h => ?_, fun i x g h => m.sr i x g (del_mem h).2, m.gl⟩
    · obtain ⟨q, hj, rfl⟩ := hbx h
      obtain ⟨hB', t', cells', h1, h2, h3⟩ := m.box i q hj
      exact ⟨hB', t', cells', h1, map_cs (kill_q r) ⟨h2, h3⟩⟩
    · obtain ⟨q1, hj, _⟩ := hbx h; obtain ⟨q2, hj', _⟩ := hbx h'
      exact m.bb i q1 i' q2 hj hj'
    · obtain ⟨q1, hj, _⟩ := hbx h
      exact m.br i q1 i' x hj (del_mem h').2
    · obtain ⟨q1, hj, _⟩ := hbx h
      exact m.sb i q1 hj
  have hm2 := Mem.getRow (σ := ⟨(St.map (Q.killO r) σ).tm, (St.map (Q.killO r) σ).bx, del r σ.rw⟩) (d := d) hm1 h0 hp (fun g hg => (m.row r sz' es' hin).2.2 g (hsub g hg)) (fun g hg => m.sr r _ g hin (hsub g hg))
    (fun i q h hg => by
      simp only [St.map, List.mem_map, Prod.mk.injEq] at h
      obtain ⟨⟨j, q'⟩, hj, rfl, rfl⟩ := h
      exact m.br j q' r _ hj hin (hsub _ hg))
    (fun i x g h hg hg' => m.rr i x r _ g (del_mem h).2 hin (del_mem h).1 hg (hsub g hg'))
  refine ⟨hs.size, hs.defs, fun t p h => ?_, hm2, hs.fr, hs.hB, hs.sS, hs.sβ, fun i hi hb => ?_⟩
  · simp only [St.rowMove, St.map, List.map_map, List.mem_map, Prod.mk.injEq] at h
    obtain ⟨⟨t', p0⟩, h1, rfl, rfl⟩ := h
    exact map_v (nr_q (Up.refl m.lt) m.lt) (map_v (kill_q r) (hs.tm _ _ h1))
  · simp only [Gh.nr]; rw [if_neg (by omega)]; exact hs.sρ i hi hb
theorem Flat.place {S : Nat → Prop} {sz o : Nat} {es ys : List (List C)} {olds us : List Value} (h : Flat w S sz es olds) (k : Flat w S sz ys us) (hl : o + ys.length ≤ es.length) :
    Flat w S sz (es.take o ++ ys ++ es.drop (o + ys.length)) (olds.take (o * sz) ++ us ++ olds.drop (o * sz + us.length)) := by
  have h1 : Flat w S sz (es.take o) (olds.take (o * sz)) := by
    have := h.part (lo := 0) (n := o) (by omega)
    simpa using this
  have h2 : Flat w S sz (es.drop (o + ys.length)) (olds.drop (o * sz + us.length)) := by
    have := h.part (lo := o + ys.length) (n := es.length - (o + ys.length)) (by omega)
    rw [show o + ys.length + (es.length - (o + ys.length)) = es.length by omega, List.take_length, List.take_of_length_le (by rw [List.length_drop, h.2.1, Nat.sub_mul]; exact Nat.le_refl _), Nat.add_mul] at this
    rw [k.2.1]; exact this
  exact (h1.append k).append h2
/-- Cells of a private row turn where they lie. -/
theorem row_write (hs : Sim X n B w0 σ a w M) {r sz o : Nat} {es ys : List (List C)} {us : List Value} (hq : get? r σ.rw = some (sz, es)) (hl : o + ys.length ≤ es.length) (h0 : 0 < ys.length) (hf : Flat w M.S sz ys us) :
    ∃ g N cap cur e, M.ρ r = .slice (some ⟨g, 0, none⟩) N cap ∧ es.length ≤ cap ∧ w.heap[g]? = some (.cells cur e (0, 0)) ∧ o * sz + us.length ≤ cur.size ∧
      Sim X n B w0 { σ with rw := upd r (sz, es.take o ++ ys ++ es.drop (o + ys.length)) σ.rw } a (w.setRow g (cur.toList.take (o * sz) ++ us ++ cur.toList.drop (o * sz + us.length)).toArray) M := by
  have hin := get?_mem hq
  obtain ⟨hsz, hp, hmine⟩ := hs.mem.row r sz es hin
  obtain ⟨e, olds, hown, hfo⟩ : ∃ e us, w.ownsRow 0 e sz (M.ρ r) es.length us ∧ Flat w M.S sz es us := by
    rcases hp with h | ⟨rfl, _⟩
    · exact h
    · rw [List.length_nil] at hl; omega
  obtain ⟨hul, hown⟩ := hown
  obtain ⟨g, cap, cur, hρ, hx, hheap, hnc, hcm, hcs, htake⟩ := hown.resolve_left (fun h => by omega)
  have hm1 := Nat.mul_le_mul_right sz hl
  have hm2 := Nat.mul_le_mul_right sz hnc
  rw [Nat.add_mul] at hm1
  have hus := hf.2.1
  have hcur : o * sz + us.length ≤ cur.size := by omega
  refine ⟨g, _, cap, cur, e, hρ, hnc, hheap, hcur, ?_⟩
  have hpb : pblk (M.ρ r) g := by
    rw [hρ]
    cases cap with
    | zero => omega
    | succ c => simp [pblk]
  have hnS : ¬ M.S g := hs.mem.sr r _ g hin hpb
  have hu0 := up_setRow (M := M) hs.mem.lt (g := g) (cs := (cur.toList.take (o * sz) ++ us ++ cur.toList.drop (o * sz + us.length)).toArray) hnS
  have hheap' : (w.setRow g (cur.toList.take (o * sz) ++ us ++ cur.toList.drop (o * sz + us.length)).toArray).heap[g]? = some (.cells (cur.toList.take (o * sz) ++ us ++ cur.toList.drop (o * sz + us.length)).toArray e (0, 0)) := setRow_heap _ _ _ _ _ _ hheap
  have hu : Up (pblk (M.ρ r)) w M (w.setRow g (cur.toList.take (o * sz) ++ us ++ cur.toList.drop (o * sz + us.length)).toArray) M := ⟨hu0.β, hu0.ρ, hu0.S, hu0.new, hu0.lt, fun k hk hp => hs.mem.sr r _ k hin hp hk, hu0.fr.weak (Nat.le_refl _) (fun k _ e => by rw [e]; exact hpb)⟩
  have hlen : (es.take o ++ ys ++ es.drop (o + ys.length)).length = es.length := by simp; omega
  refine ⟨hs.size, hs.defs, fun t p h => hu.v hs.mem.lt (hs.tm t p h), ?_, hs.fr.trans (hu.fr.weak hs.hB (fun g hg e => ?_)), Nat.le_trans hs.hB hu.fr.size, hs.sS, hs.sβ, hs.sρ⟩
  · refine hs.mem.setRow hin hu hsz (.inl ⟨e, olds.take (o * sz) ++ us ++ olds.drop (o * sz + us.length), ?_, ?_⟩)
    · rw [hρ, hlen]
      have hol := hfo.2.1
      refine ⟨by simp only [List.length_append, List.length_take, List.length_drop]; omega, .inr ⟨g, cap, _, rfl, Nat.zero_le _, hheap', hnc, hcm, ?_, ?_⟩⟩
      · simp only [List.size_toArray, List.length_append, List.length_take, List.length_drop, Array.length_toList]; omega
      · have hlt : (cur.toList.take (o * sz)).length = o * sz := by simp; omega
        rw [← htake, List.append_assoc, List.append_assoc, List.take_append, List.take_append]
        rw [List.take_take, List.take_take, List.drop_take, hlt]
        rw [Nat.min_eq_right (by omega), Nat.min_eq_left (by omega)]
        rw [List.take_of_length_le (l := us) (by omega), Nat.sub_sub]
    · refine (hfo.place hf hl).mono hu.S (hu.keep hs.mem.lt)
  · rcases hmine g e with h | h
    · omega
    · exact h
theorem mem_upd0 {α : Type} (t : Nat) (y : α) : ∀ l : List (Nat × α), (t, y) ∈ upd t y l := by
  intro l
  induction l with
  | nil => simp [upd]
  | cons x l ih =>
    obtain ⟨i, z⟩ := x
    simp only [upd]
    split
    · simp
    · exact List.mem_cons_of_mem _ ih
theorem Sim.updSame (hs : Sim X n B w0 σ a w M) {r : Nat} {x : Nat × List (List C)} (hq : get? r σ.rw = some x) : Sim X n B w0 { σ with rw := upd r x σ.rw } a w M := by
  have hr : ∀ {i y}, (i, y) ∈ upd r x σ.rw → (i, y) ∈ σ.rw := fun h => by
    rcases upd_mem h with ⟨rfl, rfl⟩ | ⟨_, h⟩
    · exact get?_mem hq
    · exact h
  have m := hs.mem
  exact ⟨hs.size, hs.defs, hs.tm, ⟨m.box, fun i sz es h => m.row i sz es (hr h), m.bb, fun i q i' r h h' => m.br i q i' r h (hr h'), fun i r i' r' g h h' => m.rr i r i' r' g (hr h) (hr h'), m.lt, m.sb, fun i r g h => m.sr i r g (hr h), m.gl⟩, hs.fr, hs.hB, hs.sS, hs.sβ, hs.sρ⟩
theorem Sim.putSame (hs : Sim X n B w0 σ a w M) {d : Nat} (hd : d < n) {p : PV} {v : Value} (hv : RelV w M p v) : Sim X n B w0 { σ with tm := upd d p σ.tm } (a.put (some d) v) w M :=
  hs.put (dst := some d) (fun d' h => by cases h; exact hd) (Up.refl hs.mem.lt) (fun _ _ h => h.elim) hs.mem hv
/-- A private row's beginning is a private row. -/
theorem Priv.cut {S : Nat → Prop} {sz n : Nat} {es : List (List C)} {A A' : Option Addr} {m c : Nat} (h : Priv w S sz es (.slice A m c)) (hn : n ≤ es.length) (hA : 0 < c → A' = A) : Priv w S sz (es.take n) (.slice A' n c) := by
  have hl : (es.take n).length = n := by simp; omega
  rcases Nat.eq_zero_or_pos c with hc | hc
  · subst hc
    have : es.length = 0 := by
      rcases h with ⟨e, us, h1, _⟩ | ⟨rfl, _⟩
      · rcases h1.2 with ⟨_, h⟩ | ⟨g, cap, cur, h2, _, _, h3, _⟩
        · exact h
        · cases h2; omega
      · rfl
    have hn0 : n = 0 := by omega
    subst hn0
    exact .inr ⟨by simp, A', rfl⟩
  · rw [hA hc]
    rcases h with ⟨e, us, h1, h2⟩ | ⟨rfl, A2, h2⟩
    · rcases h1.2 with ⟨h3, _⟩ | ⟨g, cap, cur, h3, h4, h5, h6, h7, h8, h9⟩
      · cases h3; omega
      · cases h3
        refine .inl ⟨e, us.take (n * sz), ⟨?_, .inr ⟨g, c, cur, by rw [hl], Nat.zero_le _, h5, by rw [hl]; omega, h7, h8, ?_⟩⟩, ?_⟩
        · rw [hl, List.length_take, h2.2.1]
          exact Nat.min_eq_left (Nat.mul_le_mul_right sz hn)
        · rw [hl, ← h9, List.take_take, Nat.min_eq_left (Nat.mul_le_mul_right sz hn)]
        · have := h2.part (lo := 0) (n := n) (by omega)
          simpa using this
    · cases h2; omega
theorem append_room2 {t ty e e' : TypeId} {i : TypeInfo} (ht : P.underlying t = some (.slice e)) (hi : P.info? e = some i)
    {g sOff sLen sCap : Nat} {cur : Array Value} (hg : w.heap[g]? = some (.cells cur e' (0, 0)))
    {b : Addr} {m c : Nat} {news : List Value} (hl : news.length = m * i.size) (hnews : ∀ j u, news[j]? = some u → w.cell? (b.add j) = some u) (h1 : ∀ u ∈ news, u.oneCell' = true)
    (hroom : sLen + m ≤ sCap) (hfit : sOff + sLen * i.size + news.length ≤ cur.size) :
    (Builtin.append_ #[t, t] ty #[.slice (some ⟨g, sOff, none⟩) sLen sCap, .slice (some b) m c]).run P w =
      .ok (.slice (some ⟨g, sOff, none⟩) (sLen + m) sCap) (w.setRow g (cur.toList.take (sOff + sLen * i.size) ++ news ++ cur.toList.drop (sOff + sLen * i.size + news.length)).toArray) := by
  have hf := run_firstCells_some (P := P) w i.size m b m c news hl hnews
  have hst := run_storeCells_at P g (sOff + sLen * i.size) e' news 0 cur w hg (by simpa using hfit) h1
  simp only [Nat.add_zero] at hst
  simp [Builtin.append_, run_underlying ht, sizeOf, typeInfo, hi, Builtin.lenOf, hroom, hf, Addr.add_lit, hst]
theorem mem_del_ne {α : Type} {t i : Nat} {x : α} (h : i ≠ t) : ∀ {l : List (Nat × α)}, (i, x) ∈ l → (i, x) ∈ del t l := by
  intro l
  induction l with
  | nil => intro h; simp at h
  | cons z l ih =>
    obtain ⟨j, z⟩ := z
    intro hm
    simp only [del]
    split
    · rename_i he
      rcases List.mem_cons.1 hm with hm | hm
      · cases hm; exact absurd he h
      · exact ih hm
    · rcases List.mem_cons.1 hm with hm | hm
      · rw [hm]; simp
      · exact List.mem_cons_of_mem _ (ih hm)
theorem mem_upd_ne {α : Type} {t i : Nat} {x y : α} (h : i ≠ t) : ∀ {l : List (Nat × α)}, (i, x) ∈ l → (i, x) ∈ upd t y l := by
  intro l
  induction l with
  | nil => intro h; simp at h
  | cons z l ih =>
    obtain ⟨j, z⟩ := z
    intro hm
    simp only [upd]
    split
    · rename_i he
      rcases List.mem_cons.1 hm with hm | hm
      · cases hm; exact absurd he h
      · exact List.mem_cons_of_mem _ (mem_del_ne h hm)
    · rcases List.mem_cons.1 hm with hm | hm
      · rw [hm]; simp
      · exact List.mem_cons_of_mem _ (ih hm)
theorem Q.killO2 (r : Nat) (q : Q) : (q.killO r).killO r = q.killO r := by
  cases q with
  | own i => by_cases h : i = r <;> simp [Q.killO, h]
  | rp i _ _ _ => by_cases h : i = r <;> simp [Q.killO, h]
  | vw i _ _ _ => by_cases h : i = r <;> simp [Q.killO, h]
  | vc i _ _ _ _ => by_cases h : i = r <;> simp [Q.killO, h]
  | _ => rfl
theorem PV.killO2 (r : Nat) : ∀ (p : PV), (p.map (Q.killO r)).map (Q.killO r) = p.map (Q.killO r)
  | .q x => by simp [PV.map, Q.killO2]
  | .agg xs => by simp [PV.map, Q.killO2]
  | .tup xs => by
    simp only [PV.map, List.map_map, PV.tup.injEq, List.map_inj_left]
    intro s _
    cases s <;> simp [SV.map, Q.killO2]
  | .gd b p => by simp only [PV.map]; rw [PV.killO2 r p]
theorem Sim.sub {σ' : St} (hs : Sim X n B w0 σ a w M) (ht : ∀ p ∈ σ'.tm, p ∈ σ.tm) (hb : ∀ p ∈ σ'.bx, p ∈ σ.bx) (hr : ∀ p ∈ σ'.rw, p ∈ σ.rw) : Sim X n B w0 σ' a w M :=
  ⟨hs.size, hs.defs, fun t p h => hs.tm t p (ht _ h), ⟨fun i q h => hs.mem.box i q (hb _ h), fun i sz es h => hs.mem.row i sz es (hr _ h), fun i q j q' h k => hs.mem.bb i q j q' (hb _ h) (hb _ k), fun i q j r h k => hs.mem.br i q j r (hb _ h) (hr _ k), fun i r j r' g h k => hs.mem.rr i r j r' g (hr _ h) (hr _ k), hs.mem.lt, fun i q h => hs.mem.sb i q (hb _ h), fun i r g h => hs.mem.sr i r g (hr _ h), hs.mem.gl⟩, hs.fr, hs.hB, hs.sS, hs.sβ, hs.sρ⟩
theorem app_move (hs : Sim X n B w0 σ a w M) {o : Oper} {d : Nat} (e1 : o.dst = some d) (hdn : d < n) {t e : TypeId} {ti : TypeInfo} {z : Value} {sz bytes : Nat} (ht : P.underlying t = some (.slice e)) (hi : P.info? e = some ti) (hsz : ti.size = sz) (hby : ti.bytes = bytes) (hz : ti.zero = some z) (hzs : z.cells.size = sz) (h0 : 0 < sz)
    {x y : Operand} (hrun : ∀ v' w', (Builtin.append_ #[t, t] o.type #[a.eval x, a.eval y]).run P w = .ok v' w' → (execOp a.eval o).run P w = .ok (.value v') w')
    {r : Nat} {es ys : List (List C)} (hq : get? r σ.rw = some (sz, es)) (rx : RelV w M (.q (.own r)) (a.eval x)) (hy : RowC w M.S sz ys (a.eval y)) (h3 : (es.length + ys.length) * bytes ≤ 140737488355328) (hmx : es.length + ys.length ≤ 9223372036854775807)
    {next : Act → World → Prop} {E : Exit → Act → World → Prop} (hn : ∀ a' w' M', Sim X n B w0 (rowApp d d sz (es ++ ys) (σ.rowMove r d sz es)) a' w' M' → next a' w') : o.wp P a w next E := by
  have hv := rx.1
  have hin := get?_mem hq
  obtain ⟨_, hp, _⟩ := hs.mem.row r _ es hin
  have hs2 := hs.rowMove (d := d) hin (.inl hdn) h0 hp (fun _ h => h)
  obtain ⟨v', w', k1, k2, k3, k4⟩ := append_own (ty := o.type) ht hi hsz hby hz hzs hs.mem.lt hy h3 hmx hp (fun g hg => hs.mem.sr _ _ g hin hg)
  rw [← hv] at k1
  have hρ : (M.nr d (M.ρ r)).ρ d = M.ρ r := by simp [Gh.nr]
  have hin2 : (d, sz, es) ∈ (σ.rowMove r d sz es).rw := (mem_upd0 _ _ _)
  exact row_eff hs2 e1 hdn h0 (hrun _ _ k1) k2 k3 (fun g hg => ⟨_, hin2, by rw [hρ]; exact hg⟩) (fun g hg => (k4 g hg).imp id (fun h => ⟨_, hin2, by rw [hρ]; exact h⟩)) (.inl hdn) hn
theorem app_fit (hs : Sim X n B w0 σ a w M) {o : Oper} {d : Nat} (e1 : o.dst = some d) (hdn : d < n) {t e : TypeId} {ti : TypeInfo} {sz : Nat} (ht : P.underlying t = some (.slice e)) (hi : P.info? e = some ti) (hsz : ti.size = sz)
    {x y : Operand} (hrun : ∀ v' w', (Builtin.append_ #[t, t] o.type #[a.eval x, a.eval y]).run P w = .ok v' w' → (execOp a.eval o).run P w = .ok (.value v') w')
    {r lo n1 : Nat} {es ys : List (List C)} (hq : get? r σ.rw = some (sz, es)) (rx : RelV w M (.q (.vw r sz lo n1)) (a.eval x)) (hy : RowC w M.S sz ys (a.eval y)) (hfit : lo + n1 + ys.length ≤ es.length)
    {next : Act → World → Prop} {E : Exit → Act → World → Prop} (hn : ∀ a' w' M', Sim X n B w0 { tm := upd d (.q (.vw r sz lo (n1 + ys.length))) σ.tm, bx := σ.bx, rw := upd r (sz, es.take (lo + n1) ++ ys ++ es.drop (lo + n1 + ys.length)) σ.rw } a' w' M' → next a' w') : o.wp P a w next E := by
  obtain ⟨A, m, c, A', hρ, hc, hv, hA⟩ := rx
  obtain ⟨B2, c2, hvy, hcy, hy⟩ := hy
  by_cases hys : ys = []
  · subst hys
    have hr0 := append_nil_run (P := P) (w := w) (ty := o.type) (t := t) ht hi (A := A') (A' := B2) (m := n1) (c := c - lo) (c' := c2) (by omega)
    refine upon_value (hrun _ _ (by rw [hv, hvy]; exact hr0)) (hn _ _ M ?_)
    have e4 : es.take (lo + n1) ++ [] ++ es.drop (lo + n1 + ([] : List (List C)).length) = es := by simp
    rw [e4, e1]
    have hs2 := hs.putSame (d := d) hdn (p := .q (.vw r sz lo (n1 + 0))) (v := .slice A' n1 (c - lo)) ⟨A, m, c, A', hρ, hc, rfl, hA⟩
    exact hs2.updSame hq
  · obtain ⟨ad, us, rfl, hf, hcell, hone⟩ := hy.resolve_left hys
    have hpos : 0 < ys.length := by cases ys with
      | nil => exact absurd rfl hys
      | cons _ _ => simp
    obtain ⟨gg, N, cap, cur, ee, hρ2, hcap, hheap, hcur, hs2⟩ := row_write hs hq hfit hpos hf
    have hρ3 := hρ
    rw [hρ2] at hρ3
    cases hρ3
    have hA2 := hA (by omega)
    subst hA2
    have hr1 := append_room2 (P := P) (ty := o.type) (t := t) ht hi hheap (b := ad) (m := ys.length) (c := c2) (sOff := lo * sz) (sLen := n1) (sCap := c - lo) (by rw [hf.2.1, hsz]) hcell hone (by omega) (by rw [hsz]; rw [Nat.add_mul] at hcur; exact hcur)
    rw [hsz, ← Nat.add_mul] at hr1
    have hv2 : a.eval x = .slice (some ⟨gg, lo * sz, none⟩) n1 (c - lo) := by rw [hv]; simp [Addr.add_lit]
    refine upon_value (hrun _ _ (by rw [hv2, hvy]; exact hr1)) (hn _ _ M ?_)
    rw [e1]
    exact hs2.putSame (d := d) hdn (p := .q (.vw r sz lo (n1 + ys.length))) ⟨_, _, c, some ⟨gg, lo * sz, none⟩, hρ, by omega, rfl, fun _ => by simp [Addr.add_lit]⟩
theorem app_cut (hs : Sim X n B w0 σ a w M) {o : Oper} {d : Nat} (e1 : o.dst = some d) (hdn : d < n) {t e : TypeId} {ti : TypeInfo} {z : Value} {sz bytes : Nat} (ht : P.underlying t = some (.slice e)) (hi : P.info? e = some ti) (hsz : ti.size = sz) (hby : ti.bytes = bytes) (hz : ti.zero = some z) (hzs : z.cells.size = sz) (h0 : 0 < sz)
    {x y : Operand} (hrun : ∀ v' w', (Builtin.append_ #[t, t] o.type #[a.eval x, a.eval y]).run P w = .ok v' w' → (execOp a.eval o).run P w = .ok (.value v') w')
    {r n1 : Nat} {es ys : List (List C)} (hq : get? r σ.rw = some (sz, es)) (rx : RelV w M (.q (.vw r sz 0 n1)) (a.eval x)) (hy : RowC w M.S sz ys (a.eval y)) (hB : r < BASE) (hnl : n1 ≤ es.length) (h3 : (n1 + ys.length) * bytes ≤ 140737488355328) (hmx : n1 + ys.length ≤ 9223372036854775807)
    {next : Act → World → Prop} {E : Exit → Act → World → Prop} (hn : ∀ a' w' M', Sim X n B w0 (rowApp d r sz (es.take n1 ++ ys) σ) a' w' M' → next a' w') : o.wp P a w next E := by
  have hin := get?_mem hq
  obtain ⟨_, hp, _⟩ := hs.mem.row r _ es hin
  obtain ⟨A, m, c, A', hρ, hc, hv, hA⟩ := rx
  have hA' : 0 < c → A' = A := fun h => by rw [hA h]; cases A <;> simp [Addr.add]
  have hp2 : Priv w M.S sz (es.take n1) (.slice A' n1 c) := by rw [hρ] at hp; exact hp.cut hnl hA'
  have hsub : ∀ g, pblk (.slice A' n1 c) g → pblk (M.ρ r) g := fun g hg => by
    rw [hρ]
    rcases Nat.eq_zero_or_pos c with h | h
    · subst h; cases A' <;> simp [pblk] at hg
    · rw [hA' h] at hg
      cases c with
      | zero => omega
      | succ c => cases A with
        | none => exact hg.elim
        | some ad => exact hg
  have hs2 := hs.rowMove (d := r) hin (.inr hB) h0 hp2 hsub
  have hl2 : (es.take n1).length = n1 := by simp; omega
  obtain ⟨v', w', k1, k2, k3, k4⟩ := append_own (ty := o.type) ht hi hsz hby hz hzs hs.mem.lt hy (by rw [hl2]; exact h3) (by rw [hl2]; exact hmx) hp2 (fun g hg => hs.mem.sr _ _ g hin (hsub g hg))
  rw [Nat.sub_zero] at hv
  rw [← hv] at k1
  have hρ3 : (M.nr r (.slice A' n1 c)).ρ r = .slice A' n1 c := by simp [Gh.nr]
  have hin2 : (r, sz, es.take n1) ∈ (σ.rowMove r r sz (es.take n1)).rw := (mem_upd0 _ _ _)
  rw [← hv] at hρ3 k3 k4
  refine row_eff hs2 e1 hdn h0 (hrun _ _ k1) k2 k3 (fun g hg => ⟨_, hin2, by rw [← hv, hρ3]; exact hg⟩) (fun g hg => (k4 g hg).imp id (fun h => ⟨_, hin2, by rw [← hv, hρ3]; exact h⟩)) (.inr hB) (fun a' w' M' h => hn a' w' M' (h.sub (fun p hp => ?_) (fun p hp => ?_) (fun p hp => ?_)))
  · show p ∈ upd d (PV.q (.own r)) (St.map (Q.killO r) (σ.rowMove r r sz (es.take n1))).tm
    obtain ⟨t', p'⟩ := p
    rcases upd_mem hp with ⟨rfl, rfl⟩ | ⟨hne, hp⟩
    · exact mem_upd0 _ _ _
    · refine mem_upd_ne hne ?_
      simp only [St.map, List.mem_map, Prod.mk.injEq] at hp
      obtain ⟨⟨t2, p2⟩, hp3, rfl, rfl⟩ := hp
      simp only [St.rowMove, St.map, List.map_map, List.mem_map]
      exact ⟨(t2, p2), hp3, by simp [PV.killO2]⟩
  · obtain ⟨t', p'⟩ := p
    change (t', p') ∈ (St.map (Q.killO r) σ).bx at hp
    show (t', p') ∈ (St.map (Q.killO r) (σ.rowMove r r sz (es.take n1))).bx
    simp only [St.map, List.mem_map, Prod.mk.injEq] at hp
    obtain ⟨⟨t2, p2⟩, hp3, rfl, rfl⟩ := hp
    simp only [St.rowMove, St.map, List.map_map, List.mem_map]
    refine ⟨(t2, p2), hp3, ?_⟩
    simp [Q.killO2]
  · obtain ⟨t', p'⟩ := p
    rcases upd_mem hp with ⟨rfl, rfl⟩ | ⟨hne, hp⟩
    · exact mem_upd0 _ _ _
    · exact mem_upd_ne hne (mem_upd_ne hne (mem_del_ne hne hp))
theorem flat_zero {z : Value} {zs : List C} (hr : RelCs w M (zs.map .c) z.cells) (m : Nat) : Flat w M.S zs.length (List.replicate m zs) (Builtin.zeroCells z.cells m).toList := by
  have hzl : z.cells.size = zs.length := by simpa using hr.1
  refine ⟨fun i' e' he' => ?_, by simp [Builtin.zeroCells, hzl], fun i' j e' c' he' hj => ?_⟩
  · rw [List.getElem?_replicate] at he'
    split at he' <;> cases he'; rfl
  · rw [List.getElem?_replicate] at he'
    split at he'
    · rename_i hlt
      cases he'
      obtain ⟨u, g1, _, g3⟩ := hr.2 j (.c c') (by simp [hj])
      have hjl : j < zs.length := (List.getElem?_eq_some_iff.1 hj).1
      have := row_fit hlt hjl
      refine ⟨u, ?_, g3⟩
      have hmod : (i' * zs.length + j) % z.cells.size = j := by rw [hzl, Nat.mul_comm, Nat.mul_add_mod]; exact Nat.mod_eq_of_lt hjl
      simp [Builtin.zeroCells, hzl, this, getElem!_def]
      rw [Nat.mod_eq_of_lt hjl, g1]
    · cases he'
theorem clear_at {t ty e e' : TypeId} {i : TypeInfo} {z : Value} (ht : P.underlying t = some (.slice e)) (hi : P.info? e = some i) (hz : i.zero = some z) {g off m c : Nat} {cur : Array Value} (hg : w.heap[g]? = some (.cells cur e' (0, 0))) (hm : 0 < m)
    (h1 : ∀ u ∈ (Builtin.zeroCells z.cells m).toList, u.oneCell' = true) (hfit : off + (Builtin.zeroCells z.cells m).toList.length ≤ cur.size) :
    (Builtin.clear_ #[t] ty #[.slice (some ⟨g, off, none⟩) m c]).run P w = .ok (.tuple #[]) (w.setRow g (cur.toList.take off ++ (Builtin.zeroCells z.cells m).toList ++ cur.toList.drop (off + (Builtin.zeroCells z.cells m).toList.length)).toArray) := by
  obtain ⟨m', rfl⟩ : ∃ k, m = k + 1 := ⟨m - 1, by omega⟩
  have hst := run_storeCells_at P g off e' (Builtin.zeroCells z.cells (m' + 1)).toList 0 cur w hg (by simpa using hfit) h1
  simp only [Nat.add_zero] at hst
  simp [Builtin.clear_, run_underlying ht, zeroValue, typeInfo, hi, hz, hst]
theorem clear_none {t ty e : TypeId} (ht : P.underlying t = some (.slice e)) {A : Option Addr} {c : Nat} : (Builtin.clear_ #[t] ty #[.slice A 0 c]).run P w = .ok (.tuple #[]) w := by
  cases A <;> simp [Builtin.clear_, run_underlying ht]
theorem clr_wp (hs : Sim X n B w0 σ a w M) {o : Oper} {c : Call} (ho : o.op = .call c) {x0 : Operand} {t e : TypeId} {x : XO} {zs : List C} (hcb : c.callee = .builtin .clear) (hca : c.args.toList = [x0]) (hct : c.argTypes.toList = [t]) (hx : okO x0 x = true)
    {ti : TypeInfo} {z : Value} (ht : P.underlying t = some (.slice e)) (hi : P.info? e = some ti) (hz : ti.zero = some z) (hk : okVs z.cells.toList (zs.map .c) = true) (hdst : ∀ d, o.dst = some d → d < n)
    {vc : Prop} {σ' : St} (he : effK σ o.dst (.clr x zs) = some (vc, σ')) (hvc : vc) {next : Act → World → Prop} {E : Exit → Act → World → Prop} (hn : ∀ a' w' M', Sim X n B w0 σ' a' w' M' → next a' w') : o.wp P a w next E := by
  have hca' : c.args = #[x0] := by rw [← Array.toArray_toList (xs := c.args), hca]
  have hct' : c.argTypes = #[t] := by rw [← Array.toArray_toList (xs := c.argTypes), hct]
  have hr : RelCs w M (zs.map .c) z.cells := by simpa using okVs_rel (w := w) (M := M) hk
  have rx := okO_rel (o := x0) (x := x) hs.tm hx
  have hrun : ∀ v' w', (Builtin.clear_ #[t] o.type #[a.eval x0]).run P w = .ok v' w' → (execOp a.eval o).run P w = .ok (.value v') w' := fun v' w' h => by
    obtain ⟨dst, op, ty, pos, after, guard⟩ := o
    simp only at ho; subst ho
    simp only at h
    simp [execOp, resolve, hcb, hca', hct', invoke, builtin, h]
  have fin : ∀ {τ : St} {w'}, Sim X n B w0 τ a w' M → Sim X n B w0 (τ.put o.dst (.q .no)) (a.put o.dst (.tuple #[])) w' M := fun {τ w'} h => h.put hdst (Up.refl h.mem.lt) (fun _ _ h => h.elim) h.mem trivial
  have key : ∀ {r lo m : Nat} {es : List (List C)} {A : Option Addr} {cc : Nat}, get? r σ.rw = some (zs.length, es) → lo + m ≤ es.length → a.eval x0 = .slice A m cc → (∀ g N cap, 0 < m → M.ρ r = .slice (some ⟨g, 0, none⟩) N cap → es.length ≤ cap → A = some ⟨g, lo * zs.length, none⟩) →
      (∀ a' w' M', Sim X n B w0 (St.put { σ with rw := upd r (zs.length, es.take lo ++ List.replicate m zs ++ es.drop (lo + m)) σ.rw } o.dst (.q .no)) a' w' M' → next a' w') → o.wp P a w next E := by
    intro r lo m es A cc hq hl hv hA hn
    rcases Nat.eq_zero_or_pos m with h0 | h0
    · subst h0
      refine upon_value (hrun _ _ (by rw [hv]; exact clear_none ht)) (hn _ _ M (fin ?_))
      have e4 : es.take lo ++ List.replicate 0 zs ++ es.drop (lo + 0) = es := by simp
      rw [e4]; exact hs.updSame hq
    · have hf := flat_zero hr m
      obtain ⟨gg, N, cap, cur, ee, hρ, hcap, hheap, hcur, hs2⟩ := row_write hs hq (o := lo) (by simpa using hl) (by simpa using h0) hf
      have hA2 := hA gg N cap h0 hρ hcap
      subst hA2
      refine upon_value (hrun _ _ (by rw [hv]; exact clear_at ht hi hz hheap h0 hf.one hcur)) (hn _ _ M (fin ?_))
      simpa using hs2
  simp only [effK] at he
  split at he
  · rename_i g r e1
    rw [e1] at rx
    simp only [Option.map_eq_some_iff, Prod.mk.injEq] at he
    obtain ⟨⟨sz', es⟩, hq, rfl, rfl⟩ := he
    obtain ⟨hg, hsz⟩ := hvc
    simp only at hsz
    subst hsz
    obtain ⟨A, cc, hρ, hcap⟩ := mem_rowc hs.mem hq
    have hv := (rx hg).1
    rw [hρ] at hv
    refine key (lo := 0) (m := es.length) hq (by omega) hv (fun g N cap h0 h1 h2 => ?_) (fun a' w' M' h => hn a' w' M' ?_)
    · rw [hρ] at h1; cases h1; simp
    · simpa using h
  · rename_i g r sz lo m e1
    rw [e1] at rx
    simp only [Option.map_eq_some_iff, Prod.mk.injEq] at he
    obtain ⟨⟨sz', es⟩, hq, rfl, rfl⟩ := he
    obtain ⟨hg, h1, h2, hl⟩ := hvc
    simp only at h2 hl
    subst h2; subst h1
    obtain ⟨A, mm, cc, A', hρ, hc, hv, hA⟩ := rx hg
    refine key (lo := lo) (m := m) hq hl hv (fun g N cap h0 h1 h2 => ?_) hn
    rw [hρ] at h1; cases h1
    rw [hA (by omega)]; simp [Addr.add_lit]
  · cases he
theorem apn_wp (hs : Sim X n B w0 σ a w M) {o : Oper} {c : Call} (ho : o.op = .call c) {x0 n0 : Operand} {t tn e : TypeId} {kn : IntKind} (hcb : c.callee = .builtin .append) (hca : c.args = #[x0, n0]) (hct : c.argTypes = #[t, tn]) (htn : P.underlying tn = some (.int kn))
    {ti : TypeInfo} {z : Value} {zs : List C} {bytes : Nat} (ht : P.underlying t = some (.slice e)) (hi : P.info? e = some ti) (hsz : ti.size = zs.length) (hby : ti.bytes = bytes) (hz' : ti.zero = some z) (hz : okVs z.cells.toList (zs.map .c) = true) {d : Nat} (e1 : o.dst = some d) (hdst : ∀ d, o.dst = some d → d < n)
    {A : Option Addr} {es : List (List C)} {cc : Nat} {k : IntKind} {N : Nat} (hv : a.eval x0 = .slice A es.length cc) (hy : RowC w M.S zs.length es (.slice A es.length cc)) (hln : a.eval n0 = .int k N) (h0 : 0 < N) (hg : cc < es.length + N) (hNb : (es.length + N) * bytes ≤ 140737488355328) (h62 : es.length + N ≤ 4611686018427387904) (h5 : 0 < zs.length)
    {next : Act → World → Prop} {E : Exit → Act → World → Prop} (hn : ∀ a' w' M', Sim X n B w0 { tm := upd d (.q (.own d)) (σ.map (Q.killO d)).tm, bx := (σ.map (Q.killO d)).bx, rw := upd d (zs.length, es ++ List.replicate N zs) σ.rw } a' w' M' → next a' w') : o.wp P a w next E := by
  have hr : RelCs w M (zs.map .c) z.cells := by simpa using okVs_rel (w := w) (M := M) hz
  have hzl : z.cells.size = zs.length := by simpa using hr.1
  obtain ⟨olds, hfo, hold⟩ : ∃ olds, Flat w M.S zs.length es olds ∧ (Builtin.firstCells ti.size es.length (.slice A es.length cc)).run P w.drew = .ok olds.toArray w.drew := by
    obtain ⟨A2, c2, he, _, h2⟩ := hy
    cases he
    rcases h2 with rfl | ⟨ad, us, rfl, hf, hcell, _⟩
    · refine ⟨[], Flat.nil, ?_⟩
      cases A with
      | none => exact run_firstCells_none w.drew ti.size 0 0 _
      | some ad => exact run_firstCells_some w.drew ti.size 0 ad 0 _ [] (by simp) (fun j v hj => by simp at hj)
    · exact ⟨us, hf, run_firstCells_some w.drew ti.size es.length ad es.length _ us (by rw [hf.2.1, hsz]) (fun j v hj => hcell j v hj)⟩
  have hNb' : N * bytes ≤ (es.length + N) * bytes := Nat.mul_le_mul_right _ (by omega)
  have hfit := growslice_fits (need := es.length + N) (old := cc) (bytes := ti.bytes) (by omega) (by rw [hby]; exact hNb)
  have hap := Lib.run_append_grow_zeros (P := P) w t tn o.type e ti z k kn ht htn hi hz' A es.length cc olds hold N h0 (by omega) hg (by omega) (by rw [hby]; omega) hfit
  have hgc := grownCap_ge w (es.length + N) cc e
  have hgm := grownCap_le_maxLen w (es.length + N) cc e (by simp only [maxLen]; omega)
  have hnf : Flat w M.S zs.length (List.replicate N zs) (Builtin.zeroCells z.cells N).toList := flat_zero hr N
  have hgp := grown_priv (w := w) (S := M.S) (e := e) hfo hnf hs.mem.lt hzl (cap := grownCap w (es.length + N) cc e) (by simpa using hgc) hgm
  simp only [Array.toArray_toList, List.length_replicate] at hgp
  refine row_eff (Z := fun _ => False) hs e1 (hdst _ e1) h5 (v' := .slice (some ⟨w.heap.size, 0, none⟩) (es.length + N) (grownCap w (es.length + N) cc e)) (w' := w.drew.alloc (.cells (olds.toArray ++ Builtin.zeroCells z.cells N ++ Builtin.zeroCells z.cells (grownCap w (es.length + N) cc e - (es.length + N))) e))
    (by
      obtain ⟨dst, op, ty, pos, after, guard⟩ := o
      simp only at ho; subst ho
      simp only at hap
      simp only [execOp, resolve, hcb, hca, hct, invoke, builtin, List.map_toArray, List.map_cons, List.map_nil, hv, hln, Sem.run_bind, Sem.run_pure, Result.andThen_ok, hap]) hgp ?_ (fun g hg => hg.elim) (fun g hg => ?_) (.inl (hdst _ e1)) hn
  · exact ⟨rfl, rfl, rfl, by simp, fun k hk _ => Below.heap_alloc w.drew _ k (by simpa using hk), fun a => frozen?_alloc_cells w.drew _ _ a⟩
  · generalize grownCap w (es.length + N) cc e = cc at hg
    cases cc <;> simp [pblk] at hg; exact .inl (by omega)
theorem killW_q {r : Nat} {g N N' cap : Nat} {Z : Nat → Prop} (hu : Up Z w M w' M) (hl : ∀ g, M.S g → g < w.heap.size) (hρ : M.ρ r = .slice (some ⟨g, 0, none⟩) N cap) (q : Q) (v : Value) (h : RelQ w M q v) : RelQ w' (M.nr r (.slice (some ⟨g, 0, none⟩) N' cap)) (q.killW r) v := by
  have h' := hu.q hl h
  cases q with
  | own i =>
    simp only [Q.killW]
    split
    · trivial
    · rename_i hne; simp only [RelQ, Gh.nr, if_neg hne] at *; exact h'
  | rp i sz k o =>
    by_cases hi : i = r
    · subst hi
      obtain ⟨g', n', c', h1, h2⟩ := h'
      rw [hρ] at h1; cases h1
      exact ⟨g, N', cap, by simp [Gh.nr], h2⟩
    · simp only [Q.killW, RelQ, Gh.nr, if_neg hi] at *; exact h'
  | vw i sz lo n =>
    by_cases hi : i = r
    · subst hi
      obtain ⟨A, m, c, A', h1, h2, h3, h4⟩ := h'
      rw [hρ] at h1; cases h1
      exact ⟨some ⟨g, 0, none⟩, N', cap, A', by simp [Gh.nr], h2, h3, h4⟩
    · simp only [Q.killW, RelQ, Gh.nr, if_neg hi] at *; exact h'
  | vc i sz lo n c =>
    by_cases hi : i = r
    · subst hi
      obtain ⟨A, m, A', h1, h2, h3, h4⟩ := h'
      rw [hρ] at h1; cases h1
      exact ⟨some ⟨g, 0, none⟩, N', A', by simp [Gh.nr], h2, h3, h4⟩
    · simp only [Q.killW, RelQ, Gh.nr, if_neg hi] at *; exact h'
  | _ => exact h'
/-- Cells of a private row turn where they lie, and its spare room behind its end. -/
theorem row_grow (hs : Sim X n B w0 σ a w M) {r sz o : Nat} {es ys : List (List C)} {us : List Value} (hq : get? r σ.rw = some (sz, es)) (hB : r < BASE) (ho : o ≤ es.length) (hl : es.length ≤ o + ys.length) (h0 : 0 < ys.length) {A : Option Addr} {m cp : Nat} (hρ0 : M.ρ r = .slice A m cp) (hcp : o + ys.length ≤ cp) (hf : Flat w M.S sz ys us) :
    ∃ g N cap cur e, M.ρ r = .slice (some ⟨g, 0, none⟩) N cap ∧ es.length ≤ cap ∧ w.heap[g]? = some (.cells cur e (0, 0)) ∧ o * sz + us.length ≤ cur.size ∧
      Sim X n B w0 { tm := (σ.map (Q.killW r)).tm, bx := (σ.map (Q.killO r)).bx, rw := upd r (sz, es.take o ++ ys) σ.rw } a (w.setRow g (cur.toList.take (o * sz) ++ us ++ cur.toList.drop (o * sz + us.length)).toArray) (M.nr r (.slice (some ⟨g, 0, none⟩) (o + ys.length) cap)) := by
  have hin := get?_mem hq
  obtain ⟨hsz, hp, hmine⟩ := hs.mem.row r sz es hin
  obtain ⟨e, olds, hown, hfo⟩ : ∃ e us, w.ownsRow 0 e sz (M.ρ r) es.length us ∧ Flat w M.S sz es us := by
    rcases hp with h | ⟨_, A2, h⟩
    · exact h
    · rw [hρ0] at h; cases h; omega
  obtain ⟨hul, hown⟩ := hown
  obtain ⟨g, cap, cur, hρ, hx, hheap, hnc, hcm, hcs, htake⟩ := hown.resolve_left (fun h => by rw [hρ0] at h; cases h.1; omega)
  have hcc : cap = cp := by rw [hρ0] at hρ; cases hρ; rfl
  subst hcc
  have hm1 := Nat.mul_le_mul_right sz hcp
  have hm2 := Nat.mul_le_mul_right sz hnc
  have hm3 := Nat.mul_le_mul_right sz ho
  rw [Nat.add_mul] at hm1
  have hus := hf.2.1
  have hcur : o * sz + us.length ≤ cur.size := by omega
  refine ⟨g, _, cap, cur, e, hρ, hnc, hheap, hcur, ?_⟩
  have hpb : pblk (M.ρ r) g := by
    rw [hρ]
    cases cap with
    | zero => omega
    | succ c => simp [pblk]
  have hnS : ¬ M.S g := hs.mem.sr r _ g hin hpb
  have hu0 := up_setRow (M := M) hs.mem.lt (g := g) (cs := (cur.toList.take (o * sz) ++ us ++ cur.toList.drop (o * sz + us.length)).toArray) hnS
  have hheap' : (w.setRow g (cur.toList.take (o * sz) ++ us ++ cur.toList.drop (o * sz + us.length)).toArray).heap[g]? = some (.cells (cur.toList.take (o * sz) ++ us ++ cur.toList.drop (o * sz + us.length)).toArray e (0, 0)) := setRow_heap _ _ _ _ _ _ hheap
  have hu : Up (pblk (M.ρ r)) w M (w.setRow g (cur.toList.take (o * sz) ++ us ++ cur.toList.drop (o * sz + us.length)).toArray) M := ⟨hu0.β, hu0.ρ, hu0.S, hu0.new, hu0.lt, fun k hk hp => hs.mem.sr r _ k hin hp hk, hu0.fr.weak (Nat.le_refl _) (fun k _ e => by rw [e]; exact hpb)⟩
  have hlen : (es.take o ++ ys).length = o + ys.length := by simp; omega
  have hol := hfo.2.1
  have hpr : Priv (w.setRow g (cur.toList.take (o * sz) ++ us ++ cur.toList.drop (o * sz + us.length)).toArray) M.S sz (es.take o ++ ys) (.slice (some ⟨g, 0, none⟩) (o + ys.length) cap) := by
    refine .inl ⟨e, olds.take (o * sz) ++ us, ?_, ?_⟩
    · rw [hlen]
      refine ⟨by simp only [List.length_append, List.length_take]; rw [Nat.add_mul]; omega, .inr ⟨g, cap, _, rfl, Nat.zero_le _, hheap', hcp, hcm, ?_, ?_⟩⟩
      · simp only [List.size_toArray, List.length_append, List.length_take, List.length_drop, Array.length_toList]; omega
      · have hlt : (cur.toList.take (o * sz)).length = o * sz := by simp; omega
        rw [← htake, List.take_take, Nat.min_eq_left (by omega)]
        rw [List.take_append_of_le_length (by rw [List.length_append, hlt, Nat.add_mul]; omega)]
        exact List.take_of_length_le (by rw [List.length_append, hlt, Nat.add_mul]; omega)
    · have h1 : Flat w M.S sz (es.take o) (olds.take (o * sz)) := by
        have := hfo.part (lo := 0) (n := o) (by omega)
        simpa using this
      exact (h1.append hf).mono hu.S (hu.keep hs.mem.lt)
  have hpb' : ∀ k, pblk (.slice (some ⟨g, 0, none⟩) (o + ys.length) cap) k → pblk (M.ρ r) k := fun k hk => by
    rw [hρ]
    cases cap with
    | zero => exact hk.elim
    | succ c => exact hk
  have hm := hs.mem.newRow hs.hB (d := r) hsz hu (fun k hk => ⟨_, hin, hk⟩) hpr (fun k hk => .inr ⟨_, hin, hpb' k hk⟩)
  refine ⟨hs.size, hs.defs, fun t p h => ?_, hm, hs.fr.trans (hu.fr.weak hs.hB (fun g hg e => ?_)), Nat.le_trans hs.hB hu.fr.size, hs.sS, hs.sβ, fun i hi hb => ?_⟩
  · simp only [St.map, List.mem_map, Prod.mk.injEq] at h
    obtain ⟨⟨t', p0⟩, h1, rfl, rfl⟩ := h
    exact map_v (killW_q hu hs.mem.lt hρ) (hs.tm _ _ h1)
  · rcases hmine g e with h | h
    · omega
    · exact h
  · simp only [Gh.nr]; rw [if_neg (by omega)]; exact hs.sρ i hi hb
theorem copy_none {t t' ty e : TypeId} {ti : TypeInfo} (ht : P.underlying t = some (.slice e)) (hi : P.info? e = some ti) {A A' : Option Addr} {n1 c1 m c : Nat} (h : min n1 m = 0) :
    (Builtin.copy_ #[t, t'] ty #[.slice A n1 c1, .slice A' m c]).run P w = .ok (.int .i64 0) w := by
  have h' : Nat.min m n1 = 0 := by rw [Nat.min_comm] at h; exact h
  have hf : (Builtin.firstCells ti.size 0 (.slice A' m c)).run P w = .ok #[] w := by
    cases A' with
    | none => exact run_firstCells_none w ti.size 0 _ _
    | some ad => exact run_firstCells_some w ti.size 0 ad _ _ [] (by simp) (fun j v hj => by simp at hj)
  cases A <;> simp [Builtin.copy_, run_underlying ht, Builtin.lenOf, sizeOf, typeInfo, hi, h', hf, storeCells, goInt]
theorem copy_some {t t' ty e e' : TypeId} {ti : TypeInfo} (ht : P.underlying t = some (.slice e)) (hi : P.info? e = some ti) {g off n1 c1 m c : Nat} {cur : Array Value} (hg : w.heap[g]? = some (.cells cur e' (0, 0))) {ad : Addr} {k : Nat} (hk : min n1 m = k) {us : List Value} (hl : us.length = k * ti.size)
    (hus : ∀ j u, us[j]? = some u → w.cell? (ad.add j) = some u) (h1 : ∀ u ∈ us, u.oneCell' = true) (hfit : off + us.length ≤ cur.size) :
    (Builtin.copy_ #[t, t'] ty #[.slice (some ⟨g, off, none⟩) n1 c1, .slice (some ad) m c]).run P w = .ok (.int .i64 k) (w.setRow g (cur.toList.take off ++ us ++ cur.toList.drop (off + us.length)).toArray) := by
  have h' : Nat.min m n1 = k := by rw [Nat.min_comm] at hk; exact hk
  have hf := run_firstCells_some (P := P) w ti.size k ad m c us hl hus
  have hst := run_storeCells_at P g off e' us 0 cur w hg (by simpa using hfit) h1
  simp only [Nat.add_zero] at hst
  simp [Builtin.copy_, run_underlying ht, Builtin.lenOf, sizeOf, typeInfo, hi, h', hf, hst, goInt]
theorem srcB_rel (mem : Mem X B σ.bx σ.rw w M) {p : PV} {v : Value} {sz m k : Nat} {ys : List (List C)} (h : RelV w M p v) (hr : p.srcB σ = some (sz, m, ys)) (hky : k ≤ ys.length) :
    ∃ A c, v = .slice A m c ∧ (k = 0 ∨ ∃ ad us, A = some ad ∧ Flat w M.S sz (ys.take k) us ∧ ∀ j u, us[j]? = some u → w.cell? (ad.add j) = some u) := by
  have data : ∀ {sz : Nat} {es : List (List C)} {v : Value}, RowC w M.S sz es v → k ≤ es.length → ∃ A c, v = .slice A es.length c ∧ (k = 0 ∨ ∃ ad us, A = some ad ∧ Flat w M.S sz (es.take k) us ∧ ∀ j u, us[j]? = some u → w.cell? (ad.add j) = some u) := by
    intro sz es v hc hk
    obtain ⟨A, c, rfl, h2, h3⟩ := hc
    refine ⟨A, c, rfl, ?_⟩
    rcases Nat.eq_zero_or_pos k with h0 | h0
    · exact .inl h0
    · rcases h3 with rfl | ⟨ad, us, rfl, h4, h5, _⟩
      · simp at hk; omega
      · have := h4.part (lo := 0) (n := k) (by omega)
        simp only [Nat.zero_add, List.drop_zero, Nat.zero_mul] at this
        refine .inr ⟨ad, _, rfl, this, fun j u hj => ?_⟩
        rw [List.getElem?_take] at hj
        split at hj
        · exact h5 j u hj
        · cases hj
  have view : ∀ {r sz lo n : Nat} {es : List (List C)} {A A' : Option Addr} {mm c : Nat}, get? r σ.rw = some (sz, es) → M.ρ r = .slice A mm c → lo + n ≤ c → (lo < c → A' = A.map fun a => a.add (lo * sz)) → k ≤ (es.drop lo).length →
      ∃ A2 c2, Value.slice A' n (c - lo) = .slice A2 n c2 ∧ (k = 0 ∨ ∃ ad us, A2 = some ad ∧ Flat w M.S sz ((es.drop lo).take k) us ∧ ∀ j u, us[j]? = some u → w.cell? (ad.add j) = some u) := by
    intro r sz lo n es A A' mm c hq hρ hc hA hk
    refine ⟨A', _, rfl, ?_⟩
    rcases Nat.eq_zero_or_pos k with h0 | h0
    · exact .inl h0
    · obtain ⟨_, hp, _⟩ := mem.row r _ es (get?_mem hq)
      rw [hρ] at hp
      rw [List.length_drop] at hk
      obtain ⟨A2, c2, h1, h2, h3⟩ := (priv_rowC hp).part (lo := lo) (n := k) (by omega) hA
      injection h1 with i1 i2 i3
      subst i1
      have e : (es.take (lo + k)).drop lo = (es.drop lo).take k := by rw [List.drop_take]; congr 1; omega
      rcases h3 with h3 | ⟨ad, us, rfl, h4, h5, _⟩
      · rw [e] at h3
        have := congrArg List.length h3
        simp at this; omega
      · rw [e] at h4
        exact .inr ⟨ad, us, rfl, h4, h5⟩
  unfold PV.srcB at hr
  split at hr
  · rename_i r
    simp only [Option.map_eq_some_iff, Prod.mk.injEq] at hr
    obtain ⟨⟨sz', es⟩, hq, rfl, rfl, rfl⟩ := hr
    obtain ⟨_, hp, _⟩ := mem.row r _ es (get?_mem hq)
    rw [h.1]; exact data (priv_rowC hp) hky
  · rename_i r sz0 lo n
    split at hr
    · rename_i sz1 es1 hq
      split at hr
      · rename_i hl
        subst hl
        simp only [Option.some.injEq, Prod.mk.injEq] at hr
        obtain ⟨rfl, rfl, rfl⟩ := hr
        obtain ⟨A, m, c, A', hρ, hc, rfl, hA⟩ := h
        exact view hq hρ hc hA hky
      · cases hr
    · cases hr
  · rename_i r sz0 lo n c0
    split at hr
    · rename_i sz1 es1 hq
      split at hr
      · rename_i hl
        subst hl
        simp only [Option.some.injEq, Prod.mk.injEq] at hr
        obtain ⟨rfl, rfl, rfl⟩ := hr
        obtain ⟨A, m, A', hρ, hc, rfl, hA⟩ := h
        exact view hq hρ hc hA hky
      · cases hr
    · cases hr
  · simp only [Option.map_eq_some_iff, Prod.mk.injEq] at hr
    obtain ⟨⟨sz', es⟩, hq, rfl, rfl, rfl⟩ := hr
    exact data (rep_cells (row_rel h hq)) hky
theorem vwOf_rel {q : Q} {v : Value} {r sz lo n : Nat} (h : RelQ w M q v) (hq : q.vwOf = some (r, sz, lo, n)) : ∃ A m c A', M.ρ r = .slice A m c ∧ lo + n ≤ c ∧ v = .slice A' n (c - lo) ∧ (lo < c → A' = A.map fun a => a.add (lo * sz)) := by
  cases q <;> simp only [Q.vwOf, Option.some.injEq, Prod.mk.injEq, reduceCtorEq] at hq
  · obtain ⟨rfl, rfl, rfl, rfl⟩ := hq; exact h
  · obtain ⟨rfl, rfl, rfl, rfl⟩ := hq
    obtain ⟨A, m, A', h⟩ := h
    exact ⟨A, m, _, A', h⟩
theorem cpy_wp (hs : Sim X n B w0 σ a w M) {o : Oper} {c : Call} (ho : o.op = .call c) {x0 y0 : Operand} {t t' e : TypeId} {x y : XO} {sz : Nat} (hcb : c.callee = .builtin .copy) (hca : c.args = #[x0, y0]) (hct : c.argTypes = #[t, t']) (hx : okO x0 x = true) (hy : okO y0 y = true)
    {ti : TypeInfo} (ht : P.underlying t = some (.slice e)) (hi : P.info? e = some ti) (hsz : ti.size = sz) (h0 : 0 < sz) (hdst : ∀ d, o.dst = some d → d < n)
    {vc : Prop} {σ' : St} (he : effK σ o.dst (.cpy x y sz) = some (vc, σ')) (hvc : vc) {next : Act → World → Prop} {E : Exit → Act → World → Prop} (hn : ∀ a' w' M', Sim X n B w0 σ' a' w' M' → next a' w') : o.wp P a w next E := by
  have hrun : ∀ v' w', (Builtin.copy_ #[t, t'] o.type #[a.eval x0, a.eval y0]).run P w = .ok v' w' → (execOp a.eval o).run P w = .ok (.value v') w' := fun v' w' h => by
    obtain ⟨dst, op, ty, pos, after, guard⟩ := o
    simp only at ho; subst ho
    simp only at h
    simp [execOp, resolve, hcb, hca, hct, invoke, builtin, h]
  have fin : ∀ {τ : St} {w' M'} {k : Nat}, Sim X n B w0 τ a w' M' → Sim X n B w0 (τ.put o.dst (.q (.c (.int .i64 k)))) (a.put o.dst (.int .i64 k)) w' M' := fun {τ w' M' k} h => h.put hdst (Up.refl h.mem.lt) (fun _ _ h => h.elim) h.mem (Rep.int _ _)
  simp only [effK] at he
  split at he
  · rename_i g q g' p e1 e2
    split at he
    · rename_i r sz1 lo n1 sz2 m ys hvw hsrc
      split at he
      · rename_i sz' es hq
        have main : g = true → g' = true → sz1 = sz → sz2 = sz → sz' = sz → min n1 m ≤ ys.length → lo ≤ es.length → ∀ (τ : St),
            (min n1 m = 0 → ∃ M', Sim X n B w0 τ a w M') →
            (0 < min n1 m → ∀ (us : List Value) A mm cp, M.ρ r = .slice A mm cp → lo + min n1 m ≤ cp → Flat w M.S sz (ys.take (min n1 m)) us →
              ∃ gg N cap cur ee M', M.ρ r = .slice (some ⟨gg, 0, none⟩) N cap ∧ es.length ≤ cap ∧ w.heap[gg]? = some (.cells cur ee (0, 0)) ∧ lo * sz + us.length ≤ cur.size ∧ Sim X n B w0 τ a (w.setRow gg (cur.toList.take (lo * sz) ++ us ++ cur.toList.drop (lo * sz + us.length)).toArray) M') →
            (∀ a' w' M', Sim X n B w0 (τ.put o.dst (.q (.c (.int .i64 (min n1 m : Nat))))) a' w' M' → next a' w') → o.wp P a w next E := by
          intro hg hg' h1 h2 h3 h4 h5 τ z1 z2 hn
          subst h1 h2 h3
          have rx := okO_rel (o := x0) (x := x) hs.tm hx (by rw [e1]; exact hg); rw [e1] at rx
          have ry := okO_rel (o := y0) (x := y) hs.tm hy (by rw [e2]; exact hg'); rw [e2] at ry
          obtain ⟨A, mm, cp, A', hρ, hc, hv, hA⟩ := vwOf_rel rx hvw
          obtain ⟨A2, c2, hv2, hus⟩ := srcB_rel hs.mem ry hsrc (k := min n1 m) h4
          rcases Nat.eq_zero_or_pos (min n1 m) with hk | hk
          · obtain ⟨M', hM⟩ := z1 hk
            refine upon_value (hrun _ _ (by rw [hv, hv2]; exact copy_none ht hi hk)) (hn _ _ M' ?_)
            rw [hk]; exact fin hM
          · obtain ⟨ad, us, rfl, hf, hcell⟩ := hus.resolve_left (by omega)
            obtain ⟨gg, N, cap, cur, ee, M', hρ2, hcap, hheap, hcur, hM⟩ := z2 hk us A mm cp hρ (by omega) hf
            rw [hρ] at hρ2; cases hρ2
            have hA2 := hA (by omega)
            simp only [Option.map_some, Addr.add_lit, Nat.zero_add] at hA2
            subst hA2
            have hlen : (ys.take (min n1 m)).length = min n1 m := by simp; omega
            refine upon_value (hrun _ _ (by rw [hv, hv2]; exact copy_some ht hi hheap (k := min n1 m) rfl (by rw [hf.2.1, hlen, hsz]) hcell hf.one hcur)) (hn _ _ M' (fin hM))
        split at he
        · rename_i hfit
          simp only [Option.some.injEq, Prod.mk.injEq] at he
          obtain ⟨rfl, rfl⟩ := he
          obtain ⟨hg, hg', h1, h2, h3, h4⟩ := hvc
          have hlen : (ys.take (min n1 m)).length = min n1 m := by simp; omega
          refine main hg hg' h1 h2 h3 h4 (by omega) _ (fun hk => ⟨M, ?_⟩) (fun hk us A mm cp hρ hc hf => ?_) hn
          · subst h3
            rw [hk, List.take_zero, List.append_nil, Nat.add_zero, List.take_append_drop]
            exact hs.updSame hq
          · subst h3
            obtain ⟨gg, N, cap, cur, ee, k1, k2, k3, k4, k5⟩ := row_write hs hq (o := lo) (ys := ys.take (min n1 m)) (by rw [hlen]; exact hfit) (by rw [hlen]; exact hk) hf
            rw [hlen] at k5
            exact ⟨gg, N, cap, cur, ee, M, k1, k2, k3, k4, k5⟩
        · rename_i hfit
          split at he
          · rename_i hB
            simp only [Option.some.injEq, Prod.mk.injEq] at he
            obtain ⟨rfl, rfl⟩ := he
            obtain ⟨hg, hg', h1, h2, h3, h4, h5⟩ := hvc
            have hlen : (ys.take (min n1 m)).length = min n1 m := by simp; omega
            refine main hg hg' h1 h2 h3 h4 h5 _ (fun hk => by omega) (fun hk us A mm cp hρ hc hf => ?_) hn
            subst h3
            obtain ⟨gg, N, cap, cur, ee, k1, k2, k3, k4, k5⟩ := row_grow hs hq hB h5 (by rw [hlen]; omega) (by rw [hlen]; exact hk) hρ (by rw [hlen]; exact hc) hf
            exact ⟨gg, N, cap, cur, ee, _, k1, k2, k3, k4, k5⟩
          · cases he
      · cases he
    · cases he
  · cases he
theorem effK_wp (hs : Sim X n B w0 σ a w M) {o : Oper} {k : XK} (hk : chkE P o.op k = true) (hdst : ∀ d, o.dst = some d → d < n) (hst : ∀ x y ag, k = .st x y ag → o.dst = none) {vc : Prop} {σ' : St} (he : effK σ o.dst k = some (vc, σ')) (hvc : vc)
    {next : Act → World → Prop} {E : Exit → Act → World → Prop} (hn : ∀ a' w' M', Sim X n B w0 σ' a' w' M' → next a' w') : o.wp P a w next E := by
  unfold chkE at hk
  split at hk
  · -- store
    rename_i x' y' ag
    split at hk
    · rename_i t x y ho
      simp only [Bool.and_eq_true] at hk
      obtain ⟨⟨hx, hy⟩, hag⟩ := hk
      have hd := hst _ _ _ rfl
      simp only [effK] at he
      split at he
      · rename_i g i off g' p e1 e2
        split at he
        · rename_i qs ys hq hys
          simp only [Option.some.injEq, Prod.mk.injEq] at he
          obtain ⟨rfl, rfl⟩ := he
          exact st_box hs ho hd hx hy hag e1 e2 hq hys hvc.1 hvc.2.1 hvc.2.2 (fun w' M' h => hn _ _ _ h)
        · cases he
      · rename_i g i sz k off g' p e1 e2
        split at he
        · rename_i sz' es ys hq hys
          split at he
          · rename_i cs hcs
            simp only [Option.some.injEq, Prod.mk.injEq] at he
            obtain ⟨rfl, rfl⟩ := he
            obtain ⟨h1, h2, rfl, h3, h4⟩ := hvc
            exact st_row hs ho hd hx hy hag e1 e2 hq hys hcs h1 h2 h3 h4 (fun w' M' h => hn _ _ _ h)
          · cases he
        · cases he
      · cases he
    · cases hk
  · -- box
    rename_i y ag
    split at hk
    · rename_i t x ho
      simp only [effK] at he
      split at he
      · rename_i d g p e1 e2
        split at he
        · rename_i ys hys
          simp only [Option.some.injEq, Prod.mk.injEq] at he
          obtain ⟨rfl, rfl⟩ := he
          have rx := okO_rel (o := x) (x := y) hs.tm hk (by rw [e2]; exact hvc); rw [e2] at rx
          obtain ⟨hrel, _⟩ := cellsOf_rel rx hys
          exact box_eff (t := t) hs e1 (hdst _ e1) hrel (by unfold execOp; rw [ho]; simp [Instr.box, newVar, newRow]) hn
        · cases he
      · cases he
    · cases hk
  · -- alloc
    rename_i zs
    split at hk
    · rename_i t ho
      split at hk
      · rename_i i hi
        split at hk
        · rename_i z hz
          simp only [effK] at he
          split at he
          · rename_i d e1
            simp only [Option.some.injEq, Prod.mk.injEq] at he
            obtain ⟨rfl, rfl⟩ := he
            have hr : RelCs w M zs z.cells := by simpa using okVs_rel (w := w) (M := M) hk
            exact box_eff (t := t) hs e1 (hdst _ e1) hr (by unfold execOp; rw [ho]; simp [Instr.alloc, zeroValue, typeInfo, hi, hz, newVar, newRow]) hn
          · cases he
        · cases hk
      · cases hk
    · cases hk
  · -- append
    rename_i x' y' sz bytes ex
    split at hk
    · rename_i c ho
      unfold okApp at hk
      split at hk
      · rename_i x y t t' hcb hca hct
        simp only [Bool.and_eq_true, beq_iff_eq] at hk
        obtain ⟨⟨⟨rfl, hx⟩, hy⟩, hk⟩ := hk
        split at hk
        · rename_i e ht
          split at hk
          · rename_i ti hi
            simp only [Bool.and_eq_true, beq_iff_eq, bne_iff_ne, ne_eq] at hk
            obtain ⟨⟨⟨⟨hsz, hsz0⟩, hby⟩, hby0⟩, hz⟩ := hk
            split at hz
            · rename_i z hz'
              rw [beq_iff_eq] at hz
              have hca' : c.args = #[x, y] := by rw [← Array.toArray_toList (xs := c.args), hca]
              have hct' : c.argTypes = #[t, t] := by rw [← Array.toArray_toList (xs := c.argTypes), hct]
              have hrun : ∀ v' w', (Builtin.append_ #[t, t] o.type #[a.eval x, a.eval y]).run P w = .ok v' w' → (execOp a.eval o).run P w = .ok (.value v') w' := fun v' w' h => by
                obtain ⟨dst, op, ty, pos, after, guard⟩ := o
                simp only at ho; subst ho
                rw [app_run hcb hca' hct', h]; rfl
              have hmx : ∀ m : Nat, m * bytes ≤ 140737488355328 → m ≤ 9223372036854775807 := fun m hm => by
                have := Nat.le_mul_of_pos_right m (show 0 < bytes by omega)
                omega
              have rx := okO_rel (o := x) (x := x') hs.tm hx
              have ry := okO_rel (o := y) (x := y') hs.tm hy
              simp only [effK] at he
              split at he
              · rename_i d g r g' p e1 e2 e3
                rw [e2] at rx; rw [e3] at ry
                split at he
                · rename_i sz' es sz'' ys hq hrow
                  split at he
                  · rename_i hB
                    simp only [Option.some.injEq, Prod.mk.injEq] at he
                    obtain ⟨rfl, rfl⟩ := he
                    obtain ⟨h1, h2, h7, h8, h3⟩ := hvc
                    subst h7; subst h8
                    exact app_move hs e1 (hdst _ e1) ht hi hsz hby hz' hz (by omega) hrun hq (rx h1) (rowB_rel hs.mem (ry h2) hrow) h3 (hmx _ h3) hn
                  · rename_i hB
                    simp only [Option.some.injEq, Prod.mk.injEq] at he
                    obtain ⟨rfl, rfl⟩ := he
                    obtain ⟨h1, h2, rfl, rfl, h3⟩ := hvc
                    have hv := (rx h1).1
                    have hin := get?_mem hq
                    obtain ⟨_, hp, _⟩ := hs.mem.row r _ es hin
                    obtain ⟨v', w', k1, k2, k3, k4⟩ := append_own (ty := o.type) ht hi hsz hby hz' hz hs.mem.lt (rowB_rel hs.mem (ry h2) hrow) h3 (hmx _ h3) hp (fun g hg => hs.mem.sr _ _ g hin hg)
                    rw [← hv] at k1
                    exact row_eff hs e1 (hdst _ e1) (by omega) (hrun _ _ k1) k2 k3 (fun g hg => ⟨_, hin, hg⟩) (fun g hg => (k4 g hg).imp id (fun h => ⟨_, hin, h⟩)) (.inr (by omega)) hn
                · cases he
              · rename_i d g r sz1 lo n1 g' p e1 e2 e3
                rw [e2] at rx; rw [e3] at ry
                split at he
                · rename_i sz' es sz'' ys hq hrow
                  have hin := get?_mem hq
                  obtain ⟨h0, hp, _⟩ := hs.mem.row r _ es hin
                  split at he
                  · rename_i hfit
                    simp only [Option.some.injEq, Prod.mk.injEq] at he
                    obtain ⟨rfl, rfl⟩ := he
                    obtain ⟨h1, h2, h7, h8, h9⟩ := hvc
                    subst h7; subst h8; subst h9
                    exact app_fit hs e1 (hdst _ e1) ht hi hsz hrun hq (rx h1) (rowB_rel hs.mem (ry h2) hrow) hfit hn
                  · rename_i hfit
                    split at he
                    · rename_i hlo
                      obtain ⟨hl0, hB, hnl⟩ := hlo
                      simp only [Option.some.injEq, Prod.mk.injEq] at he
                      obtain ⟨rfl, rfl⟩ := he
                      obtain ⟨h1, h2, h7, h8, h9, h3⟩ := hvc
                      subst h7; subst h8; subst h9; subst hl0
                      exact app_cut hs e1 (hdst _ e1) ht hi hsz hby hz' hz (by omega) hrun hq (rx h1) (rowB_rel hs.mem (ry h2) hrow) hB hnl h3 (hmx _ h3) hn
                    · cases he
                · cases he
              · rename_i d g p g' p' hno hno' e1 e2 e3
                rw [e2] at rx; rw [e3] at ry
                split at he
                · rename_i sz' sz'' ys hrow
                  simp only [Option.some.injEq, Prod.mk.injEq] at he
                  obtain ⟨rfl, rfl⟩ := he
                  obtain ⟨h1, h2, rfl, rfl, h3⟩ := hvc
                  obtain ⟨A, hv⟩ := rx h1
                  obtain ⟨v', w', k1, k2, k3, k4⟩ := append_full (ty := o.type) (es := []) (A := A) ht hi hsz hby hz' hz hs.mem.lt (rowB_rel hs.mem (ry h2) hrow) (by simpa using h3) (by simpa using hmx _ h3) (.inl rfl) (.inl rfl)
                  simp only [List.length_nil] at k1
                  rw [← hv] at k1
                  exact row_eff hs e1 (hdst _ e1) (by omega) (hrun _ _ k1) k2 k3 (fun g hg => hg.elim) (fun g hg => .inl (k4 g hg)) (.inl (hdst _ e1)) hn
                · rename_i sz' es sz'' ys hrow
                  simp only [Option.some.injEq, Prod.mk.injEq] at he
                  obtain ⟨rfl, rfl⟩ := he
                  obtain ⟨h1, h2, rfl, rfl, h4, h3⟩ := hvc
                  obtain ⟨hr, A, hv⟩ := rx h1
                  rw [hv] at hr
                  obtain ⟨v', w', k1, k2, k3, k4⟩ := append_full (ty := o.type) (es := es) (A := A) ht hi hsz hby hz' hz hs.mem.lt (rowB_rel hs.mem (ry h2) hrow) h3 (hmx _ h3) (.inr hr) (.inr h4)
                  rw [← hv] at k1
                  exact row_eff hs e1 (hdst _ e1) (by omega) (hrun _ _ k1) k2 k3 (fun g hg => hg.elim) (fun g hg => .inl (k4 g hg)) (.inl (hdst _ e1)) hn
                · cases he
              · cases he
            · cases hz
          · cases hk
        · cases hk
      · cases hk
    · cases hk
  · -- make
    rename_i x' zs bytes
    split at hk
    · rename_i t l c ho
      simp only [Bool.and_eq_true] at hk
      obtain ⟨⟨hl, hc⟩, hk⟩ := hk
      split at hk
      · rename_i e ht
        split at hk
        · rename_i ti hi
          simp only [Bool.and_eq_true, beq_iff_eq] at hk
          obtain ⟨⟨hsz, hby⟩, hz⟩ := hk
          split at hz
          · rename_i z hz'
            simp only [effK] at he
            split at he
            · rename_i d g k m e1 e2
              simp only [Option.some.injEq, Prod.mk.injEq] at he
              obtain ⟨rfl, rfl⟩ := he
              obtain ⟨h1, h2, h3, h4, h5⟩ := hvc
              have rl := okO_rel (o := l) (x := x') hs.tm hl (by rw [e2]; exact h1); rw [e2] at rl
              have rc := okO_rel (o := c) (x := x') hs.tm hc (by rw [e2]; exact h1); rw [e2] at rc
              have hr : RelCs w M (zs.map .c) z.cells := by simpa using okVs_rel (w := w) (M := M) hz
              have hzl : z.cells.size = zs.length := by simpa using hr.1
              have hmk := run_make (P := P) w t e ti z ht hi hz' k k m m h2 (Int.le_refl _) (by rw [hby]; exact h4) h3
              rw [hsz] at hmk
              have hmn : m.toNat ≤ maxLen := by simp only [maxLen]; omega
              refine row_eff (Z := fun _ => False) hs e1 (hdst _ e1) h5 (v' := .slice (some ⟨w.heap.size, 0, none⟩) m.toNat m.toNat) (w' := w.alloc (.cells (madeCells z.cells (m.toNat * zs.length)) e))
                (by unfold execOp; rw [ho]; simp only [relC_int rl, relC_int rc, Sem.run_bind, hmk]; rfl) ?_ (alloc_up hs.mem.lt _ _).fr (fun g hg => hg.elim) (fun g hg => ?_) (.inl (hdst _ e1)) hn
              · have hown := World.ownsRow_lit (base := 0) (e := e) (size := zs.length) w (madeCells z.cells (m.toNat * zs.length)) m.toNat (Nat.zero_le _) hmn (size_madeCells _ _)
                refine .inl ⟨e, _, by rw [List.length_replicate]; exact hown, fun i' e' he' => ?_, by simp [size_madeCells], fun i' j e' c' he' hj => ?_⟩
                · rw [List.getElem?_replicate] at he'
                  split at he' <;> cases he'; rfl
                · rw [List.getElem?_replicate] at he'
                  split at he'
                  · rename_i hlt
                    cases he'
                    obtain ⟨u, g1, _, g3⟩ := hr.2 j (.c c') (by simp [hj])
                    have hjl : j < zs.length := (List.getElem?_eq_some_iff.1 hj).1
                    have := row_fit hlt hjl
                    refine ⟨u, ?_, (alloc_up hs.mem.lt _ _).rep hs.mem.lt g3⟩
                    have hmod : (i' * zs.length + j) % z.cells.size = j := by rw [hzl, Nat.mul_comm, Nat.mul_add_mod]; exact Nat.mod_eq_of_lt hjl
                    simp [madeCells, this, hmod, getElem!_def, g1]
                  · cases he'
              · generalize m.toNat = mm at hg
                cases mm <;> simp [pblk] at hg; exact .inl (by omega)
            · cases he
          · cases hz
        · cases hk
      · cases hk
    · cases hk
  · -- clear
    rename_i x zs
    split at hk
    · rename_i c ho
      unfold okClr at hk
      split at hk
      · rename_i x0 t hcb hca hct
        simp only [Bool.and_eq_true] at hk
        obtain ⟨hx, hk⟩ := hk
        split at hk
        · rename_i e ht
          split at hk
          · rename_i ti hi
            split at hk
            · rename_i z hz
              exact clr_wp hs ho hcb hca hct hx ht hi hz hk hdst he hvc hn
            · cases hk
          · cases hk
        · cases hk
      · cases hk
    · cases hk
  · -- zeros appended
    rename_i x' n' zs bytes
    split at hk
    · rename_i c ho
      unfold okApn at hk
      split at hk
      · rename_i x0 n0 t tn hcb hca hct
        simp only [Bool.and_eq_true] at hk
        obtain ⟨⟨⟨hx, hnn⟩, hti⟩, hk⟩ := hk
        split at hti
        case h_2 => cases hti
        rename_i kn htn
        split at hk
        · rename_i e ht
          split at hk
          · rename_i ti hi
            simp only [Bool.and_eq_true, beq_iff_eq] at hk
            obtain ⟨⟨hsz, hby⟩, hz⟩ := hk
            split at hz
            · rename_i z hz'
              have hca' : c.args = #[x0, n0] := by rw [← Array.toArray_toList (xs := c.args), hca]
              have hct' : c.argTypes = #[t, tn] := by rw [← Array.toArray_toList (xs := c.argTypes), hct]
              simp only [effK] at he
              split at he
              · rename_i d g' r sz lo k cc g kk m e1 e2 e3
                split at he
                · rename_i sz' es hq
                  simp only [Option.some.injEq, Prod.mk.injEq] at he
                  obtain ⟨rfl, rfl⟩ := he
                  obtain ⟨h1, h1', rfl, hkl, hcm, h2, h3, h3', rfl, rfl, h5⟩ := hvc
                  have rx := okO_rel (o := x0) (x := x') hs.tm hx (by rw [e2]; exact h1'); rw [e2] at rx
                  have rl := okO_rel (o := n0) (x := n') hs.tm hnn (by rw [e3]; exact h1); rw [e3] at rl
                  obtain ⟨A, mm, A', hρ, hcap, hv, hA⟩ := rx
                  obtain ⟨N, rfl⟩ : ∃ N : Nat, m = N := ⟨m.toNat, by omega⟩
                  obtain ⟨_, hp, _⟩ := hs.mem.row r _ es (get?_mem hq)
                  rw [hρ] at hp
                  have hy := (priv_rowC hp).part (lo := 0) (n := k) (by omega) hA
                  simp only [Nat.zero_add, List.drop_zero, Nat.sub_zero] at hy hv
                  have hkl' : (es.take k).length = k := by simp; omega
                  have hNb : (k + N) * bytes ≤ 140737488355328 := by
                    have : (((k + N) * bytes : Nat) : Int) = ((k : Int) + N) * bytes := by simp
                    omega
                  exact apn_wp (es := es.take k) hs ho hcb hca' hct' htn ht hi hsz hby hz' hz e1 hdst (by rw [hkl']; exact hv) (by rw [hkl']; exact hy) (relC_int rl) (by omega) (by rw [hkl']; omega) (by rw [hkl']; exact hNb) (by rw [hkl']; omega) h5 hn
                · cases he
              · rename_i d g' sz g k m e1 e2 e3
                simp only [Option.some.injEq, Prod.mk.injEq] at he
                obtain ⟨rfl, rfl⟩ := he
                obtain ⟨h1, h1', h2, h3, h3', rfl, h5⟩ := hvc
                have rx := okO_rel (o := x0) (x := x') hs.tm hx (by rw [e2]; exact h1'); rw [e2] at rx
                have rl := okO_rel (o := n0) (x := n') hs.tm hnn (by rw [e3]; exact h1); rw [e3] at rl
                obtain ⟨A, hv⟩ := rx
                obtain ⟨N, rfl⟩ : ∃ N : Nat, m = N := ⟨m.toNat, by omega⟩
                have hNb : (([] : List (List C)).length + N) * bytes ≤ 140737488355328 := by
                  have : ((N * bytes : Nat) : Int) = (N : Int) * bytes := by simp
                  simp only [List.length_nil, Nat.zero_add]
                  omega
                exact apn_wp (es := []) hs ho hcb hca' hct' htn ht hi hsz hby hz' hz e1 hdst hv ⟨A, 0, rfl, Nat.le_refl _, .inl rfl⟩ (relC_int rl) (by omega) (by simp only [List.length_nil]; omega) hNb (by simp only [List.length_nil]; omega) h5 hn
              · cases he
            · cases hz
          · cases hk
        · cases hk
      · cases hk
    · cases hk
  · -- copy
    rename_i x' y' sz
    split at hk
    · rename_i c ho
      unfold okCpy at hk
      split at hk
      · rename_i x0 y0 t t' hcb hca hct
        simp only [Bool.and_eq_true] at hk
        obtain ⟨⟨hx, hy⟩, hk⟩ := hk
        split at hk
        · rename_i e ht
          split at hk
          · rename_i ti hi
            simp only [Bool.and_eq_true, beq_iff_eq, bne_iff_ne, ne_eq] at hk
            exact cpy_wp hs ho hcb (by rw [← Array.toArray_toList (xs := c.args), hca]) (by rw [← Array.toArray_toList (xs := c.argTypes), hct]) hx hy ht hi hk.1 (by omega) hdst he hvc hn
          · cases hk
        · cases hk
      · cases hk
    · cases hk
  · -- a closure
    rename_i f x
    split at hk
    · rename_i g fi ca ho0
      split at hk
      case h_2 => cases hk
      rename_i y hfi hca
      have ho : o.op = .makeFunc (.func g) #[] #[y] := by
        rw [ho0, ← Array.toArray_toList (xs := fi), ← Array.toArray_toList (xs := ca), hfi, hca]
      simp only [Bool.and_eq_true, beq_iff_eq] at hk
      obtain ⟨rfl, hy⟩ := hk
      simp only [effK] at he
      split at he
      · rename_i d gd i e1 e2
        split at he
        · rename_i cs hcs
          simp only [Option.some.injEq, Prod.mk.injEq] at he
          obtain ⟨rfl, rfl⟩ := he
          rw [Option.bind_eq_some_iff] at hcs
          obtain ⟨qs, hq, hcs⟩ := hcs
          have ry := okO_rel (o := y) (x := x) hs.tm hy (by rw [e2]; exact hvc)
          rw [e2] at ry
          exact mkf_eff hs e1 (hdst _ e1) hq hcs ry ho hn
        · cases he
      · cases he
    · cases hk
  · cases hk
end
end Go.Proofs.Pw
/- A private row is told as a datum. -/
namespace Go.Proofs.Pw
open Go.RowKit
set_option linter.unusedSectionVars false
variable [Globs]
section
variable {P : Program} {Γ : FuncId → Option Spec} {σ : St} {a : Act} {w w' : World} {M M' : Gh} {X : Nat → Prop} {B n : Nat} {w0 : W0}

theorem priv_rep {S : Nat → Prop} {sz : Nat} {es : List (List C)} {v : Value} (h : Priv w S sz es v) : Rep w (fun g => S g ∨ pblk v g) (.row sz es) v := by
  rcases h with ⟨e, us, hown, hf⟩ | ⟨rfl, A, rfl⟩
  · rcases hown.2 with ⟨rfl, h0⟩ | ⟨g, cap, cur, rfl, _, hheap, hnc, _⟩
    · have := List.eq_nil_of_length_eq_zero h0
      subst this; exact .nil ..
    · cases cap with
      | zero =>
        have := List.eq_nil_of_length_eq_zero (l := es) (by omega)
        subst this; exact .nil ..
      | succ cap =>
        refine .row sz es _ _ (fun k => us.getD k undef) hnc (.inr (by simp [pblk])) hf.1 (fun i j e c he hj => ?_) (fun i j e c he hj => ?_)
        · obtain ⟨u, h1, _⟩ := hf.2.2 i j e c he hj
          rw [hown.cells rfl _ _ h1]; simp [h1]
        · obtain ⟨u, h1, h2⟩ := hf.2.2 i j e c he hj
          simp only [List.getD_eq_getElem?_getD, h1, Option.getD_some]
          exact h2.mono (fun _ h => .inl h) (fun _ _ => rfl)
  · exact .nil ..

/-- The row's block is told as data from here on. -/
def Gh.pub (M : Gh) (i : Nat) : Gh := { M with S := fun g => M.S g ∨ pblk (M.ρ i) g }
theorem pub_q {i sz : Nat} {es : List (List C)} (hr : Rep w (M.pub i).S (.row sz es) (M.ρ i)) (q : Q) (v : Value) (h : RelQ w M q v) : RelQ w (M.pub i) (q.pub i (.row sz es)) v := by
  have mono : ∀ {c v}, Rep w M.S c v → Rep w (M.pub i).S c v := fun h => h.mono (fun _ h => .inl h) (fun _ _ => rfl)
  cases q with
  | no => trivial
  | c x => exact mono h
  | z _ => exact h
  | full sz es => exact ⟨mono h.1, h.2⟩
  | own j =>
    simp only [Q.pub]
    split
    · rename_i he; subst he
      have := h.1
      subst this; exact hr
    · exact h
  | box i o => exact h
  | el xs =>
    obtain ⟨A, h1, h2⟩ := h
    exact ⟨A, h1, fun j c hc => by obtain ⟨u, g1, g2, g3⟩ := h2 j c hc; exact ⟨u, g1, .inl g2, mono g3⟩⟩
  | rp j sz k o =>
    simp only [Q.pub]
    split
    · trivial
    · exact h
  | nt _ => exact h
  | vw _ _ _ _ => exact h
  | vc _ _ _ _ _ => exact h
theorem Sim.pub' (hs : Sim X n B w0 σ a w M) (i : Nat) : ∃ M', Sim X n B w0 (σ.pub i) a w M' ∧ M'.ρ = M.ρ ∧ (∀ g, M.S g → M'.S g) ∧ (∀ g, M'.S g → M.S g ∨ ∃ j r, (j, r) ∈ σ.rw ∧ pblk (M.ρ j) g) ∧ M'.β = M.β := by
  unfold St.pub
  split
  · rename_i sz es hg
    have hin := get?_mem hg
    have hp := (hs.mem.row _ _ _ hin).2.1
    have hq := pub_q (M := M) (i := i) (priv_rep hp)
    have hbx : ∀ {i' q1}, (i', q1) ∈ (σ.map (Q.pub i (.row sz es))).bx → ∃ q, (i', q) ∈ σ.bx ∧ q1 = q.map (Q.pub i (.row sz es)) := fun {i' q1} h' => by
      simp only [St.map, List.mem_map, Prod.mk.injEq] at h'
      obtain ⟨⟨j, q⟩, hj, rfl, rfl⟩ := h'
      exact ⟨q, hj, rfl⟩
    refine ⟨M.pub i, ⟨hs.size, hs.defs, fun t p h => ?_, ⟨fun i' q1 h' => ?_, fun i' sz' es' h' => ?_, fun i' q1 j q2 h1 h2 hne => ?_, fun i' q1 j r h1 h2 hg => ?_, fun i' r j r' g h1 h2 hne hg hg' => ?_, fun g h => ?_, fun i' q1 h1 h => ?_, fun i' r g h1 hg h => ?_, fun i c hi => ?_⟩, hs.fr, hs.hB, fun g h => ?_, hs.sβ, hs.sρ⟩, rfl, fun _ h => .inl h, fun g h => h.imp id (fun h => ⟨i, _, hin, h⟩), rfl⟩
    · simp only [St.map, List.mem_map, Prod.mk.injEq] at h
      obtain ⟨⟨t', p'⟩, h', rfl, rfl⟩ := h
      exact map_v hq (hs.tm _ _ h')
    · obtain ⟨q, hj, rfl⟩ := hbx h'
      obtain ⟨hB', t', cells', h1, h2, h3⟩ := hs.mem.box i' q hj
      exact ⟨hB', t', cells', h1, map_cs hq ⟨h2, h3⟩⟩
    · obtain ⟨hne, h'⟩ := del_mem h'
      obtain ⟨h1, h2, h3⟩ := hs.mem.row i' sz' es' h'
      exact ⟨h1, h2.move (fun _ h => .inl h) (fun _ _ => rfl) (fun _ _ => rfl), h3⟩
    · obtain ⟨q, hj, _⟩ := hbx h1; obtain ⟨q', hj', _⟩ := hbx h2
      exact hs.mem.bb _ _ _ _ hj hj' hne
    · obtain ⟨q, hj, _⟩ := hbx h1
      exact hs.mem.br _ _ _ _ hj (del_mem h2).2 hg
    · exact hs.mem.rr _ _ _ _ g (del_mem h1).2 (del_mem h2).2 hne hg hg'
    · rcases h with h | h
      · exact hs.mem.lt g h
      · exact hp.lt h
    · obtain ⟨q, hj, _⟩ := hbx h1
      rcases h with h | h
      · exact hs.mem.sb _ _ hj h
      · exact hs.mem.br _ _ _ _ hj hin h
    · obtain ⟨hne, h1⟩ := del_mem h1
      rcases h with h | h
      · exact hs.mem.sr _ _ g h1 hg h
      · exact hs.mem.rr _ _ _ _ g h1 hin hne hg h
    · obtain ⟨k1, u, k2, k3⟩ := hs.mem.gl i c hi
      exact ⟨.inl k1, u, k2, k3.mono (fun _ h => .inl h) (fun _ _ => rfl)⟩
    · rcases h with h | h
      · exact hs.sS g h
      · exact .inr ((hs.mem.row _ _ _ hin).2.2 g h)
  · exact ⟨M, hs, rfl, fun _ h => h, fun _ h => .inl h, rfl⟩
theorem Sim.pub (hs : Sim X n B w0 σ a w M) (i : Nat) : ∃ M', Sim X n B w0 (σ.pub i) a w M' := by
  obtain ⟨M', h, _⟩ := hs.pub' i
  exact ⟨M', h⟩
theorem get?_del {α : Type} {t u : Nat} (h : u ≠ t) : ∀ {l : List (Nat × α)}, get? t (del u l) = get? t l := by
  intro l
  induction l with
  | nil => rfl
  | cons x l ih =>
    obtain ⟨i, y⟩ := x
    simp only [del]
    split
    · rename_i hi; simp only [get?]; rw [if_neg (by omega)]; exact ih
    · simp only [get?]; rw [ih]
theorem Sim.pubL (is : List Nat) : ∀ {σ : St} {M : Gh}, Sim X n B w0 σ a w M → ∃ M', Sim X n B w0 (is.foldl (fun σ i => σ.pub i) σ) a w M' := by
  induction is with
  | nil => intro σ M hs; exact ⟨M, hs⟩
  | cons i is ih =>
    intro σ M hs
    obtain ⟨M1, h1⟩ := hs.pub i
    exact ih h1
theorem Sim.pub2 (hs : Sim X n B w0 σ a w M) (i : Nat) : ∃ M', Sim X n B w0 (σ.pub i) a w M' ∧ (∀ g, M.S g → M'.S g) ∧ (∀ g, M'.S g → M.S g ∨ ∃ j r, (j, r) ∈ σ.rw ∧ pblk (M.ρ j) g) ∧ M'.β = M.β ∧ M'.ρ = M.ρ := by
  obtain ⟨M', h1, h2, h3, h4, h5⟩ := hs.pub' i
  exact ⟨M', h1, h3, h4, h5, h2⟩
theorem pub_rw {i j : Nat} {r : Nat × List (List C)} (h : (j, r) ∈ (σ.pub i).rw) : (j, r) ∈ σ.rw := by
  unfold St.pub at h
  split at h
  · exact (del_mem h).2
  · exact h
theorem pub_bx {i j : Nat} {q : List Q} (h : (j, q) ∈ (σ.pub i).bx) : ∃ q', (j, q') ∈ σ.bx := by
  unfold St.pub at h
  split at h
  · simp only [St.map, List.mem_map, Prod.mk.injEq] at h
    obtain ⟨⟨k, q'⟩, hk, rfl, rfl⟩ := h
    exact ⟨q', hk⟩
  · exact ⟨q, h⟩
theorem pubL_rw {is : List Nat} : ∀ {σ : St} {j : Nat} {r : Nat × List (List C)}, (j, r) ∈ (is.foldl (fun σ i => σ.pub i) σ).rw → (j, r) ∈ σ.rw := by
  induction is with
  | nil => intro σ j r h; exact h
  | cons i is ih => intro σ j r h; exact pub_rw (ih h)
theorem pubL_bx {is : List Nat} : ∀ {σ : St} {j : Nat} {q : List Q}, (j, q) ∈ (is.foldl (fun σ i => σ.pub i) σ).bx → ∃ q', (j, q') ∈ σ.bx := by
  induction is with
  | nil => intro σ j q h; exact ⟨q, h⟩
  | cons i is ih =>
    intro σ j q h
    obtain ⟨q', h'⟩ := ih h
    exact pub_bx h'
theorem Sim.pubL2 (is : List Nat) : ∀ {σ : St} {M : Gh}, Sim X n B w0 σ a w M → ∃ M', Sim X n B w0 (is.foldl (fun σ i => σ.pub i) σ) a w M' ∧ (∀ g, M.S g → M'.S g) ∧ (∀ g, M'.S g → M.S g ∨ ∃ j r, (j, r) ∈ σ.rw ∧ pblk (M.ρ j) g) ∧ M'.β = M.β ∧ M'.ρ = M.ρ := by
  induction is with
  | nil => intro σ M hs; exact ⟨M, hs, fun _ h => h, fun _ h => .inl h, rfl, rfl⟩
  | cons i is ih =>
    intro σ M hs
    obtain ⟨M1, h1, h2, h3, h4, h5⟩ := hs.pub2 i
    obtain ⟨M2, g1, g2, g3, g4, g5⟩ := ih h1
    refine ⟨M2, g1, fun g h => g2 g (h2 g h), fun g h => ?_, g4.trans h4, g5.trans h5⟩
    rcases g3 g h with h | ⟨j, r, hj, hg⟩
    · exact h3 g h
    · exact .inr ⟨j, r, pub_rw hj, by rw [← h5]; exact hg⟩
theorem Sim.pubL' (is : List Nat) : ∀ {σ : St} {M : Gh}, Sim X n B w0 σ a w M → ∃ M', Sim X n B w0 (is.foldl (fun σ i => σ.pub i) σ) a w M' ∧ ∀ g, M.S g → M'.S g := by
  induction is with
  | nil => intro σ M hs; exact ⟨M, hs, fun _ h => h⟩
  | cons i is ih =>
    intro σ M hs
    obtain ⟨M1, h1, _, h2, _⟩ := hs.pub' i
    obtain ⟨M2, h3, h4⟩ := ih h1
    exact ⟨M2, h3, fun g h => h4 g (h2 g h)⟩
end
end Go.Proofs.Pw
/- What is handed over to a call: where it lies, and that it lies apart. -/
namespace Go.Proofs.Pw
open Go.RowKit
set_option linter.unusedSectionVars false
variable [Globs]
section
variable {P : Program} {Γ : FuncId → Option Spec} {σ : St} {a : Act} {w w' : World} {M M' : Gh} {X : Nat → Prop} {B n : Nat} {w0 : W0}

theorem Apart.split {S : Nat → Prop} {ps qs : List (Nat → Prop)} (h : Apart S (ps ++ qs)) {g : Nat} (hg : Any ps g) : ¬ Any qs g := by
  induction ps with
  | nil => obtain ⟨_, hp, _⟩ := hg; cases hp
  | cons p ps ih =>
    obtain ⟨q, hq, hg⟩ := hg
    rcases List.mem_cons.1 hq with rfl | hq
    · rintro ⟨q', hq', hg'⟩
      exact h.2.1 _ hg q' (by simp [hq']) hg'
    · exact ih h.2.2 ⟨q, hq, hg⟩
theorem Any.left {ps qs : List (Nat → Prop)} {g : Nat} (h : Any ps g) : Any (ps ++ qs) g := by obtain ⟨p, hp, hg⟩ := h; exact ⟨p, by simp [hp], hg⟩
theorem Any.right {ps qs : List (Nat → Prop)} {g : Nat} (h : Any qs g) : Any (ps ++ qs) g := by obtain ⟨p, hp, hg⟩ := h; exact ⟨p, by simp [hp], hg⟩

def blkOf (M : Gh) (x : Bool × Nat) (g : Nat) : Prop := if x.1 then pblk (M.ρ x.2) g else g = M.β x.2
def fpIds (p : PV) (m : Bool) : List (Bool × Nat) := if m then (match p with | .q (.box i _) => [(false, i)] | .q (.own i) => [(true, i)] | _ => []) else []
def fpsOf (M : Gh) (σ : St) : List XO → List Bool → List (Nat → Prop)
  | x :: xs, m :: ms => (fun g => ∃ id ∈ fpIds (σ.v x).2 m, blkOf M id g) :: fpsOf M σ xs ms
  | _, _ => []
def There (σ : St) (x : Bool × Nat) : Prop := if x.1 then ∃ r, (x.2, r) ∈ σ.rw else ∃ q, (x.2, q) ∈ σ.bx

theorem mutIds_cons {x : XO} {xs : List XO} {m : Bool} {ms : List Bool} : mutIds σ (x :: xs) (m :: ms) = fpIds (σ.v x).2 m ++ mutIds σ xs ms := by
  cases m <;> simp [mutIds, fpIds]; rfl

theorem any_fps {g : Nat} : ∀ {xs : List XO} {ms : List Bool}, Any (fpsOf M σ xs ms) g ↔ ∃ id ∈ mutIds σ xs ms, blkOf M id g := by
  intro xs
  induction xs with
  | nil => intro ms; simp [fpsOf, mutIds, Any]
  | cons x xs ih =>
    intro ms
    cases ms with
    | nil => simp [fpsOf, mutIds, Any]
    | cons m ms =>
      rw [mutIds_cons]
      constructor
      · rintro ⟨p, hp, hg⟩
        simp only [fpsOf] at hp
        rcases List.mem_cons.1 hp with rfl | hp
        · obtain ⟨id, h1, h2⟩ := hg; exact ⟨id, by simp [h1], h2⟩
        · obtain ⟨id, h1, h2⟩ := ih.1 ⟨p, hp, hg⟩; exact ⟨id, by simp [h1], h2⟩
      · rintro ⟨id, h1, h2⟩
        simp only [fpsOf]
        rcases List.mem_append.1 h1 with h1 | h1
        · exact ⟨_, List.mem_cons_self .., ⟨id, h1, h2⟩⟩
        · obtain ⟨p, hp, hg⟩ := ih.2 ⟨id, h1, h2⟩
          exact ⟨p, List.mem_cons_of_mem _ hp, hg⟩

/-- What is handed over reads so. -/
def ArgR (σ : St) (w : World) (M : Gh) (x : XO) (v : Value) : Prop := (σ.v x).1 = true → RelV w M (σ.v x).2 v
theorem okOs_rel (ht : ∀ t p, (t, p) ∈ σ.tm → RelV w M p (a.tmps.getD t undef)) : ∀ {os : List Operand} {xs : List XO}, okOs os xs = true → All2 (ArgR σ w M) xs (os.map a.eval) := by
  intro os
  induction os with
  | nil => intro xs h; cases xs with
    | nil => exact .nil
    | cons _ _ => simp [okOs] at h
  | cons o os ih => intro xs h; cases xs with
    | nil => simp [okOs] at h
    | cons x xs =>
      simp only [okOs, Bool.and_eq_true] at h
      exact .cons (fun hg => okO_rel ht h.1 hg) (ih h.2)
theorem caps_rel : ∀ {cs : List C} {us : List Value}, us.length = cs.length → (∀ (j : Nat) c, cs[j]? = some c → ∃ u, us[j]? = some u ∧ Rep w M.S c u) → All2 (ArgR σ w M) (cs.map fun c => .k c.toQ) us := by
  intro cs
  induction cs with
  | nil => intro us hl _; cases us with
    | nil => exact .nil
    | cons _ _ => simp at hl
  | cons c cs ih => intro us hl h; cases us with
    | nil => simp at hl
    | cons u us =>
      refine .cons (fun _ => ?_) (ih (by simpa using hl) (fun j c hj => by simpa using h (j + 1) c (by simpa using hj)))
      obtain ⟨u', hu, hr⟩ := h 0 c (by simp)
      simp at hu; subst hu
      exact toQ_rel hr
theorem All2.append {α β : Type} {R : α → β → Prop} {xs xs' : List α} {ys ys' : List β} (h : All2 R xs ys) (k : All2 R xs' ys') : All2 R (xs ++ xs') (ys ++ ys') := by
  induction h with
  | nil => exact k
  | cons h _ ih => exact .cons h ih

/-- The arguments, as they are handed over. -/
theorem argsE_rel (mem : Mem X B σ.bx σ.rw w M) : ∀ {xs : List XO} {us : List Value} {ms : List Bool} {vc : Prop} {ds : List AV}, All2 (ArgR σ w M) xs us → argsE σ xs ms = some (vc, ds) → vc →
    All3 (RepA w M.S) ds us (fpsOf M σ xs ms) ∧ ∀ id ∈ mutIds σ xs ms, There σ id := by
  intro xs
  induction xs with
  | nil =>
    intro us ms vc ds hk hx hvc
    cases hk
    cases ms with
    | nil => simp only [argsE, Option.some.injEq, Prod.mk.injEq] at hx; rw [← hx.2]; exact ⟨.nil, by simp [mutIds]⟩
    | cons _ _ => simp [argsE] at hx
  | cons x xs ih =>
    intro us ms vc ds hk hx hvc
    cases hk with
    | @cons _ u _ us hk1 hk2 =>
      cases ms with
      | nil => simp [argsE] at hx
      | cons m ms =>
        rw [mutIds_cons]
        simp only [fpsOf]
        simp only [argsE] at hx
        split at hx
        · rename_i vc' ds' e2
          split at hx
          · rename_i p hp
            split at hx
            · rename_i d hd
              simp only [Option.some.injEq, Prod.mk.injEq] at hx
              obtain ⟨rfl, rfl⟩ := hx
              have rx := hk1 hvc.1
              obtain ⟨i1, i2⟩ := ih hk2 e2 hvc.2
              exact ⟨.cons ⟨toD_rel rx hd, by simp [fpIds]⟩ i1, by simpa [fpIds] using i2⟩
            · cases hx
          · rename_i i e1
            split at hx
            · rename_i qs hq
              split at hx
              · rename_i cs hcs
                simp only [Option.some.injEq, Prod.mk.injEq] at hx
                obtain ⟨rfl, rfl⟩ := hx
                have rx := hk1 hvc.1
                rw [e1] at rx
                obtain ⟨i1, i2⟩ := ih hk2 e2 hvc.2
                have hin := get?_mem hq
                obtain ⟨_, t, cells, h1, h2, h3⟩ := mem.box _ _ hin
                obtain ⟨h4, h5⟩ := allC_rel ⟨h2, h3⟩ hcs
                refine ⟨.cons ⟨M.β i, rx, ⟨t, cells, h1, h4, h5⟩, fun g => by simp [fpIds, e1, blkOf]⟩ i1, ?_⟩
                simp only [fpIds, e1, if_true, List.cons_append, List.nil_append, List.mem_cons]
                rintro id (rfl | h)
                · exact ⟨qs, hin⟩
                · exact i2 _ h
              · cases hx
            · cases hx
          · rename_i r e1
            split at hx
            · rename_i sz es hq
              simp only [Option.some.injEq, Prod.mk.injEq] at hx
              obtain ⟨rfl, rfl⟩ := hx
              have rx := hk1 hvc.1
              rw [e1] at rx
              obtain ⟨i1, i2⟩ := ih hk2 e2 hvc.2
              have hin := get?_mem hq
              obtain ⟨h1, h2, h3⟩ := mem.row _ _ _ hin
              refine ⟨.cons ⟨h1, by rw [rx.1]; exact h2, fun g => by simp [fpIds, e1, blkOf, rx.1]⟩ i1, ?_⟩
              simp only [fpIds, e1, if_true, List.cons_append, List.nil_append, List.mem_cons]
              rintro id (rfl | h)
              · exact ⟨_, hin⟩
              · exact i2 _ h
            · cases hx
          · cases hx
        · cases hx

theorem blk_apart (mem : Mem X B σ.bx σ.rw w M) {x y : Bool × Nat} (hx : There σ x) (hy : There σ y) (hne : x ≠ y) {g : Nat} (h : blkOf M x g) : ¬ blkOf M y g := by
  obtain ⟨bx, ix⟩ := x
  obtain ⟨by', iy⟩ := y
  cases bx <;> cases by' <;> simp only [There, blkOf, if_true, Bool.false_eq_true, if_false] at * <;> obtain ⟨_, hx⟩ := hx <;> obtain ⟨_, hy⟩ := hy
  · subst h; exact mem.bb _ _ _ _ hx hy (fun e => hne (by rw [e]))
  · subst h; exact mem.br _ _ _ _ hx hy
  · rintro rfl; exact mem.br _ _ _ _ hy hx h
  · exact mem.rr _ _ _ _ g hx hy (fun e => hne (by rw [e])) h
theorem blk_notS (mem : Mem X B σ.bx σ.rw w M) {x : Bool × Nat} (hx : There σ x) {g : Nat} (h : blkOf M x g) : ¬ M.S g ∧ g < w.heap.size ∧ Mine X B g := by
  obtain ⟨bx, ix⟩ := x
  cases bx <;> simp only [There, blkOf, if_true, Bool.false_eq_true, if_false] at * <;> obtain ⟨r, hx⟩ := hx
  · subst h
    obtain ⟨h1, t, cells, h2, _⟩ := mem.box _ _ hx
    exact ⟨mem.sb _ _ hx, (Array.getElem?_eq_some_iff.1 h2).1, h1⟩
  · obtain ⟨sz, es⟩ := r
    obtain ⟨_, h1, h2⟩ := mem.row _ _ _ hx
    exact ⟨mem.sr _ _ g hx h, h1.lt h, h2 g h⟩
theorem nodup_split {l1 l2 : List (Bool × Nat)} (h : nodupIds (l1 ++ l2) = true) : nodupIds l2 = true ∧ ∀ x ∈ l1, ∀ y ∈ l2, x ≠ y := by
  induction l1 with
  | nil => exact ⟨h, by simp⟩
  | cons z l1 ih =>
    simp only [List.cons_append, nodupIds, Bool.and_eq_true, Bool.not_eq_true', List.any_eq_false] at h
    obtain ⟨h1, h2⟩ := ih h.2
    refine ⟨h1, fun x hx y hy e => ?_⟩
    rcases List.mem_cons.1 hx with rfl | hx
    · subst e; exact h.1 x (by simp [hy]) (by simp)
    · exact h2 x hx y hy e
theorem fps_apart (mem : Mem X B σ.bx σ.rw w M) : ∀ {xs : List XO} {ms : List Bool}, (∀ id ∈ mutIds σ xs ms, There σ id) → nodupIds (mutIds σ xs ms) = true → Apart M.S (fpsOf M σ xs ms) := by
  intro xs
  induction xs with
  | nil => intro ms _ _; trivial
  | cons x xs ih =>
    intro ms hth hnd
    cases ms with
    | nil => trivial
    | cons m ms =>
      rw [mutIds_cons] at hth hnd
      obtain ⟨h1, h2⟩ := nodup_split hnd
      refine ⟨fun g ⟨id, hid, hg⟩ => (blk_notS mem (hth id (by simp [hid])) hg).1, fun g ⟨id, hid, hg⟩ q hq hqg => ?_, ih (fun id h => hth id (by simp [h])) h1⟩
      obtain ⟨id', h3, h4⟩ := any_fps.1 ⟨q, hq, hqg⟩
      exact blk_apart mem (hth id (by simp [hid])) (hth id' (by simp [h3])) (h2 id hid id' h3) hg h4
end
end Go.Proofs.Pw
/- Calls that are handed what they may write. -/
namespace Go.Proofs.Pw
open Go.RowKit
set_option linter.unusedSectionVars false
variable [Globs]
section
variable {P : Program} {Γ : FuncId → Option Spec} {σ σ0 : St} {a : Act} {w w' : World} {M M' : Gh} {X : Nat → Prop} {B n : Nat} {w0 : W0}

/-- A variable's cells stand in the world, and no one else's. -/
structure BoxOk (w : World) (M : Gh) (N : Nat → Prop) (i : Nat) (qs : List Q) : Prop where
  cells : ∃ t cells, w.heap[M.β i]? = some (.cells cells t (0, 0)) ∧ RelCs w M qs cells
  s : ¬ M.S (M.β i)
  n : ¬ N (M.β i)
structure RowOk (w : World) (M : Gh) (N : Nat → Prop) (i sz : Nat) (es : List (List C)) : Prop where
  pos : 0 < sz
  priv : Priv w M.S sz es (M.ρ i)
  s : ∀ g, pblk (M.ρ i) g → ¬ M.S g
  n : ∀ g, pblk (M.ρ i) g → ¬ N g
/-- The state between: what is yet to be handed back is not told. -/
structure Mid (w : World) (M : Gh) (N : Nat → Prop) (a : Act) (σ0 : St) (todo : List (Bool × Nat)) (σ : St) : Prop where
  tm : ∀ t p, (t, p) ∈ σ.tm → RelV w M p (a.tmps.getD t undef)
  box : ∀ i qs, (i, qs) ∈ σ.bx → There σ0 (false, i) ∧ ((false, i) ∈ todo ∨ BoxOk w M N i qs)
  row : ∀ i sz es, (i, sz, es) ∈ σ.rw → There σ0 (true, i) ∧ ((true, i) ∈ todo ∨ RowOk w M N i sz es)

theorem killO_q {i : Nat} (q : Q) (v : Value) (h : RelQ w M q v) : RelQ w M (q.killO i) v := by
  cases q with
  | own j =>
    simp only [Q.killO]
    split
    · trivial
    · exact h
  | rp j sz k o =>
    simp only [Q.killO]
    split
    · trivial
    · exact h
  | vw i sz lo n =>
    simp only [Q.killO]
    split
    · trivial
    · exact h
  | vc i sz lo n c =>
    simp only [Q.killO]
    split
    · trivial
    · exact h
  | _ => exact h
theorem cells_rel {cs : List C} {g : Nat} (h : Cells w M.S cs g) : ∃ t cells, w.heap[g]? = some (.cells cells t (0, 0)) ∧ RelCs w M (cs.map .c) cells := by
  obtain ⟨t, cells, h1, h2, h3⟩ := h
  refine ⟨t, cells, h1, by simpa using h2, fun j q hq => ?_⟩
  simp only [List.getElem?_map, Option.map_eq_some_iff] at hq
  obtain ⟨c, hc, rfl⟩ := hq
  obtain ⟨u, g1, g2⟩ := h3 j c hc
  exact ⟨u, g1, g2.one, g2⟩

theorem outE_mid {N : Nat → Prop} : ∀ {xs : List XO} {us : List Value} {ms : List Bool} {outs : List AV} {fps : List (Nat → Prop)} {σ σ' : St}, All2 (ArgR σ0 w M) xs us →
    (∀ x m, (x, m) ∈ xs.zip ms → m = true → (σ0.v x).1 = true) →
    Mid w M N a σ0 (mutIds σ0 xs ms) σ → All3 (RepA w M.S) outs us fps → (∀ g, Any fps g → ¬ M.S g ∧ ¬ N g) → outE σ0 xs ms outs σ = some σ' → (∀ id ∈ mutIds σ0 xs ms, There σ0 id) → Mid w M N a σ0 [] σ' := by
  intro xs
  induction xs with
  | nil =>
    intro us ms outs fps σ σ' hk hg hm h3 hf ho hth
    cases hk
    cases h3
    cases ms with
    | nil => simp only [outE, Option.some.injEq] at ho; subst ho; exact hm
    | cons _ _ => simp [outE] at ho
  | cons x xs ih =>
    intro us ms outs fps σ σ' hk hg hm h3 hf ho hth
    cases hk with
    | @cons _ u _ us hk1 hk2 =>
      cases ms with
      | nil => cases h3; simp [outE] at ho
      | cons m ms =>
        rw [mutIds_cons] at hm hth
        cases h3 with
        | @cons ov _ fp _ _ fps hr h3 =>
        have hf' : ∀ g, Any fps g → ¬ M.S g ∧ ¬ N g := fun g ⟨p, hp, h⟩ => hf g ⟨p, by simp [hp], h⟩
        have hfh : ∀ g, fp g → ¬ M.S g ∧ ¬ N g := fun g h => hf g ⟨fp, by simp, h⟩
        have hg' : ∀ y m', (y, m') ∈ xs.zip ms → m' = true → (σ0.v y).1 = true := fun y m' h => hg y m' (by simp [h])
        have hth' : ∀ id ∈ mutIds σ0 xs ms, There σ0 id := fun id h => hth id (by simp [h])
        cases m with
        | false =>
          cases ov with
          | gone =>
            simp only [outE] at ho
            exact ih hk2 hg' (by simpa [fpIds] using hm) h3 hf' ho hth'
          | d _ => simp [outE] at ho
          | ref _ => simp [outE] at ho
          | own _ _ => simp [outE] at ho
          | ag _ => simp [outE] at ho
        | true =>
          simp only [outE] at ho
          have rx := hk1 (hg x true (by simp) rfl)
          split at ho
          · rename_i i off cs e1
            rw [e1] at rx hm hth
            simp only [fpIds, if_true, List.cons_append, List.nil_append] at hm hth
            obtain ⟨g, hv, hc, hfp⟩ := hr
            have hgi : g = M.β i := by
              rw [show u = .pointer (some ⟨M.β i, off, none⟩) from rx] at hv
              simp at hv; exact hv.1.symm
            subst hgi
            refine ih (σ := { σ with bx := upd i (cs.map .c) σ.bx }) hk2 hg' ⟨hm.tm, fun j qs hj => ?_, fun j sz es hj => ?_⟩ h3 hf' ho hth'
            · rcases upd_mem hj with ⟨rfl, rfl⟩ | ⟨hne, hj⟩
              · exact ⟨hth _ (by simp), .inr ⟨cells_rel hc, (hfh _ ((hfp _).2 rfl)).1, (hfh _ ((hfp _).2 rfl)).2⟩⟩
              · obtain ⟨k1, k2⟩ := hm.box j qs hj
                refine ⟨k1, k2.imp (fun h => ?_) id⟩
                rcases List.mem_cons.1 h with h | h
                · cases h; exact absurd rfl hne
                · exact h
            · obtain ⟨k1, k2⟩ := hm.row j sz es hj
              refine ⟨k1, k2.imp (fun h => ?_) id⟩
              rcases List.mem_cons.1 h with h | h
              · cases h
              · exact h
          · rename_i i sz es e1
            rw [e1] at rx hm hth
            simp only [fpIds, if_true, List.cons_append, List.nil_append] at hm hth
            obtain ⟨h0, hp, hfp⟩ := hr
            rw [rx.1] at hp hfp
            refine ih (σ := { σ with rw := upd i (sz, es) σ.rw }) hk2 hg' ⟨hm.tm, fun j qs hj => ?_, fun j sz' es' hj => ?_⟩ h3 hf' ho hth'
            · obtain ⟨k1, k2⟩ := hm.box j qs hj
              refine ⟨k1, k2.imp (fun h => ?_) id⟩
              rcases List.mem_cons.1 h with h | h
              · cases h
              · exact h
            · rcases upd_mem hj with ⟨rfl, he⟩ | ⟨hne, hj⟩
              · cases he
                exact ⟨hth _ (by simp), .inr ⟨h0, hp, fun g hg => (hfh _ ((hfp _).2 hg)).1, fun g hg => (hfh _ ((hfp _).2 hg)).2⟩⟩
              · obtain ⟨k1, k2⟩ := hm.row j sz' es' hj
                refine ⟨k1, k2.imp (fun h => ?_) id⟩
                rcases List.mem_cons.1 h with h | h
                · cases h; exact absurd rfl hne
                · exact h
          · rename_i i e1
            rw [e1] at rx hm hth
            simp only [fpIds, if_true, List.cons_append, List.nil_append] at hm hth
            refine ih hk2 hg' ⟨fun t p h => ?_, fun j qs hj => ?_, fun j sz' es' hj => ?_⟩ h3 hf' ho hth'
            · simp only [St.map, List.mem_map, Prod.mk.injEq] at h
              obtain ⟨⟨t', p'⟩, h', rfl, rfl⟩ := h
              exact map_v killO_q (hm.tm _ _ h')
            · simp only [St.map, List.mem_map, Prod.mk.injEq] at hj
              obtain ⟨⟨j', q⟩, hj, rfl, rfl⟩ := hj
              obtain ⟨k1, k2⟩ := hm.box _ q hj
              refine ⟨k1, k2.imp (fun h => ?_) (fun h => ?_)⟩
              · rcases List.mem_cons.1 h with h | h
                · cases h
                · exact h
              · obtain ⟨⟨t, cells, g1, g2⟩, g3, g4⟩ := h
                exact ⟨⟨t, cells, g1, map_cs killO_q g2⟩, g3, g4⟩
            · obtain ⟨hne, hj⟩ := del_mem hj
              obtain ⟨k1, k2⟩ := hm.row j sz' es' hj
              refine ⟨k1, k2.imp (fun h => ?_) id⟩
              rcases List.mem_cons.1 h with h | h
              · cases h; exact absurd rfl hne
              · exact h
          · cases ho

theorem Mid.mem (hg : Gl w' M'.S) (hm : Mem X B σ0.bx σ0.rw w M) (hβ : M'.β = M.β) (hρ : M'.ρ = M.ρ) (hl : ∀ g, M'.S g → g < w'.heap.size) {N : Nat → Prop} (h : Mid w' M' N a σ0 [] σ) : Mem X B σ.bx σ.rw w' M' := by
  have bx : ∀ {i qs}, (i, qs) ∈ σ.bx → ∃ q, (i, q) ∈ σ0.bx := fun {i qs} h1 => (h.box i qs h1).1
  have rw : ∀ {i r}, (i, r) ∈ σ.rw → ∃ q, (i, q) ∈ σ0.rw := fun {i r} h1 => by obtain ⟨sz, es⟩ := r; exact (h.row i sz es h1).1
  have bok : ∀ {i qs}, (i, qs) ∈ σ.bx → BoxOk w' M' N i qs := fun {i qs} h1 => (h.box i qs h1).2.resolve_left (by simp)
  have rok : ∀ {i sz es}, (i, sz, es) ∈ σ.rw → RowOk w' M' N i sz es := fun {i sz es} h1 => (h.row i sz es h1).2.resolve_left (by simp)
  refine ⟨fun i qs h1 => ?_, fun i sz es h1 => ?_, fun i q j q' h1 h2 hne => ?_, fun i q j r h1 h2 => ?_, fun i r j r' g h1 h2 hne => ?_, hl, fun i q h1 => (bok h1).s, fun i r g h1 hg => ?_, hg⟩
  · obtain ⟨q, hq⟩ := bx h1
    obtain ⟨t, cells, g1, g2⟩ := (bok h1).cells
    exact ⟨by rw [hβ]; exact (hm.box i q hq).1, t, cells, g1, g2⟩
  · obtain ⟨⟨sz', es'⟩, hq⟩ := rw h1
    exact ⟨(rok h1).pos, (rok h1).priv, by rw [hρ]; exact (hm.row i sz' es' hq).2.2⟩
  · obtain ⟨_, e1⟩ := bx h1; obtain ⟨_, e2⟩ := bx h2
    rw [hβ]; exact hm.bb _ _ _ _ e1 e2 hne
  · obtain ⟨_, e1⟩ := bx h1; obtain ⟨_, e2⟩ := rw h2
    rw [hβ, hρ]; exact hm.br _ _ _ _ e1 e2
  · obtain ⟨_, e1⟩ := rw h1; obtain ⟨_, e2⟩ := rw h2
    rw [hρ]; exact hm.rr _ _ _ _ g e1 e2 hne
  · obtain ⟨sz, es⟩ := r
    exact (rok h1).s g hg

end
end Go.Proofs.Pw
/- A call that is handed what it may write, run. -/
namespace Go.Proofs.Pw
open Go.RowKit
set_option linter.unusedSectionVars false
variable [Globs]
section
variable {P : Program} {Γ : FuncId → Option Spec} {σ σ0 : St} {a : Act} {w w' : World} {M M' : Gh} {X : Nat → Prop} {B n : Nat} {w0 : W0}

theorem argsE_gd : ∀ {xs : List XO} {ms : List Bool} {vc : Prop} {ds : List AV}, argsE σ xs ms = some (vc, ds) → vc → ∀ x m, (x, m) ∈ xs.zip ms → m = true → (σ.v x).1 = true := by
  intro xs
  induction xs with
  | nil => intro ms vc ds h hvc x m hx; simp at hx
  | cons y xs ih =>
    intro ms vc ds h hvc x m hx hm
    cases ms with
    | nil => simp at hx
    | cons m' ms =>
      simp only [argsE] at h
      split at h
      · rename_i vc' ds' e2
        have key : (σ.v y).1 = true → vc' → (σ.v x).1 = true := fun h1 h2 => by
          simp only [List.zip_cons_cons, List.mem_cons, Prod.mk.injEq] at hx
          rcases hx with ⟨rfl, rfl⟩ | hx
          · exact h1
          · exact ih e2 h2 x m hx hm
        split at h
        · split at h
          · simp only [Option.some.injEq, Prod.mk.injEq] at h
            obtain ⟨rfl, rfl⟩ := h
            exact key hvc.1 hvc.2
          · cases h
        · split at h
          · split at h
            · simp only [Option.some.injEq, Prod.mk.injEq] at h
              obtain ⟨rfl, rfl⟩ := h
              exact key hvc.1 hvc.2
            · cases h
          · cases h
        · split at h
          · simp only [Option.some.injEq, Prod.mk.injEq] at h
            obtain ⟨rfl, rfl⟩ := h
            exact key hvc.1 hvc.2
          · cases h
        · cases h
      · cases h

/-- A variable that is handed back takes its place. -/
theorem Mem.getBox (h : Mem X B σ.bx σ.rw w M) {d b : Nat} {qs : List Q} {t : TypeId} {cells : Array Value} (hc : w.heap[b]? = some (.cells cells t (0, 0))) (hr : RelCs w M qs cells) (hmine : Mine X B b) (hS : ¬ M.S b)
    (hb : ∀ i q, (i, q) ∈ σ.bx → M.β i ≠ b) (hrw : ∀ i r, (i, r) ∈ σ.rw → ¬ pblk (M.ρ i) b) : Mem X B (upd d (qs.map (Q.killB d)) (σ.map (Q.killB d)).bx) σ.rw w (M.nb d b) := by
  have hq := nb_q (d := d) (b := b) (Up.refl h.lt) h.lt
  have hin : ∀ {i' q1}, (i', q1) ∈ upd d (qs.map (Q.killB d)) (σ.map (Q.killB d)).bx → (i' = d ∧ q1 = qs.map (Q.killB d)) ∨ (i' ≠ d ∧ ∃ q, (i', q) ∈ σ.bx ∧ q1 = q.map (Q.killB d)) := fun {i' q1} h' => by
    rcases upd_mem h' with h' | ⟨hne, h'⟩
    · exact .inl h'
    · simp only [St.map, List.mem_map, Prod.mk.injEq] at h'
      obtain ⟨⟨j, q⟩, hj, rfl, rfl⟩ := h'
      exact .inr ⟨hne, q, hj, rfl⟩
  refine ⟨fun i' q1 h' => ?_, fun i' sz es h' => h.row i' sz es h', fun i' q1 j q2 h1 h2 hne => ?_, fun i' q1 j r h1 h2 hg => ?_, h.rr, h.lt, fun i' q1 h1 hs => ?_, h.sr, h.gl⟩
  · rcases hin h' with ⟨rfl, rfl⟩ | ⟨hne, q, hj, rfl⟩
    · simp only [Gh.nb, if_true]
      exact ⟨hmine, t, cells, hc, map_cs hq hr⟩
    · simp only [Gh.nb, if_neg hne]
      obtain ⟨hB', t', cells', h1, h2, h3⟩ := h.box i' q hj
      exact ⟨hB', t', cells', h1, map_cs hq ⟨h2, h3⟩⟩
  · rcases hin h1 with ⟨rfl, _⟩ | ⟨n1, q, hj, _⟩ <;> rcases hin h2 with ⟨rfl, _⟩ | ⟨n2, q', hj', _⟩
    · exact absurd rfl hne
    · simp only [Gh.nb, if_true, if_neg n2]; exact fun e => hb _ _ hj' e.symm
    · simp only [Gh.nb, if_true, if_neg n1]; exact hb _ _ hj
    · simp only [Gh.nb, if_neg n1, if_neg n2]; exact h.bb _ _ _ _ hj hj' hne
  · rcases hin h1 with ⟨rfl, _⟩ | ⟨n1, q, hj, _⟩
    · simp only [Gh.nb, if_true] at hg
      exact hrw _ _ h2 hg
    · simp only [Gh.nb, if_neg n1] at hg
      exact h.br _ _ _ _ hj h2 hg
  · rcases hin h1 with ⟨rfl, _⟩ | ⟨n1, q, hj, _⟩
    · simp only [Gh.nb, if_true] at hs
      exact hS hs
    · simp only [Gh.nb, if_neg n1] at hs
      exact h.sb _ _ hj hs
/-! ### Several private rows are handed back -/
def RowV (w : World) (S : Nat → Prop) (r : Nat × Nat × List (List C)) (v : Value) (f : Nat → Prop) : Prop := 0 < r.2.1 ∧ Priv w S r.2.1 r.2.2 v ∧ ∀ g, f g ↔ pblk v g
theorem priv_one' {S : Nat → Prop} {sz : Nat} {es : List (List C)} {v : Value} (h : Priv w S sz es v) : v.oneCell' = true := by
  rcases h with ⟨_, _, h, _⟩ | ⟨_, A, rfl⟩
  · rcases h.2 with ⟨rfl, _⟩ | ⟨_, _, _, rfl, _⟩ <;> rfl
  · rfl
theorem agR_rel {S : Nat → Prop} {d j : Nat} : ∀ {ps : List Pt} {us : List Value} {fs : List (Nat → Prop)} {k : Nat}, All3 (RepP w S) ps us fs → Apart0 fs → (∀ g, Any fs g → ¬ S g) →
    ∃ vals fs1, All3 (RowV w S) (agR d j k ps) vals fs1 ∧ Apart S fs1 ∧ (∀ g, Any fs1 g → Any fs g) ∧ ∀ M : Gh, M.S = S → (∀ p ∈ (agR d j k ps).zip vals, M.ρ p.1.1 = p.2) →
      us.length = (agQ d j k ps).length ∧ ∀ (i : Nat) q, (agQ d j k ps)[i]? = some q → ∃ u, us[i]? = some u ∧ u.oneCell' = true ∧ RelQ w M q u := by
  intro ps
  induction ps with
  | nil => intro us fs k h _ _; cases h; exact ⟨[], [], .nil, trivial, fun _ h => h, fun M _ _ => ⟨rfl, fun i q hq => by simp [agQ] at hq⟩⟩
  | cons p ps ih =>
    intro us fs k h ha hS
    cases h with
    | @cons _ u f _ us fs h1 h2 =>
    obtain ⟨vals, fs1, i1, i2, i3, i4⟩ := ih (k := k + 1) h2 ha.2 (fun g ⟨q, hq, hg⟩ => hS g ⟨q, by simp [hq], hg⟩)
    have i3' : ∀ g, Any fs1 g → Any (f :: fs) g := fun g hg => by obtain ⟨q, hq, hg⟩ := i3 g hg; exact ⟨q, by simp [hq], hg⟩
    cases p with
    | c x =>
      refine ⟨vals, fs1, i1, i2, i3', fun M hM hz => ?_⟩
      obtain ⟨l1, l2⟩ := i4 M hM hz
      refine ⟨by simp [agQ, l1], fun i q hq => ?_⟩
      cases i with
      | zero => simp only [agQ, List.getElem?_cons_zero, Option.some.injEq] at hq; subst hq; exact ⟨u, rfl, h1.1.one, by show Rep w M.S x u; rw [hM]; exact h1.1⟩
      | succ i => simpa using l2 i q (by simpa [agQ] using hq)
    | o sz es =>
      refine ⟨u :: vals, f :: fs1, .cons h1 i1, ⟨fun g hg => hS g ⟨f, by simp, hg⟩, fun g hg q hq hqg => ?_, i2⟩, fun g ⟨q, hq, hg⟩ => ?_, fun M hM hz => ?_⟩
      · obtain ⟨q', hq', hg'⟩ := i3 g ⟨q, hq, hqg⟩
        exact ha.1 g hg q' hq' hg'
      · rcases List.mem_cons.1 hq with rfl | hq
        · exact ⟨_, by simp, hg⟩
        · exact i3' g ⟨q, hq, hg⟩
      · obtain ⟨l1, l2⟩ := i4 M hM (fun p hp => hz p (by simp only [agR, List.zip_cons_cons, List.mem_cons]; exact .inr hp))
        refine ⟨by simp [agQ, l1], fun i q hq => ?_⟩
        cases i with
        | zero =>
          simp only [agQ, List.getElem?_cons_zero, Option.some.injEq] at hq; subst hq
          have := hz ((pid d j k, sz, es), u) (by simp [agR])
          exact ⟨u, rfl, priv_one' h1.2.1, this.symm, priv_one' h1.2.1⟩
        | succ i => simpa using l2 i q (by simpa [agQ] using hq)
theorem All3.lens {α β γ : Type} {R : α → β → γ → Prop} {xs : List α} {ys : List β} {zs : List γ} (h : All3 R xs ys zs) : xs.length = ys.length := by
  induction h with
  | nil => rfl
  | cons _ _ ih => simp [ih]
theorem All3.app {α β γ : Type} {R : α → β → γ → Prop} {xs xs' : List α} {ys ys' : List β} {zs zs' : List γ} (h : All3 R xs ys zs) (k : All3 R xs' ys' zs') : All3 R (xs ++ xs') (ys ++ ys') (zs ++ zs') := by
  induction h with
  | nil => exact k
  | cons h _ ih => exact .cons h ih
theorem Apart.app {S : Nat → Prop} {ps qs : List (Nat → Prop)} (h : Apart S ps) (k : Apart S qs) (hn : ∀ g, Any ps g → ¬ Any qs g) : Apart S (ps ++ qs) := by
  induction ps with
  | nil => exact k
  | cons p ps ih =>
    refine ⟨h.1, fun g hg q hq hqg => ?_, ih h.2.2 (fun g ⟨q, hq, hg⟩ => hn g ⟨q, by simp [hq], hg⟩)⟩
    rcases List.mem_append.1 hq with hq | hq
    · exact h.2.1 g hg q hq hqg
    · exact hn g ⟨p, by simp, hg⟩ ⟨q, hq, hqg⟩
theorem Any.of_app {ps qs : List (Nat → Prop)} {g : Nat} (h : Any (ps ++ qs) g) : Any ps g ∨ Any qs g := by
  obtain ⟨p, hp, hg⟩ := h
  rcases List.mem_append.1 hp with hp | hp
  · exact .inl ⟨p, hp, hg⟩
  · exact .inr ⟨p, hp, hg⟩
theorem svL_rel {S : Nat → Prop} {d : Nat} : ∀ {as : List AV} {vs : List Value} {fps : List (Nat → Prop)} {j : Nat} {svs : List SV} {rows : List (Nat × Nat × List (List C))}, All3 (RepA w S) as vs fps → Apart S fps → svL d j as = some (svs, rows) →
    ∃ vals fs, All3 (RowV w S) rows vals fs ∧ Apart S fs ∧ (∀ g, Any fs g → Any fps g) ∧ ∀ M : Gh, M.S = S → (∀ p ∈ rows.zip vals, M.ρ p.1.1 = p.2) → All2 (RelS w M) svs vs := by
  intro as
  induction as with
  | nil =>
    intro vs fps j svs rows h _ hs
    cases h
    simp only [svL, Option.some.injEq, Prod.mk.injEq] at hs
    obtain ⟨rfl, rfl⟩ := hs
    exact ⟨[], [], .nil, trivial, fun _ h => h, fun _ _ _ => .nil⟩
  | cons x as ih =>
    intro vs fps j svs rows h ha hs
    cases h with
    | @cons _ v fp _ vs fps h1 h2 =>
    have lift : ∀ {fs : List (Nat → Prop)}, (∀ g, Any fs g → Any fps g) → ∀ g, Any fs g → Any (fp :: fps) g := fun h g hg => by obtain ⟨q, hq, hg⟩ := h g hg; exact ⟨q, by simp [hq], hg⟩
    cases x with
    | d x =>
      simp only [svL, Option.map_eq_some_iff, Prod.mk.injEq] at hs
      obtain ⟨⟨s1, r1⟩, hr, rfl, rfl⟩ := hs
      obtain ⟨vals, fs, i1, i2, i3, i4⟩ := ih h2 ha.2.2 hr
      exact ⟨vals, fs, i1, i2, lift i3, fun M hM hz => .cons (toS_rel (by rw [hM]; exact h1.1)) (i4 M hM hz)⟩
    | ref cs => simp [svL] at hs
    | gone => simp [svL] at hs
    | own sz es =>
      simp only [svL, Option.map_eq_some_iff, Prod.mk.injEq] at hs
      obtain ⟨⟨s1, r1⟩, hr, rfl, rfl⟩ := hs
      obtain ⟨vals, fs, i1, i2, i3, i4⟩ := ih h2 ha.2.2 hr
      refine ⟨v :: vals, fp :: fs, .cons h1 i1, ⟨ha.1, fun g hg q hq hqg => ?_, i2⟩, fun g ⟨q, hq, hg⟩ => ?_, fun M hM hz => .cons ?_ (i4 M hM (fun p hp => hz p (by simp [hp])))⟩
      · obtain ⟨q', hq', hg'⟩ := i3 g ⟨q, hq, hqg⟩
        exact ha.2.1 g hg q' hq' hg'
      · rcases List.mem_cons.1 hq with rfl | hq
        · exact ⟨_, by simp, hg⟩
        · exact lift i3 g ⟨q, hq, hg⟩
      · have := hz ((pid d j 0, sz, es), v) (by simp)
        exact ⟨this.symm, priv_one' h1.2.1⟩
    | ag ps =>
      simp only [svL, Option.map_eq_some_iff, Prod.mk.injEq] at hs
      obtain ⟨⟨s1, r1⟩, hr, rfl, rfl⟩ := hs
      obtain ⟨vals, fs, i1, i2, i3, i4⟩ := ih h2 ha.2.2 hr
      obtain ⟨us, fs0, rfl, k1, k2, k3⟩ := h1
      obtain ⟨vals1, fs1, j1, j2, j3, j4⟩ := agR_rel (d := d) (j := j) (k := 0) k1 k2 (fun g hg => ha.1 g ((k3 g).2 hg))
      refine ⟨vals1 ++ vals, fs1 ++ fs, j1.app i1, j2.app i2 (fun g hg hg' => ?_), fun g hg => ?_, fun M hM hz => ?_⟩
      · obtain ⟨q, hq, hqg⟩ := i3 g hg'
        exact ha.2.1 g ((k3 g).2 (j3 g hg)) q hq hqg
      · rcases Any.of_app hg with hg | hg
        · exact ⟨fp, by simp, (k3 g).2 (j3 g hg)⟩
        · exact lift i3 g hg
      · rw [List.zip_append j1.lens] at hz
        obtain ⟨l1, l2⟩ := j4 M hM (fun p hp => hz p (by simp [hp]))
        exact .cons ⟨us.toArray, rfl, by simpa using l1, fun i q hq => by simpa using l2 i q hq⟩ (i4 M hM (fun p hp => hz p (by simp [hp])))
theorem addR_mem : ∀ {rows : List (Nat × Nat × List (List C))} {vals : List Value} {fs : List (Nat → Prop)} {σ : St} {M : Gh}, All3 (RowV w M.S) rows vals fs → Apart M.S fs → nodupN (rows.map fun r => r.1) = true →
    (∀ t p, (t, p) ∈ σ.tm → RelV w M p (a.tmps.getD t undef)) → Mem X B σ.bx σ.rw w M → (∀ g, Any fs g → Mine X B g) → (∀ i q g, (i, q) ∈ σ.bx → Any fs g → g ≠ M.β i) → (∀ i r g, (i, r) ∈ σ.rw → pblk (M.ρ i) g → ¬ Any fs g) →
    ∃ M' : Gh, M'.S = M.S ∧ M'.β = M.β ∧ (∀ t p, (t, p) ∈ (addR rows σ).tm → RelV w M' p (a.tmps.getD t undef)) ∧ Mem X B (addR rows σ).bx (addR rows σ).rw w M' ∧ (∀ p ∈ rows.zip vals, M'.ρ p.1.1 = p.2) ∧ (∀ i, i ∉ rows.map (fun r => r.1) → M'.ρ i = M.ρ i) := by
  intro rows
  induction rows with
  | nil => intro vals fs σ M h _ _ ht hm _ _ _; cases h; exact ⟨M, rfl, rfl, ht, hm, by simp, fun _ _ => rfl⟩
  | cons r rows ih =>
    intro vals fs σ M h ha hnd ht hm hmine hb hr
    obtain ⟨id, sz, es⟩ := r
    cases h with
    | @cons _ v f _ vals fs h1 h2 =>
    simp only [List.map_cons, nodupN, Bool.and_eq_true, Bool.not_eq_true', List.contains_eq_mem, decide_eq_false_iff_not] at hnd
    have hf : ∀ g, pblk v g → f g := fun g hg => (h1.2.2 g).2 hg
    have hany : ∀ g, pblk v g → Any (f :: fs) g := fun g hg => ⟨f, by simp, hf g hg⟩
    have up : ∀ g, Any fs g → Any (f :: fs) g := fun g ⟨q, hq, hg⟩ => ⟨q, by simp [hq], hg⟩
    have mem1 := Mem.getRow (d := id) hm h1.1 h1.2.1 (fun g hg => hmine g (hany g hg)) (fun g hg => ha.notS (hany g hg)) (fun i q hi hg => hb i q _ hi (hany _ hg) rfl) (fun i r g hi hg hg' => hr i r g hi hg (hany g hg'))
    obtain ⟨M', m1, m2, m3, m4, m5, m6⟩ := ih (σ := { σ.map (Q.killO id) with rw := upd id (sz, es) σ.rw }) (M := M.nr id v) h2 ha.2.2 hnd.2 (fun t p h => by
        simp only [St.map, List.mem_map, Prod.mk.injEq] at h
        obtain ⟨⟨t', p'⟩, h', rfl, rfl⟩ := h
        exact map_v (nr_q (d := id) (v' := v) (Up.refl hm.lt) hm.lt) (ht _ _ h')) mem1 (fun g hg => hmine g (up g hg))
      (fun i q g hi hg => by
        simp only [St.map, List.mem_map, Prod.mk.injEq] at hi
        obtain ⟨⟨i', q'⟩, hi, rfl, rfl⟩ := hi
        exact hb _ q' g hi (up g hg))
      (fun i r g hi hg hg' => by
        rcases upd_mem hi with ⟨rfl, _⟩ | ⟨hne, hi⟩
        · simp only [Gh.nr, if_true] at hg
          obtain ⟨q, hq, hqg⟩ := hg'
          exact ha.2.1 g (hf g hg) q hq hqg
        · simp only [Gh.nr, if_neg hne] at hg
          exact hr i r g hi hg (up g hg'))
    refine ⟨M', m1, m2, m3, m4, fun p hp => ?_, fun i hi => ?_⟩
    · simp only [List.zip_cons_cons, List.mem_cons] at hp
      rcases hp with rfl | hp
      · rw [m6 id hnd.1]; simp [Gh.nr]
      · exact m5 p hp
    · simp only [List.map_cons, List.mem_cons, not_or] at hi
      rw [m6 i hi.2]; simp [Gh.nr, hi.1]
theorem Apart.left {S : Nat → Prop} {ps qs : List (Nat → Prop)} (h : Apart S (ps ++ qs)) : Apart S ps := by
  induction ps with
  | nil => trivial
  | cons p ps ih => exact ⟨h.1, fun g hg q hq => h.2.1 g hg q (by simp [hq]), ih h.2.2⟩
theorem RepR.all3 {S : Nat → Prop} {ds : List AV} {v : Value} {fps : List (Nat → Prop)} (h : RepR w S ds v fps) : ∃ vs, All3 (RepA w S) ds vs fps ∧ (vs = [v] ∨ (vs.length ≠ 1 ∧ v = .tuple vs.toArray)) := by
  unfold RepR at h
  split at h
  · exact ⟨_, .cons h .nil, .inl rfl⟩
  · obtain ⟨h1, vs, rfl, h2⟩ := h
    exact ⟨vs, h2, .inr ⟨by rw [← h2.lens]; exact h1, rfl⟩⟩
theorem svP_rel {svs : List SV} {vs : List Value} {v : Value} (h : All2 (RelS w M) svs vs) (hv : vs = [v] ∨ (vs.length ≠ 1 ∧ v = .tuple vs.toArray)) : RelV w M (svP svs) v := by
  rcases hv with rfl | ⟨h1, rfl⟩
  · cases h with
    | cons h1 h2 =>
      cases h2
      rename_i s
      cases s <;> exact h1
  · have hl := h.length
    have key : svP svs = .tup svs := by
      unfold svP
      split
      · simp at hl; omega
      · simp at hl; omega
      · rfl
    rw [key]
    exact ⟨vs, rfl, h⟩
theorem ltB_not {i : Nat} (hb : BASE ≤ i) : ∀ {rows : List (Nat × Nat × List (List C))}, ltB rows = true → i ∉ rows.map fun r => r.1 := by
  intro rows
  induction rows with
  | nil => intro _; simp
  | cons r rs ih =>
    intro h
    simp only [ltB, Bool.and_eq_true, decide_eq_true_eq] at h
    simp only [List.map_cons, List.mem_cons, not_or]
    exact ⟨by omega, ih h.2⟩
theorem callS_wp (G : GOK P Γ) (hs : Sim X n B w0 σ a w M) {dst : Option Nat} (hd : ∀ d, dst = some d → d < n) {f : FuncId} {us : List Value} {xs : List XO}
    (hargs : ∀ (σ1 : St) (w1 : World) (M1 : Gh), (∀ t p, (t, p) ∈ σ1.tm → RelV w1 M1 p (a.tmps.getD t undef)) → (∀ c v, Rep w M.S c v → Rep w1 M1.S c v) → All2 (ArgR σ1 w1 M1) xs us)
    {sp : Spec} (hsp : Γ f = some sp) {vc : Prop} {ds : List AV} (ha : argsE (σ.pubs xs sp.md) xs sp.md = some (vc, ds)) (hnd : nodupIds (mutIds (σ.pubs xs sp.md) xs sp.md) = true) (hvc : vc) (hpre : sp.pre ds) :
    okCallee P f = true ∧ ∀ (K : Value → World → Prop) (E : Ending → World → Prop),
      (∀ r o, sp.may ds r o → ∃ σ2 σ3, outE (σ.pubs xs sp.md) xs sp.md o (σ.pubs xs sp.md) = some σ2 ∧ retE dst r σ2 = some σ3 ∧ ∀ v w' M', Sim X n B w0 σ3 (a.put dst v) w' M' → K v w') →
      Calls P f us.toArray w fun e w' => match e with | .returned v => K v w' | e => E e w' := by
  obtain ⟨hc, hsound⟩ := G f sp hsp
  refine ⟨hc, fun K E hK => ?_⟩
  obtain ⟨M1, h1, hmo⟩ := hs.pubL' (pubIds σ xs sp.md)
  change Sim X n B w0 (σ.pubs xs sp.md) a w M1 at h1
  generalize hσ1 : σ.pubs xs sp.md = σ1 at *
  obtain ⟨A3, hth⟩ := argsE_rel h1.mem (hargs σ1 w M1 h1.tm (fun c v h => h.mono hmo (fun _ _ => rfl))) ha hvc
  have hap := fps_apart h1.mem hth hnd
  have hblk : ∀ g, Any (fpsOf M1 σ1 xs sp.md) g → ¬ M1.S g ∧ g < w.heap.size ∧ Mine X B g := fun g hg => by
    obtain ⟨id, hid, hg⟩ := any_fps.1 hg
    exact blk_notS h1.mem (hth id hid) hg
  refine (hsound.full ds hpre w M1.S _ _ h1.mem.gl h1.mem.lt (fun g hg => (hblk g hg).2.1) hap A3).mono ?_
  rintro e w' ⟨r, o, hro, v, S', rfs, fps', rfl, g1, g2, g3, g4, g5, g6, g7, g8⟩
  show K v w'
  have hK2 := hK r o hro
  clear hK
  obtain ⟨σ2, σ3, ho2, hret, hK⟩ := hK2
  have hu : Ub w M1 w' { M1 with S := S' } := ⟨rfl, rfl, g3, fun g hg => g8.block g (h1.mem.lt g hg) (fun hg' => (hblk g hg').1 hg)⟩
  have hm : Mid w' { M1 with S := S' } (Any rfs) a σ1 (mutIds σ1 xs sp.md) σ1 := by
    refine ⟨fun t p h => hu.v (h1.tm t p h), fun i qs hi => ⟨⟨qs, hi⟩, ?_⟩, fun i sz es hi => ⟨⟨_, hi⟩, ?_⟩⟩
    · by_cases hin : (false, i) ∈ mutIds σ1 xs sp.md
      · exact .inl hin
      · right
        obtain ⟨_, t, cells, k1, k2⟩ := h1.mem.box i qs hi
        have hn : ¬ Any (fpsOf M1 σ1 xs sp.md) (M1.β i) := fun hg => by
          obtain ⟨id, hid, hg⟩ := any_fps.1 hg
          exact blk_apart h1.mem (hth id hid) (y := (false, i)) ⟨qs, hi⟩ (fun e => hin (e ▸ hid)) hg rfl
        have hlt := (Array.getElem?_eq_some_iff.1 k1).1
        refine ⟨⟨t, cells, by rw [← k1]; exact g8.block _ hlt hn, RelCs.ub hu k2⟩, fun h => ?_, fun h => ?_⟩
        · rcases g4 _ h with h | h | h
          · exact h1.mem.sb i qs hi h
          · exact absurd hlt (Nat.not_lt.2 h)
          · exact hn h
        · rcases (g7 _ h.left).1 with h | h
          · exact absurd hlt (Nat.not_lt.2 h)
          · exact hn h
    · by_cases hin : (true, i) ∈ mutIds σ1 xs sp.md
      · exact .inl hin
      · right
        obtain ⟨k0, k1, k2⟩ := h1.mem.row i sz es hi
        have hn : ∀ g, pblk (M1.ρ i) g → ¬ Any (fpsOf M1 σ1 xs sp.md) g := fun g hpg hg => by
          obtain ⟨id, hid, hg⟩ := any_fps.1 hg
          exact blk_apart h1.mem (hth id hid) (y := (true, i)) ⟨_, hi⟩ (fun e => hin (e ▸ hid)) hg hpg
        refine ⟨k0, k1.move hu.S hu.keep (fun g hg => g8.block g (k1.lt hg) (hn g hg)), fun g hg h => ?_, fun g hg h => ?_⟩
        · rcases g4 _ h with h | h | h
          · exact h1.mem.sr i _ g hi hg h
          · have := k1.lt hg; omega
          · exact hn g hg h
        · rcases (g7 _ h.left).1 with h | h
          · have := k1.lt hg; omega
          · exact hn g hg h
  have hm2 := outE_mid (N := Any rfs) (hargs σ1 w' { M1 with S := S' } (fun t p h => hu.v (h1.tm t p h)) (fun c v h => hu.rep (h.mono hmo (fun _ _ => rfl)))) (argsE_gd ha hvc) hm g2 (fun g hg => ⟨g6.notS hg.right, fun h => g6.split h hg⟩) ho2 hth
  have mem2 := Mid.mem (M' := { M1 with S := S' }) (hu.gl h1.mem.gl) h1.mem rfl rfl g5 hm2
  have hs2 : Sim X n B w0 σ2 a w' { M1 with S := S' } := ⟨h1.size, h1.defs, hm2.tm, mem2, h1.fr.trans (g8.weak h1.hB (fun g hg hz => (hblk g hz).2.2.resolve_left (by omega))), Nat.le_trans h1.hB g8.size, fun g hg => by
    rcases g4 g hg with h | h | h
    · exact h1.sS g h
    · exact .inr (.inl (Nat.le_trans h1.hB h))
    · exact .inr (hblk g h).2.2, h1.sβ, h1.sρ⟩
  unfold retE at hret
  split at hret
  · rename_i sz es
    split at hret
    · rename_i d
      simp only [Option.some.injEq] at hret
      subst hret
      have : ∃ fp, rfs = [fp] ∧ RepA w' S' (.own sz es) v fp := by
        cases rfs with
        | nil => exact absurd rfl g1.1
        | cons fp r => cases r with
          | nil => exact ⟨fp, rfl, g1⟩
          | cons _ _ => exact absurd rfl g1.1
      obtain ⟨fp, rfl, k0, k1, k2⟩ := this
      have hany : ∀ g, pblk v g → Any [fp] g := fun g hg => ⟨fp, by simp, (k2 g).2 hg⟩
      have hone : v.oneCell' = true := by
        rcases k1 with ⟨_, _, h, _⟩ | ⟨_, A, rfl⟩
        · rcases h.2 with ⟨rfl, _⟩ | ⟨_, _, _, rfl, _⟩ <;> rfl
        · rfl
      refine hK v w' (({ M1 with S := S' } : Gh).nr d v) ⟨by simpa [Act.put] using hs2.size, hs2.defs, fun t p h => ?_, Mem.getRow mem2 k0 k1 (fun g hg => ?_) (fun g hg => g6.notS (hany g hg).left) (fun i q hi hg => ?_) (fun i r g hi hg hg' => ?_), hs2.fr, hs2.hB, hs2.sS, hs2.sβ, fun i hi hb => by
        have hdn := hd d rfl
        simp only [Gh.nr]; rw [if_neg (by omega)]; exact hs2.sρ i hi hb⟩
      · have hdn : d < a.tmps.size := by rw [hs2.size]; exact hd d rfl
        rcases upd_mem h with ⟨rfl, rfl⟩ | ⟨hne, h⟩
        · simp only [Act.put, Array.getD_eq_getD_getElem?, Array.getElem?_setIfInBounds, hdn, if_true, Option.getD_some]
          exact ⟨by simp [Gh.nr], hone⟩
        · simp only [St.map, List.mem_map, Prod.mk.injEq] at h
          obtain ⟨⟨t', p'⟩, h', rfl, rfl⟩ := h
          have := map_v (nr_q (d := d) (v' := v) (Up.refl mem2.lt) mem2.lt) (hs2.tm _ _ h')
          simp only [Act.put, Array.getD_eq_getD_getElem?, Array.getElem?_setIfInBounds]
          rw [if_neg (fun e => hne e.symm), ← Array.getD_eq_getD_getElem?]
          exact this
      · rcases (g7 g (hany g hg).left).1 with h | h
        · exact .inl (Nat.le_trans h1.hB h)
        · exact (hblk g h).2.2
      · exact ((hm2.box i q hi).2.resolve_left (by simp)).n (hany _ hg)
      · obtain ⟨sz', es'⟩ := r
        exact ((hm2.row i sz' es' hi).2.resolve_left (by simp)).n g hg (hany _ hg')
    · cases hret
  · rename_i cs
    split at hret
    · rename_i d
      simp only [Option.some.injEq] at hret
      subst hret
      have : ∃ fp, rfs = [fp] ∧ RepA w' S' (.ref cs) v fp := by
        cases rfs with
        | nil => exact absurd rfl g1.1
        | cons fp r => cases r with
          | nil => exact ⟨fp, rfl, g1⟩
          | cons _ _ => exact absurd rfl g1.1
      obtain ⟨fp, rfl, b, rfl, hc, hfp⟩ := this
      obtain ⟨tt, cells, c1, c2⟩ := cells_rel (M := { M1 with S := S' }) hc
      have hb : Any [fp] b := ⟨fp, by simp, (hfp b).2 rfl⟩
      refine hK _ w' (({ M1 with S := S' } : Gh).nb d b) ⟨by simpa [Act.put] using hs2.size, hs2.defs, fun t p h => ?_, Mem.getBox mem2 c1 c2 ?_ (g6.notS hb.left) (fun i q hi hg => ?_) (fun i r hi hg => ?_), hs2.fr, hs2.hB, hs2.sS, fun i hi => ?_, hs2.sρ⟩
      · have hdn : d < a.tmps.size := by rw [hs2.size]; exact hd d rfl
        rcases upd_mem h with ⟨rfl, rfl⟩ | ⟨hne, h⟩
        · simp only [Act.put, Array.getD_eq_getD_getElem?, Array.getElem?_setIfInBounds, hdn, if_true, Option.getD_some]
          simp [RelV, RelQ, Gh.nb]
        · simp only [St.map, List.mem_map, Prod.mk.injEq] at h
          obtain ⟨⟨t', p'⟩, h', rfl, rfl⟩ := h
          have := map_v (nb_q (d := d) (b := b) (Up.refl mem2.lt) mem2.lt) (hs2.tm _ _ h')
          simp only [Act.put, Array.getD_eq_getD_getElem?, Array.getElem?_setIfInBounds]
          rw [if_neg (fun e => hne e.symm), ← Array.getD_eq_getD_getElem?]
          exact this
      · rcases (g7 b hb.left).1 with h | h
        · exact .inl (Nat.le_trans h1.hB h)
        · exact (hblk b h).2.2
      · have := ((hm2.box i q hi).2.resolve_left (by simp)).n
        rw [hg] at this; exact this hb
      · obtain ⟨sz', es'⟩ := r
        exact ((hm2.row i sz' es' hi).2.resolve_left (by simp)).n _ hg hb
      · have hdn := hd d rfl
        simp only [Gh.nb]; rw [if_neg (by omega)]; exact hs2.sβ i hi
    · cases hret
  · split at hret
    · rename_i p hp
      cases hret
      refine hK v w' { M1 with S := S' } ?_
      exact hs2.put hd (Up.refl mem2.lt) (fun _ _ h => h.elim) mem2 (retP_rel (M := { M1 with S := S' }) hp g1)
    · split at hret
      · rename_i d
        split at hret
        · rename_i svs rows hsv
          split at hret
          · rename_i hndr0
            cases hret
            rw [Bool.and_eq_true] at hndr0
            obtain ⟨hndr, hltr⟩ := hndr0
            obtain ⟨vs, r1, r2⟩ := RepR.all3 g1
            obtain ⟨vals, fs, r3, r4, r5, r6⟩ := svL_rel r1 (g6.left) hsv
            have hany : ∀ g, Any fs g → Any rfs g := r5
            obtain ⟨M', m1, m2, m3, m4, m5, m6⟩ := addR_mem (σ := σ2) (M := { M1 with S := S' }) r3 r4 hndr hs2.tm mem2 (fun g hg => by
                rcases (g7 g (hany g hg).left).1 with h | h
                · exact .inl (Nat.le_trans h1.hB h)
                · exact (hblk g h).2.2)
              (fun i q g hi hg e => ((hm2.box i q hi).2.resolve_left (by simp)).n (by rw [← e]; exact hany g hg))
              (fun i r g hi hg hg' => by
                obtain ⟨sz', es'⟩ := r
                exact ((hm2.row i sz' es' hi).2.resolve_left (by simp)).n g hg (hany _ hg'))
            have hv := svP_rel (r6 M' m1 m5) r2
            refine hK v w' M' ⟨by simpa [Act.put] using hs2.size, hs2.defs, fun t p h => ?_, m4, hs2.fr, hs2.hB, fun g hg => ?_, fun i hi => ?_, fun i hi hb => ?_⟩
            · have hdn : d < a.tmps.size := by rw [hs2.size]; exact hd d rfl
              rcases upd_mem h with ⟨rfl, rfl⟩ | ⟨hne, h⟩
              · simp only [Act.put, Array.getD_eq_getD_getElem?, Array.getElem?_setIfInBounds, hdn, if_true, Option.getD_some]
                exact hv
              · simp only [Act.put, Array.getD_eq_getD_getElem?, Array.getElem?_setIfInBounds]
                rw [if_neg (fun e => hne e.symm), ← Array.getD_eq_getD_getElem?]
                exact m3 _ _ h
            · rw [m1] at hg; exact hs2.sS g hg
            · rw [m2]; exact hs2.sβ i hi
            · rw [m6 i (ltB_not hb hltr)]; exact hs2.sρ i hi hb
          · cases hret
        · cases hret
      · cases hret
theorem callE_wp (G : GOK P Γ) (hs : Sim X n B w0 σ a w M) {dst : Option Nat} (hd : ∀ d, dst = some d → d < n) {f : FuncId} {us : List Value} {xs : List XO}
    (hargs : ∀ (σ1 : St) (w1 : World) (M1 : Gh), (∀ t p, (t, p) ∈ σ1.tm → RelV w1 M1 p (a.tmps.getD t undef)) → (∀ c v, Rep w M.S c v → Rep w1 M1.S c v) → All2 (ArgR σ1 w1 M1) xs us)
    {vc : Prop} {σ' : St} (he : callE Γ σ dst f xs = some (vc, σ')) (hvc : vc) :
    okCallee P f = true ∧ ∀ (K : Value → World → Prop) (E : Ending → World → Prop), (∀ v w' M', Sim X n B w0 σ' (a.put dst v) w' M' → K v w') →
      Calls P f us.toArray w fun e w' => match e with | .returned v => K v w' | e => E e w' := by
  unfold callE at he
  split at he
  · rename_i sp hsp
    split at he
    · rename_i hal
      split at he
      · rename_i vc' ds ha
        split at he
        · rename_i hnd
          split at he
          · rename_i σ2 ho2
            simp only [Option.map_eq_some_iff, Prod.mk.injEq] at he
            obtain ⟨σ3, hret, rfl, rfl⟩ := he
            obtain ⟨h1, h2⟩ := callS_wp G hs hd hargs hsp ha hnd hvc.1 hvc.2
            refine ⟨h1, fun K E hK => h2 K E (fun r o hro => ?_)⟩
            obtain ⟨rfl, rfl⟩ := (Spec.may_none hal).1 hro
            exact ⟨σ2, σ3, ho2, hret, hK⟩
          · cases he
        · cases he
      · cases he
    · cases he
  · cases he
theorem orF_mono' {α : Type} {x : Option α} {F F' : α → Prop} (hK : ∀ a, F a → F' a) (h : orF x F) : orF x F' := by
  unfold orF at *
  split at h
  · exact hK _ h
  · exact h.elim
theorem orF_some {α : Type} {x : Option α} {F : α → Prop} (h : orF x F) : ∃ a, x = some a ∧ F a := by
  unfold orF at h
  split at h
  · exact ⟨_, rfl, h⟩
  · exact h.elim
theorem callR_wp (G : GOK P Γ) (hs : Sim X n B w0 σ a w M) {dst : Option Nat} (hd : ∀ d, dst = some d → d < n) {f : FuncId} {us : List Value} {xs : List XO}
    (hargs : ∀ (σ1 : St) (w1 : World) (M1 : Gh), (∀ t p, (t, p) ∈ σ1.tm → RelV w1 M1 p (a.tmps.getD t undef)) → (∀ c v, Rep w M.S c v → Rep w1 M1.S c v) → All2 (ArgR σ1 w1 M1) xs us)
    {K' : St → Prop} (he : callR Γ σ dst f xs K') :
    okCallee P f = true ∧ ∀ (K : Value → World → Prop) (E : Ending → World → Prop), (∀ σ' v w' M', K' σ' → Sim X n B w0 σ' (a.put dst v) w' M' → K v w') →
      Calls P f us.toArray w fun e w' => match e with | .returned v => K v w' | e => E e w' := by
  unfold callR at he
  split at he
  · rename_i sp hsp
    split at he
    · rename_i vc' ds ha
      obtain ⟨hnd, hvc, hpre, hall⟩ := he
      obtain ⟨h1, h2⟩ := callS_wp G hs hd hargs hsp ha hnd hvc hpre
      refine ⟨h1, fun K E hK => h2 K E (fun r o hro => ?_)⟩
      obtain ⟨σ2, ho2, h3⟩ := orF_some (hall r o hro)
      obtain ⟨σ3, hret, h4⟩ := orF_some h3
      exact ⟨σ2, σ3, ho2, hret, fun v w' M' h => hK σ3 v w' M' h4 h⟩
    · exact he.elim
  · exact he.elim
end
end Go.Proofs.Pw
