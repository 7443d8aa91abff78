/- The operations that write. -/
import Derived.Test.YtalbhhciphpbeaaPwB
set_option linter.unusedSimpArgs false
set_option linter.unusedVariables false
namespace Go.Proofs.Pw
open Go.RowKit
set_option linter.unusedSectionVars false
variable [Globs]
section
variable {P : Program} {Γ : FuncId → Option Spec} {σ : St} {a : Act} {w w' : World} {M M' : Gh} {X : Nat → Prop} {B n : Nat} {w0 : W0}

theorem okAg_size {t : TypeId} {ag : Option Nat} (h : okAg P t ag = true) : ∃ i, P.info? t = some i ∧ i.size = ag.getD 1 := by
  cases ag with
  | none => obtain ⟨d, i, _, h2, h3, _⟩ := okAg_none h; exact ⟨i, h2, h3⟩
  | some m => obtain ⟨_, i, _, h2, h3⟩ := okAg_some h; exact ⟨i, h2, h3⟩

/-- A store into a block that is told. -/
theorem store_run {t : TypeId} {ag : Option Nat} (hk : okAg P t ag = true) {g o : Nat} {cells : Array Value} {ty : TypeId} (hg : w.heap[g]? = some (.cells cells ty (0, 0))) {v : Value} (hv : v.cells.size = ag.getD 1) (hl : o + ag.getD 1 ≤ cells.size) (h1 : ∀ u ∈ v.cells.toList, u.oneCell' = true) :
    (Instr.storeAt t (.pointer (some ⟨g, o, none⟩)) v).run P w = .ok () (w.setRow g (cells.toList.take o ++ v.cells.toList ++ cells.toList.drop (o + ag.getD 1)).toArray) := by
  obtain ⟨i, h2, h3⟩ := okAg_size hk
  have := run_storeCells_at P g o ty v.cells.toList 0 cells w hg (by simp [hv]; omega) h1
  simp only [Nat.add_zero, Array.length_toList, hv] at this
  simp [Instr.storeAt, Instr.sureAddr, storeVar, hv, sizeOf, typeInfo, h2, h3, this]

theorem seg_get {α : Type} (l vs : List α) (o k : Nat) (h : o + vs.length ≤ l.length) : (l.take o ++ vs ++ l.drop (o + vs.length))[k]? = if o ≤ k ∧ k < o + vs.length then vs[k - o]? else l[k]? := by
  by_cases h1 : k < o
  · rw [if_neg (by omega), List.append_assoc, List.getElem?_append_left (by simp; omega), List.getElem?_take, if_pos h1]
  · by_cases h2 : k < o + vs.length
    · rw [if_pos (by omega), List.append_assoc, List.getElem?_append_right (by simp; omega), List.getElem?_append_left (by simp; omega)]
      simp [show min o l.length = o by omega]
    · rw [if_neg (by omega), List.getElem?_append_right (by simp; omega), List.getElem?_drop]
      congr 1; simp; omega
theorem RelCs.all_one {qs : List Q} {us : Array Value} (h : RelCs w M qs us) : ∀ u ∈ us.toList, u.oneCell' = true := by
  intro u hu
  obtain ⟨i, hi⟩ := List.getElem?_of_mem hu
  have hlt : i < qs.length := by have := (List.getElem?_eq_some_iff.1 hi).1; simp at this; rw [← h.1]; exact this
  obtain ⟨u', h1, h2, _⟩ := h.2 i _ (List.getElem?_eq_getElem hlt)
  simp at hi h1
  rw [hi] at h1; cases h1; exact h2

/-- What a store leaves. -/
theorem put_cells {qs ys : List Q} {cells : Array Value} {v : Value} {o : Nat} (hq : RelCs w M qs cells) (hy : RelCs w M ys v.cells) (hl : o + ys.length ≤ qs.length) :
    RelCs w M (place qs o ys) (cells.toList.take o ++ v.cells.toList ++ cells.toList.drop (o + ys.length)).toArray := by
  have hvl : v.cells.toList.length = ys.length := by simpa using hy.1
  have hcl : cells.toList.length = qs.length := by simpa using hq.1
  refine ⟨by rw [place_len _ _ _ hl]; simp only [List.size_toArray, List.length_append, List.length_take, List.length_drop]; omega, fun i q hi => ?_⟩
  rw [place_get _ _ _ _ hl] at hi
  have hs := seg_get cells.toList v.cells.toList o i (by omega)
  rw [hvl] at hs
  simp only [List.getElem?_toArray]
  rw [hs]
  split at hi
  · rename_i hh
    rw [if_pos hh]
    obtain ⟨u, h1, h2⟩ := hy.2 _ q hi
    exact ⟨u, by simpa using h1, h2⟩
  · rename_i hh
    rw [if_neg hh]
    obtain ⟨u, h1, h2⟩ := hq.2 _ q hi
    exact ⟨u, by simpa using h1, h2⟩
theorem RelCs.ub (hu : Ub w M w' M') {qs : List Q} {us : Array Value} (h : RelCs w M qs us) : RelCs w' M' qs us :=
  ⟨h.1, fun i q hq => by obtain ⟨u, a1, a2, a3⟩ := h.2 i q hq; exact ⟨u, a1, a2, hu.q a3⟩⟩
theorem RelCs.up {Z : Nat → Prop} (hu : Up Z w M w' M') (hl : ∀ g, M.S g → g < w.heap.size) {qs : List Q} {us : Array Value} (h : RelCs w M qs us) : RelCs w' M' qs us :=
  ⟨h.1, fun i q hq => by obtain ⟨u, a1, a2, a3⟩ := h.2 i q hq; exact ⟨u, a1, a2, hu.q hl a3⟩⟩
theorem frozen_setRow (w : World) (g : Nat) (cs : Array Value) (a : Addr) : (w.setRow g cs).frozen? a = w.frozen? a := by
  by_cases h : a.block = g
  · subst h
    unfold World.frozen? World.setRow
    simp only [Array.getElem?_modify, if_true]
    cases w.heap[a.block]? with
    | none => rfl
    | some o => cases o <;> rfl
  · exact World.frozen?_of_block (setRow_other w g a.block cs h)
theorem up_setRow (hl : ∀ g, M.S g → g < w.heap.size) {g : Nat} {cs : Array Value} (hg : ¬ M.S g) : Up (fun k => k = g) w M (w.setRow g cs) M :=
  ⟨rfl, rfl, fun _ h => h, fun _ h => .inl h, fun k hk => by simpa using hl k hk, fun k hk e => hg (e ▸ hk), ⟨rfl, rfl, rfl, by simp, fun k _ hk => setRow_other w g k cs hk, frozen_setRow w g cs⟩⟩

def okApp (P : Program) (c : Call) (x y : XO) (sz bytes : Nat) : Bool := match c.callee, c.args.toList, c.argTypes.toList with
  | .builtin .append, [x', y'], [t, t'] => t == t' && okO x' x && okO y' y && (match P.underlying t with
      | some (.slice e) => (match P.info? e with
        | some i => i.size == sz && sz != 0 && i.bytes == bytes && bytes != 0 && (match i.zero with | some z => z.cells.size == sz | none => false)
        | none => false)
      | _ => false)
  | _, _, _ => false
def okClr (P : Program) (c : Call) (x : XO) (zs : List C) : Bool := match c.callee, c.args.toList, c.argTypes.toList with
  | .builtin .clear, [x'], [t] => okO x' x && (match P.underlying t with
      | some (.slice e) => (match P.info? e with
        | some i => (match i.zero with | some z => okVs z.cells.toList (zs.map .c) | none => false)
        | none => false)
      | _ => false)
  | _, _, _ => false
def okCpy (P : Program) (c : Call) (x y : XO) (sz : Nat) : Bool := match c.callee, c.args.toList, c.argTypes.toList with
  | .builtin .copy, [x', y'], [t, _] => okO x' x && okO y' y && (match P.underlying t with
      | some (.slice e) => (match P.info? e with
        | some i => i.size == sz && sz != 0
        | none => false)
      | _ => false)
  | _, _, _ => false
def okApn (P : Program) (c : Call) (x n : XO) (zs : List C) (bytes : Nat) : Bool := match c.callee, c.args.toList, c.argTypes.toList with
  | .builtin .append, [x', n'], [t, t'] => okO x' x && okO n' n && (match P.underlying t' with | some (.int _) => true | _ => false) && (match P.underlying t with
      | some (.slice e) => (match P.info? e with
        | some i => i.size == zs.length && i.bytes == bytes && (match i.zero with | some z => okVs z.cells.toList (zs.map .c) | none => false)
        | none => false)
      | _ => false)
  | _, _, _ => false
def chkE (P : Program) (o : Op) (k : XK) : Bool := match k with
  | .st x y ag => (match o with | .store t x' y' => okO x' x && okO y' y && okAg P t ag | _ => false)
  | .box y _ => (match o with | .box _ x => okO x y | _ => false)
  | .alloc zs => (match o with
    | .alloc t => (match P.info? t with
      | some i => (match i.zero with | some z => okVs z.cells.toList zs | none => false)
      | none => false)
    | _ => false)
  | .app x y sz bytes _ => (match o with | .call c => okApp P c x y sz bytes | _ => false)
  | .mk x zs bytes => (match o with
    | .makeSlice t l c => okO l x && okO c x && (match P.underlying t with
      | some (.slice e) => (match P.info? e with
        | some i => i.size == zs.length && i.bytes == bytes && (match i.zero with | some z => okVs z.cells.toList (zs.map .c) | none => false)
        | none => false)
      | _ => false)
    | _ => false)
  | .clr x zs => (match o with | .call c => okClr P c x zs | _ => false)
  | .apn x n zs bytes => (match o with | .call c => okApn P c x n zs bytes | _ => false)
  | .cpy x y sz => (match o with | .call c => okCpy P c x y sz | _ => false)
  | .bslx sz ps' => (match o with | .buildSlice t len ps => okBsl P t len ps sz ps' | _ => false)
  | .stx x y ag => (match o with | .store t x' y' => okO x' x && okO y' y && okAg P t ag | _ => false)
  | .appx x y sz bytes => (match o with | .call c => okApp P c x y sz bytes | _ => false)
  | .ldx x => (match o with | .load t x' => okO x' x && okAg P t none | _ => false)
  | .mkf f x => (match o with | .makeFunc (.func g) fi ca => (match fi.toList, ca.toList with | [], [y] => g == f && okO y x | _, _ => false) | _ => false)
  | _ => false

/-- A store into a private variable. -/
theorem st_box (hs : Sim X n B w0 σ a w M) {o : Oper} {t : TypeId} {x y : Operand} {x' y' : XO} {ag : Option Nat} (ho : o.op = .store t x y) (hd : o.dst = none) (hx : okO x x' = true) (hy : okO y y' = true) (hag : okAg P t ag = true)
    {g g' : Bool} {i off : Nat} {p : PV} (e1 : σ.v x' = (g, .q (.box i off))) (e2 : σ.v y' = (g', p)) {qs ys : List Q} (hq : get? i σ.bx = some qs) (hys : cellsOf p ag = some ys) (hg : g = true) (hg' : g' = true) (hl : off + ys.length ≤ qs.length)
    {next : Act → World → Prop} {Q : Exit → Act → World → Prop} (hn : ∀ w' M', Sim X n B w0 { σ with bx := upd i (place qs off ys) σ.bx } a w' M' → next a w') : o.wp P a w next Q := by
  have rx := okO_rel (o := x) (x := x') hs.tm hx (by rw [e1]; exact hg); rw [e1] at rx
  have ry := okO_rel (o := y) (x := y') hs.tm hy (by rw [e2]; exact hg'); rw [e2] at ry
  obtain ⟨hrel, hlen⟩ := cellsOf_rel ry hys
  have hin := get?_mem hq
  obtain ⟨hB, ty, cells, hh, hsz, hc⟩ := hs.mem.box i qs hin
  simp only [RelV, RelQ] at rx
  have hrun := store_run (w := w) hag hh (v := a.eval y) (o := off) (by rw [hrel.1, hlen]) (by omega) hrel.all_one
  have hu := up_setRow (M := M) hs.mem.lt (g := M.β i) (cs := (cells.toList.take off ++ (a.eval y).cells.toList ++ cells.toList.drop (off + ag.getD 1)).toArray) (hs.mem.sb i qs hin)
  unfold Oper.wp
  have hex : (execOp a.eval o).run P w = .ok .skip (w.setRow (M.β i) (cells.toList.take off ++ (a.eval y).cells.toList ++ cells.toList.drop (off + ag.getD 1)).toArray) := by
    unfold execOp; rw [ho]; simp only [rx, Sem.run_bind, hrun]; rfl
  rw [hex]
  show next (a.put o.dst undef) _
  rw [hd]
  refine hn _ M ⟨hs.size, hs.defs, fun t p h => hu.v hs.mem.lt (hs.tm t p h), ?_, hs.fr.trans (hu.fr.weak hs.hB (fun g hg e => ?_)), by simpa using hs.hB, hs.sS, hs.sβ, hs.sρ⟩
  · refine hs.mem.setBox hin hu (setRow_heap _ _ _ _ _ _ hh) ?_
    rw [← hlen] at hu ⊢
    exact (put_cells ⟨hsz, hc⟩ hrel hl).up hu hs.mem.lt
  · subst e
    rcases hB with h | h
    · omega
    · exact h
end
end Go.Proofs.Pw
namespace Go.Proofs.Pw
open Go.RowKit
set_option linter.unusedSectionVars false
variable [Globs]
section
variable {P : Program} {Γ : FuncId → Option Spec} {σ : St} {a : Act} {w w' : World} {M M' : Gh} {X : Nat → Prop} {B n : Nat} {w0 : W0}

theorem placeC_get (qs ys : List C) (o i : Nat) (h : o + ys.length ≤ qs.length) : (placeC qs o ys)[i]? = if o ≤ i ∧ i < o + ys.length then ys[i - o]? else qs[i]? := seg_get qs ys o i h
theorem placeC_len (qs ys : List C) (o : Nat) (h : o + ys.length ≤ qs.length) : (placeC qs o ys).length = qs.length := by unfold placeC; simp; omega

theorem row_part {sz i k j : Nat} (hj : j < sz) (hik : i ≠ k) : ∀ off len, off + len ≤ sz → ¬ (k * sz + off ≤ i * sz + j ∧ i * sz + j < k * sz + off + len) := by
  intro off len hl
  rcases Nat.lt_or_gt_of_ne hik with h | h
  · have := Nat.mul_le_mul_right sz (show i + 1 ≤ k by omega)
    rw [Nat.add_mul] at this; omega
  · have := Nat.mul_le_mul_right sz (show k + 1 ≤ i by omega)
    rw [Nat.add_mul] at this; omega
theorem row_fit {sz n k j : Nat} (hk : k < n) (hj : j < sz) : k * sz + j < n * sz := by
  have := Nat.mul_le_mul_right sz (show k + 1 ≤ n by omega)
  rw [Nat.add_mul] at this; omega

theorem FlatX.turn {S : Nat → Prop} {h : List (Nat × Nat) → Value} {D : Nat → Prop} {sz : Nat} {es es' : List (List C)} {us us' : List Value} (k : FlatX w S h D sz es us) (hl : es'.length = es.length) (hsz : ∀ (i : Nat) e, es'[i]? = some e → e.length = sz)
    (hus : us'.length = us.length) (hc : ∀ (i j : Nat) e c, es'[i]? = some e → e[j]? = some c → (∃ e0, es[i]? = some e0 ∧ e0[j]? = some c ∧ us'[i * sz + j]? = us[i * sz + j]?) ∨ ∃ u, us'[i * sz + j]? = some u ∧ Rep w S c u) : FlatX w S h D sz es' us' := by
  obtain ⟨h1, h2, ψ, h3, h4, h5⟩ := k
  refine ⟨hsz, by rw [hus, h2, hl], ψ, h3, h4, fun i j e c he hj => ?_⟩
  rcases hc i j e c he hj with ⟨e0, k1, k2, k3⟩ | ⟨u, k1, k2⟩
  · obtain ⟨u, k4, k5⟩ := h5 i j e0 c k1 k2
    exact ⟨u, by rw [k3]; exact k4, k5⟩
  · exact ⟨u, k1, .pl k2⟩
theorem st_row (hs : Sim X n B w0 σ a w M) {o : Oper} {t : TypeId} {x y : Operand} {x' y' : XO} {ag : Option Nat} (ho : o.op = .store t x y) (hd : o.dst = none) (hx : okO x x' = true) (hy : okO y y' = true) (hag : okAg P t ag = true)
    {g g' : Bool} {i sz k off : Nat} {p : PV} (e1 : σ.v x' = (g, .q (.rp i sz k off))) (e2 : σ.v y' = (g', p)) {es : List (List C)} {ys : List Q} {cs : List C} (hq : get? i σ.rw = some (sz, es)) (hys : cellsOf p ag = some ys) (hcs : allC ys = some cs)
    (hg : g = true) (hg' : g' = true) (hk : k < es.length) (hl : off + cs.length ≤ sz)
    {next : Act → World → Prop} {Q : Exit → Act → World → Prop} (hn : ∀ w' M', Sim X n B w0 { σ with rw := upd i (sz, es.set k (placeC (es.getD k []) off cs)) σ.rw } a w' M' → next a w') : o.wp P a w next Q := by
  have rx := okO_rel (o := x) (x := x') hs.tm hx (by rw [e1]; exact hg); rw [e1] at rx
  have ry := okO_rel (o := y) (x := y') hs.tm hy (by rw [e2]; exact hg'); rw [e2] at ry
  obtain ⟨hrel, hlen⟩ := cellsOf_rel ry hys
  obtain ⟨hc1, hc2⟩ := allC_rel hrel hcs
  have hcl : ys.length = cs.length := (allC_get hcs).1
  have hin := get?_mem hq
  obtain ⟨h0, hp, hmine⟩ := hs.mem.row i sz es hin
  obtain ⟨gg, nn, cap, hρ, hv⟩ := rx
  obtain ⟨e, us, hown, hf, hnD⟩ : ∃ e us, w.ownsRow 0 e sz (M.ρ i).v es.length us ∧ FlatX w M.S (M.ρ i).h (M.ρ i).D sz es us ∧ ∀ g, oblk (M.ρ i).v g → ¬ (M.ρ i).D g := by
    rcases hp.1 with h | ⟨rfl, _⟩
    · exact h
    · simp at hk
  have hf1 := hf.1
  have hf2 := hf.2.1
  rw [hρ] at hown
  obtain ⟨hul, hown⟩ := hown
  obtain ⟨gg', cap', cur, hh, _, hheap, hnc, hcm, hcs', htake⟩ := hown.resolve_left (fun h => by cases h.1)
  injection hh with h1 h2 h3
  injection h1 with h1
  injection h1 with h1
  subst h1 h2 h3
  have hel : es[k]? = some (es.getD k []) := by simp [List.getD, List.getElem?_eq_getElem hk]
  generalize es.getD k [] = ek at *
  have hesz := hf1 k _ hel
  have hfit : k * sz + off + cs.length ≤ es.length * sz := by
    have := Nat.mul_le_mul_right sz (show k + 1 ≤ es.length by omega)
    rw [Nat.add_mul] at this; omega
  have hnc' := Nat.mul_le_mul_right sz hnc
  have hgd : ag.getD 1 = cs.length := by omega
  have hrun := store_run (w := w) hag hheap (v := a.eval y) (o := k * sz + off) (by rw [hrel.1, hlen]) (by omega) hrel.all_one
  have hob : oblk (M.ρ i).v gg := by
    rw [hρ]
    cases cap with
    | zero => omega
    | succ c => simp [oblk]
  have hpb : pblk (M.ρ i) gg := .inl hob
  have hnS : ¬ M.S gg := hs.mem.sr i _ gg hin hpb
  have hu0 := up_setRow (M := M) hs.mem.lt (g := gg) (cs := (cur.toList.take (k * sz + off) ++ (a.eval y).cells.toList ++ cur.toList.drop (k * sz + off + ag.getD 1)).toArray) hnS
  generalize hw' : w.setRow gg (cur.toList.take (k * sz + off) ++ (a.eval y).cells.toList ++ cur.toList.drop (k * sz + off + ag.getD 1)).toArray = w' at *
  have hheap' : w'.heap[gg]? = some (.cells (cur.toList.take (k * sz + off) ++ (a.eval y).cells.toList ++ cur.toList.drop (k * sz + off + ag.getD 1)).toArray e (0, 0)) := by
    rw [← hw']; exact setRow_heap _ _ _ _ _ _ hheap
  have hu : Up (pblk (M.ρ i)) w M w' M := ⟨hu0.β, hu0.ρ, hu0.S, hu0.new, hu0.lt, fun k hk hp => hs.mem.sr i _ k hin hp hk, hu0.fr.weak (Nat.le_refl _) (fun k _ e => by rw [e]; exact hpb)⟩
  unfold Oper.wp
  have hex : (execOp a.eval o).run P w = .ok .skip w' := by
    unfold execOp; rw [ho]; simp only [hv, Sem.run_bind, hrun]; rfl
  rw [hex]
  show next (a.put o.dst undef) _
  rw [hd]
  refine hn _ M ⟨hs.size, hs.defs, fun t p h => hu.v hs.mem.lt (hs.tm t p h), ?_, hs.fr.trans (hu.fr.weak hs.hB (fun g hg e => ?_)), Nat.le_trans hs.hB hu.fr.size, hs.sS, hs.sβ, hs.sρ⟩
  · refine hs.mem.setRow hin hu h0 ⟨.inl ⟨e, (cur.toList.take (k * sz + off) ++ (a.eval y).cells.toList ++ cur.toList.drop (k * sz + off + ag.getD 1)).take (es.length * sz), ?_, ?_, hnD⟩, fun g hg => Nat.lt_of_lt_of_le (hp.2 g hg) hu.fr.size⟩
    · rw [hρ, List.length_set]
      refine ⟨?_, .inr ⟨gg, cap, _, rfl, Nat.zero_le _, hheap', hnc, hcm, ?_, by simp⟩⟩
      · have hvl : (a.eval y).cells.toList.length = cs.length := by simpa using hc1
        simp only [List.length_take, List.length_append, List.length_drop, Array.length_toList]; omega
      · have hvl : (a.eval y).cells.toList.length = cs.length := by simpa using hc1
        simp only [List.size_toArray, List.length_append, List.length_take, List.length_drop, Array.length_toList]; omega
    · have hvl : (a.eval y).cells.toList.length = cs.length := by simpa using hc1
      have hcurl : cur.toList.length = cap * sz := by simpa using hcs'
      have hseg := fun q => seg_get cur.toList (a.eval y).cells.toList (k * sz + off) q (by rw [hvl]; omega)
      rw [hvl] at hseg
      rw [hgd]
      have hold : ∀ q, q < es.length * sz → cur.toList[q]? = us[q]? := fun q hq => by
        rw [← htake, List.getElem?_take, if_pos hq]
      have hsame : ∀ g, g ≠ gg → w'.heap[g]? = w.heap[g]? := fun g hg => by rw [← hw']; exact setRow_other _ _ _ _ hg
      refine FlatX.move (w := w) (S := M.S) (fun _ h => h) (fun g hg => hsame g (fun e => hnS (e ▸ hg))) ?_ (fun g hg => hsame g (fun e => hnD _ hob (e ▸ hg)))
      refine hf.turn (by simp) (fun i' e' hi' => ?_) ?_ (fun i' j e' c hi' hj => ?_)
      · rw [List.getElem?_set] at hi'
        split at hi'
        · simp at hi'; subst hi'; rw [placeC_len _ _ _ (by rw [hesz]; exact hl)]; exact hesz
        · exact hf1 _ _ hi'
      · simp only [List.length_take, List.length_append, List.length_drop]; omega
      · rw [List.getElem?_set] at hi'
        split at hi'
        · rename_i heq; subst heq
          simp at hi'; subst hi'
          rw [placeC_get _ _ _ _ (by rw [hesz]; exact hl)] at hj
          split at hj
          · rename_i hh
            obtain ⟨u, g1, g2⟩ := hc2 _ c hj
            refine .inr ⟨u, ?_, g2⟩
            rw [List.getElem?_take, if_pos (by omega), hseg, if_pos (by omega)]
            rw [show k * sz + j - (k * sz + off) = j - off by omega]
            simpa using g1
          · rename_i hh
            have hjsz : j < sz := by have := (List.getElem?_eq_some_iff.1 hj).1; omega
            refine .inl ⟨_, hel, hj, ?_⟩
            have := row_fit hk hjsz
            rw [List.getElem?_take, if_pos (by omega), hseg, if_neg (by omega), hold _ (by omega)]
        · rename_i hne
          have hjsz : j < sz := by have := (List.getElem?_eq_some_iff.1 hj).1; rw [hf1 _ _ hi'] at this; exact this
          have hilt : i' < es.length := (List.getElem?_eq_some_iff.1 hi').1
          refine .inl ⟨_, hi', hj, ?_⟩
          have := row_fit hilt hjsz
          rw [List.getElem?_take, if_pos (by omega), hseg, if_neg (row_part hjsz (fun e => hne e.symm) off cs.length hl), hold _ (by omega)]
  · rcases hmine g e with h | h
    · omega
    · exact h
end
end Go.Proofs.Pw
namespace Go.Proofs.Pw
open Go.RowKit
set_option linter.unusedSectionVars false
variable [Globs]
section
variable {P : Program} {Γ : FuncId → Option Spec} {σ : St} {a : Act} {w w' : World} {M M' : Gh} {X : Nat → Prop} {B n : Nat} {w0 : W0}

theorem Sim.mapPut (hs : Sim X n B w0 σ a w M) {d : Nat} (hd : d < n) {f : Q → Q} (hf : ∀ q v, RelQ w M q v → RelQ w' M' (f q) v) {bx' : List (Nat × List Q)} {rw' : List (Nat × Nat × List (List C))}
    (hm : Mem X B bx' rw' w' M') (hfr : Fr X B w w') {p : PV} {v : Value} (hv : RelV w' M' p v) (hS : M'.S = M.S) (hβ : ∀ i, n ≤ i → M'.β i = M.β i) (hρ : ∀ i, n ≤ i → BASE ≤ i → (M'.ρ i).v = (M.ρ i).v) : Sim X n B w0 ⟨upd d p (σ.map f).tm, bx', rw'⟩ (a.put (some d) v) w' M' := by
  refine ⟨by simpa [Act.put] using hs.size, hs.defs, fun t p' h => ?_, hm, hs.fr.trans hfr, Nat.le_trans hs.hB hfr.size, fun g hg => hs.sS g (hS ▸ hg), fun i hi => (hβ i hi).trans (hs.sβ i hi), fun i hi hb => (hρ i hi hb).trans (hs.sρ i hi hb)⟩
  have hdn : d < a.tmps.size := by rw [hs.size]; exact hd
  rcases upd_mem h with ⟨rfl, rfl⟩ | ⟨hne, h⟩
  · simpa [Act.put, Array.getD, hdn] using hv
  · simp only [St.map, List.mem_map, Prod.mk.injEq] at h
    obtain ⟨⟨t', p0⟩, h1, rfl, rfl⟩ := h
    have he : (a.put (some d) v).tmps.getD t' undef = a.tmps.getD t' undef := by
      simp only [Act.put, Array.getD_eq_getD_getElem?, Array.getElem?_setIfInBounds]
      rw [if_neg (fun e => hne e.symm)]
    show RelV w' M' _ ((a.put (some d) v).tmps.getD t' undef)
    rw [he]; exact map_v hf (hs.tm _ _ h1)

theorem box_eff (hs : Sim X n B w0 σ a w M) {o : Oper} {d : Nat} (hd : o.dst = some d) (hdn : d < n) {cells : Array Value} {t : TypeId} {qs : List Q} (hr : RelCs w M qs cells)
    (hrun : (execOp a.eval o).run P w = .ok (.value (.pointer (some ⟨w.heap.size, 0, none⟩))) (w.alloc (.cells cells t)))
    {next : Act → World → Prop} {E : Exit → Act → World → Prop}
    (hn : ∀ a' w' M', Sim X n B w0 { tm := upd d (.q (.box d 0)) (σ.map (Q.killB d)).tm, bx := upd d (qs.map (Q.killB d)) (σ.map (Q.killB d)).bx, rw := σ.rw } a' w' M' → next a' w') : o.wp P a w next E := by
  refine upon_value hrun (hn _ _ (M.nb d w.heap.size) ?_)
  obtain ⟨h1, h2⟩ := hs.mem.newBox hs.hB d (t := t) hr
  rw [hd]
  refine hs.mapPut hdn (nb_q h2 hs.mem.lt) h1 (h2.fr.weak hs.hB (fun _ _ h => h.elim)) ?_ rfl (fun i hi => by simp only [Gh.nb]; rw [if_neg (by omega)]) (fun _ _ _ => rfl)
  simp only [RelV, RelQ, Gh.nb, if_true]

theorem pubB_q {i : Nat} {cs : List C} (hr : ∀ (o : Nat), RelQ w { M with S := fun g => M.S g ∨ g = M.β i } (.el (cs.drop o)) (.pointer (some ⟨M.β i, o, none⟩))) (q : Q) (v : Value) (h : RelQ w M q v) : RelQ w { M with S := fun g => M.S g ∨ g = M.β i } (q.pubB i cs) v := by
  have mono : ∀ {c v}, Rep w M.S c v → Rep w (fun g => M.S g ∨ g = M.β i) c v := fun h => h.mono (fun _ h => .inl h) (fun _ _ => rfl)
  cases q with
  | no => trivial
  | c x => exact mono h
  | z _ => exact h
  | full sz es => exact ⟨mono h.1, h.2⟩
  | own j => exact h
  | box j o =>
    simp only [Q.pubB]
    split
    · rename_i he; subst he
      have : v = .pointer (some ⟨M.β j, o, none⟩) := h
      subst this; exact hr o
    · exact h
  | el xs =>
    obtain ⟨A, h1, h2⟩ := h
    exact ⟨A, h1, fun j c hc => by obtain ⟨u, g1, g2, g3⟩ := h2 j c hc; exact ⟨u, g1, .inl g2, mono g3⟩⟩
  | rp j sz k o => exact h
  | nt _ => exact h
  | vw _ _ _ _ => exact h
  | vc _ _ _ _ _ => exact h
  | nr _ _ => exact h
  | np _ _ _ _ _ => exact h
theorem mkf_eff (hs : Sim X n B w0 σ a w M) {o : Oper} {d i : Nat} (hd : o.dst = some d) (hdn : d < n) {f : FuncId} {y : Operand} {qs : List Q} {cs : List C} (hq : get? i σ.bx = some qs) (hcs : allC qs = some cs)
    (hy : a.eval y = .pointer (some ⟨M.β i, 0, none⟩)) (ho : o.op = .makeFunc (.func f) #[] #[y])
    {next : Act → World → Prop} {E : Exit → Act → World → Prop}
    (hn : ∀ a' w' M', Sim X n B w0 { tm := upd d (.q (.c (.clo f [.ptr cs]))) (σ.map (Q.pubB i cs)).tm, bx := del i (σ.map (Q.pubB i cs)).bx, rw := σ.rw } a' w' M' → next a' w') : o.wp P a w next E := by
  have hin := get?_mem hq
  obtain ⟨hB, t, cells, h1, h2, h3⟩ := hs.mem.box i qs hin
  obtain ⟨h4, h5⟩ := allC_rel ⟨h2, h3⟩ hcs
  have hlt : M.β i < w.heap.size := (Array.getElem?_eq_some_iff.1 h1).1
  have mono : ∀ {c v}, Rep w M.S c v → Rep w (fun g => M.S g ∨ g = M.β i) c v := fun h => h.mono (fun _ h => .inl h) (fun _ _ => rfl)
  have hr : ∀ (o : Nat), RelQ w { M with S := fun g => M.S g ∨ g = M.β i } (.el (cs.drop o)) (.pointer (some ⟨M.β i, o, none⟩)) := fun o => by
    refine ⟨_, rfl, fun j c hj => ?_⟩
    rw [List.getElem?_drop] at hj
    obtain ⟨u, g1, g2⟩ := h5 _ c hj
    refine ⟨u, ?_, .inr rfl, mono g2⟩
    rw [Addr.add_lit]
    simp [World.cell?, h1, g1]
  have hq' := pubB_q (M := M) (w := w) hr
  have hbx : ∀ {i' q1}, (i', q1) ∈ del i (σ.map (Q.pubB i cs)).bx → i' ≠ i ∧ ∃ q, (i', q) ∈ σ.bx ∧ q1 = q.map (Q.pubB i cs) := fun {i' q1} h' => by
    obtain ⟨hne, h'⟩ := del_mem h'
    simp only [St.map, List.mem_map, Prod.mk.injEq] at h'
    obtain ⟨⟨j, q⟩, hj, rfl, rfl⟩ := h'
    exact ⟨hne, q, hj, rfl⟩
  have hmem : Mem X B (del i (σ.map (Q.pubB i cs)).bx) σ.rw w { M with S := fun g => M.S g ∨ g = M.β i } := by
    refine ⟨fun i' q1 h' => ?_, fun i' sz' es' h' => ?_, fun i' q1 j q2 h1 h2 hne => ?_, fun i' q1 j r h1 h2 hg => ?_, hs.mem.rr, fun g h => ?_, fun i' q1 h1 h => ?_, fun i' r g h1 hg h => ?_, fun j c hi => ?_⟩
    · obtain ⟨hne, q, hj, rfl⟩ := hbx h'
      obtain ⟨hB', t', cells', h1, h2, h3⟩ := hs.mem.box i' q hj
      exact ⟨hB', t', cells', h1, map_cs hq' ⟨h2, h3⟩⟩
    · obtain ⟨h1, h2, h3⟩ := hs.mem.row i' sz' es' h'
      exact ⟨h1, h2.move (fun _ h => .inl h) (fun _ _ => rfl) (fun _ _ => rfl), h3⟩
    · obtain ⟨_, q, hj, _⟩ := hbx h1; obtain ⟨_, q', hj', _⟩ := hbx h2
      exact hs.mem.bb _ _ _ _ hj hj' hne
    · obtain ⟨_, q, hj, _⟩ := hbx h1
      exact hs.mem.br _ _ _ _ hj h2 hg
    · rcases h with h | rfl
      · exact hs.mem.lt g h
      · exact hlt
    · obtain ⟨hne, q, hj, _⟩ := hbx h1
      rcases h with h | h
      · exact hs.mem.sb _ _ hj h
      · exact hs.mem.bb _ _ _ _ hj hin hne h
    · rcases h with h | rfl
      · exact hs.mem.sr _ _ g h1 hg h
      · exact hs.mem.br _ _ _ _ hin h1 hg
    · obtain ⟨k1, u, k2, k3⟩ := hs.mem.gl j c hi
      exact ⟨.inl k1, u, k2, mono k3⟩
  have hrun : (execOp a.eval o).run P w = .ok (.value (.func (.func f) #[] #[a.eval y])) w := by
    simp [execOp, ho, Instr.makeFunc]
  refine upon_value hrun (hn _ _ { M with S := fun g => M.S g ∨ g = M.β i } ?_)
  rw [hd]
  refine ⟨by simpa [Act.put] using hs.size, hs.defs, fun t p' h => ?_, hmem, hs.fr, hs.hB, fun g hg => ?_, hs.sβ, hs.sρ⟩
  · have hdn' : d < a.tmps.size := by rw [hs.size]; exact hdn
    rcases upd_mem h with ⟨rfl, rfl⟩ | ⟨hne, h⟩
    · have : (a.put (some t) (.func (.func f) #[] #[a.eval y])).tmps.getD t undef = .func (.func f) #[] #[a.eval y] := by simp [Act.put, Array.getD, hdn']
      rw [this]
      have hp := el_rep (hr 0)
      rw [List.drop_zero, ← hy] at hp
      exact Rep.clo f [.ptr cs] [a.eval y] (fun _ => a.eval y) rfl (fun j c hj => by cases j <;> simp_all) (fun j c hj => by
        cases j with
        | zero => simp at hj; subst hj; exact hp
        | succ j => simp at hj)
    · simp only [St.map, List.mem_map, Prod.mk.injEq] at h
      obtain ⟨⟨t', p0⟩, h1, rfl, rfl⟩ := h
      have he : (a.put (some d) (.func (.func f) #[] #[a.eval y])).tmps.getD t' undef = a.tmps.getD t' undef := by
        simp only [Act.put, Array.getD_eq_getD_getElem?, Array.getElem?_setIfInBounds]
        rw [if_neg (fun e => hne e.symm)]
      show RelV w _ _ ((a.put (some d) _).tmps.getD t' undef)
      rw [he]; exact map_v hq' (hs.tm _ _ h1)
  · rcases hg with h | rfl
    · exact hs.sS g h
    · exact .inr hB

theorem alloc_up (hl : ∀ g, M.S g → g < w.heap.size) (cc : Array Value) (tt : TypeId) : Up (fun _ => False) w M (w.alloc (.cells cc tt)) M :=
  ⟨rfl, rfl, fun _ h => h, fun _ h => .inl h, fun g hg => by simp; have := hl g hg; omega, fun _ _ h => h, ⟨rfl, rfl, rfl, by simp, fun k hk _ => Below.heap_alloc _ _ _ hk, frozen?_alloc_cells _ _ _⟩⟩

/-- The cells of a row that is read. -/
theorem rep_cells {sz : Nat} {es : List (List C)} {v : Value} (h : Rep w M.S (.row sz es) v) : ∃ A c, v = .slice A es.length c ∧ es.length ≤ c ∧ (es = [] ∨ ∃ ad us, A = some ad ∧ Flat w M.S sz es us ∧ (∀ j u, us[j]? = some u → w.cell? (ad.add j) = some u) ∧ ∀ u ∈ us, u.oneCell' = true) := by
  cases h with
  | nil _ A c => exact ⟨A, c, rfl, Nat.zero_le _, .inl rfl⟩
  | row _ _ ad c u hcap hS hsz hc hr =>
    refine ⟨some ad, c, rfl, hcap, .inr ⟨ad, (List.range (es.length * sz)).map u, rfl, ⟨hsz, by simp, fun i j e c he hj => ?_⟩, fun j uu hj => ?_, fun uu hu => ?_⟩⟩
    · have hlt : j < sz := by have := (List.getElem?_eq_some_iff.1 hj).1; rw [hsz i e he] at this; exact this
      have hilt : i < es.length := (List.getElem?_eq_some_iff.1 he).1
      have := row_fit hilt hlt
      exact ⟨u (i * sz + j), by simp [this], hr i j e c he hj⟩
    · simp only [List.getElem?_map, Option.map_eq_some_iff] at hj
      obtain ⟨j', hj', rfl⟩ := hj
      have hlt : j < es.length * sz := by have := (List.getElem?_eq_some_iff.1 hj').1; simpa using this
      simp [hlt] at hj'; subst hj'
      have h0 : 0 < sz := by rcases Nat.eq_zero_or_pos sz with h | h; · subst h; simp at hlt
                             · exact h
      have hi : j / sz < es.length := Nat.div_lt_of_lt_mul (by rw [Nat.mul_comm]; exact hlt)
      have he := List.getElem?_eq_getElem hi
      have hm : j % sz < (es[j / sz]).length := by rw [hsz _ _ he]; exact Nat.mod_lt _ h0
      have := hc (j / sz) (j % sz) _ _ he (List.getElem?_eq_getElem hm)
      rwa [show j / sz * sz + j % sz = j by rw [Nat.mul_comm]; exact Nat.div_add_mod j sz] at this
    · simp only [List.mem_map, List.mem_range] at hu
      obtain ⟨j, hlt, rfl⟩ := hu
      have h0 : 0 < sz := by rcases Nat.eq_zero_or_pos sz with h | h; · subst h; simp at hlt
                             · exact h
      have hi : j / sz < es.length := Nat.div_lt_of_lt_mul (by rw [Nat.mul_comm]; exact hlt)
      have he := List.getElem?_eq_getElem hi
      have hm : j % sz < (es[j / sz]).length := by rw [hsz _ _ he]; exact Nat.mod_lt _ h0
      have := (hr (j / sz) (j % sz) _ _ he (List.getElem?_eq_getElem hm)).one
      rwa [show j / sz * sz + j % sz = j by rw [Nat.mul_comm]; exact Nat.div_add_mod j sz] at this

/-- The same, said of a row. -/
def RowC (w : World) (S : Nat → Prop) (sz : Nat) (ys : List (List C)) (v : Value) : Prop :=
  ∃ A c, v = .slice A ys.length c ∧ ys.length ≤ c ∧ (ys = [] ∨ ∃ ad us, A = some ad ∧ Flat w S sz ys us ∧ (∀ j u, us[j]? = some u → w.cell? (ad.add j) = some u) ∧ ∀ u ∈ us, u.oneCell' = true)
theorem Flat.one {S : Nat → Prop} {sz : Nat} {es : List (List C)} {us : List Value} (h : Flat w S sz es us) : ∀ u ∈ us, u.oneCell' = true := by
  intro u hu
  obtain ⟨j, hj⟩ := List.getElem?_of_mem hu
  have hlt : j < es.length * sz := by rw [← h.2.1]; exact (List.getElem?_eq_some_iff.1 hj).1
  have h0 : 0 < sz := by rcases Nat.eq_zero_or_pos sz with h | h; · subst h; simp at hlt
                         · exact h
  have hi : j / sz < es.length := Nat.div_lt_of_lt_mul (by rw [Nat.mul_comm]; exact hlt)
  have he := List.getElem?_eq_getElem hi
  have hm : j % sz < (es[j / sz]).length := by rw [h.1 _ _ he]; exact Nat.mod_lt _ h0
  obtain ⟨u', h1, h2⟩ := h.2.2 _ _ _ _ he (List.getElem?_eq_getElem hm)
  rw [show j / sz * sz + j % sz = j by rw [Nat.mul_comm]; exact Nat.div_add_mod j sz, hj] at h1
  cases h1; exact h2.one
theorem Flat.part {S : Nat → Prop} {sz lo n : Nat} {es : List (List C)} {us : List Value} (h : Flat w S sz es us) (hl : lo + n ≤ es.length) : Flat w S sz ((es.take (lo + n)).drop lo) ((us.drop (lo * sz)).take (n * sz)) := by
  have hget : ∀ (i : Nat) e, ((es.take (lo + n)).drop lo)[i]? = some e → es[lo + i]? = some e ∧ i < n := fun i e hi => by
    rw [List.getElem?_drop, List.getElem?_take] at hi
    split at hi
    · exact ⟨hi, by omega⟩
    · cases hi
  have hm := Nat.mul_le_mul_right sz hl
  rw [Nat.add_mul] at hm
  have hul := h.2.1
  refine ⟨fun i e hi => h.1 _ e (hget i e hi).1, ?_, fun i j e c hi hj => ?_⟩
  · simp only [List.length_take, List.length_drop, hul]
    rw [show min (lo + n) es.length - lo = n by omega]; omega
  · obtain ⟨h1, h2⟩ := hget i e hi
    obtain ⟨u, h3, h4⟩ := h.2.2 _ j e c h1 hj
    have hjl : j < sz := by have := (List.getElem?_eq_some_iff.1 hj).1; rw [h.1 _ e h1] at this; exact this
    have := row_fit h2 hjl
    refine ⟨u, ?_, h4⟩
    rw [List.getElem?_take, if_pos (by omega), List.getElem?_drop, show lo * sz + (i * sz + j) = (lo + i) * sz + j by rw [Nat.add_mul]; omega]
    exact h3
theorem RowC.part {S : Nat → Prop} {sz lo n : Nat} {es : List (List C)} {A A' : Option Addr} {N c : Nat} (h : RowC w S sz es (.slice A N c)) (hl : lo + n ≤ es.length) (hA : lo < c → A' = A.map fun a => a.add (lo * sz)) :
    RowC w S sz ((es.take (lo + n)).drop lo) (.slice A' n (c - lo)) := by
  obtain ⟨A0, c0, h1, h2, h3⟩ := h
  cases h1
  have hlen : ((es.take (lo + n)).drop lo).length = n := by simp; omega
  refine ⟨A', c - lo, by rw [hlen], by omega, ?_⟩
  rcases Nat.eq_zero_or_pos n with hn | hn
  · exact .inl (List.eq_nil_of_length_eq_zero (by omega))
  · rcases h3 with h3 | ⟨ad, us, rfl, h4, h5, h6⟩
    · subst h3; simp at hl; omega
    · refine .inr ⟨ad.add (lo * sz), _, hA (by omega), h4.part hl, fun j u hj => ?_, (h4.part hl).one⟩
      rw [List.getElem?_take] at hj
      split at hj
      · rw [List.getElem?_drop] at hj
        rw [add_add]; exact h5 _ u hj
      · cases hj
theorem priv_rowC {S : Nat → Prop} {sz : Nat} {es : List (List C)} {v : Value} (h : PrivV w S sz es v) : RowC w S sz es v := by
  rcases h with ⟨e, us, h1, h2⟩ | ⟨rfl, A, rfl⟩
  · rcases h1.2 with ⟨rfl, h3⟩ | ⟨g, cap, cur, rfl, _, _, h3, _⟩
    · have := List.eq_nil_of_length_eq_zero h3
      subst this
      exact ⟨none, 0, rfl, Nat.le_refl _, .inl rfl⟩
    · exact ⟨_, _, rfl, h3, .inr ⟨_, us, rfl, h2, h1.cells rfl, h2.one⟩⟩
  · exact ⟨A, 0, rfl, Nat.le_refl _, .inl rfl⟩
theorem rowB_rel (mem : Mem X B σ.bx σ.rw w M) {p : PV} {v : Value} {sz : Nat} {es : List (List C)} (h : RelV w M p v) (hr : p.rowB σ = some (sz, es)) : RowC w M.S sz es v := by
  unfold PV.rowB at hr
  split at hr
  · rename_i r
    split at hr
    · rename_i sz1 es1 hq
      split at hr
      · rename_i hpl
        simp only [Option.some.injEq, Prod.mk.injEq] at hr
        obtain ⟨rfl, rfl⟩ := hr
        obtain ⟨_, hp, _⟩ := mem.row r _ _ (get?_mem hq)
        rw [h.1]; exact priv_rowC (hp.pl hpl)
      · cases hr
    · cases hr
  · rename_i r sz0 lo n
    split at hr
    · rename_i sz1 es1 hq
      split at hr
      · rename_i hl
        obtain ⟨hl, rfl, hpl⟩ := hl
        simp only [Option.some.injEq, Prod.mk.injEq] at hr
        obtain ⟨rfl, rfl⟩ := hr
        obtain ⟨_, hp, _⟩ := mem.row r _ es1 (get?_mem hq)
        obtain ⟨A, m, c, A', hρ, hc, rfl, hA⟩ := h
        have hp := hp.pl hpl
        rw [hρ] at hp
        exact (priv_rowC hp).part hl hA
      · cases hr
    · cases hr
  · exact rep_cells (row_rel h hr)
theorem Flat.append {S : Nat → Prop} {sz : Nat} {es ys : List (List C)} {us vs : List Value} (h : Flat w S sz es us) (k : Flat w S sz ys vs) : Flat w S sz (es ++ ys) (us ++ vs) := by
  refine ⟨fun i e hi => ?_, by rw [List.length_append, List.length_append, h.2.1, k.2.1, Nat.add_mul], fun i j e c hi hj => ?_⟩
  · by_cases hlt : i < es.length
    · rw [List.getElem?_append_left hlt] at hi; exact h.1 i e hi
    · rw [List.getElem?_append_right (by omega)] at hi; exact k.1 _ e hi
  · by_cases hlt : i < es.length
    · rw [List.getElem?_append_left hlt] at hi
      obtain ⟨u, h1, h2⟩ := h.2.2 i j e c hi hj
      exact ⟨u, by rw [List.getElem?_append_left (List.getElem?_eq_some_iff.1 h1).1]; exact h1, h2⟩
    · rw [List.getElem?_append_right (by omega)] at hi
      obtain ⟨u, h1, h2⟩ := k.2.2 _ j e c hi hj
      refine ⟨u, ?_, h2⟩
      have e1 : i * sz = es.length * sz + (i - es.length) * sz := by rw [← Nat.add_mul]; congr 1; omega
      rw [List.getElem?_append_right (by rw [h.2.1]; omega), h.2.1, show i * sz + j - es.length * sz = (i - es.length) * sz + j by omega]
      exact h1
theorem FlatX.append {S : Nat → Prop} {h : List (Nat × Nat) → Value} {D : Nat → Prop} {sz : Nat} {es ys : List (List C)} {us vs : List Value} (k : FlatX w S h D sz es us) (k' : Flat w S sz ys vs) : FlatX w S h D sz (es ++ ys) (us ++ vs) := by
  obtain ⟨h1, h2, ψ, h3, h4, h5⟩ := k
  refine ⟨fun i e hi => ?_, by rw [List.length_append, List.length_append, h2, k'.2.1, Nat.add_mul], ψ, h3, h4, fun i j e c hi hj => ?_⟩
  · by_cases hlt : i < es.length
    · rw [List.getElem?_append_left hlt] at hi; exact h1 i e hi
    · rw [List.getElem?_append_right (by omega)] at hi; exact k'.1 _ e hi
  · by_cases hlt : i < es.length
    · rw [List.getElem?_append_left hlt] at hi
      obtain ⟨u, g1, g2⟩ := h5 i j e c hi hj
      exact ⟨u, by rw [List.getElem?_append_left (List.getElem?_eq_some_iff.1 g1).1]; exact g1, g2⟩
    · rw [List.getElem?_append_right (by omega)] at hi
      obtain ⟨u, g1, g2⟩ := k'.2.2 _ j e c hi hj
      refine ⟨u, ?_, .pl g2⟩
      have e1 : i * sz = es.length * sz + (i - es.length) * sz := by rw [← Nat.add_mul]; congr 1; omega
      rw [List.getElem?_append_right (by rw [h2]; omega), h2, show i * sz + j - es.length * sz = (i - es.length) * sz + j by omega]
      exact g1
theorem FlatX.take {S : Nat → Prop} {h : List (Nat × Nat) → Value} {D : Nat → Prop} {sz n : Nat} {es : List (List C)} {us : List Value} (k : FlatX w S h D sz es us) (hn : n ≤ es.length) : FlatX w S h D sz (es.take n) (us.take (n * sz)) := by
  obtain ⟨h1, h2, ψ, h3, h4, h5⟩ := k
  have hsz : ∀ (i : Nat) e, (es.take n)[i]? = some e → i < n ∧ es[i]? = some e := fun i e he => by
    rw [List.getElem?_take] at he
    split at he
    · rename_i hi; exact ⟨hi, he⟩
    · cases he
  refine ⟨fun i e he => h1 i e (hsz i e he).2, ?_, ψ, h3, h4, fun i j e c he hj => ?_⟩
  · have := Nat.mul_le_mul_right sz hn
    rw [List.length_take, List.length_take, h2, Nat.min_eq_left hn]; omega
  · obtain ⟨hi, he⟩ := hsz i e he
    obtain ⟨u, g1, g2⟩ := h5 i j e c he hj
    have hjs : j < sz := by have := (List.getElem?_eq_some_iff.1 hj).1; rw [h1 i e he] at this; exact this
    exact ⟨u, by rw [List.getElem?_take, if_pos (row_fit hi hjs)]; exact g1, g2⟩
/-- Another header. -/
def RV.hd (r : RV) (v : Value) : RV := ⟨fun π => if π = [] then v else r.h π, r.D⟩
@[simp] theorem RV.hd_v (r : RV) (v : Value) : (r.hd v).v = v := by simp [RV.hd, RV.v]
@[simp] theorem RV.hd_D (r : RV) (v : Value) : (r.hd v).D = r.D := rfl
theorem FlatX.hd {S : Nat → Prop} {r : RV} {v : Value} {sz : Nat} {es : List (List C)} {us : List Value} (k : FlatX w S r.h r.D sz es us) : FlatX w S (r.hd v).h (r.hd v).D sz es us := by
  have e : ∀ i j, (fun π => (r.hd v).h ((i, j) :: π)) = fun π => r.h ((i, j) :: π) := fun i j => by funext π; simp [RV.hd]
  obtain ⟨h1, h2, ψ, h3, h4, h5⟩ := k
  exact ⟨h1, h2, ψ, h3, h4, fun i j e' c he hj => by rw [e]; exact h5 i j e' c he hj⟩
theorem pblk_hd {r : RV} {v : Value} {g : Nat} : pblk (r.hd v) g ↔ oblk v g ∨ r.D g := by simp [pblk]
theorem Flat.nil {S : Nat → Prop} {sz : Nat} : Flat w S sz [] [] := ⟨by simp, by simp, by simp⟩

/-- A row in a new block. -/
theorem grown_priv {S : Nat → Prop} {sz : Nat} {es ys : List (List C)} {olds news : List Value} {r : RV} (h : FlatX w S r.h r.D sz es olds) (k : Flat w S sz ys news) (hl : ∀ g, S g → g < w.heap.size) (hD : ∀ g, r.D g → g < w.heap.size) {z : Value} (hz : z.cells.size = sz) {e : TypeId} {cap : Nat}
    (h1 : es.length + ys.length ≤ cap) (h2 : cap ≤ maxLen) :
    Priv (w.drew.alloc (.cells (olds.toArray ++ news.toArray ++ Builtin.zeroCells z.cells (cap - (es.length + ys.length))) e)) S sz (es ++ ys) (r.hd (.slice (some ⟨w.heap.size, 0, none⟩) (es.length + ys.length) cap)) := by
  have hm : ∀ g, g < w.heap.size → (w.drew.alloc (.cells (olds.toArray ++ news.toArray ++ Builtin.zeroCells z.cells (cap - (es.length + ys.length))) e)).heap[g]? = w.heap[g]? := fun g hg => Below.heap_alloc w.drew _ g (by simpa using hg)
  refine ⟨.inl ⟨e, olds ++ news, ⟨by rw [List.length_append, List.length_append, h.2.1, k.2.1, Nat.add_mul], .inr ⟨w.heap.size, cap, _, by rw [List.length_append, RV.hd_v], Nat.zero_le _, heap_alloc_new w.drew _, by rw [List.length_append]; exact h1, h2, ?_, ?_⟩⟩, (h.append k).hd.move (fun _ h => h) (fun g hg => hm g (hl g hg)) (fun g hg => hm g (hD g hg)), fun g hg hD' => ?_⟩, fun g hg => lt_keep (hD g hg) (hm g (hD g hg))⟩
  · simp only [Array.size_append, List.size_toArray, size_zeroCells, h.2.1, k.2.1, hz]
    rw [← Nat.add_mul, ← Nat.add_mul]; congr 1; omega
  · simp only [Array.toList_append, List.length_append]
    rw [List.take_append_of_le_length (by simp [h.2.1, k.2.1, Nat.add_mul])]
    exact List.take_of_length_le (by simp [h.2.1, k.2.1, Nat.add_mul])
  · have := hD g hD'
    rw [RV.hd_v] at hg
    cases cap <;> simp [oblk] at hg; omega
theorem RV.of_hd (v : Value) : (RV.of v).hd v = RV.of v := by simp [RV.of, RV.hd]

theorem append_nil_run {t ty e : TypeId} {ti : TypeInfo} (ht : P.underlying t = some (.slice e)) (hi : P.info? e = some ti) {A A' : Option Addr} {m c c' : Nat} (hm : m ≤ c) :
    (Builtin.append_ #[t, t] ty #[.slice A m c, .slice A' 0 c']).run P w = .ok (.slice A m c) w := by
  cases A <;> cases A' <;> simp [Builtin.append_, run_underlying ht, sizeOf, typeInfo, hi, Builtin.lenOf, Builtin.firstCells, hm, storeCells, loadCells, loadCellsFrom]

/-- What an append leaves: of a slice whose capacity is its length. -/
theorem append_full {t ty e : TypeId} {ti : TypeInfo} {z : Value} {sz bytes : Nat} (ht : P.underlying t = some (.slice e)) (hi : P.info? e = some ti) (hsz : ti.size = sz) (hby : ti.bytes = bytes) (hz : ti.zero = some z) (hzs : z.cells.size = sz)
    (hl : ∀ g, M.S g → g < w.heap.size) {A : Option Addr} {vy : Value} {es ys : List (List C)} (hy : RowC w M.S sz ys vy) (hb : (es.length + ys.length) * bytes ≤ 140737488355328) (hmx : es.length + ys.length ≤ 9223372036854775807)
    (ho : es = [] ∨ Rep w M.S (.row sz es) (.slice A es.length es.length)) (hne : es = [] ∨ 0 < ys.length) :
    ∃ v' w', (Builtin.append_ #[t, t] ty #[.slice A es.length es.length, vy]).run P w = .ok v' w' ∧ Priv w' M.S sz (es ++ ys) (RV.of v') ∧ Fr (fun _ => False) w.heap.size w w' ∧ (∀ g, oblk v' g → w.heap.size ≤ g) := by
  obtain ⟨A', c', rfl, hcy, hy⟩ := hy
  by_cases hys : ys = []
  · subst hys
    have hes : es = [] := by rcases hne with h | h; · exact h
                             · simp at h
    subst hes
    exact ⟨_, w, append_nil_run ht hi (Nat.le_refl _), ⟨.inr ⟨rfl, A, rfl⟩, fun _ h => h.elim⟩, Fr.refl _ _ _, fun g hg => by cases A <;> simp [oblk] at hg⟩
  · obtain ⟨ad, us, rfl, hf, hcell, _⟩ := hy.resolve_left hys
    have hpos : 0 < ys.length := by cases ys with
      | nil => exact absurd rfl hys
      | cons _ _ => simp
    have hgc := grownCap_ge w (es.length + ys.length) es.length e
    have hgm := grownCap_le_maxLen w (es.length + ys.length) es.length e (by simp only [maxLen]; omega)
    have hfr : ∀ cc tt, Fr (fun _ => False) w.heap.size w (w.drew.alloc (.cells cc tt)) := fun cc tt => ⟨rfl, rfl, rfl, by simp, fun k hk _ => Below.heap_alloc w.drew _ k (by simpa using hk), fun a => frozen?_alloc_cells w.drew _ _ a⟩
    have hpb : ∀ n c g, oblk (.slice (some ⟨w.heap.size, 0, none⟩) n c) g → w.heap.size ≤ g := fun n c g hg => by
      cases c <;> simp [oblk] at hg; omega
    have h63 : ((es.length + ys.length : Nat) : Int) ≤ 9223372036854775807 := by omega
    have hfit := growslice_fits (need := es.length + ys.length) (old := es.length) (bytes := ti.bytes) (by omega) (by rw [hby]; exact hb)
    by_cases hA : A = none ∧ es = []
    · obtain ⟨rfl, rfl⟩ := hA
      simp only [List.length_nil, Nat.zero_add] at *
      have hr := run_append_nil (P := P) w t ty e ti z ht hi hz ad ys.length c' us (by rw [hf.2.1, hsz]) hcell hpos h63 (by rw [hby]; omega)
      have hg := grown_priv (w := w) (S := M.S) (e := e) (r := RV.of (.slice (some ⟨w.heap.size, 0, none⟩) ys.length (grownCap w ys.length 0 e))) (Flat.nil (w := w) (S := M.S) (sz := sz)).x hf hl (fun _ h => h.elim) hzs (cap := grownCap w ys.length 0 e) (by simpa using hgc) hgm
      simp only [List.nil_append, List.length_nil, Nat.zero_add, RV.of_hd] at hg
      refine ⟨_, _, hr, ?_, hfr _ _, hpb _ _⟩
      simpa using hg
    · obtain ⟨b, olds, rfl, hfo, hco⟩ : ∃ b olds, A = some b ∧ Flat w M.S sz es olds ∧ ∀ j u, olds[j]? = some u → w.cell? (b.add j) = some u := by
        rcases ho with he | ho
        · subst he
          cases A with
          | none => exact absurd ⟨rfl, rfl⟩ hA
          | some b => exact ⟨b, [], rfl, Flat.nil, by simp⟩
        · obtain ⟨A2, c2, he, _, h2⟩ := rep_cells ho
          injection he with e1 _ e3
          rcases h2 with h2 | ⟨b, olds, h3, h4, h5, _⟩
          · subst h2
            cases A with
            | none => exact absurd ⟨rfl, rfl⟩ hA
            | some b => exact ⟨b, [], rfl, Flat.nil, by simp⟩
          · exact ⟨b, olds, e1.trans h3, h4, h5⟩
      have hr := run_append_grow (P := P) w t ty e ti z ht hi hz b es.length es.length olds (by rw [hfo.2.1, hsz]) hco ad ys.length c' us (by rw [hf.2.1, hsz]) hcell (by omega) h63 hfit
      refine ⟨_, _, hr, ?_, hfr _ _, hpb _ _⟩
      rw [← RV.of_hd]
      exact grown_priv (r := RV.of (.slice (some ⟨w.heap.size, 0, none⟩) (es.length + ys.length) (grownCap w (es.length + ys.length) es.length e))) hfo.x hf hl (fun _ h => False.elim h) hzs hgc hgm

theorem append_room {t ty e e' : TypeId} {i : TypeInfo} (ht : P.underlying t = some (.slice e)) (hi : P.info? e = some i)
    {g sLen sCap : Nat} {cur : Array Value} (hg : w.heap[g]? = some (.cells cur e' (0, 0)))
    {b : Addr} {m c : Nat} {news : List Value} (hl : news.length = m * i.size) (hnews : ∀ j u, news[j]? = some u → w.cell? (b.add j) = some u) (h1 : ∀ u ∈ news, u.oneCell' = true)
    (hroom : sLen + m ≤ sCap) (hfit : sLen * i.size + news.length ≤ cur.size) :
    (Builtin.append_ #[t, t] ty #[.slice (some ⟨g, 0, none⟩) sLen sCap, .slice (some b) m c]).run P w =
      .ok (.slice (some ⟨g, 0, none⟩) (sLen + m) sCap) (w.setRow g (cur.toList.take (sLen * i.size) ++ news ++ cur.toList.drop (sLen * i.size + news.length)).toArray) := by
  have hf := run_firstCells_some (P := P) w i.size m b m c news hl hnews
  have hst := run_storeCells_at P g (sLen * i.size) e' news 0 cur w hg (by simpa using hfit) h1
  simp only [Nat.add_zero] at hst
  simp [Builtin.append_, run_underlying ht, sizeOf, typeInfo, hi, Builtin.lenOf, hroom, hf, Addr.add_lit, hst]

/-- What an append leaves: of a private row. -/
theorem append_own {t ty e : TypeId} {ti : TypeInfo} {z : Value} {sz bytes : Nat} (ht : P.underlying t = some (.slice e)) (hi : P.info? e = some ti) (hsz : ti.size = sz) (hby : ti.bytes = bytes) (hz : ti.zero = some z) (hzs : z.cells.size = sz)
    (hl : ∀ g, M.S g → g < w.heap.size) {vo : RV} {vy : Value} {es ys : List (List C)} (hy : RowC w M.S sz ys vy) (hb : (es.length + ys.length) * bytes ≤ 140737488355328) (hmx : es.length + ys.length ≤ 9223372036854775807)
    (ho : Priv w M.S sz es vo) (hS : ∀ g, pblk vo g → ¬ M.S g) :
    ∃ (v' : RV) (w' : World), (Builtin.append_ #[t, t] ty #[vo.v, vy]).run P w = .ok v'.v w' ∧ Priv w' M.S sz (es ++ ys) v' ∧ Fr (pblk vo) w.heap.size w w' ∧ (∀ g, pblk v' g → w.heap.size ≤ g ∨ pblk vo g) := by
  have zero : ∀ A, es = [] → vo.v = .slice A 0 0 → ∃ (v' : RV) (w' : World), (Builtin.append_ #[t, t] ty #[vo.v, vy]).run P w = .ok v'.v w' ∧ Priv w' M.S sz (es ++ ys) v' ∧ Fr (pblk vo) w.heap.size w w' ∧ (∀ g, pblk v' g → w.heap.size ≤ g ∨ pblk vo g) := by
    intro A he hv
    subst he
    rw [hv]
    obtain ⟨v', w', h1, h2, h3, h4⟩ := append_full (es := []) (A := A) ht hi hsz hby hz hzs hl hy hb hmx (.inl rfl) (.inl rfl)
    exact ⟨RV.of v', w', h1, h2, h3.weak (Nat.le_refl _) (fun _ _ h => h.elim), fun g hg => .inl (h4 g (by simpa using hg))⟩
  have hDl := ho.2
  rcases ho.1 with ⟨e', olds, hown, hfo, hnD⟩ | ⟨he, A, hv⟩
  · rcases hown.2 with ⟨hv, h0⟩ | ⟨g, cap, cur, hv, _, hheap, hnc, hcm, hcs, htake⟩
    · exact zero none (List.eq_nil_of_length_eq_zero h0) hv
    · cases cap with
      | zero => exact zero _ (List.eq_nil_of_length_eq_zero (by omega)) (by rw [hv, show es.length = 0 by omega])
      | succ cap =>
        have hco : ∀ j u, olds[j]? = some u → w.cell? ((⟨g, 0, none⟩ : Addr).add j) = some u := hown.cells (by rw [hv]; rfl)
        have hob : oblk vo.v g := by rw [hv]; simp [oblk]
        obtain ⟨A', c', rfl, hcy, hy⟩ := hy
        by_cases hys : ys = []
        · subst hys
          refine ⟨vo, w, by rw [hv]; exact append_nil_run ht hi hnc, ?_, Fr.refl _ _ _, fun g' hg => .inr hg⟩
          rw [List.append_nil]; exact ho
        · obtain ⟨ad, us, rfl, hf, hcell, hone⟩ := hy.resolve_left hys
          have hpos : 0 < ys.length := by cases ys with
            | nil => exact absurd rfl hys
            | cons _ _ => simp
          by_cases hroom : es.length + ys.length ≤ cap + 1
          · have hmul := Nat.mul_le_mul_right sz hroom
            rw [Nat.add_mul] at hmul
            have hr := append_room (P := P) (ty := ty) ht hi hheap (m := ys.length) (c := c') (by rw [hf.2.1, hsz]) hcell hone hroom (by rw [hsz, hf.2.1, hcs]; omega)
            rw [hsz, hf.2.1] at hr
            have hnS : ¬ M.S g := hS g (.inl hob)
            have hsame : ∀ g', g' ≠ g → (w.setRow g (cur.toList.take (es.length * sz) ++ us ++ cur.toList.drop (es.length * sz + ys.length * sz)).toArray).heap[g']? = w.heap[g']? := fun g' hg' => setRow_other w g g' _ hg'
            have hd' : ∀ g', vo.D g' → g' ≠ g := fun g' hg' e => hnD _ hob (e ▸ hg')
            refine ⟨vo.hd (.slice (some ⟨g, 0, none⟩) (es.length + ys.length) (cap + 1)), _, by rw [hv, RV.hd_v]; exact hr, ⟨.inl ⟨e', olds ++ us, ⟨by rw [List.length_append, List.length_append, hfo.2.1, hf.2.1, Nat.add_mul], .inr ⟨g, cap + 1, _, by rw [List.length_append, RV.hd_v], Nat.zero_le _, setRow_heap _ _ _ _ _ _ hheap, by rw [List.length_append]; exact hroom, hcm, ?_, ?_⟩⟩,
              (hfo.append hf).hd.move (fun _ k => k) (fun g' hg' => hsame g' (fun e => hnS (e ▸ hg'))) (fun g' hg' => hsame g' (hd' g' hg')), fun g' hg' hD' => hd' g' hD' (by rw [RV.hd_v] at hg'; simp [oblk] at hg'; exact hg'.symm)⟩, fun g' hg' => lt_keep (hDl g' hg') (hsame g' (hd' g' hg'))⟩,
              ⟨rfl, rfl, rfl, by simp, fun k _ hk => setRow_other w g k _ (fun e => hk (by rw [e]; exact .inl hob)), frozen_setRow w g _⟩, fun g' hg => .inr ?_⟩
            · have := hf.2.1
              simp only [List.size_toArray, List.length_append, List.length_take, List.length_drop, Array.length_toList]; omega
            · rw [List.length_append, Nat.add_mul, htake]
              have h1 := hfo.2.1; have h2 := hf.2.1
              rw [List.take_append_of_le_length (by rw [List.length_append, h1, h2]; omega)]
              exact List.take_of_length_le (by rw [List.length_append, h1, h2]; omega)
            · rcases pblk_hd.1 hg with hg | hg
              · simp [oblk] at hg; subst hg; exact .inl hob
              · exact .inr hg
          · have hgc := grownCap_ge w (es.length + ys.length) (cap + 1) e
            have hgm := grownCap_le_maxLen w (es.length + ys.length) (cap + 1) e (by simp only [maxLen]; omega)
            have h63 : ((es.length + ys.length : Nat) : Int) ≤ 9223372036854775807 := by omega
            have hfit := growslice_fits (need := es.length + ys.length) (old := cap + 1) (bytes := ti.bytes) (by omega) (by rw [hby]; exact hb)
            have hr := run_append_grow (P := P) w t ty e ti z ht hi hz ⟨g, 0, none⟩ es.length (cap + 1) olds (by rw [hfo.2.1, hsz]) hco ad ys.length c' us (by rw [hf.2.1, hsz]) hcell (by omega) h63 hfit
            refine ⟨_, _, by rw [hv, RV.hd_v]; exact hr, grown_priv hfo hf hl hDl hzs hgc hgm, ⟨rfl, rfl, rfl, by simp, fun k hk _ => Below.heap_alloc w.drew _ k (by simpa using hk), fun a => frozen?_alloc_cells w.drew _ _ a⟩, fun g' hg => ?_⟩
            rcases pblk_hd.1 hg with hg | hg
            · generalize grownCap w (es.length + ys.length) (cap + 1) e = cc at hg
              cases cc <;> simp [oblk] at hg; exact .inl (by omega)
            · exact .inr (.inr hg)
  · exact zero A he hv
end
end Go.Proofs.Pw
/- All operations that write, in one theorem. -/
namespace Go.Proofs.Pw
open Go.RowKit
set_option linter.unusedSectionVars false
variable [Globs]
section
variable {P : Program} {Γ : FuncId → Option Spec} {σ : St} {a : Act} {w w' : World} {M M' : Gh} {X : Nat → Prop} {B n : Nat} {w0 : W0}

/-- A row takes the place of another one, or is new. -/
theorem row_eff (hs : Sim X n B w0 σ a w M) {o : Oper} {d r sz : Nat} (hd : o.dst = some d) (hdn : d < n) {es : List (List C)} {v' : RV} {w' : World} {Z : Nat → Prop} (h0 : 0 < sz)
    (hrun : (execOp a.eval o).run P w = .ok (.value v'.v) w') (hp : Priv w' M.S sz es v') (hfr : Fr Z w.heap.size w w') (hz : ∀ g, Z g → ∃ x, (r, x) ∈ σ.rw ∧ pblk (M.ρ r) g)
    (hb : ∀ g, pblk v' g → w.heap.size ≤ g ∨ ∃ x, (r, x) ∈ σ.rw ∧ pblk (M.ρ r) g) (hrn : r < n ∨ r < BASE)
    {next : Act → World → Prop} {E : Exit → Act → World → Prop}
    (hn : ∀ a' w' M', Sim X n B w0 { tm := upd d (.q (.own r)) (σ.map (Q.killO r)).tm, bx := (σ.map (Q.killO r)).bx, rw := upd r (sz, es) σ.rw } a' w' M' → next a' w') : o.wp P a w next E := by
  have hu : Up Z w M w' M := ⟨rfl, rfl, fun _ h => h, fun _ h => .inl h, fun g hg => Nat.lt_of_lt_of_le (hs.mem.lt g hg) hfr.size, fun g hg hZ => by obtain ⟨x, hx, hg'⟩ := hz g hZ; exact hs.mem.sr _ _ g hx hg' hg, hfr⟩
  refine upon_value hrun (hn _ _ (M.nr r v') ?_)
  rw [hd]
  refine hs.mapPut hdn (nr_q hu hs.mem.lt) (hs.mem.newRow hs.hB h0 hu hz hp hb) (hfr.weak hs.hB (fun g hg hZ => ?_)) ?_ rfl (fun _ _ => rfl) ?_
  · obtain ⟨⟨sz', es'⟩, hx, hg'⟩ := hz g hZ
    rcases (hs.mem.row _ sz' es' hx).2.2 g hg' with h | h
    · omega
    · exact h
  rotate_left
  · intro i hi hbi; simp only [Gh.nr]; rw [if_neg (by omega)]
  · simp only [RelV, RelQ, Gh.nr, if_true]
    refine ⟨trivial, ?_⟩
    rcases hp.1 with ⟨_, _, h, _⟩ | ⟨_, A, h⟩
    · rcases h.2 with ⟨h, _⟩ | ⟨_, _, _, h, _⟩ <;> rw [h] <;> rfl
    · rw [h]; rfl

theorem app_run {c : Call} {dst : Option Tmp} {ty : TypeId} {pos : String} {after : Array Edge} {guard : Option (Nat × Bool)} {x y : Operand} {t : TypeId} (hb : c.callee = .builtin .append) (ha : c.args = #[x, y]) (ht : c.argTypes = #[t, t]) :
    (execOp a.eval ⟨dst, .call c, ty, pos, after, guard⟩).run P w = ((Builtin.append_ #[t, t] ty #[a.eval x, a.eval y]).run P w).andThen fun v w' => .ok (.value v) w' := by
  simp [execOp, resolve, hb, ha, ht, invoke, builtin]

/-- Names may be forgotten. -/
theorem kill_q (r : Nat) (q : Q) (v : Value) (h : RelQ w M q v) : RelQ w M (q.killO r) v := by
  cases q with
  | own i => simp only [Q.killO]; split; trivial; exact h
  | rp i sz k o => simp only [Q.killO]; split; trivial; exact h
  | vw i sz lo n => simp only [Q.killO]; split; trivial; exact h
  | vc i sz lo n c => simp only [Q.killO]; split; trivial; exact h
  | nr i π => simp only [Q.killO]; split; trivial; exact h
  | np i π sz k o => simp only [Q.killO]; split; trivial; exact h
  | _ => exact h
/-- A private row, or its beginning, by another name. -/
theorem Sim.rowMove (hs : Sim X n B w0 σ a w M) {r d sz sz' : Nat} {es es' : List (List C)} {v' : RV} (hin : (r, sz', es') ∈ σ.rw) (hd : d < n ∨ d < BASE) (h0 : 0 < sz) (hp : Priv w M.S sz es v') (hsub : ∀ g, pblk v' g → pblk (M.ρ r) g) :
    Sim X n B w0 (σ.rowMove r d sz es) a w (M.nr d v') := by
  have m := hs.mem
  have hm1 : Mem X B (St.map (Q.killO r) σ).bx (del r σ.rw) w M := by
    have hbx : ∀ {i' q1}, (i', q1) ∈ (σ.map (Q.killO r)).bx → ∃ q, (i', q) ∈ σ.bx ∧ q1 = q.map (Q.killO r) := fun {i' q1} h' => by
      simp only [St.map, List.mem_map, Prod.mk.injEq] at h'
      obtain ⟨⟨j, q⟩, hj, rfl, rfl⟩ := h'
      exact ⟨q, hj, rfl⟩
    refine ⟨fun i q1 h => ?_, fun i sz es h => m.row i sz es (del_mem h).2, fun i q i' q' h h' => ?_, fun i q i' x h h' => ?_, fun i x i' x' g h h' => m.rr i x i' x' g (del_mem h).2 (del_mem h').2, m.lt, fun i q h => ?_, fun i x g h => m.sr i x g (del_mem h).2, m.gl⟩
    · obtain ⟨q, hj, rfl⟩ := hbx h
      obtain ⟨hB', t', cells', h1, h2, h3⟩ := m.box i q hj
      exact ⟨hB', t', cells', h1, map_cs (kill_q r) ⟨h2, h3⟩⟩
    · obtain ⟨q1, hj, _⟩ := hbx h; obtain ⟨q2, hj', _⟩ := hbx h'
      exact m.bb i q1 i' q2 hj hj'
    · obtain ⟨q1, hj, _⟩ := hbx h
      exact m.br i q1 i' x hj (del_mem h').2
    · obtain ⟨q1, hj, _⟩ := hbx h
      exact m.sb i q1 hj
  have hm2 := Mem.getRow (σ := ⟨(St.map (Q.killO r) σ).tm, (St.map (Q.killO r) σ).bx, del r σ.rw⟩) (d := d) hm1 h0 hp (fun g hg => (m.row r sz' es' hin).2.2 g (hsub g hg)) (fun g hg => m.sr r _ g hin (hsub g hg))
    (fun i q h hg => by
      simp only [St.map, List.mem_map, Prod.mk.injEq] at h
      obtain ⟨⟨j, q'⟩, hj, rfl, rfl⟩ := h
      exact m.br j q' r _ hj hin (hsub _ hg))
    (fun i x g h hg hg' => m.rr i x r _ g (del_mem h).2 hin (del_mem h).1 hg (hsub g hg'))
  refine ⟨hs.size, hs.defs, fun t p h => ?_, hm2, hs.fr, hs.hB, hs.sS, hs.sβ, fun i hi hb => ?_⟩
  · simp only [St.rowMove, St.map, List.map_map, List.mem_map, Prod.mk.injEq] at h
    obtain ⟨⟨t', p0⟩, h1, rfl, rfl⟩ := h
    exact map_v (nr_q (Up.refl m.lt) m.lt) (map_v (kill_q r) (hs.tm _ _ h1))
  · simp only [Gh.nr]; rw [if_neg (by omega)]; exact hs.sρ i hi hb
theorem FlatX.place {S : Nat → Prop} {hh : List (Nat × Nat) → Value} {D : Nat → Prop} {sz o : Nat} {es ys : List (List C)} {olds us : List Value} (h : FlatX w S hh D sz es olds) (k : Flat w S sz ys us) (hl : o + ys.length ≤ es.length) :
    FlatX w S hh D sz (es.take o ++ ys ++ es.drop (o + ys.length)) (olds.take (o * sz) ++ us ++ olds.drop (o * sz + us.length)) := by
  have hm := Nat.mul_le_mul_right sz hl
  rw [Nat.add_mul] at hm
  have hu := k.2.1
  have ho := h.2.1
  have hg1 := fun i => seg_get es ys o i hl
  have hg2 := fun i => seg_get olds us (o * sz) i (by omega)
  refine h.turn (by simp; omega) (fun i e he => ?_) (by simp; omega) (fun i j e c he hj => ?_)
  · rw [hg1] at he
    split at he
    · exact k.1 _ e he
    · exact h.1 i e he
  · rw [hg1] at he
    have hjs : j < sz := by
      have hl := (List.getElem?_eq_some_iff.1 hj).1
      split at he
      · rw [k.1 _ e he] at hl; exact hl
      · rw [h.1 i e he] at hl; exact hl
    rw [hg2]
    split at he
    · rename_i hi
      obtain ⟨u, h1, h2⟩ := k.2.2 _ j e c he hj
      have h3 := row_fit (n := ys.length) (k := i - o) (by omega) hjs
      have h4 : i * sz = o * sz + (i - o) * sz := by rw [← Nat.add_mul]; congr 1; omega
      refine .inr ⟨u, ?_, h2⟩
      rw [if_pos (by omega), show i * sz + j - o * sz = (i - o) * sz + j by omega]
      exact h1
    · rename_i hi
      refine .inl ⟨e, he, hj, if_neg ?_⟩
      rcases Nat.lt_or_ge i o with h' | h'
      · have := row_fit h' hjs; omega
      · have := Nat.mul_le_mul_right sz (show o + ys.length ≤ i by omega)
        rw [Nat.add_mul] at this; omega
/-- Cells of a private row turn where they lie. -/
theorem row_write (hs : Sim X n B w0 σ a w M) {r sz o : Nat} {es ys : List (List C)} {us : List Value} (hq : get? r σ.rw = some (sz, es)) (hl : o + ys.length ≤ es.length) (h0 : 0 < ys.length) (hf : Flat w M.S sz ys us) :
    ∃ g N cap cur e, (M.ρ r).v = .slice (some ⟨g, 0, none⟩) N cap ∧ es.length ≤ cap ∧ w.heap[g]? = some (.cells cur e (0, 0)) ∧ o * sz + us.length ≤ cur.size ∧
      Sim X n B w0 { σ with rw := upd r (sz, es.take o ++ ys ++ es.drop (o + ys.length)) σ.rw } a (w.setRow g (cur.toList.take (o * sz) ++ us ++ cur.toList.drop (o * sz + us.length)).toArray) M := by
  have hin := get?_mem hq
  obtain ⟨hsz, hp, hmine⟩ := hs.mem.row r sz es hin
  obtain ⟨e, olds, hown, hfo, hnD⟩ : ∃ e us, w.ownsRow 0 e sz (M.ρ r).v es.length us ∧ FlatX w M.S (M.ρ r).h (M.ρ r).D sz es us ∧ ∀ g, oblk (M.ρ r).v g → ¬ (M.ρ r).D g := by
    rcases hp.1 with h | ⟨rfl, _⟩
    · exact h
    · rw [List.length_nil] at hl; omega
  obtain ⟨hul, hown⟩ := hown
  obtain ⟨g, cap, cur, hρ, hx, hheap, hnc, hcm, hcs, htake⟩ := hown.resolve_left (fun h => by omega)
  have hm1 := Nat.mul_le_mul_right sz hl
  have hm2 := Nat.mul_le_mul_right sz hnc
  rw [Nat.add_mul] at hm1
  have hus := hf.2.1
  have hcur : o * sz + us.length ≤ cur.size := by omega
  refine ⟨g, _, cap, cur, e, hρ, hnc, hheap, hcur, ?_⟩
  have hob : oblk (M.ρ r).v g := by
    rw [hρ]
    cases cap with
    | zero => omega
    | succ c => simp [oblk]
  have hpb : pblk (M.ρ r) g := .inl hob
  have hnS : ¬ M.S g := hs.mem.sr r _ g hin hpb
  have hu0 := up_setRow (M := M) hs.mem.lt (g := g) (cs := (cur.toList.take (o * sz) ++ us ++ cur.toList.drop (o * sz + us.length)).toArray) hnS
  have hheap' : (w.setRow g (cur.toList.take (o * sz) ++ us ++ cur.toList.drop (o * sz + us.length)).toArray).heap[g]? = some (.cells (cur.toList.take (o * sz) ++ us ++ cur.toList.drop (o * sz + us.length)).toArray e (0, 0)) := setRow_heap _ _ _ _ _ _ hheap
  have hu : Up (pblk (M.ρ r)) w M (w.setRow g (cur.toList.take (o * sz) ++ us ++ cur.toList.drop (o * sz + us.length)).toArray) M := ⟨hu0.β, hu0.ρ, hu0.S, hu0.new, hu0.lt, fun k hk hp => hs.mem.sr r _ k hin hp hk, hu0.fr.weak (Nat.le_refl _) (fun k _ e => by rw [e]; exact hpb)⟩
  have hlen : (es.take o ++ ys ++ es.drop (o + ys.length)).length = es.length := by simp; omega
  refine ⟨hs.size, hs.defs, fun t p h => hu.v hs.mem.lt (hs.tm t p h), ?_, hs.fr.trans (hu.fr.weak hs.hB (fun g hg e => ?_)), Nat.le_trans hs.hB hu.fr.size, hs.sS, hs.sβ, hs.sρ⟩
  · refine hs.mem.setRow hin hu hsz ⟨.inl ⟨e, olds.take (o * sz) ++ us ++ olds.drop (o * sz + us.length), ?_, ?_, hnD⟩, fun g hg => Nat.lt_of_lt_of_le (hp.2 g hg) hu.fr.size⟩
    · rw [hρ, hlen]
      have hol := hfo.2.1
      refine ⟨by simp only [List.length_append, List.length_take, List.length_drop]; omega, .inr ⟨g, cap, _, rfl, Nat.zero_le _, hheap', hnc, hcm, ?_, ?_⟩⟩
      · simp only [List.size_toArray, List.length_append, List.length_take, List.length_drop, Array.length_toList]; omega
      · have hlt : (cur.toList.take (o * sz)).length = o * sz := by simp; omega
        rw [← htake, List.append_assoc, List.append_assoc, List.take_append, List.take_append]
        rw [List.take_take, List.take_take, List.drop_take, hlt]
        rw [Nat.min_eq_right (by omega), Nat.min_eq_left (by omega)]
        rw [List.take_of_length_le (l := us) (by omega), Nat.sub_sub]
    · refine (hfo.place hf hl).move hu.S (hu.keep hs.mem.lt) (fun g' hg' => setRow_other _ _ _ _ (fun e => hnD _ hob (e ▸ hg')))
  · rcases hmine g e with h | h
    · omega
    · exact h
theorem mem_upd0 {α : Type} (t : Nat) (y : α) : ∀ l : List (Nat × α), (t, y) ∈ upd t y l := by
  intro l
  induction l with
  | nil => simp [upd]
  | cons x l ih =>
    obtain ⟨i, z⟩ := x
    simp only [upd]
    split
    · simp
    · exact List.mem_cons_of_mem _ ih
theorem Sim.updSame (hs : Sim X n B w0 σ a w M) {r : Nat} {x : Nat × List (List C)} (hq : get? r σ.rw = some x) : Sim X n B w0 { σ with rw := upd r x σ.rw } a w M := by
  have hr : ∀ {i y}, (i, y) ∈ upd r x σ.rw → (i, y) ∈ σ.rw := fun h => by
    rcases upd_mem h with ⟨rfl, rfl⟩ | ⟨_, h⟩
    · exact get?_mem hq
    · exact h
  have m := hs.mem
  exact ⟨hs.size, hs.defs, hs.tm, ⟨m.box, fun i sz es h => m.row i sz es (hr h), m.bb, fun i q i' r h h' => m.br i q i' r h (hr h'), fun i r i' r' g h h' => m.rr i r i' r' g (hr h) (hr h'), m.lt, m.sb, fun i r g h => m.sr i r g (hr h), m.gl⟩, hs.fr, hs.hB, hs.sS, hs.sβ, hs.sρ⟩
theorem Sim.putSame (hs : Sim X n B w0 σ a w M) {d : Nat} (hd : d < n) {p : PV} {v : Value} (hv : RelV w M p v) : Sim X n B w0 { σ with tm := upd d p σ.tm } (a.put (some d) v) w M :=
  hs.put (dst := some d) (fun d' h => by cases h; exact hd) (Up.refl hs.mem.lt) (fun _ _ h => h.elim) hs.mem hv
/-- A private row's beginning is a private row. -/
theorem Priv.cut {S : Nat → Prop} {sz n : Nat} {es : List (List C)} {r : RV} {A A' : Option Addr} {m c : Nat} (h : Priv w S sz es r) (hv : r.v = .slice A m c) (hn : n ≤ es.length) (hA : 0 < c → A' = A) : Priv w S sz (es.take n) (r.hd (.slice A' n c)) := by
  have hl : (es.take n).length = n := by simp; omega
  refine ⟨?_, h.2⟩
  rcases Nat.eq_zero_or_pos c with hc | hc
  · subst hc
    have : es.length = 0 := by
      rcases h.1 with ⟨e, us, h1, _⟩ | ⟨rfl, _⟩
      · rcases h1.2 with ⟨_, h⟩ | ⟨g, cap, cur, h2, _, _, h3, _⟩
        · exact h
        · rw [hv] at h2; cases h2; omega
      · rfl
    have hn0 : n = 0 := by omega
    subst hn0
    exact .inr ⟨by simp, A', RV.hd_v _ _⟩
  · rw [hA hc]
    rcases h.1 with ⟨e, us, h1, h2, hnD⟩ | ⟨rfl, A2, h2⟩
    · rcases h1.2 with ⟨h3, _⟩ | ⟨g, cap, cur, h3, h4, h5, h6, h7, h8, h9⟩
      · rw [hv] at h3; cases h3; omega
      · rw [hv] at h3; cases h3
        refine .inl ⟨e, us.take (n * sz), ⟨?_, .inr ⟨g, c, cur, by rw [hl, RV.hd_v], Nat.zero_le _, h5, by rw [hl]; omega, h7, h8, ?_⟩⟩, (h2.take hn).hd, fun g' hg' => hnD g' ?_⟩
        · rw [hl, List.length_take, h2.2.1]
          exact Nat.min_eq_left (Nat.mul_le_mul_right sz hn)
        · rw [hl, ← h9, List.take_take, Nat.min_eq_left (Nat.mul_le_mul_right sz hn)]
        · rw [RV.hd_v] at hg'; rw [hv]
          cases c with
          | zero => omega
          | succ c => exact hg'
    · rw [hv] at h2; cases h2; omega
theorem append_room2 {t ty e e' : TypeId} {i : TypeInfo} (ht : P.underlying t = some (.slice e)) (hi : P.info? e = some i)
    {g sOff sLen sCap : Nat} {cur : Array Value} (hg : w.heap[g]? = some (.cells cur e' (0, 0)))
    {b : Addr} {m c : Nat} {news : List Value} (hl : news.length = m * i.size) (hnews : ∀ j u, news[j]? = some u → w.cell? (b.add j) = some u) (h1 : ∀ u ∈ news, u.oneCell' = true)
    (hroom : sLen + m ≤ sCap) (hfit : sOff + sLen * i.size + news.length ≤ cur.size) :
    (Builtin.append_ #[t, t] ty #[.slice (some ⟨g, sOff, none⟩) sLen sCap, .slice (some b) m c]).run P w =
      .ok (.slice (some ⟨g, sOff, none⟩) (sLen + m) sCap) (w.setRow g (cur.toList.take (sOff + sLen * i.size) ++ news ++ cur.toList.drop (sOff + sLen * i.size + news.length)).toArray) := by
  have hf := run_firstCells_some (P := P) w i.size m b m c news hl hnews
  have hst := run_storeCells_at P g (sOff + sLen * i.size) e' news 0 cur w hg (by simpa using hfit) h1
  simp only [Nat.add_zero] at hst
  simp [Builtin.append_, run_underlying ht, sizeOf, typeInfo, hi, Builtin.lenOf, hroom, hf, Addr.add_lit, hst]
theorem mem_del_ne {α : Type} {t i : Nat} {x : α} (h : i ≠ t) : ∀ {l : List (Nat × α)}, (i, x) ∈ l → (i, x) ∈ del t l := by
  intro l
  induction l with
  | nil => intro h; simp at h
  | cons z l ih =>
    obtain ⟨j, z⟩ := z
    intro hm
    simp only [del]
    split
    · rename_i he
      rcases List.mem_cons.1 hm with hm | hm
      · cases hm; exact absurd he h
      · exact ih hm
    · rcases List.mem_cons.1 hm with hm | hm
      · rw [hm]; simp
      · exact List.mem_cons_of_mem _ (ih hm)
theorem mem_upd_ne {α : Type} {t i : Nat} {x y : α} (h : i ≠ t) : ∀ {l : List (Nat × α)}, (i, x) ∈ l → (i, x) ∈ upd t y l := by
  intro l
  induction l with
  | nil => intro h; simp at h
  | cons z l ih =>
    obtain ⟨j, z⟩ := z
    intro hm
    simp only [upd]
    split
    · rename_i he
      rcases List.mem_cons.1 hm with hm | hm
      · cases hm; exact absurd he h
      · exact List.mem_cons_of_mem _ (mem_del_ne h hm)
    · rcases List.mem_cons.1 hm with hm | hm
      · rw [hm]; simp
      · exact List.mem_cons_of_mem _ (ih hm)
theorem Q.killO2 (r : Nat) (q : Q) : (q.killO r).killO r = q.killO r := by
  cases q with
  | own i => by_cases h : i = r <;> simp [Q.killO, h]
  | rp i _ _ _ => by_cases h : i = r <;> simp [Q.killO, h]
  | vw i _ _ _ => by_cases h : i = r <;> simp [Q.killO, h]
  | vc i _ _ _ _ => by_cases h : i = r <;> simp [Q.killO, h]
  | nr i _ => by_cases h : i = r <;> simp [Q.killO, h]
  | np i _ _ _ _ => by_cases h : i = r <;> simp [Q.killO, h]
  | _ => rfl
theorem PV.killO2 (r : Nat) : ∀ (p : PV), (p.map (Q.killO r)).map (Q.killO r) = p.map (Q.killO r)
  | .q x => by simp [PV.map, Q.killO2]
  | .agg xs => by simp [PV.map, Q.killO2]
  | .tup xs => by
    simp only [PV.map, List.map_map, PV.tup.injEq, List.map_inj_left]
    intro s _
    cases s <;> simp [SV.map, Q.killO2]
  | .gd b p => by simp only [PV.map]; rw [PV.killO2 r p]
theorem Sim.sub {σ' : St} (hs : Sim X n B w0 σ a w M) (ht : ∀ p ∈ σ'.tm, p ∈ σ.tm) (hb : ∀ p ∈ σ'.bx, p ∈ σ.bx) (hr : ∀ p ∈ σ'.rw, p ∈ σ.rw) : Sim X n B w0 σ' a w M :=
  ⟨hs.size, hs.defs, fun t p h => hs.tm t p (ht _ h), ⟨fun i q h => hs.mem.box i q (hb _ h), fun i sz es h => hs.mem.row i sz es (hr _ h), fun i q j q' h k => hs.mem.bb i q j q' (hb _ h) (hb _ k), fun i q j r h k => hs.mem.br i q j r (hb _ h) (hr _ k), fun i r j r' g h k => hs.mem.rr i r j r' g (hr _ h) (hr _ k), hs.mem.lt, fun i q h => hs.mem.sb i q (hb _ h), fun i r g h => hs.mem.sr i r g (hr _ h), hs.mem.gl⟩, hs.fr, hs.hB, hs.sS, hs.sβ, hs.sρ⟩
theorem app_move (hs : Sim X n B w0 σ a w M) {o : Oper} {d : Nat} (e1 : o.dst = some d) (hdn : d < n) {t e : TypeId} {ti : TypeInfo} {z : Value} {sz bytes : Nat} (ht : P.underlying t = some (.slice e)) (hi : P.info? e = some ti) (hsz : ti.size = sz) (hby : ti.bytes = bytes) (hz : ti.zero = some z) (hzs : z.cells.size = sz) (h0 : 0 < sz)
    {x y : Operand} (hrun : ∀ v' w', (Builtin.append_ #[t, t] o.type #[a.eval x, a.eval y]).run P w = .ok v' w' → (execOp a.eval o).run P w = .ok (.value v') w')
    {r : Nat} {es ys : List (List C)} (hq : get? r σ.rw = some (sz, es)) (rx : RelV w M (.q (.own r)) (a.eval x)) (hy : RowC w M.S sz ys (a.eval y)) (h3 : (es.length + ys.length) * bytes ≤ 140737488355328) (hmx : es.length + ys.length ≤ 9223372036854775807)
    {next : Act → World → Prop} {E : Exit → Act → World → Prop} (hn : ∀ a' w' M', Sim X n B w0 (rowApp d d sz (es ++ ys) (σ.rowMove r d sz es)) a' w' M' → next a' w') : o.wp P a w next E := by
  have hv := rx.1
  have hin := get?_mem hq
  obtain ⟨_, hp, _⟩ := hs.mem.row r _ es hin
  have hs2 := hs.rowMove (d := d) hin (.inl hdn) h0 hp (fun _ h => h)
  obtain ⟨v', w', k1, k2, k3, k4⟩ := append_own (ty := o.type) ht hi hsz hby hz hzs hs.mem.lt hy h3 hmx hp (fun g hg => hs.mem.sr _ _ g hin hg)
  rw [← hv] at k1
  have hρ : (M.nr d (M.ρ r)).ρ d = M.ρ r := by simp [Gh.nr]
  have hin2 : (d, sz, es) ∈ (σ.rowMove r d sz es).rw := (mem_upd0 _ _ _)
  exact row_eff hs2 e1 hdn h0 (hrun _ _ k1) k2 k3 (fun g hg => ⟨_, hin2, by rw [hρ]; exact hg⟩) (fun g hg => (k4 g hg).imp id (fun h => ⟨_, hin2, by rw [hρ]; exact h⟩)) (.inl hdn) hn
theorem app_fit (hs : Sim X n B w0 σ a w M) {o : Oper} {d : Nat} (e1 : o.dst = some d) (hdn : d < n) {t e : TypeId} {ti : TypeInfo} {sz : Nat} (ht : P.underlying t = some (.slice e)) (hi : P.info? e = some ti) (hsz : ti.size = sz)
    {x y : Operand} (hrun : ∀ v' w', (Builtin.append_ #[t, t] o.type #[a.eval x, a.eval y]).run P w = .ok v' w' → (execOp a.eval o).run P w = .ok (.value v') w')
    {r lo n1 : Nat} {es ys : List (List C)} (hq : get? r σ.rw = some (sz, es)) (rx : RelV w M (.q (.vw r sz lo n1)) (a.eval x)) (hy : RowC w M.S sz ys (a.eval y)) (hfit : lo + n1 + ys.length ≤ es.length)
    {next : Act → World → Prop} {E : Exit → Act → World → Prop} (hn : ∀ a' w' M', Sim X n B w0 { tm := upd d (.q (.vw r sz lo (n1 + ys.length))) σ.tm, bx := σ.bx, rw := upd r (sz, es.take (lo + n1) ++ ys ++ es.drop (lo + n1 + ys.length)) σ.rw } a' w' M' → next a' w') : o.wp P a w next E := by
  obtain ⟨A, m, c, A', hρ, hc, hv, hA⟩ := rx
  obtain ⟨B2, c2, hvy, hcy, hy⟩ := hy
  by_cases hys : ys = []
  · subst hys
    have hr0 := append_nil_run (P := P) (w := w) (ty := o.type) (t := t) ht hi (A := A') (A' := B2) (m := n1) (c := c - lo) (c' := c2) (by omega)
    refine upon_value (hrun _ _ (by rw [hv, hvy]; exact hr0)) (hn _ _ M ?_)
    have e4 : es.take (lo + n1) ++ [] ++ es.drop (lo + n1 + ([] : List (List C)).length) = es := by simp
    rw [e4, e1]
    have hs2 := hs.putSame (d := d) hdn (p := .q (.vw r sz lo (n1 + 0))) (v := .slice A' n1 (c - lo)) ⟨A, m, c, A', hρ, hc, rfl, hA⟩
    exact hs2.updSame hq
  · obtain ⟨ad, us, rfl, hf, hcell, hone⟩ := hy.resolve_left hys
    have hpos : 0 < ys.length := by cases ys with
      | nil => exact absurd rfl hys
      | cons _ _ => simp
    obtain ⟨gg, N, cap, cur, ee, hρ2, hcap, hheap, hcur, hs2⟩ := row_write hs hq hfit hpos hf
    have hρ3 := hρ
    rw [hρ2] at hρ3
    cases hρ3
    have hA2 := hA (by omega)
    subst hA2
    have hr1 := append_room2 (P := P) (ty := o.type) (t := t) ht hi hheap (b := ad) (m := ys.length) (c := c2) (sOff := lo * sz) (sLen := n1) (sCap := c - lo) (by rw [hf.2.1, hsz]) hcell hone (by omega) (by rw [hsz]; rw [Nat.add_mul] at hcur; exact hcur)
    rw [hsz, ← Nat.add_mul] at hr1
    have hv2 : a.eval x = .slice (some ⟨gg, lo * sz, none⟩) n1 (c - lo) := by rw [hv]; simp [Addr.add_lit]
    refine upon_value (hrun _ _ (by rw [hv2, hvy]; exact hr1)) (hn _ _ M ?_)
    rw [e1]
    exact hs2.putSame (d := d) hdn (p := .q (.vw r sz lo (n1 + ys.length))) ⟨_, _, c, some ⟨gg, lo * sz, none⟩, hρ, by omega, rfl, fun _ => by simp [Addr.add_lit]⟩
theorem app_cut (hs : Sim X n B w0 σ a w M) {o : Oper} {d : Nat} (e1 : o.dst = some d) (hdn : d < n) {t e : TypeId} {ti : TypeInfo} {z : Value} {sz bytes : Nat} (ht : P.underlying t = some (.slice e)) (hi : P.info? e = some ti) (hsz : ti.size = sz) (hby : ti.bytes = bytes) (hz : ti.zero = some z) (hzs : z.cells.size = sz) (h0 : 0 < sz)
    {x y : Operand} (hrun : ∀ v' w', (Builtin.append_ #[t, t] o.type #[a.eval x, a.eval y]).run P w = .ok v' w' → (execOp a.eval o).run P w = .ok (.value v') w')
    {r n1 : Nat} {es ys : List (List C)} (hq : get? r σ.rw = some (sz, es)) (rx : RelV w M (.q (.vw r sz 0 n1)) (a.eval x)) (hy : RowC w M.S sz ys (a.eval y)) (hB : r < BASE) (hnl : n1 ≤ es.length) (h3 : (n1 + ys.length) * bytes ≤ 140737488355328) (hmx : n1 + ys.length ≤ 9223372036854775807)
    {next : Act → World → Prop} {E : Exit → Act → World → Prop} (hn : ∀ a' w' M', Sim X n B w0 (rowApp d r sz (es.take n1 ++ ys) σ) a' w' M' → next a' w') : o.wp P a w next E := by
  have hin := get?_mem hq
  obtain ⟨_, hp, _⟩ := hs.mem.row r _ es hin
  obtain ⟨A, m, c, A', hρ, hc, hv, hA⟩ := rx
  have hA' : 0 < c → A' = A := fun h => by rw [hA h]; cases A <;> simp [Addr.add]
  have hp2 : Priv w M.S sz (es.take n1) ((M.ρ r).hd (.slice A' n1 c)) := hp.cut hρ hnl hA'
  have hsub : ∀ g, pblk ((M.ρ r).hd (.slice A' n1 c)) g → pblk (M.ρ r) g := fun g hg => by
    rcases pblk_hd.1 hg with hg | hg
    · refine .inl ?_
      rw [hρ]
      rcases Nat.eq_zero_or_pos c with h | h
      · subst h; cases A' <;> simp [oblk] at hg
      · rw [hA' h] at hg
        cases c with
        | zero => omega
        | succ c => cases A with
          | none => exact hg.elim
          | some ad => exact hg
    · exact .inr hg
  have hs2 := hs.rowMove (d := r) hin (.inr hB) h0 hp2 hsub
  have hl2 : (es.take n1).length = n1 := by simp; omega
  obtain ⟨v', w', k1, k2, k3, k4⟩ := append_own (ty := o.type) ht hi hsz hby hz hzs hs.mem.lt hy (by rw [hl2]; exact h3) (by rw [hl2]; exact hmx) hp2 (fun g hg => hs.mem.sr _ _ g hin (hsub g hg))
  rw [Nat.sub_zero] at hv
  rw [RV.hd_v, ← hv] at k1
  have hρ3 : (M.nr r ((M.ρ r).hd (.slice A' n1 c))).ρ r = (M.ρ r).hd (.slice A' n1 c) := by simp [Gh.nr]
  have hin2 : (r, sz, es.take n1) ∈ (σ.rowMove r r sz (es.take n1)).rw := (mem_upd0 _ _ _)
  refine row_eff hs2 e1 hdn h0 (hrun _ _ k1) k2 k3 (fun g hg => ⟨_, hin2, by rw [hρ3]; exact hg⟩) (fun g hg => (k4 g hg).imp id (fun h => ⟨_, hin2, by rw [hρ3]; exact h⟩)) (.inr hB) (fun a' w' M' h => hn a' w' M' (h.sub (fun p hp => ?_) (fun p hp => ?_) (fun p hp => ?_)))
  · show p ∈ upd d (PV.q (.own r)) (St.map (Q.killO r) (σ.rowMove r r sz (es.take n1))).tm
    obtain ⟨t', p'⟩ := p
    rcases upd_mem hp with ⟨rfl, rfl⟩ | ⟨hne, hp⟩
    · exact mem_upd0 _ _ _
    · refine mem_upd_ne hne ?_
      simp only [St.map, List.mem_map, Prod.mk.injEq] at hp
      obtain ⟨⟨t2, p2⟩, hp3, rfl, rfl⟩ := hp
      simp only [St.rowMove, St.map, List.map_map, List.mem_map]
      exact ⟨(t2, p2), hp3, by simp [PV.killO2]⟩
  · obtain ⟨t', p'⟩ := p
    change (t', p') ∈ (St.map (Q.killO r) σ).bx at hp
    show (t', p') ∈ (St.map (Q.killO r) (σ.rowMove r r sz (es.take n1))).bx
    simp only [St.map, List.mem_map, Prod.mk.injEq] at hp
    obtain ⟨⟨t2, p2⟩, hp3, rfl, rfl⟩ := hp
    simp only [St.rowMove, St.map, List.map_map, List.mem_map]
    refine ⟨(t2, p2), hp3, ?_⟩
    simp [Q.killO2]
  · obtain ⟨t', p'⟩ := p
    rcases upd_mem hp with ⟨rfl, rfl⟩ | ⟨hne, hp⟩
    · exact mem_upd0 _ _ _
    · exact mem_upd_ne hne (mem_upd_ne hne (mem_del_ne hne hp))
theorem flat_zero {z : Value} {zs : List C} (hr : RelCs w M (zs.map .c) z.cells) (m : Nat) : Flat w M.S zs.length (List.replicate m zs) (Builtin.zeroCells z.cells m).toList := by
  have hzl : z.cells.size = zs.length := by simpa using hr.1
  refine ⟨fun i' e' he' => ?_, by simp [Builtin.zeroCells, hzl], fun i' j e' c' he' hj => ?_⟩
  · rw [List.getElem?_replicate] at he'
    split at he' <;> cases he'; rfl
  · rw [List.getElem?_replicate] at he'
    split at he'
    · rename_i hlt
      cases he'
      obtain ⟨u, g1, _, g3⟩ := hr.2 j (.c c') (by simp [hj])
      have hjl : j < zs.length := (List.getElem?_eq_some_iff.1 hj).1
      have := row_fit hlt hjl
      refine ⟨u, ?_, g3⟩
      have hmod : (i' * zs.length + j) % z.cells.size = j := by rw [hzl, Nat.mul_comm, Nat.mul_add_mod]; exact Nat.mod_eq_of_lt hjl
      simp [Builtin.zeroCells, hzl, this, getElem!_def]
      rw [Nat.mod_eq_of_lt hjl, g1]
    · cases he'
theorem clear_at {t ty e e' : TypeId} {i : TypeInfo} {z : Value} (ht : P.underlying t = some (.slice e)) (hi : P.info? e = some i) (hz : i.zero = some z) {g off m c : Nat} {cur : Array Value} (hg : w.heap[g]? = some (.cells cur e' (0, 0))) (hm : 0 < m)
    (h1 : ∀ u ∈ (Builtin.zeroCells z.cells m).toList, u.oneCell' = true) (hfit : off + (Builtin.zeroCells z.cells m).toList.length ≤ cur.size) :
    (Builtin.clear_ #[t] ty #[.slice (some ⟨g, off, none⟩) m c]).run P w = .ok (.tuple #[]) (w.setRow g (cur.toList.take off ++ (Builtin.zeroCells z.cells m).toList ++ cur.toList.drop (off + (Builtin.zeroCells z.cells m).toList.length)).toArray) := by
  obtain ⟨m', rfl⟩ : ∃ k, m = k + 1 := ⟨m - 1, by omega⟩
  have hst := run_storeCells_at P g off e' (Builtin.zeroCells z.cells (m' + 1)).toList 0 cur w hg (by simpa using hfit) h1
  simp only [Nat.add_zero] at hst
  simp [Builtin.clear_, run_underlying ht, zeroValue, typeInfo, hi, hz, hst]
theorem clear_none {t ty e : TypeId} (ht : P.underlying t = some (.slice e)) {A : Option Addr} {c : Nat} : (Builtin.clear_ #[t] ty #[.slice A 0 c]).run P w = .ok (.tuple #[]) w := by
  cases A <;> simp [Builtin.clear_, run_underlying ht]
theorem clr_wp (hs : Sim X n B w0 σ a w M) {o : Oper} {c : Call} (ho : o.op = .call c) {x0 : Operand} {t e : TypeId} {x : XO} {zs : List C} (hcb : c.callee = .builtin .clear) (hca : c.args.toList = [x0]) (hct : c.argTypes.toList = [t]) (hx : okO x0 x = true)
    {ti : TypeInfo} {z : Value} (ht : P.underlying t = some (.slice e)) (hi : P.info? e = some ti) (hz : ti.zero = some z) (hk : okVs z.cells.toList (zs.map .c) = true) (hdst : ∀ d, o.dst = some d → d < n)
    {vc : Prop} {σ' : St} (he : effK σ o.dst (.clr x zs) = some (vc, σ')) (hvc : vc) {next : Act → World → Prop} {E : Exit → Act → World → Prop} (hn : ∀ a' w' M', Sim X n B w0 σ' a' w' M' → next a' w') : o.wp P a w next E := by
  have hca' : c.args = #[x0] := by rw [← Array.toArray_toList (xs := c.args), hca]
  have hct' : c.argTypes = #[t] := by rw [← Array.toArray_toList (xs := c.argTypes), hct]
  have hr : RelCs w M (zs.map .c) z.cells := by simpa using okVs_rel (w := w) (M := M) hk
  have rx := okO_rel (o := x0) (x := x) hs.tm hx
  have hrun : ∀ v' w', (Builtin.clear_ #[t] o.type #[a.eval x0]).run P w = .ok v' w' → (execOp a.eval o).run P w = .ok (.value v') w' := fun v' w' h => by
    obtain ⟨dst, op, ty, pos, after, guard⟩ := o
    simp only at ho; subst ho
    simp only at h
    simp [execOp, resolve, hcb, hca', hct', invoke, builtin, h]
  have fin : ∀ {τ : St} {w'}, Sim X n B w0 τ a w' M → Sim X n B w0 (τ.put o.dst (.q .no)) (a.put o.dst (.tuple #[])) w' M := fun {τ w'} h => h.put hdst (Up.refl h.mem.lt) (fun _ _ h => h.elim) h.mem trivial
  have key : ∀ {r lo m : Nat} {es : List (List C)} {A : Option Addr} {cc : Nat}, get? r σ.rw = some (zs.length, es) → lo + m ≤ es.length → a.eval x0 = .slice A m cc → (∀ g N cap, 0 < m → (M.ρ r).v = .slice (some ⟨g, 0, none⟩) N cap → es.length ≤ cap → A = some ⟨g, lo * zs.length, none⟩) →
      (∀ a' w' M', Sim X n B w0 (St.put { σ with rw := upd r (zs.length, es.take lo ++ List.replicate m zs ++ es.drop (lo + m)) σ.rw } o.dst (.q .no)) a' w' M' → next a' w') → o.wp P a w next E := by
    intro r lo m es A cc hq hl hv hA hn
    rcases Nat.eq_zero_or_pos m with h0 | h0
    · subst h0
      refine upon_value (hrun _ _ (by rw [hv]; exact clear_none ht)) (hn _ _ M (fin ?_))
      have e4 : es.take lo ++ List.replicate 0 zs ++ es.drop (lo + 0) = es := by simp
      rw [e4]; exact hs.updSame hq
    · have hf := flat_zero hr m
      obtain ⟨gg, N, cap, cur, ee, hρ, hcap, hheap, hcur, hs2⟩ := row_write hs hq (o := lo) (by simpa using hl) (by simpa using h0) hf
      have hA2 := hA gg N cap h0 hρ hcap
      subst hA2
      refine upon_value (hrun _ _ (by rw [hv]; exact clear_at ht hi hz hheap h0 hf.one hcur)) (hn _ _ M (fin ?_))
      simpa using hs2
  simp only [effK] at he
  split at he
  · rename_i g r e1
    rw [e1] at rx
    simp only [Option.map_eq_some_iff, Prod.mk.injEq] at he
    obtain ⟨⟨sz', es⟩, hq, rfl, rfl⟩ := he
    obtain ⟨hg, hsz⟩ := hvc
    simp only at hsz
    subst hsz
    obtain ⟨A, cc, hρ, hcap⟩ := mem_rowc hs.mem hq
    have hv := (rx hg).1
    rw [hρ] at hv
    refine key (lo := 0) (m := es.length) hq (by omega) hv (fun g N cap h0 h1 h2 => ?_) (fun a' w' M' h => hn a' w' M' ?_)
    · rw [hρ] at h1; cases h1; simp
    · simpa using h
  · rename_i g r sz lo m e1
    rw [e1] at rx
    simp only [Option.map_eq_some_iff, Prod.mk.injEq] at he
    obtain ⟨⟨sz', es⟩, hq, rfl, rfl⟩ := he
    obtain ⟨hg, h1, h2, hl⟩ := hvc
    simp only at h2 hl
    subst h2; subst h1
    obtain ⟨A, mm, cc, A', hρ, hc, hv, hA⟩ := rx hg
    refine key (lo := lo) (m := m) hq hl hv (fun g N cap h0 h1 h2 => ?_) hn
    rw [hρ] at h1; cases h1
    rw [hA (by omega)]; simp [Addr.add_lit]
  · cases he
theorem apn_wp (hs : Sim X n B w0 σ a w M) {o : Oper} {c : Call} (ho : o.op = .call c) {x0 n0 : Operand} {t tn e : TypeId} {kn : IntKind} (hcb : c.callee = .builtin .append) (hca : c.args = #[x0, n0]) (hct : c.argTypes = #[t, tn]) (htn : P.underlying tn = some (.int kn))
    {ti : TypeInfo} {z : Value} {zs : List C} {bytes : Nat} (ht : P.underlying t = some (.slice e)) (hi : P.info? e = some ti) (hsz : ti.size = zs.length) (hby : ti.bytes = bytes) (hz' : ti.zero = some z) (hz : okVs z.cells.toList (zs.map .c) = true) {d : Nat} (e1 : o.dst = some d) (hdst : ∀ d, o.dst = some d → d < n)
    {A : Option Addr} {es : List (List C)} {cc : Nat} {k : IntKind} {N : Nat} (hv : a.eval x0 = .slice A es.length cc) (hy : RowC w M.S zs.length es (.slice A es.length cc)) (hln : a.eval n0 = .int k N) (h0 : 0 < N) (hg : cc < es.length + N) (hNb : (es.length + N) * bytes ≤ 140737488355328) (h62 : es.length + N ≤ 4611686018427387904) (h5 : 0 < zs.length)
    {next : Act → World → Prop} {E : Exit → Act → World → Prop} (hn : ∀ a' w' M', Sim X n B w0 { tm := upd d (.q (.own d)) (σ.map (Q.killO d)).tm, bx := (σ.map (Q.killO d)).bx, rw := upd d (zs.length, es ++ List.replicate N zs) σ.rw } a' w' M' → next a' w') : o.wp P a w next E := by
  have hr : RelCs w M (zs.map .c) z.cells := by simpa using okVs_rel (w := w) (M := M) hz
  have hzl : z.cells.size = zs.length := by simpa using hr.1
  obtain ⟨olds, hfo, hold⟩ : ∃ olds, Flat w M.S zs.length es olds ∧ (Builtin.firstCells ti.size es.length (.slice A es.length cc)).run P w.drew = .ok olds.toArray w.drew := by
    obtain ⟨A2, c2, he, _, h2⟩ := hy
    cases he
    rcases h2 with rfl | ⟨ad, us, rfl, hf, hcell, _⟩
    · refine ⟨[], Flat.nil, ?_⟩
      cases A with
      | none => exact run_firstCells_none w.drew ti.size 0 0 _
      | some ad => exact run_firstCells_some w.drew ti.size 0 ad 0 _ [] (by simp) (fun j v hj => by simp at hj)
    · exact ⟨us, hf, run_firstCells_some w.drew ti.size es.length ad es.length _ us (by rw [hf.2.1, hsz]) (fun j v hj => hcell j v hj)⟩
  have hNb' : N * bytes ≤ (es.length + N) * bytes := Nat.mul_le_mul_right _ (by omega)
  have hfit := growslice_fits (need := es.length + N) (old := cc) (bytes := ti.bytes) (by omega) (by rw [hby]; exact hNb)
  have hap := Lib.run_append_grow_zeros (P := P) w t tn o.type e ti z k kn ht htn hi hz' A es.length cc olds hold N h0 (by omega) hg (by omega) (by rw [hby]; omega) hfit
  have hgc := grownCap_ge w (es.length + N) cc e
  have hgm := grownCap_le_maxLen w (es.length + N) cc e (by simp only [maxLen]; omega)
  have hnf : Flat w M.S zs.length (List.replicate N zs) (Builtin.zeroCells z.cells N).toList := flat_zero hr N
  have hgp := grown_priv (w := w) (S := M.S) (e := e) (r := RV.of (.slice (some ⟨w.heap.size, 0, none⟩) (es.length + N) (grownCap w (es.length + N) cc e))) hfo.x hnf hs.mem.lt (fun _ h => False.elim h) hzl (cap := grownCap w (es.length + N) cc e) (by simpa using hgc) hgm
  simp only [Array.toArray_toList, List.length_replicate, RV.of_hd] at hgp
  refine row_eff (Z := fun _ => False) hs e1 (hdst _ e1) h5 (v' := RV.of (.slice (some ⟨w.heap.size, 0, none⟩) (es.length + N) (grownCap w (es.length + N) cc e))) (w' := w.drew.alloc (.cells (olds.toArray ++ Builtin.zeroCells z.cells N ++ Builtin.zeroCells z.cells (grownCap w (es.length + N) cc e - (es.length + N))) e))
    (by
      obtain ⟨dst, op, ty, pos, after, guard⟩ := o
      simp only at ho; subst ho
      simp only at hap
      simp only [execOp, resolve, hcb, hca, hct, invoke, builtin, List.map_toArray, List.map_cons, List.map_nil, hv, hln, Sem.run_bind, Sem.run_pure, Result.andThen_ok, hap, RV.of_v]) hgp ?_ (fun g hg => hg.elim) (fun g hg => ?_) (.inl (hdst _ e1)) hn
  · exact ⟨rfl, rfl, rfl, by simp, fun k hk _ => Below.heap_alloc w.drew _ k (by simpa using hk), fun a => frozen?_alloc_cells w.drew _ _ a⟩
  · rw [pblk_of] at hg
    generalize grownCap w (es.length + N) cc e = cc at hg
    cases cc <;> simp [oblk] at hg; exact .inl (by omega)
theorem killW_q {r : Nat} {g N N' cap : Nat} {Z : Nat → Prop} (hu : Up Z w M w' M) (hl : ∀ g, M.S g → g < w.heap.size) (hρ : (M.ρ r).v = .slice (some ⟨g, 0, none⟩) N cap) {v' : RV} (hv' : v'.v = .slice (some ⟨g, 0, none⟩) N' cap) (q : Q) (v : Value) (h : RelQ w M q v) : RelQ w' (M.nr r v') (q.killW r) v := by
  have h' := hu.q hl h
  cases q with
  | own i =>
    simp only [Q.killW]
    split
    · trivial
    · rename_i hne; simp only [RelQ, Gh.nr, if_neg hne] at *; exact h'
  | rp i sz k o =>
    by_cases hi : i = r
    · subst hi
      obtain ⟨g', n', c', h1, h2⟩ := h'
      rw [hρ] at h1; cases h1
      exact ⟨g, N', cap, by simp [Gh.nr, hv'], h2⟩
    · simp only [Q.killW, RelQ, Gh.nr, if_neg hi] at *; exact h'
  | vw i sz lo n =>
    by_cases hi : i = r
    · subst hi
      obtain ⟨A, m, c, A', h1, h2, h3, h4⟩ := h'
      rw [hρ] at h1; cases h1
      exact ⟨some ⟨g, 0, none⟩, N', cap, A', by simp [Gh.nr, hv'], h2, h3, h4⟩
    · simp only [Q.killW, RelQ, Gh.nr, if_neg hi] at *; exact h'
  | vc i sz lo n c =>
    by_cases hi : i = r
    · subst hi
      obtain ⟨A, m, A', h1, h2, h3, h4⟩ := h'
      rw [hρ] at h1; cases h1
      exact ⟨some ⟨g, 0, none⟩, N', A', by simp [Gh.nr, hv'], h2, h3, h4⟩
    · simp only [Q.killW, RelQ, Gh.nr, if_neg hi] at *; exact h'
  | nr i π =>
    simp only [Q.killW]
    split
    · trivial
    · rename_i hne; simp only [RelQ, Gh.nr, if_neg hne] at *; exact h'
  | np i π sz k o =>
    simp only [Q.killW]
    split
    · trivial
    · rename_i hne; simp only [RelQ, Gh.nr, if_neg hne] at *; exact h'
  | _ => exact h'
/-- Cells of a private row turn where they lie, and its spare room behind its end. -/
theorem row_grow (hs : Sim X n B w0 σ a w M) {r sz o : Nat} {es ys : List (List C)} {us : List Value} (hq : get? r σ.rw = some (sz, es)) (hB : r < BASE) (ho : o ≤ es.length) (hl : es.length ≤ o + ys.length) (h0 : 0 < ys.length) {A : Option Addr} {m cp : Nat} (hρ0 : (M.ρ r).v = .slice A m cp) (hcp : o + ys.length ≤ cp) (hf : Flat w M.S sz ys us) :
    ∃ g N cap cur e, (M.ρ r).v = .slice (some ⟨g, 0, none⟩) N cap ∧ es.length ≤ cap ∧ w.heap[g]? = some (.cells cur e (0, 0)) ∧ o * sz + us.length ≤ cur.size ∧
      Sim X n B w0 { tm := (σ.map (Q.killW r)).tm, bx := (σ.map (Q.killO r)).bx, rw := upd r (sz, es.take o ++ ys) σ.rw } a (w.setRow g (cur.toList.take (o * sz) ++ us ++ cur.toList.drop (o * sz + us.length)).toArray) (M.nr r ((M.ρ r).hd (.slice (some ⟨g, 0, none⟩) (o + ys.length) cap))) := by
  have hin := get?_mem hq
  obtain ⟨hsz, hp, hmine⟩ := hs.mem.row r sz es hin
  obtain ⟨e, olds, hown, hfo, hnD⟩ : ∃ e us, w.ownsRow 0 e sz (M.ρ r).v es.length us ∧ FlatX w M.S (M.ρ r).h (M.ρ r).D sz es us ∧ ∀ g, oblk (M.ρ r).v g → ¬ (M.ρ r).D g := by
    rcases hp.1 with h | ⟨_, A2, h⟩
    · exact h
    · rw [hρ0] at h; cases h; omega
  obtain ⟨hul, hown⟩ := hown
  obtain ⟨g, cap, cur, hρ, hx, hheap, hnc, hcm, hcs, htake⟩ := hown.resolve_left (fun h => by rw [hρ0] at h; cases h.1; omega)
  have hcc : cap = cp := by rw [hρ0] at hρ; cases hρ; rfl
  subst hcc
  have hm1 := Nat.mul_le_mul_right sz hcp
  have hm2 := Nat.mul_le_mul_right sz hnc
  have hm3 := Nat.mul_le_mul_right sz ho
  rw [Nat.add_mul] at hm1
  have hus := hf.2.1
  have hcur : o * sz + us.length ≤ cur.size := by omega
  refine ⟨g, _, cap, cur, e, hρ, hnc, hheap, hcur, ?_⟩
  have hob : oblk (M.ρ r).v g := by
    rw [hρ]
    cases cap with
    | zero => omega
    | succ c => simp [oblk]
  have hpb : pblk (M.ρ r) g := .inl hob
  have hnS : ¬ M.S g := hs.mem.sr r _ g hin hpb
  have hu0 := up_setRow (M := M) hs.mem.lt (g := g) (cs := (cur.toList.take (o * sz) ++ us ++ cur.toList.drop (o * sz + us.length)).toArray) hnS
  have hheap' : (w.setRow g (cur.toList.take (o * sz) ++ us ++ cur.toList.drop (o * sz + us.length)).toArray).heap[g]? = some (.cells (cur.toList.take (o * sz) ++ us ++ cur.toList.drop (o * sz + us.length)).toArray e (0, 0)) := setRow_heap _ _ _ _ _ _ hheap
  have hu : Up (pblk (M.ρ r)) w M (w.setRow g (cur.toList.take (o * sz) ++ us ++ cur.toList.drop (o * sz + us.length)).toArray) M := ⟨hu0.β, hu0.ρ, hu0.S, hu0.new, hu0.lt, fun k hk hp => hs.mem.sr r _ k hin hp hk, hu0.fr.weak (Nat.le_refl _) (fun k _ e => by rw [e]; exact hpb)⟩
  have hlen : (es.take o ++ ys).length = o + ys.length := by simp; omega
  have hol := hfo.2.1
  have hpr : Priv (w.setRow g (cur.toList.take (o * sz) ++ us ++ cur.toList.drop (o * sz + us.length)).toArray) M.S sz (es.take o ++ ys) ((M.ρ r).hd (.slice (some ⟨g, 0, none⟩) (o + ys.length) cap)) := by
    refine ⟨.inl ⟨e, olds.take (o * sz) ++ us, ?_, ?_, fun g' hg' => hnD g' ?_⟩, fun g hg => Nat.lt_of_lt_of_le (hp.2 g hg) hu.fr.size⟩
    · rw [hlen]
      refine ⟨by simp only [List.length_append, List.length_take]; rw [Nat.add_mul]; omega, .inr ⟨g, cap, _, RV.hd_v _ _, Nat.zero_le _, hheap', hcp, hcm, ?_, ?_⟩⟩
      · simp only [List.size_toArray, List.length_append, List.length_take, List.length_drop, Array.length_toList]; omega
      · have hlt : (cur.toList.take (o * sz)).length = o * sz := by simp; omega
        rw [← htake, List.take_take, Nat.min_eq_left (by omega)]
        rw [List.take_append_of_le_length (by rw [List.length_append, hlt, Nat.add_mul]; omega)]
        exact List.take_of_length_le (by rw [List.length_append, hlt, Nat.add_mul]; omega)
    · exact ((hfo.take ho).append hf).hd.move hu.S (hu.keep hs.mem.lt) (fun g' hg' => setRow_other _ _ _ _ (fun e => hnD _ hob (e ▸ hg')))
    · rw [RV.hd_v] at hg'; rw [hρ]
      cases cap with
      | zero => exact hg'.elim
      | succ c => exact hg'
  have hpb' : ∀ k, pblk ((M.ρ r).hd (.slice (some ⟨g, 0, none⟩) (o + ys.length) cap)) k → pblk (M.ρ r) k := fun k hk => by
    rcases pblk_hd.1 hk with hk | hk
    · refine .inl ?_
      rw [hρ]
      cases cap with
      | zero => exact hk.elim
      | succ c => exact hk
    · exact .inr hk
  have hm := hs.mem.newRow hs.hB (d := r) hsz hu (fun k hk => ⟨_, hin, hk⟩) hpr (fun k hk => .inr ⟨_, hin, hpb' k hk⟩)
  refine ⟨hs.size, hs.defs, fun t p h => ?_, hm, hs.fr.trans (hu.fr.weak hs.hB (fun g hg e => ?_)), Nat.le_trans hs.hB hu.fr.size, hs.sS, hs.sβ, fun i hi hb => ?_⟩
  · simp only [St.map, List.mem_map, Prod.mk.injEq] at h
    obtain ⟨⟨t', p0⟩, h1, rfl, rfl⟩ := h
    exact map_v (killW_q hu hs.mem.lt hρ (RV.hd_v _ _)) (hs.tm _ _ h1)
  · rcases hmine g e with h | h
    · omega
    · exact h
  · simp only [Gh.nr]; rw [if_neg (by omega)]; exact hs.sρ i hi hb
theorem copy_none {t t' ty e : TypeId} {ti : TypeInfo} (ht : P.underlying t = some (.slice e)) (hi : P.info? e = some ti) {A A' : Option Addr} {n1 c1 m c : Nat} (h : min n1 m = 0) :
    (Builtin.copy_ #[t, t'] ty #[.slice A n1 c1, .slice A' m c]).run P w = .ok (.int .i64 0) w := by
  have h' : Nat.min m n1 = 0 := by rw [Nat.min_comm] at h; exact h
  have hf : (Builtin.firstCells ti.size 0 (.slice A' m c)).run P w = .ok #[] w := by
    cases A' with
    | none => exact run_firstCells_none w ti.size 0 _ _
    | some ad => exact run_firstCells_some w ti.size 0 ad _ _ [] (by simp) (fun j v hj => by simp at hj)
  cases A <;> simp [Builtin.copy_, run_underlying ht, Builtin.lenOf, sizeOf, typeInfo, hi, h', hf, storeCells, goInt]
theorem copy_some {t t' ty e e' : TypeId} {ti : TypeInfo} (ht : P.underlying t = some (.slice e)) (hi : P.info? e = some ti) {g off n1 c1 m c : Nat} {cur : Array Value} (hg : w.heap[g]? = some (.cells cur e' (0, 0))) {ad : Addr} {k : Nat} (hk : min n1 m = k) {us : List Value} (hl : us.length = k * ti.size)
    (hus : ∀ j u, us[j]? = some u → w.cell? (ad.add j) = some u) (h1 : ∀ u ∈ us, u.oneCell' = true) (hfit : off + us.length ≤ cur.size) :
    (Builtin.copy_ #[t, t'] ty #[.slice (some ⟨g, off, none⟩) n1 c1, .slice (some ad) m c]).run P w = .ok (.int .i64 k) (w.setRow g (cur.toList.take off ++ us ++ cur.toList.drop (off + us.length)).toArray) := by
  have h' : Nat.min m n1 = k := by rw [Nat.min_comm] at hk; exact hk
  have hf := run_firstCells_some (P := P) w ti.size k ad m c us hl hus
  have hst := run_storeCells_at P g off e' us 0 cur w hg (by simpa using hfit) h1
  simp only [Nat.add_zero] at hst
  simp [Builtin.copy_, run_underlying ht, Builtin.lenOf, sizeOf, typeInfo, hi, h', hf, hst, goInt]
theorem srcB_rel (mem : Mem X B σ.bx σ.rw w M) {p : PV} {v : Value} {sz m k : Nat} {ys : List (List C)} (h : RelV w M p v) (hr : p.srcB σ = some (sz, m, ys)) (hky : k ≤ ys.length) :
    ∃ A c, v = .slice A m c ∧ (k = 0 ∨ ∃ ad us, A = some ad ∧ Flat w M.S sz (ys.take k) us ∧ ∀ j u, us[j]? = some u → w.cell? (ad.add j) = some u) := by
  have data : ∀ {sz : Nat} {es : List (List C)} {v : Value}, RowC w M.S sz es v → k ≤ es.length → ∃ A c, v = .slice A es.length c ∧ (k = 0 ∨ ∃ ad us, A = some ad ∧ Flat w M.S sz (es.take k) us ∧ ∀ j u, us[j]? = some u → w.cell? (ad.add j) = some u) := by
    intro sz es v hc hk
    obtain ⟨A, c, rfl, h2, h3⟩ := hc
    refine ⟨A, c, rfl, ?_⟩
    rcases Nat.eq_zero_or_pos k with h0 | h0
    · exact .inl h0
    · rcases h3 with rfl | ⟨ad, us, rfl, h4, h5, _⟩
      · simp at hk; omega
      · have := h4.part (lo := 0) (n := k) (by omega)
        simp only [Nat.zero_add, List.drop_zero, Nat.zero_mul] at this
        refine .inr ⟨ad, _, rfl, this, fun j u hj => ?_⟩
        rw [List.getElem?_take] at hj
        split at hj
        · exact h5 j u hj
        · cases hj
  have view : ∀ {r sz lo n : Nat} {es : List (List C)} {A A' : Option Addr} {mm c : Nat}, get? r σ.rw = some (sz, es) → (M.ρ r).v = .slice A mm c → lo + n ≤ c → (lo < c → A' = A.map fun a => a.add (lo * sz)) → k ≤ (es.drop lo).length → plainR es = true →
      ∃ A2 c2, Value.slice A' n (c - lo) = .slice A2 n c2 ∧ (k = 0 ∨ ∃ ad us, A2 = some ad ∧ Flat w M.S sz ((es.drop lo).take k) us ∧ ∀ j u, us[j]? = some u → w.cell? (ad.add j) = some u) := by
    intro r sz lo n es A A' mm c hq hρ hc hA hk hpl
    refine ⟨A', _, rfl, ?_⟩
    rcases Nat.eq_zero_or_pos k with h0 | h0
    · exact .inl h0
    · obtain ⟨_, hp, _⟩ := mem.row r _ es (get?_mem hq)
      have hp := hp.pl hpl
      rw [hρ] at hp
      rw [List.length_drop] at hk
      obtain ⟨A2, c2, h1, h2, h3⟩ := (priv_rowC hp).part (lo := lo) (n := k) (by omega) hA
      injection h1 with i1 i2 i3
      subst i1
      have e : (es.take (lo + k)).drop lo = (es.drop lo).take k := by rw [List.drop_take]; congr 1; omega
      rcases h3 with h3 | ⟨ad, us, rfl, h4, h5, _⟩
      · rw [e] at h3
        have := congrArg List.length h3
        simp at this; omega
      · rw [e] at h4
        exact .inr ⟨ad, us, rfl, h4, h5⟩
  unfold PV.srcB at hr
  split at hr
  · rename_i r
    split at hr
    · rename_i sz' es hq
      split at hr
      · rename_i hpl
        simp only [Option.some.injEq, Prod.mk.injEq] at hr
        obtain ⟨rfl, rfl, rfl⟩ := hr
        obtain ⟨_, hp, _⟩ := mem.row r _ es (get?_mem hq)
        rw [h.1]; exact data (priv_rowC (hp.pl hpl)) hky
      · cases hr
    · cases hr
  · rename_i r sz0 lo n
    split at hr
    · rename_i sz1 es1 hq
      split at hr
      · rename_i hl
        obtain ⟨hl, hpl⟩ := hl
        subst hl
        simp only [Option.some.injEq, Prod.mk.injEq] at hr
        obtain ⟨rfl, rfl, rfl⟩ := hr
        obtain ⟨A, m, c, A', hρ, hc, rfl, hA⟩ := h
        exact view hq hρ hc hA hky hpl
      · cases hr
    · cases hr
  · rename_i r sz0 lo n c0
    split at hr
    · rename_i sz1 es1 hq
      split at hr
      · rename_i hl
        obtain ⟨hl, hpl⟩ := hl
        subst hl
        simp only [Option.some.injEq, Prod.mk.injEq] at hr
        obtain ⟨rfl, rfl, rfl⟩ := hr
        obtain ⟨A, m, A', hρ, hc, rfl, hA⟩ := h
        exact view hq hρ hc hA hky hpl
      · cases hr
    · cases hr
  · simp only [Option.map_eq_some_iff, Prod.mk.injEq] at hr
    obtain ⟨⟨sz', es⟩, hq, rfl, rfl, rfl⟩ := hr
    exact data (rep_cells (row_rel h hq)) hky
theorem vwOf_rel {q : Q} {v : Value} {r sz lo n : Nat} (h : RelQ w M q v) (hq : q.vwOf = some (r, sz, lo, n)) : ∃ A m c A', (M.ρ r).v = .slice A m c ∧ lo + n ≤ c ∧ v = .slice A' n (c - lo) ∧ (lo < c → A' = A.map fun a => a.add (lo * sz)) := by
  cases q <;> simp only [Q.vwOf, Option.some.injEq, Prod.mk.injEq, reduceCtorEq] at hq
  · obtain ⟨rfl, rfl, rfl, rfl⟩ := hq; exact h
  · obtain ⟨rfl, rfl, rfl, rfl⟩ := hq
    obtain ⟨A, m, A', h⟩ := h
    exact ⟨A, m, _, A', h⟩
theorem cpy_wp (hs : Sim X n B w0 σ a w M) {o : Oper} {c : Call} (ho : o.op = .call c) {x0 y0 : Operand} {t t' e : TypeId} {x y : XO} {sz : Nat} (hcb : c.callee = .builtin .copy) (hca : c.args = #[x0, y0]) (hct : c.argTypes = #[t, t']) (hx : okO x0 x = true) (hy : okO y0 y = true)
    {ti : TypeInfo} (ht : P.underlying t = some (.slice e)) (hi : P.info? e = some ti) (hsz : ti.size = sz) (h0 : 0 < sz) (hdst : ∀ d, o.dst = some d → d < n)
    {vc : Prop} {σ' : St} (he : effK σ o.dst (.cpy x y sz) = some (vc, σ')) (hvc : vc) {next : Act → World → Prop} {E : Exit → Act → World → Prop} (hn : ∀ a' w' M', Sim X n B w0 σ' a' w' M' → next a' w') : o.wp P a w next E := by
  have hrun : ∀ v' w', (Builtin.copy_ #[t, t'] o.type #[a.eval x0, a.eval y0]).run P w = .ok v' w' → (execOp a.eval o).run P w = .ok (.value v') w' := fun v' w' h => by
    obtain ⟨dst, op, ty, pos, after, guard⟩ := o
    simp only at ho; subst ho
    simp only at h
    simp [execOp, resolve, hcb, hca, hct, invoke, builtin, h]
  have fin : ∀ {τ : St} {w' M'} {k : Nat}, Sim X n B w0 τ a w' M' → Sim X n B w0 (τ.put o.dst (.q (.c (.int .i64 k)))) (a.put o.dst (.int .i64 k)) w' M' := fun {τ w' M' k} h => h.put hdst (Up.refl h.mem.lt) (fun _ _ h => h.elim) h.mem (Rep.int _ _)
  simp only [effK] at he
  split at he
  · rename_i g q g' p e1 e2
    split at he
    · rename_i r sz1 lo n1 sz2 m ys hvw hsrc
      split at he
      · rename_i sz' es hq
        have main : g = true → g' = true → sz1 = sz → sz2 = sz → sz' = sz → min n1 m ≤ ys.length → lo ≤ es.length → ∀ (τ : St),
            (min n1 m = 0 → ∃ M', Sim X n B w0 τ a w M') →
            (0 < min n1 m → ∀ (us : List Value) A mm cp, (M.ρ r).v = .slice A mm cp → lo + min n1 m ≤ cp → Flat w M.S sz (ys.take (min n1 m)) us →
              ∃ gg N cap cur ee M', (M.ρ r).v = .slice (some ⟨gg, 0, none⟩) N cap ∧ es.length ≤ cap ∧ w.heap[gg]? = some (.cells cur ee (0, 0)) ∧ lo * sz + us.length ≤ cur.size ∧ Sim X n B w0 τ a (w.setRow gg (cur.toList.take (lo * sz) ++ us ++ cur.toList.drop (lo * sz + us.length)).toArray) M') →
            (∀ a' w' M', Sim X n B w0 (τ.put o.dst (.q (.c (.int .i64 (min n1 m : Nat))))) a' w' M' → next a' w') → o.wp P a w next E := by
          intro hg hg' h1 h2 h3 h4 h5 τ z1 z2 hn
          subst h1 h2 h3
          have rx := okO_rel (o := x0) (x := x) hs.tm hx (by rw [e1]; exact hg); rw [e1] at rx
          have ry := okO_rel (o := y0) (x := y) hs.tm hy (by rw [e2]; exact hg'); rw [e2] at ry
          obtain ⟨A, mm, cp, A', hρ, hc, hv, hA⟩ := vwOf_rel rx hvw
          obtain ⟨A2, c2, hv2, hus⟩ := srcB_rel hs.mem ry hsrc (k := min n1 m) h4
          rcases Nat.eq_zero_or_pos (min n1 m) with hk | hk
          · obtain ⟨M', hM⟩ := z1 hk
            refine upon_value (hrun _ _ (by rw [hv, hv2]; exact copy_none ht hi hk)) (hn _ _ M' ?_)
            rw [hk]; exact fin hM
          · obtain ⟨ad, us, rfl, hf, hcell⟩ := hus.resolve_left (by omega)
            obtain ⟨gg, N, cap, cur, ee, M', hρ2, hcap, hheap, hcur, hM⟩ := z2 hk us A mm cp hρ (by omega) hf
            rw [hρ] at hρ2; cases hρ2
            have hA2 := hA (by omega)
            simp only [Option.map_some, Addr.add_lit, Nat.zero_add] at hA2
            subst hA2
            have hlen : (ys.take (min n1 m)).length = min n1 m := by simp; omega
            refine upon_value (hrun _ _ (by rw [hv, hv2]; exact copy_some ht hi hheap (k := min n1 m) rfl (by rw [hf.2.1, hlen, hsz]) hcell hf.one hcur)) (hn _ _ M' (fin hM))
        split at he
        · rename_i hfit
          simp only [Option.some.injEq, Prod.mk.injEq] at he
          obtain ⟨rfl, rfl⟩ := he
          obtain ⟨hg, hg', h1, h2, h3, h4⟩ := hvc
          have hlen : (ys.take (min n1 m)).length = min n1 m := by simp; omega
          refine main hg hg' h1 h2 h3 h4 (by omega) _ (fun hk => ⟨M, ?_⟩) (fun hk us A mm cp hρ hc hf => ?_) hn
          · subst h3
            rw [hk, List.take_zero, List.append_nil, Nat.add_zero, List.take_append_drop]
            exact hs.updSame hq
          · subst h3
            obtain ⟨gg, N, cap, cur, ee, k1, k2, k3, k4, k5⟩ := row_write hs hq (o := lo) (ys := ys.take (min n1 m)) (by rw [hlen]; exact hfit) (by rw [hlen]; exact hk) hf
            rw [hlen] at k5
            exact ⟨gg, N, cap, cur, ee, M, k1, k2, k3, k4, k5⟩
        · rename_i hfit
          split at he
          · rename_i hB
            simp only [Option.some.injEq, Prod.mk.injEq] at he
            obtain ⟨rfl, rfl⟩ := he
            obtain ⟨hg, hg', h1, h2, h3, h4, h5⟩ := hvc
            have hlen : (ys.take (min n1 m)).length = min n1 m := by simp; omega
            refine main hg hg' h1 h2 h3 h4 h5 _ (fun hk => by omega) (fun hk us A mm cp hρ hc hf => ?_) hn
            subst h3
            obtain ⟨gg, N, cap, cur, ee, k1, k2, k3, k4, k5⟩ := row_grow hs hq hB h5 (by rw [hlen]; omega) (by rw [hlen]; exact hk) hρ (by rw [hlen]; exact hc) hf
            exact ⟨gg, N, cap, cur, ee, _, k1, k2, k3, k4, k5⟩
          · cases he
      · cases he
    · cases he
  · cases he
end
end Go.Proofs.Pw
