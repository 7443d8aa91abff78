/- From what a law's arguments are told to be, to what is shown of its run. -/
import Derived.Test.YtalbhhciphpbeaaPwD
import Derived.ProofKit
import Derived.ChangeOld
import Derived.Below
import Derived.Carry
import Derived.SizedLaws
import Derived.ChangeArms
import Derived.ChangeVars
import Derived.WalkSmall
import Derived.LaidHandle
set_option linter.unusedSimpArgs false
set_option linter.unusedVariables false
namespace Go.Proofs.Pw
open Go.RowKit
set_option linter.unusedSectionVars false
/-- All blocks that are there. -/
def Old (w : World) (g : Nat) : Prop := g < w.heap.size
theorem cell_lt {w : World} {a : Addr} {v : Value} (h : w.cell? a = some v) : a.block < w.heap.size := by
  unfold World.cell? at h
  rcases Nat.lt_or_ge a.block w.heap.size with hlt | hge
  · exact hlt
  · rw [Array.getElem?_eq_none hge] at h; simp at h
/-- A law that holds of what it is handed, run in whatever world. -/
theorem law_calls [Globs] {P : Program} {f : FuncId} {sp : Spec} (h : Sound P f sp) {args : List AV} (hp : sp.pre args) (ha : sp.alts = none) (hr : sp.res args = [.d (.one (.bool true))]) {W : World} {vs : List Value} (hG : Gl W (Old W))
    (hA : All3 (RepA W (Old W)) args vs (args.map fun _ => fun _ => False)) : Calls P f vs.toArray W fun e w' => e = .returned (.bool true) ∧ Below W.heap.size W w' := by
  refine (h args hp W (Old W) vs _ hG (fun _ h => h) (fun g hg => absurd hg Any_false) Apart_false hA).mono ?_
  rintro e w' ⟨r, o, hro, v, S', rfs, fps', rfl, g1, _, _, _, _, _, g8⟩
  obtain ⟨rfl, rfl⟩ := (Spec.may_none ha).1 hro
  rw [hr] at g1
  refine ⟨?_, ⟨g8.os, g8.tape, g8.output, g8.size, fun k hk => g8.block k hk Any_false⟩⟩
  cases rfs with
  | nil => exact absurd rfl g1.1
  | cons fp r => cases r with
    | nil =>
      obtain ⟨g1, _⟩ := g1
      cases g1; rfl
    | cons _ _ => exact absurd rfl g1.1
end Go.Proofs.Pw
/- Arguments with depth: what they read as, and that they read so still. -/
namespace Go.Proofs.Pw
open Go.RowKit Go.ChangeShapes Go.WideShapes
set_option linter.unusedSectionVars false
section
variable {H : Type} {enc : TypeId × Value → H} {P : Program} {W W' : World} {spare : Nat → Bool} {held : Bool}
theorem trodAll_below (hl : laidOutB P = true) (hb : Below W.heap.size W W') : ∀ {ts : List TypeId} {vs : List Value} {ds : List (DataW H)} {p : List MemPlace}, DataW.TrodAll enc P W 0 (fun _ => true) true ts vs ds p →
    (ts.all fun t => P.readableRec t && decide (t < P.types.size)) = true → (∀ x ∈ p, x.block < W.heap.size) → DataW.TrodAll enc P W' 0 (fun b => decide (b < W.heap.size)) true ts vs ds p := by
  intro ts
  induction ts with
  | nil =>
    intro vs ds p h _ _
    cases vs <;> cases ds <;> first | exact h | exact h.elim
  | cons t ts ih =>
    intro vs ds p h hr hp
    obtain ⟨v, vs', d, ds', p1, q, rfl, rfl, rfl, h1, h2⟩ := trodAll_cons h
    simp only [List.all_cons, Bool.and_eq_true, decide_eq_true_eq] at hr
    exact ⟨p1, q, Below.trod hl hr.1.1 hr.1.2 h1 hb (fun x hx => hp x (by simp [hx])), ih h2 hr.2 (fun x hx => hp x (by simp [hx])), rfl⟩
theorem trodVars_below (hl : laidOutB P = true) (hb : Below W.heap.size W W') : ∀ {ns : List String} {gs : List (DataW H)} {p : List MemPlace}, DataW.TrodVars enc P W (fun _ => true) ns gs p →
    (ns.all fun n => match P.globalNamed n with | some g => (match P.globals[g]? with | some x => P.readableRec x.type && decide (x.type < P.types.size) | none => false) | none => false) = true → (∀ x ∈ p, x.block < W.heap.size) →
    DataW.TrodVars enc P W' (fun b => decide (b < W.heap.size)) ns gs p := by
  intro ns
  induction ns with
  | nil =>
    intro gs p h _ _
    cases gs <;> first | exact h | exact h.elim
  | cons n ns ih =>
    intro gs p h hr hp
    cases gs with
    | nil => exact h.elim
    | cons d gs =>
      obtain ⟨g, t, cs, fuel, p1, q, hg, ht, hv, hd, h2, rfl⟩ := h
      simp only [List.all_cons, Bool.and_eq_true, hg] at hr
      obtain ⟨hr2, hr3⟩ := hr
      have hr1 : g < W.heap.size := by
        unfold World.var? at hv
        simp only [hg, Option.bind_some] at hv
        split at hv
        · rename_i h1; exact (Array.getElem?_eq_some_iff.1 h1).1
        · cases hv
      simp only [Option.map_eq_some_iff] at ht
      obtain ⟨x, hx, rfl⟩ := ht
      simp only [hx, Bool.and_eq_true, decide_eq_true_eq] at hr2
      have hk : DataW.Trod enc P W 0 (fun _ => true) true x.type (.agg cs) d p1 := ⟨fuel, hd⟩
      obtain ⟨fuel', hd'⟩ := Below.trod hl hr2.1 hr2.2 hk hb (fun y hy => hp y (by simp [hy]))
      exact ⟨g, x.type, cs, fuel', p1, q, hg, by rw [hx]; rfl, var?_below hb hg hr1 hv, hd', ih h2 hr3 (fun y hy => hp y (by simp [hy])), rfl⟩
/-- What is left behind a law that gives true, and has turned nothing that was there. -/
theorem law_post {f : Func} {s : ChangeSpec} {args : Array Value} {ds gs : List (DataW H)} {before : List MemPlace} {rt : TypeId} (hl : laidOutB P = true)
    (hW : DataW.Whole enc P f.params.toList s.vars false W args.toList ds gs before) (hrt : f.resultTypes.toList = [rt]) (hrb : P.underlying rt = some .bool) (hsz : f.resultTypes.size = 1)
    (hfn : s.fn H (ds ++ gs) = { results := [.lit (.bool true)], args := ds, vars := gs })
    (hp : (f.params.toList.all fun t => P.readableRec t && decide (t < P.types.size)) = true)
    (hv : (s.vars.all fun n => match P.globalNamed n with | some g => (match P.globals[g]? with | some x => P.readableRec x.type && decide (x.type < P.types.size) | none => false) | none => false) = true)
    (hb : Below W.heap.size W W') : s.post enc P f false true false false W args (.bool true) W' := by
  have hlt := hW.lt
  have hW' := hW
  obtain ⟨p, q, hA, hV, rfl, hfz, hnd⟩ := hW
  refine ⟨ds, gs, _, [], p, q, hW', ?_, ?_, ?_, hb.frame _, fun h => by cases h⟩
  · rw [hfn, hrt, hsz]
    exact trodAll_mk1 (shut_bool hrb _)
  · rw [hfn]; exact trodAll_below hl hb hA hp (fun x hx => hlt x (by simp [hx]))
  · rw [hfn]; exact trodVars_below hl hb hV hv (fun x hx => hlt x (by simp [hx]))
end
end Go.Proofs.Pw
/- What a reading says of the cells: trees. -/
namespace Go.Proofs.Pw
open Go.RowKit Go.ChangeShapes Go.WideShapes
set_option linter.unusedSectionVars false
def RCells (W : World) (cs : List Value) (l : List C) : Prop := cs.length = l.length ∧ ∀ (i : Nat) c, l[i]? = some c → ∃ u, cs[i]? = some u ∧ Rep W (Old W) c u
theorem RCells.append {W : World} {cs cs' : List Value} {l l' : List C} (h : RCells W cs l) (k : RCells W cs' l') : RCells W (cs ++ cs') (l ++ l') := by
  refine ⟨by simp [h.1, k.1], fun i c hi => ?_⟩
  by_cases hlt : i < l.length
  · rw [List.getElem?_append_left hlt] at hi
    obtain ⟨u, h1, h2⟩ := h.2 i c hi
    exact ⟨u, by rw [List.getElem?_append_left (by rw [h.1]; exact hlt)]; exact h1, h2⟩
  · rw [List.getElem?_append_right (by omega)] at hi
    obtain ⟨u, h1, h2⟩ := k.2 _ c hi
    exact ⟨u, by rw [List.getElem?_append_right (by rw [h.1]; omega), h.1]; exact h1, h2⟩
theorem rcells_one {W : World} {c : C} {v : Value} (h : Rep W (Old W) c v) : RCells W [v] [c] := by
  refine ⟨rfl, fun i c' hi => ?_⟩
  cases i with
  | zero => simp at hi; subst hi; exact ⟨v, rfl, h⟩
  | succ i => simp at hi
theorem list_choose {α : Type} {Q : Nat → α → Prop} : ∀ (n : Nat), (∀ i, i < n → ∃ a, Q i a) → ∃ l : List α, l.length = n ∧ ∀ i a, l[i]? = some a → Q i a := by
  intro n
  induction n with
  | zero => intro _; exact ⟨[], rfl, by simp⟩
  | succ n ih =>
    intro h
    obtain ⟨l, h1, h2⟩ := ih (fun i hi => h i (by omega))
    obtain ⟨a, ha⟩ := h n (by omega)
    refine ⟨l ++ [a], by simp [h1], fun i b hi => ?_⟩
    by_cases hlt : i < n
    · rw [List.getElem?_append_left (by omega)] at hi; exact h2 i b hi
    · rw [List.getElem?_append_right (by omega)] at hi
      have : i - l.length = 0 := by
        have := (List.getElem?_eq_some_iff.1 hi).1
        simp at this; omega
      rw [this] at hi; simp at hi; subst hi
      rw [show i = n by omega]; exact ha
section
variable {H : Type} {enc : TypeId × Value → H} {P : Program} {W : World} {spare : Nat → Bool} {held : Bool} {fuel : Nat} {t : TypeId} {cs : List Value} {x : DataW H × List MemPlace}
def WB (P : Program) (t : TypeId) (d : DataW H) : Prop := ∀ n ∈ d.weights P t, n ≤ reachBytes
theorem mem_weightsAll {e : TypeId} {d : DataW H} : ∀ {l : List (DataW H)}, d ∈ l → ∀ n ∈ d.weights P e, n ∈ DataW.weightsAll P e l := by
  intro l
  induction l with
  | nil => intro h; cases h
  | cons y l ih =>
    intro h n hn
    simp only [DataW.weightsAll, List.mem_append]
    rcases List.mem_cons.1 h with rfl | h
    · exact .inl hn
    · exact .inr (ih h n hn)
theorem read_int {k : IntKind} (ht : P.underlying t = some (.int k)) (h : DataW.trod enc P W 0 spare held fuel t cs = some x) : ∃ n, RCells W cs [.int k n] ∧ (Lit.int k n).wf = true := by
  obtain ⟨n, rfl, _, hw⟩ := DataW.trod_int ht h
  exact ⟨n, rcells_one (.int k n), hw⟩
theorem read_str (ht : P.underlying t = some .string) (h : DataW.trod enc P W 0 spare held fuel t cs = some x) (hw : WB P t x.1) : ∃ s, RCells W cs [.str s] ∧ s.size ≤ reachBytes := by
  obtain ⟨s, rfl, rfl, _⟩ := DataW.trod_string ht h
  refine ⟨s, rcells_one (.str s), ?_⟩
  have := hw s.data.toList.length (by simp [DataW.weights])
  simpa using this
theorem read_slice {e : TypeId} {α : Type} (en : α → List C) (Good : α → Prop) {sz : Nat} (ht : P.underlying t = some (.slice e)) (hsz : P.cellsOf e = sz) (h0 : 0 < sz) (hby : 0 < P.bytesOf e)
    (helem : ∀ n cs' (y : DataW H × List MemPlace), n < fuel → DataW.trod enc P W 0 spare held n e cs' = some y → WB P e y.1 → ∃ a, RCells W cs' (en a) ∧ Good a)
    (h : DataW.trod enc P W 0 spare held fuel t cs = some x) (hw : WB P t x.1) : ∃ l : List α, RCells W cs [.row sz (l.map en)] ∧ l.length ≤ reachBytes ∧ ∀ a ∈ l, Good a := by
  subst hsz
  rcases DataW.trod_slice ht h with ⟨rfl, rfl⟩ | ⟨a, len, cap, elems, rest, n, rfl, rfl, rfl, hb, hl, hm, hlen, hel, hsp, hns⟩
  · exact ⟨[], rcells_one (.nil ..), by simp, by simp⟩
  · have hlen2 : len ≤ reachBytes := by
      have := hw ((elems.length + rest.length) * P.bytesOf e) (by simp [DataW.weights, ht])
      have h2 := Nat.le_mul_of_pos_right (elems.length + rest.length) hby
      omega
    have each : ∀ i, i < len → ∃ α' : α, ∃ cs', W.cells? 0 (a.add (i * P.cellsOf e)) (P.cellsOf e) = some cs' ∧ RCells W cs' (en α') ∧ Good α' := fun i hi => by
      have h1 := hel i hi
      rw [List.getElem?_eq_getElem (by omega), Option.bind_eq_some_iff] at h1
      obtain ⟨cs', h2, h3⟩ := h1
      obtain ⟨α', h4, h5⟩ := helem n cs' _ (Nat.lt_succ_self n) h3 (fun m hm => hw m (by
        simp only [DataW.weights, ht, List.mem_cons, List.mem_append]
        exact .inr (.inl (mem_weightsAll (List.mem_map.2 ⟨_, List.getElem_mem (by omega), rfl⟩) m hm))))
      exact ⟨α', cs', h2, h4, h5⟩
    obtain ⟨l, hl1, hl2⟩ := list_choose len each
    refine ⟨l, rcells_one ?_, by omega, fun b hb => ?_⟩
    · rcases Nat.eq_zero_or_pos len with h0' | h0'
      · subst h0'
        have : l = [] := List.eq_nil_of_length_eq_zero hl1
        subst this; exact .nil ..
      · have key : ∀ (i j : Nat) e' c, (l.map en)[i]? = some e' → e'[j]? = some c → W.cell? (a.add (i * P.cellsOf e + j)) = some ((W.cell? (a.add (i * P.cellsOf e + j))).getD undef) ∧ Rep W (Old W) c ((W.cell? (a.add (i * P.cellsOf e + j))).getD undef) := fun i j e' c he hj => by
          simp only [List.getElem?_map, Option.map_eq_some_iff] at he
          obtain ⟨b, hb, rfl⟩ := he
          obtain ⟨cs', h1, h2, _⟩ := hl2 i b hb
          obtain ⟨u, h3, h4⟩ := h2.2 j c hj
          obtain ⟨_, h5, h6⟩ := World.cells?_some h1
          have hj' : j < P.cellsOf e := by rw [← h5]; exact (List.getElem?_eq_some_iff.1 h3).1
          have h7 := h6 j hj'
          rw [add_add] at h7
          rw [h3] at h7
          rw [h7]; exact ⟨rfl, h4⟩
        have := Rep.row (w := W) (S := Old W) (P.cellsOf e) (l.map en) a cap (fun k => (W.cell? (a.add k)).getD undef) (by simp; omega) (by
          obtain ⟨b, hb⟩ : ∃ b, l[0]? = some b := ⟨l[0], by simp⟩
          obtain ⟨cs', h1, h2, _⟩ := hl2 0 b hb
          obtain ⟨_, h5, h6⟩ := World.cells?_some h1
          have h7 := h6 0 h0
          rw [List.getElem?_eq_getElem (by omega)] at h7
          have := cell_lt h7
          rwa [add_block, add_block] at this) (fun i e' he => by
          simp only [List.getElem?_map, Option.map_eq_some_iff] at he
          obtain ⟨b, hb, rfl⟩ := he
          obtain ⟨cs', h1, h2, _⟩ := hl2 i b hb
          obtain ⟨_, h5, _⟩ := World.cells?_some h1
          rw [← h2.1, h5]) (fun i j e' c he hj => (key i j e' c he hj).1) (fun i j e' c he hj => (key i j e' c he hj).2)
        rw [List.length_map, hl1] at this
        exact this
    · obtain ⟨i, hi⟩ := List.getElem?_of_mem hb
      obtain ⟨_, _, _, h⟩ := hl2 i b hi
      exact h
end
theorem rc_step {W : World} {cs : List Value} {o n : Nat} {l l' : List C} (h : RCells W ((cs.drop o).take n) l) (k : RCells W (cs.drop (o + n)) l') : RCells W (cs.drop o) (l ++ l') := by
  have := h.append k
  rwa [show cs.drop (o + n) = (cs.drop o).drop n by rw [List.drop_drop], List.take_append_drop] at this
theorem rc_end {W : World} {cs : List Value} {o : Nat} (h : cs.length = o) : RCells W (cs.drop o) [] := by
  subst h; rw [List.drop_length]; exact ⟨rfl, by simp⟩
theorem fitL_ofV {B : Int} {l : List T} (h : ∀ t ∈ l, t.fit B) : fitL B l := by
  induction l with
  | nil => exact trivial
  | cons x l ih => exact ⟨h x (by simp), ih (fun t ht => h t (by simp [ht]))⟩
theorem wf_i64 {n : Int} (h : (Lit.int .i64 n).wf = true) : i64 n := by
  simp only [Lit.wf, Bool.and_eq_true, decide_eq_true_eq] at h
  simp only [IntKind.min, IntKind.max, IntKind.signed, IntKind.bits] at h
  unfold i64; simp at h; omega
section
variable {H : Type} {enc : TypeId × Value → H} {P : Program} {W : World} {spare : Nat → Bool} {held : Bool}
theorem read_fields {fuel : Nat} {t : TypeId} {cs : List Value} {x : DataW H × List MemPlace} {fs : Array Field} {l : List (TypeId × Nat)} (ht : P.underlying t = some (.struct fs)) (hfs : fs.toList.map (fun f => (f.type, f.offset)) = l)
    (h : DataW.trod enc P W 0 spare held fuel t cs = some x) (hw : WB P t x.1) : cs.length = P.cellsOf t ∧ ∃ n, n < fuel ∧ ∀ (i : Nat) ty off, l[i]? = some (ty, off) →
      ∃ y, DataW.trod enc P W 0 spare held n ty ((cs.drop off).take (P.cellsOf ty)) = some y ∧ WB P ty y.1 := by
  obtain ⟨xs, n, rfl, rfl, h1, h2, h3⟩ := DataW.trod_struct ht h
  refine ⟨h1, n, Nat.lt_succ_self n, fun i ty off hi => ?_⟩
  rw [← hfs] at hi
  simp only [List.getElem?_map, Option.map_eq_some_iff] at hi
  obtain ⟨f, hf, he⟩ := hi
  cases he
  have hf' : fs[i]? = some f := by simpa using hf
  have h4 := h3 i f hf'
  have hlt : i < xs.length := by rw [h2]; exact (Array.getElem?_eq_some_iff.1 hf').1
  rw [List.getElem?_eq_getElem hlt] at h4
  refine ⟨_, h4, fun m hm => hw m ?_⟩
  simp only [DataW.weights, ht]
  exact DataW.weights_mem_each (j := i) (t := f.type) (d := (xs[i]).1) (by simp [hf]) (by simp [hlt]) m hm
/-- The types of trees. -/
structure TyT (P : Program) (tI tS tK tV tL : TypeId) : Prop where
  i : P.underlying tI = some (.int .i64)
  s : P.underlying tS = some .string
  k : P.underlying tK = some (.slice tS)
  v : ∃ fs, P.underlying tV = some (.struct fs) ∧ fs.toList.map (fun f => (f.type, f.offset)) = [(tI, 0), (tI, 1), (tS, 2), (tK, 3), (tL, 4)]
  l : P.underlying tL = some (.slice tV)
  c : P.cellsOf tI = 1 ∧ P.cellsOf tS = 1 ∧ P.cellsOf tK = 1 ∧ P.cellsOf tV = 5 ∧ P.cellsOf tL = 1
  b : 0 < P.bytesOf tS ∧ 0 < P.bytesOf tV
variable {tI tS tK tV tL : TypeId}
theorem reach_le {n : Nat} (h : n ≤ reachBytes) : lenB 140737488355328 n := by unfold lenB; have := reachBytes_lt; omega
theorem read_T (T0 : TyT P tI tS tK tV tL) : ∀ (fuel : Nat) (cs : List Value) (x : DataW H × List MemPlace), DataW.trod enc P W 0 spare held fuel tV cs = some x → WB P tV x.1 →
    ∃ t : T, RCells W cs t.enc ∧ t.fit 140737488355328 := by
  intro fuel
  induction fuel using Nat.strongRecOn with
  | ind fuel ih =>
    intro cs x h hw
    obtain ⟨fs, hv, hfs⟩ := T0.v
    obtain ⟨c1, c2, c3, c4, c5⟩ := T0.c
    obtain ⟨hlen, n, hn, hf⟩ := read_fields hv hfs h hw
    obtain ⟨y0, k0, w0⟩ := hf 0 tI 0 rfl
    obtain ⟨y1, k1, w1⟩ := hf 1 tI 1 rfl
    obtain ⟨y2, k2, w2⟩ := hf 2 tS 2 rfl
    obtain ⟨y3, k3, w3⟩ := hf 3 tK 3 rfl
    obtain ⟨y4, k4, w4⟩ := hf 4 tL 4 rfl
    rw [c1] at k0 k1; rw [c2] at k2; rw [c3] at k3; rw [c5] at k4
    obtain ⟨kk, r0, f0⟩ := read_int T0.i k0
    obtain ⟨nn, r1, f1⟩ := read_int T0.i k1
    obtain ⟨s, r2, f2⟩ := read_str T0.s k2 w2
    obtain ⟨ks, r3, f3, f3'⟩ := read_slice (fun s : ByteArray => [C.str s]) (fun s => s.size ≤ reachBytes) T0.k c2 (by omega) T0.b.1 (fun n cs' y _ h hw => read_str T0.s h hw) k3 w3
    obtain ⟨l, r4, f4, f4'⟩ := read_slice T.enc (fun t => t.fit 140737488355328) T0.l c4 (by omega) T0.b.2 (fun m cs' y hm h hw => ih m (by omega) cs' y h hw) k4 w4
    refine ⟨.mk kk nn s ks l, ?_, ?_⟩
    · have e : RCells W (cs.drop 0) (T.mk kk nn s ks l).enc := by
        have h5 := rc_step r4 (rc_end (o := 4 + 1) (by rw [hlen, c4]))
        have h4 := rc_step r3 h5
        have h3 := rc_step r2 h4
        have h2 := rc_step r1 h3
        have h1 := rc_step r0 h2
        simpa [T.enc, strs, encL_map] using h1
      simpa using e
    · exact ⟨wf_i64 f0, wf_i64 f1, reach_le f2, ⟨reach_le f3, fun s hs => reach_le (f3' s hs)⟩, reach_le f4, fitL_ofV f4'⟩
theorem rcells_agg {us : Array Value} {l : List C} (h : RCells W us.toList l) : RepD W (Old W) (.agg l) (.agg us) :=
  ⟨us, rfl, by simpa using h.1, fun i c hi => by obtain ⟨u, h1, h2⟩ := h.2 i c hi; exact ⟨u, by simpa using h1, h2⟩⟩
end
end Go.Proofs.Pw
