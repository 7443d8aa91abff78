/- FnExactValRead: the law, run. -/
import Derived.Test.YtgpjodcopajlkaaDoorPwT10
import Derived.Test.YtgpjodcopajlkaaDoorPwT11
import Derived.Test.YtgpjodcopajlkaaDoorPwT13
import Derived.Test.YtgpjodcopajlkaaDoorPwT20
import Derived.Test.YtgpjodcopajlkaaDoorPwT9
import Derived.ProofKit
import Derived.ChangeOld
import Derived.Below
import Derived.Carry
import Derived.SizedLaws
import Derived.ChangeArms
import Derived.ChangeVars
import Derived.WalkSmall
import Derived.LaidHandle
import Derived.ChangeSlices
import Derived.Lib.LaidTab
import Derived.LaidMore
import Derived.LaidLaws
set_option linter.unusedSimpArgs false
set_option linter.unusedVariables false
set_option linter.unusedSectionVars false
set_option maxRecDepth 20000
namespace Go.Proofs.Pw
variable [Globs]
def x_law : X := (.seq (.reg [⟨some 2, none, .mv (.k (.c (.bool false)))⟩] none [0]) (.seq (.seq (.reg [⟨some 11, none, .mv (.t 0)⟩, ⟨some 12, none, .len (.t 11) true⟩, ⟨some 13, none, .bin false .gtr (.t 12) (.k (.c (.int .i64 1048576)))⟩] none [0, 13]) (.cond (.t 13) (.seq (.reg [⟨some 2, none, .mv (.k (.c (.bool true)))⟩] none [2]) .ret) .skip)) (.seq (.reg [⟨some 15, none, .mv (.t 0)⟩, ⟨some 16, none, .call 14 [(.t 15)]⟩, ⟨some 14, none, .mv (.t 16)⟩, ⟨some 17, none, .ext (.t 14) 0⟩, ⟨some 18, none, .ext (.t 14) 1⟩, ⟨some 3, none, .alloc [(.c (.int .i64 0)), (.c (.int .i64 0)), (.c (.str ⟨#[]⟩)), (.z 1), (.z 5)]⟩, ⟨none, none, .st (.t 3) (.t 17) (some 5)⟩, ⟨some 4, none, .mv (.t 18)⟩] none [0, 3, 4]) (.seq (.reg [⟨some 20, none, .mv (.t 0)⟩, ⟨some 21, none, .call 11 [(.t 20)]⟩, ⟨some 19, none, .mv (.t 21)⟩, ⟨some 22, none, .ext (.t 19) 0⟩, ⟨some 23, none, .ext (.t 19) 1⟩, ⟨some 5, none, .alloc [(.c (.int .i64 0)), (.c (.int .i64 0)), (.c (.str ⟨#[]⟩)), (.z 1), (.z 5)]⟩, ⟨none, none, .st (.t 5) (.t 22) (some 5)⟩, ⟨some 6, none, .mv (.t 23)⟩] none [0, 3, 4, 5, 6]) (.seq (.seq (.reg [⟨some 24, none, .load (.t 5) (some 5)⟩, ⟨some 25, none, .load (.t 3) (some 5)⟩, ⟨some 26, none, .callb 15 [(.t 24), (.t 25)]⟩, ⟨some 27, none, .not (.t 26)⟩, ⟨some 28, none, .mv (.t 27)⟩, ⟨some 29, some (28, false), .mv (.t 6)⟩, ⟨some 30, some (28, false), .mv (.t 4)⟩, ⟨some 31, some (28, false), .bin true .neq (.t 29) (.t 30)⟩, ⟨some 32, none, .pick (.t 28) (.k (.c (.bool true))) (.t 31)⟩] none [0, 3, 4, 5, 32]) (.cond (.t 32) (.seq (.reg [⟨some 2, none, .mv (.k (.c (.bool false)))⟩] none [2]) .ret) .skip)) (.seq (.reg [⟨some 7, none, .mv (.k (.c (.int .i64 1)))⟩] none [0, 3, 4, 5, 7]) (.seq (.reg [⟨some 33, none, .load (.t 5) (some 5)⟩, ⟨some 34, none, .mv (.t 7)⟩, ⟨some 35, none, .callm 16 (.t 33) (.t 34)⟩, ⟨some 7, none, .mv (.t 35)⟩] none [0, 3, 4, 5, 7]) (.seq (.reg [⟨some 8, none, .mv (.k (.c (.int .i64 1)))⟩] none [0, 3, 4, 5, 7, 8]) (.seq (.reg [⟨some 36, none, .load (.t 5) (some 5)⟩, ⟨some 37, none, .mv (.t 8)⟩, ⟨some 38, none, .callb 17 [(.t 36), (.t 37)]⟩, ⟨some 8, none, .mv (.t 38)⟩] none [0, 3, 4, 5, 7, 8]) (.seq (.seq (.reg [⟨some 39, none, .mv (.t 8)⟩, ⟨some 40, none, .bin false .lss (.t 39) (.k (.c (.int .i64 0)))⟩] none [0, 3, 4, 5, 7, 8, 40]) (.cond (.t 40) (.seq (.reg [⟨some 2, none, .mv (.k (.c (.bool false)))⟩] none [2]) .ret) .skip)) (.seq (.seq (.reg [⟨some 41, none, .mv (.t 8)⟩, ⟨some 42, none, .mv (.t 7)⟩, ⟨some 43, none, .bin false .neq (.t 41) (.t 42)⟩] none [0, 3, 4, 5, 7, 43]) (.cond (.t 43) (.seq (.reg [⟨some 2, none, .mv (.k (.c (.bool false)))⟩] none [2]) .ret) .skip)) (.seq (.reg [⟨some 45, none, .mv (.t 0)⟩, ⟨some 46, none, .callw 11 [(.t 45)]⟩, ⟨some 44, none, .mv (.t 46)⟩, ⟨some 47, none, .ext (.t 44) 0⟩, ⟨some 48, none, .ext (.t 44) 1⟩, ⟨some 9, none, .alloc [(.c (.int .i64 0)), (.c (.int .i64 0)), (.c (.str ⟨#[]⟩)), (.z 1), (.z 5)]⟩, ⟨none, none, .st (.t 9) (.t 47) (some 5)⟩, ⟨some 10, none, .mv (.t 48)⟩] none [3, 4, 5, 7, 9, 10]) (.seq (.seq (.reg [⟨some 49, none, .load (.t 9) (some 5)⟩, ⟨some 50, none, .load (.t 3) (some 5)⟩, ⟨some 51, none, .callb 15 [(.t 49), (.t 50)]⟩, ⟨some 52, none, .not (.t 51)⟩, ⟨some 53, none, .mv (.t 52)⟩, ⟨some 54, some (53, false), .mv (.t 10)⟩, ⟨some 55, some (53, false), .mv (.t 4)⟩, ⟨some 56, some (53, false), .bin true .neq (.t 54) (.t 55)⟩, ⟨some 57, none, .pick (.t 53) (.k (.c (.bool true))) (.t 56)⟩] none [5, 7, 57]) (.cond (.t 57) (.seq (.reg [⟨some 2, none, .mv (.k (.c (.bool false)))⟩] none [2]) .ret) .skip)) (.seq (.reg [⟨some 8, none, .mv (.k (.c (.int .i64 1)))⟩] none [5, 7, 8]) (.seq (.reg [⟨some 58, none, .load (.t 5) (some 5)⟩, ⟨some 59, none, .mv (.t 8)⟩, ⟨some 60, none, .callb 17 [(.t 58), (.t 59)]⟩, ⟨some 8, none, .mv (.t 60)⟩] none [7, 8]) (.seq (.seq (.reg [⟨some 61, none, .mv (.t 8)⟩, ⟨some 62, none, .bin false .lss (.t 61) (.k (.c (.int .i64 0)))⟩] none [7, 8, 62]) (.cond (.t 62) (.seq (.reg [⟨some 2, none, .mv (.k (.c (.bool false)))⟩] none [2]) .ret) .skip)) (.seq (.seq (.reg [⟨some 63, none, .mv (.t 8)⟩, ⟨some 64, none, .mv (.t 7)⟩, ⟨some 65, none, .bin false .neq (.t 63) (.t 64)⟩] none [65]) (.cond (.t 65) (.seq (.reg [⟨some 2, none, .mv (.k (.c (.bool false)))⟩] none [2]) .ret) .skip)) (.seq (.reg [⟨some 2, none, .mv (.k (.c (.bool true)))⟩] none [2]) .ret))))))))))))))))))
theorem chk_law : chkX Tryd.prog 66 (Tryd.f4.body.getD .skip) x_law = true := by kernel_rfl
theorem rs_law : okRs Tryd.prog Tryd.f4.results.toList [.tmp 2] = true := by kernel_rfl
noncomputable def spLawVR  : Spec := Spec.of (ι := ByteArray) [false] (fun i => [.d (.one (.str i))]) (fun i => lenB 140737488355328 i.size) (fun _ => [.d (.one (.bool true))]) (fun _ => [.gone])
theorem spLawVR_inj : ∀ i j : ByteArray, (fun (i : ByteArray) => ([.d (.one (.str i))] : List AV)) i = (fun (i : ByteArray) => ([.d (.one (.str i))] : List AV)) j -> i = j := by
 intro s s' h
 simpa [strs_eq, T.enc_eq, encL_eq, F.enc_eq, encF_eq, Tk.enc_eq, encTk_eq, Gn.enc_eq, ints_eq] using h
theorem spLawVR_pre  (s : ByteArray) : (spLawVR).pre [.d (.one (.str s))] = (lenB 140737488355328 s.size) := Spec.of_pre' spLawVR_inj s
theorem spLawVR_res  (s : ByteArray) : (spLawVR).res [.d (.one (.str s))] = [.d (.one (.bool true))] := Spec.of_res spLawVR_inj s
theorem valT_okT (s : ByteArray) : okT (valT s) := by
 by_cases h : valOk s
 ·exact (valT_ok h).1
 ·rw [valT_no h]; exact okT_zero'
set_option maxHeartbeats 4000000 in
theorem lawVR_sound (hE : errK) (hK : tabK) : Sound Tryd.prog 4 spLawVR := by
 refine sound_fam (GOK.cons (l := [(11, spReadX), (15, spEqV), (16, spMkV), (17, spHdV)]) call_ValRead read_sound (GOK.cons (l := [(15, spEqV), (16, spMkV), (17, spHdV)]) call_ValReadI (readIX_sound hE hK) (GOK.cons (l := [(16, spMkV), (17, spHdV)]) call_eqVal eqV_sound (GOK.cons (l := [(17, spHdV)]) call_markVal mkV_sound (GOK.cons call_heldVal hdV_sound GOK.nil))))) Tryd.func4 (c := Tryd.f4.body.getD .skip) rfl (n := 66) rfl chk_law rs_law (fun _ => by simp) ?_ ?_
 ·exact spLawVR_inj
 ·intro s h1
  change lenB 140737488355328 s.size at h1
  simp only [lenB] at h1
  by_cases c1 : 1048576 < s.size
  ·have c1' : ((1048576 : Int) < (s.size : Int)) = True := eq_true (by omega)
   simp only [x_law, go_sem, seval, Prod.fst, rg, c1']
   repeat' (first | with_reducible assumption | with_reducible refine And.intro ?_ ?_ | intro _)
   all_goals first | omega | assumption | skip
  have c1' : ((1048576 : Int) < (s.size : Int)) = False := eq_false (by omega)
  have og := valT_okT s
  have ng := nmV_ok og
  have ng2 := nmV_nn (valT s)
  have fg := okT_fit og
  have fg1 : (valT s).fit 1048576 := T.fit_mono (by decide) fg
  have fg2 : (valT s).fit 140737488355328 := T.fit_mono (by decide) fg
  have fm := mkV_ok og
  have m1 := mkV_mk (valT s) 1
  have m2 := nmV_mk (valT s) 1
  have d2 : (1 + nmV (valT s) < 0) = False := eq_false (by omega)
  have fg3 := T.enc_len (valT s)
  have fg4 := T.enc_len (mkV (valT s) 1)
  have b1 : ∀ b : Bool, (b != b) = false := fun b => by cases b <;> rfl
  simp only [x_law, go_sem, seval, Prod.fst, rg, fg3, fg4, c1', d2, m1, m2, b1, agX_out, foldE, foldM, spRead_md, spRead_pre, spRead_alts, spRead_res, spRead_out, spReadX_md, spReadX_pre, spReadX_alts, spReadX_res, spReadX_out, spEqV_md, spEqV_pre, spEqV_alts, spEqV_res, spEqV_out, spMkV_md, spMkV_alts, spMkV_preX, spMkV_resX, spMkV_outX, spHdV_md, spHdV_pre, spHdV_alts, spHdV_res, spHdV_out, decide_true, Bool.not_true]
  repeat' (first | with_reducible assumption | with_reducible refine And.intro ?_ ?_ | intro _)
  all_goals first | omega | assumption | skip
end Go.Proofs.Pw
namespace Go.Proofs.Pw
open Go.RowKit
def Old (w : World) (g : Nat) : Prop := g < w.heap.size
theorem cell_lt {w : World} {a : Addr} {v : Value} (h : w.cell? a = some v) : a.block < w.heap.size := by
 unfold World.cell? at h
 rcases Nat.lt_or_ge a.block w.heap.size with hlt | hge
 ·exact hlt
 ·rw [Array.getElem?_eq_none hge] at h; simp at h
theorem law_calls [Globs] {P : Program} {f : FuncId} {sp : Spec} (h : Sound P f sp) {args : List AV} (hp : sp.pre args) (ha : sp.alts = none) (hr : sp.res args = [.d (.one (.bool true))]) {W : World} {vs : List Value} (hG : Gl W (Old W))
 (hA : All3 (RepA W (Old W)) args vs (args.map fun _ => fun _ => False)) : Calls P f vs.toArray W fun e w' => e = .returned (.bool true) /\ Below W.heap.size W w' := by
 refine (h args hp W (Old W) vs _ hG (fun _ h => h) (fun g hg => absurd hg Any_false) Apart_false hA).mono ?_
 rintro e w' ⟨r, o, hro, v, S', rfs, fps', rfl, g1, _, _, _, _, _, g8⟩
 obtain ⟨rfl, rfl⟩ := (Spec.may_none ha).1 hro
 rw [hr] at g1
 refine ⟨?_, ⟨g8.os, g8.tape, g8.output, g8.size, fun k hk => g8.block k hk Any_false⟩⟩
 cases rfs with
 | nil => exact absurd rfl g1.1
 | cons fp r => cases r with
   | nil =>
     obtain ⟨g1, _⟩ := g1
     cases g1; rfl
   | cons _ _ => exact absurd rfl g1.1
end Go.Proofs.Pw
namespace Go.Proofs.Pw
open Go.RowKit Go.ChangeShapes Go.WideShapes
section
variable {H : Type} {enc : TypeId × Value -> H} {P : Program} {W W' : World} {spare : Nat -> Bool} {held : Bool}
theorem trodAll_below (hl : laidOutB P = true) (hb : Below W.heap.size W W') : ∀ {ts : List TypeId} {vs : List Value} {ds : List (DataW H)} {p : List MemPlace}, DataW.TrodAll enc P W 0 (fun _ => true) true ts vs ds p ->
 (ts.all fun t => P.readableRec t && decide (t < P.types.size)) = true -> (∀ x ∈ p, x.block < W.heap.size) -> DataW.TrodAll enc P W' 0 (fun b => decide (b < W.heap.size)) true ts vs ds p := by
 intro ts
 induction ts with
 | nil =>
   intro vs ds p h _ _
   cases vs <;> cases ds <;> first | exact h | exact h.elim
 | cons t ts ih =>
   intro vs ds p h hr hp
   obtain ⟨v, vs', d, ds', p1, q, rfl, rfl, rfl, h1, h2⟩ := trodAll_cons h
   simp only [List.all_cons, Bool.and_eq_true, decide_eq_true_eq] at hr
   exact ⟨p1, q, Below.trod hl hr.1.1 hr.1.2 h1 hb (fun x hx => hp x (by simp [hx])), ih h2 hr.2 (fun x hx => hp x (by simp [hx])), rfl⟩
theorem trodVars_below (hl : laidOutB P = true) (hb : Below W.heap.size W W') : ∀ {ns : List String} {gs : List (DataW H)} {p : List MemPlace}, DataW.TrodVars enc P W (fun _ => true) ns gs p ->
 (ns.all fun n => match P.globalNamed n with | some g => (match P.globals[g]? with | some x => P.readableRec x.type && decide (x.type < P.types.size) | none => false) | none => false) = true -> (∀ x ∈ p, x.block < W.heap.size) ->
 DataW.TrodVars enc P W' (fun b => decide (b < W.heap.size)) ns gs p := by
 intro ns
 induction ns with
 | nil =>
   intro gs p h _ _
   cases gs <;> first | exact h | exact h.elim
 | cons n ns ih =>
   intro gs p h hr hp
   cases gs with
   | nil => exact h.elim
   | cons d gs =>
     obtain ⟨g, t, cs, fuel, p1, q, hg, ht, hv, hd, h2, rfl⟩ := h
     simp only [List.all_cons, Bool.and_eq_true, hg] at hr
     obtain ⟨hr2, hr3⟩ := hr
     have hr1 : g < W.heap.size := by
      unfold World.var? at hv
      simp only [hg, Option.bind_some] at hv
      split at hv
      ·rename_i h1; exact (Array.getElem?_eq_some_iff.1 h1).1
      ·cases hv
     simp only [Option.map_eq_some_iff] at ht
     obtain ⟨x, hx, rfl⟩ := ht
     simp only [hx, Bool.and_eq_true, decide_eq_true_eq] at hr2
     have hk : DataW.Trod enc P W 0 (fun _ => true) true x.type (.agg cs) d p1 := ⟨fuel, hd⟩
     obtain ⟨fuel', hd'⟩ := Below.trod hl hr2.1 hr2.2 hk hb (fun y hy => hp y (by simp [hy]))
     exact ⟨g, x.type, cs, fuel', p1, q, hg, by rw [hx]; rfl, var?_below hb hg hr1 hv, hd', ih h2 hr3 (fun y hy => hp y (by simp [hy])), rfl⟩
theorem law_post {f : Func} {s : ChangeSpec} {args : Array Value} {ds gs : List (DataW H)} {before : List MemPlace} {rt : TypeId} (hl : laidOutB P = true)
 (hW : DataW.Whole enc P f.params.toList s.vars false W args.toList ds gs before) (hrt : f.resultTypes.toList = [rt]) (hrb : P.underlying rt = some .bool) (hsz : f.resultTypes.size = 1)
 (hfn : s.fn H (ds ++ gs) = { results := [.lit (.bool true)], args := ds, vars := gs })
 (hp : (f.params.toList.all fun t => P.readableRec t && decide (t < P.types.size)) = true)
 (hv : (s.vars.all fun n => match P.globalNamed n with | some g => (match P.globals[g]? with | some x => P.readableRec x.type && decide (x.type < P.types.size) | none => false) | none => false) = true)
 (hb : Below W.heap.size W W') : s.post enc P f false true false false W args (.bool true) W' := by
 have hlt := hW.lt
 have hW' := hW
 obtain ⟨p, q, hA, hV, rfl, hfz, hnd⟩ := hW
 refine ⟨ds, gs, _, [], p, q, hW', ?_, ?_, ?_, hb.frame _, fun h => by cases h⟩
 ·rw [hfn, hrt, hsz]
  exact trodAll_mk1 (shut_bool hrb _)
 ·rw [hfn]; exact trodAll_below hl hb hA hp (fun x hx => hlt x (by simp [hx]))
 ·rw [hfn]; exact trodVars_below hl hb hV hv (fun x hx => hlt x (by simp [hx]))
end
end Go.Proofs.Pw
namespace Go.Proofs.Pw
open Go.RowKit Go.ChangeShapes Go.WideShapes
def RCells (W : World) (cs : List Value) (l : List C) : Prop := cs.length = l.length /\ ∀ (i : Nat) c, l[i]? = some c -> ∃ u, cs[i]? = some u /\ Rep W (Old W) c u
theorem RCells.append {W : World} {cs cs' : List Value} {l l' : List C} (h : RCells W cs l) (k : RCells W cs' l') : RCells W (cs ++ cs') (l ++ l') := by
 refine ⟨by simp [h.1, k.1], fun i c hi => ?_⟩
 by_cases hlt : i < l.length
 ·rw [List.getElem?_append_left hlt] at hi
  obtain ⟨u, h1, h2⟩ := h.2 i c hi
  exact ⟨u, by rw [List.getElem?_append_left (by rw [h.1]; exact hlt)]; exact h1, h2⟩
 ·rw [List.getElem?_append_right (by omega)] at hi
  obtain ⟨u, h1, h2⟩ := k.2 _ c hi
  exact ⟨u, by rw [List.getElem?_append_right (by rw [h.1]; omega), h.1]; exact h1, h2⟩
theorem rcells_one {W : World} {c : C} {v : Value} (h : Rep W (Old W) c v) : RCells W [v] [c] := by
 refine ⟨rfl, fun i c' hi => ?_⟩
 cases i with
 | zero => simp at hi; subst hi; exact ⟨v, rfl, h⟩
 | succ i => simp at hi
section
variable {H : Type} {enc : TypeId × Value -> H} {P : Program} {W : World} {spare : Nat -> Bool} {held : Bool} {fuel : Nat} {t : TypeId} {cs : List Value} {x : DataW H × List MemPlace}
def WB (P : Program) (t : TypeId) (d : DataW H) : Prop := ∀ n ∈ d.weights P t, n <= reachBytes
theorem read_str (ht : P.underlying t = some .string) (h : DataW.trod enc P W 0 spare held fuel t cs = some x) (hw : WB P t x.1) : ∃ s, RCells W cs [.str s] /\ s.size <= reachBytes := by
 obtain ⟨s, rfl, rfl, _⟩ := DataW.trod_string ht h
 refine ⟨s, rcells_one (.str s), ?_⟩
 have := hw s.data.toList.length (by simp [DataW.weights])
 simpa using this
end
section
variable {H : Type} {enc : TypeId × Value -> H} {P : Program} {W : World} {spare : Nat -> Bool} {held : Bool}
structure TyT (P : Program) (tI tS tK tV tL : TypeId) : Prop where
 i : P.underlying tI = some (.int .i64)
 s : P.underlying tS = some .string
 k : P.underlying tK = some (.slice tS)
 v : ∃ fs, P.underlying tV = some (.struct fs) /\ fs.toList.map (fun f => (f.type, f.offset)) = [(tI, 0), (tI, 1), (tS, 2), (tK, 3), (tL, 4)]
 l : P.underlying tL = some (.slice tV)
 c : P.cellsOf tI = 1 /\ P.cellsOf tS = 1 /\ P.cellsOf tK = 1 /\ P.cellsOf tV = 5 /\ P.cellsOf tL = 1
 b : 0 < P.bytesOf tS /\ 0 < P.bytesOf tV
variable {tI tS tK tV tL : TypeId}
theorem reach_le {n : Nat} (h : n <= reachBytes) : lenB 140737488355328 n := by unfold lenB; have := reachBytes_lt; omega
end
end Go.Proofs.Pw
namespace Go.Proofs.Pw
def bytes (bs : List Int) : Prop := (∀ b ∈ bs, 0 <= b /\ b <= 255) /\ lenB 140737488355328 bs.length
end Go.Proofs.Pw
namespace Go.Proofs.Pw
open Go.RowKit Go.ChangeShapes Go.WideShapes
section
variable {H : Type} {enc : TypeId × Value -> H} {P : Program} {W : World}
end
end Go.Proofs.Pw
namespace Go.Proofs.Pw
open Go.RowKit Go.ChangeShapes Go.WideShapes
end Go.Proofs.Pw
namespace Go.Proofs.Pw
open Go.RowKit Go.ChangeShapes Go.WideShapes
theorem laid_rest {P : Program} {W : World} {x : String × DataW Unit} {r : List (String × DataW Unit)} {ps : List MemPlace} (h : DataW.LaidVars P W (x :: r) ps) : ∃ ps', DataW.LaidVars P W r ps' := by
 obtain ⟨g', t', cs, fuel, p, q, hg', ht', hv, htr, hr, _⟩ := h
 exact ⟨q, hr⟩
theorem laid_tab {P : Program} {W : World} {nm : String} {d : DataW Unit} {ns : List Int} {r : List (String × DataW Unit)} {ps : List MemPlace} {g n : Nat} {t e : TypeId} {k : IntKind} (hg : P.globalNamed nm = some g) (ht : (P.globals[g]?).map (·.type) = some t)
 (hu : P.underlying t = some (.array n e)) (he : P.underlying e = some (.int k)) (hc : P.cellsOf e = 1) (hct : P.cellsOf t = n) (hd : d = Lib.tabData k ns) (h : DataW.LaidVars P W ((nm, d) :: r) ps) :
 Old W g /\ ∃ ty x, W.heap[g]? = some (.cells (ns.map fun z => Value.int k z).toArray ty x) := by
 obtain ⟨g', t', cs, fuel, p, q, hg', ht', hv, htr, hr, _⟩ := h
 obtain rfl := Option.some.inj (hg.symm.trans hg')
 obtain rfl := Option.some.inj (ht.symm.trans ht')
 subst hd
 have hcs := Lib.cells_of_tab hu he hc hct htr
 have hcs' : cs = (ns.map fun z => Value.int k z).toArray := by rw [<- hcs]
 unfold World.var? at hv
 rw [hg] at hv
 simp only [Option.bind_some] at hv
 split at hv
 ·rename_i cs' ty x hh
  cases hv
  refine ⟨?_, ty, x, by rw [hh, hcs']⟩
  rcases Nat.lt_or_ge g W.heap.size with h | h
  ·exact h
  ·rw [Array.getElem?_eq_none h] at hh; cases hh
 ·cases hv
end Go.Proofs.Pw
namespace Go.Proofs.Pw
open Go.RowKit Go.ChangeShapes Go.WideShapes
theorem laid_ifc {P : Program} {W : World} {nm name : String} {d : DataW Unit} {r : List (String × DataW Unit)} {ps : List MemPlace} {g : Nat} {t : TypeId} {ms : Array (String × TypeId)} (hg : P.globalNamed nm = some g) (ht : (P.globals[g]?).map (·.type) = some t)
 (hu : P.underlying t = some (.interface ms)) (h : DataW.LaidVars P W ((nm, .iface name d) :: r) ps) :
 Old W g /\ ∃ u, W.cell? ⟨g, 0, none⟩ = some u /\ Rep W (Old W) .ifc u := by
 obtain ⟨g', t', cs, fuel, p, q, hg', ht', hv, htr, hr, _⟩ := h
 obtain rfl := Option.some.inj (hg.symm.trans hg')
 obtain rfl := Option.some.inj (ht.symm.trans ht')
 obtain ⟨_, u, v, hcs, _, _⟩ := iface_of_trod hu htr
 have hcc := World.var?_cell hg hv 0
 rw [Array.eq_one_of_toList hcs] at hcc
 have hcc' : W.cell? ⟨g, 0, none⟩ = some (.iface u v) := by simpa using hcc
 exact ⟨cell_lt hcc', _, hcc', .ifc _ _⟩
end Go.Proofs.Pw
