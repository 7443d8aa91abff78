/- FnValText: for every input the law returns true, and its arguments read as they read; no condition. Printed by mkc.py. -/
import Derived.Test.YtgpjodcopajlkaaDoorPwT21
import Derived.Test.YtgpjodcopajlkaaDoorRows
import Derived.Test.YtgpjodcopajlkaaDoorTie
import Derived.Test.YtgpjodcopajlkaaDoorCards
import Derived.ProofKit
import Derived.LaidMore
import Derived.OpenShut
import Derived.SevenTiedAt
import Derived.MakeChecks
import Derived.SizedLaws
set_option linter.unusedSimpArgs false
set_option linter.unusedVariables false
namespace Go.Proofs.YtgpjodcopajlkaaDoor
open Go.ChangeShapes Go.WideShapes Go.ChangeAt Go.RowKit Go.Proofs.Pw
instance globs : Globs := ⟨[(0, C.ifc), (1, C.ifc)], [(2, Lib.pow10Tab.map (fun z => Value.int .u64 z))]⟩
theorem own : ownKnob Tryd.prog.godebug = none := by kernel_rfl
theorem laidOut : laidOutB Tryd.prog = true := by kernel_rfl
theorem gTab : Tryd.prog.globalNamed "internal/strconv.uint64pow10" = some 2 := by kernel_rfl
theorem tTab : (Tryd.prog.globals[2]?).map (·.type) = some 138 := by kernel_rfl
theorem gRng : Tryd.prog.globalNamed "strconv.ErrRange" = some 1 := by kernel_rfl
theorem tRng : (Tryd.prog.globals[1]?).map (·.type) = some 72 := by kernel_rfl
theorem gSyn : Tryd.prog.globalNamed "strconv.ErrSyntax" = some 0 := by kernel_rfl
theorem tSyn : (Tryd.prog.globals[0]?).map (·.type) = some 72 := by kernel_rfl
theorem hTab : tabK := ⟨2, gTab, List.mem_singleton.2 rfl⟩
theorem hErr : errK := ⟨List.mem_cons_self, List.mem_cons_of_mem _ (List.mem_cons_self)⟩
theorem door_met (os : Os) (args : Array Value) : laidMetH Tryd.prog Rows.fnValTextRow.laid ((World.doorLaid Tryd.prog 62 os).forCall (fun _ _ => 0) ⟨#[], args, []⟩).memory :=
 laidMetH_of_parts3 (fuel := 8) (laidMet_of_run' 8 (by kernel_rfl) (by kernel_rfl)) (by kernel_rfl) (by kernel_rfl)
theorem gl_of {W : World} (h : laidMetH Tryd.prog Rows.fnValTextRow.laid W) : Gl W (Old W) := by
 rw [MakeChecks.laidMetH_plain _ _ _ (by kernel_rfl)] at h
 obtain ⟨ps, hl0, _⟩ := h
 obtain ⟨ps1, hl1⟩ := laid_rest hl0
 obtain ⟨ps2, hl2⟩ := laid_rest hl1
 obtain ⟨ps3, hl3⟩ := laid_rest hl2
 obtain ⟨ps4, hl4⟩ := laid_rest hl3
 have h_gTab := laid_tab (ns := Lib.pow10Tab) gTab tTab Tryd.underlying138 Tryd.underlying120 (by kernel_rfl) (by kernel_rfl) rfl hl2
 have h_gRng := laid_ifc gRng tRng Tryd.underlying72 hl3
 have h_gSyn := laid_ifc gSyn tSyn Tryd.underlying72 hl4
 refine ⟨fun i c hi => ?_, fun i cs hi => ?_⟩
 ·have hi' : (i, c) ∈ [(0, C.ifc), (1, C.ifc)] := hi
  simp only [List.mem_cons, List.not_mem_nil, or_false, Prod.mk.injEq] at hi'
  rcases hi' with ⟨rfl, rfl⟩ | ⟨rfl, rfl⟩
  ·exact h_gSyn
  ·exact h_gRng
 ·have hi' : (i, cs) ∈ [(2, Lib.pow10Tab.map (fun z => Value.int .u64 z))] := hi
  simp only [List.mem_singleton, Prod.mk.injEq] at hi'
  obtain ⟨rfl, rfl⟩ := hi'
  exact h_gTab
set_option maxRecDepth 100000 in
set_option maxHeartbeats 1000000 in
theorem lifted (os : Os) (started : os.Started) (H : Type) (enc : TypeId × Value -> H) :
 ReturnsInHanded {} Tryd.checked os 3 .any (fun w args => (Rows.fnValTextSpec.pre enc Tryd.prog Tryd.f3 [] false w args /\ laidMetH Tryd.prog Rows.fnValTextRow.laid w) /\ sizedMet enc Tryd.prog Tryd.f3 (OpenSpec.ofChange Rows.fnValTextSpec) false w args)
  (Rows.fnValTextSpec.post enc Tryd.prog Tryd.f3 false true false false) := by
 refine returnsInHanded_of_change_and (C := Tryd.checked) (X := fun w _ => laidMetH Tryd.prog Rows.fnValTextRow.laid w) (fun _ _ _ hh h => h.of_heap hh) own started (by kernel_rfl) Tryd.func3
  (ChangeSpec.witness_shaped (enc := enc) (C := Tryd.checked) (os := os) (X := fun w _ => laidMetH Tryd.prog Rows.fnValTextRow.laid w) false (World.doorLaid Tryd.prog 62 os) #[.slice none 0 0, .slice none 0 0] 8 rfl (World.shaped_of_RefB (by kernel_rfl) (by kernel_rfl)) (by kernel_rfl) (by kernel_rfl) (by kernel_rfl) (door_met os _)) ?_
 intro W base args ds gs before hval0 hW _ hsz0 hL _
 have hsz : (DataW.weightsEach Tryd.prog (Tryd.f3.params.toList ++ Rows.fnValTextSpec.plain.varTypes Tryd.prog) (ds ++ gs)).all (· <= reachBytes) = true := hsz0
 have hval : ∀ (j : Nat) t v, Tryd.f3.params[j]? = some t -> args[j]? = some v -> Value.okWide Tryd.prog W .any base t v := hval0
 have hW' : DataW.Whole enc Tryd.prog Tryd.f3.params.toList Rows.fnValTextSpec.vars false W args.toList ds gs before := hW
 obtain ⟨p, q, hA0, hV, _, _, _⟩ := hW
 have hA : DataW.TrodAll enc Tryd.prog W 0 (fun _ => true) true Tryd.f3.params.toList args.toList ds p := hA0
 rw [Tryd.params3] at hA hval hsz
 obtain ⟨v0, v1, d0, d1, p0, p1, rfl, rfl, _, h0, h1⟩ := trodAll_two hA
 obtain ⟨rfl, _⟩ := trodVars_none hV
 obtain ⟨a0, r0, b0⟩ := read_bytes (j := 0) Tryd.underlying22 Tryd.underlying5 (by kernel_rfl) (of_decide_eq_true (by kernel_rfl)) (hval 0 22 v0 rfl rfl) h0 hsz rfl rfl
 obtain ⟨a1, r1, b1⟩ := read_bytes (j := 1) Tryd.underlying22 Tryd.underlying5 (by kernel_rfl) (of_decide_eq_true (by kernel_rfl)) (hval 1 22 v1 rfl rfl) h1 hsz rfl rfl
 have hrun := law_calls (lawVT_sound hErr hTab) (args := [.d (.one (.row 1 (ints .u8 a0))), .d (.one (.row 1 (ints .u8 a1)))]) (W := W) (vs := [v0, v1]) (by rw [spLawVT_pre]; exact ⟨b0, b1⟩) rfl (spLawVT_res a0 a1) (gl_of hL) (.cons r0 (.cons r1 .nil))
 refine hrun.mono fun e W' ⟨he, bel⟩ => ⟨_, he, law_post laidOut hW' (by kernel_rfl) Tryd.underlying4 (by kernel_rfl) rfl (by kernel_rfl) (by kernel_rfl) bel⟩
theorem row_holds : Rows.FnValTextSaid :=
 OpenClaim.holds_of_wide 3 Tryd.f3 rfl rfl rfl rfl rfl rfl rfl ⟨rfl, rfl, rfl, rfl, rfl⟩ rfl rfl rfl rfl rfl (by kernel_rfl) Tryd.func3 (by kernel_rfl)
  (of_decide_eq_true (by kernel_rfl)) (by unfold Func.isWrapper; first | (rw [if_pos (by decide +kernel)]; kernel_rfl) | (rw [if_neg (by decide +kernel)]; exact ⟨rfl, rfl⟩))
  (fun os started H enc _ => lifted os started H enc)
theorem fnValText_holds : Rows.FnValTextCardSaid :=
 Claim7.holds_tied_plain_at .later [] [.data, .data, .data, .sentinel, .sentinel] true (true, "3283d458b932a3efe594c39025808efbf158e441133865c2fd9a9c6ddfa4c2af") true
  row_holds (fun _ h => by cases h) (by kernel_rfl) (fun _ h => by cases h) fnValText_row_tie rfl ⟨rfl, rfl⟩ (by kernel_rfl) rfl
  (fun f fn hf hfn => by
   obtain rfl : f = 3 := Option.some.inj ((show Tryd.prog.funcNamed "loop.example/cribble/laws.FnValText" = some 3 by kernel_rfl).symm.trans hf) |>.symm
   obtain rfl : fn = Tryd.f3 := (Option.some.inj (Tryd.func3.symm.trans hfn)).symm
   exact ⟨by kernel_rfl, fun j t ht => by
    rw [Tryd.params3] at ht
    have hm : t ∈ [22, 22] := by simpa using Array.mem_of_getElem? ht
    have hall : ([22, 22].all fun u => !Tryd.prog.wantsStandIn u) = true := by kernel_rfl
    exact (show Tryd.prog.wantsStandIn t = false by simpa using List.all_eq_true.1 hall t hm)⟩)
  (by kernel_rfl)
#print axioms fnValText_holds
end Go.Proofs.YtgpjodcopajlkaaDoor
