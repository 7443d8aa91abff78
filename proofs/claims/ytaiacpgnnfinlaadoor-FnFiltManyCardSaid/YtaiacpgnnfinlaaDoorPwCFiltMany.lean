/- FnFiltMany: for every input the law returns true, and its arguments read as they read; no condition. -/
import Derived.Test.YtaiacpgnnfinlaaDoorPwT18
import Derived.Test.YtaiacpgnnfinlaaDoorRows
import Derived.Test.YtaiacpgnnfinlaaDoorTie
import Derived.Test.YtaiacpgnnfinlaaDoorCards
import Derived.ProofKit
import Derived.LaidMore
import Derived.OpenShut
import Derived.SevenTiedAt
import Derived.MakeChecks
import Derived.SizedLaws
set_option linter.unusedSimpArgs false
set_option linter.unusedVariables false
namespace Go.Proofs.YtaiacpgnnfinlaaDoor
open Go.ChangeShapes Go.WideShapes Go.ChangeAt Go.RowKit Go.Proofs.Pw
instance globs : Globs := ⟨[(0, ktabC), (1, wtabC)], [(2, Lib.pow10Tab.map (fun z => Value.int .u64 z))]⟩
theorem own : ownKnob Tryd.prog.godebug = none := by kernel_rfl
theorem laidOut : laidOutB Tryd.prog = true := by kernel_rfl
theorem gKids : Tryd.prog.globalNamed "loop.example/cribble/impl.filtKids" = some 0 := by kernel_rfl
theorem tKids : (Tryd.prog.globals[0]?).map (·.type) = some 51 := by kernel_rfl
theorem gWords : Tryd.prog.globalNamed "loop.example/cribble/impl.filtWords" = some 1 := by kernel_rfl
theorem tWords : (Tryd.prog.globals[1]?).map (·.type) = some 23 := by kernel_rfl
theorem gTab : Tryd.prog.globalNamed "internal/strconv.uint64pow10" = some 2 := by kernel_rfl
theorem tTab : (Tryd.prog.globals[2]?).map (·.type) = some 89 := by kernel_rfl
theorem hTab : tabK := ⟨2, gTab, List.mem_singleton.2 rfl⟩
theorem door_met (os : Os) (args : Array Value) : laidMetH Tryd.prog Rows.fnFiltManyRow.laid ((World.doorLaid Tryd.prog 34 os).forCall (fun _ _ => 0) ⟨#[], args, []⟩).memory :=
  laidMetH_of_parts3 (fuel := 8) (laidMet_of_run' 8 (by kernel_rfl) (by kernel_rfl)) (by kernel_rfl) (by kernel_rfl)
theorem gl_of {W : World} (h : laidMetH Tryd.prog Rows.fnFiltManyRow.laid W) : Gl W (Old W) := by
  rw [MakeChecks.laidMetH_plain _ _ _ (by kernel_rfl)] at h
  obtain ⟨ps, hl, _⟩ := h
  obtain ⟨ps1, hl1⟩ := laid_rest hl
  obtain ⟨ps2, hl2⟩ := laid_rest hl1
  obtain ⟨ps3, hl3⟩ := laid_rest hl2
  obtain ⟨ps4, hl4⟩ := laid_rest hl3
  have h1 := laid_tab (ns := Lib.pow10Tab) gTab tTab Tryd.underlying89 Tryd.underlying80 (by kernel_rfl) (by kernel_rfl) rfl hl2
  have h2 := laid_strs (ws := wtab) gWords tWords Tryd.underlying23 Tryd.underlying9 (by kernel_rfl) (by decide) rfl hl3
  obtain ⟨h3, _⟩ := laid_ints (ns := ktab) gKids tKids Tryd.underlying51 Tryd.underlying3 (by kernel_rfl) rfl hl4
  refine ⟨fun i c hi => ?_, fun i cs hi => ?_⟩
  · have hi' : (i, c) ∈ [(0, ktabC), (1, wtabC)] := hi
    simp only [List.mem_cons, List.not_mem_nil, or_false, Prod.mk.injEq] at hi'
    rcases hi' with ⟨rfl, rfl⟩ | ⟨rfl, rfl⟩
    · exact h3
    · exact h2
  · have hi' : (i, cs) ∈ [(2, Lib.pow10Tab.map (fun z => Value.int .u64 z))] := hi
    simp only [List.mem_singleton, Prod.mk.injEq] at hi'
    obtain ⟨rfl, rfl⟩ := hi'
    exact h1
set_option maxRecDepth 100000 in
set_option maxHeartbeats 1000000 in
theorem lifted (os : Os) (started : os.Started) (H : Type) (enc : TypeId × Value → H) :
    ReturnsInHanded {} Tryd.checked os 3 .any (fun w args => (Rows.fnFiltManySpec.pre enc Tryd.prog Tryd.f3 [] false w args ∧ laidMetH Tryd.prog Rows.fnFiltManyRow.laid w) ∧ sizedMet enc Tryd.prog Tryd.f3 (OpenSpec.ofChange Rows.fnFiltManySpec) false w args)
      (Rows.fnFiltManySpec.post enc Tryd.prog Tryd.f3 false true false false) := by
  refine returnsInHanded_of_change_and (C := Tryd.checked) (X := fun w _ => laidMetH Tryd.prog Rows.fnFiltManyRow.laid w) (fun _ _ _ hh h => h.of_heap hh) own started (by kernel_rfl) Tryd.func3
    (ChangeSpec.witness_shaped (enc := enc) (C := Tryd.checked) (os := os) (X := fun w _ => laidMetH Tryd.prog Rows.fnFiltManyRow.laid w) false (World.doorLaid Tryd.prog 34 os) #[.slice none 0 0, .slice none 0 0] 8 rfl (World.shaped_of_RefB (by kernel_rfl) (by kernel_rfl)) (by kernel_rfl) (by kernel_rfl) (by kernel_rfl) (door_met os _)) ?_
  intro W base args ds gs before hval0 hW _ hsz0 hL _
  have hsz : (DataW.weightsEach Tryd.prog (Tryd.f3.params.toList ++ Rows.fnFiltManySpec.plain.varTypes Tryd.prog) (ds ++ gs)).all (· ≤ reachBytes) = true := hsz0
  have hval : ∀ (j : Nat) t v, Tryd.f3.params[j]? = some t → args[j]? = some v → Value.okWide Tryd.prog W .any base t v := hval0
  have hW' : DataW.Whole enc Tryd.prog Tryd.f3.params.toList Rows.fnFiltManySpec.vars false W args.toList ds gs before := hW
  obtain ⟨p, q, hA0, hV, _, _, _⟩ := hW
  have hA : DataW.TrodAll enc Tryd.prog W 0 (fun _ => true) true Tryd.f3.params.toList args.toList ds p := hA0
  rw [Tryd.params3] at hA hval hsz
  obtain ⟨v0, v1, d0, d1, p0, p1, rfl, rfl, _, h0, h1⟩ := trodAll_two hA
  obtain ⟨g1, g2, rfl⟩ : ∃ g1 g2, gs = [g1, g2] := by
    have hV1 : DataW.TrodVars enc Tryd.prog W (fun _ => true) ["loop.example/cribble/impl.filtKids", "loop.example/cribble/impl.filtWords"] gs q := hV
    cases gs with
    | nil => simp [DataW.TrodVars] at hV1
    | cons g1 gs =>
      obtain ⟨_, _, _, _, _, _, _, _, _, _, hs, _⟩ := hV1
      obtain ⟨_, _, _, _, g2, _, rfl, _⟩ := trodVars_one hs
      exact ⟨g1, g2, rfl⟩
  obtain ⟨a, ra, ba⟩ := read_bytes (j := 0) Tryd.underlying22 Tryd.underlying5 (by kernel_rfl) (of_decide_eq_true (by kernel_rfl)) (hval 0 22 v0 rfl rfl) h0 hsz rfl rfl
  obtain ⟨b, rb, bb⟩ := read_bytes (j := 1) Tryd.underlying22 Tryd.underlying5 (by kernel_rfl) (of_decide_eq_true (by kernel_rfl)) (hval 1 22 v1 rfl rfl) h1 hsz rfl rfl
  have hrun := law_calls (lawFM_sound hTab rfl rfl) (args := [.d (.one (.row 1 (ints .u8 a))), .d (.one (.row 1 (ints .u8 b)))]) (W := W) (vs := [v0, v1]) (by rw [spLawFM_pre]; exact ⟨ba, bb⟩) rfl (spLawFM_res a b) (gl_of hL) (.cons ra (.cons rb .nil))
  refine hrun.mono fun e W' ⟨he, bel⟩ => ⟨_, he, law_post laidOut hW' (by kernel_rfl) Tryd.underlying4 (by kernel_rfl) rfl (by kernel_rfl) (by kernel_rfl) bel⟩
theorem row_holds : Rows.FnFiltManySaid :=
  OpenClaim.holds_of_wide 3 Tryd.f3 rfl rfl rfl rfl rfl rfl rfl ⟨rfl, rfl, rfl, rfl, rfl⟩ rfl rfl rfl rfl rfl (by kernel_rfl) Tryd.func3 (by kernel_rfl)
    (of_decide_eq_true (by kernel_rfl)) (by unfold Func.isWrapper; first | (rw [if_pos (by decide +kernel)]; kernel_rfl) | (rw [if_neg (by decide +kernel)]; exact ⟨rfl, rfl⟩))
    (fun os started H enc _ => lifted os started H enc)
theorem fnFiltMany_holds : Rows.FnFiltManyCardSaid :=
  Claim7.holds_tied_plain_at .later [] [.data, .data, .data, .widerDeep, .data] true (true, "735dda01913fc9cda288389901bcb16fe34393ed91bdd00f2f0261d334bcd44e") false
    row_holds (fun _ h => by cases h) (by kernel_rfl) (fun _ h => by cases h) fnFiltMany_row_tie rfl ⟨rfl, rfl⟩ (by kernel_rfl) rfl
    (fun f fn hf hfn => by
      obtain rfl : f = 3 := Option.some.inj ((show Tryd.prog.funcNamed "loop.example/cribble/laws.FnFiltMany" = some 3 by kernel_rfl).symm.trans hf) |>.symm
      obtain rfl : fn = Tryd.f3 := (Option.some.inj (Tryd.func3.symm.trans hfn)).symm
      exact ⟨by kernel_rfl, fun j t ht => by
        rw [Tryd.params3] at ht
        have hm : t ∈ [22, 22] := by simpa using Array.mem_of_getElem? ht
        have hall : ([22, 22].all fun u => !Tryd.prog.wantsStandIn u) = true := by kernel_rfl
        exact (show Tryd.prog.wantsStandIn t = false by simpa using List.all_eq_true.1 hall t hm)⟩)
    (by kernel_rfl)
#print axioms fnFiltMany_holds
end Go.Proofs.YtaiacpgnnfinlaaDoor
