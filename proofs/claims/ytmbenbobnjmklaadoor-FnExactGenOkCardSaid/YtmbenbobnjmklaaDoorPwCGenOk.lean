/- FnExactGenOk: for every input the law returns true, and its argument reads as it read; no condition. -/
import Derived.Test.YtmbenbobnjmklaaDoorPwLGenOk
import Derived.Test.YtmbenbobnjmklaaDoorPwE
import Derived.Test.YtmbenbobnjmklaaDoorRows
import Derived.Test.YtmbenbobnjmklaaDoorTie
import Derived.Test.YtmbenbobnjmklaaDoorCards
import Derived.ProofKit
import Derived.LaidMore
import Derived.OpenShut
import Derived.SevenTiedAt
import Derived.MakeChecks
namespace Go.Proofs.YtmbenbobnjmklaaDoor
open Go.ChangeShapes Go.WideShapes Go.ChangeAt Go.RowKit Go.Proofs.Pw
instance globs : Globs := ⟨[(0, ktabC)]⟩
theorem own : ownKnob Tryd.prog.godebug = none := by kernel_rfl
theorem laidOut : laidOutB Tryd.prog = true := by kernel_rfl
theorem gKids : Tryd.prog.globalNamed "loop.example/cribble/impl.filtKids" = some 0 := by kernel_rfl
theorem tKids : (Tryd.prog.globals[0]?).map (·.type) = some 169 := by kernel_rfl
theorem tys : TyG Tryd.prog 3 9 33 36 34 39 37 165 22 24 :=
  ⟨⟨⟨Tryd.underlying3, Tryd.underlying9, Tryd.underlying33, ⟨_, Tryd.underlying36, rfl⟩, Tryd.underlying34, ⟨by kernel_rfl, by kernel_rfl, by kernel_rfl, by kernel_rfl, by kernel_rfl⟩, ⟨of_decide_eq_true (by kernel_rfl), of_decide_eq_true (by kernel_rfl)⟩⟩,
    ⟨_, Tryd.underlying39, rfl⟩, Tryd.underlying37, ⟨by kernel_rfl, by kernel_rfl⟩, of_decide_eq_true (by kernel_rfl)⟩, ⟨_, Tryd.underlying165, rfl⟩, Tryd.underlying22, ⟨_, Tryd.underlying24, rfl⟩, ⟨by kernel_rfl, by kernel_rfl, by kernel_rfl⟩, of_decide_eq_true (by kernel_rfl)⟩
theorem door_met (os : Os) (args : Array Value) : laidMetH Tryd.prog Rows.fnExactGenOkRow.laid ((World.doorLaid Tryd.prog 72 os).forCall (fun _ _ => 0) ⟨#[], args, []⟩).memory :=
  laidMetH_of_parts3 (fuel := 8) (laidMet_of_run' 8 (by kernel_rfl) (by kernel_rfl)) (by kernel_rfl) (by kernel_rfl)
theorem gl_of {W : World} (h : laidMetH Tryd.prog Rows.fnExactGenOkRow.laid W) : Gl W (Old W) := by
  rw [MakeChecks.laidMetH_plain _ _ _ (by kernel_rfl)] at h
  obtain ⟨ps, hl, _⟩ := h
  obtain ⟨h1, _⟩ := laid_ints (ns := ktab) gKids tKids Tryd.underlying169 Tryd.underlying3 (by kernel_rfl) rfl hl
  intro i c hi
  have hi' : (i, c) ∈ [(0, ktabC)] := hi
  simp only [List.mem_singleton, Prod.mk.injEq] at hi'
  obtain ⟨rfl, rfl⟩ := hi'
  exact h1
set_option maxRecDepth 100000 in
theorem lifted (os : Os) (started : os.Started) (H : Type) (enc : TypeId × Value → H) :
    ReturnsInHanded {} Tryd.checked os 3 .any (fun w args => (Rows.fnExactGenOkSpec.pre enc Tryd.prog Tryd.f3 [] false w args ∧ laidMetH Tryd.prog Rows.fnExactGenOkRow.laid w) ∧ sizedMet enc Tryd.prog Tryd.f3 (OpenSpec.ofChange Rows.fnExactGenOkSpec) false w args)
      (Rows.fnExactGenOkSpec.post enc Tryd.prog Tryd.f3 false true false false) := by
  refine returnsInHanded_of_change_and (C := Tryd.checked) (X := fun w _ => laidMetH Tryd.prog Rows.fnExactGenOkRow.laid w) (fun _ _ _ hh h => h.of_heap hh) own started (by kernel_rfl) Tryd.func3
    (ChangeSpec.witness_shaped (enc := enc) (C := Tryd.checked) (os := os) (X := fun w _ => laidMetH Tryd.prog Rows.fnExactGenOkRow.laid w) false (World.doorLaid Tryd.prog 72 os) #[.agg #[.slice none 0 0, .int .i64 0, .int .i64 0]] 8 rfl (World.shaped_of_RefB (by kernel_rfl) (by kernel_rfl)) (by kernel_rfl) (by kernel_rfl) (by kernel_rfl) (door_met os _)) ?_
  intro W base args ds gs before hval0 hW _ hsz0 hL _
  have hsz : (DataW.weightsEach Tryd.prog (Tryd.f3.params.toList ++ Rows.fnExactGenOkSpec.plain.varTypes Tryd.prog) (ds ++ gs)).all (· ≤ reachBytes) = true := hsz0
  have hval : ∀ (j : Nat) t v, Tryd.f3.params[j]? = some t → args[j]? = some v → Value.okWide Tryd.prog W .any base t v := hval0
  have hW' : DataW.Whole enc Tryd.prog Tryd.f3.params.toList Rows.fnExactGenOkSpec.vars false W args.toList ds gs before := hW
  obtain ⟨p, q, hA0, hV, _, _, _⟩ := hW
  have hA : DataW.TrodAll enc Tryd.prog W 0 (fun _ => true) true Tryd.f3.params.toList args.toList ds p := hA0
  rw [Tryd.params3] at hA hval hsz
  obtain ⟨v0, d0, rfl, rfl, fuel, h0⟩ := trodAll_one hA
  have hV1 : DataW.TrodVars enc Tryd.prog W (fun _ => true) ["loop.example/cribble/impl.filtKids"] gs q := hV
  obtain ⟨g1, _, _, _, d1, _, rfl, _⟩ := trodVars_one hV1
  obtain ⟨us, rfl, _⟩ := okWide_struct Tryd.underlying24 (hval 0 24 v0 rfl rfl)
  obtain ⟨g, hg, hfit⟩ := read_Gn tys h0 (fun n hn => by
    have := List.all_eq_true.1 hsz n (DataW.weights_mem_each (j := 0) (t := 24) (d := d0) rfl rfl n hn)
    simpa using this)
  have hrun := law_calls (lawGenOk_sound rfl) (args := [.d (.agg g.enc)]) (W := W) (vs := [.agg us]) (by rw [spLawGenOk_pre]; exact hfit) rfl (spLawGenOk_res g) (gl_of hL) (.cons ⟨rcells_agg hg, fun _ h => h⟩ .nil)
  refine hrun.mono fun e W' ⟨he, bel⟩ => ⟨_, he, law_post laidOut hW' (by kernel_rfl) Tryd.underlying4 (by kernel_rfl) rfl (by kernel_rfl) (by kernel_rfl) bel⟩
theorem row_holds : Rows.FnExactGenOkSaid :=
  OpenClaim.holds_of_wide 3 Tryd.f3 rfl rfl rfl rfl rfl rfl rfl ⟨rfl, rfl, rfl, rfl, rfl⟩ rfl rfl rfl rfl rfl (by kernel_rfl) Tryd.func3 (by kernel_rfl)
    (of_decide_eq_true (by kernel_rfl)) (by unfold Func.isWrapper; first | (rw [if_pos (by decide +kernel)]; kernel_rfl) | (rw [if_neg (by decide +kernel)]; exact ⟨rfl, rfl⟩))
    (fun os started H enc _ => lifted os started H enc)
theorem fnExactGenOk_holds : Rows.FnExactGenOkCardSaid :=
  Claim7.holds_tied_plain_at .later [] [.data] true (true, "15ba851fb1bea6f070e56b07ca655b76066f837628a290355d7ef60ffd7c095c") true
    row_holds (fun _ h => by cases h) (by kernel_rfl) (fun _ h => by cases h) fnExactGenOk_row_tie rfl ⟨rfl, rfl⟩ (by kernel_rfl) rfl
    (fun f fn hf hfn => by
      obtain rfl : f = 3 := Option.some.inj ((show Tryd.prog.funcNamed "loop.example/cribble/laws.FnExactGenOk" = some 3 by kernel_rfl).symm.trans hf) |>.symm
      obtain rfl : fn = Tryd.f3 := (Option.some.inj (Tryd.func3.symm.trans hfn)).symm
      exact ⟨by kernel_rfl, fun j t ht => by
        rw [Tryd.params3] at ht
        have hm : t ∈ [24] := by simpa using Array.mem_of_getElem? ht
        have hall : ([24].all fun u => !Tryd.prog.wantsStandIn u) = true := by kernel_rfl
        exact (show Tryd.prog.wantsStandIn t = false by simpa using List.all_eq_true.1 hall t hm)⟩)
    (by kernel_rfl)
#print axioms fnExactGenOk_holds
end Go.Proofs.YtmbenbobnjmklaaDoor
