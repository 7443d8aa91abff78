/- FnFiltText: for every input the law returns true, and its arguments read as they read; no condition. Printed by mkc.py. -/
import Derived.Test.YtcligmgalcidpaaGreatDoorPwT24
import Derived.Test.YtcligmgalcidpaaGreatDoorPwT25
import Derived.Test.YtcligmgalcidpaaGreatDoorRows
import Derived.Test.YtcligmgalcidpaaGreatDoorTie
import Derived.Test.YtcligmgalcidpaaGreatDoorCards
import Derived.ProofKit
import Derived.LaidMore
import Derived.OpenShut
import Derived.SevenTiedAt
import Derived.MakeChecks
import Derived.Lay
import Derived.SizedLaws
set_option linter.unusedSimpArgs false
set_option linter.unusedVariables false
namespace Go.Proofs.YtcligmgalcidpaaGreatDoor
open Go.ChangeShapes Go.WideShapes Go.ChangeAt Go.RowKit Go.Proofs.Pw
abbrev globs (m:Int):Globs:=⟨[(1,dq),(0,cf),(4,C.ifc),(5,C.ifc),(2,C.int .i64 m)],[(3,Lib.pow10Tab.map (fun z=>Value.int .u64 z))]⟩
theorem own:ownKnob Tryz.prog.godebug=none:=by kernel_rfl
theorem laidOut:laidOutB Tryz.prog=true:=by kernel_rfl
theorem gTab : Tryz.prog.globalNamed "internal/strconv.uint64pow10" = some 3 := by kernel_rfl
theorem tTab:(Tryz.prog.globals[3]?).map (·.type)=some 137:=by kernel_rfl
theorem gRng : Tryz.prog.globalNamed "strconv.ErrRange" = some 5 := by kernel_rfl
theorem tRng:(Tryz.prog.globals[5]?).map (·.type)=some 88:=by kernel_rfl
theorem gSyn : Tryz.prog.globalNamed "strconv.ErrSyntax" = some 4 := by kernel_rfl
theorem tSyn:(Tryz.prog.globals[4]?).map (·.type)=some 88:=by kernel_rfl
theorem gWords : Tryz.prog.globalNamed "loop.example/cribble/impl.filtWords" = some 0 := by kernel_rfl
theorem tWords:(Tryz.prog.globals[0]?).map (·.type)=some 23:=by kernel_rfl
theorem gKids : Tryz.prog.globalNamed "loop.example/cribble/impl.filtKids" = some 1 := by kernel_rfl
theorem tKids:(Tryz.prog.globals[1]?).map (·.type)=some 62:=by kernel_rfl
theorem hTab (m:Int):@tabK (globs m):=⟨3,gTab,List.mem_singleton.2 rfl⟩
theorem hErr (m:Int):@dR (globs m):=⟨List.mem_cons_of_mem _ (List.mem_cons_of_mem _ (List.mem_cons_self)),List.mem_cons_of_mem _ (List.mem_cons_of_mem _ (List.mem_cons_of_mem _ (List.mem_cons_self)))⟩
theorem hMax (m:Int):@oF (globs m):=⟨m,List.mem_cons_of_mem _ (List.mem_cons_of_mem _ (List.mem_cons_of_mem _ (List.mem_cons_of_mem _ (List.mem_cons_self))))⟩
theorem gl_of {W:World} {m:Int} (hm:W.cell? ⟨2,0,none⟩=some (.int .i64 m)) (h:laidMetH Tryz.prog Rows.fnFiltTextRow.laid W):@Gl (globs m) W (Old W):=by
 rw[MakeChecks.laidMetH_plain _ _ _ (by kernel_rfl)] at h
 obtain⟨ps,hl0,_⟩:=h
 obtain⟨ps1,hl1⟩:=kY hl0
 obtain⟨ps2,hl2⟩:=kY hl1
 obtain⟨ps3,hl3⟩:=kY hl2
 obtain⟨ps4,hl4⟩:=kY hl3
 obtain⟨ps5,hl5⟩:=kY hl4
 obtain⟨ps6,hl6⟩:=kY hl5
 obtain⟨ps7,hl7⟩:=kY hl6
 have h_gTab:=XE (ns:=Lib.pow10Tab) gTab tTab Tryz.underlying137 Tryz.underlying116 (by kernel_rfl) (by kernel_rfl) rfl hl2
 have h_gRng:=Hy gRng tRng Tryz.underlying88 hl4
 have h_gSyn:=Hy gSyn tSyn Tryz.underlying88 hl5
 have h_gWords:=XF (ws:=wtab) gWords tWords Tryz.underlying23 Tryz.underlying9 (by kernel_rfl) (by decide) rfl hl6
 obtain⟨h_gKids,_⟩:=XD (ns:=ktab) gKids tKids Tryz.underlying62 Tryz.underlying3 (by kernel_rfl) rfl hl7
 refine⟨fun i c hi=>?_,fun i cs hi=>?_⟩
 ·have hi':(i,c) ∈ [(1,dq),(0,cf),(4,C.ifc),(5,C.ifc),(2,C.int .i64 m)]:=hi
  simp only[List.mem_cons,List.not_mem_nil,or_false,Prod.mk.injEq] at hi'
  rcases hi' with ⟨rfl,rfl⟩|⟨rfl,rfl⟩|⟨rfl,rfl⟩|⟨rfl,rfl⟩|⟨rfl,rfl⟩
  ·exact h_gKids
  ·exact h_gWords
  ·exact h_gSyn
  ·exact h_gRng
  ·exact⟨nj hm,_,hm,.int _ _⟩
 ·have hi':(i,cs) ∈ [(3,Lib.pow10Tab.map (fun z=>Value.int .u64 z))]:=hi
  simp only[List.mem_singleton,Prod.mk.injEq] at hi'
  obtain⟨rfl,rfl⟩:=hi'
  exact h_gTab
set_option maxRecDepth 100000 in
set_option maxHeartbeats 1000000 in
theorem lifted (os:Os) (started:os.Started) (H:Type) (enc:TypeId × Value->H) :
 ReturnsInHanded {} Tryz.checked os 3 .any (fun w args=>(Rows.fnFiltTextSpec.pre enc Tryz.prog Tryz.f3 [] false w args/\laidMetH Tryz.prog Rows.fnFiltTextRow.laid w)/\sizedMet enc Tryz.prog Tryz.f3 (OpenSpec.ofChange Rows.fnFiltTextSpec) false w args)
  (Rows.fnFiltTextSpec.post enc Tryz.prog Tryz.f3 false true false false):=by
 refine XG (C:=Tryz.checked) (X:=fun w _=>laidMetH Tryz.prog Rows.fnFiltTextRow.laid w) (fun _ _ _ hh h=>h.of_heap hh) own started (by kernel_rfl) Tryz.func3
  (ChangeSpec.witness_shaped (enc:=enc) (C:=Tryz.checked) (os:=os) (X:=fun w _=>laidMetH Tryz.prog Rows.fnFiltTextRow.laid w) false (World.laidAll Tryz.prog os Rows.fnFiltTextRow.laid) #[.slice none 0 0,.slice none 0 0] 8 (World.laidAll_os _ _ _)
   (World.shaped_of_ZipB (by kernel_rfl) (by kernel_rfl)) (by kernel_rfl) (by kernel_rfl) (by kernel_rfl) (by rw[MakeChecks.laidMetH_plain _ _ _ (by kernel_rfl)];exact laidMet_laidAll _ (by kernel_rfl) (by kernel_rfl))) ?_
 intro W base args ds gs before hval0 hW hsz0 hL hsh
 have hmx:∃ m:Int,W.cell? ⟨2,0,none⟩=some (.int .i64 m):=Go.Proofs.cell_of_shapedOpen_int (zero:=#[.int .i64 0]) (t:=3) hsh (of_decide_eq_true (by kernel_rfl)) (by kernel_rfl) rfl (by kernel_rfl) (by kernel_rfl) Tryz.underlying3
 obtain⟨m,hm⟩:=hmx
 letI:Globs:=globs m
 have hsz:(DataW.weightsEach Tryz.prog (Tryz.f3.params.toList++Rows.fnFiltTextSpec.plain.varTypes Tryz.prog) (ds++gs)).all (·<=reachBytes)=true:=hsz0
 have hval:∀ (j:Nat) t v,Tryz.f3.params[j]?=some t->args[j]?=some v->Value.okWide Tryz.prog W .any base t v:=hval0
 have hW':DataW.Whole enc Tryz.prog Tryz.f3.params.toList Rows.fnFiltTextSpec.vars false W args.toList ds gs before:=hW
 obtain⟨p,q,hA0,hV,_,_,_⟩:=hW
 have hA:DataW.TrodAll enc Tryz.prog W 0 (fun _=>true) true Tryz.f3.params.toList args.toList ds p:=hA0
 rw[Tryz.params3] at hA hval hsz
 obtain⟨v0,v1,d0,d1,p0,p1,rfl,rfl,_,h0,h1⟩:=trodAll_two hA
 obtain⟨g1,g2,rfl⟩:∃ g1 g2,gs=[g1,g2]:=by
  have hV1 : DataW.TrodVars enc Tryz.prog W (fun _ => true) ["loop.example/cribble/impl.filtKids", "loop.example/cribble/impl.filtWords"] gs q := hV
  cases gs with
  | nil=>simp[DataW.TrodVars] at hV1
  | cons g1 gs =>
    obtain⟨_,_,_,_,_,_,_,_,_,_,hs,_⟩:=hV1
    obtain⟨_,_,_,_,g2,_,rfl,_⟩:=trodVars_one hs
    exact⟨g1,g2,rfl⟩
 obtain⟨a0,r0,b0⟩:=Hx (j:=0) Tryz.underlying22 Tryz.underlying5 (by kernel_rfl) (of_decide_eq_true (by kernel_rfl)) (hval 0 22 v0 rfl rfl) h0 hsz rfl rfl
 obtain⟨a1,r1,b1⟩:=Hx (j:=1) Tryz.underlying22 Tryz.underlying5 (by kernel_rfl) (of_decide_eq_true (by kernel_rfl)) (hval 1 22 v1 rfl rfl) h1 hsz rfl rfl
 have hrun:=Xx (Xw (hMax m) (hErr m) (hTab m) rfl rfl) (args:=[.d (.one (.row 1 (aF .u8 a0))),.d (.one (.row 1 (aF .u8 a1)))]) (W:=W) (vs:=[v0,v1]) (by rw[Xu];exact⟨b0,b1⟩) rfl (Xv a0 a1) (gl_of hm hL) (.cons r0 (.cons r1 .nil))
 refine hrun.mono fun e W' ⟨he,bel⟩=>⟨_,he,XA laidOut hW' (by kernel_rfl) Tryz.underlying4 (by kernel_rfl) rfl (by kernel_rfl) (by kernel_rfl) bel⟩
theorem row_holds:Rows.FnFiltTextSaid :=
 OpenClaim.holds_of_wide 3 Tryz.f3 rfl rfl rfl rfl rfl rfl rfl ⟨rfl,rfl,rfl,rfl,rfl⟩ rfl rfl rfl rfl rfl (by kernel_rfl) Tryz.func3 (by kernel_rfl)
  (of_decide_eq_true (by kernel_rfl)) (by unfold Func.isWrapper;first|(rw[if_pos (by decide +kernel)];kernel_rfl)|(rw[if_neg (by decide +kernel)];exact⟨rfl,rfl⟩))
  (fun os started H enc _=>lifted os started H enc)
theorem fnFiltText_holds:Rows.FnFiltTextCardSaid :=
 Claim7.holds_tied_plain_at .later [] [.data, .data, .data, .data, .sentinel, .sentinel, .widerDeep, .data, .pinned] true (true, "b4a27e1c6a872458eeae6176c4c27f0bd0eda4621ba6680434ab896335a760da") true
  row_holds (fun _ h=>by cases h) (by kernel_rfl) (fun _ h=>by cases h) fnFiltText_row_tie rfl ⟨rfl,rfl⟩ (by kernel_rfl) rfl
  (fun f fn hf hfn=>by
   obtain rfl : f = 3 := Option.some.inj ((show Tryz.prog.funcNamed "loop.example/cribble/laws.FnFiltText" = some 3 by kernel_rfl).symm.trans hf) |>.symm
   obtain rfl:fn=Tryz.f3:=(Option.some.inj (Tryz.func3.symm.trans hfn)).symm
   exact⟨by kernel_rfl,fun j t ht=>by
    rw[Tryz.params3] at ht
    have hm:t ∈ [22,22]:=by simpa using Array.mem_of_getElem? ht
    have hall:([22,22].all fun u=>!Tryz.prog.wantsStandIn u)=true:=by kernel_rfl
    exact (show Tryz.prog.wantsStandIn t=false by simpa using List.all_eq_true.1 hall t hm)⟩)
  (by kernel_rfl)
#print axioms fnFiltText_holds
end Go.Proofs.YtcligmgalcidpaaGreatDoor
