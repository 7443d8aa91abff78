/- FnExactGenOk: the law, run. -/
import Derived.Test.YtmbenbobnjmklaaDoorPwD
import Derived.Test.YtmbenbobnjmklaaDoorPwSz
import Derived.Test.YtmbenbobnjmklaaDoorPwTo
import Derived.Test.YtmbenbobnjmklaaDoorPwEq
import Derived.Test.YtmbenbobnjmklaaDoorPwGen
import Derived.Test.YtmbenbobnjmklaaDoorPwGenI
set_option linter.unusedSimpArgs false
set_option maxRecDepth 20000
namespace Go.Proofs.Pw
set_option linter.unusedSectionVars false
variable [Globs]
def x_law : X := (.seq (.reg [⟨some 1, none, .box (.t 0) (some 3)⟩, ⟨some 2, none, .mv (.k (.c (.bool false)))⟩] none [1]) (.seq (.reg [⟨some 3, none, .mv (.k (.c (.int .i64 1048576)))⟩] none [1, 3]) (.seq (.reg [⟨some 7, none, .load (.t 1) (some 3)⟩, ⟨some 8, none, .mv (.t 3)⟩, ⟨some 9, none, .call 14 [(.t 7), (.t 8)]⟩, ⟨some 3, none, .mv (.t 9)⟩] none [1, 3]) (.seq (.seq (.reg [⟨some 10, none, .mv (.t 3)⟩, ⟨some 11, none, .bin false .lss (.t 10) (.k (.c (.int .i64 0)))⟩] none [1, 11]) (.cond (.t 11) (.seq (.reg [⟨some 2, none, .mv (.k (.c (.bool true)))⟩] none [2]) .ret) .skip)) (.seq (.reg [⟨some 12, none, .load (.t 1) (some 3)⟩, ⟨some 13, none, .call 16 [(.t 12)]⟩, ⟨some 14, none, .call 15 [(.t 13)]⟩, ⟨some 4, none, .mv (.t 14)⟩] none [1, 4]) (.seq (.reg [⟨some 15, none, .load (.t 1) (some 3)⟩, ⟨some 16, none, .call 16 [(.t 15)]⟩, ⟨some 5, none, .alloc [(.z 6), (.c (.int .i64 0)), (.c (.int .i64 0))]⟩, ⟨none, none, .st (.t 5) (.t 16) (some 3)⟩] none [1, 4, 5]) (.seq (.reg [⟨some 17, none, .load (.t 5) (some 3)⟩, ⟨some 18, none, .call 17 [(.t 17)]⟩, ⟨some 6, none, .mv (.t 18)⟩] none [1, 4, 5, 6]) (.seq (.seq (.reg [⟨some 19, none, .mv (.t 6)⟩, ⟨some 20, none, .mv (.t 4)⟩, ⟨some 21, none, .bin true .neq (.t 19) (.t 20)⟩] none [1, 5, 21]) (.cond (.t 21) (.seq (.reg [⟨some 2, none, .mv (.k (.c (.bool false)))⟩] none [2]) .ret) .skip)) (.seq (.seq (.reg [⟨some 22, none, .load (.t 5) (some 3)⟩, ⟨some 23, none, .load (.t 1) (some 3)⟩, ⟨some 24, none, .call 16 [(.t 23)]⟩, ⟨some 25, none, .call 18 [(.t 22), (.t 24)]⟩, ⟨some 26, none, .not (.t 25)⟩] (some 3) [26]) (.cond (.t 26) (.seq (.reg [⟨some 2, none, .mv (.k (.c (.bool false)))⟩] none [2]) .ret) .skip)) (.seq (.reg [⟨some 2, none, .mv (.k (.c (.bool true)))⟩] none [2]) .ret))))))))))
theorem chk_law : chkX Go.Proofs.Tryd.prog 27 (Go.Proofs.Tryd.f3.body.getD .skip) x_law = true := by kernel_rfl
theorem rs_law : okRs Go.Proofs.Tryd.prog Go.Proofs.Tryd.f3.results.toList [.tmp 2] = true := by kernel_rfl
theorem call_law : okCallee Go.Proofs.Tryd.prog 3 = true := by kernel_rfl
noncomputable def spLawGenOk  : Spec := Spec.of (ι := Gn) [false] (fun i => [.d (.agg i.enc)]) (fun i => i.fit 140737488355328) (fun _ => [.d (.one (.bool true))]) (fun _ => [.gone])
theorem spLawGenOk_inj : ∀ i j : Gn, (fun (i : Gn) => ([.d (.agg i.enc)] : List AV)) i = (fun (i : Gn) => ([.d (.agg i.enc)] : List AV)) j → i = j := by
  intro g g' h
  simpa [strs_eq, T.enc_eq, encL_eq, F.enc_eq, encF_eq, Tk.enc_eq, encTk_eq, Gn.enc_eq] using h
theorem spLawGenOk_md  : (spLawGenOk).md = [false] := rfl
theorem spLawGenOk_pre  (g : Gn) : (spLawGenOk).pre [.d (.agg g.enc)] = (g.fit 140737488355328) := Spec.of_pre' spLawGenOk_inj g
theorem spLawGenOk_alts  : (spLawGenOk).alts = none := rfl
theorem spLawGenOk_res  (g : Gn) : (spLawGenOk).res [.d (.agg g.enc)] = [.d (.one (.bool true))] := Spec.of_res spLawGenOk_inj g
theorem spLawGenOk_out  (g : Gn) : (spLawGenOk).out [.d (.agg g.enc)] = [.gone] := Spec.of_out spLawGenOk_inj g
theorem lawGenOk_sound (hG : get? 0 Globs.G = some ktabC) : Sound Go.Proofs.Tryd.prog 3 spLawGenOk := by
  refine sound_fam (GOK.cons (l := [(16, spToGn), (15, spGenOk), (17, spGenOkI), (18, spEqGn)]) call_szGen szGn_sound (GOK.cons call_toGen toGn_sound (GOK.cons call_GenOk genOk_sound (GOK.cons call_GenOkI (genOkI_sound hG) (GOK.cons call_eqGen eqGn_sound GOK.nil))))) Go.Proofs.Tryd.func3 (c := Go.Proofs.Tryd.f3.body.getD .skip) rfl (n := 27) rfl chk_law rs_law (fun _ => by simp) ?_ ?_
  · exact spLawGenOk_inj
  · intro g h1
    have hfit := szGn_fit h1
    have hk : decide (okGnI g) = decide (okGn g) := decide_eq_decide.2 (okGnI_iff g)
    have hen : g.enc.length = 3 := rfl
    have ht : g.enc.take 3 = g.enc := rfl
    have ht' : (g.enc.map Q.c).take 3 = g.enc.map Q.c := rfl
    simp only [x_law, initX, DV.toP, C.toQ, Q.pubB, Option.bind_some, List.map_cons, List.map_nil, pw_seq, pw_reg, pw_cond, condQ_t, condQ_f, condQ_d, not_dec, pw_ret, pw_skip, pw_exit, pw_block, thenQ_n, thenQ_r, thenQ_e, blkQ_n, blkQ_r, blkQ_e, loopQ_n, loopQ_r, loopQ_e, runX, stepR, callR, orF, Spec.at, stepX, stepM, evalK, callX, callE, Gam, get?, argsX, argsE, pubIds, St.pubs, mutIds, nodupIds, outE, retE, retP, allD, DV.toS, St.v, get, PV.un, PV.row, Option.map, St.put, upd, del, binC, rg, St.keep, List.map, Option.getD, effK, bne_self_eq_false, if_true, Bool.true_and, Nat.reduceEqDiff, if_false, reduceIte, reduceCtorEq, Nat.reduceAdd, true_and, endQ, finX, resD, resV, resOwns, refOwns, outX, PV.owns, ownsQ, List.append_nil, List.nil_append, List.foldl, PV.toD, Q.toC, allC, and_true, implies_true, true_implies, false_implies, AV.d.injEq, AV.ref.injEq, Option.some.injEq, DV.one.injEq, DV.agg.injEq, C.int.injEq, C.bool.injEq, C.str.injEq, C.row.injEq, List.cons.injEq, loadC, loadQ, cellsOf, List.length_cons, List.length_nil, List.getD_cons_zero, List.getD_cons_succ, List.drop, List.take, decide_true, decide_false, Int.toNat_natCast, Bool.false_and, Bool.and_true, Bool.and_false, St.map, PV.map, SV.map, St.pub, Q.pub, del, Q.killB, Q.killO, buildX, bslX, place, placeC, asInt?, loX, Nat.reduceLeDiff, Nat.reduceLT, List.append, List.cons_append, Option.bind, Bool.not_true, Bool.not_false, Nat.reduceSub, Nat.reduceBNe, Nat.add_zero, List.getD_nil, strs_len, encL_len, encF_len, encTk_len, allC_map, owns_map, C.def, killB_map, killO_map, pub_map, T.enc_take, F.enc_take, T.enc_take5, F.enc_take9, Tk.enc_take6, Nat.le_refl, List.length_map, List.drop_zero, List.flatMap_cons, List.flatMap_nil, List.any_nil, List.any_cons, Nat.reduceBEq, beq_self_eq_true, Bool.or_false, pick_or, pick_and, pick_t, pick_f, dec_and, bq_t, bq_f, decide_eq_true_eq, decide_eq_false_iff_not, imp_self, not_true_eq_false, not_false_eq_true, rg, hen, ht, ht', hk, spSzGn_md, spSzGn_pre, spSzGn_alts, spSzGn_res, spSzGn_out, spToGn_md, spToGn_pre, spToGn_alts, spToGn_res, spToGn_out, spGenOk_md, spGenOk_pre, spGenOk_alts, spGenOk_res, spGenOk_out, spGenOkI_md, spGenOkI_pre, spGenOkI_alts, spGenOkI_res, spGenOkI_out, spEqGn_md, spEqGn_pre, spEqGn_alts, spEqGn_res, spEqGn_out]
    repeat' (first | with_reducible assumption | with_reducible refine And.intro ?_ ?_ | intro _)
    all_goals first | omega | skip
    all_goals first | exact (hfit (by omega)).1 | exact (hfit (by omega)).2 _ (by assumption) | exact Gn.fit_le (by omega) (hfit (by omega)).1 | skip
end Go.Proofs.Pw
