/- What is a filter that is ok: the specification's functions. -/
import Derived.Test.YtmbenbobnjmklaaDoorPwD
import Derived.Test.YtmbenbobnjmklaaDoorPwOk
import Derived.Test.YtmbenbobnjmklaaDoorPwSame
set_option linter.unusedSimpArgs false
set_option maxRecDepth 20000
namespace Go.Proofs.Pw
set_option linter.unusedSectionVars false
variable [Globs]
def x_l4Kids : X := (.seq (.reg [⟨some 2, none, .mv (.k (.c (.int .i64 0)))⟩] none [0]) (.seq (.seq (.reg [⟨some 3, none, .mv (.t 0)⟩] none [3]) (.block 0 (.seq (.seq (.reg [⟨some 5, none, .bin false .eql (.t 3) (.k (.c (.int .i64 1)))⟩, ⟨some 4, none, .mv (.t 5)⟩] none [3, 4]) (.cond (.t 4) .skip (.seq (.reg [⟨some 6, none, .bin false .eql (.t 3) (.k (.c (.int .i64 2)))⟩, ⟨some 4, none, .mv (.t 6)⟩] none [3, 4]) (.cond (.t 4) .skip (.seq (.reg [⟨some 7, none, .bin false .eql (.t 3) (.k (.c (.int .i64 3)))⟩, ⟨some 4, none, .mv (.t 7)⟩] none [3, 4]) (.cond (.t 4) .skip (.seq (.reg [⟨some 8, none, .bin false .eql (.t 3) (.k (.c (.int .i64 4)))⟩, ⟨some 4, none, .mv (.t 8)⟩] none [3, 4]) (.cond (.t 4) .skip (.seq (.reg [⟨some 9, none, .bin false .eql (.t 3) (.k (.c (.int .i64 5)))⟩, ⟨some 4, none, .mv (.t 9)⟩] none [3, 4]) (.cond (.t 4) .skip (.seq (.reg [⟨some 10, none, .bin false .eql (.t 3) (.k (.c (.int .i64 13)))⟩, ⟨some 4, none, .mv (.t 10)⟩] none [3, 4]) (.cond (.t 4) .skip (.seq (.reg [⟨some 11, none, .bin false .eql (.t 3) (.k (.c (.int .i64 14)))⟩, ⟨some 4, none, .mv (.t 11)⟩] none [3, 4]) (.cond (.t 4) .skip (.seq (.reg [⟨some 12, none, .bin false .eql (.t 3) (.k (.c (.int .i64 15)))⟩, ⟨some 4, none, .mv (.t 12)⟩] none [3, 4]) (.cond (.t 4) .skip (.seq (.reg [⟨some 13, none, .bin false .eql (.t 3) (.k (.c (.int .i64 18)))⟩, ⟨some 4, none, .mv (.t 13)⟩] none [3, 4]) (.cond (.t 4) .skip (.reg [⟨some 14, none, .bin false .eql (.t 3) (.k (.c (.int .i64 19)))⟩, ⟨some 4, none, .mv (.t 14)⟩] none [3, 4]))))))))))))))))))) (.cond (.t 4) (.seq (.reg [⟨some 2, none, .mv (.k (.c (.int .i64 0)))⟩] none [2]) .ret) (.seq (.seq (.reg [⟨some 16, none, .bin false .eql (.t 3) (.k (.c (.int .i64 12)))⟩, ⟨some 15, none, .mv (.t 16)⟩] none [3, 15]) (.cond (.t 15) .skip (.seq (.reg [⟨some 17, none, .bin false .eql (.t 3) (.k (.c (.int .i64 17)))⟩, ⟨some 15, none, .mv (.t 17)⟩] none [3, 15]) (.cond (.t 15) .skip (.reg [⟨some 18, none, .bin false .eql (.t 3) (.k (.c (.int .i64 21)))⟩, ⟨some 15, none, .mv (.t 18)⟩] none [3, 15]))))) (.cond (.t 15) (.seq (.reg [⟨some 2, none, .mv (.k (.c (.int .i64 1)))⟩] none [2]) .ret) (.seq (.seq (.reg [⟨some 20, none, .bin false .eql (.t 3) (.k (.c (.int .i64 6)))⟩, ⟨some 19, none, .mv (.t 20)⟩] none [3, 19]) (.cond (.t 19) .skip (.seq (.reg [⟨some 21, none, .bin false .eql (.t 3) (.k (.c (.int .i64 7)))⟩, ⟨some 19, none, .mv (.t 21)⟩] none [3, 19]) (.cond (.t 19) .skip (.seq (.reg [⟨some 22, none, .bin false .eql (.t 3) (.k (.c (.int .i64 9)))⟩, ⟨some 19, none, .mv (.t 22)⟩] none [3, 19]) (.cond (.t 19) .skip (.seq (.reg [⟨some 23, none, .bin false .eql (.t 3) (.k (.c (.int .i64 10)))⟩, ⟨some 19, none, .mv (.t 23)⟩] none [3, 19]) (.cond (.t 19) .skip (.seq (.reg [⟨some 24, none, .bin false .eql (.t 3) (.k (.c (.int .i64 11)))⟩, ⟨some 19, none, .mv (.t 24)⟩] none [3, 19]) (.cond (.t 19) .skip (.seq (.reg [⟨some 25, none, .bin false .eql (.t 3) (.k (.c (.int .i64 16)))⟩, ⟨some 19, none, .mv (.t 25)⟩] none [3, 19]) (.cond (.t 19) .skip (.reg [⟨some 26, none, .bin false .eql (.t 3) (.k (.c (.int .i64 20)))⟩, ⟨some 19, none, .mv (.t 26)⟩] none [3, 19]))))))))))))) (.cond (.t 19) (.seq (.reg [⟨some 2, none, .mv (.k (.c (.int .i64 2)))⟩] none [2]) .ret) (.seq (.reg [⟨some 28, none, .bin false .eql (.t 3) (.k (.c (.int .i64 8)))⟩, ⟨some 27, none, .mv (.t 28)⟩] none [27]) (.cond (.t 27) (.seq (.reg [⟨some 2, none, .mv (.k (.c (.int .i64 3)))⟩] none [2]) .ret) .skip)))))))))) (.seq (.reg [⟨some 2, none, .mv (.k (.c (.int .i64 (-1))))⟩] none [2]) .ret)))
theorem chk_l4Kids : chkX Go.Proofs.Tryd.prog 29 (Go.Proofs.Tryd.f152.body.getD .skip) x_l4Kids = true := by kernel_rfl
theorem rs_l4Kids : okRs Go.Proofs.Tryd.prog Go.Proofs.Tryd.f152.results.toList [.tmp 2] = true := by kernel_rfl
theorem call_l4Kids : okCallee Go.Proofs.Tryd.prog 152 = true := by kernel_rfl
def x_l4Clean : X := (.seq (.reg [⟨some 1, none, .box (.t 0) (some 9)⟩, ⟨some 2, none, .mv (.k (.c (.bool false)))⟩] none [1]) (.seq (.reg [⟨some 4, none, .fa (.t 1) 0⟩, ⟨some 5, none, .load (.t 4) none⟩, ⟨some 6, none, .bin false .eql (.t 5) (.k (.c (.int .i64 3)))⟩, ⟨some 7, none, .mv (.t 6)⟩, ⟨some 8, some (7, false), .fa (.t 1) 0⟩, ⟨some 9, some (7, false), .load (.t 8) none⟩, ⟨some 10, some (7, false), .bin false .eql (.t 9) (.k (.c (.int .i64 21)))⟩, ⟨some 11, none, .pick (.t 7) (.k (.c (.bool true))) (.t 10)⟩, ⟨some 3, none, .mv (.t 11)⟩] none [1, 3]) (.seq (.reg [⟨some 12, none, .fa (.t 1) 0⟩, ⟨some 13, none, .load (.t 12) none⟩, ⟨some 14, none, .bin false .eql (.t 13) (.k (.c (.int .i64 4)))⟩, ⟨some 15, none, .mv (.t 14)⟩, ⟨some 16, some (15, false), .fa (.t 1) 1⟩, ⟨some 17, some (15, false), .load (.t 16) none⟩, ⟨some 18, some (15, false), .bin false .eql (.t 17) (.k (.c (.int .i64 0)))⟩, ⟨some 19, none, .pick (.t 15) (.k (.c (.bool true))) (.t 18)⟩, ⟨some 20, none, .mv (.t 19)⟩, ⟨some 21, some (20, true), .mv (.t 3)⟩, ⟨some 22, some (20, true), .mv (.t 21)⟩, ⟨some 23, some (22, false), .fa (.t 1) 2⟩, ⟨some 24, some (22, false), .load (.t 23) none⟩, ⟨some 25, some (22, false), .bin false .eql (.t 24) (.k (.c (.str ⟨#[]⟩)))⟩, ⟨some 26, some (20, true), .pick (.t 22) (.k (.c (.bool true))) (.t 25)⟩, ⟨some 27, none, .pick (.t 20) (.t 26) (.k (.c (.bool false)))⟩, ⟨some 28, none, .mv (.t 27)⟩, ⟨some 29, some (28, true), .fa (.t 1) 0⟩, ⟨some 30, some (28, true), .load (.t 29) none⟩, ⟨some 31, some (28, true), .bin false .eql (.t 30) (.k (.c (.int .i64 2)))⟩, ⟨some 32, some (28, true), .mv (.t 31)⟩, ⟨some 33, some (32, false), .fa (.t 1) 3⟩, ⟨some 34, some (32, false), .load (.t 33) (some 5)⟩, ⟨some 35, some (32, false), .build [(.c (.int .i64 0)), (.c (.int .i64 0)), (.c (.str ⟨#[]⟩)), (.z 1), (.z 5)] []⟩, ⟨some 36, some (32, false), .call 103 [(.t 34), (.t 35)]⟩, ⟨some 37, some (28, true), .pick (.t 32) (.k (.c (.bool true))) (.t 36)⟩, ⟨some 38, none, .pick (.t 28) (.t 37) (.k (.c (.bool false)))⟩, ⟨some 2, none, .mv (.t 38)⟩] none [2]) .ret)))
theorem chk_l4Clean : chkX Go.Proofs.Tryd.prog 39 (Go.Proofs.Tryd.f153.body.getD .skip) x_l4Clean = true := by kernel_rfl
theorem rs_l4Clean : okRs Go.Proofs.Tryd.prog Go.Proofs.Tryd.f153.results.toList [.tmp 2] = true := by kernel_rfl
theorem call_l4Clean : okCallee Go.Proofs.Tryd.prog 153 = true := by kernel_rfl
def x_l4Way : X := (.seq (.reg [⟨some 1, none, .box (.t 0) (some 9)⟩, ⟨some 2, none, .mv (.k (.c (.bool false)))⟩] none [1]) (.seq (.seq (.reg [⟨some 3, none, .fa (.t 1) 0⟩, ⟨some 4, none, .load (.t 3) none⟩] none [1, 4]) (.block 0 (.seq (.seq (.reg [⟨some 6, none, .bin false .eql (.t 4) (.k (.c (.int .i64 1)))⟩, ⟨some 5, none, .mv (.t 6)⟩] none [1, 4, 5]) (.cond (.t 5) .skip (.seq (.reg [⟨some 7, none, .bin false .eql (.t 4) (.k (.c (.int .i64 3)))⟩, ⟨some 5, none, .mv (.t 7)⟩] none [1, 4, 5]) (.cond (.t 5) .skip (.seq (.reg [⟨some 8, none, .bin false .eql (.t 4) (.k (.c (.int .i64 4)))⟩, ⟨some 5, none, .mv (.t 8)⟩] none [1, 4, 5]) (.cond (.t 5) .skip (.seq (.reg [⟨some 9, none, .bin false .eql (.t 4) (.k (.c (.int .i64 5)))⟩, ⟨some 5, none, .mv (.t 9)⟩] none [1, 4, 5]) (.cond (.t 5) .skip (.reg [⟨some 10, none, .bin false .eql (.t 4) (.k (.c (.int .i64 18)))⟩, ⟨some 5, none, .mv (.t 10)⟩] none [1, 4, 5]))))))))) (.cond (.t 5) (.seq (.reg [⟨some 2, none, .mv (.k (.c (.bool true)))⟩] none [2]) .ret) (.seq (.seq (.reg [⟨some 12, none, .bin false .eql (.t 4) (.k (.c (.int .i64 6)))⟩, ⟨some 11, none, .mv (.t 12)⟩] none [1, 4, 11]) (.cond (.t 11) .skip (.reg [⟨some 13, none, .bin false .eql (.t 4) (.k (.c (.int .i64 7)))⟩, ⟨some 11, none, .mv (.t 13)⟩] none [1, 4, 11]))) (.cond (.t 11) (.seq (.reg [⟨some 14, none, .fa (.t 1) 8⟩, ⟨some 15, none, .load (.t 14) none⟩, ⟨some 16, none, .ia (.t 15) (.k (.c (.int .i64 0))) 9⟩, ⟨some 17, none, .load (.t 16) (some 9)⟩, ⟨some 18, none, .call 155 [(.t 17)]⟩, ⟨some 19, none, .mv (.t 18)⟩, ⟨some 20, some (19, true), .fa (.t 1) 8⟩, ⟨some 21, some (19, true), .load (.t 20) none⟩, ⟨some 22, some (19, true), .ia (.t 21) (.k (.c (.int .i64 1))) 9⟩, ⟨some 23, some (19, true), .load (.t 22) (some 9)⟩, ⟨some 24, some (19, true), .call 155 [(.t 23)]⟩, ⟨some 25, none, .pick (.t 19) (.t 24) (.k (.c (.bool false)))⟩, ⟨some 2, none, .mv (.t 25)⟩] none [2]) .ret) (.seq (.reg [⟨some 27, none, .bin false .eql (.t 4) (.k (.c (.int .i64 8)))⟩, ⟨some 26, none, .mv (.t 27)⟩] none [1, 26]) (.cond (.t 26) (.seq (.reg [⟨some 28, none, .fa (.t 1) 8⟩, ⟨some 29, none, .load (.t 28) none⟩, ⟨some 30, none, .ia (.t 29) (.k (.c (.int .i64 1))) 9⟩, ⟨some 31, none, .load (.t 30) (some 9)⟩, ⟨some 32, none, .call 155 [(.t 31)]⟩, ⟨some 33, none, .mv (.t 32)⟩, ⟨some 34, some (33, true), .fa (.t 1) 8⟩, ⟨some 35, some (33, true), .load (.t 34) none⟩, ⟨some 36, some (33, true), .ia (.t 35) (.k (.c (.int .i64 2))) 9⟩, ⟨some 37, some (33, true), .load (.t 36) (some 9)⟩, ⟨some 38, some (33, true), .call 155 [(.t 37)]⟩, ⟨some 39, none, .pick (.t 33) (.t 38) (.k (.c (.bool false)))⟩, ⟨some 2, none, .mv (.t 39)⟩] none [2]) .ret) .skip)))))))) (.seq (.reg [⟨some 2, none, .mv (.k (.c (.bool false)))⟩] none [2]) .ret)))
theorem chk_l4Way : chkX Go.Proofs.Tryd.prog 40 (Go.Proofs.Tryd.f155.body.getD .skip) x_l4Way = true := by kernel_rfl
theorem rs_l4Way : okRs Go.Proofs.Tryd.prog Go.Proofs.Tryd.f155.results.toList [.tmp 2] = true := by kernel_rfl
theorem call_l4Way : okCallee Go.Proofs.Tryd.prog 155 = true := by kernel_rfl
noncomputable def spKids  : Spec := Spec.of (ι := Int) [false] (fun i => [.d (.one (.int .i64 i))]) (fun _ => True) (fun i => [.d (.one (.int .i64 (kidsOf i)))]) (fun _ => [.gone])
theorem spKids_inj : ∀ i j : Int, (fun (i : Int) => ([.d (.one (.int .i64 i))] : List AV)) i = (fun (i : Int) => ([.d (.one (.int .i64 i))] : List AV)) j → i = j := by
  intro k k' h
  simpa [strs_eq, T.enc_eq, encL_eq, F.enc_eq, encF_eq, Tk.enc_eq, encTk_eq, Gn.enc_eq] using h
theorem spKids_md  : (spKids).md = [false] := rfl
theorem spKids_pre  (k : Int) : (spKids).pre [.d (.one (.int .i64 k))] = (True) := Spec.of_pre' spKids_inj k
theorem spKids_alts  : (spKids).alts = none := rfl
theorem spKids_res  (k : Int) : (spKids).res [.d (.one (.int .i64 k))] = [.d (.one (.int .i64 (kidsOf k)))] := Spec.of_res spKids_inj k
theorem spKids_out  (k : Int) : (spKids).out [.d (.one (.int .i64 k))] = [.gone] := Spec.of_out spKids_inj k
theorem l4Kids_sound : Sound Go.Proofs.Tryd.prog 152 spKids := by
  refine sound_fam GOK.nil Go.Proofs.Tryd.func152 (c := Go.Proofs.Tryd.f152.body.getD .skip) rfl (n := 29) rfl chk_l4Kids rs_l4Kids (fun _ => by simp) ?_ ?_
  · exact spKids_inj
  · intro k _
    simp only [x_l4Kids, initX, DV.toP, C.toQ, Q.pubB, Option.bind_some, List.map_cons, List.map_nil, pw_seq, pw_reg, pw_cond, condQ_t, condQ_f, condQ_d, not_dec, pw_ret, pw_skip, pw_exit, pw_block, thenQ_n, thenQ_r, thenQ_e, blkQ_n, blkQ_r, blkQ_e, loopQ_n, loopQ_r, loopQ_e, runX, stepR, callR, orF, Spec.at, stepX, stepM, evalK, callX, callE, Gam, get?, argsX, argsE, pubIds, St.pubs, mutIds, nodupIds, outE, retE, retP, allD, DV.toS, St.v, get, PV.un, PV.row, Option.map, St.put, upd, del, binC, rg, St.keep, List.map, Option.getD, effK, bne_self_eq_false, if_true, Bool.true_and, Nat.reduceEqDiff, if_false, reduceIte, reduceCtorEq, Nat.reduceAdd, true_and, endQ, finX, resD, resV, resOwns, refOwns, outX, PV.owns, ownsQ, List.append_nil, List.nil_append, List.foldl, PV.toD, Q.toC, allC, and_true, implies_true, true_implies, false_implies, AV.d.injEq, AV.ref.injEq, Option.some.injEq, DV.one.injEq, DV.agg.injEq, C.int.injEq, C.bool.injEq, C.str.injEq, C.row.injEq, List.cons.injEq, loadC, loadQ, cellsOf, List.length_cons, List.length_nil, List.getD_cons_zero, List.getD_cons_succ, List.drop, List.take, decide_true, decide_false, Int.toNat_natCast, Bool.false_and, Bool.and_true, Bool.and_false, St.map, PV.map, SV.map, St.pub, Q.pub, del, Q.killB, Q.killO, buildX, bslX, place, placeC, asInt?, loX, Nat.reduceLeDiff, Nat.reduceLT, List.append, List.cons_append, Option.bind, Bool.not_true, Bool.not_false, Nat.reduceSub, Nat.reduceBNe, Nat.add_zero, List.getD_nil, strs_len, encL_len, encF_len, encTk_len, allC_map, owns_map, C.def, killB_map, killO_map, pub_map, T.enc_take, F.enc_take, T.enc_take5, F.enc_take9, Tk.enc_take6, Nat.le_refl, List.length_map, List.drop_zero, List.flatMap_cons, List.flatMap_nil, List.any_nil, List.any_cons, Nat.reduceBEq, beq_self_eq_true, Bool.or_false, pick_or, pick_and, pick_t, pick_f, dec_and, bq_t, bq_f, decide_eq_true_eq, decide_eq_false_iff_not, imp_self, not_true_eq_false, not_false_eq_true, rg, kidsOf]
    repeat' (first | with_reducible assumption | with_reducible refine And.intro ?_ ?_ | intro _)
    all_goals first | omega | (grind; done) | skip
noncomputable def spClean  : Spec := Spec.of (ι := F) [false] (fun i => [.d (.agg i.enc)]) (fun i => i.fit 140737488355328) (fun i => [.d (.one (.bool (decide (cleanQ i))))]) (fun _ => [.gone])
theorem spClean_inj : ∀ i j : F, (fun (i : F) => ([.d (.agg i.enc)] : List AV)) i = (fun (i : F) => ([.d (.agg i.enc)] : List AV)) j → i = j := by
  intro t t' h
  simpa [strs_eq, T.enc_eq, encL_eq, F.enc_eq, encF_eq, Tk.enc_eq, encTk_eq, Gn.enc_eq] using h
theorem spClean_md  : (spClean).md = [false] := rfl
theorem spClean_pre  (t : F) : (spClean).pre [.d (.agg t.enc)] = (t.fit 140737488355328) := Spec.of_pre' spClean_inj t
theorem spClean_alts  : (spClean).alts = none := rfl
theorem spClean_res  (t : F) : (spClean).res [.d (.agg t.enc)] = [.d (.one (.bool (decide (cleanQ t))))] := Spec.of_res spClean_inj t
theorem spClean_out  (t : F) : (spClean).out [.d (.agg t.enc)] = [.gone] := Spec.of_out spClean_inj t
theorem l4Clean_sound : Sound Go.Proofs.Tryd.prog 153 spClean := by
  refine sound_fam (GOK.cons call_ValSame sameV_sound GOK.nil) Go.Proofs.Tryd.func153 (c := Go.Proofs.Tryd.f153.body.getD .skip) rfl (n := 39) rfl chk_l4Clean rs_l4Clean (fun _ => by simp) ?_ ?_
  · exact spClean_inj
  · intro t h1
    obtain ⟨kk, n, s, v, l⟩ := t
    obtain ⟨vk, vn, vs, vks, vl⟩ := v
    simp only [F.fit] at h1
    obtain ⟨_, _, f1, f2, f3, f4⟩ := h1
    generalize hv : T.mk vk vn vs vks vl = v at *
    have e6 : v.enc = [.int .i64 vk, .int .i64 vn, .str vs, .row 1 (strs vks), .row 5 (encL vl)] := by rw [← hv]; rfl
    have p1 := spSameV_pre v T.zero
    have p2 := spSameV_res v T.zero
    have p3 := spSameV_out v T.zero
    rw [T.zero_enc, e6] at p1 p2 p3
    have hz := T.zero_fit
    simp only [x_l4Clean, F.enc, e6, initX, DV.toP, C.toQ, Q.pubB, Option.bind_some, List.map_cons, List.map_nil, pw_seq, pw_reg, pw_cond, condQ_t, condQ_f, condQ_d, not_dec, pw_ret, pw_skip, pw_exit, pw_block, thenQ_n, thenQ_r, thenQ_e, blkQ_n, blkQ_r, blkQ_e, loopQ_n, loopQ_r, loopQ_e, runX, stepR, callR, orF, Spec.at, stepX, stepM, evalK, callX, callE, Gam, get?, argsX, argsE, pubIds, St.pubs, mutIds, nodupIds, outE, retE, retP, allD, DV.toS, St.v, get, PV.un, PV.row, Option.map, St.put, upd, del, binC, rg, St.keep, List.map, Option.getD, effK, bne_self_eq_false, if_true, Bool.true_and, Nat.reduceEqDiff, if_false, reduceIte, reduceCtorEq, Nat.reduceAdd, true_and, endQ, finX, resD, resV, resOwns, refOwns, outX, PV.owns, ownsQ, List.append_nil, List.nil_append, List.foldl, PV.toD, Q.toC, allC, and_true, implies_true, true_implies, false_implies, AV.d.injEq, AV.ref.injEq, Option.some.injEq, DV.one.injEq, DV.agg.injEq, C.int.injEq, C.bool.injEq, C.str.injEq, C.row.injEq, List.cons.injEq, loadC, loadQ, cellsOf, List.length_cons, List.length_nil, List.getD_cons_zero, List.getD_cons_succ, List.drop, List.take, decide_true, decide_false, Int.toNat_natCast, Bool.false_and, Bool.and_true, Bool.and_false, St.map, PV.map, SV.map, St.pub, Q.pub, del, Q.killB, Q.killO, buildX, bslX, place, placeC, asInt?, loX, Nat.reduceLeDiff, Nat.reduceLT, List.append, List.cons_append, Option.bind, Bool.not_true, Bool.not_false, Nat.reduceSub, Nat.reduceBNe, Nat.add_zero, List.getD_nil, strs_len, encL_len, encF_len, encTk_len, allC_map, owns_map, C.def, killB_map, killO_map, pub_map, T.enc_take, F.enc_take, T.enc_take5, F.enc_take9, Tk.enc_take6, Nat.le_refl, List.length_map, List.drop_zero, List.flatMap_cons, List.flatMap_nil, List.any_nil, List.any_cons, Nat.reduceBEq, beq_self_eq_true, Bool.or_false, pick_or, pick_and, pick_t, pick_f, dec_and, bq_t, bq_f, decide_eq_true_eq, decide_eq_false_iff_not, imp_self, not_true_eq_false, not_false_eq_true, rg, spSameV_md, spSameV_alts, p1, p2, p3]
    repeat' (first | with_reducible assumption | with_reducible refine And.intro ?_ ?_ | intro _)
    all_goals first | omega | (grind [cleanQ, cleanF]; done) | skip
noncomputable def spWay (k:Nat) : Spec := Spec.of (ι := F) [false] (fun i => [.d (.agg i.enc)]) (fun i => (i.fit 140737488355328 ∧ kindedF i) ∧ SizeOf.sizeOf i < k) (fun i => [.d (.one (.bool (decide (wayF i))))]) (fun _ => [.gone])
theorem spWay_inj : ∀ i j : F, (fun (i : F) => ([.d (.agg i.enc)] : List AV)) i = (fun (i : F) => ([.d (.agg i.enc)] : List AV)) j → i = j := by
  intro t t' h
  simpa [strs_eq, T.enc_eq, encL_eq, F.enc_eq, encF_eq, Tk.enc_eq, encTk_eq, Gn.enc_eq] using h
theorem spWay_md (k:Nat) : (spWay k).md = [false] := rfl
theorem spWay_pre (k:Nat) (t : F) : (spWay k).pre [.d (.agg t.enc)] = ((t.fit 140737488355328 ∧ kindedF t) ∧ SizeOf.sizeOf t < k) := Spec.of_pre' spWay_inj t
theorem spWay_alts (k:Nat) : (spWay k).alts = none := rfl
theorem spWay_res (k:Nat) (t : F) : (spWay k).res [.d (.agg t.enc)] = [.d (.one (.bool (decide (wayF t))))] := Spec.of_res spWay_inj t
theorem spWay_out (k:Nat) (t : F) : (spWay k).out [.d (.agg t.enc)] = [.gone] := Spec.of_out spWay_inj t
theorem l4Way_sound (k : Nat) (hS : Sound Go.Proofs.Tryd.prog 155 (spWay k)) : Sound Go.Proofs.Tryd.prog 155 (spWay (k + 1)) := by
  refine sound_fam (GOK.cons call_l4Way hS GOK.nil) Go.Proofs.Tryd.func155 (c := Go.Proofs.Tryd.f155.body.getD .skip) rfl (n := 40) rfl chk_l4Way rs_l4Way (fun _ => by simp) ?_ ?_
  · exact spWay_inj
  · rintro t ⟨⟨h1, h2⟩, h4⟩
    obtain ⟨kk, n, s, v, l⟩ := t
    obtain ⟨vk, vn, vs, vks, vl⟩ := v
    simp only [F.fit, kindedF] at h1 h2
    obtain ⟨_, _, f1, f2, f3, f4⟩ := h1
    obtain ⟨g1, g2⟩ := h2
    generalize hv : T.mk vk vn vs vks vl = v at *
    have e3 : SizeOf.sizeOf l < k := by have e : SizeOf.sizeOf (F.mk kk n s v l) < k + 1 := h4
                                        rw [F.mk.sizeOf_spec] at e; omega
    clear h4
    have e6 : v.enc = [.int .i64 vk, .int .i64 vn, .str vs, .row 1 (strs vks), .row 5 (encL vl)] := by rw [← hv]; rfl
    have hF : wayF (F.mk kk n s v l) ↔ ((kk = 1 ∨ kk = 3 ∨ kk = 4 ∨ kk = 5 ∨ kk = 18) ∨ ((kk = 6 ∨ kk = 7) ∧ wayL l 0 ∧ wayL l 1) ∨ (kk = 8 ∧ wayL l 1 ∧ wayL l 2)) := by simp only [wayF]
    have hk2 : kk = 6 ∨ kk = 7 → l.length = 2 := fun h => by
      have : kidsOf kk = 2 := by rcases h with rfl | rfl <;> decide
      omega
    have hk3 : kk = 8 → l.length = 3 := fun h => by
      have : kidsOf kk = 3 := by subst h; decide
      omega
    by_cases hz : 2 ≤ l.length
    · obtain ⟨x0, i0, _, m0⟩ := drop_at (l := l) (i := 0) (by omega)
      obtain ⟨x1, i1, _, m1⟩ := drop_at (l := l) (i := 1) (by omega)
      have a0 := encF_at i0
      have a1 := encF_at i1
      have w0 := wayL_at i0
      have w1 := wayL_at i1
      have l0 := F.enc_len x0
      have l1 := F.enc_len x1
      have s0 := size_mem m0
      have s1 := size_mem m1
      have t0 := fitF_mem f4 x0 m0
      have t1 := fitF_mem f4 x1 m1
      have u0 := kindedL_mem.1 g2 x0 m0
      have u1 := kindedL_mem.1 g2 x1 m1
      have z0 : (0 : Int).toNat = 0 := rfl
      have z1 : (1 : Int).toNat = 1 := rfl
      have z2 : (2 : Int).toNat = 2 := rfl
      by_cases h3 : 3 ≤ l.length
      · obtain ⟨x2, i2, _, m2⟩ := drop_at (l := l) (i := 2) (by omega)
        have a2 := encF_at i2
        have w2 := wayL_at i2
        have l2 := F.enc_len x2
        have s2 := size_mem m2
        have t2 := fitF_mem f4 x2 m2
        have u2 := kindedL_mem.1 g2 x2 m2
        rw [w0, w1, w2] at hF
        simp only [x_l4Way, F.enc, e6, initX, DV.toP, C.toQ, Q.pubB, Option.bind_some, List.map_cons, List.map_nil, pw_seq, pw_reg, pw_cond, condQ_t, condQ_f, condQ_d, not_dec, pw_ret, pw_skip, pw_exit, pw_block, thenQ_n, thenQ_r, thenQ_e, blkQ_n, blkQ_r, blkQ_e, loopQ_n, loopQ_r, loopQ_e, runX, stepR, callR, orF, Spec.at, stepX, stepM, evalK, callX, callE, Gam, get?, argsX, argsE, pubIds, St.pubs, mutIds, nodupIds, outE, retE, retP, allD, DV.toS, St.v, get, PV.un, PV.row, Option.map, St.put, upd, del, binC, rg, St.keep, List.map, Option.getD, effK, bne_self_eq_false, if_true, Bool.true_and, Nat.reduceEqDiff, if_false, reduceIte, reduceCtorEq, Nat.reduceAdd, true_and, endQ, finX, resD, resV, resOwns, refOwns, outX, PV.owns, ownsQ, List.append_nil, List.nil_append, List.foldl, PV.toD, Q.toC, allC, and_true, implies_true, true_implies, false_implies, AV.d.injEq, AV.ref.injEq, Option.some.injEq, DV.one.injEq, DV.agg.injEq, C.int.injEq, C.bool.injEq, C.str.injEq, C.row.injEq, List.cons.injEq, loadC, loadQ, cellsOf, List.length_cons, List.length_nil, List.getD_cons_zero, List.getD_cons_succ, List.drop, List.take, decide_true, decide_false, Int.toNat_natCast, Bool.false_and, Bool.and_true, Bool.and_false, St.map, PV.map, SV.map, St.pub, Q.pub, del, Q.killB, Q.killO, buildX, bslX, place, placeC, asInt?, loX, Nat.reduceLeDiff, Nat.reduceLT, List.append, List.cons_append, Option.bind, Bool.not_true, Bool.not_false, Nat.reduceSub, Nat.reduceBNe, Nat.add_zero, List.getD_nil, strs_len, encL_len, encF_len, encTk_len, allC_map, owns_map, C.def, killB_map, killO_map, pub_map, T.enc_take, F.enc_take, T.enc_take5, F.enc_take9, Tk.enc_take6, Nat.le_refl, List.length_map, List.drop_zero, List.flatMap_cons, List.flatMap_nil, List.any_nil, List.any_cons, Nat.reduceBEq, beq_self_eq_true, Bool.or_false, pick_or, pick_and, pick_t, pick_f, dec_and, bq_t, bq_f, decide_eq_true_eq, decide_eq_false_iff_not, imp_self, not_true_eq_false, not_false_eq_true, rg, z0, z1, z2, a0, a1, a2, l0, l1, l2, spWay_md, spWay_pre, spWay_alts, spWay_res, spWay_out]
        repeat' (first | with_reducible assumption | with_reducible refine And.intro ?_ ?_ | intro _)
        all_goals first | omega | (grind; done) | skip
      · have h8 : (kk = 8) = False := by simp; intro h; have := hk3 h; omega
        rw [w0, w1] at hF
        simp only [x_l4Way, F.enc, e6, initX, DV.toP, C.toQ, Q.pubB, Option.bind_some, List.map_cons, List.map_nil, pw_seq, pw_reg, pw_cond, condQ_t, condQ_f, condQ_d, not_dec, pw_ret, pw_skip, pw_exit, pw_block, thenQ_n, thenQ_r, thenQ_e, blkQ_n, blkQ_r, blkQ_e, loopQ_n, loopQ_r, loopQ_e, runX, stepR, callR, orF, Spec.at, stepX, stepM, evalK, callX, callE, Gam, get?, argsX, argsE, pubIds, St.pubs, mutIds, nodupIds, outE, retE, retP, allD, DV.toS, St.v, get, PV.un, PV.row, Option.map, St.put, upd, del, binC, rg, St.keep, List.map, Option.getD, effK, bne_self_eq_false, if_true, Bool.true_and, Nat.reduceEqDiff, if_false, reduceIte, reduceCtorEq, Nat.reduceAdd, true_and, endQ, finX, resD, resV, resOwns, refOwns, outX, PV.owns, ownsQ, List.append_nil, List.nil_append, List.foldl, PV.toD, Q.toC, allC, and_true, implies_true, true_implies, false_implies, AV.d.injEq, AV.ref.injEq, Option.some.injEq, DV.one.injEq, DV.agg.injEq, C.int.injEq, C.bool.injEq, C.str.injEq, C.row.injEq, List.cons.injEq, loadC, loadQ, cellsOf, List.length_cons, List.length_nil, List.getD_cons_zero, List.getD_cons_succ, List.drop, List.take, decide_true, decide_false, Int.toNat_natCast, Bool.false_and, Bool.and_true, Bool.and_false, St.map, PV.map, SV.map, St.pub, Q.pub, del, Q.killB, Q.killO, buildX, bslX, place, placeC, asInt?, loX, Nat.reduceLeDiff, Nat.reduceLT, List.append, List.cons_append, Option.bind, Bool.not_true, Bool.not_false, Nat.reduceSub, Nat.reduceBNe, Nat.add_zero, List.getD_nil, strs_len, encL_len, encF_len, encTk_len, allC_map, owns_map, C.def, killB_map, killO_map, pub_map, T.enc_take, F.enc_take, T.enc_take5, F.enc_take9, Tk.enc_take6, Nat.le_refl, List.length_map, List.drop_zero, List.flatMap_cons, List.flatMap_nil, List.any_nil, List.any_cons, Nat.reduceBEq, beq_self_eq_true, Bool.or_false, pick_or, pick_and, pick_t, pick_f, dec_and, bq_t, bq_f, decide_eq_true_eq, decide_eq_false_iff_not, imp_self, not_true_eq_false, not_false_eq_true, rg, z0, z1, z2, a0, a1, l0, l1, h8, spWay_md, spWay_pre, spWay_alts, spWay_res, spWay_out]
        repeat' (first | with_reducible assumption | with_reducible refine And.intro ?_ ?_ | intro _)
        all_goals first | omega | (grind; done) | skip
    · have h6 : (kk = 6) = False := by simp; intro h; have := hk2 (.inl h); omega
      have h7 : (kk = 7) = False := by simp; intro h; have := hk2 (.inr h); omega
      have h8 : (kk = 8) = False := by simp; intro h; have := hk3 h; omega
      simp only [x_l4Way, F.enc, e6, initX, DV.toP, C.toQ, Q.pubB, Option.bind_some, List.map_cons, List.map_nil, pw_seq, pw_reg, pw_cond, condQ_t, condQ_f, condQ_d, not_dec, pw_ret, pw_skip, pw_exit, pw_block, thenQ_n, thenQ_r, thenQ_e, blkQ_n, blkQ_r, blkQ_e, loopQ_n, loopQ_r, loopQ_e, runX, stepR, callR, orF, Spec.at, stepX, stepM, evalK, callX, callE, Gam, get?, argsX, argsE, pubIds, St.pubs, mutIds, nodupIds, outE, retE, retP, allD, DV.toS, St.v, get, PV.un, PV.row, Option.map, St.put, upd, del, binC, rg, St.keep, List.map, Option.getD, effK, bne_self_eq_false, if_true, Bool.true_and, Nat.reduceEqDiff, if_false, reduceIte, reduceCtorEq, Nat.reduceAdd, true_and, endQ, finX, resD, resV, resOwns, refOwns, outX, PV.owns, ownsQ, List.append_nil, List.nil_append, List.foldl, PV.toD, Q.toC, allC, and_true, implies_true, true_implies, false_implies, AV.d.injEq, AV.ref.injEq, Option.some.injEq, DV.one.injEq, DV.agg.injEq, C.int.injEq, C.bool.injEq, C.str.injEq, C.row.injEq, List.cons.injEq, loadC, loadQ, cellsOf, List.length_cons, List.length_nil, List.getD_cons_zero, List.getD_cons_succ, List.drop, List.take, decide_true, decide_false, Int.toNat_natCast, Bool.false_and, Bool.and_true, Bool.and_false, St.map, PV.map, SV.map, St.pub, Q.pub, del, Q.killB, Q.killO, buildX, bslX, place, placeC, asInt?, loX, Nat.reduceLeDiff, Nat.reduceLT, List.append, List.cons_append, Option.bind, Bool.not_true, Bool.not_false, Nat.reduceSub, Nat.reduceBNe, Nat.add_zero, List.getD_nil, strs_len, encL_len, encF_len, encTk_len, allC_map, owns_map, C.def, killB_map, killO_map, pub_map, T.enc_take, F.enc_take, T.enc_take5, F.enc_take9, Tk.enc_take6, Nat.le_refl, List.length_map, List.drop_zero, List.flatMap_cons, List.flatMap_nil, List.any_nil, List.any_cons, Nat.reduceBEq, beq_self_eq_true, Bool.or_false, pick_or, pick_and, pick_t, pick_f, dec_and, bq_t, bq_f, decide_eq_true_eq, decide_eq_false_iff_not, imp_self, not_true_eq_false, not_false_eq_true, rg, h6, h7, h8]
      repeat' (first | with_reducible assumption | with_reducible refine And.intro ?_ ?_ | intro _)
      all_goals first | omega | (grind; done) | skip
theorem way_all : ∀ k, Sound Go.Proofs.Tryd.prog 155 (spWay k) := fun k => Nat.rec Sound.none (fun k ih => l4Way_sound k ih) k
/-- As it is asked where there may be none. -/
noncomputable def spWayD : Spec := Spec.of (ι := Option F) [false] (fun i => match i with | some t => [.d (.agg t.enc)] | none => [.d (.agg [])]) (fun i => match i with | some t => t.fit 140737488355328 ∧ kindedF t | none => False) (fun i => match i with | some t => [.d (.one (.bool (decide (wayF t))))] | none => [.d (.one (.bool (decide False)))]) (fun _ => [.gone])
theorem spWayD_inj : ∀ i j : Option F, (fun i : Option F => (match i with | some t => [.d (.agg t.enc)] | none => [.d (.agg [])] : List AV)) i = (fun i : Option F => (match i with | some t => [.d (.agg t.enc)] | none => [.d (.agg [])] : List AV)) j → i = j := by
  intro i j h
  cases i with
  | none =>
    cases j with
    | none => rfl
    | some t => have := congrArg List.length (show [] = t.enc by simpa using h); rw [F.enc_len] at this; simp at this
  | some t =>
    cases j with
    | none => have := congrArg List.length (show t.enc = [] by simpa using h); rw [F.enc_len] at this; simp at this
    | some t' => simpa [F.enc_eq] using h
theorem spWayD_md : spWayD.md = [false] := rfl
theorem spWayD_alts : spWayD.alts = none := rfl
theorem spWayD_pre (t : F) : spWayD.pre [.d (.agg t.enc)] = (t.fit 140737488355328 ∧ kindedF t) := Spec.of_pre' spWayD_inj (some t)
theorem spWayD_res (t : F) : spWayD.res [.d (.agg t.enc)] = [.d (.one (.bool (decide (wayF t))))] := Spec.of_res spWayD_inj (some t)
theorem spWayD_out (t : F) : spWayD.out [.d (.agg t.enc)] = [.gone] := Spec.of_out spWayD_inj (some t)
theorem spWayD_pre0 : spWayD.pre [.d (.agg [])] = False := Spec.of_pre' spWayD_inj none
theorem spWayD_res0 : spWayD.res [.d (.agg [])] = [.d (.one (.bool (decide False)))] := Spec.of_res spWayD_inj none
theorem spWayD_out0 : spWayD.out [.d (.agg [])] = [.gone] := Spec.of_out spWayD_inj none
theorem wayD_sound : Sound Go.Proofs.Tryd.prog 155 spWayD := by
  rintro ds ⟨i, rfl, hi⟩ w S vs fps hG hS hF ha hA
  cases i with
  | none => exact hi.elim
  | some t =>
    have hp : (spWay (SizeOf.sizeOf t + 1)).pre [.d (.agg t.enc)] := by
      rw [spWay_pre]; exact ⟨hi, Nat.lt_succ_self _⟩
    refine (way_all (SizeOf.sizeOf t + 1) [.d (.agg t.enc)] hp w S vs fps hG hS hF ha hA).mono ?_
    rintro e w' ⟨r, o, hro, rest⟩
    obtain ⟨rfl, rfl⟩ := (Spec.may_none rfl).1 hro
    rw [spWay_res, spWay_out] at rest
    exact ⟨_, _, (Spec.may_none rfl).2 ⟨(spWayD_res t).symm, (spWayD_out t).symm⟩, rest⟩
end Go.Proofs.Pw
