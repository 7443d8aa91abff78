/- What is a generator that is ok: the specification's function. -/
import Derived.Test.YtmbenbobnjmklaaDoorPwD
import Derived.Test.YtmbenbobnjmklaaDoorPwFilt2
set_option linter.unusedSimpArgs false
set_option maxRecDepth 20000
namespace Go.Proofs.Pw
set_option linter.unusedSectionVars false
variable [Globs]
def x_GenOk : X := (.seq (.reg [⟨some 1, none, .box (.t 0) (some 3)⟩, ⟨some 2, none, .mv (.k (.c (.bool false)))⟩] none [1]) (.seq (.seq (.reg [⟨some 5, none, .fa (.t 1) 1⟩, ⟨some 6, none, .load (.t 5) none⟩, ⟨some 7, none, .bin false .lss (.t 6) (.k (.c (.int .i64 0)))⟩, ⟨some 8, none, .mv (.t 7)⟩, ⟨some 9, some (8, false), .fa (.t 1) 1⟩, ⟨some 10, some (8, false), .load (.t 9) none⟩, ⟨some 11, some (8, false), .bin false .gtr (.t 10) (.k (.c (.int .i64 400)))⟩, ⟨some 12, none, .pick (.t 8) (.k (.c (.bool true))) (.t 11)⟩, ⟨some 13, none, .mv (.t 12)⟩, ⟨some 14, some (13, false), .fa (.t 1) 2⟩, ⟨some 15, some (13, false), .load (.t 14) none⟩, ⟨some 16, some (13, false), .bin false .lss (.t 15) (.k (.c (.int .i64 0)))⟩, ⟨some 17, none, .pick (.t 13) (.k (.c (.bool true))) (.t 16)⟩, ⟨some 18, none, .mv (.t 17)⟩, ⟨some 19, some (18, false), .fa (.t 1) 2⟩, ⟨some 20, some (18, false), .load (.t 19) none⟩, ⟨some 21, some (18, false), .bin false .gtr (.t 20) (.k (.c (.int .i64 3)))⟩, ⟨some 22, none, .pick (.t 18) (.k (.c (.bool true))) (.t 21)⟩, ⟨some 23, none, .mv (.t 22)⟩, ⟨some 24, some (23, false), .fa (.t 1) 2⟩, ⟨some 25, some (23, false), .load (.t 24) none⟩, ⟨some 26, some (23, false), .bin false .neq (.t 25) (.k (.c (.int .i64 0)))⟩, ⟨some 27, some (23, false), .mv (.t 26)⟩, ⟨some 28, some (27, true), .fa (.t 1) 0⟩, ⟨some 29, some (27, true), .load (.t 28) none⟩, ⟨some 30, some (27, true), .len (.t 29) false⟩, ⟨some 31, some (27, true), .bin false .gtr (.t 30) (.k (.c (.int .i64 0)))⟩, ⟨some 32, some (23, false), .pick (.t 27) (.t 31) (.k (.c (.bool false)))⟩, ⟨some 33, none, .pick (.t 23) (.k (.c (.bool true))) (.t 32)⟩, ⟨some 34, none, .mv (.t 33)⟩, ⟨some 35, some (34, false), .fa (.t 1) 0⟩, ⟨some 36, some (34, false), .load (.t 35) none⟩, ⟨some 37, some (34, false), .len (.t 36) false⟩, ⟨some 38, some (34, false), .bin false .gtr (.t 37) (.k (.c (.int .i64 2000)))⟩, ⟨some 39, none, .pick (.t 34) (.k (.c (.bool true))) (.t 38)⟩] none [1, 39]) (.cond (.t 39) (.seq (.reg [⟨some 2, none, .mv (.k (.c (.bool false)))⟩] none [2]) .ret) .skip)) (.seq (.seq (.reg [⟨some 3, none, .mv (.k (.c (.int .i64 0)))⟩] none [1, 3]) (.block 0 (.loop (.seq (.seq (.reg [⟨some 40, none, .mv (.t 3)⟩, ⟨some 41, none, .fa (.t 1) 0⟩, ⟨some 42, none, .load (.t 41) none⟩, ⟨some 43, none, .len (.t 42) false⟩, ⟨some 44, none, .bin false .lss (.t 40) (.t 43)⟩] none [1, 3, 44]) (.cond (.t 44) .skip (.exit 0))) (.seq (.block 1 (.seq (.seq (.reg [⟨some 47, none, .fa (.t 1) 0⟩, ⟨some 48, none, .load (.t 47) none⟩, ⟨some 49, none, .mv (.t 3)⟩, ⟨some 50, none, .ia (.t 48) (.t 49) 6⟩, ⟨some 51, none, .fa (.t 50) 0⟩, ⟨some 52, none, .load (.t 51) (some 5)⟩, ⟨some 53, none, .call 59 [(.t 52)]⟩, ⟨some 54, none, .not (.t 53)⟩, ⟨some 55, none, .mv (.t 54)⟩, ⟨some 56, some (55, false), .fa (.t 1) 0⟩, ⟨some 57, some (55, false), .load (.t 56) none⟩, ⟨some 58, some (55, false), .mv (.t 3)⟩, ⟨some 59, some (55, false), .ia (.t 57) (.t 58) 6⟩, ⟨some 60, some (55, false), .fa (.t 59) 5⟩, ⟨some 61, some (55, false), .load (.t 60) none⟩, ⟨some 62, some (55, false), .len (.t 61) false⟩, ⟨some 63, some (55, false), .bin false .gtr (.t 62) (.k (.c (.int .i64 40)))⟩, ⟨some 64, none, .pick (.t 55) (.k (.c (.bool true))) (.t 63)⟩] none [1, 3, 64]) (.cond (.t 64) (.seq (.reg [⟨some 2, none, .mv (.k (.c (.bool false)))⟩] none [2]) .ret) .skip)) (.seq (.reg [⟨some 4, none, .mv (.k (.c (.int .i64 0)))⟩] none [1, 3, 4]) (.block 2 (.loop (.seq (.seq (.reg [⟨some 65, none, .mv (.t 4)⟩, ⟨some 66, none, .fa (.t 1) 0⟩, ⟨some 67, none, .load (.t 66) none⟩, ⟨some 68, none, .mv (.t 3)⟩, ⟨some 69, none, .ia (.t 67) (.t 68) 6⟩, ⟨some 70, none, .fa (.t 69) 5⟩, ⟨some 71, none, .load (.t 70) none⟩, ⟨some 72, none, .len (.t 71) false⟩, ⟨some 73, none, .bin false .lss (.t 65) (.t 72)⟩] none [1, 3, 4, 73]) (.cond (.t 73) .skip (.exit 2))) (.seq (.block 3 (.seq (.reg [⟨some 76, none, .fa (.t 1) 0⟩, ⟨some 77, none, .load (.t 76) none⟩, ⟨some 78, none, .mv (.t 3)⟩, ⟨some 79, none, .ia (.t 77) (.t 78) 6⟩, ⟨some 80, none, .fa (.t 79) 5⟩, ⟨some 81, none, .load (.t 80) none⟩, ⟨some 82, none, .mv (.t 4)⟩, ⟨some 83, none, .ia (.t 81) (.t 82) 9⟩, ⟨some 84, none, .load (.t 83) (some 9)⟩, ⟨some 85, none, .call 33 [(.t 84)]⟩, ⟨some 86, none, .not (.t 85)⟩] none [1, 3, 4, 86]) (.cond (.t 86) (.seq (.reg [⟨some 2, none, .mv (.k (.c (.bool false)))⟩] none [2]) .ret) .skip))) (.reg [⟨some 74, none, .mv (.t 4)⟩, ⟨some 75, none, .bin false .add (.t 74) (.k (.c (.int .i64 1)))⟩, ⟨some 4, none, .mv (.t 75)⟩] none [1, 3, 4])))))))) (.reg [⟨some 45, none, .mv (.t 3)⟩, ⟨some 46, none, .bin false .add (.t 45) (.k (.c (.int .i64 1)))⟩, ⟨some 3, none, .mv (.t 46)⟩] none [1, 3])))))) (.seq (.reg [⟨some 2, none, .mv (.k (.c (.bool true)))⟩] none [2]) .ret))))
theorem chk_GenOk : chkX Go.Proofs.Tryd.prog 87 (Go.Proofs.Tryd.f15.body.getD .skip) x_GenOk = true := by kernel_rfl
theorem rs_GenOk : okRs Go.Proofs.Tryd.prog Go.Proofs.Tryd.f15.results.toList [.tmp 2] = true := by kernel_rfl
theorem call_GenOk : okCallee Go.Proofs.Tryd.prog 15 = true := by kernel_rfl
noncomputable def spGenOk  : Spec := Spec.of (ι := Gn) [false] (fun i => [.d (.agg i.enc)]) (fun i => i.fit 140737488355328 ∧ ∀ t ∈ i.tasks, smallTk t) (fun i => [.d (.one (.bool (decide (okGn i))))]) (fun _ => [.gone])
theorem spGenOk_inj : ∀ i j : Gn, (fun (i : Gn) => ([.d (.agg i.enc)] : List AV)) i = (fun (i : Gn) => ([.d (.agg i.enc)] : List AV)) j → i = j := by
  intro g g' h
  simpa [strs_eq, T.enc_eq, encL_eq, F.enc_eq, encF_eq, Tk.enc_eq, encTk_eq, Gn.enc_eq] using h
theorem spGenOk_md  : (spGenOk).md = [false] := rfl
theorem spGenOk_pre  (g : Gn) : (spGenOk).pre [.d (.agg g.enc)] = (g.fit 140737488355328 ∧ ∀ t ∈ g.tasks, smallTk t) := Spec.of_pre' spGenOk_inj g
theorem spGenOk_alts  : (spGenOk).alts = none := rfl
theorem spGenOk_res  (g : Gn) : (spGenOk).res [.d (.agg g.enc)] = [.d (.one (.bool (decide (okGn g))))] := Spec.of_res spGenOk_inj g
theorem spGenOk_out  (g : Gn) : (spGenOk).out [.d (.agg g.enc)] = [.gone] := Spec.of_out spGenOk_inj g
theorem genOk_sound : Sound Go.Proofs.Tryd.prog 15 spGenOk := by
  refine sound_fam (GOK.cons (l := [(33, spOkF)]) call_ValOk sOkT_sound (GOK.cons call_FiltOk sOkF_sound GOK.nil)) Go.Proofs.Tryd.func15 (c := Go.Proofs.Tryd.f15.body.getD .skip) rfl (n := 87) rfl chk_GenOk rs_GenOk (fun _ => by simp) ?_ ?_
  · exact spGenOk_inj
  · rintro ⟨l, fu, co⟩ ⟨h1, hsm⟩
    simp only [Gn.fit] at h1
    simp only at hsm
    obtain ⟨f1, f2, f3, f4⟩ := h1
    have hln : (l.length : Int) ≤ 140737488355328 := f1
    have hO : okGn ⟨l, fu, co⟩ ↔ (0 ≤ fu ∧ fu ≤ 400 ∧ 0 ≤ co ∧ co ≤ 3 ∧ (co = 0 ∨ l.length = 0) ∧ l.length ≤ 2000 ∧ ∀ t ∈ l, okTk t) := Iff.rfl
    simp only [x_GenOk, Gn.enc, initX, DV.toP, C.toQ, Q.pubB, Option.bind_some, List.map_cons, List.map_nil, pw_seq, pw_reg, pw_cond, condQ_t, condQ_f, condQ_d, not_dec, pw_ret, pw_skip, pw_exit, pw_block, thenQ_n, thenQ_r, thenQ_e, blkQ_n, blkQ_r, blkQ_e, loopQ_n, loopQ_r, loopQ_e, runX, stepR, callR, orF, Spec.at, stepX, stepM, evalK, callX, callE, Gam, get?, argsX, argsE, pubIds, St.pubs, mutIds, nodupIds, outE, retE, retP, allD, DV.toS, St.v, get, PV.un, PV.row, Option.map, St.put, upd, del, binC, rg, St.keep, List.map, Option.getD, effK, bne_self_eq_false, if_true, Bool.true_and, Nat.reduceEqDiff, if_false, reduceIte, reduceCtorEq, Nat.reduceAdd, true_and, endQ, finX, resD, resV, resOwns, refOwns, outX, PV.owns, ownsQ, List.append_nil, List.nil_append, List.foldl, PV.toD, Q.toC, allC, and_true, implies_true, true_implies, false_implies, AV.d.injEq, AV.ref.injEq, Option.some.injEq, DV.one.injEq, DV.agg.injEq, C.int.injEq, C.bool.injEq, C.str.injEq, C.row.injEq, List.cons.injEq, loadC, loadQ, cellsOf, List.length_cons, List.length_nil, List.getD_cons_zero, List.getD_cons_succ, List.drop, List.take, decide_true, decide_false, Int.toNat_natCast, Bool.false_and, Bool.and_true, Bool.and_false, St.map, PV.map, SV.map, St.pub, Q.pub, del, Q.killB, Q.killO, buildX, bslX, place, placeC, asInt?, loX, Nat.reduceLeDiff, Nat.reduceLT, List.append, List.cons_append, Option.bind, Bool.not_true, Bool.not_false, Nat.reduceSub, Nat.reduceBNe, Nat.add_zero, List.getD_nil, strs_len, encL_len, encF_len, encTk_len, allC_map, owns_map, C.def, killB_map, killO_map, pub_map, T.enc_take, F.enc_take, T.enc_take5, F.enc_take9, Tk.enc_take6, Nat.le_refl, List.length_map, List.drop_zero, List.flatMap_cons, List.flatMap_nil, List.any_nil, List.any_cons, Nat.reduceBEq, beq_self_eq_true, Bool.or_false, pick_or, pick_and, pick_t, pick_f, dec_and, bq_t, bq_f, decide_eq_true_eq, decide_eq_false_iff_not, imp_self, not_true_eq_false, not_false_eq_true, rg]
    repeat' (first | with_reducible assumption | with_reducible refine And.intro ?_ ?_ | intro _)
    all_goals first | omega | (grind; done) | skip
    have hb : okGn ⟨l, fu, co⟩ ↔ ∀ t ∈ l, okTk t := by grind
    clear hO
    repeat (rename_i hx; clear hx)
    refine pw_loop (ι := Nat) (fun i => l.length - i) (fun i => i ≤ l.length ∧ ∀ t ∈ l.take i, okTk t)
      (fun i => ⟨[(1, .q (.box 1 0)), (3, .q (.c (.int .i64 i)))], [(1, [.c (.row 6 (encTk l)), .c (.int .i64 fu), .c (.int .i64 co)])], []⟩) 0 ⟨Nat.zero_le _, by simp⟩ (Le.refl _) ?_
    rintro i ⟨hi, hall⟩
    rcases Nat.lt_or_ge i l.length with hlt | hge
    · obtain ⟨t, ht, _, hmem⟩ := drop_at hlt
      have a1 := encTk_at ht
      have a2 : ((i : Int) < (l.length : Int)) = True := by simp; omega
      have a3 := fitTk_mem f2 t hmem
      have hst := hsm t hmem
      obtain ⟨v, td⟩ := t
      obtain ⟨vk, vn, vs, vks, vl⟩ := v
      generalize hv : T.mk vk vn vs vks vl = v at *
      have e6 : v.enc = [.int .i64 vk, .int .i64 vn, .str vs, .row 1 (strs vks), .row 5 (encL vl)] := by rw [← hv]; rfl
      simp only [Tk.fit] at a3
      simp only [smallTk] at hst
      obtain ⟨hs1, hs2⟩ := hst
      obtain ⟨b1, b2, b3⟩ := a3
      have hln2 : (td.length : Int) ≤ 140737488355328 := b2
      have q1 := spOkT_pre v
      have q2 := spOkT_res v
      have q3 := spOkT_out v
      rw [e6] at q1 q2 q3
      simp only [Tk.enc, e6, List.cons_append, List.nil_append] at a1
      have hT : okTk ⟨v, td⟩ ↔ (okT v ∧ td.length ≤ 40 ∧ ∀ f ∈ td, okF f) := Iff.rfl
      have hall' : okGn ⟨l, fu, co⟩ → okTk ⟨v, td⟩ := fun h => hb.1 h _ hmem
      simp only [initX, DV.toP, C.toQ, Q.pubB, Option.bind_some, List.map_cons, List.map_nil, pw_seq, pw_reg, pw_cond, condQ_t, condQ_f, condQ_d, not_dec, pw_ret, pw_skip, pw_exit, pw_block, thenQ_n, thenQ_r, thenQ_e, blkQ_n, blkQ_r, blkQ_e, loopQ_n, loopQ_r, loopQ_e, runX, stepR, callR, orF, Spec.at, stepX, stepM, evalK, callX, callE, Gam, get?, argsX, argsE, pubIds, St.pubs, mutIds, nodupIds, outE, retE, retP, allD, DV.toS, St.v, get, PV.un, PV.row, Option.map, St.put, upd, del, binC, rg, St.keep, List.map, Option.getD, effK, bne_self_eq_false, if_true, Bool.true_and, Nat.reduceEqDiff, if_false, reduceIte, reduceCtorEq, Nat.reduceAdd, true_and, endQ, finX, resD, resV, resOwns, refOwns, outX, PV.owns, ownsQ, List.append_nil, List.nil_append, List.foldl, PV.toD, Q.toC, allC, and_true, implies_true, true_implies, false_implies, AV.d.injEq, AV.ref.injEq, Option.some.injEq, DV.one.injEq, DV.agg.injEq, C.int.injEq, C.bool.injEq, C.str.injEq, C.row.injEq, List.cons.injEq, loadC, loadQ, cellsOf, List.length_cons, List.length_nil, List.getD_cons_zero, List.getD_cons_succ, List.drop, List.take, decide_true, decide_false, Int.toNat_natCast, Bool.false_and, Bool.and_true, Bool.and_false, St.map, PV.map, SV.map, St.pub, Q.pub, del, Q.killB, Q.killO, buildX, bslX, place, placeC, asInt?, loX, Nat.reduceLeDiff, Nat.reduceLT, List.append, List.cons_append, Option.bind, Bool.not_true, Bool.not_false, Nat.reduceSub, Nat.reduceBNe, Nat.add_zero, List.getD_nil, strs_len, encL_len, encF_len, encTk_len, allC_map, owns_map, C.def, killB_map, killO_map, pub_map, T.enc_take, F.enc_take, T.enc_take5, F.enc_take9, Tk.enc_take6, Nat.le_refl, List.length_map, List.drop_zero, List.flatMap_cons, List.flatMap_nil, List.any_nil, List.any_cons, Nat.reduceBEq, beq_self_eq_true, Bool.or_false, pick_or, pick_and, pick_t, pick_f, dec_and, bq_t, bq_f, decide_eq_true_eq, decide_eq_false_iff_not, imp_self, not_true_eq_false, not_false_eq_true, rg, a1, a2, spOkT_md, spOkT_alts, q1, q2, q3]
      repeat' (first | with_reducible assumption | with_reducible refine And.intro ?_ ?_ | intro _)
      all_goals first | omega | (grind; done) | skip
      have hb2 : (∀ f ∈ td, okF f) → okTk ⟨v, td⟩ := by grind
      have hT2 : okTk ⟨v, td⟩ → ∀ f ∈ td, okF f := fun h => (hT.1 h).2.2
      clear hT q1 q2 q3
      repeat (rename_i hx; clear hx)
      refine pw_loop (ι := Nat) (fun j => td.length - j) (fun j => j ≤ td.length ∧ ∀ f ∈ td.take j, okF f)
        (fun j => ⟨[(1, .q (.box 1 0)), (3, .q (.c (.int .i64 i))), (4, .q (.c (.int .i64 j)))], [(1, [.c (.row 6 (encTk l)), .c (.int .i64 fu), .c (.int .i64 co)])], []⟩) 0 ⟨Nat.zero_le _, by simp⟩ (Le.refl _) ?_
      rintro j ⟨hj, hall2⟩
      rcases Nat.lt_or_ge j td.length with hlt2 | hge2
      · obtain ⟨f, hf, _, hfm⟩ := drop_at hlt2
        have c1 := encF_at hf
        have c2 : ((j : Int) < (td.length : Int)) = True := by simp; omega
        have c3 := fitF_mem b3 f hfm
        have c6 := F.enc_len f
        have c7 := (hs2 f hfm).1
        have c8 := (hs2 f hfm).2
        simp only [initX, DV.toP, C.toQ, Q.pubB, Option.bind_some, List.map_cons, List.map_nil, pw_seq, pw_reg, pw_cond, condQ_t, condQ_f, condQ_d, not_dec, pw_ret, pw_skip, pw_exit, pw_block, thenQ_n, thenQ_r, thenQ_e, blkQ_n, blkQ_r, blkQ_e, loopQ_n, loopQ_r, loopQ_e, runX, stepR, callR, orF, Spec.at, stepX, stepM, evalK, callX, callE, Gam, get?, argsX, argsE, pubIds, St.pubs, mutIds, nodupIds, outE, retE, retP, allD, DV.toS, St.v, get, PV.un, PV.row, Option.map, St.put, upd, del, binC, rg, St.keep, List.map, Option.getD, effK, bne_self_eq_false, if_true, Bool.true_and, Nat.reduceEqDiff, if_false, reduceIte, reduceCtorEq, Nat.reduceAdd, true_and, endQ, finX, resD, resV, resOwns, refOwns, outX, PV.owns, ownsQ, List.append_nil, List.nil_append, List.foldl, PV.toD, Q.toC, allC, and_true, implies_true, true_implies, false_implies, AV.d.injEq, AV.ref.injEq, Option.some.injEq, DV.one.injEq, DV.agg.injEq, C.int.injEq, C.bool.injEq, C.str.injEq, C.row.injEq, List.cons.injEq, loadC, loadQ, cellsOf, List.length_cons, List.length_nil, List.getD_cons_zero, List.getD_cons_succ, List.drop, List.take, decide_true, decide_false, Int.toNat_natCast, Bool.false_and, Bool.and_true, Bool.and_false, St.map, PV.map, SV.map, St.pub, Q.pub, del, Q.killB, Q.killO, buildX, bslX, place, placeC, asInt?, loX, Nat.reduceLeDiff, Nat.reduceLT, List.append, List.cons_append, Option.bind, Bool.not_true, Bool.not_false, Nat.reduceSub, Nat.reduceBNe, Nat.add_zero, List.getD_nil, strs_len, encL_len, encF_len, encTk_len, allC_map, owns_map, C.def, killB_map, killO_map, pub_map, T.enc_take, F.enc_take, T.enc_take5, F.enc_take9, Tk.enc_take6, Nat.le_refl, List.length_map, List.drop_zero, List.flatMap_cons, List.flatMap_nil, List.any_nil, List.any_cons, Nat.reduceBEq, beq_self_eq_true, Bool.or_false, pick_or, pick_and, pick_t, pick_f, dec_and, bq_t, bq_f, decide_eq_true_eq, decide_eq_false_iff_not, imp_self, not_true_eq_false, not_false_eq_true, rg, a1, a2, c1, c2, c6, spOkF_md, spOkF_pre, spOkF_alts, spOkF_res, spOkF_out]
        repeat' (first | with_reducible assumption | with_reducible refine And.intro ?_ ?_ | intro _)
        all_goals first | omega | skip
        · rename_i hc ho
          exact hc (hT2 (hall' ho) f hfm)
        · have hc' : okF f := Classical.byContradiction (by assumption)
          refine ⟨j + 1, ⟨by omega, fun y hy => ?_⟩, by omega, Le.refl _⟩
          rw [List.take_add_one, hf] at hy
          rcases List.mem_append.1 hy with hy | hy
          · exact hall2 y hy
          · simp at hy; subst hy; exact hc'
      · have c2 : ((j : Int) < (td.length : Int)) = False := by simp; omega
        rw [List.take_of_length_le hge2] at hall2
        simp only [initX, DV.toP, C.toQ, Q.pubB, Option.bind_some, List.map_cons, List.map_nil, pw_seq, pw_reg, pw_cond, condQ_t, condQ_f, condQ_d, not_dec, pw_ret, pw_skip, pw_exit, pw_block, thenQ_n, thenQ_r, thenQ_e, blkQ_n, blkQ_r, blkQ_e, loopQ_n, loopQ_r, loopQ_e, runX, stepR, callR, orF, Spec.at, stepX, stepM, evalK, callX, callE, Gam, get?, argsX, argsE, pubIds, St.pubs, mutIds, nodupIds, outE, retE, retP, allD, DV.toS, St.v, get, PV.un, PV.row, Option.map, St.put, upd, del, binC, rg, St.keep, List.map, Option.getD, effK, bne_self_eq_false, if_true, Bool.true_and, Nat.reduceEqDiff, if_false, reduceIte, reduceCtorEq, Nat.reduceAdd, true_and, endQ, finX, resD, resV, resOwns, refOwns, outX, PV.owns, ownsQ, List.append_nil, List.nil_append, List.foldl, PV.toD, Q.toC, allC, and_true, implies_true, true_implies, false_implies, AV.d.injEq, AV.ref.injEq, Option.some.injEq, DV.one.injEq, DV.agg.injEq, C.int.injEq, C.bool.injEq, C.str.injEq, C.row.injEq, List.cons.injEq, loadC, loadQ, cellsOf, List.length_cons, List.length_nil, List.getD_cons_zero, List.getD_cons_succ, List.drop, List.take, decide_true, decide_false, Int.toNat_natCast, Bool.false_and, Bool.and_true, Bool.and_false, St.map, PV.map, SV.map, St.pub, Q.pub, del, Q.killB, Q.killO, buildX, bslX, place, placeC, asInt?, loX, Nat.reduceLeDiff, Nat.reduceLT, List.append, List.cons_append, Option.bind, Bool.not_true, Bool.not_false, Nat.reduceSub, Nat.reduceBNe, Nat.add_zero, List.getD_nil, strs_len, encL_len, encF_len, encTk_len, allC_map, owns_map, C.def, killB_map, killO_map, pub_map, T.enc_take, F.enc_take, T.enc_take5, F.enc_take9, Tk.enc_take6, Nat.le_refl, List.length_map, List.drop_zero, List.flatMap_cons, List.flatMap_nil, List.any_nil, List.any_cons, Nat.reduceBEq, beq_self_eq_true, Bool.or_false, pick_or, pick_and, pick_t, pick_f, dec_and, bq_t, bq_f, decide_eq_true_eq, decide_eq_false_iff_not, imp_self, not_true_eq_false, not_false_eq_true, rg, a1, a2, c2]
        repeat' (first | with_reducible assumption | with_reducible refine And.intro ?_ ?_ | intro _)
        all_goals first | omega | skip
        refine ⟨i + 1, ⟨by omega, fun y hy => ?_⟩, by omega, Le.refl _⟩
        rw [List.take_add_one, ht] at hy
        rcases List.mem_append.1 hy with hy | hy
        · exact hall y hy
        · simp at hy; subst hy; exact hb2 hall2
    · have a2 : ((i : Int) < (l.length : Int)) = False := by simp; omega
      rw [List.take_of_length_le hge] at hall
      simp only [initX, DV.toP, C.toQ, Q.pubB, Option.bind_some, List.map_cons, List.map_nil, pw_seq, pw_reg, pw_cond, condQ_t, condQ_f, condQ_d, not_dec, pw_ret, pw_skip, pw_exit, pw_block, thenQ_n, thenQ_r, thenQ_e, blkQ_n, blkQ_r, blkQ_e, loopQ_n, loopQ_r, loopQ_e, runX, stepR, callR, orF, Spec.at, stepX, stepM, evalK, callX, callE, Gam, get?, argsX, argsE, pubIds, St.pubs, mutIds, nodupIds, outE, retE, retP, allD, DV.toS, St.v, get, PV.un, PV.row, Option.map, St.put, upd, del, binC, rg, St.keep, List.map, Option.getD, effK, bne_self_eq_false, if_true, Bool.true_and, Nat.reduceEqDiff, if_false, reduceIte, reduceCtorEq, Nat.reduceAdd, true_and, endQ, finX, resD, resV, resOwns, refOwns, outX, PV.owns, ownsQ, List.append_nil, List.nil_append, List.foldl, PV.toD, Q.toC, allC, and_true, implies_true, true_implies, false_implies, AV.d.injEq, AV.ref.injEq, Option.some.injEq, DV.one.injEq, DV.agg.injEq, C.int.injEq, C.bool.injEq, C.str.injEq, C.row.injEq, List.cons.injEq, loadC, loadQ, cellsOf, List.length_cons, List.length_nil, List.getD_cons_zero, List.getD_cons_succ, List.drop, List.take, decide_true, decide_false, Int.toNat_natCast, Bool.false_and, Bool.and_true, Bool.and_false, St.map, PV.map, SV.map, St.pub, Q.pub, del, Q.killB, Q.killO, buildX, bslX, place, placeC, asInt?, loX, Nat.reduceLeDiff, Nat.reduceLT, List.append, List.cons_append, Option.bind, Bool.not_true, Bool.not_false, Nat.reduceSub, Nat.reduceBNe, Nat.add_zero, List.getD_nil, strs_len, encL_len, encF_len, encTk_len, allC_map, owns_map, C.def, killB_map, killO_map, pub_map, T.enc_take, F.enc_take, T.enc_take5, F.enc_take9, Tk.enc_take6, Nat.le_refl, List.length_map, List.drop_zero, List.flatMap_cons, List.flatMap_nil, List.any_nil, List.any_cons, Nat.reduceBEq, beq_self_eq_true, Bool.or_false, pick_or, pick_and, pick_t, pick_f, dec_and, bq_t, bq_f, decide_eq_true_eq, decide_eq_false_iff_not, imp_self, not_true_eq_false, not_false_eq_true, rg, a2]
      exact hb.2 hall
end Go.Proofs.Pw
