/- What is a filter that is ok: the specification's functions, the whole. -/
import Derived.Test.YtmbenbobnjmklaaDoorPwFilt
set_option linter.unusedSimpArgs false
set_option maxRecDepth 20000
namespace Go.Proofs.Pw
set_option linter.unusedSectionVars false
variable [Globs]
def x_l4Form : X := (.seq (.reg [⟨some 2, none, .box (.t 0) (some 9)⟩, ⟨some 4, none, .mv (.k (.c (.bool false)))⟩] none [1, 2]) (.seq (.seq (.reg [⟨some 6, none, .mv (.t 1)⟩, ⟨some 7, none, .bin false .lss (.t 6) (.k (.c (.int .i64 1)))⟩, ⟨some 8, none, .mv (.t 7)⟩, ⟨some 9, some (8, false), .fa (.t 2) 0⟩, ⟨some 10, some (8, false), .load (.t 9) none⟩, ⟨some 11, some (8, false), .call 152 [(.t 10)]⟩, ⟨some 12, some (8, false), .fa (.t 2) 8⟩, ⟨some 13, some (8, false), .load (.t 12) none⟩, ⟨some 14, some (8, false), .len (.t 13) false⟩, ⟨some 15, some (8, false), .bin false .neq (.t 11) (.t 14)⟩, ⟨some 16, none, .pick (.t 8) (.k (.c (.bool true))) (.t 15)⟩, ⟨some 17, none, .mv (.t 16)⟩, ⟨some 18, some (17, false), .load (.t 2) (some 9)⟩, ⟨some 19, some (17, false), .call 153 [(.t 18)]⟩, ⟨some 20, some (17, false), .not (.t 19)⟩, ⟨some 21, none, .pick (.t 17) (.k (.c (.bool true))) (.t 20)⟩, ⟨some 22, none, .mv (.t 21)⟩, ⟨some 23, some (22, false), .fa (.t 2) 2⟩, ⟨some 24, some (22, false), .load (.t 23) none⟩, ⟨some 25, some (22, false), .call 154 [(.t 24)]⟩, ⟨some 26, some (22, false), .not (.t 25)⟩, ⟨some 27, none, .pick (.t 22) (.k (.c (.bool true))) (.t 26)⟩, ⟨some 28, none, .mv (.t 27)⟩, ⟨some 29, some (28, false), .fa (.t 2) 1⟩, ⟨some 30, some (28, false), .load (.t 29) none⟩, ⟨some 31, some (28, false), .bin false .lss (.t 30) (.k (.c (.int .i64 (-60))))⟩, ⟨some 32, none, .pick (.t 28) (.k (.c (.bool true))) (.t 31)⟩, ⟨some 33, none, .mv (.t 32)⟩, ⟨some 34, some (33, false), .fa (.t 2) 1⟩, ⟨some 35, some (33, false), .load (.t 34) none⟩, ⟨some 36, some (33, false), .bin false .geq (.t 35) (.k (.c (.int .i64 60)))⟩, ⟨some 37, none, .pick (.t 33) (.k (.c (.bool true))) (.t 36)⟩, ⟨some 38, none, .mv (.t 37)⟩, ⟨some 39, some (38, false), .fa (.t 2) 3⟩, ⟨some 40, some (38, false), .load (.t 39) (some 5)⟩, ⟨some 41, some (38, false), .call 59 [(.t 40)]⟩, ⟨some 42, some (38, false), .not (.t 41)⟩, ⟨some 43, none, .pick (.t 38) (.k (.c (.bool true))) (.t 42)⟩] (some 9) [1, 2, 43]) (.cond (.t 43) (.seq (.reg [⟨some 4, none, .mv (.k (.c (.bool false)))⟩] none [4]) .ret) .skip)) (.seq (.seq (.reg [⟨some 5, none, .mv (.k (.c (.int .i64 0)))⟩] none [1, 2, 5]) (.block 0 (.loop (.seq (.seq (.reg [⟨some 44, none, .mv (.t 5)⟩, ⟨some 45, none, .fa (.t 2) 8⟩, ⟨some 46, none, .load (.t 45) none⟩, ⟨some 47, none, .len (.t 46) false⟩, ⟨some 48, none, .bin false .lss (.t 44) (.t 47)⟩] none [1, 2, 5, 48]) (.cond (.t 48) .skip (.exit 0))) (.seq (.block 1 (.seq (.reg [⟨some 51, none, .fa (.t 2) 8⟩, ⟨some 52, none, .load (.t 51) none⟩, ⟨some 53, none, .mv (.t 5)⟩, ⟨some 54, none, .ia (.t 52) (.t 53) 9⟩, ⟨some 55, none, .load (.t 54) (some 9)⟩, ⟨some 56, none, .mv (.t 1)⟩, ⟨some 57, none, .bin false .sub (.t 56) (.k (.c (.int .i64 1)))⟩, ⟨some 58, none, .call 98 [(.t 55), (.t 57)]⟩, ⟨some 59, none, .not (.t 58)⟩] none [1, 2, 5, 59]) (.cond (.t 59) (.seq (.reg [⟨some 4, none, .mv (.k (.c (.bool false)))⟩] none [4]) .ret) .skip))) (.reg [⟨some 49, none, .mv (.t 5)⟩, ⟨some 50, none, .bin false .add (.t 49) (.k (.c (.int .i64 1)))⟩, ⟨some 5, none, .mv (.t 50)⟩] none [1, 2, 5])))))) (.seq (.reg [⟨some 60, none, .fa (.t 2) 0⟩, ⟨some 61, none, .load (.t 60) none⟩, ⟨some 62, none, .bin false .neq (.t 61) (.k (.c (.int .i64 20)))⟩, ⟨some 63, none, .mv (.t 62)⟩, ⟨some 64, some (63, false), .fa (.t 2) 8⟩, ⟨some 65, some (63, false), .load (.t 64) none⟩, ⟨some 66, some (63, false), .ia (.t 65) (.k (.c (.int .i64 0))) 9⟩, ⟨some 67, some (63, false), .load (.t 66) (some 9)⟩, ⟨some 68, some (63, false), .call 155 [(.t 67)]⟩, ⟨some 69, none, .pick (.t 63) (.k (.c (.bool true))) (.t 68)⟩, ⟨some 4, none, .mv (.t 69)⟩] none [4]) .ret))))
theorem chk_l4Form : chkX Go.Proofs.Tryd.prog 70 (Go.Proofs.Tryd.f98.body.getD .skip) x_l4Form = true := by kernel_rfl
theorem rs_l4Form : okRs Go.Proofs.Tryd.prog Go.Proofs.Tryd.f98.results.toList [.tmp 4] = true := by kernel_rfl
theorem call_l4Form : okCallee Go.Proofs.Tryd.prog 98 = true := by kernel_rfl
def x_l4Many : X := (.seq (.reg [⟨some 2, none, .box (.t 0) (some 9)⟩, ⟨some 4, none, .mv (.k (.c (.int .i64 0)))⟩] none [1, 2]) (.seq (.reg [⟨some 5, none, .mv (.k (.c (.int .i64 1)))⟩] none [1, 2, 5]) (.seq (.seq (.reg [⟨some 6, none, .mv (.k (.c (.int .i64 0)))⟩] none [1, 2, 5, 6]) (.block 0 (.loop (.seq (.seq (.reg [⟨some 7, none, .mv (.t 6)⟩, ⟨some 8, none, .fa (.t 2) 8⟩, ⟨some 9, none, .load (.t 8) none⟩, ⟨some 10, none, .len (.t 9) false⟩, ⟨some 11, none, .bin false .lss (.t 7) (.t 10)⟩, ⟨some 12, none, .mv (.t 11)⟩, ⟨some 13, some (12, true), .mv (.t 1)⟩, ⟨some 14, some (12, true), .bin false .gtr (.t 13) (.k (.c (.int .i64 0)))⟩, ⟨some 15, none, .pick (.t 12) (.t 14) (.k (.c (.bool false)))⟩] none [1, 2, 5, 6, 15]) (.cond (.t 15) .skip (.exit 0))) (.seq (.block 1 (.reg [⟨some 18, none, .mv (.t 5)⟩, ⟨some 19, none, .fa (.t 2) 8⟩, ⟨some 20, none, .load (.t 19) none⟩, ⟨some 21, none, .mv (.t 6)⟩, ⟨some 22, none, .ia (.t 20) (.t 21) 9⟩, ⟨some 23, none, .load (.t 22) (some 9)⟩, ⟨some 24, none, .mv (.t 1)⟩, ⟨some 25, none, .bin false .sub (.t 24) (.k (.c (.int .i64 1)))⟩, ⟨some 26, none, .call 99 [(.t 23), (.t 25)]⟩, ⟨some 27, none, .bin false .add (.t 18) (.t 26)⟩, ⟨some 5, none, .mv (.t 27)⟩] none [1, 2, 5, 6])) (.reg [⟨some 16, none, .mv (.t 6)⟩, ⟨some 17, none, .bin false .add (.t 16) (.k (.c (.int .i64 1)))⟩, ⟨some 6, none, .mv (.t 17)⟩] none [1, 2, 5, 6])))))) (.seq (.reg [⟨some 28, none, .mv (.t 5)⟩, ⟨some 4, none, .mv (.t 28)⟩] none [4]) .ret))))
theorem chk_l4Many : chkX Go.Proofs.Tryd.prog 29 (Go.Proofs.Tryd.f99.body.getD .skip) x_l4Many = true := by kernel_rfl
theorem rs_l4Many : okRs Go.Proofs.Tryd.prog Go.Proofs.Tryd.f99.results.toList [.tmp 4] = true := by kernel_rfl
theorem call_l4Many : okCallee Go.Proofs.Tryd.prog 99 = true := by kernel_rfl
def x_FiltOk : X := (.seq (.reg [⟨some 1, none, .box (.t 0) (some 9)⟩, ⟨some 2, none, .mv (.k (.c (.bool false)))⟩] none [1]) (.seq (.reg [⟨some 3, none, .load (.t 1) (some 9)⟩, ⟨some 4, none, .call 98 [(.t 3), (.k (.c (.int .i64 7)))]⟩, ⟨some 5, none, .mv (.t 4)⟩, ⟨some 6, some (5, true), .load (.t 1) (some 9)⟩, ⟨some 7, some (5, true), .call 99 [(.t 6), (.k (.c (.int .i64 7)))]⟩, ⟨some 8, some (5, true), .bin false .leq (.t 7) (.k (.c (.int .i64 16)))⟩, ⟨some 9, none, .pick (.t 5) (.t 8) (.k (.c (.bool false)))⟩, ⟨some 2, none, .mv (.t 9)⟩] none [2]) .ret))
theorem chk_FiltOk : chkX Go.Proofs.Tryd.prog 10 (Go.Proofs.Tryd.f33.body.getD .skip) x_FiltOk = true := by kernel_rfl
theorem rs_FiltOk : okRs Go.Proofs.Tryd.prog Go.Proofs.Tryd.f33.results.toList [.tmp 2] = true := by kernel_rfl
theorem call_FiltOk : okCallee Go.Proofs.Tryd.prog 33 = true := by kernel_rfl
noncomputable def spFormF (k:Nat) : Spec := Spec.of (ι := F × Int) [false, false] (fun i => [.d (.agg i.1.enc), .d (.one (.int .i64 i.2))]) (fun i => (i.1.fit 140737488355328 ∧ smallF i.1 ∧ -1 ≤ i.2 ∧ i.2 ≤ 1000) ∧ SizeOf.sizeOf i.1 < k) (fun i => [.d (.one (.bool (decide (formF i.1 i.2))))]) (fun _ => [.gone, .gone])
theorem spFormF_inj : ∀ i j : F × Int, (fun (i : F × Int) => ([.d (.agg i.1.enc), .d (.one (.int .i64 i.2))] : List AV)) i = (fun (i : F × Int) => ([.d (.agg i.1.enc), .d (.one (.int .i64 i.2))] : List AV)) j → i = j := by
  rintro ⟨t, d⟩ ⟨t', d'⟩ h
  simp only [Prod.mk.injEq]
  simpa [strs_eq, T.enc_eq, encL_eq, F.enc_eq, encF_eq, Tk.enc_eq, encTk_eq, Gn.enc_eq] using h
theorem spFormF_md (k:Nat) : (spFormF k).md = [false, false] := rfl
theorem spFormF_pre (k:Nat) (t : F) (d : Int) : (spFormF k).pre [.d (.agg t.enc), .d (.one (.int .i64 d))] = ((t.fit 140737488355328 ∧ smallF t ∧ -1 ≤ d ∧ d ≤ 1000) ∧ SizeOf.sizeOf t < k) := Spec.of_pre' spFormF_inj (t, d)
theorem spFormF_alts (k:Nat) : (spFormF k).alts = none := rfl
theorem spFormF_res (k:Nat) (t : F) (d : Int) : (spFormF k).res [.d (.agg t.enc), .d (.one (.int .i64 d))] = [.d (.one (.bool (decide (formF t d))))] := Spec.of_res spFormF_inj (t, d)
theorem spFormF_out (k:Nat) (t : F) (d : Int) : (spFormF k).out [.d (.agg t.enc), .d (.one (.int .i64 d))] = [.gone, .gone] := Spec.of_out spFormF_inj (t, d)
set_option maxHeartbeats 1000000 in
theorem l4Form_sound (k : Nat) (hS : Sound Go.Proofs.Tryd.prog 98 (spFormF k)) : Sound Go.Proofs.Tryd.prog 98 (spFormF (k + 1)) := by
  refine sound_fam (GOK.cons (l := [(153, spClean), (155, spWayD), (154, spOkS), (59, spOkT), (98, spFormF k)]) call_l4Kids l4Kids_sound (GOK.cons call_l4Clean l4Clean_sound (GOK.cons call_l4Way wayD_sound (GOK.cons call_l1Str l1Str_sound (GOK.cons call_ValOk sOkT_sound (GOK.cons call_l4Form hS GOK.nil)))))) Go.Proofs.Tryd.func98 (c := Go.Proofs.Tryd.f98.body.getD .skip) rfl (n := 70) rfl chk_l4Form rs_l4Form (fun _ => by simp) ?_ ?_
  · exact spFormF_inj
  · rintro ⟨t, d⟩ ⟨⟨h1, h2, h3, h3'⟩, h4⟩
    obtain ⟨kk, n, s, v, l⟩ := t
    have hfull := h1
    obtain ⟨vk, vn, vs, vks, vl⟩ := v
    simp only [F.fit, smallF] at h1 h2
    obtain ⟨_, _, f1, f2, f3, f4⟩ := h1
    obtain ⟨g1, g2⟩ := h2
    simp only at h3 h3'
    generalize hv : T.mk vk vn vs vks vl = v at *
    have e3 : SizeOf.sizeOf l < k := by have e : SizeOf.sizeOf (F.mk kk n s v l) < k + 1 := h4
                                        rw [F.mk.sizeOf_spec] at e; omega
    clear h4
    have e6 : v.enc = [.int .i64 vk, .int .i64 vn, .str vs, .row 1 (strs vks), .row 5 (encL vl)] := by rw [← hv]; rfl
    have hF : formF (F.mk kk n s v l) d ↔ (1 ≤ d ∧ kidsOf kk = l.length ∧ cleanQ (F.mk kk n s v l) ∧ okS s ∧ -60 ≤ n ∧ n < 60 ∧ okT v ∧ formFL l (d - 1) ∧ (kk = 20 → wayL l 0)) := by simp only [formF, cleanQ]
    have p1 := spOkT_pre v
    have p2 := spOkT_res v
    have p3 := spOkT_out v
    have c1 := spClean_pre (F.mk kk n s v l)
    have c2 := spClean_res (F.mk kk n s v l)
    have c3 := spClean_out (F.mk kk n s v l)
    rw [e6] at p1 p2 p3
    simp only [F.enc, e6, List.cons_append, List.nil_append] at c1 c2 c3
    have hlen : (l.length : Int) ≤ 140737488355328 := f3
    simp only [x_l4Form, F.enc, e6, initX, DV.toP, C.toQ, Q.pubB, Option.bind_some, List.map_cons, List.map_nil, pw_seq, pw_reg, pw_cond, condQ_t, condQ_f, condQ_d, not_dec, pw_ret, pw_skip, pw_exit, pw_block, thenQ_n, thenQ_r, thenQ_e, blkQ_n, blkQ_r, blkQ_e, loopQ_n, loopQ_r, loopQ_e, runX, stepR, callR, orF, Spec.at, stepX, stepM, evalK, callX, callE, Gam, get?, argsX, argsE, pubIds, St.pubs, mutIds, nodupIds, outE, retE, retP, allD, DV.toS, St.v, get, PV.un, PV.row, Option.map, St.put, upd, del, binC, rg, St.keep, List.map, Option.getD, effK, bne_self_eq_false, if_true, Bool.true_and, Nat.reduceEqDiff, if_false, reduceIte, reduceCtorEq, Nat.reduceAdd, true_and, endQ, finX, resD, resV, resOwns, refOwns, outX, PV.owns, ownsQ, List.append_nil, List.nil_append, List.foldl, PV.toD, Q.toC, allC, and_true, implies_true, true_implies, false_implies, AV.d.injEq, AV.ref.injEq, Option.some.injEq, DV.one.injEq, DV.agg.injEq, C.int.injEq, C.bool.injEq, C.str.injEq, C.row.injEq, List.cons.injEq, loadC, loadQ, cellsOf, List.length_cons, List.length_nil, List.getD_cons_zero, List.getD_cons_succ, List.drop, List.take, decide_true, decide_false, Int.toNat_natCast, Bool.false_and, Bool.and_true, Bool.and_false, St.map, PV.map, SV.map, St.pub, Q.pub, del, Q.killB, Q.killO, buildX, bslX, place, placeC, asInt?, loX, Nat.reduceLeDiff, Nat.reduceLT, List.append, List.cons_append, Option.bind, Bool.not_true, Bool.not_false, Nat.reduceSub, Nat.reduceBNe, Nat.add_zero, List.getD_nil, strs_len, encL_len, encF_len, encTk_len, allC_map, owns_map, C.def, killB_map, killO_map, pub_map, T.enc_take, F.enc_take, T.enc_take5, F.enc_take9, Tk.enc_take6, Nat.le_refl, List.length_map, List.drop_zero, List.flatMap_cons, List.flatMap_nil, List.any_nil, List.any_cons, Nat.reduceBEq, beq_self_eq_true, Bool.or_false, pick_or, pick_and, pick_t, pick_f, dec_and, bq_t, bq_f, decide_eq_true_eq, decide_eq_false_iff_not, imp_self, not_true_eq_false, not_false_eq_true, rg, spOkT_md, spOkT_alts, p1, p2, p3, spClean_md, spClean_alts, c1, c2, c3, spKids_md, spKids_pre, spKids_alts, spKids_res, spKids_out, spOkS_md, spOkS_pre, spOkS_alts, spOkS_res, spOkS_out]
    repeat' (first | with_reducible assumption | with_reducible refine And.intro ?_ ?_ | intro _)
    all_goals first | omega | (grind; done) | skip
    have hb : formF (F.mk kk n s v l) d ↔ (formFL l (d - 1) ∧ (kk = 20 → wayL l 0)) := by grind
    have hk : kk = 20 → l.length = 2 := fun h => by
      have e : kidsOf kk = 2 := by subst h; decide
      have : kidsOf kk = l.length := by grind
      omega
    have hd : 1 ≤ d := by omega
    clear hF c1 c2 c3 p1 p2 p3 hfull
    repeat (rename_i hx; clear hx)
    refine pw_loop (ι := Nat) (fun i => l.length - i) (fun i => i ≤ l.length ∧ ∀ t ∈ l.take i, formF t (d - 1))
      (fun i => ⟨[(1, .q (.c (.int .i64 d))), (2, .q (.box 2 0)), (5, .q (.c (.int .i64 i)))], [(2, [.c (.int .i64 kk), .c (.int .i64 n), .c (.str s), .c (.int .i64 vk), .c (.int .i64 vn), .c (.str vs), .c (.row 1 (strs vks)), .c (.row 5 (encL vl)), .c (.row 9 (encF l))])], []⟩) 0 ⟨Nat.zero_le _, by simp⟩ (Le.refl _) ?_
    rintro i ⟨hi, hall⟩
    rcases Nat.lt_or_ge i l.length with hlt | hge
    · obtain ⟨t, ht, _, hmem⟩ := drop_at hlt
      have a1 := encF_at ht
      have a2 : ((i : Int) < (l.length : Int)) = True := by simp; omega
      have a3 := fitF_mem f4 t hmem
      have a4 := size_mem hmem
      have a5 := smallFL_mem.1 g2 t hmem
      have a6 := F.enc_len t
      simp only [initX, DV.toP, C.toQ, Q.pubB, Option.bind_some, List.map_cons, List.map_nil, pw_seq, pw_reg, pw_cond, condQ_t, condQ_f, condQ_d, not_dec, pw_ret, pw_skip, pw_exit, pw_block, thenQ_n, thenQ_r, thenQ_e, blkQ_n, blkQ_r, blkQ_e, loopQ_n, loopQ_r, loopQ_e, runX, stepR, callR, orF, Spec.at, stepX, stepM, evalK, callX, callE, Gam, get?, argsX, argsE, pubIds, St.pubs, mutIds, nodupIds, outE, retE, retP, allD, DV.toS, St.v, get, PV.un, PV.row, Option.map, St.put, upd, del, binC, rg, St.keep, List.map, Option.getD, effK, bne_self_eq_false, if_true, Bool.true_and, Nat.reduceEqDiff, if_false, reduceIte, reduceCtorEq, Nat.reduceAdd, true_and, endQ, finX, resD, resV, resOwns, refOwns, outX, PV.owns, ownsQ, List.append_nil, List.nil_append, List.foldl, PV.toD, Q.toC, allC, and_true, implies_true, true_implies, false_implies, AV.d.injEq, AV.ref.injEq, Option.some.injEq, DV.one.injEq, DV.agg.injEq, C.int.injEq, C.bool.injEq, C.str.injEq, C.row.injEq, List.cons.injEq, loadC, loadQ, cellsOf, List.length_cons, List.length_nil, List.getD_cons_zero, List.getD_cons_succ, List.drop, List.take, decide_true, decide_false, Int.toNat_natCast, Bool.false_and, Bool.and_true, Bool.and_false, St.map, PV.map, SV.map, St.pub, Q.pub, del, Q.killB, Q.killO, buildX, bslX, place, placeC, asInt?, loX, Nat.reduceLeDiff, Nat.reduceLT, List.append, List.cons_append, Option.bind, Bool.not_true, Bool.not_false, Nat.reduceSub, Nat.reduceBNe, Nat.add_zero, List.getD_nil, strs_len, encL_len, encF_len, encTk_len, allC_map, owns_map, C.def, killB_map, killO_map, pub_map, T.enc_take, F.enc_take, T.enc_take5, F.enc_take9, Tk.enc_take6, Nat.le_refl, List.length_map, List.drop_zero, List.flatMap_cons, List.flatMap_nil, List.any_nil, List.any_cons, Nat.reduceBEq, beq_self_eq_true, Bool.or_false, pick_or, pick_and, pick_t, pick_f, dec_and, bq_t, bq_f, decide_eq_true_eq, decide_eq_false_iff_not, imp_self, not_true_eq_false, not_false_eq_true, rg, a1, a2, a6, spFormF_md, spFormF_pre, spFormF_alts, spFormF_res, spFormF_out]
      repeat' (first | with_reducible assumption | with_reducible refine And.intro ?_ ?_ | intro _)
      all_goals first | omega | skip
      · rename_i hc ho
        exact hc (formFL_mem.1 (hb.1 ho).1 t hmem)
      · rename_i hc _
        refine ⟨i + 1, ⟨by omega, fun y hy => ?_⟩, by omega, Le.refl _⟩
        rw [List.take_add_one, ht] at hy
        rcases List.mem_append.1 hy with hy | hy
        · exact hall y hy
        · simp at hy; subst hy; exact Classical.not_not.1 hc
    · have a2 : ((i : Int) < (l.length : Int)) = False := by simp; omega
      rw [List.take_of_length_le hge] at hall
      have hfl := formFL_mem.2 hall
      have z0 : (0 : Int).toNat = 0 := rfl
      cases l with
      | nil =>
        have h20 : (kk = 20) = False := by simp; intro h; have := hk h; simp at this
        simp only [initX, DV.toP, C.toQ, Q.pubB, Option.bind_some, List.map_cons, List.map_nil, pw_seq, pw_reg, pw_cond, condQ_t, condQ_f, condQ_d, not_dec, pw_ret, pw_skip, pw_exit, pw_block, thenQ_n, thenQ_r, thenQ_e, blkQ_n, blkQ_r, blkQ_e, loopQ_n, loopQ_r, loopQ_e, runX, stepR, callR, orF, Spec.at, stepX, stepM, evalK, callX, callE, Gam, get?, argsX, argsE, pubIds, St.pubs, mutIds, nodupIds, outE, retE, retP, allD, DV.toS, St.v, get, PV.un, PV.row, Option.map, St.put, upd, del, binC, rg, St.keep, List.map, Option.getD, effK, bne_self_eq_false, if_true, Bool.true_and, Nat.reduceEqDiff, if_false, reduceIte, reduceCtorEq, Nat.reduceAdd, true_and, endQ, finX, resD, resV, resOwns, refOwns, outX, PV.owns, ownsQ, List.append_nil, List.nil_append, List.foldl, PV.toD, Q.toC, allC, and_true, implies_true, true_implies, false_implies, AV.d.injEq, AV.ref.injEq, Option.some.injEq, DV.one.injEq, DV.agg.injEq, C.int.injEq, C.bool.injEq, C.str.injEq, C.row.injEq, List.cons.injEq, loadC, loadQ, cellsOf, List.length_cons, List.length_nil, List.getD_cons_zero, List.getD_cons_succ, List.drop, List.take, decide_true, decide_false, Int.toNat_natCast, Bool.false_and, Bool.and_true, Bool.and_false, St.map, PV.map, SV.map, St.pub, Q.pub, del, Q.killB, Q.killO, buildX, bslX, place, placeC, asInt?, loX, Nat.reduceLeDiff, Nat.reduceLT, List.append, List.cons_append, Option.bind, Bool.not_true, Bool.not_false, Nat.reduceSub, Nat.reduceBNe, Nat.add_zero, List.getD_nil, strs_len, encL_len, encF_len, encTk_len, allC_map, owns_map, C.def, killB_map, killO_map, pub_map, T.enc_take, F.enc_take, T.enc_take5, F.enc_take9, Tk.enc_take6, Nat.le_refl, List.length_map, List.drop_zero, List.flatMap_cons, List.flatMap_nil, List.any_nil, List.any_cons, Nat.reduceBEq, beq_self_eq_true, Bool.or_false, pick_or, pick_and, pick_t, pick_f, dec_and, bq_t, bq_f, decide_eq_true_eq, decide_eq_false_iff_not, imp_self, not_true_eq_false, not_false_eq_true, rg, a2, z0, encF, h20, spWayD_md, spWayD_alts, spWayD_pre0, spWayD_res0, spWayD_out0]
        repeat' (first | with_reducible assumption | with_reducible refine And.intro ?_ ?_ | intro _)
        all_goals first | omega | (grind; done) | skip
      | cons x r =>
        have a6 := F.enc_len x
        have a7 := fitF_mem f4 x (by simp)
        have a8 := formF_kinded (hall x (by simp))
        have a9 : wayL (x :: r) 0 = wayF x := by simp [wayL]
        rw [a9] at hb
        simp only [initX, DV.toP, C.toQ, Q.pubB, Option.bind_some, List.map_cons, List.map_nil, pw_seq, pw_reg, pw_cond, condQ_t, condQ_f, condQ_d, not_dec, pw_ret, pw_skip, pw_exit, pw_block, thenQ_n, thenQ_r, thenQ_e, blkQ_n, blkQ_r, blkQ_e, loopQ_n, loopQ_r, loopQ_e, runX, stepR, callR, orF, Spec.at, stepX, stepM, evalK, callX, callE, Gam, get?, argsX, argsE, pubIds, St.pubs, mutIds, nodupIds, outE, retE, retP, allD, DV.toS, St.v, get, PV.un, PV.row, Option.map, St.put, upd, del, binC, rg, St.keep, List.map, Option.getD, effK, bne_self_eq_false, if_true, Bool.true_and, Nat.reduceEqDiff, if_false, reduceIte, reduceCtorEq, Nat.reduceAdd, true_and, endQ, finX, resD, resV, resOwns, refOwns, outX, PV.owns, ownsQ, List.append_nil, List.nil_append, List.foldl, PV.toD, Q.toC, allC, and_true, implies_true, true_implies, false_implies, AV.d.injEq, AV.ref.injEq, Option.some.injEq, DV.one.injEq, DV.agg.injEq, C.int.injEq, C.bool.injEq, C.str.injEq, C.row.injEq, List.cons.injEq, loadC, loadQ, cellsOf, List.length_cons, List.length_nil, List.getD_cons_zero, List.getD_cons_succ, List.drop, List.take, decide_true, decide_false, Int.toNat_natCast, Bool.false_and, Bool.and_true, Bool.and_false, St.map, PV.map, SV.map, St.pub, Q.pub, del, Q.killB, Q.killO, buildX, bslX, place, placeC, asInt?, loX, Nat.reduceLeDiff, Nat.reduceLT, List.append, List.cons_append, Option.bind, Bool.not_true, Bool.not_false, Nat.reduceSub, Nat.reduceBNe, Nat.add_zero, List.getD_nil, strs_len, encL_len, encF_len, encTk_len, allC_map, owns_map, C.def, killB_map, killO_map, pub_map, T.enc_take, F.enc_take, T.enc_take5, F.enc_take9, Tk.enc_take6, Nat.le_refl, List.length_map, List.drop_zero, List.flatMap_cons, List.flatMap_nil, List.any_nil, List.any_cons, Nat.reduceBEq, beq_self_eq_true, Bool.or_false, pick_or, pick_and, pick_t, pick_f, dec_and, bq_t, bq_f, decide_eq_true_eq, decide_eq_false_iff_not, imp_self, not_true_eq_false, not_false_eq_true, rg, a2, z0, encF, a6, spWayD_md, spWayD_pre, spWayD_alts, spWayD_res, spWayD_out]
        repeat' (first | with_reducible assumption | with_reducible refine And.intro ?_ ?_ | intro _)
        all_goals first | omega | (grind; done) | skip
theorem formF_all : ∀ k, Sound Go.Proofs.Tryd.prog 98 (spFormF k) := fun k => Nat.rec Sound.none (fun k ih => l4Form_sound k ih) k
noncomputable def spManyF (k:Nat) : Spec := Spec.of (ι := F × Int) [false, false] (fun i => [.d (.agg i.1.enc), .d (.one (.int .i64 i.2))]) (fun i => (i.1.fit 140737488355328 ∧ sizeF i.1 ≤ 1048577 ∧ -1 ≤ i.2 ∧ i.2 ≤ 1000) ∧ SizeOf.sizeOf i.1 < k) (fun i => [.d (.one (.int .i64 (manyF i.1 i.2)))]) (fun _ => [.gone, .gone])
theorem spManyF_inj : ∀ i j : F × Int, (fun (i : F × Int) => ([.d (.agg i.1.enc), .d (.one (.int .i64 i.2))] : List AV)) i = (fun (i : F × Int) => ([.d (.agg i.1.enc), .d (.one (.int .i64 i.2))] : List AV)) j → i = j := by
  rintro ⟨t, d⟩ ⟨t', d'⟩ h
  simp only [Prod.mk.injEq]
  simpa [strs_eq, T.enc_eq, encL_eq, F.enc_eq, encF_eq, Tk.enc_eq, encTk_eq, Gn.enc_eq] using h
theorem spManyF_md (k:Nat) : (spManyF k).md = [false, false] := rfl
theorem spManyF_pre (k:Nat) (t : F) (d : Int) : (spManyF k).pre [.d (.agg t.enc), .d (.one (.int .i64 d))] = ((t.fit 140737488355328 ∧ sizeF t ≤ 1048577 ∧ -1 ≤ d ∧ d ≤ 1000) ∧ SizeOf.sizeOf t < k) := Spec.of_pre' spManyF_inj (t, d)
theorem spManyF_alts (k:Nat) : (spManyF k).alts = none := rfl
theorem spManyF_res (k:Nat) (t : F) (d : Int) : (spManyF k).res [.d (.agg t.enc), .d (.one (.int .i64 d))] = [.d (.one (.int .i64 (manyF t d)))] := Spec.of_res spManyF_inj (t, d)
theorem spManyF_out (k:Nat) (t : F) (d : Int) : (spManyF k).out [.d (.agg t.enc), .d (.one (.int .i64 d))] = [.gone, .gone] := Spec.of_out spManyF_inj (t, d)
theorem l4Many_sound (k : Nat) (hS : Sound Go.Proofs.Tryd.prog 99 (spManyF k)) : Sound Go.Proofs.Tryd.prog 99 (spManyF (k + 1)) := by
  refine sound_fam (GOK.cons call_l4Many hS GOK.nil) Go.Proofs.Tryd.func99 (c := Go.Proofs.Tryd.f99.body.getD .skip) rfl (n := 29) rfl chk_l4Many rs_l4Many (fun _ => by simp) ?_ ?_
  · exact spManyF_inj
  · rintro ⟨t, d⟩ ⟨⟨h1, h2, h3, h3'⟩, h4⟩
    obtain ⟨kk, n, s, v, l⟩ := t
    obtain ⟨vk, vn, vs, vks, vl⟩ := v
    simp only [F.fit, lenB] at h1
    obtain ⟨_, _, f1, f2, f3, f4⟩ := h1
    generalize hv : T.mk vk vn vs vks vl = v at *
    have e3 : SizeOf.sizeOf l < k := by have e : SizeOf.sizeOf (F.mk kk n s v l) < k + 1 := h4
                                        rw [F.mk.sizeOf_spec] at e; omega
    clear h4
    have e6 : v.enc = [.int .i64 vk, .int .i64 vn, .str vs, .row 1 (strs vks), .row 5 (encL vl)] := by rw [← hv]; rfl
    simp only [sizeF] at h2 h3 h3'
    simp only [x_l4Many, F.enc, e6, initX, DV.toP, C.toQ, Q.pubB, Option.bind_some, List.map_cons, List.map_nil, pw_seq, pw_reg, pw_cond, condQ_t, condQ_f, condQ_d, not_dec, pw_ret, pw_skip, pw_exit, pw_block, thenQ_n, thenQ_r, thenQ_e, blkQ_n, blkQ_r, blkQ_e, loopQ_n, loopQ_r, loopQ_e, runX, stepR, callR, orF, Spec.at, stepX, stepM, evalK, callX, callE, Gam, get?, argsX, argsE, pubIds, St.pubs, mutIds, nodupIds, outE, retE, retP, allD, DV.toS, St.v, get, PV.un, PV.row, Option.map, St.put, upd, del, binC, rg, St.keep, List.map, Option.getD, effK, bne_self_eq_false, if_true, Bool.true_and, Nat.reduceEqDiff, if_false, reduceIte, reduceCtorEq, Nat.reduceAdd, true_and, endQ, finX, resD, resV, resOwns, refOwns, outX, PV.owns, ownsQ, List.append_nil, List.nil_append, List.foldl, PV.toD, Q.toC, allC, and_true, implies_true, true_implies, false_implies, AV.d.injEq, AV.ref.injEq, Option.some.injEq, DV.one.injEq, DV.agg.injEq, C.int.injEq, C.bool.injEq, C.str.injEq, C.row.injEq, List.cons.injEq, loadC, loadQ, cellsOf, List.length_cons, List.length_nil, List.getD_cons_zero, List.getD_cons_succ, List.drop, List.take, decide_true, decide_false, Int.toNat_natCast, Bool.false_and, Bool.and_true, Bool.and_false, St.map, PV.map, SV.map, St.pub, Q.pub, del, Q.killB, Q.killO, buildX, bslX, place, placeC, asInt?, loX, Nat.reduceLeDiff, Nat.reduceLT, List.append, List.cons_append, Option.bind, Bool.not_true, Bool.not_false, Nat.reduceSub, Nat.reduceBNe, Nat.add_zero, List.getD_nil, strs_len, encL_len, encF_len, encTk_len, allC_map, owns_map, C.def, killB_map, killO_map, pub_map, T.enc_take, F.enc_take, T.enc_take5, F.enc_take9, Tk.enc_take6, Nat.le_refl, List.length_map, List.drop_zero, List.flatMap_cons, List.flatMap_nil, List.any_nil, List.any_cons, Nat.reduceBEq, beq_self_eq_true, Bool.or_false, pick_or, pick_and, pick_t, pick_f, dec_and, bq_t, bq_f, decide_eq_true_eq, decide_eq_false_iff_not, imp_self, not_true_eq_false, not_false_eq_true, rg, manyF]
    refine pw_loop (ι := Nat × Int) (fun i => l.length - i.1) (fun i => i.1 ≤ l.length ∧ 1 ≤ i.2 ∧ i.2 + manyFL (l.drop i.1) d = 1 + manyFL l d ∧ i.2 + sizeFL (l.drop i.1) ≤ 1 + sizeFL l)
      (fun i => ⟨[(1, .q (.c (.int .i64 d))), (2, .q (.box 2 0)), (5, .q (.c (.int .i64 i.2))), (6, .q (.c (.int .i64 i.1)))], [(2, [.c (.int .i64 kk), .c (.int .i64 n), .c (.str s), .c (.int .i64 vk), .c (.int .i64 vn), .c (.str vs), .c (.row 1 (strs vks)), .c (.row 5 (encL vl)), .c (.row 9 (encF l))])], []⟩) (0, 1) ⟨Nat.zero_le _, by simp, by simp, by simp⟩ (Le.refl _) ?_
    rintro ⟨i, m⟩ ⟨hi, hm, hsum, hsz⟩
    simp only at hi hm hsum hsz
    have hz := fun l => manyFL_le l d
    rcases Nat.lt_or_ge i l.length with hlt | hge
    · obtain ⟨t, ht, hdr, hmem⟩ := drop_at hlt
      have a1 := encF_at ht
      have a2 : ((i : Int) < (l.length : Int)) = True := by simp; omega
      have a3 := fitF_mem f4 t hmem
      have a4 := size_mem hmem
      have a5 := sizeFL_at ht
      have a6 := F.enc_len t
      have a7 := manyF_le t (d - 1)
      have a8 := hz (l.drop (i + 1))
      rw [hdr] at hsum hsz
      simp only [manyFL, sizeFL] at hsum hsz
      simp only [initX, DV.toP, C.toQ, Q.pubB, Option.bind_some, List.map_cons, List.map_nil, pw_seq, pw_reg, pw_cond, condQ_t, condQ_f, condQ_d, not_dec, pw_ret, pw_skip, pw_exit, pw_block, thenQ_n, thenQ_r, thenQ_e, blkQ_n, blkQ_r, blkQ_e, loopQ_n, loopQ_r, loopQ_e, runX, stepR, callR, orF, Spec.at, stepX, stepM, evalK, callX, callE, Gam, get?, argsX, argsE, pubIds, St.pubs, mutIds, nodupIds, outE, retE, retP, allD, DV.toS, St.v, get, PV.un, PV.row, Option.map, St.put, upd, del, binC, rg, St.keep, List.map, Option.getD, effK, bne_self_eq_false, if_true, Bool.true_and, Nat.reduceEqDiff, if_false, reduceIte, reduceCtorEq, Nat.reduceAdd, true_and, endQ, finX, resD, resV, resOwns, refOwns, outX, PV.owns, ownsQ, List.append_nil, List.nil_append, List.foldl, PV.toD, Q.toC, allC, and_true, implies_true, true_implies, false_implies, AV.d.injEq, AV.ref.injEq, Option.some.injEq, DV.one.injEq, DV.agg.injEq, C.int.injEq, C.bool.injEq, C.str.injEq, C.row.injEq, List.cons.injEq, loadC, loadQ, cellsOf, List.length_cons, List.length_nil, List.getD_cons_zero, List.getD_cons_succ, List.drop, List.take, decide_true, decide_false, Int.toNat_natCast, Bool.false_and, Bool.and_true, Bool.and_false, St.map, PV.map, SV.map, St.pub, Q.pub, del, Q.killB, Q.killO, buildX, bslX, place, placeC, asInt?, loX, Nat.reduceLeDiff, Nat.reduceLT, List.append, List.cons_append, Option.bind, Bool.not_true, Bool.not_false, Nat.reduceSub, Nat.reduceBNe, Nat.add_zero, List.getD_nil, strs_len, encL_len, encF_len, encTk_len, allC_map, owns_map, C.def, killB_map, killO_map, pub_map, T.enc_take, F.enc_take, T.enc_take5, F.enc_take9, Tk.enc_take6, Nat.le_refl, List.length_map, List.drop_zero, List.flatMap_cons, List.flatMap_nil, List.any_nil, List.any_cons, Nat.reduceBEq, beq_self_eq_true, Bool.or_false, pick_or, pick_and, pick_t, pick_f, dec_and, bq_t, bq_f, decide_eq_true_eq, decide_eq_false_iff_not, imp_self, not_true_eq_false, not_false_eq_true, rg, a1, a2, a6, spManyF_md, spManyF_pre, spManyF_alts, spManyF_res, spManyF_out]
      repeat' (first | with_reducible assumption | with_reducible refine And.intro ?_ ?_ | intro _)
      all_goals first | omega | skip
      rename_i hd _ _
      rw [if_pos (by omega)] at hsum
      exact ⟨(i + 1, m + manyF t (d - 1)), ⟨by simp only; omega, by simp only; omega, by simp only; omega, by simp only; omega⟩, by simp only; omega, Le.refl _⟩
    · have a2 : ((i : Int) < (l.length : Int)) = False := by simp; omega
      rw [List.drop_eq_nil_of_le hge] at hsum
      simp only [manyFL] at hsum
      simp only [initX, DV.toP, C.toQ, Q.pubB, Option.bind_some, List.map_cons, List.map_nil, pw_seq, pw_reg, pw_cond, condQ_t, condQ_f, condQ_d, not_dec, pw_ret, pw_skip, pw_exit, pw_block, thenQ_n, thenQ_r, thenQ_e, blkQ_n, blkQ_r, blkQ_e, loopQ_n, loopQ_r, loopQ_e, runX, stepR, callR, orF, Spec.at, stepX, stepM, evalK, callX, callE, Gam, get?, argsX, argsE, pubIds, St.pubs, mutIds, nodupIds, outE, retE, retP, allD, DV.toS, St.v, get, PV.un, PV.row, Option.map, St.put, upd, del, binC, rg, St.keep, List.map, Option.getD, effK, bne_self_eq_false, if_true, Bool.true_and, Nat.reduceEqDiff, if_false, reduceIte, reduceCtorEq, Nat.reduceAdd, true_and, endQ, finX, resD, resV, resOwns, refOwns, outX, PV.owns, ownsQ, List.append_nil, List.nil_append, List.foldl, PV.toD, Q.toC, allC, and_true, implies_true, true_implies, false_implies, AV.d.injEq, AV.ref.injEq, Option.some.injEq, DV.one.injEq, DV.agg.injEq, C.int.injEq, C.bool.injEq, C.str.injEq, C.row.injEq, List.cons.injEq, loadC, loadQ, cellsOf, List.length_cons, List.length_nil, List.getD_cons_zero, List.getD_cons_succ, List.drop, List.take, decide_true, decide_false, Int.toNat_natCast, Bool.false_and, Bool.and_true, Bool.and_false, St.map, PV.map, SV.map, St.pub, Q.pub, del, Q.killB, Q.killO, buildX, bslX, place, placeC, asInt?, loX, Nat.reduceLeDiff, Nat.reduceLT, List.append, List.cons_append, Option.bind, Bool.not_true, Bool.not_false, Nat.reduceSub, Nat.reduceBNe, Nat.add_zero, List.getD_nil, strs_len, encL_len, encF_len, encTk_len, allC_map, owns_map, C.def, killB_map, killO_map, pub_map, T.enc_take, F.enc_take, T.enc_take5, F.enc_take9, Tk.enc_take6, Nat.le_refl, List.length_map, List.drop_zero, List.flatMap_cons, List.flatMap_nil, List.any_nil, List.any_cons, Nat.reduceBEq, beq_self_eq_true, Bool.or_false, pick_or, pick_and, pick_t, pick_f, dec_and, bq_t, bq_f, decide_eq_true_eq, decide_eq_false_iff_not, imp_self, not_true_eq_false, not_false_eq_true, rg, a2]
      repeat' (first | with_reducible assumption | with_reducible refine And.intro ?_ ?_ | intro _)
      all_goals first | omega | skip
theorem manyF_all : ∀ k, Sound Go.Proofs.Tryd.prog 99 (spManyF k) := fun k => Nat.rec Sound.none (fun k ih => l4Many_sound k ih) k
noncomputable def spFormFV  : Spec := Spec.of (ι := F × Int) [false, false] (fun i => [.d (.agg i.1.enc), .d (.one (.int .i64 i.2))]) (fun i => i.1.fit 140737488355328 ∧ smallF i.1 ∧ -1 ≤ i.2 ∧ i.2 ≤ 1000) (fun i => [.d (.one (.bool (decide (formF i.1 i.2))))]) (fun _ => [.gone, .gone])
theorem spFormFV_inj : ∀ i j : F × Int, (fun (i : F × Int) => ([.d (.agg i.1.enc), .d (.one (.int .i64 i.2))] : List AV)) i = (fun (i : F × Int) => ([.d (.agg i.1.enc), .d (.one (.int .i64 i.2))] : List AV)) j → i = j := by
  rintro ⟨t, d⟩ ⟨t', d'⟩ h
  simp only [Prod.mk.injEq]
  simpa [strs_eq, T.enc_eq, encL_eq, F.enc_eq, encF_eq, Tk.enc_eq, encTk_eq, Gn.enc_eq] using h
theorem spFormFV_md  : (spFormFV).md = [false, false] := rfl
theorem spFormFV_pre  (t : F) (d : Int) : (spFormFV).pre [.d (.agg t.enc), .d (.one (.int .i64 d))] = (t.fit 140737488355328 ∧ smallF t ∧ -1 ≤ d ∧ d ≤ 1000) := Spec.of_pre' spFormFV_inj (t, d)
theorem spFormFV_alts  : (spFormFV).alts = none := rfl
theorem spFormFV_res  (t : F) (d : Int) : (spFormFV).res [.d (.agg t.enc), .d (.one (.int .i64 d))] = [.d (.one (.bool (decide (formF t d))))] := Spec.of_res spFormFV_inj (t, d)
theorem spFormFV_out  (t : F) (d : Int) : (spFormFV).out [.d (.agg t.enc), .d (.one (.int .i64 d))] = [.gone, .gone] := Spec.of_out spFormFV_inj (t, d)
noncomputable def spManyFV  : Spec := Spec.of (ι := F × Int) [false, false] (fun i => [.d (.agg i.1.enc), .d (.one (.int .i64 i.2))]) (fun i => i.1.fit 140737488355328 ∧ sizeF i.1 ≤ 1048577 ∧ -1 ≤ i.2 ∧ i.2 ≤ 1000) (fun i => [.d (.one (.int .i64 (manyF i.1 i.2)))]) (fun _ => [.gone, .gone])
theorem spManyFV_inj : ∀ i j : F × Int, (fun (i : F × Int) => ([.d (.agg i.1.enc), .d (.one (.int .i64 i.2))] : List AV)) i = (fun (i : F × Int) => ([.d (.agg i.1.enc), .d (.one (.int .i64 i.2))] : List AV)) j → i = j := by
  rintro ⟨t, d⟩ ⟨t', d'⟩ h
  simp only [Prod.mk.injEq]
  simpa [strs_eq, T.enc_eq, encL_eq, F.enc_eq, encF_eq, Tk.enc_eq, encTk_eq, Gn.enc_eq] using h
theorem spManyFV_md  : (spManyFV).md = [false, false] := rfl
theorem spManyFV_pre  (t : F) (d : Int) : (spManyFV).pre [.d (.agg t.enc), .d (.one (.int .i64 d))] = (t.fit 140737488355328 ∧ sizeF t ≤ 1048577 ∧ -1 ≤ d ∧ d ≤ 1000) := Spec.of_pre' spManyFV_inj (t, d)
theorem spManyFV_alts  : (spManyFV).alts = none := rfl
theorem spManyFV_res  (t : F) (d : Int) : (spManyFV).res [.d (.agg t.enc), .d (.one (.int .i64 d))] = [.d (.one (.int .i64 (manyF t d)))] := Spec.of_res spManyFV_inj (t, d)
theorem spManyFV_out  (t : F) (d : Int) : (spManyFV).out [.d (.agg t.enc), .d (.one (.int .i64 d))] = [.gone, .gone] := Spec.of_out spManyFV_inj (t, d)
theorem formFV_sound : Sound Go.Proofs.Tryd.prog 98 spFormFV := Sound.all (μ := fun i => SizeOf.sizeOf i.1) formF_all
theorem manyFV_sound : Sound Go.Proofs.Tryd.prog 99 spManyFV := Sound.all (μ := fun i => SizeOf.sizeOf i.1) manyF_all
noncomputable def spOkF  : Spec := Spec.of (ι := F) [false] (fun i => [.d (.agg i.enc)]) (fun i => i.fit 140737488355328 ∧ smallF i ∧ sizeF i ≤ 1048577) (fun i => [.d (.one (.bool (decide (okF i))))]) (fun _ => [.gone])
theorem spOkF_inj : ∀ i j : F, (fun (i : F) => ([.d (.agg i.enc)] : List AV)) i = (fun (i : F) => ([.d (.agg i.enc)] : List AV)) j → i = j := by
  intro t t' h
  simpa [strs_eq, T.enc_eq, encL_eq, F.enc_eq, encF_eq, Tk.enc_eq, encTk_eq, Gn.enc_eq] using h
theorem spOkF_md  : (spOkF).md = [false] := rfl
theorem spOkF_pre  (t : F) : (spOkF).pre [.d (.agg t.enc)] = (t.fit 140737488355328 ∧ smallF t ∧ sizeF t ≤ 1048577) := Spec.of_pre' spOkF_inj t
theorem spOkF_alts  : (spOkF).alts = none := rfl
theorem spOkF_res  (t : F) : (spOkF).res [.d (.agg t.enc)] = [.d (.one (.bool (decide (okF t))))] := Spec.of_res spOkF_inj t
theorem spOkF_out  (t : F) : (spOkF).out [.d (.agg t.enc)] = [.gone] := Spec.of_out spOkF_inj t
theorem sOkF_sound : Sound Go.Proofs.Tryd.prog 33 spOkF := by
  refine sound_fam (GOK.cons (l := [(99, spManyFV)]) call_l4Form formFV_sound (GOK.cons call_l4Many manyFV_sound GOK.nil)) Go.Proofs.Tryd.func33 (c := Go.Proofs.Tryd.f33.body.getD .skip) rfl (n := 10) rfl chk_FiltOk rs_FiltOk (fun _ => by simp) ?_ ?_
  · exact spOkF_inj
  · rintro t ⟨h1, h2, h3⟩
    have a6 := F.enc_len t
    simp only [x_FiltOk, initX, DV.toP, C.toQ, Q.pubB, Option.bind_some, List.map_cons, List.map_nil, pw_seq, pw_reg, pw_cond, condQ_t, condQ_f, condQ_d, not_dec, pw_ret, pw_skip, pw_exit, pw_block, thenQ_n, thenQ_r, thenQ_e, blkQ_n, blkQ_r, blkQ_e, loopQ_n, loopQ_r, loopQ_e, runX, stepR, callR, orF, Spec.at, stepX, stepM, evalK, callX, callE, Gam, get?, argsX, argsE, pubIds, St.pubs, mutIds, nodupIds, outE, retE, retP, allD, DV.toS, St.v, get, PV.un, PV.row, Option.map, St.put, upd, del, binC, rg, St.keep, List.map, Option.getD, effK, bne_self_eq_false, if_true, Bool.true_and, Nat.reduceEqDiff, if_false, reduceIte, reduceCtorEq, Nat.reduceAdd, true_and, endQ, finX, resD, resV, resOwns, refOwns, outX, PV.owns, ownsQ, List.append_nil, List.nil_append, List.foldl, PV.toD, Q.toC, allC, and_true, implies_true, true_implies, false_implies, AV.d.injEq, AV.ref.injEq, Option.some.injEq, DV.one.injEq, DV.agg.injEq, C.int.injEq, C.bool.injEq, C.str.injEq, C.row.injEq, List.cons.injEq, loadC, loadQ, cellsOf, List.length_cons, List.length_nil, List.getD_cons_zero, List.getD_cons_succ, List.drop, List.take, decide_true, decide_false, Int.toNat_natCast, Bool.false_and, Bool.and_true, Bool.and_false, St.map, PV.map, SV.map, St.pub, Q.pub, del, Q.killB, Q.killO, buildX, bslX, place, placeC, asInt?, loX, Nat.reduceLeDiff, Nat.reduceLT, List.append, List.cons_append, Option.bind, Bool.not_true, Bool.not_false, Nat.reduceSub, Nat.reduceBNe, Nat.add_zero, List.getD_nil, strs_len, encL_len, encF_len, encTk_len, allC_map, owns_map, C.def, killB_map, killO_map, pub_map, T.enc_take, F.enc_take, T.enc_take5, F.enc_take9, Tk.enc_take6, Nat.le_refl, List.length_map, List.drop_zero, List.flatMap_cons, List.flatMap_nil, List.any_nil, List.any_cons, Nat.reduceBEq, beq_self_eq_true, Bool.or_false, pick_or, pick_and, pick_t, pick_f, dec_and, bq_t, bq_f, decide_eq_true_eq, decide_eq_false_iff_not, imp_self, not_true_eq_false, not_false_eq_true, rg, a6, spFormFV_md, spFormFV_pre, spFormFV_alts, spFormFV_res, spFormFV_out, spManyFV_md, spManyFV_pre, spManyFV_alts, spManyFV_res, spManyFV_out]
    repeat' (first | with_reducible assumption | with_reducible refine And.intro ?_ ?_ | intro _)
    all_goals first | omega | skip
    exact decide_eq_decide.2 Iff.rfl
end Go.Proofs.Pw
