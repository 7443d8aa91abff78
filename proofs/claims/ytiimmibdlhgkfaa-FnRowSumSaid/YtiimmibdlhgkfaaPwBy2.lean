/- Rows put together; rows grouped by what stands under a key. -/
import Derived.Test.YtiimmibdlhgkfaaPwBy
import Derived.Test.YtiimmibdlhgkfaaPwDr4
set_option linter.unusedSimpArgs false
set_option linter.unusedVariables false
set_option linter.unusedSimpArgs false
set_option maxRecDepth 20000
namespace Go.Proofs.Pw
set_option linter.unusedSectionVars false
variable [Globs]
def x_RowFlat : X := (.seq (.reg [⟨some 1, none, .box (.t 0) (some 5)⟩, ⟨some 2, none, .alloc [(.c (.int .i64 0)), (.c (.int .i64 0)), (.c (.str ⟨#[]⟩)), (.z 1), (.z 5)]⟩, ⟨some 3, none, .mv (.k (.c (.bool false)))⟩] none [1, 2]) (.seq (.seq (.reg [⟨some 7, none, .load (.t 1) (some 5)⟩, ⟨some 8, none, .call 53 [(.t 7)]⟩, ⟨some 9, none, .not (.t 8)⟩] none [1, 2, 9]) (.cond (.t 9) (.seq (.reg [⟨some 10, none, .build [(.c (.int .i64 0)), (.c (.int .i64 0)), (.c (.str ⟨#[]⟩)), (.z 1), (.z 5)] []⟩, ⟨none, none, .st (.t 2) (.t 10) (some 5)⟩, ⟨some 3, none, .mv (.k (.c (.bool false)))⟩] none [2, 3]) .ret) .skip)) (.seq (.reg [⟨some 11, none, .bsl 5 []⟩, ⟨some 4, none, .mv (.t 11)⟩] none [1, 2, 4]) (.seq (.seq (.reg [⟨some 12, none, .fa (.t 1) 4⟩, ⟨some 13, none, .load (.t 12) none⟩, ⟨some 14, none, .len (.t 13) false⟩, ⟨some 15, none, .mv (.k (.c (.int .i64 0)))⟩] none [2, 4, 13, 14, 15]) (.block 0 (.loop (.seq (.reg [⟨some 16, none, .bin false .lss (.t 15) (.t 14)⟩] none [2, 4, 13, 14, 15, 16]) (.seq (.cond (.t 16) .skip (.exit 0)) (.seq (.block 1 (.seq (.reg [⟨some 17, none, .ia (.t 13) (.t 15) 5⟩, ⟨some 18, none, .load (.t 17) (some 5)⟩, ⟨some 6, none, .alloc [(.c (.int .i64 0)), (.c (.int .i64 0)), (.c (.str ⟨#[]⟩)), (.z 1), (.z 5)]⟩, ⟨none, none, .st (.t 6) (.t 18) (some 5)⟩] none [2, 4, 6, 13, 14, 15]) (.seq (.reg [⟨some 19, none, .fa (.t 6) 0⟩, ⟨some 20, none, .load (.t 19) none⟩, ⟨some 21, none, .bin false .eql (.t 20) (.k (.c (.int .i64 5)))⟩] none [2, 4, 6, 13, 14, 15, 21]) (.cond (.t 21) (.reg [⟨some 22, none, .mv (.t 4)⟩, ⟨some 23, none, .fa (.t 6) 4⟩, ⟨some 24, none, .load (.t 23) none⟩, ⟨some 25, none, .app (.t 22) (.t 24) 5 80 []⟩, ⟨some 4, none, .mv (.t 25)⟩] none [2, 4, 13, 14, 15]) (.reg [⟨some 26, none, .mv (.t 4)⟩, ⟨some 27, none, .load (.t 6) (some 5)⟩, ⟨some 28, none, .bsl 5 [((.t 27), (some 5))]⟩, ⟨some 29, none, .app (.t 26) (.t 28) 5 80 []⟩, ⟨some 4, none, .mv (.t 29)⟩] none [2, 4, 13, 14, 15]))))) (.reg [⟨some 30, none, .bin false .add (.t 15) (.k (.c (.int .i64 1)))⟩, ⟨some 15, none, .mv (.t 30)⟩] none [2, 4, 13, 14, 15]))))))) (.seq (.reg [⟨some 31, none, .mv (.t 4)⟩, ⟨some 32, none, .call 68 [(.t 31)]⟩, ⟨some 33, none, .call 54 [(.t 32), (.k (.c (.bool true)))]⟩, ⟨some 34, none, .ext (.t 33) 0⟩, ⟨some 35, none, .ext (.t 33) 1⟩, ⟨none, none, .st (.t 2) (.t 34) (some 5)⟩, ⟨some 3, none, .mv (.t 35)⟩] none [2, 3]) .ret)))))
theorem chk_RowFlat : chkX Go.Proofs.Try.prog 36 (Go.Proofs.Try.f22.body.getD .skip) x_RowFlat = true := by kernel_rfl
theorem rs_RowFlat : okRs Go.Proofs.Try.prog Go.Proofs.Try.f22.results.toList [.cell 2 (some 5), .tmp 3] = true := by kernel_rfl
theorem call_RowFlat : okCallee Go.Proofs.Try.prog 22 = true := by kernel_rfl
theorem flatT_row {l : List T} (h : okT (.mk 5 0 ⟨#[]⟩ [] l)) : flatT (.mk 5 0 ⟨#[]⟩ [] l) = toldT true (.mk 5 0 ⟨#[]⟩ [] (flatL l)) := if_pos (rowT_row.2 h)
noncomputable def spFlat  : Spec := Spec.of (ι := T) [false] (fun i => [.d (.agg i.enc)]) (fun i => i.fit 1000000 ∧ lenB 1000000 (flatL i.list).length) (fun i => [.d (.agg (flatT i).enc), .d (.one (.bool (decide (rowT i ∧ okT (.mk 5 0 ⟨#[]⟩ [] (flatL i.list))))))]) (fun _ => [.gone])
theorem spFlat_inj : ∀ i j : T, (fun (i : T) => ([.d (.agg i.enc)] : List AV)) i = (fun (i : T) => ([.d (.agg i.enc)] : List AV)) j → i = j := by
  intro v v' h
  simpa [strs_eq, T.enc_eq, encL_eq, F.enc_eq, encF_eq, Tk.enc_eq, encTk_eq, Gn.enc_eq, ints_eq] using h
theorem spFlat_md  : (spFlat).md = [false] := rfl
theorem spFlat_pre  (v : T) : (spFlat).pre [.d (.agg v.enc)] = (v.fit 1000000 ∧ lenB 1000000 (flatL v.list).length) := Spec.of_pre' spFlat_inj v
theorem spFlat_alts  : (spFlat).alts = none := rfl
theorem spFlat_res  (v : T) : (spFlat).res [.d (.agg v.enc)] = [.d (.agg (flatT v).enc), .d (.one (.bool (decide (rowT v ∧ okT (.mk 5 0 ⟨#[]⟩ [] (flatL v.list))))))] := Spec.of_res spFlat_inj v
theorem spFlat_out  (v : T) : (spFlat).out [.d (.agg v.enc)] = [.gone] := Spec.of_out spFlat_inj v
theorem RowFlat_sound : Sound Go.Proofs.Try.prog 22 spFlat := by
  refine sound_fam (GOK.cons (l := [(68, spRow), (54, spTold)]) call_isRow isRow_sound (GOK.cons call_row row_sound (GOK.cons call_told told_sound GOK.nil))) Go.Proofs.Try.func22 (c := Go.Proofs.Try.f22.body.getD .skip) rfl (n := 36) rfl chk_RowFlat rs_RowFlat (fun _ => by simp) ?_ ?_
  · exact spFlat_inj
  · rintro v ⟨h1, h2⟩
    have f3 := T.enc_len v
    have v2 : v.fit 140737488355328 := T.fit_mono (by decide) h1
    by_cases c : rowT v
    · obtain ⟨l, rfl⟩ : ∃ l, v = .mk 5 0 ⟨#[]⟩ [] l := ⟨_, rowT_is c⟩
      have o1 := c.1
      have e1 := flatT_row o1
      have l1 : (l.length : Int) ≤ 1000000 := (T.fit_list h1).1
      have l2 : ((flatL l).length : Int) ≤ 1000000 := h2
      have c' : rowT (T.mk 5 0 ⟨#[]⟩ [] l) = True := eq_true c
      simp only [x_RowFlat, rg, seval, argsB, PV.toDB, Q.toCB, allCB, callB, flatP, flatC, flatS, List.all_nil, List.all_cons, svL, svP, addR, agQ, agR, pid, nodupN, List.contains_nil, List.contains_cons, finG, gIds, idsR, oneI, agI, gOk, oneOk, ptOk, notIn, List.filter_nil, List.filter_cons, pw_mix, ↓runH, ↓one, ↓effC, effR, Updr.app, putO, updL, St.kil, kilQ, kilP, kilL, invC, opKil, excOf, invT, invB, plT, plA, rcOf, wrU, kilI, memK, PV.ids, disj, pairOk, okPast, setP, invU, outB, PV.pl, Q.pl, plL, plL_map, List.all_nil, List.all_cons, List.getD_cons_zero, Prod.fst, List.nil_append, id_eq, List.map_id, Nat.reduceMul, allCB_map, PV.rowB, BASE, ltB, List.isEmpty_nil, delL, St.delO, or_true, List.mem_singleton, T.enc, foldT, foldT0, T.list, c', e1, encL_len, spIsRow_md, spIsRow_pre, spIsRow_alts, spIsRow_res, spIsRow_out]
      repeat' (first | with_reducible assumption | with_reducible refine And.intro ?_ ?_ | intro _)
      all_goals first | omega | assumption | skip
      refine pw_loop (ι := Nat) (fun i => l.length - i) (fun i => i ≤ l.length)
        (fun i => ⟨[(2, .q (.box 2 0)), (4, .q (.own 201)), (13, .q (.c (.row 5 (encL l)))), (14, .q (.c (.int .i64 l.length))), (15, .q (.c (.int .i64 i)))], [(1, [.c (.int .i64 5), .c (.int .i64 0), .c (.str ⟨#[]⟩), .c (.row 1 (strs [])), .c (.row 5 (encL l))]), (2, [.c (.int .i64 0), .c (.int .i64 0), .c (.str ⟨#[]⟩), .z 1, .z 5])], [(201, 5, encL (flatL (l.take i)))]⟩) 0 (Nat.zero_le _) ?_ ?_
      · refine Le.own (t := 4) (d := 201) (sz := 5) (by decide) (by simp) (by simp [Q.killO]) ?_
        simp [PV.map, Q.killO]
      · intro i hi
        have l3 := flatL_le (l := l) i
        rcases Nat.lt_or_ge i l.length with hlt | hge
        · obtain ⟨x, hx, _, hmem⟩ := drop_at hlt
          have b1 : ((i : Int) < (l.length : Int)) = True := eq_true (by omega)
          have a1 := encL_at hx
          have f1 := T.enc_len x
          have e := flatL_take hx
          have l4 := flatL_le (l := l) (i + 1)
          rw [e, List.length_append] at l4
          have g1 := fitL_in (T.fit_list h1).2 x hmem
          obtain ⟨k, n, s, ks, li⟩ := x
          by_cases d : k = 5
          · have b2 : (k = 5) = True := eq_true d
            simp only [T.kind, T.list, b2, if_true] at l4 e
            simp only [rg, seval, argsB, PV.toDB, Q.toCB, allCB, callB, flatP, flatC, flatS, List.all_nil, List.all_cons, svL, svP, addR, agQ, agR, pid, nodupN, List.contains_nil, List.contains_cons, finG, gIds, idsR, oneI, agI, gOk, oneOk, ptOk, notIn, List.filter_nil, List.filter_cons, pw_mix, ↓runH, ↓one, ↓effC, effR, Updr.app, putO, updL, St.kil, kilQ, kilP, kilL, invC, opKil, excOf, invT, invB, plT, plA, rcOf, wrU, kilI, memK, PV.ids, disj, pairOk, okPast, setP, invU, outB, PV.pl, Q.pl, plL, plL_map, List.all_nil, List.all_cons, List.getD_cons_zero, Prod.fst, List.nil_append, id_eq, List.map_id, Nat.reduceMul, allCB_map, PV.rowB, BASE, ltB, List.isEmpty_nil, delL, St.delO, or_true, List.mem_singleton, b1, b2, a1, f1, encL_len, encL_appL]
            simp only [rg, seval, argsB, PV.toDB, Q.toCB, allCB, callB, flatP, flatC, flatS, List.all_nil, List.all_cons, svL, svP, addR, agQ, agR, pid, nodupN, List.contains_nil, List.contains_cons, finG, gIds, idsR, oneI, agI, gOk, oneOk, ptOk, notIn, List.filter_nil, List.filter_cons, pw_mix, ↓runH, ↓one, ↓effC, effR, Updr.app, putO, updL, St.kil, kilQ, kilP, kilL, invC, opKil, excOf, invT, invB, plT, plA, rcOf, wrU, kilI, memK, PV.ids, disj, pairOk, okPast, setP, invU, outB, PV.pl, Q.pl, plL, plL_map, List.all_nil, List.all_cons, List.getD_cons_zero, Prod.fst, List.nil_append, id_eq, List.map_id, Nat.reduceMul, allCB_map, PV.rowB, BASE, ltB, List.isEmpty_nil, delL, St.delO, or_true, List.mem_singleton, T.enc, b1, b2, encL_len, encL_appL]
            repeat' (first | with_reducible assumption | with_reducible refine And.intro ?_ ?_ | intro _)
            all_goals first | omega | assumption | skip
            refine ⟨i + 1, by omega, by omega, ?_⟩
            rw [e]
            refine Le.sub ?_ ?_ ?_ <;> simp [encL_app, encL, T.enc]
          · have b2 : (k = 5) = False := eq_false d
            simp only [T.kind, T.list, b2, if_false] at l4 e
            simp only [rg, seval, argsB, PV.toDB, Q.toCB, allCB, callB, flatP, flatC, flatS, List.all_nil, List.all_cons, svL, svP, addR, agQ, agR, pid, nodupN, List.contains_nil, List.contains_cons, finG, gIds, idsR, oneI, agI, gOk, oneOk, ptOk, notIn, List.filter_nil, List.filter_cons, pw_mix, ↓runH, ↓one, ↓effC, effR, Updr.app, putO, updL, St.kil, kilQ, kilP, kilL, invC, opKil, excOf, invT, invB, plT, plA, rcOf, wrU, kilI, memK, PV.ids, disj, pairOk, okPast, setP, invU, outB, PV.pl, Q.pl, plL, plL_map, List.all_nil, List.all_cons, List.getD_cons_zero, Prod.fst, List.nil_append, id_eq, List.map_id, Nat.reduceMul, allCB_map, PV.rowB, BASE, ltB, List.isEmpty_nil, delL, St.delO, or_true, List.mem_singleton, b1, b2, a1, f1, encL_len, encL_appL]
            simp only [rg, seval, argsB, PV.toDB, Q.toCB, allCB, callB, flatP, flatC, flatS, List.all_nil, List.all_cons, svL, svP, addR, agQ, agR, pid, nodupN, List.contains_nil, List.contains_cons, finG, gIds, idsR, oneI, agI, gOk, oneOk, ptOk, notIn, List.filter_nil, List.filter_cons, pw_mix, ↓runH, ↓one, ↓effC, effR, Updr.app, putO, updL, St.kil, kilQ, kilP, kilL, invC, opKil, excOf, invT, invB, plT, plA, rcOf, wrU, kilI, memK, PV.ids, disj, pairOk, okPast, setP, invU, outB, PV.pl, Q.pl, plL, plL_map, List.all_nil, List.all_cons, List.getD_cons_zero, Prod.fst, List.nil_append, id_eq, List.map_id, Nat.reduceMul, allCB_map, PV.rowB, BASE, ltB, List.isEmpty_nil, delL, St.delO, or_true, List.mem_singleton, T.enc, b1, b2, encL_len, encL_appL]
            repeat' (first | with_reducible assumption | with_reducible refine And.intro ?_ ?_ | intro _)
            all_goals first | omega | assumption | skip
            refine ⟨i + 1, by omega, by omega, ?_⟩
            rw [e]
            refine Le.sub ?_ ?_ ?_ <;> simp [encL_app, encL, T.enc]
        · obtain rfl : i = l.length := by omega
          have b1 : ((l.length : Int) < (l.length : Int)) = False := eq_false (by omega)
          have e : flatL (l.take l.length) = flatL l := by rw [List.take_length]
          have f4 := T.enc_len (toldT true (.mk 5 0 ⟨#[]⟩ [] (flatL l)))
          have f5 := T.enc_len (.mk 5 0 ⟨#[]⟩ [] (flatL l))
          have g1 : (T.mk 5 0 ⟨#[]⟩ [] (flatL l)).fit 2000000 := rowT_fit (by omega) (by unfold lenB; omega) (flatL_fit (fitL_of fun t ht => T.fit_mono (by decide) (fitL_in (T.fit_list h1).2 t ht)))
          simp only [rg, seval, argsB, PV.toDB, Q.toCB, allCB, callB, flatP, flatC, flatS, List.all_nil, List.all_cons, svL, svP, addR, agQ, agR, pid, nodupN, List.contains_nil, List.contains_cons, finG, gIds, idsR, oneI, agI, gOk, oneOk, ptOk, notIn, List.filter_nil, List.filter_cons, pw_mix, ↓runH, ↓one, ↓effC, effR, Updr.app, putO, updL, St.kil, kilQ, kilP, kilL, invC, opKil, excOf, invT, invB, plT, plA, rcOf, wrU, kilI, memK, PV.ids, disj, pairOk, okPast, setP, invU, outB, PV.pl, Q.pl, plL, plL_map, List.all_nil, List.all_cons, List.getD_cons_zero, Prod.fst, List.nil_append, id_eq, List.map_id, Nat.reduceMul, allCB_map, PV.rowB, BASE, ltB, List.isEmpty_nil, delL, St.delO, or_true, List.mem_singleton, b1, e, f4, f5, encL_len, spRow_md, spRow_pre, spRow_alts, spRow_res, spRow_out, spTold_md, spTold_pre, spTold_alts, spTold_res, spTold_out]
          repeat' (first | with_reducible assumption | with_reducible refine And.intro ?_ ?_ | intro _)
          all_goals first | omega | assumption | skip
    · have e1 : flatT v = T.zero := if_neg c
      simp only [x_RowFlat, rg, seval, argsB, PV.toDB, Q.toCB, allCB, callB, flatP, flatC, flatS, List.all_nil, List.all_cons, svL, svP, addR, agQ, agR, pid, nodupN, List.contains_nil, List.contains_cons, finG, gIds, idsR, oneI, agI, gOk, oneOk, ptOk, notIn, List.filter_nil, List.filter_cons, pw_mix, ↓runH, ↓one, ↓effC, effR, Updr.app, putO, updL, St.kil, kilQ, kilP, kilL, invC, opKil, excOf, invT, invB, plT, plA, rcOf, wrU, kilI, memK, PV.ids, disj, pairOk, okPast, setP, invU, outB, PV.pl, Q.pl, plL, plL_map, List.all_nil, List.all_cons, List.getD_cons_zero, Prod.fst, List.nil_append, id_eq, List.map_id, Nat.reduceMul, allCB_map, PV.rowB, BASE, ltB, List.isEmpty_nil, delL, St.delO, or_true, List.mem_singleton, f3, e1, c, spIsRow_md, spIsRow_pre, spIsRow_alts, spIsRow_res, spIsRow_out]
      repeat' (first | with_reducible assumption | with_reducible refine And.intro ?_ ?_ | intro _)
      all_goals first | omega | assumption | exact T.zero_enc | (rename_i h; exact h.1.elim) | skip
end Go.Proofs.Pw
