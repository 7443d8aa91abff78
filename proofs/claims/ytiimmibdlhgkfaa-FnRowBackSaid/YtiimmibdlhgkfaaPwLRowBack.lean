/- FnRowBack: the law, run. -/
import Derived.Test.YtiimmibdlhgkfaaPwPa
import Derived.Test.YtiimmibdlhgkfaaPwDr4
import Derived.Test.YtiimmibdlhgkfaaPwD
set_option linter.unusedSimpArgs false
set_option linter.unusedVariables false
set_option linter.unusedSimpArgs false
set_option maxRecDepth 20000
namespace Go.Proofs.Pw
set_option linter.unusedSectionVars false
variable [Globs]
def x_DrawRowBack : X := (.seq (.reg [⟨some 2, none, .alloc [(.c (.int .i64 0)), (.c (.int .i64 0)), (.c (.str ⟨#[]⟩)), (.z 1), (.z 5)]⟩] none [0, 2]) (.seq (.reg [⟨some 3, none, .mv (.t 0)⟩, ⟨some 4, none, .call 51 [(.t 3)]⟩, ⟨some 5, none, .callr 50 [(.t 4)]⟩, ⟨none, none, .st (.t 2) (.t 5) (some 5)⟩] none [2]) .ret))
theorem chk_DrawRowBack : chkX Go.Proofs.Try.prog 6 (Go.Proofs.Try.f29.body.getD .skip) x_DrawRowBack = true := by kernel_rfl
theorem rs_DrawRowBack : okRs Go.Proofs.Try.prog Go.Proofs.Try.f29.results.toList [.cell 2 (some 5)] = true := by kernel_rfl
theorem call_DrawRowBack : okCallee Go.Proofs.Try.prog 29 = true := by kernel_rfl
def x_lawRK : X := (.seq (.reg [⟨some 4, none, .mv (.k (.c (.bool false)))⟩] none [0, 1]) (.seq (.seq (.reg [⟨some 25, none, .mv (.t 0)⟩, ⟨some 26, none, .len (.t 25) false⟩, ⟨some 27, none, .bin false .gtr (.t 26) (.k (.c (.int .i64 1048576)))⟩, ⟨some 28, none, .mv (.t 27)⟩, ⟨some 29, some (28, false), .mv (.t 1)⟩, ⟨some 30, some (28, false), .len (.t 29) false⟩, ⟨some 31, some (28, false), .bin false .gtr (.t 30) (.k (.c (.int .i64 1048576)))⟩, ⟨some 32, none, .pick (.t 28) (.k (.c (.bool true))) (.t 31)⟩] none [0, 1, 32]) (.cond (.t 32) (.seq (.reg [⟨some 4, none, .mv (.k (.c (.bool true)))⟩] none [4]) .ret) .skip)) (.seq (.reg [⟨some 33, none, .mv (.t 0)⟩, ⟨some 34, none, .callr 29 [(.t 33)]⟩, ⟨some 5, none, .alloc [(.c (.int .i64 0)), (.c (.int .i64 0)), (.c (.str ⟨#[]⟩)), (.z 1), (.z 5)]⟩, ⟨none, none, .st (.t 5) (.t 34) (some 5)⟩] none [1, 5]) (.seq (.reg [⟨some 36, none, .load (.t 5) (some 5)⟩, ⟨some 37, none, .call 30 [(.t 36)]⟩, ⟨some 35, none, .mv (.t 37)⟩, ⟨some 38, none, .ext (.t 35) 0⟩, ⟨some 39, none, .ext (.t 35) 1⟩, ⟨some 6, none, .alloc [(.c (.int .i64 0)), (.c (.int .i64 0)), (.c (.str ⟨#[]⟩)), (.z 1), (.z 5)]⟩, ⟨none, none, .st (.t 6) (.t 38) (some 5)⟩, ⟨some 7, none, .mv (.t 39)⟩] none [1, 5, 6, 7]) (.seq (.reg [⟨some 41, none, .load (.t 5) (some 5)⟩, ⟨some 42, none, .call 31 [(.t 41)]⟩, ⟨some 40, none, .mv (.t 42)⟩, ⟨some 43, none, .ext (.t 40) 0⟩, ⟨some 44, none, .ext (.t 40) 1⟩, ⟨some 8, none, .alloc [(.c (.int .i64 0)), (.c (.int .i64 0)), (.c (.str ⟨#[]⟩)), (.z 1), (.z 5)]⟩, ⟨none, none, .st (.t 8) (.t 43) (some 5)⟩, ⟨some 9, none, .mv (.t 44)⟩] none [1, 5, 6, 7, 8, 9]) (.seq (.seq (.reg [⟨some 45, none, .mv (.t 7)⟩, ⟨some 46, none, .mv (.t 9)⟩, ⟨some 47, none, .bin true .neq (.t 45) (.t 46)⟩, ⟨some 48, none, .mv (.t 47)⟩, ⟨some 49, some (48, false), .load (.t 6) (some 5)⟩, ⟨some 50, some (48, false), .load (.t 8) (some 5)⟩, ⟨some 51, some (48, false), .call 16 [(.t 49), (.t 50)]⟩, ⟨some 52, some (48, false), .not (.t 51)⟩, ⟨some 53, none, .pick (.t 48) (.k (.c (.bool true))) (.t 52)⟩, ⟨some 54, none, .mv (.t 53)⟩, ⟨some 55, some (54, false), .mv (.t 7)⟩, ⟨some 56, some (54, false), .not (.t 55)⟩, ⟨some 57, none, .pick (.t 54) (.k (.c (.bool true))) (.t 56)⟩] none [1, 5, 6, 7, 8, 9, 57]) (.cond (.t 57) (.seq (.reg [⟨some 58, none, .mv (.t 7)⟩, ⟨some 59, none, .mv (.t 9)⟩, ⟨some 60, none, .bin true .eql (.t 58) (.t 59)⟩, ⟨some 61, none, .mv (.t 60)⟩, ⟨some 62, some (61, true), .load (.t 6) (some 5)⟩, ⟨some 63, some (61, true), .load (.t 8) (some 5)⟩, ⟨some 64, some (61, true), .call 16 [(.t 62), (.t 63)]⟩, ⟨some 65, none, .pick (.t 61) (.t 64) (.k (.c (.bool false)))⟩, ⟨some 4, none, .mv (.t 65)⟩] none [4]) .ret) .skip)) (.seq (.reg [⟨some 66, none, .mv (.t 1)⟩, ⟨some 67, none, .len (.t 66) false⟩, ⟨some 68, none, .fa (.t 5) 4⟩, ⟨some 69, none, .load (.t 68) none⟩, ⟨some 70, none, .len (.t 69) false⟩, ⟨some 71, none, .bin false .add (.t 70) (.k (.c (.int .i64 1)))⟩, ⟨some 72, none, .bin false .rem (.t 67) (.t 71)⟩, ⟨some 10, none, .mv (.t 72)⟩] none [5, 6, 10]) (.seq (.reg [⟨some 74, none, .load (.t 5) (some 5)⟩, ⟨some 75, none, .mv (.t 10)⟩, ⟨some 76, none, .call 18 [(.t 74), (.k (.c (.int .i64 0))), (.t 75)]⟩, ⟨some 73, none, .mv (.t 76)⟩, ⟨some 77, none, .ext (.t 73) 0⟩, ⟨some 78, none, .ext (.t 73) 1⟩, ⟨some 11, none, .alloc [(.c (.int .i64 0)), (.c (.int .i64 0)), (.c (.str ⟨#[]⟩)), (.z 1), (.z 5)]⟩, ⟨none, none, .st (.t 11) (.t 77) (some 5)⟩, ⟨some 12, none, .mv (.t 78)⟩] none [5, 6, 10, 11, 12]) (.seq (.reg [⟨some 80, none, .load (.t 5) (some 5)⟩, ⟨some 81, none, .mv (.t 10)⟩, ⟨some 82, none, .fa (.t 5) 4⟩, ⟨some 83, none, .load (.t 82) none⟩, ⟨some 84, none, .len (.t 83) false⟩, ⟨some 85, none, .call 18 [(.t 80), (.t 81), (.t 84)]⟩, ⟨some 79, none, .mv (.t 85)⟩, ⟨some 86, none, .ext (.t 79) 0⟩, ⟨some 87, none, .ext (.t 79) 1⟩, ⟨some 13, none, .alloc [(.c (.int .i64 0)), (.c (.int .i64 0)), (.c (.str ⟨#[]⟩)), (.z 1), (.z 5)]⟩, ⟨none, none, .st (.t 13) (.t 86) (some 5)⟩, ⟨some 14, none, .mv (.t 87)⟩] none [5, 6, 11, 12, 13, 14]) (.seq (.reg [⟨some 89, none, .load (.t 11) (some 5)⟩, ⟨some 90, none, .call 30 [(.t 89)]⟩, ⟨some 88, none, .mv (.t 90)⟩, ⟨some 91, none, .ext (.t 88) 0⟩, ⟨some 92, none, .ext (.t 88) 1⟩, ⟨some 15, none, .alloc [(.c (.int .i64 0)), (.c (.int .i64 0)), (.c (.str ⟨#[]⟩)), (.z 1), (.z 5)]⟩, ⟨none, none, .st (.t 15) (.t 91) (some 5)⟩, ⟨some 16, none, .mv (.t 92)⟩] none [5, 6, 12, 13, 14, 15, 16]) (.seq (.reg [⟨some 94, none, .load (.t 13) (some 5)⟩, ⟨some 95, none, .call 30 [(.t 94)]⟩, ⟨some 93, none, .mv (.t 95)⟩, ⟨some 96, none, .ext (.t 93) 0⟩, ⟨some 97, none, .ext (.t 93) 1⟩, ⟨some 17, none, .alloc [(.c (.int .i64 0)), (.c (.int .i64 0)), (.c (.str ⟨#[]⟩)), (.z 1), (.z 5)]⟩, ⟨none, none, .st (.t 17) (.t 96) (some 5)⟩, ⟨some 18, none, .mv (.t 97)⟩] none [5, 6, 12, 14, 15, 16, 17, 18]) (.seq (.reg [⟨some 99, none, .load (.t 17) (some 5)⟩, ⟨some 100, none, .load (.t 15) (some 5)⟩, ⟨some 101, none, .call 24 [(.t 99), (.t 100)]⟩, ⟨some 98, none, .mv (.t 101)⟩, ⟨some 102, none, .ext (.t 98) 0⟩, ⟨some 103, none, .ext (.t 98) 1⟩, ⟨some 19, none, .alloc [(.c (.int .i64 0)), (.c (.int .i64 0)), (.c (.str ⟨#[]⟩)), (.z 1), (.z 5)]⟩, ⟨none, none, .st (.t 19) (.t 102) (some 5)⟩, ⟨some 20, none, .mv (.t 103)⟩] none [5, 6, 12, 14, 16, 18, 19, 20]) (.seq (.reg [⟨some 105, none, .load (.t 5) (some 5)⟩, ⟨some 106, none, .call 14 [(.t 105)]⟩, ⟨some 104, none, .mv (.t 106)⟩, ⟨some 107, none, .ext (.t 104) 0⟩, ⟨some 108, none, .ext (.t 104) 1⟩, ⟨some 21, none, .alloc [(.c (.int .i64 0)), (.c (.int .i64 0)), (.c (.str ⟨#[]⟩)), (.z 1), (.z 5)]⟩, ⟨none, none, .st (.t 21) (.t 107) (some 5)⟩, ⟨some 22, none, .mv (.t 108)⟩] none [6, 12, 14, 16, 18, 19, 20, 21, 22]) (.seq (.reg [⟨some 110, none, .load (.t 6) (some 5)⟩, ⟨some 111, none, .call 14 [(.t 110)]⟩, ⟨some 109, none, .mv (.t 111)⟩, ⟨some 112, none, .ext (.t 109) 0⟩, ⟨some 113, none, .ext (.t 109) 1⟩, ⟨some 23, none, .alloc [(.c (.int .i64 0)), (.c (.int .i64 0)), (.c (.str ⟨#[]⟩)), (.z 1), (.z 5)]⟩, ⟨none, none, .st (.t 23) (.t 112) (some 5)⟩, ⟨some 24, none, .mv (.t 113)⟩] none [6, 12, 14, 16, 18, 19, 20, 21, 22, 23, 24]) (.seq (.reg [⟨some 114, none, .mv (.t 12)⟩, ⟨some 115, none, .mv (.t 114)⟩, ⟨some 116, some (115, true), .mv (.t 14)⟩, ⟨some 117, none, .pick (.t 115) (.t 116) (.k (.c (.bool false)))⟩, ⟨some 118, none, .mv (.t 117)⟩, ⟨some 119, some (118, true), .mv (.t 16)⟩, ⟨some 120, none, .pick (.t 118) (.t 119) (.k (.c (.bool false)))⟩, ⟨some 121, none, .mv (.t 120)⟩, ⟨some 122, some (121, true), .mv (.t 18)⟩, ⟨some 123, none, .pick (.t 121) (.t 122) (.k (.c (.bool false)))⟩, ⟨some 124, none, .mv (.t 123)⟩, ⟨some 125, some (124, true), .mv (.t 20)⟩, ⟨some 126, none, .pick (.t 124) (.t 125) (.k (.c (.bool false)))⟩, ⟨some 127, none, .mv (.t 126)⟩, ⟨some 128, some (127, true), .load (.t 19) (some 5)⟩, ⟨some 129, some (127, true), .load (.t 6) (some 5)⟩, ⟨some 130, some (127, true), .call 16 [(.t 128), (.t 129)]⟩, ⟨some 131, none, .pick (.t 127) (.t 130) (.k (.c (.bool false)))⟩, ⟨some 132, none, .mv (.t 131)⟩, ⟨some 133, some (132, true), .mv (.t 22)⟩, ⟨some 134, none, .pick (.t 132) (.t 133) (.k (.c (.bool false)))⟩, ⟨some 135, none, .mv (.t 134)⟩, ⟨some 136, some (135, true), .mv (.t 24)⟩, ⟨some 137, none, .pick (.t 135) (.t 136) (.k (.c (.bool false)))⟩, ⟨some 138, none, .mv (.t 137)⟩, ⟨some 139, some (138, true), .load (.t 21) (some 5)⟩, ⟨some 140, some (138, true), .load (.t 23) (some 5)⟩, ⟨some 141, some (138, true), .call 16 [(.t 139), (.t 140)]⟩, ⟨some 142, none, .pick (.t 138) (.t 141) (.k (.c (.bool false)))⟩, ⟨some 4, none, .mv (.t 142)⟩] none [4]) .ret)))))))))))))))
theorem chk_lawRK : chkX Go.Proofs.Try.prog 143 (Go.Proofs.Try.f6.body.getD .skip) x_lawRK = true := by kernel_rfl
theorem rs_lawRK : okRs Go.Proofs.Try.prog Go.Proofs.Try.f6.results.toList [.tmp 4] = true := by kernel_rfl
theorem DrawRowBack_sound : Sound Go.Proofs.Try.prog 29 spDRow := by
  refine sound_famR (GOK.cons (l := [(50, spRowDraw)]) call_l11Open l11Open_sound (GOK.cons call_l4RowDraw l4RowDraw_sound GOK.nil)) Go.Proofs.Try.func29 (c := Go.Proofs.Try.f29.body.getD .skip) rfl (n := 6) rfl chk_DrawRowBack rs_DrawRowBack (fun _ => by simp) ?_
  · rintro bs ⟨hb, h1⟩
    have hy := byt_take hb
    simp only [x_DrawRowBack, rg, seval, argsB, PV.toDB, Q.toCB, allCB, callB, flatP, flatC, flatS, List.all_nil, List.all_cons, svL, svP, addR, agQ, agR, pid, nodupN, List.contains_nil, List.contains_cons, finG, gIds, idsR, oneI, agI, gOk, oneOk, ptOk, notIn, List.filter_nil, List.filter_cons, pw_mix, ↓runH, ↓one, ↓effC, effR, Updr.app, putO, updL, St.kil, kilQ, kilP, kilL, invC, opKil, excOf, invT, invB, plT, plA, rcOf, wrU, kilI, memK, PV.ids, disj, pairOk, okPast, setP, invU, outB, PV.pl, Q.pl, plL, plL_map, List.all_nil, List.all_cons, List.getD_cons_zero, Prod.fst, List.nil_append, id_eq, List.map_id, Nat.reduceMul, allCB_map, PV.rowB, BASE, ltB, List.isEmpty_nil, delL, St.delO, or_true, List.mem_singleton, T.enc_len, spOpen_md, spOpen_pre, spOpen_alts, spOpen_res, spOpen_out, spRowDraw_md, spRowDraw_pre, spRowDraw_ne, ↓spRowDraw_all, spRowDraw_all]
    repeat' (first | with_reducible assumption | with_reducible refine And.intro ?_ ?_ | intro _)
    all_goals first | omega | skip
    rename_i k n s ks l q hd
    exact ⟨(k, n, s, ks, l), hd.1.mono (by decide), rfl⟩
theorem cut_take {l : List T} {k : Nat} (h : k ≤ l.length) : cutL 0 k l = l.take k := by
  have e1 : (edge l.length 0).toNat = 0 := by unfold edge; split <;> omega
  have e2 : (edge2 l.length 0 k).toNat = k := by unfold edge2 edge; repeat' split
                                                 all_goals omega
  unfold cutL; rw [e1, e2, List.drop_zero]
theorem cut_drop {l : List T} {k : Nat} (h : k ≤ l.length) : cutL k l.length l = l.drop k := by
  have e1 : (edge l.length k).toNat = k := by unfold edge; split <;> omega
  have e2 : (edge2 l.length k l.length).toNat = l.length := by unfold edge2 edge; repeat' split
                                                               all_goals omega
  unfold cutL; rw [e1, e2, List.take_length]
theorem sort_rev (l : List T) : sortC cmpT l.reverse = sortC cmpT l := sortC_uniq cmpT_is (sortC_srt cmpT_is _) ((sortC_perm cmpT_is _).trans (List.reverse_perm l))
noncomputable def spLawRK  : Spec := Spec.of (ι := (List Int) × (List Int)) [false, false] (fun i => [.d (.one (.row 1 (ints .u8 i.1))), .d (.one (.row 1 (ints .u8 i.2)))]) (fun i => bytes i.1 ∧ bytes i.2) (fun _ => [.d (.one (.bool true))]) (fun _ => [.gone, .gone])
theorem spLawRK_inj : ∀ i j : (List Int) × (List Int), (fun (i : (List Int) × (List Int)) => ([.d (.one (.row 1 (ints .u8 i.1))), .d (.one (.row 1 (ints .u8 i.2)))] : List AV)) i = (fun (i : (List Int) × (List Int)) => ([.d (.one (.row 1 (ints .u8 i.1))), .d (.one (.row 1 (ints .u8 i.2)))] : List AV)) j → i = j := by
  rintro ⟨a, b⟩ ⟨a', b'⟩ h
  simp only [Prod.mk.injEq]
  simpa [strs_eq, T.enc_eq, encL_eq, F.enc_eq, encF_eq, Tk.enc_eq, encTk_eq, Gn.enc_eq, ints_eq] using h
theorem spLawRK_pre  (a : List Int) (b : List Int) : (spLawRK).pre [.d (.one (.row 1 (ints .u8 a))), .d (.one (.row 1 (ints .u8 b)))] = (bytes a ∧ bytes b) := Spec.of_pre' spLawRK_inj (a, b)
theorem spLawRK_res  (a : List Int) (b : List Int) : (spLawRK).res [.d (.one (.row 1 (ints .u8 a))), .d (.one (.row 1 (ints .u8 b)))] = [.d (.one (.bool true))] := Spec.of_res spLawRK_inj (a, b)
set_option maxHeartbeats 4000000 in
theorem lawRK_sound : Sound Go.Proofs.Try.prog 6 spLawRK := by
  refine sound_fam (GOK.cons (l := [(14, spLeastI), (30, spBackI), (31, spBack), (18, spCutI), (24, spAddR), (16, spSameIV)]) call_DrawRowBack DrawRowBack_sound (GOK.cons call_RowLeastI RowLeastI_sound (GOK.cons call_RowBackI RowBackI_sound (GOK.cons call_RowBack RowBack_sound (GOK.cons call_RowCutI RowCutI_sound (GOK.cons call_PartAddI PartAddR_sound (GOK.cons call_ValSameI sameIV_sound GOK.nil))))))) Go.Proofs.Try.func6 (c := Go.Proofs.Try.f6.body.getD .skip) rfl (n := 143) rfl chk_lawRK rs_lawRK (fun _ => by simp) ?_ ?_
  · exact spLawRK_inj
  · rintro ⟨a, b⟩ ⟨h1, h2⟩
    simp only [bytes, lenB] at h1 h2
    simp only [x_lawRK, rg, seval, argsB, PV.toDB, Q.toCB, allCB, callB, flatP, flatC, flatS, List.all_nil, List.all_cons, svL, svP, addR, agQ, agR, pid, nodupN, List.contains_nil, List.contains_cons, finG, gIds, idsR, oneI, agI, gOk, oneOk, ptOk, notIn, List.filter_nil, List.filter_cons, pw_mix, ↓runH, ↓one, ↓effC, effR, Updr.app, putO, updL, St.kil, kilQ, kilP, kilL, invC, opKil, excOf, invT, invB, plT, plA, rcOf, wrU, kilI, memK, PV.ids, disj, pairOk, okPast, setP, invU, outB, PV.pl, Q.pl, plL, plL_map, List.all_nil, List.all_cons, List.getD_cons_zero, Prod.fst, List.nil_append, id_eq, List.map_id, Nat.reduceMul, allCB_map, PV.rowB, BASE, ltB, List.isEmpty_nil, delL, St.delO, or_true, List.mem_singleton, ints_len, T.enc_len, spDRow_md, spDRow_pre, ↓spDRow_all, spDRow_all]
    repeat' (first | with_reducible assumption | with_reducible refine And.intro ?_ ?_ | intro _)
    all_goals first | omega | skip
    · exact (h1.1 _ (by assumption)).1
    · exact (h1.1 _ (by assumption)).2
    · unfold lenB; omega
    rename_i k n s ks l hv
    generalize hve : (T.mk k n s ks l) = v at *
    clear hve
    have f1 := T.enc_len v
    have f3 := T.enc_len T.zero
    have v1 : v.fit 1000000 := T.fit_mono (by decide) hv.1
    have v2 : v.fit 140737488355328 := hv.fit
    have v3 := hv.2.1
    have v4 : v.list.length < 20 := by obtain ⟨k, n, s, ks, l⟩ := v; have := hv.2.2.1; simp only [T.list]; omega
    by_cases c : rowT v
    · obtain ⟨l, rfl⟩ : ∃ l, v = .mk 5 0 ⟨#[]⟩ [] l := ⟨_, rowT_is c⟩
      have o1 := c.1
      have c' : rowT (T.mk 5 0 ⟨#[]⟩ [] l) = True := eq_true c
      have l4 : l.length < 20 := v4
      obtain ⟨K, hK⟩ : ∃ K : Nat, (b.length : Int).tmod ((l.length : Int) + 1) = K := ⟨((b.length : Int).tmod ((l.length : Int) + 1)).toNat, by
        have := Int.tmod_nonneg ((l.length : Int) + 1) (show (0 : Int) ≤ b.length by omega); omega⟩
      have hKl : K ≤ l.length := by
        have := Int.tmod_lt_of_pos (b.length : Int) (show (0 : Int) < (l.length : Int) + 1 by omega); omega
      have fit1 : ∀ x : List T, x.length < 20 → (∀ t ∈ x, t ∈ l) → (T.mk 5 0 ⟨#[]⟩ [] x).fit 1000000 := fun x hx hm => rowT_fit (by omega) (by unfold lenB; omega) (fitL_of fun t ht => fitL_mem (T.fit_list v1).2 t (hm t ht))
      have kp1 := cut_take hKl
      have kp2 := cut_drop hKl
      have op : okT (.mk 5 0 ⟨#[]⟩ [] (l.take K)) := okT_row_sub o1 (List.take_sublist _ _)
      have oq : okT (.mk 5 0 ⟨#[]⟩ [] (l.drop K)) := okT_row_sub o1 (List.drop_sublist _ _)
      have ob := back_ok o1
      have obp := back_ok op
      have obq := back_ok oq
      have e0 := backT_row o1
      have e1 := backT_row op
      have e2 := backT_row oq
      have t1 := toldT_ok op
      have t2 := toldT_ok oq
      have t3 := toldT_ok ob
      have cat : (l.drop K).reverse ++ (l.take K).reverse = l.reverse := by rw [← List.reverse_append, List.take_append_drop]
      have m1 := leastT_row o1
      have m2 := leastT_row ob
      rw [sort_rev] at m2
      have y1 : ((sortC cmpT l).headD T.zero).fit 140737488355328 := head_fit (T.fit_list v2).2
      generalize (sortC cmpT l).headD T.zero = y at *
      have n1 : leastOk (.mk 5 0 ⟨#[]⟩ [] l) = True := eq_true (leastOk_row.2 o1)
      have n2 : leastOk (.mk 5 0 ⟨#[]⟩ [] l.reverse) = True := eq_true (leastOk_row.2 ob)
      have r1 : rowT (T.mk 5 0 ⟨#[]⟩ [] (l.take K)) = True := eq_true (rowT_row.2 op)
      have r2 : rowT (T.mk 5 0 ⟨#[]⟩ [] (l.drop K)) = True := eq_true (rowT_row.2 oq)
      have op' := eq_true op
      have oq' := eq_true oq
      have ob' := eq_true ob
      have F1 := fit1 (l.take K) (by rw [List.length_take]; omega) (fun t ht => List.mem_of_mem_take ht)
      have F2 := fit1 (l.drop K) (by rw [List.length_drop]; omega) (fun t ht => List.mem_of_mem_drop ht)
      have F3 := fit1 (l.take K).reverse (by rw [List.length_reverse, List.length_take]; omega) (fun t ht => List.mem_of_mem_take (by simpa using ht))
      have F4 := fit1 (l.drop K).reverse (by rw [List.length_reverse, List.length_drop]; omega) (fun t ht => List.mem_of_mem_drop (by simpa using ht))
      have F5 := fit1 l.reverse (by rw [List.length_reverse]; omega) (fun t ht => by simpa using ht)
      have F6 := T.fit_mono (B := 140737488355328) (by decide) F5
      have l5 : (T.mk 5 0 ⟨#[]⟩ [] l.reverse).list.length < 20 := by simp only [T.list, List.length_reverse]; omega
      have f2 := T.enc_len (.mk 5 0 ⟨#[]⟩ [] l.reverse)
      have f4 := T.enc_len (.mk 5 0 ⟨#[]⟩ [] (l.take K))
      have f5 := T.enc_len (.mk 5 0 ⟨#[]⟩ [] (l.drop K))
      have f6 := T.enc_len (.mk 5 0 ⟨#[]⟩ [] (l.take K).reverse)
      have f7 := T.enc_len (.mk 5 0 ⟨#[]⟩ [] (l.drop K).reverse)
      have f8 := T.enc_len y
      simp only [rg, seval, argsB, PV.toDB, Q.toCB, allCB, callB, flatP, flatC, flatS, List.all_nil, List.all_cons, svL, svP, addR, agQ, agR, pid, nodupN, List.contains_nil, List.contains_cons, finG, gIds, idsR, oneI, agI, gOk, oneOk, ptOk, notIn, List.filter_nil, List.filter_cons, pw_mix, ↓runH, ↓one, ↓effC, effR, Updr.app, putO, updL, St.kil, kilQ, kilP, kilL, invC, opKil, excOf, invT, invB, plT, plA, rcOf, wrU, kilI, memK, PV.ids, disj, pairOk, okPast, setP, invU, outB, PV.pl, Q.pl, plL, plL_map, List.all_nil, List.all_cons, List.getD_cons_zero, Prod.fst, List.nil_append, id_eq, List.map_id, Nat.reduceMul, allCB_map, PV.rowB, BASE, ltB, List.isEmpty_nil, delL, St.delO, or_true, List.mem_singleton, f1, f2, f4, f5, f6, f7, f8, e0, e1, e2, t1, t2, t3, c', m1, m2, n1, n2, r1, r2, op', oq', ob', hK, kp1, kp2, cat, ints_len, T.enc, T.enc_dropQ, foldT, foldT0, encL_len, spLeastI_md, spLeastI_pre, spLeastI_alts, spLeastI_res, spLeastI_out, spBackI_md, spBackI_pre, spBackI_alts, spBackI_res, spBackI_out, spBack_md, spBack_pre, spBack_alts, spBack_res, spBack_out, spCutI_md, spCutI_pre, spCutI_alts, spCutI_res, spCutI_out, spAddR_md, spAddR_pre, spAddR_alts, spAddR_res, spAddR_out, spSameIV_md, spSameIV_pre, spSameIV_alts, spSameIV_res, spSameIV_out]
      repeat' (first | with_reducible assumption | with_reducible refine And.intro ?_ ?_ | intro _)
      all_goals first | (show _ ≤ (_ : Int); omega) | (show _ < (_ : Int); omega) | (show False; omega) | assumption | skip
    · have e1 := backT_not c
      simp only [rg, seval, argsB, PV.toDB, Q.toCB, allCB, callB, flatP, flatC, flatS, List.all_nil, List.all_cons, svL, svP, addR, agQ, agR, pid, nodupN, List.contains_nil, List.contains_cons, finG, gIds, idsR, oneI, agI, gOk, oneOk, ptOk, notIn, List.filter_nil, List.filter_cons, pw_mix, ↓runH, ↓one, ↓effC, effR, Updr.app, putO, updL, St.kil, kilQ, kilP, kilL, invC, opKil, excOf, invT, invB, plT, plA, rcOf, wrU, kilI, memK, PV.ids, disj, pairOk, okPast, setP, invU, outB, PV.pl, Q.pl, plL, plL_map, List.all_nil, List.all_cons, List.getD_cons_zero, Prod.fst, List.nil_append, id_eq, List.map_id, Nat.reduceMul, allCB_map, PV.rowB, BASE, ltB, List.isEmpty_nil, delL, St.delO, or_true, List.mem_singleton, f1, f3, e1, c, spBackI_md, spBackI_pre, spBackI_alts, spBackI_res, spBackI_out, spBack_md, spBack_pre, spBack_alts, spBack_res, spBack_out, spSameIV_md, spSameIV_pre, spSameIV_alts, spSameIV_res, spSameIV_out]
      repeat' (first | with_reducible assumption | with_reducible refine And.intro ?_ ?_ | intro _)
      all_goals first | omega | assumption | exact T.zero_fit | skip
end Go.Proofs.Pw
