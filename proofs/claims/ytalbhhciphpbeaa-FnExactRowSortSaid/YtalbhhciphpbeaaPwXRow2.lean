/- Rows in order: both programs. -/
import Derived.Test.YtalbhhciphpbeaaPwXRow
set_option linter.unusedSimpArgs false
set_option linter.unusedVariables false
set_option linter.unusedSimpArgs false
set_option maxRecDepth 20000
namespace Go.Proofs.Pw
set_option linter.unusedSectionVars false
variable [Globs]
noncomputable def sortT (v : T) : T := if rowT v then .mk 5 0 ⟨#[]⟩ [] (sortC cmpT v.list) else T.zero
theorem sortT_row {l : List T} (h : okT (.mk 5 0 ⟨#[]⟩ [] l)) : sortT (.mk 5 0 ⟨#[]⟩ [] l) = .mk 5 0 ⟨#[]⟩ [] (sortC cmpT l) := if_pos (rowT_row.2 h)
theorem sortT_not {v : T} (h : ¬ rowT v) : sortT v = T.zero := if_neg h
theorem sort_ok {l : List T} (h : okT (.mk 5 0 ⟨#[]⟩ [] l)) : okT (.mk 5 0 ⟨#[]⟩ [] (sortC cmpT l)) := okT_row_perm h (sortC_perm cmpT_is l)
theorem sortT_ok (v : T) : okT (sortT v) := by
  by_cases c : rowT v
  · obtain ⟨l, rfl⟩ : ∃ l, v = .mk 5 0 ⟨#[]⟩ [] l := ⟨_, rowT_is c⟩
    rw [sortT_row c.1]; exact sort_ok c.1
  · rw [sortT_not c]; exact okT_zero
def x_RowSortI : X := (.seq (.reg [⟨some 1, none, .box (.t 0) (some 5)⟩, ⟨some 2, none, .alloc [(.c (.int .i64 0)), (.c (.int .i64 0)), (.c (.str ⟨#[]⟩)), (.z 1), (.z 5)]⟩, ⟨some 3, none, .mv (.k (.c (.bool false)))⟩] none [1, 2]) (.seq (.seq (.reg [⟨some 4, none, .load (.t 1) (some 5)⟩, ⟨some 5, none, .call 28 [(.t 4)]⟩, ⟨some 6, none, .not (.t 5)⟩] none [1, 2, 6]) (.cond (.t 6) (.seq (.reg [⟨some 7, none, .build [(.c (.int .i64 0)), (.c (.int .i64 0)), (.c (.str ⟨#[]⟩)), (.z 1), (.z 5)] []⟩, ⟨none, none, .st (.t 2) (.t 7) (some 5)⟩, ⟨some 3, none, .mv (.k (.c (.bool false)))⟩] none [2, 3]) .ret) .skip)) (.seq (.reg [⟨some 8, none, .fa (.t 1) 4⟩, ⟨some 9, none, .load (.t 8) none⟩, ⟨some 10, none, .call 31 [(.t 9)]⟩, ⟨some 11, none, .call 30 [(.t 10)]⟩, ⟨some 12, none, .call 29 [(.t 11), (.k (.c (.bool true)))]⟩, ⟨some 13, none, .ext (.t 12) 0⟩, ⟨some 14, none, .ext (.t 12) 1⟩, ⟨none, none, .st (.t 2) (.t 13) (some 5)⟩, ⟨some 3, none, .mv (.t 14)⟩] none [2, 3]) .ret)))
theorem chk_RowSortI : chkX Go.Proofs.Try.prog 15 (Go.Proofs.Try.f10.body.getD .skip) x_RowSortI = true := by kernel_rfl
theorem rs_RowSortI : okRs Go.Proofs.Try.prog Go.Proofs.Try.f10.results.toList [.cell 2 (some 5), .tmp 3] = true := by kernel_rfl
theorem call_RowSortI : okCallee Go.Proofs.Try.prog 10 = true := by kernel_rfl
def x_RowSort : X := (.seq (.reg [⟨some 1, none, .box (.t 0) (some 5)⟩, ⟨some 2, none, .alloc [(.c (.int .i64 0)), (.c (.int .i64 0)), (.c (.str ⟨#[]⟩)), (.z 1), (.z 5)]⟩, ⟨some 3, none, .mv (.k (.c (.bool false)))⟩] none [1, 2]) (.seq (.seq (.reg [⟨some 4, none, .load (.t 1) (some 5)⟩, ⟨some 5, none, .call 22 [(.t 4)]⟩, ⟨some 6, none, .not (.t 5)⟩] none [1, 2, 6]) (.cond (.t 6) (.seq (.reg [⟨some 7, none, .build [(.c (.int .i64 0)), (.c (.int .i64 0)), (.c (.str ⟨#[]⟩)), (.z 1), (.z 5)] []⟩, ⟨none, none, .st (.t 2) (.t 7) (some 5)⟩, ⟨some 3, none, .mv (.k (.c (.bool false)))⟩] none [2, 3]) .ret) .skip)) (.seq (.reg [⟨some 8, none, .fa (.t 1) 4⟩, ⟨some 9, none, .load (.t 8) none⟩, ⟨some 10, none, .call 25 [(.t 9)]⟩, ⟨some 11, none, .call 24 [(.t 10)]⟩, ⟨some 12, none, .call 23 [(.t 11)]⟩, ⟨some 13, none, .ext (.t 12) 0⟩, ⟨some 14, none, .ext (.t 12) 1⟩, ⟨none, none, .st (.t 2) (.t 13) (some 5)⟩, ⟨some 3, none, .mv (.t 14)⟩] none [2, 3]) .ret)))
theorem chk_RowSort : chkX Go.Proofs.Try.prog 15 (Go.Proofs.Try.f8.body.getD .skip) x_RowSort = true := by kernel_rfl
theorem rs_RowSort : okRs Go.Proofs.Try.prog Go.Proofs.Try.f8.results.toList [.cell 2 (some 5), .tmp 3] = true := by kernel_rfl
theorem call_RowSort : okCallee Go.Proofs.Try.prog 8 = true := by kernel_rfl
noncomputable def spSortIX  : Spec := Spec.of (ι := T) [false] (fun i => [.d (.agg i.enc)]) (fun i => i.fit 140737488355328) (fun i => [.ag (agX (sortT i)), .d (.one (.bool (decide (rowT i))))]) (fun _ => [.gone])
theorem spSortIX_inj : ∀ i j : T, (fun (i : T) => ([.d (.agg i.enc)] : List AV)) i = (fun (i : T) => ([.d (.agg i.enc)] : List AV)) j → i = j := by
  intro v v' h
  simpa [strs_eq, T.enc_eq, encL_eq, F.enc_eq, encF_eq, Tk.enc_eq, encTk_eq, Gn.enc_eq, ints_eq] using h
theorem spSortIX_md  : (spSortIX).md = [false] := rfl
theorem spSortIX_pre  (v : T) : (spSortIX).pre [.d (.agg v.enc)] = (v.fit 140737488355328) := Spec.of_pre' spSortIX_inj v
theorem spSortIX_alts  : (spSortIX).alts = none := rfl
theorem spSortIX_res  (v : T) : (spSortIX).res [.d (.agg v.enc)] = [.ag (agX (sortT v)), .d (.one (.bool (decide (rowT v))))] := Spec.of_res spSortIX_inj v
theorem spSortIX_out  (v : T) : (spSortIX).out [.d (.agg v.enc)] = [.gone] := Spec.of_out spSortIX_inj v
theorem RowSortIX_sound : Sound Go.Proofs.Try.prog 10 spSortIX := by
  refine sound_fam (GOK.cons (l := [(31, spOrderedG), (30, spRow), (29, spToldX)]) call_isRow isRow_sound (GOK.cons call_ordered orderedG_sound (GOK.cons call_row row_sound (GOK.cons call_told toldX_sound GOK.nil)))) Go.Proofs.Try.func10 (c := Go.Proofs.Try.f10.body.getD .skip) rfl (n := 15) rfl chk_RowSortI rs_RowSortI (fun _ => by simp) ?_ ?_
  · exact spSortIX_inj
  · rintro v hv
    change v.fit 140737488355328 at hv
    have f3 := T.enc_len v
    by_cases c : rowT v
    · have h2 := row_len c
      have h1 : v.fit 1000000 := T.fit_mono (by decide) (okT_fit c.1)
      obtain ⟨l, rfl⟩ : ∃ l, v = .mk 5 0 ⟨#[]⟩ [] l := ⟨_, rowT_is c⟩
      have o1 := c.1
      have e1 := sortT_row o1
      have o2 := sort_ok o1
      have e2 := toldT_ok o2
      have l2 : l.length < 100 := h2
      have g1 := (T.fit_list hv).2
      have g3 : (sortC cmpT l).length = l.length := (sortC_perm cmpT_is l).length_eq
      have g4 : (T.mk 5 0 ⟨#[]⟩ [] (sortC cmpT l)).fit 2000000 := T.fit_mono (by decide) (okT_fit o2)
      have f4 := T.enc_len (.mk 5 0 ⟨#[]⟩ [] (sortC cmpT l))
      simp only [x_RowSortI, agX_out, strs_e, encLX_e, Bool.false_or, Bool.or_true, Bool.not_true, Bool.false_eq_true, rg, go_sem, seval, Prod.fst, T.enc, foldT, foldT0, e1, e2, c, o2, f4, encL_len, spIsRow_md, spIsRow_pre, spIsRow_alts, spIsRow_res, spIsRow_out, spOrderedG_md, spOrderedG_pre, spOrderedG_alts, spOrderedG_res, spOrderedG_out, spRow_md, spRow_pre, spRow_alts, spRow_res, spRow_out, spToldX_md, spToldX_pre, spToldX_alts, spToldX_res, spToldX_out]
      repeat' (first | with_reducible assumption | with_reducible refine And.intro ?_ ?_ | intro _)
      all_goals first | omega | assumption | (unfold lenB; omega) | skip
    · have e1 := sortT_not c
      simp only [x_RowSortI, agX_out, zk, zn, zs, zks, zl, strs_e, encLX_e, Bool.false_or, Bool.or_true, Bool.not_true, Bool.false_eq_true, rg, go_sem, seval, Prod.fst, f3, e1, c, spIsRow_md, spIsRow_pre, spIsRow_alts, spIsRow_res, spIsRow_out]
      repeat' (first | with_reducible assumption | with_reducible refine And.intro ?_ ?_ | intro _)
      all_goals first | omega | assumption | exact T.zero_enc | skip
noncomputable def spSortG  : Spec := Spec.of (ι := T) [false] (fun i => [.d (.agg i.enc)]) (fun i => i.fit 140737488355328 ∧ sizeT i ≤ 1048577) (fun i => [.d (.agg (sortT i).enc), .d (.one (.bool (decide (rowT i))))]) (fun _ => [.gone])
theorem spSortG_inj : ∀ i j : T, (fun (i : T) => ([.d (.agg i.enc)] : List AV)) i = (fun (i : T) => ([.d (.agg i.enc)] : List AV)) j → i = j := by
  intro v v' h
  simpa [strs_eq, T.enc_eq, encL_eq, F.enc_eq, encF_eq, Tk.enc_eq, encTk_eq, Gn.enc_eq, ints_eq] using h
theorem spSortG_md  : (spSortG).md = [false] := rfl
theorem spSortG_pre  (v : T) : (spSortG).pre [.d (.agg v.enc)] = (v.fit 140737488355328 ∧ sizeT v ≤ 1048577) := Spec.of_pre' spSortG_inj v
theorem spSortG_alts  : (spSortG).alts = none := rfl
theorem spSortG_res  (v : T) : (spSortG).res [.d (.agg v.enc)] = [.d (.agg (sortT v).enc), .d (.one (.bool (decide (rowT v))))] := Spec.of_res spSortG_inj v
theorem spSortG_out  (v : T) : (spSortG).out [.d (.agg v.enc)] = [.gone] := Spec.of_out spSortG_inj v
theorem RowSortG_sound : Sound Go.Proofs.Try.prog 8 spSortG := by
  refine sound_fam (GOK.cons (l := [(24, spL4Of), (25, spL4Sort), (23, spL2Told)]) call_l4Row l4Row_sound (GOK.cons call_l4Of l4Of_sound (GOK.cons call_l4Sort l4Sort_sound (GOK.cons call_l2Told l2Told_sound GOK.nil)))) Go.Proofs.Try.func8 (c := Go.Proofs.Try.f8.body.getD .skip) rfl (n := 15) rfl chk_RowSort rs_RowSort (fun _ => by simp) ?_ ?_
  · exact spSortG_inj
  · rintro v ⟨hv, hz⟩
    replace hv : v.fit 140737488355328 := hv
    replace hz : sizeT v ≤ 1048577 := hz
    have f3 := T.enc_len v
    by_cases c : rowT v
    · have h2 := row_len c
      obtain ⟨l, rfl⟩ : ∃ l, v = .mk 5 0 ⟨#[]⟩ [] l := ⟨_, rowT_is c⟩
      have o1 := c.1
      have e1 := sortT_row o1
      have o2 := sort_ok o1
      have e2 := toldT_ok o2
      have l2 : l.length < 100 := h2
      have g1 := (T.fit_list hv).2
      have g3 : (sortC cmpT l).length = l.length := (sortC_perm cmpT_is l).length_eq
      have g4 : (T.mk 5 0 ⟨#[]⟩ [] (sortC cmpT l)).fit 2000000 := T.fit_mono (by decide) (okT_fit o2)
      have g5 := okT_size o2
      have g6 : sizeT (T.mk 5 0 ⟨#[]⟩ [] (sortC cmpT l)) ≤ 1048577 := by omega
      have f4 := T.enc_len (.mk 5 0 ⟨#[]⟩ [] (sortC cmpT l))
      simp only [x_RowSort, rg, go_sem, seval, T.enc, foldT, foldT0, e1, e2, c, o2, f4, encL_len, spL4Row_md, spL4Row_pre, spL4Row_alts, spL4Row_res, spL4Row_out, spL4Sort_md, spL4Sort_pre, spL4Sort_alts, spL4Sort_res, spL4Sort_out, spL4Of_md, spL4Of_pre, spL4Of_alts, spL4Of_res, spL4Of_out, spL2Told_md, spL2Told_pre, spL2Told_alts, spL2Told_res, spL2Told_out]
      repeat' (first | with_reducible assumption | with_reducible refine And.intro ?_ ?_ | intro _)
      all_goals first | omega | assumption | (unfold lenB; omega) | skip
    · have e1 := sortT_not c
      simp only [x_RowSort, rg, go_sem, seval, f3, e1, c, spL4Row_md, spL4Row_pre, spL4Row_alts, spL4Row_res, spL4Row_out]
      repeat' (first | with_reducible assumption | with_reducible refine And.intro ?_ ?_ | intro _)
      all_goals first | omega | assumption | exact T.zero_enc | skip
end Go.Proofs.Pw
