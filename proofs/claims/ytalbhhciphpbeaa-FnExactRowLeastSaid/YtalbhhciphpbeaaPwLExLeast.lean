/- FnExactRowLeast: the law, run. Printed by mkex.py. -/
import Derived.Test.YtalbhhciphpbeaaPwD
import Derived.Test.YtalbhhciphpbeaaPwSz
import Derived.Test.YtalbhhciphpbeaaPwEq
import Derived.Test.YtalbhhciphpbeaaPwMk
import Derived.Test.YtalbhhciphpbeaaPwPlMk2
import Derived.Test.YtalbhhciphpbeaaPwToX
import Derived.Test.YtalbhhciphpbeaaPwXMk
import Derived.Test.YtalbhhciphpbeaaPwXRow2
set_option linter.unusedSimpArgs false
set_option linter.unusedVariables false
set_option linter.unusedSimpArgs false
set_option maxRecDepth 20000
namespace Go.Proofs.Pw
set_option linter.unusedSectionVars false
variable [Globs]
def x_law : X := (.seq (.reg [⟨some 1, none, .box (.t 0) (some 5)⟩, ⟨some 2, none, .mv (.k (.c (.bool false)))⟩] none [1]) (.seq (.reg [⟨some 3, none, .mv (.k (.c (.int .i64 1048576)))⟩] none [1, 3]) (.seq (.reg [⟨some 14, none, .load (.t 1) (some 5)⟩, ⟨some 15, none, .mv (.t 3)⟩, ⟨some 16, none, .call 7 [(.t 14), (.t 15)]⟩, ⟨some 3, none, .mv (.t 16)⟩] none [1, 3]) (.seq (.seq (.reg [⟨some 17, none, .mv (.t 3)⟩, ⟨some 18, none, .bin false .lss (.t 17) (.k (.c (.int .i64 0)))⟩] none [1, 18]) (.cond (.t 18) (.seq (.reg [⟨some 2, none, .mv (.k (.c (.bool true)))⟩] none [2]) .ret) .skip)) (.seq (.reg [⟨some 20, none, .load (.t 1) (some 5)⟩, ⟨some 21, none, .call 9 [(.t 20)]⟩, ⟨some 22, none, .call 14 [(.t 21)]⟩, ⟨some 19, none, .mv (.t 22)⟩, ⟨some 23, none, .ext (.t 19) 0⟩, ⟨some 24, none, .ext (.t 19) 1⟩, ⟨some 4, none, .alloc [(.c (.int .i64 0)), (.c (.int .i64 0)), (.c (.str ⟨#[]⟩)), (.z 1), (.z 5)]⟩, ⟨none, none, .st (.t 4) (.t 23) (some 5)⟩, ⟨some 5, none, .mv (.t 24)⟩] none [1, 4, 5]) (.seq (.reg [⟨some 25, none, .load (.t 1) (some 5)⟩, ⟨some 26, none, .call 9 [(.t 25)]⟩, ⟨some 6, none, .alloc [(.c (.int .i64 0)), (.c (.int .i64 0)), (.c (.str ⟨#[]⟩)), (.z 1), (.z 5)]⟩, ⟨none, none, .st (.t 6) (.t 26) (some 5)⟩] none [1, 4, 5, 6]) (.seq (.reg [⟨some 28, none, .load (.t 6) (some 5)⟩, ⟨some 29, none, .callx 15 [(.t 28)]⟩, ⟨some 27, none, .mv (.t 29)⟩, ⟨some 30, none, .ext (.t 27) 0⟩, ⟨some 31, none, .ext (.t 27) 1⟩, ⟨some 7, none, .alloc [(.c (.int .i64 0)), (.c (.int .i64 0)), (.c (.str ⟨#[]⟩)), (.z 1), (.z 5)]⟩, ⟨none, none, .st (.t 7) (.t 30) (some 5)⟩, ⟨some 8, none, .mv (.t 31)⟩] none [1, 4, 5, 6, 7, 8]) (.seq (.seq (.reg [⟨some 32, none, .load (.t 7) (some 5)⟩, ⟨some 33, none, .load (.t 4) (some 5)⟩, ⟨some 34, none, .callb 11 [(.t 32), (.t 33)]⟩, ⟨some 35, none, .not (.t 34)⟩, ⟨some 36, none, .mv (.t 35)⟩, ⟨some 37, some (36, false), .mv (.t 8)⟩, ⟨some 38, some (36, false), .mv (.t 5)⟩, ⟨some 39, some (36, false), .bin true .neq (.t 37) (.t 38)⟩, ⟨some 40, none, .pick (.t 36) (.k (.c (.bool true))) (.t 39)⟩] none [1, 4, 5, 6, 7, 8, 40]) (.cond (.t 40) (.seq (.reg [⟨some 2, none, .mv (.k (.c (.bool false)))⟩] none [2]) .ret) .skip)) (.seq (.seq (.reg [⟨some 41, none, .load (.t 6) (some 5)⟩, ⟨some 42, none, .load (.t 1) (some 5)⟩, ⟨some 43, none, .callw 9 [(.t 42)]⟩, ⟨some 44, none, .callb 11 [(.t 41), (.t 43)]⟩, ⟨some 45, none, .not (.t 44)⟩] (some 3) [1, 4, 5, 6, 7, 8, 45]) (.cond (.t 45) (.seq (.reg [⟨some 2, none, .mv (.k (.c (.bool false)))⟩] none [2]) .ret) .skip)) (.seq (.reg [⟨some 9, none, .mv (.k (.c (.int .i64 1)))⟩] none [1, 4, 5, 6, 7, 8, 9]) (.seq (.reg [⟨some 46, none, .load (.t 6) (some 5)⟩, ⟨some 47, none, .mv (.t 9)⟩, ⟨some 48, none, .callm 12 (.t 46) (.t 47)⟩, ⟨some 9, none, .mv (.t 48)⟩] none [1, 4, 5, 7, 8, 9]) (.seq (.seq (.reg [⟨some 49, none, .mv (.t 9)⟩, ⟨some 50, none, .bin false .lss (.t 49) (.k (.c (.int .i64 0)))⟩, ⟨some 51, none, .mv (.t 50)⟩, ⟨some 52, some (51, false), .load (.t 7) (some 5)⟩, ⟨some 53, some (51, false), .load (.t 4) (some 5)⟩, ⟨some 54, some (51, false), .callb 11 [(.t 52), (.t 53)]⟩, ⟨some 55, some (51, false), .not (.t 54)⟩, ⟨some 56, none, .pick (.t 51) (.k (.c (.bool true))) (.t 55)⟩, ⟨some 57, none, .mv (.t 56)⟩, ⟨some 58, some (57, false), .mv (.t 8)⟩, ⟨some 59, some (57, false), .mv (.t 5)⟩, ⟨some 60, some (57, false), .bin true .neq (.t 58) (.t 59)⟩, ⟨some 61, none, .pick (.t 57) (.k (.c (.bool true))) (.t 60)⟩] none [1, 4, 5, 7, 61]) (.cond (.t 61) (.seq (.reg [⟨some 2, none, .mv (.k (.c (.bool false)))⟩] none [2]) .ret) .skip)) (.seq (.reg [⟨some 10, none, .mv (.k (.c (.int .i64 1)))⟩] none [1, 4, 5, 7, 10]) (.seq (.reg [⟨some 62, none, .load (.t 7) (some 5)⟩, ⟨some 63, none, .mv (.t 10)⟩, ⟨some 64, none, .callm 12 (.t 62) (.t 63)⟩, ⟨some 10, none, .mv (.t 64)⟩] none [1, 4, 5, 7, 10]) (.seq (.reg [⟨some 11, none, .mv (.k (.c (.int .i64 1)))⟩] none [1, 4, 5, 7, 10, 11]) (.seq (.reg [⟨some 65, none, .load (.t 7) (some 5)⟩, ⟨some 66, none, .mv (.t 11)⟩, ⟨some 67, none, .callb 13 [(.t 65), (.t 66)]⟩, ⟨some 11, none, .mv (.t 67)⟩] none [1, 4, 5, 7, 10, 11]) (.seq (.seq (.reg [⟨some 68, none, .mv (.t 11)⟩, ⟨some 69, none, .bin false .lss (.t 68) (.k (.c (.int .i64 0)))⟩] none [1, 4, 5, 7, 10, 11, 69]) (.cond (.t 69) (.seq (.reg [⟨some 2, none, .mv (.k (.c (.bool false)))⟩] none [2]) .ret) .skip)) (.seq (.seq (.reg [⟨some 70, none, .mv (.t 11)⟩, ⟨some 71, none, .mv (.t 10)⟩, ⟨some 72, none, .bin false .neq (.t 70) (.t 71)⟩] none [1, 4, 5, 7, 10, 72]) (.cond (.t 72) (.seq (.reg [⟨some 2, none, .mv (.k (.c (.bool false)))⟩] none [2]) .ret) .skip)) (.seq (.reg [⟨some 74, none, .load (.t 1) (some 5)⟩, ⟨some 75, none, .call 9 [(.t 74)]⟩, ⟨some 76, none, .call 15 [(.t 75)]⟩, ⟨some 73, none, .mv (.t 76)⟩, ⟨some 77, none, .ext (.t 73) 0⟩, ⟨some 78, none, .ext (.t 73) 1⟩, ⟨some 12, none, .alloc [(.c (.int .i64 0)), (.c (.int .i64 0)), (.c (.str ⟨#[]⟩)), (.z 1), (.z 5)]⟩, ⟨none, none, .st (.t 12) (.t 77) (some 5)⟩, ⟨some 13, none, .mv (.t 78)⟩] none [4, 5, 7, 10, 12, 13]) (.seq (.seq (.reg [⟨some 79, none, .load (.t 12) (some 5)⟩, ⟨some 80, none, .load (.t 4) (some 5)⟩, ⟨some 81, none, .callb 11 [(.t 79), (.t 80)]⟩, ⟨some 82, none, .not (.t 81)⟩, ⟨some 83, none, .mv (.t 82)⟩, ⟨some 84, some (83, false), .mv (.t 13)⟩, ⟨some 85, some (83, false), .mv (.t 5)⟩, ⟨some 86, some (83, false), .bin true .neq (.t 84) (.t 85)⟩, ⟨some 87, none, .pick (.t 83) (.k (.c (.bool true))) (.t 86)⟩] none [7, 10, 87]) (.cond (.t 87) (.seq (.reg [⟨some 2, none, .mv (.k (.c (.bool false)))⟩] none [2]) .ret) .skip)) (.seq (.reg [⟨some 11, none, .mv (.k (.c (.int .i64 1)))⟩] none [7, 10, 11]) (.seq (.reg [⟨some 88, none, .load (.t 7) (some 5)⟩, ⟨some 89, none, .mv (.t 11)⟩, ⟨some 90, none, .callb 13 [(.t 88), (.t 89)]⟩, ⟨some 11, none, .mv (.t 90)⟩] none [10, 11]) (.seq (.seq (.reg [⟨some 91, none, .mv (.t 11)⟩, ⟨some 92, none, .bin false .lss (.t 91) (.k (.c (.int .i64 0)))⟩] none [10, 11, 92]) (.cond (.t 92) (.seq (.reg [⟨some 2, none, .mv (.k (.c (.bool false)))⟩] none [2]) .ret) .skip)) (.seq (.seq (.reg [⟨some 93, none, .mv (.t 11)⟩, ⟨some 94, none, .mv (.t 10)⟩, ⟨some 95, none, .bin false .neq (.t 93) (.t 94)⟩] none [95]) (.cond (.t 95) (.seq (.reg [⟨some 2, none, .mv (.k (.c (.bool false)))⟩] none [2]) .ret) .skip)) (.seq (.reg [⟨some 2, none, .mv (.k (.c (.bool true)))⟩] none [2]) .ret)))))))))))))))))))))))))
theorem chk_law : chkX Go.Proofs.Try.prog 96 (Go.Proofs.Try.f4.body.getD .skip) x_law = true := by kernel_rfl
theorem rs_law : okRs Go.Proofs.Try.prog Go.Proofs.Try.f4.results.toList [.tmp 2] = true := by kernel_rfl
noncomputable def spLawLeast  : Spec := Spec.of (ι := T) [false] (fun i => [.d (.agg i.enc)]) (fun i => i.fit 140737488355328) (fun _ => [.d (.one (.bool true))]) (fun _ => [.gone])
theorem spLawLeast_inj : ∀ i j : T, (fun (i : T) => ([.d (.agg i.enc)] : List AV)) i = (fun (i : T) => ([.d (.agg i.enc)] : List AV)) j → i = j := by
  intro a a' h
  simpa [strs_eq, T.enc_eq, encL_eq, F.enc_eq, encF_eq, Tk.enc_eq, encTk_eq, Gn.enc_eq, ints_eq] using h
theorem spLawLeast_pre  (a : T) : (spLawLeast).pre [.d (.agg a.enc)] = (a.fit 140737488355328) := Spec.of_pre' spLawLeast_inj a
theorem spLawLeast_res  (a : T) : (spLawLeast).res [.d (.agg a.enc)] = [.d (.one (.bool true))] := Spec.of_res spLawLeast_inj a
set_option maxHeartbeats 4000000 in
theorem lawLeast_sound : Sound Go.Proofs.Try.prog 4 spLawLeast := by
  refine sound_fam (GOK.cons (l := [(9, spToXV), (14, spLeastG), (15, spLeastIX), (11, spEqV), (12, spMkV), (13, spHdV)]) call_szVal szV_sound (GOK.cons (l := [(14, spLeastG), (15, spLeastIX), (11, spEqV), (12, spMkV), (13, spHdV)]) call_toVal toXV_sound (GOK.cons (l := [(15, spLeastIX), (11, spEqV), (12, spMkV), (13, spHdV)]) call_RowLeast RowLeastG_sound (GOK.cons (l := [(11, spEqV), (12, spMkV), (13, spHdV)]) call_RowLeastI RowLeastIX_sound (GOK.cons (l := [(12, spMkV), (13, spHdV)]) call_eqVal eqV_sound (GOK.cons (l := [(13, spHdV)]) call_markVal mkV_sound (GOK.cons call_heldVal hdV_sound GOK.nil))))))) Go.Proofs.Try.func4 (c := Go.Proofs.Try.f4.body.getD .skip) rfl (n := 96) rfl chk_law rs_law (fun _ => by simp) ?_ ?_
  · exact spLawLeast_inj
  · intro a h1
    change a.fit 140737488355328 at h1
    have fa := T.enc_len a
    have s1 := szT_le (t := a) (left := 1048576) (by omega)
    by_cases c1 : szT a 1048576 < 0
    · have c1' : (szT a 1048576 < 0) = True := eq_true c1
      simp only [x_law, go_sem, seval, Prod.fst, rg, fa, c1', spSzV_md, spSzV_pre, spSzV_alts, spSzV_res, spSzV_out]
      repeat' (first | with_reducible assumption | with_reducible refine And.intro ?_ ?_ | intro _)
      all_goals first | omega | assumption | skip
    have c1' : (szT a 1048576 < 0) = False := eq_false c1
    obtain ⟨fa1, za⟩ := szT_fit (t := a) (left := 1048576) (by omega) (by omega) h1 (by omega)
    have na := nmT_sz (t := a) (left := 1048576) (by omega) (by omega)
    have na1 := nmV_le a
    have na2 := nmV_nn a
    have og : okT (leastT a) := leastT_ok a
    have ng := nmV_ok og
    have ng2 := nmV_nn (leastT a)
    have fg := okT_fit og
    have fg1 : (leastT a).fit 1048576 := T.fit_mono (by decide) fg
    have fg2 : (leastT a).fit 140737488355328 := T.fit_mono (by decide) fg
    have fm := mkV_ok og
    have m1 := mkV_mk (leastT a) 1
    have m2 := nmV_mk (leastT a) 1
    have d1 : (1 + nmV a < 0) = False := eq_false (by omega)
    have d2 : (1 + nmV (leastT a) < 0) = False := eq_false (by omega)
    have fg3 := T.enc_len (leastT a)
    have fg4 := T.enc_len (mkV (leastT a) 1)
    have fm1 := T.enc_len (mkV a 1)
    simp only [x_law, go_sem, seval, Prod.fst, rg, fa, fg3, fg4, fm1, c1', d1, d2, m1, m2, agX_out, foldE, foldM, spSzV_md, spSzV_pre, spSzV_alts, spSzV_res, spSzV_out, spToXV_md, spToXV_pre, spToXV_alts, spToXV_res, spToXV_out, spLeastG_md, spLeastG_pre, spLeastG_alts, spLeastG_res, spLeastG_out, spLeastIX_md, spLeastIX_pre, spLeastIX_alts, spLeastIX_res, spLeastIX_out, spEqV_md, spEqV_pre, spEqV_alts, spEqV_res, spEqV_out, spMkV_md, spMkV_alts, spMkV_preX, spMkV_resX, spMkV_outX, spHdV_md, spHdV_pre, spHdV_alts, spHdV_res, spHdV_out, decide_true, Bool.not_true]
    repeat' (first | with_reducible assumption | with_reducible refine And.intro ?_ ?_ | intro _)
    all_goals first | omega | assumption | skip
end Go.Proofs.Pw
