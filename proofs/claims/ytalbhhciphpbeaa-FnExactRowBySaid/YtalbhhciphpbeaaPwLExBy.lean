/- FnExactRowBy: the law, run. Printed by mkex.py. -/
import Derived.Test.YtalbhhciphpbeaaPwD
import Derived.Test.YtalbhhciphpbeaaPwSz
import Derived.Test.YtalbhhciphpbeaaPwEq
import Derived.Test.YtalbhhciphpbeaaPwMk
import Derived.Test.YtalbhhciphpbeaaPwPlMk2
import Derived.Test.YtalbhhciphpbeaaPwToX
import Derived.Test.YtalbhhciphpbeaaPwXMk
import Derived.Test.YtalbhhciphpbeaaPwXBy
set_option linter.unusedSimpArgs false
set_option linter.unusedVariables false
set_option linter.unusedSimpArgs false
set_option maxRecDepth 20000
namespace Go.Proofs.Pw
set_option linter.unusedSectionVars false
variable [Globs]
def x_law : X := (.seq (.reg [⟨some 2, none, .box (.t 0) (some 5)⟩, ⟨some 4, none, .mv (.k (.c (.bool false)))⟩] none [1, 2]) (.seq (.seq (.reg [⟨some 16, none, .mv (.t 1)⟩, ⟨some 17, none, .len (.t 16) true⟩, ⟨some 18, none, .bin false .gtr (.t 17) (.k (.c (.int .i64 1048576)))⟩] none [1, 2, 18]) (.cond (.t 18) (.seq (.reg [⟨some 4, none, .mv (.k (.c (.bool true)))⟩] none [4]) .ret) .skip)) (.seq (.reg [⟨some 5, none, .mv (.k (.c (.int .i64 1048576)))⟩] none [1, 2, 5]) (.seq (.reg [⟨some 19, none, .load (.t 2) (some 5)⟩, ⟨some 20, none, .mv (.t 5)⟩, ⟨some 21, none, .call 7 [(.t 19), (.t 20)]⟩, ⟨some 5, none, .mv (.t 21)⟩] none [1, 2, 5]) (.seq (.seq (.reg [⟨some 22, none, .mv (.t 5)⟩, ⟨some 23, none, .bin false .lss (.t 22) (.k (.c (.int .i64 0)))⟩] none [1, 2, 23]) (.cond (.t 23) (.seq (.reg [⟨some 4, none, .mv (.k (.c (.bool true)))⟩] none [4]) .ret) .skip)) (.seq (.reg [⟨some 25, none, .load (.t 2) (some 5)⟩, ⟨some 26, none, .call 9 [(.t 25)]⟩, ⟨some 27, none, .mv (.t 1)⟩, ⟨some 28, none, .call 18 [(.t 26), (.t 27)]⟩, ⟨some 24, none, .mv (.t 28)⟩, ⟨some 29, none, .ext (.t 24) 0⟩, ⟨some 30, none, .ext (.t 24) 1⟩, ⟨some 6, none, .alloc [(.c (.int .i64 0)), (.c (.int .i64 0)), (.c (.str ⟨#[]⟩)), (.z 1), (.z 5)]⟩, ⟨none, none, .st (.t 6) (.t 29) (some 5)⟩, ⟨some 7, none, .mv (.t 30)⟩] none [1, 2, 6, 7]) (.seq (.reg [⟨some 31, none, .load (.t 2) (some 5)⟩, ⟨some 32, none, .call 9 [(.t 31)]⟩, ⟨some 8, none, .alloc [(.c (.int .i64 0)), (.c (.int .i64 0)), (.c (.str ⟨#[]⟩)), (.z 1), (.z 5)]⟩, ⟨none, none, .st (.t 8) (.t 32) (some 5)⟩] none [1, 2, 6, 7, 8]) (.seq (.reg [⟨some 34, none, .load (.t 8) (some 5)⟩, ⟨some 35, none, .mv (.t 1)⟩, ⟨some 36, none, .callx 19 [(.t 34), (.t 35)]⟩, ⟨some 33, none, .mv (.t 36)⟩, ⟨some 37, none, .ext (.t 33) 0⟩, ⟨some 38, none, .ext (.t 33) 1⟩, ⟨some 9, none, .alloc [(.c (.int .i64 0)), (.c (.int .i64 0)), (.c (.str ⟨#[]⟩)), (.z 1), (.z 5)]⟩, ⟨none, none, .st (.t 9) (.t 37) (some 5)⟩, ⟨some 10, none, .mv (.t 38)⟩] none [1, 2, 6, 7, 8, 9, 10]) (.seq (.seq (.reg [⟨some 39, none, .load (.t 9) (some 5)⟩, ⟨some 40, none, .load (.t 6) (some 5)⟩, ⟨some 41, none, .callb 11 [(.t 39), (.t 40)]⟩, ⟨some 42, none, .not (.t 41)⟩, ⟨some 43, none, .mv (.t 42)⟩, ⟨some 44, some (43, false), .mv (.t 10)⟩, ⟨some 45, some (43, false), .mv (.t 7)⟩, ⟨some 46, some (43, false), .bin true .neq (.t 44) (.t 45)⟩, ⟨some 47, none, .pick (.t 43) (.k (.c (.bool true))) (.t 46)⟩] none [1, 2, 6, 7, 8, 9, 10, 47]) (.cond (.t 47) (.seq (.reg [⟨some 4, none, .mv (.k (.c (.bool false)))⟩] none [4]) .ret) .skip)) (.seq (.seq (.reg [⟨some 48, none, .load (.t 8) (some 5)⟩, ⟨some 49, none, .load (.t 2) (some 5)⟩, ⟨some 50, none, .callw 9 [(.t 49)]⟩, ⟨some 51, none, .callb 11 [(.t 48), (.t 50)]⟩, ⟨some 52, none, .not (.t 51)⟩] (some 3) [1, 2, 6, 7, 8, 9, 10, 52]) (.cond (.t 52) (.seq (.reg [⟨some 4, none, .mv (.k (.c (.bool false)))⟩] none [4]) .ret) .skip)) (.seq (.reg [⟨some 11, none, .mv (.k (.c (.int .i64 1)))⟩] none [1, 2, 6, 7, 8, 9, 10, 11]) (.seq (.reg [⟨some 53, none, .load (.t 8) (some 5)⟩, ⟨some 54, none, .mv (.t 11)⟩, ⟨some 55, none, .callm 12 (.t 53) (.t 54)⟩, ⟨some 11, none, .mv (.t 55)⟩] none [1, 2, 6, 7, 9, 10, 11]) (.seq (.seq (.reg [⟨some 56, none, .mv (.t 11)⟩, ⟨some 57, none, .bin false .lss (.t 56) (.k (.c (.int .i64 0)))⟩, ⟨some 58, none, .mv (.t 57)⟩, ⟨some 59, some (58, false), .load (.t 9) (some 5)⟩, ⟨some 60, some (58, false), .load (.t 6) (some 5)⟩, ⟨some 61, some (58, false), .callb 11 [(.t 59), (.t 60)]⟩, ⟨some 62, some (58, false), .not (.t 61)⟩, ⟨some 63, none, .pick (.t 58) (.k (.c (.bool true))) (.t 62)⟩, ⟨some 64, none, .mv (.t 63)⟩, ⟨some 65, some (64, false), .mv (.t 10)⟩, ⟨some 66, some (64, false), .mv (.t 7)⟩, ⟨some 67, some (64, false), .bin true .neq (.t 65) (.t 66)⟩, ⟨some 68, none, .pick (.t 64) (.k (.c (.bool true))) (.t 67)⟩] none [1, 2, 6, 7, 9, 68]) (.cond (.t 68) (.seq (.reg [⟨some 4, none, .mv (.k (.c (.bool false)))⟩] none [4]) .ret) .skip)) (.seq (.reg [⟨some 12, none, .mv (.k (.c (.int .i64 1)))⟩] none [1, 2, 6, 7, 9, 12]) (.seq (.reg [⟨some 69, none, .load (.t 9) (some 5)⟩, ⟨some 70, none, .mv (.t 12)⟩, ⟨some 71, none, .callm 12 (.t 69) (.t 70)⟩, ⟨some 12, none, .mv (.t 71)⟩] none [1, 2, 6, 7, 9, 12]) (.seq (.reg [⟨some 13, none, .mv (.k (.c (.int .i64 1)))⟩] none [1, 2, 6, 7, 9, 12, 13]) (.seq (.reg [⟨some 72, none, .load (.t 9) (some 5)⟩, ⟨some 73, none, .mv (.t 13)⟩, ⟨some 74, none, .callb 13 [(.t 72), (.t 73)]⟩, ⟨some 13, none, .mv (.t 74)⟩] none [1, 2, 6, 7, 9, 12, 13]) (.seq (.seq (.reg [⟨some 75, none, .mv (.t 13)⟩, ⟨some 76, none, .bin false .lss (.t 75) (.k (.c (.int .i64 0)))⟩] none [1, 2, 6, 7, 9, 12, 13, 76]) (.cond (.t 76) (.seq (.reg [⟨some 4, none, .mv (.k (.c (.bool false)))⟩] none [4]) .ret) .skip)) (.seq (.seq (.reg [⟨some 77, none, .mv (.t 13)⟩, ⟨some 78, none, .mv (.t 12)⟩, ⟨some 79, none, .bin false .neq (.t 77) (.t 78)⟩] none [1, 2, 6, 7, 9, 12, 79]) (.cond (.t 79) (.seq (.reg [⟨some 4, none, .mv (.k (.c (.bool false)))⟩] none [4]) .ret) .skip)) (.seq (.reg [⟨some 81, none, .load (.t 2) (some 5)⟩, ⟨some 82, none, .call 9 [(.t 81)]⟩, ⟨some 83, none, .mv (.t 1)⟩, ⟨some 84, none, .call 19 [(.t 82), (.t 83)]⟩, ⟨some 80, none, .mv (.t 84)⟩, ⟨some 85, none, .ext (.t 80) 0⟩, ⟨some 86, none, .ext (.t 80) 1⟩, ⟨some 14, none, .alloc [(.c (.int .i64 0)), (.c (.int .i64 0)), (.c (.str ⟨#[]⟩)), (.z 1), (.z 5)]⟩, ⟨none, none, .st (.t 14) (.t 85) (some 5)⟩, ⟨some 15, none, .mv (.t 86)⟩] none [6, 7, 9, 12, 14, 15]) (.seq (.seq (.reg [⟨some 87, none, .load (.t 14) (some 5)⟩, ⟨some 88, none, .load (.t 6) (some 5)⟩, ⟨some 89, none, .callb 11 [(.t 87), (.t 88)]⟩, ⟨some 90, none, .not (.t 89)⟩, ⟨some 91, none, .mv (.t 90)⟩, ⟨some 92, some (91, false), .mv (.t 15)⟩, ⟨some 93, some (91, false), .mv (.t 7)⟩, ⟨some 94, some (91, false), .bin true .neq (.t 92) (.t 93)⟩, ⟨some 95, none, .pick (.t 91) (.k (.c (.bool true))) (.t 94)⟩] none [9, 12, 95]) (.cond (.t 95) (.seq (.reg [⟨some 4, none, .mv (.k (.c (.bool false)))⟩] none [4]) .ret) .skip)) (.seq (.reg [⟨some 13, none, .mv (.k (.c (.int .i64 1)))⟩] none [9, 12, 13]) (.seq (.reg [⟨some 96, none, .load (.t 9) (some 5)⟩, ⟨some 97, none, .mv (.t 13)⟩, ⟨some 98, none, .callb 13 [(.t 96), (.t 97)]⟩, ⟨some 13, none, .mv (.t 98)⟩] none [12, 13]) (.seq (.seq (.reg [⟨some 99, none, .mv (.t 13)⟩, ⟨some 100, none, .bin false .lss (.t 99) (.k (.c (.int .i64 0)))⟩] none [12, 13, 100]) (.cond (.t 100) (.seq (.reg [⟨some 4, none, .mv (.k (.c (.bool false)))⟩] none [4]) .ret) .skip)) (.seq (.seq (.reg [⟨some 101, none, .mv (.t 13)⟩, ⟨some 102, none, .mv (.t 12)⟩, ⟨some 103, none, .bin false .neq (.t 101) (.t 102)⟩] none [103]) (.cond (.t 103) (.seq (.reg [⟨some 4, none, .mv (.k (.c (.bool false)))⟩] none [4]) .ret) .skip)) (.seq (.reg [⟨some 4, none, .mv (.k (.c (.bool true)))⟩] none [4]) .ret))))))))))))))))))))))))))
theorem chk_law : chkX Go.Proofs.Try.prog 104 (Go.Proofs.Try.f6.body.getD .skip) x_law = true := by kernel_rfl
theorem rs_law : okRs Go.Proofs.Try.prog Go.Proofs.Try.f6.results.toList [.tmp 4] = true := by kernel_rfl
noncomputable def spLawBy  : Spec := Spec.of (ι := T × ByteArray) [false, false] (fun i => [.d (.agg i.1.enc), .d (.one (.str i.2))]) (fun i => i.1.fit 140737488355328 ∧ lenB 140737488355328 i.2.size) (fun _ => [.d (.one (.bool true))]) (fun _ => [.gone, .gone])
theorem spLawBy_inj : ∀ i j : T × ByteArray, (fun (i : T × ByteArray) => ([.d (.agg i.1.enc), .d (.one (.str i.2))] : List AV)) i = (fun (i : T × ByteArray) => ([.d (.agg i.1.enc), .d (.one (.str i.2))] : List AV)) j → i = j := by
  rintro ⟨a, key⟩ ⟨a', key'⟩ h
  simp only [Prod.mk.injEq]
  simpa [strs_eq, T.enc_eq, encL_eq, F.enc_eq, encF_eq, Tk.enc_eq, encTk_eq, Gn.enc_eq, ints_eq] using h
theorem spLawBy_pre  (a : T) (key : ByteArray) : (spLawBy).pre [.d (.agg a.enc), .d (.one (.str key))] = (a.fit 140737488355328 ∧ lenB 140737488355328 key.size) := Spec.of_pre' spLawBy_inj (a, key)
theorem spLawBy_res  (a : T) (key : ByteArray) : (spLawBy).res [.d (.agg a.enc), .d (.one (.str key))] = [.d (.one (.bool true))] := Spec.of_res spLawBy_inj (a, key)
set_option maxHeartbeats 4000000 in
theorem lawBy_sound : Sound Go.Proofs.Try.prog 6 spLawBy := by
  refine sound_fam (GOK.cons (l := [(9, spToXV), (18, spByG), (19, spByIX), (11, spEqV), (12, spMkV), (13, spHdV)]) call_szVal szV_sound (GOK.cons (l := [(18, spByG), (19, spByIX), (11, spEqV), (12, spMkV), (13, spHdV)]) call_toVal toXV_sound (GOK.cons (l := [(19, spByIX), (11, spEqV), (12, spMkV), (13, spHdV)]) call_RowBy RowByG_sound (GOK.cons (l := [(11, spEqV), (12, spMkV), (13, spHdV)]) call_RowByI RowByIX_sound (GOK.cons (l := [(12, spMkV), (13, spHdV)]) call_eqVal eqV_sound (GOK.cons (l := [(13, spHdV)]) call_markVal mkV_sound (GOK.cons call_heldVal hdV_sound GOK.nil))))))) Go.Proofs.Try.func6 (c := Go.Proofs.Try.f6.body.getD .skip) rfl (n := 104) rfl chk_law rs_law (fun _ => by simp) ?_ ?_
  · exact spLawBy_inj
  · rintro ⟨a, key⟩ ⟨h1, hk⟩
    simp only at h1 hk
    have fa := T.enc_len a
    by_cases c0 : (1048576 : Int) < (key.size : Int)
    · have c0' : ((1048576 : Int) < (key.size : Int)) = True := eq_true c0
      simp only [x_law, go_sem, seval, Prod.fst, rg, fa, c0']
      repeat' (first | with_reducible assumption | with_reducible refine And.intro ?_ ?_ | intro _)
      all_goals first | omega | assumption | skip
    have c0' : ((1048576 : Int) < (key.size : Int)) = False := eq_false c0
    have s1 := szT_le (t := a) (left := 1048576) (by omega)
    by_cases c1 : szT a 1048576 < 0
    · have c1' : (szT a 1048576 < 0) = True := eq_true c1
      simp only [x_law, go_sem, seval, Prod.fst, rg, fa, c0', c1', spSzV_md, spSzV_pre, spSzV_alts, spSzV_res, spSzV_out]
      repeat' (first | with_reducible assumption | with_reducible refine And.intro ?_ ?_ | intro _)
      all_goals first | omega | assumption | skip
    have c1' : (szT a 1048576 < 0) = False := eq_false c1
    obtain ⟨fa1, za⟩ := szT_fit (t := a) (left := 1048576) (by omega) (by omega) h1 (by omega)
    have na := nmT_sz (t := a) (left := 1048576) (by omega) (by omega)
    have na1 := nmV_le a
    have na2 := nmV_nn a
    have og : okT (byT a key) := byT_ok a key
    have ng := nmV_ok og
    have ng2 := nmV_nn (byT a key)
    have fg := okT_fit og
    have fg1 : (byT a key).fit 1048576 := T.fit_mono (by decide) fg
    have fg2 : (byT a key).fit 140737488355328 := T.fit_mono (by decide) fg
    have fm := mkV_ok og
    have m1 := mkV_mk (byT a key) 1
    have m2 := nmV_mk (byT a key) 1
    have d1 : (1 + nmV a < 0) = False := eq_false (by omega)
    have d2 : (1 + nmV (byT a key) < 0) = False := eq_false (by omega)
    have fg3 := T.enc_len (byT a key)
    have fg4 := T.enc_len (mkV (byT a key) 1)
    have fm1 := T.enc_len (mkV a 1)
    simp only [x_law, go_sem, seval, Prod.fst, rg, fa, fg3, fg4, fm1, c0', c1', d1, d2, m1, m2, agX_out, foldE, foldM, spSzV_md, spSzV_pre, spSzV_alts, spSzV_res, spSzV_out, spToXV_md, spToXV_pre, spToXV_alts, spToXV_res, spToXV_out, spByG_md, spByG_pre, spByG_alts, spByG_res, spByG_out, spByIX_md, spByIX_pre, spByIX_alts, spByIX_res, spByIX_out, spEqV_md, spEqV_pre, spEqV_alts, spEqV_res, spEqV_out, spMkV_md, spMkV_alts, spMkV_preX, spMkV_resX, spMkV_outX, spHdV_md, spHdV_pre, spHdV_alts, spHdV_res, spHdV_out, decide_true, Bool.not_true]
    repeat' (first | with_reducible assumption | with_reducible refine And.intro ?_ ?_ | intro _)
    all_goals first | omega | assumption | skip
end Go.Proofs.Pw
