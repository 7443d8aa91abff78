/- FnExactPartAdd: the law, run. -/
import Derived.Test.YtdnbniggdebegaaPwD
import Derived.Test.YtdnbniggdebegaaPwSz
import Derived.Test.YtdnbniggdebegaaPwEq
import Derived.Test.YtdnbniggdebegaaPwMk
import Derived.Test.YtdnbniggdebegaaPwPlMk2
import Derived.Test.YtdnbniggdebegaaPwToX
import Derived.Test.YtdnbniggdebegaaPwXAd
import Derived.Test.YtdnbniggdebegaaPwXMk
import Derived.Test.YtdnbniggdebegaaPwAd2
set_option linter.unusedSimpArgs false
set_option linter.unusedVariables false
set_option linter.unusedSimpArgs false
set_option maxRecDepth 20000
namespace Go.Proofs.Pw
set_option linter.unusedSectionVars false
variable [Globs]
def x_law : X := (.seq (.reg [⟨some 2, none, .box (.t 0) (some 5)⟩, ⟨some 3, none, .box (.t 1) (some 5)⟩, ⟨some 4, none, .mv (.k (.c (.bool false)))⟩] none [2, 3]) (.seq (.reg [⟨some 5, none, .mv (.k (.c (.int .i64 1048576)))⟩] none [2, 3, 5]) (.seq (.reg [⟨some 17, none, .load (.t 2) (some 5)⟩, ⟨some 18, none, .mv (.t 5)⟩, ⟨some 19, none, .call 5 [(.t 17), (.t 18)]⟩, ⟨some 5, none, .mv (.t 19)⟩] none [2, 3, 5]) (.seq (.seq (.reg [⟨some 20, none, .mv (.t 5)⟩, ⟨some 21, none, .bin false .lss (.t 20) (.k (.c (.int .i64 0)))⟩] none [2, 3, 5, 21]) (.cond (.t 21) (.seq (.reg [⟨some 4, none, .mv (.k (.c (.bool true)))⟩] none [4]) .ret) .skip)) (.seq (.reg [⟨some 22, none, .load (.t 3) (some 5)⟩, ⟨some 23, none, .mv (.t 5)⟩, ⟨some 24, none, .call 5 [(.t 22), (.t 23)]⟩, ⟨some 5, none, .mv (.t 24)⟩] none [2, 3, 5]) (.seq (.seq (.reg [⟨some 25, none, .mv (.t 5)⟩, ⟨some 26, none, .bin false .lss (.t 25) (.k (.c (.int .i64 0)))⟩] none [2, 3, 26]) (.cond (.t 26) (.seq (.reg [⟨some 4, none, .mv (.k (.c (.bool true)))⟩] none [4]) .ret) .skip)) (.seq (.mix [⟨some 28, none, .load (.t 2) (some 5)⟩, ⟨some 29, none, .callw 7 [(.t 28)]⟩, ⟨some 30, none, .load (.t 3) (some 5)⟩, ⟨some 31, none, .callw 7 [(.t 30)]⟩, ⟨some 32, none, .call 6 [(.t 29), (.t 31)]⟩, ⟨some 27, none, .mv (.t 32)⟩, ⟨some 33, none, .ext (.t 27) 0⟩, ⟨some 34, none, .ext (.t 27) 1⟩, ⟨some 6, none, .alloc [(.c (.int .i64 0)), (.c (.int .i64 0)), (.c (.str ⟨#[]⟩)), (.z 1), (.z 5)]⟩, ⟨none, none, .st (.t 6) (.t 33) (some 5)⟩] [⟨some 7, none, .mv (.t 34)⟩] [[], [], [], [], [], [], [], [], [0, 1, 2, 3, 5, 6, 7], []] [2, 3, 6, 7]) (.seq (.reg [⟨some 35, none, .load (.t 2) (some 5)⟩, ⟨some 36, none, .call 7 [(.t 35)]⟩, ⟨some 8, none, .alloc [(.c (.int .i64 0)), (.c (.int .i64 0)), (.c (.str ⟨#[]⟩)), (.z 1), (.z 5)]⟩, ⟨none, none, .st (.t 8) (.t 36) (some 5)⟩] none [2, 3, 6, 7, 8]) (.seq (.reg [⟨some 37, none, .load (.t 3) (some 5)⟩, ⟨some 38, none, .call 7 [(.t 37)]⟩, ⟨some 9, none, .alloc [(.c (.int .i64 0)), (.c (.int .i64 0)), (.c (.str ⟨#[]⟩)), (.z 1), (.z 5)]⟩, ⟨none, none, .st (.t 9) (.t 38) (some 5)⟩] none [2, 3, 6, 7, 8, 9]) (.seq (.reg [⟨some 40, none, .load (.t 8) (some 5)⟩, ⟨some 41, none, .load (.t 9) (some 5)⟩, ⟨some 42, none, .callx 8 [(.t 40), (.t 41)]⟩, ⟨some 39, none, .mv (.t 42)⟩, ⟨some 43, none, .ext (.t 39) 0⟩, ⟨some 44, none, .ext (.t 39) 1⟩, ⟨some 10, none, .alloc [(.c (.int .i64 0)), (.c (.int .i64 0)), (.c (.str ⟨#[]⟩)), (.z 1), (.z 5)]⟩, ⟨none, none, .st (.t 10) (.t 43) (some 5)⟩, ⟨some 11, none, .mv (.t 44)⟩] none [2, 3, 6, 7, 8, 9, 10, 11]) (.seq (.seq (.reg [⟨some 45, none, .load (.t 10) (some 5)⟩, ⟨some 46, none, .load (.t 6) (some 5)⟩, ⟨some 47, none, .callb 9 [(.t 45), (.t 46)]⟩, ⟨some 48, none, .not (.t 47)⟩, ⟨some 49, none, .mv (.t 48)⟩, ⟨some 50, some (49, false), .mv (.t 11)⟩, ⟨some 51, some (49, false), .mv (.t 7)⟩, ⟨some 52, some (49, false), .bin true .neq (.t 50) (.t 51)⟩, ⟨some 53, none, .pick (.t 49) (.k (.c (.bool true))) (.t 52)⟩] none [2, 3, 6, 7, 8, 9, 10, 11, 53]) (.cond (.t 53) (.seq (.reg [⟨some 4, none, .mv (.k (.c (.bool false)))⟩] none [4]) .ret) .skip)) (.seq (.seq (.reg [⟨some 54, none, .load (.t 8) (some 5)⟩, ⟨some 55, none, .load (.t 2) (some 5)⟩, ⟨some 56, none, .callw 7 [(.t 55)]⟩, ⟨some 57, none, .callb 9 [(.t 54), (.t 56)]⟩, ⟨some 58, none, .not (.t 57)⟩] (some 3) [2, 3, 6, 7, 8, 9, 10, 11, 58]) (.cond (.t 58) (.seq (.reg [⟨some 4, none, .mv (.k (.c (.bool false)))⟩] none [4]) .ret) .skip)) (.seq (.seq (.reg [⟨some 59, none, .load (.t 9) (some 5)⟩, ⟨some 60, none, .load (.t 3) (some 5)⟩, ⟨some 61, none, .callw 7 [(.t 60)]⟩, ⟨some 62, none, .callb 9 [(.t 59), (.t 61)]⟩, ⟨some 63, none, .not (.t 62)⟩] (some 3) [2, 3, 6, 7, 8, 9, 10, 11, 63]) (.cond (.t 63) (.seq (.reg [⟨some 4, none, .mv (.k (.c (.bool false)))⟩] none [4]) .ret) .skip)) (.seq (.reg [⟨some 12, none, .mv (.k (.c (.int .i64 1)))⟩] none [2, 3, 6, 7, 8, 9, 10, 11, 12]) (.seq (.reg [⟨some 64, none, .load (.t 8) (some 5)⟩, ⟨some 65, none, .mv (.t 12)⟩, ⟨some 66, none, .callm 10 (.t 64) (.t 65)⟩, ⟨some 12, none, .mv (.t 66)⟩] none [2, 3, 6, 7, 9, 10, 11, 12]) (.seq (.reg [⟨some 67, none, .load (.t 9) (some 5)⟩, ⟨some 68, none, .mv (.t 12)⟩, ⟨some 69, none, .callm 10 (.t 67) (.t 68)⟩, ⟨some 12, none, .mv (.t 69)⟩] none [2, 3, 6, 7, 10, 11, 12]) (.seq (.seq (.reg [⟨some 70, none, .mv (.t 12)⟩, ⟨some 71, none, .bin false .lss (.t 70) (.k (.c (.int .i64 0)))⟩, ⟨some 72, none, .mv (.t 71)⟩, ⟨some 73, some (72, false), .load (.t 10) (some 5)⟩, ⟨some 74, some (72, false), .load (.t 6) (some 5)⟩, ⟨some 75, some (72, false), .callb 9 [(.t 73), (.t 74)]⟩, ⟨some 76, some (72, false), .not (.t 75)⟩, ⟨some 77, none, .pick (.t 72) (.k (.c (.bool true))) (.t 76)⟩, ⟨some 78, none, .mv (.t 77)⟩, ⟨some 79, some (78, false), .mv (.t 11)⟩, ⟨some 80, some (78, false), .mv (.t 7)⟩, ⟨some 81, some (78, false), .bin true .neq (.t 79) (.t 80)⟩, ⟨some 82, none, .pick (.t 78) (.k (.c (.bool true))) (.t 81)⟩] none [2, 3, 6, 7, 10, 82]) (.cond (.t 82) (.seq (.reg [⟨some 4, none, .mv (.k (.c (.bool false)))⟩] none [4]) .ret) .skip)) (.seq (.reg [⟨some 13, none, .mv (.k (.c (.int .i64 1)))⟩] none [2, 3, 6, 7, 10, 13]) (.seq (.reg [⟨some 83, none, .load (.t 10) (some 5)⟩, ⟨some 84, none, .mv (.t 13)⟩, ⟨some 85, none, .callm 10 (.t 83) (.t 84)⟩, ⟨some 13, none, .mv (.t 85)⟩] none [2, 3, 6, 7, 10, 13]) (.seq (.reg [⟨some 14, none, .mv (.k (.c (.int .i64 1)))⟩] none [2, 3, 6, 7, 10, 13, 14]) (.seq (.reg [⟨some 86, none, .load (.t 10) (some 5)⟩, ⟨some 87, none, .mv (.t 14)⟩, ⟨some 88, none, .callb 11 [(.t 86), (.t 87)]⟩, ⟨some 14, none, .mv (.t 88)⟩] none [2, 3, 6, 7, 10, 13, 14]) (.seq (.seq (.reg [⟨some 89, none, .mv (.t 14)⟩, ⟨some 90, none, .bin false .lss (.t 89) (.k (.c (.int .i64 0)))⟩] none [2, 3, 6, 7, 10, 13, 14, 90]) (.cond (.t 90) (.seq (.reg [⟨some 4, none, .mv (.k (.c (.bool false)))⟩] none [4]) .ret) .skip)) (.seq (.seq (.reg [⟨some 91, none, .mv (.t 14)⟩, ⟨some 92, none, .mv (.t 13)⟩, ⟨some 93, none, .bin false .neq (.t 91) (.t 92)⟩] none [2, 3, 6, 7, 10, 13, 93]) (.cond (.t 93) (.seq (.reg [⟨some 4, none, .mv (.k (.c (.bool false)))⟩] none [4]) .ret) .skip)) (.seq (.mix [⟨some 95, none, .load (.t 2) (some 5)⟩, ⟨some 96, none, .callw 7 [(.t 95)]⟩, ⟨some 97, none, .load (.t 3) (some 5)⟩, ⟨some 98, none, .callw 7 [(.t 97)]⟩, ⟨some 99, none, .callw 8 [(.t 96), (.t 98)]⟩, ⟨some 94, none, .mv (.t 99)⟩, ⟨some 100, none, .ext (.t 94) 0⟩, ⟨some 101, none, .ext (.t 94) 1⟩, ⟨some 15, none, .alloc [(.c (.int .i64 0)), (.c (.int .i64 0)), (.c (.str ⟨#[]⟩)), (.z 1), (.z 5)]⟩, ⟨none, none, .st (.t 15) (.t 100) (some 5)⟩] [⟨some 16, none, .mv (.t 101)⟩] [[], [], [], [], [], [], [], [], [0, 1, 2, 3, 4, 5, 6, 7], []] [6, 7, 10, 13, 15, 16]) (.seq (.seq (.reg [⟨some 102, none, .load (.t 15) (some 5)⟩, ⟨some 103, none, .load (.t 6) (some 5)⟩, ⟨some 104, none, .callb 9 [(.t 102), (.t 103)]⟩, ⟨some 105, none, .not (.t 104)⟩, ⟨some 106, none, .mv (.t 105)⟩, ⟨some 107, some (106, false), .mv (.t 16)⟩, ⟨some 108, some (106, false), .mv (.t 7)⟩, ⟨some 109, some (106, false), .bin true .neq (.t 107) (.t 108)⟩, ⟨some 110, none, .pick (.t 106) (.k (.c (.bool true))) (.t 109)⟩] none [10, 13, 110]) (.cond (.t 110) (.seq (.reg [⟨some 4, none, .mv (.k (.c (.bool false)))⟩] none [4]) .ret) .skip)) (.seq (.reg [⟨some 14, none, .mv (.k (.c (.int .i64 1)))⟩] none [10, 13, 14]) (.seq (.reg [⟨some 111, none, .load (.t 10) (some 5)⟩, ⟨some 112, none, .mv (.t 14)⟩, ⟨some 113, none, .callb 11 [(.t 111), (.t 112)]⟩, ⟨some 14, none, .mv (.t 113)⟩] none [13, 14]) (.seq (.seq (.reg [⟨some 114, none, .mv (.t 14)⟩, ⟨some 115, none, .bin false .lss (.t 114) (.k (.c (.int .i64 0)))⟩] none [13, 14, 115]) (.cond (.t 115) (.seq (.reg [⟨some 4, none, .mv (.k (.c (.bool false)))⟩] none [4]) .ret) .skip)) (.seq (.seq (.reg [⟨some 116, none, .mv (.t 14)⟩, ⟨some 117, none, .mv (.t 13)⟩, ⟨some 118, none, .bin false .neq (.t 116) (.t 117)⟩] none [118]) (.cond (.t 118) (.seq (.reg [⟨some 4, none, .mv (.k (.c (.bool false)))⟩] none [4]) .ret) .skip)) (.seq (.reg [⟨some 4, none, .mv (.k (.c (.bool true)))⟩] none [4]) .ret))))))))))))))))))))))))))))))
theorem chk_law : chkX Go.Proofs.Try.prog 119 (Go.Proofs.Try.f3.body.getD .skip) x_law = true := by kernel_rfl
theorem rs_law : okRs Go.Proofs.Try.prog Go.Proofs.Try.f3.results.toList [.tmp 4] = true := by kernel_rfl
noncomputable def spLawEA  : Spec := Spec.of (ι := T × T) [false, false] (fun i => [.d (.agg i.1.enc), .d (.agg i.2.enc)]) (fun i => i.1.fit 140737488355328 ∧ i.2.fit 140737488355328) (fun _ => [.d (.one (.bool true))]) (fun _ => [.gone, .gone])
theorem spLawEA_inj : ∀ i j : T × T, (fun (i : T × T) => ([.d (.agg i.1.enc), .d (.agg i.2.enc)] : List AV)) i = (fun (i : T × T) => ([.d (.agg i.1.enc), .d (.agg i.2.enc)] : List AV)) j → i = j := by
  rintro ⟨a, b⟩ ⟨a', b'⟩ h
  simp only [Prod.mk.injEq]
  simpa [strs_eq, T.enc_eq, encL_eq, F.enc_eq, encF_eq, Tk.enc_eq, encTk_eq, Gn.enc_eq, ints_eq] using h
theorem spLawEA_pre  (a : T) (b : T) : (spLawEA).pre [.d (.agg a.enc), .d (.agg b.enc)] = (a.fit 140737488355328 ∧ b.fit 140737488355328) := Spec.of_pre' spLawEA_inj (a, b)
theorem spLawEA_res  (a : T) (b : T) : (spLawEA).res [.d (.agg a.enc), .d (.agg b.enc)] = [.d (.one (.bool true))] := Spec.of_res spLawEA_inj (a, b)
set_option maxHeartbeats 4000000 in
theorem lawEA_sound : Sound Go.Proofs.Try.prog 3 spLawEA := by
  refine sound_fam (GOK.cons (l := [(7, spToXV), (6, spAdd), (8, spAddIX), (9, spEqV), (10, spMkV), (11, spHdV)]) call_szVal szV_sound (GOK.cons (l := [(6, spAdd), (8, spAddIX), (9, spEqV), (10, spMkV), (11, spHdV)]) call_toVal toXV_sound (GOK.cons (l := [(8, spAddIX), (9, spEqV), (10, spMkV), (11, spHdV)]) call_PartAdd PartAdd_sound (GOK.cons (l := [(9, spEqV), (10, spMkV), (11, spHdV)]) call_PartAddI PartAddIX_sound (GOK.cons (l := [(10, spMkV), (11, spHdV)]) call_eqVal eqV_sound (GOK.cons (l := [(11, spHdV)]) call_markVal mkV_sound (GOK.cons call_heldVal hdV_sound GOK.nil))))))) Go.Proofs.Try.func3 (c := Go.Proofs.Try.f3.body.getD .skip) rfl (n := 119) rfl chk_law rs_law (fun _ => by simp) ?_ ?_
  · exact spLawEA_inj
  · rintro ⟨a, b⟩ ⟨h1, h2⟩
    simp only at h1 h2
    have fa := T.enc_len a
    have fb := T.enc_len b
    have s1 := szT_le (t := a) (left := 1048576) (by omega)
    by_cases c1 : szT a 1048576 < 0
    · have c1' : (szT a 1048576 < 0) = True := eq_true c1
      simp only [x_law, go_sem, seval, Prod.fst, rg, fa, fb, c1', spSzV_md, spSzV_pre, spSzV_alts, spSzV_res, spSzV_out]
      repeat' (first | with_reducible assumption | with_reducible refine And.intro ?_ ?_ | intro _)
      all_goals first | omega | assumption | skip
    have s2 := szT_le (t := b) (left := szT a 1048576) (by omega)
    have c1' : (szT a 1048576 < 0) = False := eq_false c1
    by_cases c2 : szT b (szT a 1048576) < 0
    · have c2' : (szT b (szT a 1048576) < 0) = True := eq_true c2
      simp only [x_law, go_sem, seval, Prod.fst, rg, fa, fb, c1', c2', spSzV_md, spSzV_pre, spSzV_alts, spSzV_res, spSzV_out]
      repeat' (first | with_reducible assumption | with_reducible refine And.intro ?_ ?_ | intro _)
      all_goals first | omega | assumption | skip
    have c2' : (szT b (szT a 1048576) < 0) = False := eq_false c2
    obtain ⟨fa1, za⟩ := szT_fit (t := a) (left := 1048576) (by omega) (by omega) h1 (by omega)
    obtain ⟨fb1, zb⟩ := szT_fit (t := b) (left := szT a 1048576) (by omega) (by omega) h2 (by omega)
    have na := nmT_sz (t := a) (left := 1048576) (by omega) (by omega)
    have nb := nmT_sz (t := b) (left := szT a 1048576) (by omega) (by omega)
    have na1 := nmV_le a
    have nb1 := nmV_le b
    have na2 := nmV_nn a
    have nb2 := nmV_nn b
    have og := addT_ok a b
    have ng := nmV_ok og
    have ng2 := nmV_nn (addT a b)
    have fg := okT_fit og
    have fg1 : (addT a b).fit 1048576 := T.fit_mono (by decide) fg
    have fg2 : (addT a b).fit 140737488355328 := T.fit_mono (by decide) fg
    have fm := mkV_ok og
    have m1 := mkV_mk (addT a b) 1
    have m2 := nmV_mk (addT a b) 1
    have d1 : (1 + nmV a + nmV b < 0) = False := eq_false (by omega)
    have d2 : (1 + nmV (addT a b) < 0) = False := eq_false (by omega)
    have fg3 := T.enc_len (addT a b)
    have fg4 := T.enc_len (mkV (addT a b) 1)
    have fm1 := T.enc_len (mkV a 1)
    have fm2 := T.enc_len (mkV b (1 + nmV a))
    simp only [x_law, go_sem, seval, Prod.fst, rg, fa, fb, fg3, fg4, fm1, fm2, c1', c2', d1, d2, m1, m2, agX_out, foldE, foldM, spSzV_md, spSzV_pre, spSzV_alts, spSzV_res, spSzV_out, spToXV_md, spToXV_pre, spToXV_alts, spToXV_res, spToXV_out, spAdd_md, spAdd_pre, spAdd_alts, spAdd_res, spAdd_out, spAddIX_md, spAddIX_pre, spAddIX_alts, spAddIX_res, spAddIX_out, spEqV_md, spEqV_pre, spEqV_alts, spEqV_res, spEqV_out, spMkV_md, spMkV_alts, spMkV_preX, spMkV_resX, spMkV_outX, spHdV_md, spHdV_pre, spHdV_alts, spHdV_res, spHdV_out, decide_true, Bool.not_true]
    repeat' (first | with_reducible assumption | with_reducible refine And.intro ?_ ?_ | intro _)
    all_goals first | omega | assumption | skip
end Go.Proofs.Pw
