/- FnExactPathPut: the law, run. -/
import Derived.Test.YtkngbnefhelepaaPwT13
import Derived.Test.YtkngbnefhelepaaPwT14
import Derived.Test.YtkngbnefhelepaaPwT18
import Derived.Test.YtkngbnefhelepaaPwT9
import Derived.ProofKit
import Derived.ChangeOld
import Derived.Below
import Derived.Test.YtkngbnefhelepaaPwT10
import Derived.Carry
import Derived.SizedLaws
import Derived.ChangeArms
import Derived.ChangeVars
import Derived.WalkSmall
import Derived.LaidHandle
import Derived.Test.YtkngbnefhelepaaPwT12
set_option linter.unusedSimpArgs false
set_option linter.unusedVariables false
set_option linter.unusedSimpArgs false
set_option maxRecDepth 20000
namespace Go.Proofs.Pw
set_option linter.unusedSectionVars false
variable [Globs]
def x_law : X := (.seq (.reg [⟨some 3, none, .box (.t 0) (some 5)⟩, ⟨some 5, none, .box (.t 2) (some 5)⟩, ⟨some 6, none, .mv (.k (.c (.bool false)))⟩] none [1, 3, 5]) (.seq (.reg [⟨some 7, none, .mv (.k (.c (.int .i64 1048576)))⟩] none [1, 3, 5, 7]) (.seq (.reg [⟨some 20, none, .load (.t 3) (some 5)⟩, ⟨some 21, none, .mv (.t 7)⟩, ⟨some 22, none, .call 4 [(.t 20), (.t 21)]⟩, ⟨some 7, none, .mv (.t 22)⟩] none [1, 3, 5, 7]) (.seq (.seq (.reg [⟨some 23, none, .mv (.t 7)⟩, ⟨some 24, none, .bin false .lss (.t 23) (.k (.c (.int .i64 0)))⟩] none [1, 3, 5, 7, 24]) (.cond (.t 24) (.seq (.reg [⟨some 6, none, .mv (.k (.c (.bool true)))⟩] none [6]) .ret) .skip)) (.seq (.reg [⟨some 25, none, .mv (.t 1)⟩, ⟨some 26, none, .mv (.t 7)⟩, ⟨some 27, none, .call 5 [(.t 25), (.t 26)]⟩, ⟨some 7, none, .mv (.t 27)⟩] none [1, 3, 5, 7]) (.seq (.seq (.reg [⟨some 28, none, .mv (.t 7)⟩, ⟨some 29, none, .bin false .lss (.t 28) (.k (.c (.int .i64 0)))⟩] none [1, 3, 5, 7, 29]) (.cond (.t 29) (.seq (.reg [⟨some 6, none, .mv (.k (.c (.bool true)))⟩] none [6]) .ret) .skip)) (.seq (.reg [⟨some 30, none, .load (.t 5) (some 5)⟩, ⟨some 31, none, .mv (.t 7)⟩, ⟨some 32, none, .call 4 [(.t 30), (.t 31)]⟩, ⟨some 7, none, .mv (.t 32)⟩] none [1, 3, 5, 7]) (.seq (.seq (.reg [⟨some 33, none, .mv (.t 7)⟩, ⟨some 34, none, .bin false .lss (.t 33) (.k (.c (.int .i64 0)))⟩] none [1, 3, 5, 34]) (.cond (.t 34) (.seq (.reg [⟨some 6, none, .mv (.k (.c (.bool true)))⟩] none [6]) .ret) .skip)) (.seq (.mix [⟨some 36, none, .load (.t 3) (some 5)⟩, ⟨some 37, none, .callw 7 [(.t 36)]⟩, ⟨some 38, none, .mv (.t 1)⟩, ⟨some 39, none, .callw 8 [(.t 38)]⟩, ⟨some 40, none, .load (.t 5) (some 5)⟩, ⟨some 41, none, .callw 7 [(.t 40)]⟩, ⟨some 42, none, .call 6 [(.t 37), (.t 39), (.t 41)]⟩, ⟨some 35, none, .mv (.t 42)⟩, ⟨some 43, none, .ext (.t 35) 0⟩, ⟨some 44, none, .ext (.t 35) 1⟩, ⟨some 8, none, .alloc [(.c (.int .i64 0)), (.c (.int .i64 0)), (.c (.str ⟨#[]⟩)), (.z 1), (.z 5)]⟩, ⟨none, none, .st (.t 8) (.t 43) (some 5)⟩] [⟨some 9, none, .mv (.t 44)⟩] [[], [], [], [], [], [], [], [], [], [], [0, 1, 2, 3, 4, 5, 7, 8, 9], []] [1, 3, 5, 8, 9]) (.seq (.reg [⟨some 45, none, .load (.t 3) (some 5)⟩, ⟨some 46, none, .call 7 [(.t 45)]⟩, ⟨some 10, none, .alloc [(.c (.int .i64 0)), (.c (.int .i64 0)), (.c (.str ⟨#[]⟩)), (.z 1), (.z 5)]⟩, ⟨none, none, .st (.t 10) (.t 46) (some 5)⟩] none [1, 3, 5, 8, 9, 10]) (.seq (.reg [⟨some 47, none, .mv (.t 1)⟩, ⟨some 48, none, .call 8 [(.t 47)]⟩, ⟨some 11, none, .mv (.t 48)⟩] none [1, 3, 5, 8, 9, 10, 11]) (.seq (.reg [⟨some 49, none, .load (.t 5) (some 5)⟩, ⟨some 50, none, .call 7 [(.t 49)]⟩, ⟨some 12, none, .alloc [(.c (.int .i64 0)), (.c (.int .i64 0)), (.c (.str ⟨#[]⟩)), (.z 1), (.z 5)]⟩, ⟨none, none, .st (.t 12) (.t 50) (some 5)⟩] none [1, 3, 5, 8, 9, 10, 11, 12]) (.seq (.reg [⟨some 52, none, .load (.t 10) (some 5)⟩, ⟨some 53, none, .mv (.t 11)⟩, ⟨some 54, none, .load (.t 12) (some 5)⟩, ⟨some 55, none, .callx 9 [(.t 52), (.t 53), (.t 54)]⟩, ⟨some 51, none, .mv (.t 55)⟩, ⟨some 56, none, .ext (.t 51) 0⟩, ⟨some 57, none, .ext (.t 51) 1⟩, ⟨some 13, none, .alloc [(.c (.int .i64 0)), (.c (.int .i64 0)), (.c (.str ⟨#[]⟩)), (.z 1), (.z 5)]⟩, ⟨none, none, .st (.t 13) (.t 56) (some 5)⟩, ⟨some 14, none, .mv (.t 57)⟩] none [1, 3, 5, 8, 9, 10, 11, 12, 13, 14]) (.seq (.seq (.reg [⟨some 58, none, .load (.t 13) (some 5)⟩, ⟨some 59, none, .load (.t 8) (some 5)⟩, ⟨some 60, none, .callb 10 [(.t 58), (.t 59)]⟩, ⟨some 61, none, .not (.t 60)⟩, ⟨some 62, none, .mv (.t 61)⟩, ⟨some 63, some (62, false), .mv (.t 14)⟩, ⟨some 64, some (62, false), .mv (.t 9)⟩, ⟨some 65, some (62, false), .bin true .neq (.t 63) (.t 64)⟩, ⟨some 66, none, .pick (.t 62) (.k (.c (.bool true))) (.t 65)⟩] none [1, 3, 5, 8, 9, 10, 11, 12, 13, 14, 66]) (.cond (.t 66) (.seq (.reg [⟨some 6, none, .mv (.k (.c (.bool false)))⟩] none [6]) .ret) .skip)) (.seq (.seq (.reg [⟨some 67, none, .load (.t 10) (some 5)⟩, ⟨some 68, none, .load (.t 3) (some 5)⟩, ⟨some 69, none, .callw 7 [(.t 68)]⟩, ⟨some 70, none, .callb 10 [(.t 67), (.t 69)]⟩, ⟨some 71, none, .not (.t 70)⟩] (some 3) [1, 3, 5, 8, 9, 10, 11, 12, 13, 14, 71]) (.cond (.t 71) (.seq (.reg [⟨some 6, none, .mv (.k (.c (.bool false)))⟩] none [6]) .ret) .skip)) (.seq (.seq (.reg [⟨some 72, none, .mv (.t 11)⟩, ⟨some 73, none, .mv (.t 1)⟩, ⟨some 74, none, .call 8 [(.t 73)]⟩, ⟨some 75, none, .callb 11 [(.t 72), (.t 74)]⟩, ⟨some 76, none, .not (.t 75)⟩] none [1, 3, 5, 8, 9, 10, 11, 12, 13, 14, 76]) (.cond (.t 76) (.seq (.reg [⟨some 6, none, .mv (.k (.c (.bool false)))⟩] none [6]) .ret) .skip)) (.seq (.seq (.reg [⟨some 77, none, .load (.t 12) (some 5)⟩, ⟨some 78, none, .load (.t 5) (some 5)⟩, ⟨some 79, none, .callw 7 [(.t 78)]⟩, ⟨some 80, none, .callb 10 [(.t 77), (.t 79)]⟩, ⟨some 81, none, .not (.t 80)⟩] (some 3) [1, 3, 5, 8, 9, 10, 11, 12, 13, 14, 81]) (.cond (.t 81) (.seq (.reg [⟨some 6, none, .mv (.k (.c (.bool false)))⟩] none [6]) .ret) .skip)) (.seq (.reg [⟨some 15, none, .mv (.k (.c (.int .i64 1)))⟩] none [1, 3, 5, 8, 9, 10, 11, 12, 13, 14, 15]) (.seq (.reg [⟨some 82, none, .load (.t 10) (some 5)⟩, ⟨some 83, none, .mv (.t 15)⟩, ⟨some 84, none, .callm 12 (.t 82) (.t 83)⟩, ⟨some 15, none, .mv (.t 84)⟩] none [1, 3, 5, 8, 9, 11, 12, 13, 14, 15]) (.seq (.reg [⟨some 85, none, .mv (.t 11)⟩, ⟨some 86, none, .mv (.t 15)⟩, ⟨some 87, none, .call 13 [(.t 85), (.t 86)]⟩, ⟨some 15, none, .mv (.t 87)⟩] none [1, 3, 5, 8, 9, 12, 13, 14, 15]) (.seq (.reg [⟨some 88, none, .load (.t 12) (some 5)⟩, ⟨some 89, none, .mv (.t 15)⟩, ⟨some 90, none, .callm 12 (.t 88) (.t 89)⟩, ⟨some 15, none, .mv (.t 90)⟩] none [1, 3, 5, 8, 9, 13, 14, 15]) (.seq (.seq (.reg [⟨some 91, none, .mv (.t 15)⟩, ⟨some 92, none, .bin false .lss (.t 91) (.k (.c (.int .i64 0)))⟩, ⟨some 93, none, .mv (.t 92)⟩, ⟨some 94, some (93, false), .load (.t 13) (some 5)⟩, ⟨some 95, some (93, false), .load (.t 8) (some 5)⟩, ⟨some 96, some (93, false), .callb 10 [(.t 94), (.t 95)]⟩, ⟨some 97, some (93, false), .not (.t 96)⟩, ⟨some 98, none, .pick (.t 93) (.k (.c (.bool true))) (.t 97)⟩, ⟨some 99, none, .mv (.t 98)⟩, ⟨some 100, some (99, false), .mv (.t 14)⟩, ⟨some 101, some (99, false), .mv (.t 9)⟩, ⟨some 102, some (99, false), .bin true .neq (.t 100) (.t 101)⟩, ⟨some 103, none, .pick (.t 99) (.k (.c (.bool true))) (.t 102)⟩] none [1, 3, 5, 8, 9, 13, 103]) (.cond (.t 103) (.seq (.reg [⟨some 6, none, .mv (.k (.c (.bool false)))⟩] none [6]) .ret) .skip)) (.seq (.reg [⟨some 16, none, .mv (.k (.c (.int .i64 1)))⟩] none [1, 3, 5, 8, 9, 13, 16]) (.seq (.reg [⟨some 104, none, .load (.t 13) (some 5)⟩, ⟨some 105, none, .mv (.t 16)⟩, ⟨some 106, none, .callm 12 (.t 104) (.t 105)⟩, ⟨some 16, none, .mv (.t 106)⟩] none [1, 3, 5, 8, 9, 13, 16]) (.seq (.reg [⟨some 17, none, .mv (.k (.c (.int .i64 1)))⟩] none [1, 3, 5, 8, 9, 13, 16, 17]) (.seq (.reg [⟨some 107, none, .load (.t 13) (some 5)⟩, ⟨some 108, none, .mv (.t 17)⟩, ⟨some 109, none, .callb 14 [(.t 107), (.t 108)]⟩, ⟨some 17, none, .mv (.t 109)⟩] none [1, 3, 5, 8, 9, 13, 16, 17]) (.seq (.seq (.reg [⟨some 110, none, .mv (.t 17)⟩, ⟨some 111, none, .bin false .lss (.t 110) (.k (.c (.int .i64 0)))⟩] none [1, 3, 5, 8, 9, 13, 16, 17, 111]) (.cond (.t 111) (.seq (.reg [⟨some 6, none, .mv (.k (.c (.bool false)))⟩] none [6]) .ret) .skip)) (.seq (.seq (.reg [⟨some 112, none, .mv (.t 17)⟩, ⟨some 113, none, .mv (.t 16)⟩, ⟨some 114, none, .bin false .neq (.t 112) (.t 113)⟩] none [1, 3, 5, 8, 9, 13, 16, 114]) (.cond (.t 114) (.seq (.reg [⟨some 6, none, .mv (.k (.c (.bool false)))⟩] none [6]) .ret) .skip)) (.seq (.mix [⟨some 116, none, .load (.t 3) (some 5)⟩, ⟨some 117, none, .callw 7 [(.t 116)]⟩, ⟨some 118, none, .mv (.t 1)⟩, ⟨some 119, none, .callw 8 [(.t 118)]⟩, ⟨some 120, none, .load (.t 5) (some 5)⟩, ⟨some 121, none, .callw 7 [(.t 120)]⟩, ⟨some 122, none, .callw 9 [(.t 117), (.t 119), (.t 121)]⟩, ⟨some 115, none, .mv (.t 122)⟩, ⟨some 123, none, .ext (.t 115) 0⟩, ⟨some 124, none, .ext (.t 115) 1⟩, ⟨some 18, none, .alloc [(.c (.int .i64 0)), (.c (.int .i64 0)), (.c (.str ⟨#[]⟩)), (.z 1), (.z 5)]⟩, ⟨none, none, .st (.t 18) (.t 123) (some 5)⟩] [⟨some 19, none, .mv (.t 124)⟩] [[], [], [], [], [], [], [], [], [], [], [0, 1, 2, 3, 4, 5, 6, 7, 8, 9], []] [8, 9, 13, 16, 18, 19]) (.seq (.seq (.reg [⟨some 125, none, .load (.t 18) (some 5)⟩, ⟨some 126, none, .load (.t 8) (some 5)⟩, ⟨some 127, none, .callb 10 [(.t 125), (.t 126)]⟩, ⟨some 128, none, .not (.t 127)⟩, ⟨some 129, none, .mv (.t 128)⟩, ⟨some 130, some (129, false), .mv (.t 19)⟩, ⟨some 131, some (129, false), .mv (.t 9)⟩, ⟨some 132, some (129, false), .bin true .neq (.t 130) (.t 131)⟩, ⟨some 133, none, .pick (.t 129) (.k (.c (.bool true))) (.t 132)⟩] none [13, 16, 133]) (.cond (.t 133) (.seq (.reg [⟨some 6, none, .mv (.k (.c (.bool false)))⟩] none [6]) .ret) .skip)) (.seq (.reg [⟨some 17, none, .mv (.k (.c (.int .i64 1)))⟩] none [13, 16, 17]) (.seq (.reg [⟨some 134, none, .load (.t 13) (some 5)⟩, ⟨some 135, none, .mv (.t 17)⟩, ⟨some 136, none, .callb 14 [(.t 134), (.t 135)]⟩, ⟨some 17, none, .mv (.t 136)⟩] none [16, 17]) (.seq (.seq (.reg [⟨some 137, none, .mv (.t 17)⟩, ⟨some 138, none, .bin false .lss (.t 137) (.k (.c (.int .i64 0)))⟩] none [16, 17, 138]) (.cond (.t 138) (.seq (.reg [⟨some 6, none, .mv (.k (.c (.bool false)))⟩] none [6]) .ret) .skip)) (.seq (.seq (.reg [⟨some 139, none, .mv (.t 17)⟩, ⟨some 140, none, .mv (.t 16)⟩, ⟨some 141, none, .bin false .neq (.t 139) (.t 140)⟩] none [141]) (.cond (.t 141) (.seq (.reg [⟨some 6, none, .mv (.k (.c (.bool false)))⟩] none [6]) .ret) .skip)) (.seq (.reg [⟨some 6, none, .mv (.k (.c (.bool true)))⟩] none [6]) .ret)))))))))))))))))))))))))))))))))))
theorem chk_law : chkX Go.Proofs.Try.prog 142 (Go.Proofs.Try.f3.body.getD .skip) x_law = true := by kernel_rfl
theorem rs_law : okRs Go.Proofs.Try.prog Go.Proofs.Try.f3.results.toList [.tmp 6] = true := by kernel_rfl
noncomputable def spLawEP  : Spec := Spec.of (ι := T × (List Stp) × T) [false, false, false] (fun i => [.d (.agg i.1.enc), .d (.one (.row 3 (encS i.2.1))), .d (.agg i.2.2.enc)]) (fun i => i.1.fit 140737488355328 ∧ wayFit i.2.1 ∧ i.2.2.fit 140737488355328) (fun _ => [.d (.one (.bool true))]) (fun _ => [.gone, .gone, .gone])
theorem spLawEP_inj : ∀ i j : T × (List Stp) × T, (fun (i : T × (List Stp) × T) => ([.d (.agg i.1.enc), .d (.one (.row 3 (encS i.2.1))), .d (.agg i.2.2.enc)] : List AV)) i = (fun (i : T × (List Stp) × T) => ([.d (.agg i.1.enc), .d (.one (.row 3 (encS i.2.1))), .d (.agg i.2.2.enc)] : List AV)) j → i = j := by
  rintro ⟨v, p, x⟩ ⟨v', p', x'⟩ h
  simp only [Prod.mk.injEq]
  simpa [strs_eq, T.enc_eq, encL_eq, F.enc_eq, encF_eq, Tk.enc_eq, encTk_eq, Gn.enc_eq, ints_eq, encS_eq] using h
theorem spLawEP_pre  (v : T) (p : List Stp) (x : T) : (spLawEP).pre [.d (.agg v.enc), .d (.one (.row 3 (encS p))), .d (.agg x.enc)] = (v.fit 140737488355328 ∧ wayFit p ∧ x.fit 140737488355328) := Spec.of_pre' spLawEP_inj (v, p, x)
theorem spLawEP_res  (v : T) (p : List Stp) (x : T) : (spLawEP).res [.d (.agg v.enc), .d (.one (.row 3 (encS p))), .d (.agg x.enc)] = [.d (.one (.bool true))] := Spec.of_res spLawEP_inj (v, p, x)
set_option maxHeartbeats 4000000 in
theorem lawEP_sound : Sound Go.Proofs.Try.prog 3 spLawEP := by
  refine sound_fam (GOK.cons (l := [(5, spSzStpS), (7, spToXV), (8, spToStpS), (6, spPathPut), (9, spPathPutIX), (10, spEqV), (11, spEqStpS), (12, spMkV), (13, spMkP), (14, spHdV)]) call_szVal szV_sound (GOK.cons call_szStepS szStpS_sound (GOK.cons (l := [(8, spToStpS), (6, spPathPut), (9, spPathPutIX), (10, spEqV), (11, spEqStpS), (12, spMkV), (13, spMkP), (14, spHdV)]) call_toVal toXV_sound (GOK.cons call_toStepS toStpS_sound (GOK.cons call_PathPut PathPut_sound (GOK.cons call_PathPutI PathPutIX_sound (GOK.cons (l := [(11, spEqStpS), (12, spMkV), (13, spMkP), (14, spHdV)]) call_eqVal eqV_sound (GOK.cons call_eqStepS eqStpS_sound (GOK.cons (l := [(13, spMkP), (14, spHdV)]) call_markVal mkV_sound (GOK.cons call_markStepS mkP_sound (GOK.cons call_heldVal hdV_sound GOK.nil))))))))))) Go.Proofs.Try.func3 (c := Go.Proofs.Try.f3.body.getD .skip) rfl (n := 142) rfl chk_law rs_law (fun _ => by simp) ?_ ?_
  · exact spLawEP_inj
  · rintro ⟨v, p, x⟩ ⟨h1, h2, h3⟩
    simp only at h1 h2 h3
    have fa := T.enc_len v
    have fb := T.enc_len x
    have s1 := szT_le (t := v) (left := 1048576) (by omega)
    by_cases c1 : szT v 1048576 < 0
    · have c1' : (szT v 1048576 < 0) = True := eq_true c1
      simp only [x_law, go_sem, seval, Prod.fst, rg, fa, fb, c1', spSzV_md, spSzV_pre, spSzV_alts, spSzV_res, spSzV_out]
      repeat' (first | with_reducible assumption | with_reducible refine And.intro ?_ ?_ | intro _)
      all_goals first | omega | assumption | skip
    have c1' : (szT v 1048576 < 0) = False := eq_false c1
    have s2 := szStpS_le (p := p) (left := szT v 1048576) (by omega)
    by_cases c2 : szStpS p (szT v 1048576) < 0
    · have c2' : (szStpS p (szT v 1048576) < 0) = True := eq_true c2
      simp only [x_law, go_sem, seval, Prod.fst, rg, fa, fb, c1', c2', spSzV_md, spSzV_pre, spSzV_alts, spSzV_res, spSzV_out, spSzStpS_md, spSzStpS_pre, spSzStpS_alts, spSzStpS_res, spSzStpS_out]
      repeat' (first | with_reducible assumption | with_reducible refine And.intro ?_ ?_ | intro _)
      all_goals first | omega | assumption | skip
    have c2' : (szStpS p (szT v 1048576) < 0) = False := eq_false c2
    have s3 := szT_le (t := x) (left := szStpS p (szT v 1048576)) (by omega)
    by_cases c3 : szT x (szStpS p (szT v 1048576)) < 0
    · have c3' : (szT x (szStpS p (szT v 1048576)) < 0) = True := eq_true c3
      simp only [x_law, go_sem, seval, Prod.fst, rg, fa, fb, c1', c2', c3', spSzV_md, spSzV_pre, spSzV_alts, spSzV_res, spSzV_out, spSzStpS_md, spSzStpS_pre, spSzStpS_alts, spSzStpS_res, spSzStpS_out]
      repeat' (first | with_reducible assumption | with_reducible refine And.intro ?_ ?_ | intro _)
      all_goals first | omega | assumption | skip
    have c3' : (szT x (szStpS p (szT v 1048576)) < 0) = False := eq_false c3
    obtain ⟨fa1, za⟩ := szT_fit (t := v) (left := 1048576) (by omega) (by omega) h1 (by omega)
    obtain ⟨fb1, zb⟩ := szT_fit (t := x) (left := szStpS p (szT v 1048576)) (by omega) (by omega) h3 (by omega)
    obtain ⟨fp, -⟩ := szStpS_fit (p := p) (left := szT v 1048576) (by omega) (by omega) h2 (by omega)
    have fp1 : lenB 1048576 p.length := fp
    have fp2 : lenB 140737488355328 p.length := by unfold lenB; omega
    have na := nmT_sz (t := v) (left := 1048576) (by omega) (by omega)
    have nb := nmT_sz (t := x) (left := szStpS p (szT v 1048576)) (by omega) (by omega)
    have na1 := nmV_le v
    have nb1 := nmV_le x
    have na2 := nmV_nn v
    have nb2 := nmV_nn x
    have og : okT (optT (pathPutO v p x)) := pathPutO_ok
    have ng := nmV_ok og
    have ng2 := nmV_nn (optT (pathPutO v p x))
    have fg := okT_fit og
    have fg1 : (optT (pathPutO v p x)).fit 1048576 := T.fit_mono (by decide) fg
    have fg2 : (optT (pathPutO v p x)).fit 140737488355328 := T.fit_mono (by decide) fg
    have fm := mkV_ok og
    have m1 := mkV_mk (optT (pathPutO v p x)) 1
    have m2 := nmV_mk (optT (pathPutO v p x)) 1
    have d1 : (1 + nmV v + 3 * (p.length : Int) + nmV x < 0) = False := eq_false (by omega)
    have d2 : (1 + nmV (optT (pathPutO v p x)) < 0) = False := eq_false (by omega)
    have fg3 := T.enc_len (optT (pathPutO v p x))
    have fg4 := T.enc_len (mkV (optT (pathPutO v p x)) 1)
    have fm1 := T.enc_len (mkV v 1)
    have fm2 := T.enc_len (mkV x (1 + nmV v + 3 * (p.length : Int)))
    simp only [x_law, go_sem, seval, Prod.fst, rg, fa, fb, fg3, fg4, fm1, fm2, c1', c2', c3', d1, d2, m1, m2, agX_out, foldE, foldM, spSzV_md, spSzV_pre, spSzV_alts, spSzV_res, spSzV_out, spSzStpS_md, spSzStpS_pre, spSzStpS_alts, spSzStpS_res, spSzStpS_out, spToXV_md, spToXV_pre, spToXV_alts, spToXV_res, spToXV_out, spToStpS_md, spToStpS_pre, spToStpS_alts, spToStpS_res, spToStpS_out, spPathPut_md, spPathPut_pre, spPathPut_alts, spPathPut_res, spPathPut_out, spPathPutIX_md, spPathPutIX_pre, spPathPutIX_alts, spPathPutIX_res, spPathPutIX_out, spEqV_md, spEqV_pre, spEqV_alts, spEqV_res, spEqV_out, spEqStpS_md, spEqStpS_pre, spEqStpS_alts, spEqStpS_res, spEqStpS_out, spMkV_md, spMkV_alts, spMkV_preX, spMkV_resX, spMkV_outX, spMkP_md, spMkP_pre, spMkP_alts, spMkP_res, spMkP_out, spHdV_md, spHdV_pre, spHdV_alts, spHdV_res, spHdV_out, decide_true, Bool.not_true]
    repeat' (first | with_reducible assumption | with_reducible refine And.intro ?_ ?_ | intro _)
    all_goals first | omega | assumption | skip
end Go.Proofs.Pw
/- From what a law's arguments are told to be, to what is shown of its run. -/
namespace Go.Proofs.Pw
open Go.RowKit
set_option linter.unusedSectionVars false
/-- All blocks that are there. -/
def Old (w : World) (g : Nat) : Prop := g < w.heap.size
theorem cell_lt {w : World} {a : Addr} {v : Value} (h : w.cell? a = some v) : a.block < w.heap.size := by
  unfold World.cell? at h
  rcases Nat.lt_or_ge a.block w.heap.size with hlt | hge
  · exact hlt
  · rw [Array.getElem?_eq_none hge] at h; simp at h
/-- A law that holds of what it is handed, run in whatever world. -/
theorem law_calls [Globs] {P : Program} {f : FuncId} {sp : Spec} (h : Sound P f sp) {args : List AV} (hp : sp.pre args) (ha : sp.alts = none) (hr : sp.res args = [.d (.one (.bool true))]) {W : World} {vs : List Value} (hG : Gl W (Old W))
    (hA : All3 (RepA W (Old W)) args vs (args.map fun _ => fun _ => False)) : Calls P f vs.toArray W fun e w' => e = .returned (.bool true) ∧ Below W.heap.size W w' := by
  refine (h args hp W (Old W) vs _ hG (fun _ h => h) (fun g hg => absurd hg Any_false) Apart_false hA).mono ?_
  rintro e w' ⟨r, o, hro, v, S', rfs, fps', rfl, g1, _, _, _, _, _, g8⟩
  obtain ⟨rfl, rfl⟩ := (Spec.may_none ha).1 hro
  rw [hr] at g1
  refine ⟨?_, ⟨g8.os, g8.tape, g8.output, g8.size, fun k hk => g8.block k hk Any_false⟩⟩
  cases rfs with
  | nil => exact absurd rfl g1.1
  | cons fp r => cases r with
    | nil =>
      obtain ⟨g1, _⟩ := g1
      cases g1; rfl
    | cons _ _ => exact absurd rfl g1.1
end Go.Proofs.Pw
/- Arguments with depth: what they read as, and that they read so still. -/
namespace Go.Proofs.Pw
open Go.RowKit Go.ChangeShapes Go.WideShapes
set_option linter.unusedSectionVars false
section
variable {H : Type} {enc : TypeId × Value → H} {P : Program} {W W' : World} {spare : Nat → Bool} {held : Bool}
theorem trodAll_below (hl : laidOutB P = true) (hb : Below W.heap.size W W') : ∀ {ts : List TypeId} {vs : List Value} {ds : List (DataW H)} {p : List MemPlace}, DataW.TrodAll enc P W 0 (fun _ => true) true ts vs ds p →
    (ts.all fun t => P.readableRec t && decide (t < P.types.size)) = true → (∀ x ∈ p, x.block < W.heap.size) → DataW.TrodAll enc P W' 0 (fun b => decide (b < W.heap.size)) true ts vs ds p := by
  intro ts
  induction ts with
  | nil =>
    intro vs ds p h _ _
    cases vs <;> cases ds <;> first | exact h | exact h.elim
  | cons t ts ih =>
    intro vs ds p h hr hp
    obtain ⟨v, vs', d, ds', p1, q, rfl, rfl, rfl, h1, h2⟩ := trodAll_cons h
    simp only [List.all_cons, Bool.and_eq_true, decide_eq_true_eq] at hr
    exact ⟨p1, q, Below.trod hl hr.1.1 hr.1.2 h1 hb (fun x hx => hp x (by simp [hx])), ih h2 hr.2 (fun x hx => hp x (by simp [hx])), rfl⟩
theorem trodVars_below (hl : laidOutB P = true) (hb : Below W.heap.size W W') : ∀ {ns : List String} {gs : List (DataW H)} {p : List MemPlace}, DataW.TrodVars enc P W (fun _ => true) ns gs p →
    (ns.all fun n => match P.globalNamed n with | some g => (match P.globals[g]? with | some x => P.readableRec x.type && decide (x.type < P.types.size) | none => false) | none => false) = true → (∀ x ∈ p, x.block < W.heap.size) →
    DataW.TrodVars enc P W' (fun b => decide (b < W.heap.size)) ns gs p := by
  intro ns
  induction ns with
  | nil =>
    intro gs p h _ _
    cases gs <;> first | exact h | exact h.elim
  | cons n ns ih =>
    intro gs p h hr hp
    cases gs with
    | nil => exact h.elim
    | cons d gs =>
      obtain ⟨g, t, cs, fuel, p1, q, hg, ht, hv, hd, h2, rfl⟩ := h
      simp only [List.all_cons, Bool.and_eq_true, hg] at hr
      obtain ⟨hr2, hr3⟩ := hr
      have hr1 : g < W.heap.size := by
        unfold World.var? at hv
        simp only [hg, Option.bind_some] at hv
        split at hv
        · rename_i h1; exact (Array.getElem?_eq_some_iff.1 h1).1
        · cases hv
      simp only [Option.map_eq_some_iff] at ht
      obtain ⟨x, hx, rfl⟩ := ht
      simp only [hx, Bool.and_eq_true, decide_eq_true_eq] at hr2
      have hk : DataW.Trod enc P W 0 (fun _ => true) true x.type (.agg cs) d p1 := ⟨fuel, hd⟩
      obtain ⟨fuel', hd'⟩ := Below.trod hl hr2.1 hr2.2 hk hb (fun y hy => hp y (by simp [hy]))
      exact ⟨g, x.type, cs, fuel', p1, q, hg, by rw [hx]; rfl, var?_below hb hg hr1 hv, hd', ih h2 hr3 (fun y hy => hp y (by simp [hy])), rfl⟩
/-- What is left behind a law that gives true, and has turned nothing that was there. -/
theorem law_post {f : Func} {s : ChangeSpec} {args : Array Value} {ds gs : List (DataW H)} {before : List MemPlace} {rt : TypeId} (hl : laidOutB P = true)
    (hW : DataW.Whole enc P f.params.toList s.vars false W args.toList ds gs before) (hrt : f.resultTypes.toList = [rt]) (hrb : P.underlying rt = some .bool) (hsz : f.resultTypes.size = 1)
    (hfn : s.fn H (ds ++ gs) = { results := [.lit (.bool true)], args := ds, vars := gs })
    (hp : (f.params.toList.all fun t => P.readableRec t && decide (t < P.types.size)) = true)
    (hv : (s.vars.all fun n => match P.globalNamed n with | some g => (match P.globals[g]? with | some x => P.readableRec x.type && decide (x.type < P.types.size) | none => false) | none => false) = true)
    (hb : Below W.heap.size W W') : s.post enc P f false true false false W args (.bool true) W' := by
  have hlt := hW.lt
  have hW' := hW
  obtain ⟨p, q, hA, hV, rfl, hfz, hnd⟩ := hW
  refine ⟨ds, gs, _, [], p, q, hW', ?_, ?_, ?_, hb.frame _, fun h => by cases h⟩
  · rw [hfn, hrt, hsz]
    exact trodAll_mk1 (shut_bool hrb _)
  · rw [hfn]; exact trodAll_below hl hb hA hp (fun x hx => hlt x (by simp [hx]))
  · rw [hfn]; exact trodVars_below hl hb hV hv (fun x hx => hlt x (by simp [hx]))
end
end Go.Proofs.Pw
/- What a reading says of the cells: trees. -/
namespace Go.Proofs.Pw
open Go.RowKit Go.ChangeShapes Go.WideShapes
set_option linter.unusedSectionVars false
def RCells (W : World) (cs : List Value) (l : List C) : Prop := cs.length = l.length ∧ ∀ (i : Nat) c, l[i]? = some c → ∃ u, cs[i]? = some u ∧ Rep W (Old W) c u
theorem RCells.append {W : World} {cs cs' : List Value} {l l' : List C} (h : RCells W cs l) (k : RCells W cs' l') : RCells W (cs ++ cs') (l ++ l') := by
  refine ⟨by simp [h.1, k.1], fun i c hi => ?_⟩
  by_cases hlt : i < l.length
  · rw [List.getElem?_append_left hlt] at hi
    obtain ⟨u, h1, h2⟩ := h.2 i c hi
    exact ⟨u, by rw [List.getElem?_append_left (by rw [h.1]; exact hlt)]; exact h1, h2⟩
  · rw [List.getElem?_append_right (by omega)] at hi
    obtain ⟨u, h1, h2⟩ := k.2 _ c hi
    exact ⟨u, by rw [List.getElem?_append_right (by rw [h.1]; omega), h.1]; exact h1, h2⟩
theorem rcells_one {W : World} {c : C} {v : Value} (h : Rep W (Old W) c v) : RCells W [v] [c] := by
  refine ⟨rfl, fun i c' hi => ?_⟩
  cases i with
  | zero => simp at hi; subst hi; exact ⟨v, rfl, h⟩
  | succ i => simp at hi
theorem list_choose {α : Type} {Q : Nat → α → Prop} : ∀ (n : Nat), (∀ i, i < n → ∃ a, Q i a) → ∃ l : List α, l.length = n ∧ ∀ i a, l[i]? = some a → Q i a := by
  intro n
  induction n with
  | zero => intro _; exact ⟨[], rfl, by simp⟩
  | succ n ih =>
    intro h
    obtain ⟨l, h1, h2⟩ := ih (fun i hi => h i (by omega))
    obtain ⟨a, ha⟩ := h n (by omega)
    refine ⟨l ++ [a], by simp [h1], fun i b hi => ?_⟩
    by_cases hlt : i < n
    · rw [List.getElem?_append_left (by omega)] at hi; exact h2 i b hi
    · rw [List.getElem?_append_right (by omega)] at hi
      have : i - l.length = 0 := by
        have := (List.getElem?_eq_some_iff.1 hi).1
        simp at this; omega
      rw [this] at hi; simp at hi; subst hi
      rw [show i = n by omega]; exact ha
section
variable {H : Type} {enc : TypeId × Value → H} {P : Program} {W : World} {spare : Nat → Bool} {held : Bool} {fuel : Nat} {t : TypeId} {cs : List Value} {x : DataW H × List MemPlace}
def WB (P : Program) (t : TypeId) (d : DataW H) : Prop := ∀ n ∈ d.weights P t, n ≤ reachBytes
theorem mem_weightsAll {e : TypeId} {d : DataW H} : ∀ {l : List (DataW H)}, d ∈ l → ∀ n ∈ d.weights P e, n ∈ DataW.weightsAll P e l := by
  intro l
  induction l with
  | nil => intro h; cases h
  | cons y l ih =>
    intro h n hn
    simp only [DataW.weightsAll, List.mem_append]
    rcases List.mem_cons.1 h with rfl | h
    · exact .inl hn
    · exact .inr (ih h n hn)
theorem read_int {k : IntKind} (ht : P.underlying t = some (.int k)) (h : DataW.trod enc P W 0 spare held fuel t cs = some x) : ∃ n, RCells W cs [.int k n] ∧ (Lit.int k n).wf = true := by
  obtain ⟨n, rfl, _, hw⟩ := DataW.trod_int ht h
  exact ⟨n, rcells_one (.int k n), hw⟩
theorem read_bool (ht : P.underlying t = some .bool) (h : DataW.trod enc P W 0 spare held fuel t cs = some x) : ∃ b, RCells W cs [.bool b] := by
  obtain ⟨b, rfl, _⟩ := DataW.trod_bool ht h
  exact ⟨b, rcells_one (.bool b)⟩
theorem read_str (ht : P.underlying t = some .string) (h : DataW.trod enc P W 0 spare held fuel t cs = some x) (hw : WB P t x.1) : ∃ s, RCells W cs [.str s] ∧ s.size ≤ reachBytes := by
  obtain ⟨s, rfl, rfl, _⟩ := DataW.trod_string ht h
  refine ⟨s, rcells_one (.str s), ?_⟩
  have := hw s.data.toList.length (by simp [DataW.weights])
  simpa using this
theorem read_slice {e : TypeId} {α : Type} (en : α → List C) (Good : α → Prop) {sz : Nat} (ht : P.underlying t = some (.slice e)) (hsz : P.cellsOf e = sz) (h0 : 0 < sz) (hby : 0 < P.bytesOf e)
    (helem : ∀ n cs' (y : DataW H × List MemPlace), n < fuel → DataW.trod enc P W 0 spare held n e cs' = some y → WB P e y.1 → ∃ a, RCells W cs' (en a) ∧ Good a)
    (h : DataW.trod enc P W 0 spare held fuel t cs = some x) (hw : WB P t x.1) : ∃ l : List α, RCells W cs [.row sz (l.map en)] ∧ l.length ≤ reachBytes ∧ ∀ a ∈ l, Good a := by
  subst hsz
  rcases DataW.trod_slice ht h with ⟨rfl, rfl⟩ | ⟨a, len, cap, elems, rest, n, rfl, rfl, rfl, hb, hl, hm, hlen, hel, hsp, hns⟩
  · exact ⟨[], rcells_one (.nil ..), by simp, by simp⟩
  · have hlen2 : len ≤ reachBytes := by
      have := hw ((elems.length + rest.length) * P.bytesOf e) (by simp [DataW.weights, ht])
      have h2 := Nat.le_mul_of_pos_right (elems.length + rest.length) hby
      omega
    have each : ∀ i, i < len → ∃ α' : α, ∃ cs', W.cells? 0 (a.add (i * P.cellsOf e)) (P.cellsOf e) = some cs' ∧ RCells W cs' (en α') ∧ Good α' := fun i hi => by
      have h1 := hel i hi
      rw [List.getElem?_eq_getElem (by omega), Option.bind_eq_some_iff] at h1
      obtain ⟨cs', h2, h3⟩ := h1
      obtain ⟨α', h4, h5⟩ := helem n cs' _ (Nat.lt_succ_self n) h3 (fun m hm => hw m (by
        simp only [DataW.weights, ht, List.mem_cons, List.mem_append]
        exact .inr (.inl (mem_weightsAll (List.mem_map.2 ⟨_, List.getElem_mem (by omega), rfl⟩) m hm))))
      exact ⟨α', cs', h2, h4, h5⟩
    obtain ⟨l, hl1, hl2⟩ := list_choose len each
    refine ⟨l, rcells_one ?_, by omega, fun b hb => ?_⟩
    · rcases Nat.eq_zero_or_pos len with h0' | h0'
      · subst h0'
        have : l = [] := List.eq_nil_of_length_eq_zero hl1
        subst this; exact .nil ..
      · have key : ∀ (i j : Nat) e' c, (l.map en)[i]? = some e' → e'[j]? = some c → W.cell? (a.add (i * P.cellsOf e + j)) = some ((W.cell? (a.add (i * P.cellsOf e + j))).getD undef) ∧ Rep W (Old W) c ((W.cell? (a.add (i * P.cellsOf e + j))).getD undef) := fun i j e' c he hj => by
          simp only [List.getElem?_map, Option.map_eq_some_iff] at he
          obtain ⟨b, hb, rfl⟩ := he
          obtain ⟨cs', h1, h2, _⟩ := hl2 i b hb
          obtain ⟨u, h3, h4⟩ := h2.2 j c hj
          obtain ⟨_, h5, h6⟩ := World.cells?_some h1
          have hj' : j < P.cellsOf e := by rw [← h5]; exact (List.getElem?_eq_some_iff.1 h3).1
          have h7 := h6 j hj'
          rw [add_add] at h7
          rw [h3] at h7
          rw [h7]; exact ⟨rfl, h4⟩
        have := Rep.row (w := W) (S := Old W) (P.cellsOf e) (l.map en) a cap (fun k => (W.cell? (a.add k)).getD undef) (by simp; omega) (by
          obtain ⟨b, hb⟩ : ∃ b, l[0]? = some b := ⟨l[0], by simp⟩
          obtain ⟨cs', h1, h2, _⟩ := hl2 0 b hb
          obtain ⟨_, h5, h6⟩ := World.cells?_some h1
          have h7 := h6 0 h0
          rw [List.getElem?_eq_getElem (by omega)] at h7
          have := cell_lt h7
          rwa [add_block, add_block] at this) (fun i e' he => by
          simp only [List.getElem?_map, Option.map_eq_some_iff] at he
          obtain ⟨b, hb, rfl⟩ := he
          obtain ⟨cs', h1, h2, _⟩ := hl2 i b hb
          obtain ⟨_, h5, _⟩ := World.cells?_some h1
          rw [← h2.1, h5]) (fun i j e' c he hj => (key i j e' c he hj).1) (fun i j e' c he hj => (key i j e' c he hj).2)
        rw [List.length_map, hl1] at this
        exact this
    · obtain ⟨i, hi⟩ := List.getElem?_of_mem hb
      obtain ⟨_, _, _, h⟩ := hl2 i b hi
      exact h
end
theorem rc_step {W : World} {cs : List Value} {o n : Nat} {l l' : List C} (h : RCells W ((cs.drop o).take n) l) (k : RCells W (cs.drop (o + n)) l') : RCells W (cs.drop o) (l ++ l') := by
  have := h.append k
  rwa [show cs.drop (o + n) = (cs.drop o).drop n by rw [List.drop_drop], List.take_append_drop] at this
theorem rc_end {W : World} {cs : List Value} {o : Nat} (h : cs.length = o) : RCells W (cs.drop o) [] := by
  subst h; rw [List.drop_length]; exact ⟨rfl, by simp⟩
theorem fitL_ofV {B : Int} {l : List T} (h : ∀ t ∈ l, t.fit B) : fitL B l := by
  induction l with
  | nil => exact trivial
  | cons x l ih => exact ⟨h x (by simp), ih (fun t ht => h t (by simp [ht]))⟩
theorem wf_i64 {n : Int} (h : (Lit.int .i64 n).wf = true) : i64 n := by
  simp only [Lit.wf, Bool.and_eq_true, decide_eq_true_eq] at h
  simp only [IntKind.min, IntKind.max, IntKind.signed, IntKind.bits] at h
  unfold i64; simp at h; omega
section
variable {H : Type} {enc : TypeId × Value → H} {P : Program} {W : World} {spare : Nat → Bool} {held : Bool}
theorem read_fields {fuel : Nat} {t : TypeId} {cs : List Value} {x : DataW H × List MemPlace} {fs : Array Field} {l : List (TypeId × Nat)} (ht : P.underlying t = some (.struct fs)) (hfs : fs.toList.map (fun f => (f.type, f.offset)) = l)
    (h : DataW.trod enc P W 0 spare held fuel t cs = some x) (hw : WB P t x.1) : cs.length = P.cellsOf t ∧ ∃ n, n < fuel ∧ ∀ (i : Nat) ty off, l[i]? = some (ty, off) →
      ∃ y, DataW.trod enc P W 0 spare held n ty ((cs.drop off).take (P.cellsOf ty)) = some y ∧ WB P ty y.1 := by
  obtain ⟨xs, n, rfl, rfl, h1, h2, h3⟩ := DataW.trod_struct ht h
  refine ⟨h1, n, Nat.lt_succ_self n, fun i ty off hi => ?_⟩
  rw [← hfs] at hi
  simp only [List.getElem?_map, Option.map_eq_some_iff] at hi
  obtain ⟨f, hf, he⟩ := hi
  cases he
  have hf' : fs[i]? = some f := by simpa using hf
  have h4 := h3 i f hf'
  have hlt : i < xs.length := by rw [h2]; exact (Array.getElem?_eq_some_iff.1 hf').1
  rw [List.getElem?_eq_getElem hlt] at h4
  refine ⟨_, h4, fun m hm => hw m ?_⟩
  simp only [DataW.weights, ht]
  exact DataW.weights_mem_each (j := i) (t := f.type) (d := (xs[i]).1) (by simp [hf]) (by simp [hlt]) m hm
/-- The types of trees. -/
structure TyT (P : Program) (tI tS tK tV tL : TypeId) : Prop where
  i : P.underlying tI = some (.int .i64)
  s : P.underlying tS = some .string
  k : P.underlying tK = some (.slice tS)
  v : ∃ fs, P.underlying tV = some (.struct fs) ∧ fs.toList.map (fun f => (f.type, f.offset)) = [(tI, 0), (tI, 1), (tS, 2), (tK, 3), (tL, 4)]
  l : P.underlying tL = some (.slice tV)
  c : P.cellsOf tI = 1 ∧ P.cellsOf tS = 1 ∧ P.cellsOf tK = 1 ∧ P.cellsOf tV = 5 ∧ P.cellsOf tL = 1
  b : 0 < P.bytesOf tS ∧ 0 < P.bytesOf tV
variable {tI tS tK tV tL : TypeId}
theorem reach_le {n : Nat} (h : n ≤ reachBytes) : lenB 140737488355328 n := by unfold lenB; have := reachBytes_lt; omega
theorem read_T (T0 : TyT P tI tS tK tV tL) : ∀ (fuel : Nat) (cs : List Value) (x : DataW H × List MemPlace), DataW.trod enc P W 0 spare held fuel tV cs = some x → WB P tV x.1 →
    ∃ t : T, RCells W cs t.enc ∧ t.fit 140737488355328 := by
  intro fuel
  induction fuel using Nat.strongRecOn with
  | ind fuel ih =>
    intro cs x h hw
    obtain ⟨fs, hv, hfs⟩ := T0.v
    obtain ⟨c1, c2, c3, c4, c5⟩ := T0.c
    obtain ⟨hlen, n, hn, hf⟩ := read_fields hv hfs h hw
    obtain ⟨y0, k0, w0⟩ := hf 0 tI 0 rfl
    obtain ⟨y1, k1, w1⟩ := hf 1 tI 1 rfl
    obtain ⟨y2, k2, w2⟩ := hf 2 tS 2 rfl
    obtain ⟨y3, k3, w3⟩ := hf 3 tK 3 rfl
    obtain ⟨y4, k4, w4⟩ := hf 4 tL 4 rfl
    rw [c1] at k0 k1; rw [c2] at k2; rw [c3] at k3; rw [c5] at k4
    obtain ⟨kk, r0, f0⟩ := read_int T0.i k0
    obtain ⟨nn, r1, f1⟩ := read_int T0.i k1
    obtain ⟨s, r2, f2⟩ := read_str T0.s k2 w2
    obtain ⟨ks, r3, f3, f3'⟩ := read_slice (fun s : ByteArray => [C.str s]) (fun s => s.size ≤ reachBytes) T0.k c2 (by omega) T0.b.1 (fun n cs' y _ h hw => read_str T0.s h hw) k3 w3
    obtain ⟨l, r4, f4, f4'⟩ := read_slice T.enc (fun t => t.fit 140737488355328) T0.l c4 (by omega) T0.b.2 (fun m cs' y hm h hw => ih m (by omega) cs' y h hw) k4 w4
    refine ⟨.mk kk nn s ks l, ?_, ?_⟩
    · have e : RCells W (cs.drop 0) (T.mk kk nn s ks l).enc := by
        have h5 := rc_step r4 (rc_end (o := 4 + 1) (by rw [hlen, c4]))
        have h4 := rc_step r3 h5
        have h3 := rc_step r2 h4
        have h2 := rc_step r1 h3
        have h1 := rc_step r0 h2
        simpa [T.enc, strs, encL_map] using h1
      simpa using e
    · exact ⟨wf_i64 f0, wf_i64 f1, reach_le f2, ⟨reach_le f3, fun s hs => reach_le (f3' s hs)⟩, reach_le f4, fitL_ofV f4'⟩
theorem rcells_agg {us : Array Value} {l : List C} (h : RCells W us.toList l) : RepD W (Old W) (.agg l) (.agg us) :=
  ⟨us, rfl, by simpa using h.1, fun i c hi => by obtain ⟨u, h1, h2⟩ := h.2 i c hi; exact ⟨u, by simpa using h1, h2⟩⟩
end
end Go.Proofs.Pw
/- What a reading says of the cells: ways. -/
namespace Go.Proofs.Pw
open Go.RowKit Go.ChangeShapes Go.WideShapes
set_option linter.unusedSectionVars false
section
variable {H : Type} {enc : TypeId × Value → H} {P : Program} {W : World} {spare : Nat → Bool} {held : Bool} {tB tS tI tW tP : TypeId}
theorem read_Stp (hB : P.underlying tB = some .bool) (hS : P.underlying tS = some .string) (hI : P.underlying tI = some (.int .i64)) (hW : ∃ fs, P.underlying tW = some (.struct fs) ∧ fs.toList.map (fun f => (f.type, f.offset)) = [(tB, 0), (tS, 1), (tI, 2)])
    (hc : P.cellsOf tB = 1 ∧ P.cellsOf tS = 1 ∧ P.cellsOf tI = 1 ∧ P.cellsOf tW = 3) {fuel : Nat} {cs : List Value} {x : DataW H × List MemPlace} (h : DataW.trod enc P W 0 spare held fuel tW cs = some x) (hw : WB P tW x.1) :
    ∃ s : Stp, RCells W cs s.enc ∧ stpFit s := by
  obtain ⟨fs, hv, hfs⟩ := hW
  obtain ⟨c1, c2, c3, c4⟩ := hc
  obtain ⟨hlen, n, hn, hf⟩ := read_fields hv hfs h hw
  obtain ⟨y0, k0, w0⟩ := hf 0 tB 0 rfl
  obtain ⟨y1, k1, w1⟩ := hf 1 tS 1 rfl
  obtain ⟨y2, k2, w2⟩ := hf 2 tI 2 rfl
  rw [c1] at k0; rw [c2] at k1; rw [c3] at k2
  obtain ⟨b, r0⟩ := read_bool hB k0
  obtain ⟨s, r1, f1⟩ := read_str hS k1 w1
  obtain ⟨a, r2, f2⟩ := read_int hI k2
  refine ⟨⟨b, s, a⟩, ?_, ?_⟩
  · have e : RCells W (cs.drop 0) (Stp.enc ⟨b, s, a⟩) := by
      have h3 := rc_step r2 (rc_end (o := 2 + 1) (by rw [hlen, c4]))
      have h2 := rc_step r1 h3
      have h1 := rc_step r0 h2
      simpa [Stp.enc] using h1
    simpa using e
  · exact ⟨reach_le f1, (wf_i64 f2).1, (wf_i64 f2).2⟩
theorem read_way (hB : P.underlying tB = some .bool) (hS : P.underlying tS = some .string) (hI : P.underlying tI = some (.int .i64)) (hW : ∃ fs, P.underlying tW = some (.struct fs) ∧ fs.toList.map (fun f => (f.type, f.offset)) = [(tB, 0), (tS, 1), (tI, 2)])
    (hc : P.cellsOf tB = 1 ∧ P.cellsOf tS = 1 ∧ P.cellsOf tI = 1 ∧ P.cellsOf tW = 3) (hP : P.underlying tP = some (.slice tW)) (hby : 0 < P.bytesOf tW) {fuel : Nat} {v : Value} {x : DataW H × List MemPlace} (h : DataW.trod enc P W 0 spare held fuel tP [v] = some x) (hw : WB P tP x.1) :
    ∃ p : List Stp, RepD W (Old W) (.one (.row 3 (encS p))) v ∧ wayFit p := by
  obtain ⟨p, r, f1, f2⟩ := read_slice Stp.enc stpFit hP hc.2.2.2 (by omega) hby (fun n cs' y _ h hw => read_Stp hB hS hI hW hc h hw) h hw
  obtain ⟨u, hu, hr⟩ := r.2 0 _ rfl
  cases hu
  exact ⟨p, hr, reach_le f1, f2⟩
end
end Go.Proofs.Pw
