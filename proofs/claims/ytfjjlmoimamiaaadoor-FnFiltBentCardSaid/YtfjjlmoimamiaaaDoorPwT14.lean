/- FnFiltBent: the law, run. -/
import Derived.Test.YtfjjlmoimamiaaaDoorPwT9
import Derived.Test.YtfjjlmoimamiaaaDoorPwT13
import Derived.ProofKit
import Derived.ChangeOld
import Derived.Below
import Derived.Carry
import Derived.SizedLaws
import Derived.ChangeArms
import Derived.ChangeVars
import Derived.WalkSmall
import Derived.ChangeSlices
import Derived.Test.YtfjjlmoimamiaaaDoorPwT10
import Derived.LaidHandle
set_option linter.unusedSimpArgs false
set_option linter.unusedVariables false
set_option linter.unusedSimpArgs false
set_option maxRecDepth 20000
namespace Go.Proofs.Pw
set_option linter.unusedSectionVars false
variable [Globs]
def x_FiltTextI : X := (.seq (.reg [⟨some 1, none, .box (.t 0) (some 9)⟩, ⟨some 2, none, .mv (.k (.c (.str ⟨#[]⟩)))⟩] none [1]) (.seq (.seq (.reg [⟨some 3, none, .load (.t 1) (some 9)⟩, ⟨some 4, none, .callb 19 [(.t 3)]⟩, ⟨some 5, none, .not (.t 4)⟩] none [1, 5]) (.cond (.t 5) (.seq (.reg [⟨some 2, none, .mv (.k (.c (.str ⟨#[]⟩)))⟩] none [2]) .ret) .skip)) (.seq (.reg [⟨some 6, none, .load (.t 1) (some 9)⟩, ⟨some 7, none, .call 49 [(.t 6)]⟩, ⟨some 2, none, .mv (.t 7)⟩] none [2]) .ret)))
theorem chk_FiltTextI : chkX Go.Proofs.Tryd.prog 8 (Go.Proofs.Tryd.f21.body.getD .skip) x_FiltTextI = true := by kernel_rfl
theorem rs_FiltTextI : okRs Go.Proofs.Tryd.prog Go.Proofs.Tryd.f21.results.toList [.tmp 2] = true := by kernel_rfl
theorem call_FiltTextI : okCallee Go.Proofs.Tryd.prog 21 = true := by kernel_rfl
def x_lawFB : X := (.seq (.reg [⟨some 2, none, .mv (.k (.c (.bool false)))⟩] none [0]) (.seq (.seq (.reg [⟨some 10, none, .mv (.t 0)⟩, ⟨some 11, none, .len (.t 10) false⟩, ⟨some 12, none, .bin false .gtr (.t 11) (.k (.c (.int .i64 1048576)))⟩] none [0, 12]) (.cond (.t 12) (.seq (.reg [⟨some 2, none, .mv (.k (.c (.bool true)))⟩] none [2]) .ret) .skip)) (.seq (.reg [⟨some 13, none, .mv (.t 0)⟩, ⟨some 14, none, .callr 18 [(.t 13)]⟩, ⟨some 3, none, .alloc [(.c (.int .i64 0)), (.c (.int .i64 0)), (.c (.str ⟨#[]⟩)), (.c (.int .i64 0)), (.c (.int .i64 0)), (.c (.str ⟨#[]⟩)), (.z 1), (.z 5), (.z 9)]⟩, ⟨none, none, .st (.t 3) (.t 14) (some 9)⟩] none [3]) (.seq (.seq (.reg [⟨some 15, none, .load (.t 3) (some 9)⟩, ⟨some 16, none, .callb 19 [(.t 15)]⟩, ⟨some 17, none, .load (.t 3) (some 9)⟩, ⟨some 18, none, .call 20 [(.t 17)]⟩, ⟨some 19, none, .bin true .neq (.t 16) (.t 18)⟩, ⟨some 20, none, .mv (.t 19)⟩, ⟨some 21, some (20, false), .load (.t 3) (some 9)⟩, ⟨some 22, some (20, false), .call 20 [(.t 21)]⟩, ⟨some 23, some (20, false), .not (.t 22)⟩, ⟨some 24, none, .pick (.t 20) (.k (.c (.bool true))) (.t 23)⟩] (some 3) [3, 24]) (.cond (.t 24) (.seq (.reg [⟨some 25, none, .load (.t 3) (some 9)⟩, ⟨some 26, none, .callb 19 [(.t 25)]⟩, ⟨some 27, none, .load (.t 3) (some 9)⟩, ⟨some 28, none, .call 20 [(.t 27)]⟩, ⟨some 29, none, .bin true .eql (.t 26) (.t 28)⟩, ⟨some 30, none, .mv (.t 29)⟩, ⟨some 31, some (30, true), .load (.t 3) (some 9)⟩, ⟨some 32, some (30, true), .call 20 [(.t 31)]⟩, ⟨some 33, some (30, true), .mv (.t 32)⟩, ⟨some 34, some (33, false), .load (.t 3) (some 9)⟩, ⟨some 35, some (33, false), .call 21 [(.t 34)]⟩, ⟨some 36, some (33, false), .bin false .eql (.t 35) (.k (.c (.str ⟨#[]⟩)))⟩, ⟨some 37, some (30, true), .pick (.t 33) (.k (.c (.bool true))) (.t 36)⟩, ⟨some 38, none, .pick (.t 30) (.t 37) (.k (.c (.bool false)))⟩, ⟨some 2, none, .mv (.t 38)⟩] (some 3) [2]) .ret) .skip)) (.seq (.reg [⟨some 39, none, .load (.t 3) (some 9)⟩, ⟨some 4, none, .alloc [(.c (.int .i64 0)), (.c (.int .i64 0)), (.c (.str ⟨#[]⟩)), (.c (.int .i64 0)), (.c (.int .i64 0)), (.c (.str ⟨#[]⟩)), (.z 1), (.z 5), (.z 9)]⟩, ⟨none, none, .st (.t 4) (.t 39) (some 9)⟩] none [3, 4]) (.seq (.reg [⟨some 40, none, .bsl 9 []⟩, ⟨some 41, none, .fa (.t 3) 8⟩, ⟨some 42, none, .load (.t 41) none⟩, ⟨some 43, none, .app (.t 40) (.t 42) 9 136 []⟩, ⟨some 44, none, .build [(.c (.int .i64 0)), (.c (.int .i64 0)), (.c (.str ⟨#[]⟩)), (.c (.int .i64 0)), (.c (.int .i64 0)), (.c (.str ⟨#[]⟩)), (.z 1), (.z 5), (.z 9)] [(0, (.k (.c (.int .i64 1))), none)]⟩, ⟨some 45, none, .bsl 9 [((.t 44), (some 9))]⟩, ⟨some 46, none, .app (.t 43) (.t 45) 9 136 []⟩, ⟨some 47, none, .fa (.t 4) 8⟩, ⟨none, none, .st (.t 47) (.t 46) none⟩] none [3, 4]) (.seq (.reg [⟨some 48, none, .load (.t 3) (some 9)⟩, ⟨some 5, none, .alloc [(.c (.int .i64 0)), (.c (.int .i64 0)), (.c (.str ⟨#[]⟩)), (.c (.int .i64 0)), (.c (.int .i64 0)), (.c (.str ⟨#[]⟩)), (.z 1), (.z 5), (.z 9)]⟩, ⟨none, none, .st (.t 5) (.t 48) (some 9)⟩] none [3, 4, 5]) (.seq (.reg [⟨some 49, none, .fa (.t 5) 0⟩, ⟨none, none, .st (.t 49) (.k (.c (.int .i64 22))) none⟩] none [3, 4, 5]) (.seq (.reg [⟨some 50, none, .load (.t 3) (some 9)⟩, ⟨some 6, none, .alloc [(.c (.int .i64 0)), (.c (.int .i64 0)), (.c (.str ⟨#[]⟩)), (.c (.int .i64 0)), (.c (.int .i64 0)), (.c (.str ⟨#[]⟩)), (.z 1), (.z 5), (.z 9)]⟩, ⟨none, none, .st (.t 6) (.t 50) (some 9)⟩] none [3, 4, 5, 6]) (.seq (.reg [⟨some 51, none, .fa (.t 6) 1⟩, ⟨none, none, .st (.t 51) (.k (.c (.int .i64 60))) none⟩] none [3, 4, 5, 6]) (.seq (.reg [⟨some 52, none, .load (.t 3) (some 9)⟩, ⟨some 7, none, .alloc [(.c (.int .i64 0)), (.c (.int .i64 0)), (.c (.str ⟨#[]⟩)), (.c (.int .i64 0)), (.c (.int .i64 0)), (.c (.str ⟨#[]⟩)), (.z 1), (.z 5), (.z 9)]⟩, ⟨none, none, .st (.t 7) (.t 52) (some 9)⟩] none [3, 4, 5, 6, 7]) (.seq (.reg [⟨some 53, none, .fa (.t 7) 2⟩, ⟨none, none, .st (.t 53) (.k (.c (.str ⟨#[65]⟩))) none⟩] none [3, 4, 5, 6, 7]) (.seq (.reg [⟨some 54, none, .build [(.c (.int .i64 0)), (.c (.int .i64 0)), (.c (.str ⟨#[]⟩)), (.c (.int .i64 0)), (.c (.int .i64 0)), (.c (.str ⟨#[]⟩)), (.z 1), (.z 5), (.z 9)] [(0, (.k (.c (.int .i64 13))), none)]⟩, ⟨some 55, none, .load (.t 3) (some 9)⟩, ⟨some 56, none, .bsl 9 [((.t 54), (some 9)), ((.t 55), (some 9))]⟩, ⟨some 57, none, .build [(.c (.int .i64 0)), (.c (.int .i64 0)), (.c (.str ⟨#[]⟩)), (.c (.int .i64 0)), (.c (.int .i64 0)), (.c (.str ⟨#[]⟩)), (.z 1), (.z 5), (.z 9)] [(0, (.k (.c (.int .i64 20))), none), (8, (.t 56), none)]⟩, ⟨some 8, none, .alloc [(.c (.int .i64 0)), (.c (.int .i64 0)), (.c (.str ⟨#[]⟩)), (.c (.int .i64 0)), (.c (.int .i64 0)), (.c (.str ⟨#[]⟩)), (.z 1), (.z 5), (.z 9)]⟩, ⟨none, none, .st (.t 8) (.t 57) (some 9)⟩] none [3, 4, 5, 6, 7, 8]) (.seq (.seq (.reg [⟨some 9, none, .mv (.k (.c (.int .i64 0)))⟩] none [3, 4, 5, 6, 7, 8, 9]) (.block 0 (.loop (.seq (.seq (.reg [⟨some 58, none, .mv (.t 9)⟩, ⟨some 59, none, .fa (.t 3) 8⟩, ⟨some 60, none, .load (.t 59) none⟩, ⟨some 61, none, .len (.t 60) false⟩, ⟨some 62, none, .bin false .lss (.t 58) (.t 61)⟩] none [3, 4, 5, 6, 7, 8, 9, 62]) (.cond (.t 62) .skip (.exit 0))) (.seq (.block 1 (.seq (.reg [⟨some 65, none, .fa (.t 3) 8⟩, ⟨some 66, none, .load (.t 65) none⟩, ⟨some 67, none, .mv (.t 9)⟩, ⟨some 68, none, .ia (.t 66) (.t 67) 9⟩, ⟨some 69, none, .load (.t 68) (some 9)⟩, ⟨some 70, none, .callb 19 [(.t 69)]⟩, ⟨some 71, none, .not (.t 70)⟩] none [3, 4, 5, 6, 7, 8, 9, 71]) (.cond (.t 71) (.seq (.reg [⟨some 2, none, .mv (.k (.c (.bool false)))⟩] none [2]) .ret) .skip))) (.reg [⟨some 63, none, .mv (.t 9)⟩, ⟨some 64, none, .bin false .add (.t 63) (.k (.c (.int .i64 1)))⟩, ⟨some 9, none, .mv (.t 64)⟩] none [3, 4, 5, 6, 7, 8, 9])))))) (.seq (.reg [⟨some 72, none, .load (.t 4) (some 9)⟩, ⟨some 73, none, .callb 19 [(.t 72)]⟩, ⟨some 74, none, .not (.t 73)⟩, ⟨some 75, none, .mv (.t 74)⟩, ⟨some 76, some (75, true), .load (.t 5) (some 9)⟩, ⟨some 77, some (75, true), .callb 19 [(.t 76)]⟩, ⟨some 78, some (75, true), .not (.t 77)⟩, ⟨some 79, none, .pick (.t 75) (.t 78) (.k (.c (.bool false)))⟩, ⟨some 80, none, .mv (.t 79)⟩, ⟨some 81, some (80, true), .load (.t 6) (some 9)⟩, ⟨some 82, some (80, true), .callb 19 [(.t 81)]⟩, ⟨some 83, some (80, true), .not (.t 82)⟩, ⟨some 84, none, .pick (.t 80) (.t 83) (.k (.c (.bool false)))⟩, ⟨some 85, none, .mv (.t 84)⟩, ⟨some 86, some (85, true), .load (.t 7) (some 9)⟩, ⟨some 87, some (85, true), .callb 19 [(.t 86)]⟩, ⟨some 88, some (85, true), .not (.t 87)⟩, ⟨some 89, none, .pick (.t 85) (.t 88) (.k (.c (.bool false)))⟩, ⟨some 90, none, .mv (.t 89)⟩, ⟨some 91, some (90, true), .load (.t 8) (some 9)⟩, ⟨some 92, some (90, true), .callb 19 [(.t 91)]⟩, ⟨some 93, some (90, true), .not (.t 92)⟩, ⟨some 94, none, .pick (.t 90) (.t 93) (.k (.c (.bool false)))⟩, ⟨some 2, none, .mv (.t 94)⟩] none [2]) .ret)))))))))))))))
theorem chk_lawFB : chkX Go.Proofs.Tryd.prog 95 (Go.Proofs.Tryd.f4.body.getD .skip) x_lawFB = true := by kernel_rfl
theorem rs_lawFB : okRs Go.Proofs.Tryd.prog Go.Proofs.Tryd.f4.results.toList [.tmp 2] = true := by kernel_rfl
noncomputable def spFTxN  : Spec := Spec.of (ι := F) [false] (fun i => [.d (.agg i.enc)]) (fun i => i.fit 140737488355328 ∧ ¬ okF i) (fun _ => [.d (.one (.str ⟨#[]⟩))]) (fun _ => [.gone])
theorem spFTxN_inj : ∀ i j : F, (fun (i : F) => ([.d (.agg i.enc)] : List AV)) i = (fun (i : F) => ([.d (.agg i.enc)] : List AV)) j → i = j := by
  intro t t' h
  simpa [strs_eq, T.enc_eq, encL_eq, F.enc_eq, encF_eq, Tk.enc_eq, encTk_eq, Gn.enc_eq, ints_eq] using h
theorem spFTxN_md  : (spFTxN).md = [false] := rfl
theorem spFTxN_pre  (t : F) : (spFTxN).pre [.d (.agg t.enc)] = (t.fit 140737488355328 ∧ ¬ okF t) := Spec.of_pre' spFTxN_inj t
theorem spFTxN_alts  : (spFTxN).alts = none := rfl
theorem spFTxN_res  (t : F) : (spFTxN).res [.d (.agg t.enc)] = [.d (.one (.str ⟨#[]⟩))] := Spec.of_res spFTxN_inj t
theorem spFTxN_out  (t : F) : (spFTxN).out [.d (.agg t.enc)] = [.gone] := Spec.of_out spFTxN_inj t
theorem fTxN_sound (hG : get? 0 Globs.G = some ktabC) : Sound Go.Proofs.Tryd.prog 21 spFTxN := by
  refine sound_fam (GOK.cons call_FiltOkI (filtOkI_sound hG) GOK.nil) Go.Proofs.Tryd.func21 (c := Go.Proofs.Tryd.f21.body.getD .skip) rfl (n := 8) rfl chk_FiltTextI rs_FiltTextI (fun _ => by simp) ?_ ?_
  · exact spFTxN_inj
  · rintro t ⟨h1, h2⟩
    have c : ((okFI t 1 16).1 = true) = False := eq_false (fun h => h2 ((okFI_iff t).1 h))
    simp only [x_FiltTextI, rg, go_sem, seval, Prod.fst, F.enc_len, c, spFiltOkI_md, spFiltOkI_pre, spFiltOkI_alts, spFiltOkI_res, spFiltOkI_out]
    repeat' (first | with_reducible assumption | with_reducible refine And.intro ?_ ?_ | intro _)
    all_goals first | omega | assumption | skip
def idF : F := .mk 1 0 ⟨#[]⟩ (.mk 0 0 ⟨#[]⟩ [] []) []
theorem idF_fit : idF.fit 140737488355328 :=
  ⟨by unfold i64; omega, by unfold i64; omega, by unfold lenB; decide, T.fit_mono (by decide) zero_dr.1, by unfold lenB; simp, trivial⟩
noncomputable def spLawFB  : Spec := Spec.of (ι := (List Int)) [false] (fun i => [.d (.one (.row 1 (ints .u8 i)))]) (fun i => bytes i) (fun _ => [.d (.one (.bool true))]) (fun _ => [.gone])
theorem spLawFB_inj : ∀ i j : (List Int), (fun (i : (List Int)) => ([.d (.one (.row 1 (ints .u8 i)))] : List AV)) i = (fun (i : (List Int)) => ([.d (.one (.row 1 (ints .u8 i)))] : List AV)) j → i = j := by
  intro a a' h
  simpa [strs_eq, T.enc_eq, encL_eq, F.enc_eq, encF_eq, Tk.enc_eq, encTk_eq, Gn.enc_eq, ints_eq] using h
theorem spLawFB_pre  (a : List Int) : (spLawFB).pre [.d (.one (.row 1 (ints .u8 a)))] = (bytes a) := Spec.of_pre' spLawFB_inj a
theorem spLawFB_res  (a : List Int) : (spLawFB).res [.d (.one (.row 1 (ints .u8 a)))] = [.d (.one (.bool true))] := Spec.of_res spLawFB_inj a
set_option maxHeartbeats 4000000 in
theorem lawFB_sound (hG : get? 0 Globs.G = some ktabC) : Sound Go.Proofs.Tryd.prog 4 spLawFB := by
  refine sound_fam (GOK.cons (l := [(19, spFiltOkI), (20, spOkF), (21, spFTxN)]) call_DrawFiltOk DrawFiltOk_sound (GOK.cons call_FiltOkI (filtOkI_sound hG) (GOK.cons call_FiltOk sOkF_sound (GOK.cons call_FiltTextI (fTxN_sound hG) GOK.nil)))) Go.Proofs.Tryd.func4 (c := Go.Proofs.Tryd.f4.body.getD .skip) rfl (n := 95) rfl chk_lawFB rs_lawFB (fun _ => by simp) ?_ ?_
  · exact spLawFB_inj
  · rintro a h1
    simp only [bytes, lenB] at h1
    simp only [x_lawFB, rg, go_sem, seval, Prod.fst, ints_len, F.enc, T.enc, List.cons_append, List.nil_append, spDFilt_md, spDFilt_pre, ↓spDFilt_all, spDFilt_all]
    repeat' (first | with_reducible assumption | with_reducible refine And.intro ?_ ?_ | intro _)
    all_goals first | omega | skip
    · exact (h1.1 _ (by assumption)).1
    · exact (h1.1 _ (by assumption)).2
    · unfold lenB; omega
    rename_i k n s vk vn vs vks vl l hd
    have z0 := hd.fit
    have z1 := hd.2.1
    have z2 : sizeF (F.mk k n s (T.mk vk vn vs vks vl) l) ≤ 1048577 := Int.le_trans hd.2.2 (by decide)
    by_cases c : okF (F.mk k n s (T.mk vk vn vs vks vl) l)
    · have e1 : ((okFI (F.mk k n s (T.mk vk vn vs vks vl) l) 1 16).1 = true) = True := eq_true ((okFI_iff _).2 c)
      have l1 : l.length ≤ 100000 := by have := hd.1.2.2.2.2.1; unfold lenB at this; omega
      simp only [rg, go_sem, seval, Prod.fst, foldF, e1, c, encF_len, spFiltOkI_md, spFiltOkI_pre, spFiltOkI_alts, spFiltOkI_res, spFiltOkI_out, spOkF_md, spOkF_pre, spOkF_alts, spOkF_res, spOkF_out, spFTxN_md, spFTxN_pre, spFTxN_alts, spFTxN_res, spFTxN_out]
      repeat' (first | with_reducible assumption | with_reducible refine And.intro ?_ ?_ | intro _)
      all_goals first | omega | assumption | skip
      have fa : (F.mk k n s (T.mk vk vn vs vks vl) (l ++ [idF])).fit 140737488355328 := by
        obtain ⟨y1, y2, y3, y4, y5, y6⟩ := z0
        refine ⟨y1, y2, y3, y4, ?_, fitF_app y6 ⟨idF_fit, trivial⟩⟩
        unfold lenB; simp; omega
      have fb' : (F.mk 22 n s (T.mk vk vn vs vks vl) l).fit 140737488355328 := by
        obtain ⟨y1, y2, y3, y4, y5, y6⟩ := z0
        exact ⟨by unfold i64; omega, y2, y3, y4, y5, y6⟩
      have fc : (F.mk k 60 s (T.mk vk vn vs vks vl) l).fit 140737488355328 := by
        obtain ⟨y1, y2, y3, y4, y5, y6⟩ := z0
        exact ⟨y1, by unfold i64; omega, y3, y4, y5, y6⟩
      have fd : (F.mk k n ⟨#[65]⟩ (T.mk vk vn vs vks vl) l).fit 140737488355328 := by
        obtain ⟨y1, y2, y3, y4, y5, y6⟩ := z0
        exact ⟨y1, y2, by unfold lenB; decide, y4, y5, y6⟩
      have ft : (F.mk 20 0 ⟨#[]⟩ (T.mk 0 0 ⟨#[]⟩ [] []) [F.mk 13 0 ⟨#[]⟩ (T.mk 0 0 ⟨#[]⟩ [] []) [], F.mk k n s (T.mk vk vn vs vks vl) l]).fit 140737488355328 := by
        have y0 : (T.mk 0 0 ⟨#[]⟩ [] []).fit 140737488355328 := T.fit_mono (by decide) zero_dr.1
        exact ⟨by unfold i64; omega, by unfold i64; omega, by unfold lenB; decide, y0, by unfold lenB; simp, ⟨by unfold i64; omega, by unfold i64; omega, by unfold lenB; decide, y0, by unfold lenB; simp, trivial⟩, z0, trivial⟩
      have ka : ((okFI (F.mk k n s (T.mk vk vn vs vks vl) (l ++ [idF])) 1 16).1 = true) = False := eq_false (fun h => more_bad c idF ((okFI_iff _).1 h))
      have kb : ((okFI (F.mk 22 n s (T.mk vk vn vs vks vl) l) 1 16).1 = true) = False := eq_false (fun h => kind_bad ((okFI_iff _).1 h))
      have kc : ((okFI (F.mk k 60 s (T.mk vk vn vs vks vl) l) 1 16).1 = true) = False := eq_false (fun h => num_bad ((okFI_iff _).1 h))
      have kd : ((okFI (F.mk k n ⟨#[65]⟩ (T.mk vk vn vs vks vl) l) 1 16).1 = true) = False := eq_false (fun h => str_bad ((okFI_iff _).1 h))
      have kt : ((okFI (F.mk 20 0 ⟨#[]⟩ (T.mk 0 0 ⟨#[]⟩ [] []) [F.mk 13 0 ⟨#[]⟩ (T.mk 0 0 ⟨#[]⟩ [] []) [], F.mk k n s (T.mk vk vn vs vks vl) l]) 1 16).1 = true) = False := eq_false (fun h => turn_bad ((okFI_iff _).1 h))
      have f8 : DV.agg [C.int .i64 20, C.int .i64 0, C.str ⟨#[]⟩, C.int .i64 0, C.int .i64 0, C.str ⟨#[]⟩, C.row 1 [], C.row 5 [], C.row 9 [[C.int .i64 13, C.int .i64 0, C.str ⟨#[]⟩, C.int .i64 0, C.int .i64 0, C.str ⟨#[]⟩, C.row 1 [], C.row 5 [], C.row 9 []], [C.int .i64 k, C.int .i64 n, C.str s, C.int .i64 vk, C.int .i64 vn, C.str vs, C.row 1 (strs vks), C.row 5 (encL vl), C.row 9 (encF l)]]] = DV.agg (F.mk 20 0 ⟨#[]⟩ (T.mk 0 0 ⟨#[]⟩ [] []) [F.mk 13 0 ⟨#[]⟩ (T.mk 0 0 ⟨#[]⟩ [] []) [], F.mk k n s (T.mk vk vn vs vks vl) l]).enc := rfl
      refine pw_loop (ι := Nat) (fun i => l.length - i) (fun i => i ≤ l.length)
        (fun i => ⟨[(3, .q (.box 3 0)), (4, .q (.box 4 0)), (5, .q (.box 5 0)), (6, .q (.box 6 0)), (7, .q (.box 7 0)), (8, .q (.box 8 0)), (9, .q (.c (.int .i64 i)))],
          [(3, [.c (.int .i64 k), .c (.int .i64 n), .c (.str s), .c (.int .i64 vk), .c (.int .i64 vn), .c (.str vs), .c (.row 1 (strs vks)), .c (.row 5 (encL vl)), .c (.row 9 (encF l))]),
           (4, [.c (.int .i64 k), .c (.int .i64 n), .c (.str s), .c (.int .i64 vk), .c (.int .i64 vn), .c (.str vs), .c (.row 1 (strs vks)), .c (.row 5 (encL vl)), .own 43]),
           (5, [.c (.int .i64 22), .c (.int .i64 n), .c (.str s), .c (.int .i64 vk), .c (.int .i64 vn), .c (.str vs), .c (.row 1 (strs vks)), .c (.row 5 (encL vl)), .c (.row 9 (encF l))]),
           (6, [.c (.int .i64 k), .c (.int .i64 60), .c (.str s), .c (.int .i64 vk), .c (.int .i64 vn), .c (.str vs), .c (.row 1 (strs vks)), .c (.row 5 (encL vl)), .c (.row 9 (encF l))]),
           (7, [.c (.int .i64 k), .c (.int .i64 n), .c (.str ⟨#[65]⟩), .c (.int .i64 vk), .c (.int .i64 vn), .c (.str vs), .c (.row 1 (strs vks)), .c (.row 5 (encL vl)), .c (.row 9 (encF l))]),
           (8, [.c (.int .i64 20), .c (.int .i64 0), .c (.str ⟨#[]⟩), .c (.int .i64 0), .c (.int .i64 0), .c (.str ⟨#[]⟩), .z 1, .z 5, .full 9 [[.int .i64 13, .int .i64 0, .str ⟨#[]⟩, .int .i64 0, .int .i64 0, .str ⟨#[]⟩, .row 1 [], .row 5 [], .row 9 []], [.int .i64 k, .int .i64 n, .str s, .int .i64 vk, .int .i64 vn, .str vs, .row 1 (strs vks), .row 5 (encL vl), .row 9 (encF l)]]])],
          [(43, 9, encF (l ++ [idF]))]⟩) 0 (Nat.zero_le _) (Le.of_eq (by simp [encF_app, encF, idF, F.enc, T.enc, strs, encL])) ?_
      intro i hi
      rcases Nat.lt_or_ge i l.length with hlt | hge
      · obtain ⟨t, ht, _, hmem⟩ := drop_at hlt
        have a1 := encF_at ht
        have a2 : ((i : Int) < (l.length : Int)) = True := by simp; omega
        have a3 := fitF_mem z0.2.2.2.2.2 t hmem
        have a4 := F.enc_len t
        have a5 : ((okFI t 1 16).1 = true) = True := eq_true ((okFI_iff _).2 (kid_ok c hmem))
        simp only [rg, go_sem, seval, Prod.fst, a1, a2, a4, a5, encF_len, spFiltOkI_md, spFiltOkI_pre, spFiltOkI_alts, spFiltOkI_res, spFiltOkI_out]
        repeat' (first | with_reducible assumption | with_reducible refine And.intro ?_ ?_ | intro _)
        all_goals first | omega | assumption | skip
        exact ⟨i + 1, by omega, by omega, Le.of_eq (by simp)⟩
      · have a2 : ((i : Int) < (l.length : Int)) = False := by simp; omega
        simp only [rg, go_sem, seval, Prod.fst, a2, foldF, f8, ka, kb, kc, kd, kt, encF_len, spFiltOkI_md, spFiltOkI_pre, spFiltOkI_alts, spFiltOkI_res, spFiltOkI_out]
        repeat' (first | with_reducible assumption | with_reducible refine And.intro ?_ ?_ | intro _)
        all_goals first | omega | assumption | skip
    · have e1 : ((okFI (F.mk k n s (T.mk vk vn vs vks vl) l) 1 16).1 = true) = False := eq_false (fun h => c ((okFI_iff _).1 h))
      simp only [rg, go_sem, seval, Prod.fst, foldF, e1, c, spFiltOkI_md, spFiltOkI_pre, spFiltOkI_alts, spFiltOkI_res, spFiltOkI_out, spOkF_md, spOkF_pre, spOkF_alts, spOkF_res, spOkF_out, spFTxN_md, spFTxN_pre, spFTxN_alts, spFTxN_res, spFTxN_out]
      repeat' (first | with_reducible assumption | with_reducible refine And.intro ?_ ?_ | intro _)
      all_goals first | omega | assumption | skip
end Go.Proofs.Pw
/- From what a law's arguments are told to be, to what is shown of its run. -/
namespace Go.Proofs.Pw
open Go.RowKit
set_option linter.unusedSectionVars false
/-- All blocks that are there. -/
def Old (w : World) (g : Nat) : Prop := g < w.heap.size
theorem cell_lt {w : World} {a : Addr} {v : Value} (h : w.cell? a = some v) : a.block < w.heap.size := by
  unfold World.cell? at h
  rcases Nat.lt_or_ge a.block w.heap.size with hlt | hge
  · exact hlt
  · rw [Array.getElem?_eq_none hge] at h; simp at h
theorem rep_ints {k : IntKind} {w : World} {a : Option Addr} {len cap : Nat} {zs : List Int}
    (h : (a = none ∧ len = 0 ∧ cap = 0 ∧ zs = []) ∨ ∃ x, a = some x ∧ len ≤ cap ∧ cap ≤ maxLen ∧ zs.length = cap ∧ (∀ i, i < zs.length → w.cell? (x.add i) = some (.int k (zs.getD i 0))) ∧ ∀ n ∈ zs, (Lit.int k n).wf = true) :
    Rep w (Old w) (.row 1 (ints k (zs.take len))) (.slice a len cap) ∧ (zs.take len).length = len ∧ ∀ n ∈ zs.take len, (Lit.int k n).wf = true := by
  rcases h with ⟨rfl, rfl, rfl, rfl⟩ | ⟨x, rfl, hl, hm, hz, hc, hw⟩
  · exact ⟨.nil .., rfl, by simp⟩
  · have hlen : (zs.take len).length = len := by simp; omega
    refine ⟨?_, hlen, fun n hn => hw n (List.mem_of_mem_take hn)⟩
    rcases Nat.eq_zero_or_pos len with h0 | h0
    · subst h0; exact .nil ..
    · have key : ∀ (i j : Nat) e c, (ints k (zs.take len))[i]? = some e → e[j]? = some c → j = 0 ∧ i < zs.length ∧ c = .int k (zs.getD i 0) := fun i j e c he hj => by
        simp only [ints, List.getElem?_map, Option.map_eq_some_iff] at he
        obtain ⟨n, hn, rfl⟩ := he
        rw [List.getElem?_take] at hn
        split at hn
        · cases j with
          | zero => simp at hj; subst hj; exact ⟨rfl, (List.getElem?_eq_some_iff.1 hn).1, by simp [hn]⟩
          | succ j => simp at hj
        · cases hn
      have hel : (ints k (zs.take len)).length = len := by rw [ints_len, hlen]
      have := Rep.row (w := w) (S := Old w) 1 (ints k (zs.take len)) x cap (fun i => .int k (zs.getD i 0)) (by omega) (by
        have := cell_lt (hc 0 (by omega)); rwa [add_block] at this) (fun i e he => by
          simp only [ints, List.getElem?_map, Option.map_eq_some_iff] at he
          obtain ⟨n, _, rfl⟩ := he; rfl) (fun i j e c he hj => by
          obtain ⟨rfl, h1, _⟩ := key i j e c he hj
          simpa using hc i h1) (fun i j e c he hj => by
          obtain ⟨rfl, h1, rfl⟩ := key i j e c he hj
          simpa using Rep.int k (zs.getD i 0))
      rwa [hel] at this
/-- A law that holds of what it is handed, run in whatever world. -/
theorem law_calls [Globs] {P : Program} {f : FuncId} {sp : Spec} (h : Sound P f sp) {args : List AV} (hp : sp.pre args) (ha : sp.alts = none) (hr : sp.res args = [.d (.one (.bool true))]) {W : World} {vs : List Value} (hG : Gl W (Old W))
    (hA : All3 (RepA W (Old W)) args vs (args.map fun _ => fun _ => False)) : Calls P f vs.toArray W fun e w' => e = .returned (.bool true) ∧ Below W.heap.size W w' := by
  refine (h args hp W (Old W) vs _ hG (fun _ h => h) (fun g hg => absurd hg Any_false) Apart_false hA).mono ?_
  rintro e w' ⟨r, o, hro, v, S', rfs, fps', rfl, g1, _, _, _, _, _, g8⟩
  obtain ⟨rfl, rfl⟩ := (Spec.may_none ha).1 hro
  rw [hr] at g1
  refine ⟨?_, ⟨g8.os, g8.tape, g8.output, g8.size, fun k hk => g8.block k hk Any_false⟩⟩
  cases rfs with
  | nil => exact absurd rfl g1.1
  | cons fp r => cases r with
    | nil =>
      obtain ⟨g1, _⟩ := g1
      cases g1; rfl
    | cons _ _ => exact absurd rfl g1.1
end Go.Proofs.Pw
/- Arguments with depth: what they read as, and that they read so still. -/
namespace Go.Proofs.Pw
open Go.RowKit Go.ChangeShapes Go.WideShapes
set_option linter.unusedSectionVars false
section
variable {H : Type} {enc : TypeId × Value → H} {P : Program} {W W' : World} {spare : Nat → Bool} {held : Bool}
theorem trodAll_below (hl : laidOutB P = true) (hb : Below W.heap.size W W') : ∀ {ts : List TypeId} {vs : List Value} {ds : List (DataW H)} {p : List MemPlace}, DataW.TrodAll enc P W 0 (fun _ => true) true ts vs ds p →
    (ts.all fun t => P.readableRec t && decide (t < P.types.size)) = true → (∀ x ∈ p, x.block < W.heap.size) → DataW.TrodAll enc P W' 0 (fun b => decide (b < W.heap.size)) true ts vs ds p := by
  intro ts
  induction ts with
  | nil =>
    intro vs ds p h _ _
    cases vs <;> cases ds <;> first | exact h | exact h.elim
  | cons t ts ih =>
    intro vs ds p h hr hp
    obtain ⟨v, vs', d, ds', p1, q, rfl, rfl, rfl, h1, h2⟩ := trodAll_cons h
    simp only [List.all_cons, Bool.and_eq_true, decide_eq_true_eq] at hr
    exact ⟨p1, q, Below.trod hl hr.1.1 hr.1.2 h1 hb (fun x hx => hp x (by simp [hx])), ih h2 hr.2 (fun x hx => hp x (by simp [hx])), rfl⟩
theorem trodVars_below (hl : laidOutB P = true) (hb : Below W.heap.size W W') : ∀ {ns : List String} {gs : List (DataW H)} {p : List MemPlace}, DataW.TrodVars enc P W (fun _ => true) ns gs p →
    (ns.all fun n => match P.globalNamed n with | some g => (match P.globals[g]? with | some x => P.readableRec x.type && decide (x.type < P.types.size) | none => false) | none => false) = true → (∀ x ∈ p, x.block < W.heap.size) →
    DataW.TrodVars enc P W' (fun b => decide (b < W.heap.size)) ns gs p := by
  intro ns
  induction ns with
  | nil =>
    intro gs p h _ _
    cases gs <;> first | exact h | exact h.elim
  | cons n ns ih =>
    intro gs p h hr hp
    cases gs with
    | nil => exact h.elim
    | cons d gs =>
      obtain ⟨g, t, cs, fuel, p1, q, hg, ht, hv, hd, h2, rfl⟩ := h
      simp only [List.all_cons, Bool.and_eq_true, hg] at hr
      obtain ⟨hr2, hr3⟩ := hr
      have hr1 : g < W.heap.size := by
        unfold World.var? at hv
        simp only [hg, Option.bind_some] at hv
        split at hv
        · rename_i h1; exact (Array.getElem?_eq_some_iff.1 h1).1
        · cases hv
      simp only [Option.map_eq_some_iff] at ht
      obtain ⟨x, hx, rfl⟩ := ht
      simp only [hx, Bool.and_eq_true, decide_eq_true_eq] at hr2
      have hk : DataW.Trod enc P W 0 (fun _ => true) true x.type (.agg cs) d p1 := ⟨fuel, hd⟩
      obtain ⟨fuel', hd'⟩ := Below.trod hl hr2.1 hr2.2 hk hb (fun y hy => hp y (by simp [hy]))
      exact ⟨g, x.type, cs, fuel', p1, q, hg, by rw [hx]; rfl, var?_below hb hg hr1 hv, hd', ih h2 hr3 (fun y hy => hp y (by simp [hy])), rfl⟩
/-- What is left behind a law that gives true, and has turned nothing that was there. -/
theorem law_post {f : Func} {s : ChangeSpec} {args : Array Value} {ds gs : List (DataW H)} {before : List MemPlace} {rt : TypeId} (hl : laidOutB P = true)
    (hW : DataW.Whole enc P f.params.toList s.vars false W args.toList ds gs before) (hrt : f.resultTypes.toList = [rt]) (hrb : P.underlying rt = some .bool) (hsz : f.resultTypes.size = 1)
    (hfn : s.fn H (ds ++ gs) = { results := [.lit (.bool true)], args := ds, vars := gs })
    (hp : (f.params.toList.all fun t => P.readableRec t && decide (t < P.types.size)) = true)
    (hv : (s.vars.all fun n => match P.globalNamed n with | some g => (match P.globals[g]? with | some x => P.readableRec x.type && decide (x.type < P.types.size) | none => false) | none => false) = true)
    (hb : Below W.heap.size W W') : s.post enc P f false true false false W args (.bool true) W' := by
  have hlt := hW.lt
  have hW' := hW
  obtain ⟨p, q, hA, hV, rfl, hfz, hnd⟩ := hW
  refine ⟨ds, gs, _, [], p, q, hW', ?_, ?_, ?_, hb.frame _, fun h => by cases h⟩
  · rw [hfn, hrt, hsz]
    exact trodAll_mk1 (shut_bool hrb _)
  · rw [hfn]; exact trodAll_below hl hb hA hp (fun x hx => hlt x (by simp [hx]))
  · rw [hfn]; exact trodVars_below hl hb hV hv (fun x hx => hlt x (by simp [hx]))
end
end Go.Proofs.Pw
/- A row of octets handed over. -/
namespace Go.Proofs.Pw
open Go.RowKit Go.ChangeShapes Go.WideShapes
set_option linter.unusedSectionVars false
section
variable {H : Type} {enc : TypeId × Value → H} {P : Program} {W : World}
theorem wf_u8 {n : Int} (h : (Lit.int .u8 n).wf = true) : 0 ≤ n ∧ n ≤ 255 := by
  simp only [Lit.wf, Bool.and_eq_true, decide_eq_true_eq] at h
  simp only [IntKind.min, IntKind.max, IntKind.signed, IntKind.bits] at h
  simp at h; omega
theorem read_bytes {held : Bool} {r : Reach} {base : Nat} {ts : List TypeId} {ds : List (DataW H)} {j : Nat} {t e : TypeId} {v : Value} {d : DataW H} {p : List MemPlace} (hu : P.underlying t = some (.slice e)) (he : P.underlying e = some (.int .u8)) (hc : P.cellsOf e = 1) (hby : 0 < P.bytesOf e)
    (hval : Value.okWide P W r base t v) (h : DataW.Trod enc P W 0 (fun _ => true) held t v d p) (hz : (DataW.weightsEach P ts ds).all (· ≤ reachBytes) = true) (ht : ts[j]? = some t) (hd : ds[j]? = some d) :
    ∃ l : List Int, RepA W (Old W) (.d (.one (.row 1 (ints .u8 l)))) v (fun _ => False) ∧ bytes l := by
  obtain ⟨a, len, cap, rfl⟩ := okWide_slice hu hval
  obtain ⟨fuel, h⟩ := h
  rcases open_ints hu he hc h with ⟨h1, h2⟩ | ⟨x, l, c, zs, hcs, _, hl, hm, hz', hx, hcell, hwz⟩
  · simp only [Value.cells, List.cons.injEq, and_true] at h1
    cases h1
    refine ⟨[], ⟨.nil .., fun _ h => h⟩, by simp, by unfold lenB; simp⟩
  · simp only [Value.cells, List.cons.injEq, and_true] at hcs
    cases hcs
    simp only [Prod.mk.injEq] at hx
    obtain ⟨rfl, rfl⟩ := hx
    obtain ⟨k1, k2, k3⟩ := rep_ints (k := .u8) (w := W) (a := some x) (len := len) (cap := cap) (zs := zs) (.inr ⟨x, rfl, hl, hm, by simpa using hz', hcell, hwz⟩)
    refine ⟨zs.take len, ⟨k1, fun _ h => h⟩, fun b hb => wf_u8 (k3 b hb), ?_⟩
    have k4 := sized_slice hz ht hd hu
    have k5 : (lits (H := H) .u8 (zs.take len)).length ≤ reachBytes := by
      refine Nat.le_trans (Nat.le_trans (Nat.le_add_right _ (lits (H := H) .u8 (zs.drop len)).length) ?_) k4
      exact Nat.le_mul_of_pos_right _ hby
    have := reachBytes_lt
    simp only [lits, List.length_map] at k5
    unfold lenB; omega
end
end Go.Proofs.Pw
/- A listed table reads as it is told. -/
namespace Go.Proofs.Pw
open Go.RowKit Go.ChangeShapes Go.WideShapes
set_option linter.unusedSectionVars false
theorem lits_inj {H : Type} {k : IntKind} : ∀ {a b : List Int}, lits (H := H) k a = lits k b → a = b := by
  intro a
  induction a with
  | nil => intro b h; cases b with
    | nil => rfl
    | cons _ _ => simp [lits] at h
  | cons x a ih => intro b h; cases b with
    | nil => simp [lits] at h
    | cons y b =>
      simp only [lits, List.map_cons, List.cons.injEq, DataW.lit.injEq, Lit.int.injEq, true_and] at h
      rw [h.1, ih h.2]
/-- A listed slice of whole numbers. -/
theorem laid_ints {P : Program} {W : World} {nm : String} {d : DataW Unit} {ns : List Int} {r : List (String × DataW Unit)} {ps : List MemPlace} {g : Nat} {t e : TypeId} {k : IntKind} (hg : P.globalNamed nm = some g) (ht : (P.globals[g]?).map (·.type) = some t)
    (hu : P.underlying t = some (.slice e)) (he : P.underlying e = some (.int k)) (hc : P.cellsOf e = 1) (hd : d = .slice (lits k ns) []) (h : DataW.LaidVars P W ((nm, d) :: r) ps) :
    (Old W g ∧ ∃ u, W.cell? ⟨g, 0, none⟩ = some u ∧ Rep W (Old W) (.row 1 (ints k ns)) u) ∧ ∃ ps', DataW.LaidVars P W r ps' := by
  obtain ⟨g', t', cs, fuel, p, q, hg', ht', hv, htr, hr, _⟩ := h
  obtain rfl := Option.some.inj (hg.symm.trans hg')
  obtain rfl := Option.some.inj (ht.symm.trans ht')
  refine ⟨?_, q, hr⟩
  subst hd
  rcases open_ints hu he hc htr with ⟨_, hx⟩ | ⟨x, l, c, zs, hcs, _, hl, hm, hz, hx, hcell, hwz⟩
  · simp at hx
  · simp only [Prod.mk.injEq, DataW.slice.injEq] at hx
    have hns := lits_inj hx.1.1
    have h0 : W.cell? ⟨g, 0, none⟩ = some (.slice (some x) l c) := by
      have := World.var?_cell hg hv 0
      rw [Array.eq_one_of_toList hcs] at this
      simpa using this
    have hrep := (rep_ints (w := W) (a := some x) (len := l) (cap := c) (zs := zs) (.inr ⟨x, rfl, hl, hm, by simpa using hz, hcell, hwz⟩)).1
    rw [← hns] at hrep
    exact ⟨cell_lt h0, _, h0, hrep⟩
end Go.Proofs.Pw
