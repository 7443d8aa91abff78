/- FnRowSum: the law, run. -/
import Derived.Test.YtaldfcjengfibaaPwT18
import Derived.Test.YtaldfcjengfibaaPwT9
import Derived.ProofKit
import Derived.ChangeOld
import Derived.Below
import Derived.Carry
import Derived.SizedLaws
import Derived.ChangeArms
import Derived.ChangeVars
import Derived.WalkSmall
import Derived.ChangeSlices
set_option linter.unusedSimpArgs false
set_option linter.unusedVariables false
set_option linter.unusedSimpArgs false
set_option maxRecDepth 20000
namespace Go.Proofs.Pw
set_option linter.unusedSectionVars false
variable [Globs]
def x_lawRS : X := (.seq (.reg [⟨some 2, none, .mv (.k (.c (.bool false)))⟩] none [0]) (.seq (.seq (.reg [⟨some 21, none, .mv (.t 0)⟩, ⟨some 22, none, .len (.t 21) false⟩, ⟨some 23, none, .bin false .gtr (.t 22) (.k (.c (.int .i64 1048576)))⟩] none [0, 23]) (.cond (.t 23) (.seq (.reg [⟨some 2, none, .mv (.k (.c (.bool true)))⟩] none [2]) .ret) .skip)) (.seq (.reg [⟨some 24, none, .mv (.t 0)⟩, ⟨some 25, none, .callr 6 [(.t 24)]⟩, ⟨some 3, none, .alloc [(.c (.int .i64 0)), (.c (.int .i64 0)), (.c (.str ⟨#[]⟩)), (.z 1), (.z 5)]⟩, ⟨none, none, .st (.t 3) (.t 25) (some 5)⟩] none [3]) (.seq (.reg [⟨some 27, none, .load (.t 3) (some 5)⟩, ⟨some 28, none, .call 7 [(.t 27)]⟩, ⟨some 26, none, .mv (.t 28)⟩, ⟨some 29, none, .ext (.t 26) 0⟩, ⟨some 30, none, .ext (.t 26) 1⟩, ⟨some 4, none, .alloc [(.c (.int .i64 0)), (.c (.int .i64 0)), (.c (.str ⟨#[]⟩)), (.z 1), (.z 5)]⟩, ⟨none, none, .st (.t 4) (.t 29) (some 5)⟩, ⟨some 5, none, .mv (.t 30)⟩] none [3, 4, 5]) (.seq (.reg [⟨some 32, none, .load (.t 3) (some 5)⟩, ⟨some 33, none, .call 8 [(.t 32)]⟩, ⟨some 31, none, .mv (.t 33)⟩, ⟨some 34, none, .ext (.t 31) 0⟩, ⟨some 35, none, .ext (.t 31) 1⟩, ⟨some 6, none, .alloc [(.c (.int .i64 0)), (.c (.int .i64 0)), (.c (.str ⟨#[]⟩)), (.z 1), (.z 5)]⟩, ⟨none, none, .st (.t 6) (.t 34) (some 5)⟩, ⟨some 7, none, .mv (.t 35)⟩] none [3, 4, 5, 6, 7]) (.seq (.reg [⟨some 37, none, .load (.t 3) (some 5)⟩, ⟨some 38, none, .call 9 [(.t 37)]⟩, ⟨some 36, none, .mv (.t 38)⟩, ⟨some 39, none, .ext (.t 36) 0⟩, ⟨some 40, none, .ext (.t 36) 1⟩, ⟨some 8, none, .alloc [(.c (.int .i64 0)), (.c (.int .i64 0)), (.c (.str ⟨#[]⟩)), (.z 1), (.z 5)]⟩, ⟨none, none, .st (.t 8) (.t 39) (some 5)⟩, ⟨some 9, none, .mv (.t 40)⟩] none [3, 4, 5, 6, 7, 8, 9]) (.seq (.reg [⟨some 42, none, .load (.t 3) (some 5)⟩, ⟨some 43, none, .call 10 [(.t 42)]⟩, ⟨some 41, none, .mv (.t 43)⟩, ⟨some 44, none, .ext (.t 41) 0⟩, ⟨some 45, none, .ext (.t 41) 1⟩, ⟨some 10, none, .alloc [(.c (.int .i64 0)), (.c (.int .i64 0)), (.c (.str ⟨#[]⟩)), (.z 1), (.z 5)]⟩, ⟨none, none, .st (.t 10) (.t 44) (some 5)⟩, ⟨some 11, none, .mv (.t 45)⟩] none [3, 4, 5, 6, 7, 8, 9, 10, 11]) (.seq (.seq (.reg [⟨some 46, none, .mv (.t 5)⟩, ⟨some 47, none, .mv (.t 7)⟩, ⟨some 48, none, .bin true .neq (.t 46) (.t 47)⟩, ⟨some 49, none, .mv (.t 48)⟩, ⟨some 50, some (49, false), .load (.t 4) (some 5)⟩, ⟨some 51, some (49, false), .load (.t 6) (some 5)⟩, ⟨some 52, some (49, false), .call 11 [(.t 50), (.t 51)]⟩, ⟨some 53, some (49, false), .not (.t 52)⟩, ⟨some 54, none, .pick (.t 49) (.k (.c (.bool true))) (.t 53)⟩, ⟨some 55, none, .mv (.t 54)⟩, ⟨some 56, some (55, false), .mv (.t 9)⟩, ⟨some 57, some (55, false), .mv (.t 11)⟩, ⟨some 58, some (55, false), .bin true .neq (.t 56) (.t 57)⟩, ⟨some 59, none, .pick (.t 55) (.k (.c (.bool true))) (.t 58)⟩, ⟨some 60, none, .mv (.t 59)⟩, ⟨some 61, some (60, false), .load (.t 8) (some 5)⟩, ⟨some 62, some (60, false), .load (.t 10) (some 5)⟩, ⟨some 63, some (60, false), .call 11 [(.t 61), (.t 62)]⟩, ⟨some 64, some (60, false), .not (.t 63)⟩, ⟨some 65, none, .pick (.t 60) (.k (.c (.bool true))) (.t 64)⟩] none [3, 4, 5, 8, 9, 65]) (.cond (.t 65) (.seq (.reg [⟨some 2, none, .mv (.k (.c (.bool false)))⟩] none [2]) .ret) .skip)) (.seq (.seq (.reg [⟨some 66, none, .mv (.t 5)⟩, ⟨some 67, none, .not (.t 66)⟩, ⟨some 68, none, .mv (.t 67)⟩, ⟨some 69, some (68, false), .fa (.t 3) 4⟩, ⟨some 70, some (68, false), .load (.t 69) none⟩, ⟨some 71, some (68, false), .len (.t 70) false⟩, ⟨some 72, some (68, false), .bin false .eql (.t 71) (.k (.c (.int .i64 0)))⟩, ⟨some 73, none, .pick (.t 68) (.k (.c (.bool true))) (.t 72)⟩] none [3, 4, 8, 9, 73]) (.cond (.t 73) (.seq (.reg [⟨some 74, none, .fa (.t 4) 0⟩, ⟨some 75, none, .load (.t 74) none⟩, ⟨some 76, none, .bin false .eql (.t 75) (.k (.c (.int .i64 0)))⟩, ⟨some 2, none, .mv (.t 76)⟩] none [2]) .ret) .skip)) (.seq (.reg [⟨some 77, none, .fa (.t 3) 4⟩, ⟨some 78, none, .load (.t 77) none⟩, ⟨some 79, none, .len (.t 78) false⟩, ⟨some 80, none, .bin false .sub (.t 79) (.k (.c (.int .i64 1)))⟩, ⟨some 12, none, .mv (.t 80)⟩] none [3, 4, 8, 9, 12]) (.seq (.reg [⟨some 82, none, .load (.t 3) (some 5)⟩, ⟨some 83, none, .mv (.t 12)⟩, ⟨some 84, none, .call 12 [(.t 82), (.k (.c (.int .i64 0))), (.t 83)]⟩, ⟨some 81, none, .mv (.t 84)⟩, ⟨some 85, none, .ext (.t 81) 0⟩, ⟨some 86, none, .ext (.t 81) 1⟩, ⟨some 13, none, .alloc [(.c (.int .i64 0)), (.c (.int .i64 0)), (.c (.str ⟨#[]⟩)), (.z 1), (.z 5)]⟩, ⟨none, none, .st (.t 13) (.t 85) (some 5)⟩, ⟨some 14, none, .mv (.t 86)⟩] none [3, 4, 8, 9, 12, 13, 14]) (.seq (.reg [⟨some 88, none, .load (.t 13) (some 5)⟩, ⟨some 89, none, .call 7 [(.t 88)]⟩, ⟨some 87, none, .mv (.t 89)⟩, ⟨some 90, none, .ext (.t 87) 0⟩, ⟨some 91, none, .ext (.t 87) 1⟩, ⟨some 15, none, .alloc [(.c (.int .i64 0)), (.c (.int .i64 0)), (.c (.str ⟨#[]⟩)), (.z 1), (.z 5)]⟩, ⟨none, none, .st (.t 15) (.t 90) (some 5)⟩, ⟨some 16, none, .mv (.t 91)⟩] none [3, 4, 8, 9, 12, 14, 15, 16]) (.seq (.mix [⟨some 93, none, .load (.t 15) (some 5)⟩, ⟨some 94, none, .fa (.t 3) 4⟩, ⟨some 95, none, .load (.t 94) none⟩, ⟨some 96, none, .mv (.t 12)⟩, ⟨some 97, none, .ia (.t 95) (.t 96) 5⟩, ⟨some 98, none, .load (.t 97) (some 5)⟩, ⟨some 99, none, .call 13 [(.t 93), (.t 98)]⟩, ⟨some 92, none, .mv (.t 99)⟩, ⟨some 100, none, .ext (.t 92) 0⟩, ⟨some 101, none, .ext (.t 92) 1⟩, ⟨some 17, none, .alloc [(.c (.int .i64 0)), (.c (.int .i64 0)), (.c (.str ⟨#[]⟩)), (.z 1), (.z 5)]⟩, ⟨none, none, .st (.t 17) (.t 100) (some 5)⟩] [⟨some 18, none, .mv (.t 101)⟩] [[], [], [], [], [], [], [], [], [], [], [0, 1, 2, 3, 4, 5, 7, 8, 9], []] [3, 4, 8, 9, 14, 16, 17, 18]) (.seq (.reg [⟨some 19, none, .mv (.k (.c (.bool true)))⟩] none [3, 4, 8, 9, 14, 16, 17, 18, 19]) (.seq (.seq (.reg [⟨some 20, none, .mv (.k (.c (.int .i64 0)))⟩] none [3, 4, 8, 9, 14, 16, 17, 18, 19, 20]) (.block 0 (.loop (.seq (.seq (.reg [⟨some 102, none, .mv (.t 20)⟩, ⟨some 103, none, .fa (.t 3) 4⟩, ⟨some 104, none, .load (.t 103) none⟩, ⟨some 105, none, .len (.t 104) false⟩, ⟨some 106, none, .bin false .lss (.t 102) (.t 105)⟩] none [3, 4, 8, 9, 14, 16, 17, 18, 19, 20, 106]) (.cond (.t 106) .skip (.exit 0))) (.seq (.block 1 (.reg [⟨some 109, none, .mv (.t 19)⟩, ⟨some 110, none, .mv (.t 109)⟩, ⟨some 111, some (110, true), .fa (.t 3) 4⟩, ⟨some 112, some (110, true), .load (.t 111) none⟩, ⟨some 113, some (110, true), .mv (.t 20)⟩, ⟨some 114, some (110, true), .ia (.t 112) (.t 113) 5⟩, ⟨some 115, some (110, true), .fa (.t 114) 0⟩, ⟨some 116, some (110, true), .load (.t 115) none⟩, ⟨some 117, some (110, true), .bin false .eql (.t 116) (.k (.c (.int .i64 5)))⟩, ⟨some 118, none, .pick (.t 110) (.t 117) (.k (.c (.bool false)))⟩, ⟨some 19, none, .mv (.t 118)⟩] none [3, 4, 8, 9, 14, 16, 17, 18, 19, 20])) (.reg [⟨some 107, none, .mv (.t 20)⟩, ⟨some 108, none, .bin false .add (.t 107) (.k (.c (.int .i64 1)))⟩, ⟨some 20, none, .mv (.t 108)⟩] none [3, 4, 8, 9, 14, 16, 17, 18, 19, 20])))))) (.seq (.reg [⟨some 119, none, .mv (.t 14)⟩, ⟨some 120, none, .mv (.t 119)⟩, ⟨some 121, some (120, true), .mv (.t 16)⟩, ⟨some 122, none, .pick (.t 120) (.t 121) (.k (.c (.bool false)))⟩, ⟨some 123, none, .mv (.t 122)⟩, ⟨some 124, some (123, true), .mv (.t 18)⟩, ⟨some 125, none, .pick (.t 123) (.t 124) (.k (.c (.bool false)))⟩, ⟨some 126, none, .mv (.t 125)⟩, ⟨some 127, some (126, true), .load (.t 17) (some 5)⟩, ⟨some 128, some (126, true), .load (.t 4) (some 5)⟩, ⟨some 129, some (126, true), .call 11 [(.t 127), (.t 128)]⟩, ⟨some 130, none, .pick (.t 126) (.t 129) (.k (.c (.bool false)))⟩, ⟨some 131, none, .mv (.t 130)⟩, ⟨some 132, some (131, true), .mv (.t 19)⟩, ⟨some 133, some (131, true), .not (.t 132)⟩, ⟨some 134, some (131, true), .mv (.t 133)⟩, ⟨some 135, some (134, false), .mv (.t 9)⟩, ⟨some 136, some (134, false), .not (.t 135)⟩, ⟨some 137, some (131, true), .pick (.t 134) (.k (.c (.bool true))) (.t 136)⟩, ⟨some 138, some (131, true), .mv (.t 137)⟩, ⟨some 139, some (138, false), .load (.t 8) (some 5)⟩, ⟨some 140, some (138, false), .load (.t 4) (some 5)⟩, ⟨some 141, some (138, false), .call 11 [(.t 139), (.t 140)]⟩, ⟨some 142, some (131, true), .pick (.t 138) (.k (.c (.bool true))) (.t 141)⟩, ⟨some 143, none, .pick (.t 131) (.t 142) (.k (.c (.bool false)))⟩, ⟨some 2, none, .mv (.t 143)⟩] none [2]) .ret))))))))))))))))
theorem chk_lawRS : chkX Go.Proofs.Try.prog 144 (Go.Proofs.Try.f3.body.getD .skip) x_lawRS = true := by kernel_rfl
theorem rs_lawRS : okRs Go.Proofs.Try.prog Go.Proofs.Try.f3.results.toList [.tmp 2] = true := by kernel_rfl
theorem cut_take0 {l : List T} {k : Nat} (h : k ≤ l.length) : cutL 0 k l = l.take k := by
  have e1 : (edge l.length 0).toNat = 0 := by unfold edge; split <;> omega
  have e2 : (edge2 l.length 0 k).toNat = k := by unfold edge2 edge; repeat' split
                                                 all_goals omega
  unfold cutL; rw [e1, e2, List.drop_zero]
theorem flatL_len_le (l : List T) : ((flatL l).length : Int) ≤ sizeL l := by
  have := sizeL_len (flatL l); have := flatL_size l; omega
noncomputable def spLawRS  : Spec := Spec.of (ι := (List Int)) [false] (fun i => [.d (.one (.row 1 (ints .u8 i)))]) (fun i => bytes i) (fun _ => [.d (.one (.bool true))]) (fun _ => [.gone])
theorem spLawRS_inj : ∀ i j : (List Int), (fun (i : (List Int)) => ([.d (.one (.row 1 (ints .u8 i)))] : List AV)) i = (fun (i : (List Int)) => ([.d (.one (.row 1 (ints .u8 i)))] : List AV)) j → i = j := by
  intro a a' h
  simpa [strs_eq, T.enc_eq, encL_eq, F.enc_eq, encF_eq, Tk.enc_eq, encTk_eq, Gn.enc_eq, ints_eq] using h
theorem spLawRS_pre  (a : List Int) : (spLawRS).pre [.d (.one (.row 1 (ints .u8 a)))] = (bytes a) := Spec.of_pre' spLawRS_inj a
theorem spLawRS_res  (a : List Int) : (spLawRS).res [.d (.one (.row 1 (ints .u8 a)))] = [.d (.one (.bool true))] := Spec.of_res spLawRS_inj a
set_option maxHeartbeats 4000000 in
theorem lawRS_sound : Sound Go.Proofs.Try.prog 3 spLawRS := by
  refine sound_fam (GOK.cons (l := [(7, spSumI), (8, spSum), (9, spFlat), (10, spFlatS), (12, spCutI), (13, spAddI), (11, spSameIV)]) call_DrawRowSum DrawRowSum_sound (GOK.cons call_RowSumI RowSumI_sound (GOK.cons call_RowSum RowSum_sound (GOK.cons call_RowFlat RowFlat_sound (GOK.cons call_RowFlatS RowFlatS_sound (GOK.cons call_RowCutI RowCutI_sound (GOK.cons call_PartAddI PartAddI_sound (GOK.cons call_ValSameI sameIV_sound GOK.nil)))))))) Go.Proofs.Try.func3 (c := Go.Proofs.Try.f3.body.getD .skip) rfl (n := 144) rfl chk_lawRS rs_lawRS (fun _ => by simp) ?_ ?_
  · exact spLawRS_inj
  · rintro a h1
    simp only [bytes, lenB] at h1
    simp only [x_lawRS, rg, go_sem, seval, Prod.fst, ints_len, T.enc_len, spDRow_md, spDRow_pre, ↓spDRow_all, spDRow_all]
    repeat' (first | with_reducible assumption | with_reducible refine And.intro ?_ ?_ | intro _)
    all_goals first | omega | skip
    · exact (h1.1 _ (by assumption)).1
    · exact (h1.1 _ (by assumption)).2
    · unfold lenB; omega
    rename_i k n s ks l hv
    generalize hve : (T.mk k n s ks l) = v at *
    clear hve
    have v1 : v.fit 1000000 := T.fit_mono (by decide) hv.1
    have v2 : v.fit 140737488355328 := hv.fit
    have v3 := hv.2.1
    have v4 : lenB 1000000 (flatL v.list).length := by
      have h5 := flatL_len_le v.list
      have h6 : sizeL v.list < sizeT v := by obtain ⟨k, n, s, ks, l⟩ := v; simp only [sizeT, T.list]; omega
      unfold lenB; omega
    have v5 : sizeT v ≤ 1048577 := by omega
    have zf := T.zero_fit
    have z0 : (T.zero.enc.map Q.c).getD 0 .no = .c (.int .i64 0) := rfl
    by_cases c : rowT v
    rotate_left
    · have e1 : sumT v = T.zero := if_neg c
      have e2 : sumOk v = False := eq_false (fun h => c h.1)
      have e3 : flatT v = T.zero := if_neg c
      simp only [rg, go_sem, seval, Prod.fst, T.enc_len, e1, e2, e3, c, z0, false_and, spSumI_md, spSumI_pre, spSumI_alts, spSumI_res, spSumI_out, spSum_md, spSum_pre, spSum_alts, spSum_res, spSum_out, spFlat_md, spFlat_pre, spFlat_alts, spFlat_res, spFlat_out, spFlatS_md, spFlatS_pre, spFlatS_alts, spFlatS_res, spFlatS_out, spSameIV_md, spSameIV_pre, spSameIV_alts, spSameIV_res, spSameIV_out]
      repeat' (first | with_reducible assumption | with_reducible refine And.intro ?_ ?_ | intro _)
      all_goals first | (show _ ≤ (_ : Int); omega) | assumption | skip
      obtain ⟨k', n', s', ks', l'⟩ := v
      simp only [rg, go_sem, seval, Prod.fst, T.enc, T.enc_len, z0, encL_len]
      repeat' (first | with_reducible assumption | with_reducible refine And.intro ?_ ?_ | intro _)
      all_goals first | (show _ ≤ (_ : Int); omega) | assumption | skip
    obtain ⟨l, rfl⟩ : ∃ l, v = .mk 5 0 ⟨#[]⟩ [] l := ⟨_, rowT_is c⟩
    have o1 := c.1
    have c' : rowT (T.mk 5 0 ⟨#[]⟩ [] l) = True := eq_true c
    have e1 := sumT_row o1
    have e2 := sumOk_row o1
    have e3 := flatT_row o1
    have l1 : (l.length : Int) ≤ 1000000 := (T.fit_list v1).1
    have ff : (flatT (T.mk 5 0 ⟨#[]⟩ [] l)).fit 140737488355328 := by
      rw [e3]; unfold toldT; split
      · rename_i h; exact fit_big h.2
      · exact zf
    cases hs : sumO l T.zero with
    | none =>
      rw [hs] at e1 e2
      simp only [Option.getD_none, Option.isSome_none, Bool.false_eq_true, iff_false] at e1 e2
      simp only [rg, go_sem, seval, Prod.fst, T.enc_len, e1, e2, c', z0, T.list, spSumI_md, spSumI_pre, spSumI_alts, spSumI_res, spSumI_out, spSum_md, spSum_pre, spSum_alts, spSum_res, spSum_out, spFlat_md, spFlat_pre, spFlat_alts, spFlat_res, spFlat_out, spFlatS_md, spFlatS_pre, spFlatS_alts, spFlatS_res, spFlatS_out, spSameIV_md, spSameIV_pre, spSameIV_alts, spSameIV_res, spSameIV_out]
      simp only [rg, go_sem, seval, Prod.fst, T.enc, T.enc_len, z0, encL_len]
      repeat' (first | with_reducible assumption | with_reducible refine And.intro ?_ ?_ | intro _)
      all_goals first | (show _ ≤ (_ : Int); omega) | assumption | skip
    | some s =>
      have os : okT s := sumO_ok okT_zero' hs
      have sf := fit_big os
      rw [hs] at e1 e2
      simp only [Option.getD_some, Option.isSome_some, iff_true] at e1 e2
      by_cases hl : l = []
      · subst hl
        simp only [sumO, Option.some.injEq] at hs
        subst hs
        simp only [rg, go_sem, seval, Prod.fst, T.enc_len, e1, e2, c', z0, T.list, spSumI_md, spSumI_pre, spSumI_alts, spSumI_res, spSumI_out, spSum_md, spSum_pre, spSum_alts, spSum_res, spSum_out, spFlat_md, spFlat_pre, spFlat_alts, spFlat_res, spFlat_out, spFlatS_md, spFlatS_pre, spFlatS_alts, spFlatS_res, spFlatS_out, spSameIV_md, spSameIV_pre, spSameIV_alts, spSameIV_res, spSameIV_out]
        simp only [rg, go_sem, seval, Prod.fst, T.enc, T.enc_len, z0, encL_len]
        repeat' (first | with_reducible assumption | with_reducible refine And.intro ?_ ?_ | intro _)
        all_goals first | (show _ ≤ (_ : Int); omega) | assumption | skip
      · obtain ⟨n, hn⟩ : ∃ n, l.length = n + 1 := ⟨l.length - 1, by have := List.length_pos_iff.2 hl; omega⟩
        obtain ⟨x, hx, _, hxm⟩ := drop_at (l := l) (i := n) (by omega)
        have hsp : l.take n ++ [x] = l := by rw [← take_snoc hx, List.take_of_length_le (by omega)]
        have ox := okT_elem o1 hxm
        rw [← hsp, sumO_snoc] at hs
        cases ht : sumO (l.take n) T.zero with
        | none => rw [ht] at hs; cases hs
        | some t =>
          rw [ht] at hs
          simp only [Option.bind_some] at hs
          by_cases hk : addOk t x
          rotate_left
          · rw [if_neg hk] at hs; cases hs
          rw [if_pos hk, Option.some.injEq] at hs
          have ot : okT t := sumO_ok okT_zero' ht
          have tf := fit_big ot
          have xf := fit_big ox
          have oi : okT (.mk 5 0 ⟨#[]⟩ [] (l.take n)) := okT_row_sub o1 (List.take_sublist _ _)
          have oif := fit_big oi
          have t1 := toldT_ok oi
          have i1 := sumT_row oi
          have i2 := sumOk_row oi
          rw [ht] at i1 i2
          simp only [Option.getD_some, Option.isSome_some, iff_true] at i1 i2
          have i2' := eq_true i2
          have e2' := eq_true e2
          have oi' := eq_true oi
          have hk' := eq_true hk
          have b0 : ((l.length : Int) = 0) = False := eq_false (by omega)
          have b1 : (l.length : Int) - 1 = (n : Int) := by omega
          have cu := cut_take0 (l := l) (k := n) (by omega)
          have a1 := encL_at hx
          simp only [rg, go_sem, seval, Prod.fst, T.enc_len, e1, e2', c', T.list, spSumI_md, spSumI_pre, spSumI_alts, spSumI_res, spSumI_out, spSum_md, spSum_pre, spSum_alts, spSum_res, spSum_out, spFlat_md, spFlat_pre, spFlat_alts, spFlat_res, spFlat_out, spFlatS_md, spFlatS_pre, spFlatS_alts, spFlatS_res, spFlatS_out, spSameIV_md, spSameIV_pre, spSameIV_alts, spSameIV_res, spSameIV_out]
          simp only [rg, go_sem, seval, Prod.fst, T.enc, foldT, foldT0, T.enc_len, b0, b1, cu, oi', t1, i1, i2', hs, hk', a1, encL_len, spCutI_md, spCutI_pre, spCutI_alts, spCutI_res, spCutI_out, spSumI_md, spSumI_pre, spSumI_alts, spSumI_res, spSumI_out, spAddI_md, spAddI_pre, spAddI_alts, spAddI_res, spAddI_out]
          repeat' (first | with_reducible assumption | with_reducible refine And.intro ?_ ?_ | intro _)
          all_goals first | (show _ ≤ (_ : Int); omega) | (show _ < (_ : Int); omega) | assumption | skip
          have hkind : ∀ y ∈ l, y.kind = 5 → ∃ r, y = .mk 5 0 ⟨#[]⟩ [] r := fun y hy hk => ⟨_, rowT_is ⟨okT_elem o1 hy, hk⟩⟩
          have hfin : (∀ y ∈ l, y.kind = 5) → okT (.mk 5 0 ⟨#[]⟩ [] (flatL l)) → flatT (T.mk 5 0 ⟨#[]⟩ [] l) = s := fun h1 h2 => by
            rw [e3, toldT_ok h2]
            have hs' : sumO l T.zero = some s := by rw [← hsp, sumO_snoc, ht]; simp only [Option.bind_some]; rw [if_pos hk, hs]
            exact (sumO_rows0 hl (fun y hy => hkind y hy (h1 y hy)) hs').symm
          generalize flatT (T.mk 5 0 ⟨#[]⟩ [] l) = F at *
          refine pw_loop (ι := Nat × Bool) (fun i => l.length - i.1) (fun i => i.1 ≤ l.length ∧ (i.2 = true ↔ ∀ y ∈ l.take i.1, y.kind = 5))
            (fun i => ⟨[(3, .q (.box 3 0)), (4, .q (.box 4 0)), (8, .q (.box 8 0)), (9, .q (.c (.bool (decide (okT (.mk 5 0 ⟨#[]⟩ [] (flatL l))))))), (14, .q (.c (.bool true))), (16, .q (.c (.bool true))), (17, .q (.box 17 0)), (18, .q (.c (.bool true))), (19, .q (.c (.bool i.2))), (20, .q (.c (.int .i64 i.1)))],
              [(3, [.c (.int .i64 5), .c (.int .i64 0), .c (.str ⟨#[]⟩), .c (.row 1 (strs [])), .c (.row 5 (encL l))]), (4, s.enc.map .c), (8, F.enc.map .c), (17, s.enc.map .c)], []⟩) (0, true) ⟨Nat.zero_le _, by simp⟩ ?_ ?_
          · refine Le.sub ?_ ?_ ?_ <;> simp [T.enc_len]
          · rintro ⟨i, b⟩ ⟨g1, g2⟩
            simp only at g1 g2
            rcases Nat.lt_or_ge i l.length with hlt | hge
            · obtain ⟨y, hy, _, hym⟩ := drop_at hlt
              have b2 : ((i : Int) < (l.length : Int)) = True := eq_true (by omega)
              have a2 := encL_at hy
              have ts := take_snoc hy
              obtain ⟨k, n2, s2, ks2, l2⟩ := y
              cases b with
              | false =>
                simp only [rg, go_sem, seval, Prod.fst, b2, a2, T.enc, encL_len]
                repeat' (first | with_reducible assumption | with_reducible refine And.intro ?_ ?_ | intro _)
                all_goals first | (show _ ≤ (_ : Int); omega) | (show _ < (_ : Int); omega) | assumption | skip
                exact ⟨(i + 1, false), ⟨by show i + 1 ≤ _; omega, (by show (false = true) ↔ ∀ y ∈ l.take (i + 1), y.kind = 5; rw [ts]; exact ⟨fun h => (Bool.false_ne_true h).elim, fun h => g2.2 fun y hy => h y (List.mem_append_left _ hy)⟩)⟩, by show l.length - (i + 1) < _; omega, Le.refl _⟩
              | true =>
                simp only [rg, go_sem, seval, Prod.fst, b2, a2, T.enc, encL_len]
                repeat' (first | with_reducible assumption | with_reducible refine And.intro ?_ ?_ | intro _)
                all_goals first | (show _ ≤ (_ : Int); omega) | (show _ < (_ : Int); omega) | assumption | skip
                exact ⟨(i + 1, decide (k = 5)), ⟨by show i + 1 ≤ _; omega, by
                  show decide (k = 5) = true ↔ ∀ y ∈ l.take (i + 1), y.kind = 5
                  rw [ts, decide_eq_true_eq]
                  constructor
                  · intro h y hy
                    rcases List.mem_append.1 hy with hy | hy
                    · exact (g2.1 rfl) y hy
                    · simp at hy; rw [hy]; exact h
                  · intro h; exact h (T.mk k n2 s2 ks2 l2) (List.mem_append_right _ (by simp))⟩, by show l.length - (i + 1) < _; omega, Le.refl _⟩
            · obtain rfl : i = l.length := by omega
              rw [List.take_length] at g2
              have b2 : ((l.length : Int) < (l.length : Int)) = False := eq_false (by omega)
              cases b with
              | false =>
                simp only [rg, go_sem, seval, Prod.fst, b2, T.enc_len, encL_len, spSameIV_md, spSameIV_pre, spSameIV_alts, spSameIV_res, spSameIV_out]
                repeat' (first | with_reducible assumption | with_reducible refine And.intro ?_ ?_ | intro _)
                all_goals first | (show _ ≤ (_ : Int); omega) | (show _ < (_ : Int); omega) | assumption | skip
              | true =>
                have hr := g2.1 rfl
                by_cases d : okT (.mk 5 0 ⟨#[]⟩ [] (flatL l))
                · have hf := hfin hr d
                  have d' := eq_true d
                  simp only [rg, go_sem, seval, Prod.fst, b2, d', hf, T.enc_len, encL_len, spSameIV_md, spSameIV_pre, spSameIV_alts, spSameIV_res, spSameIV_out]
                  repeat' (first | with_reducible assumption | with_reducible refine And.intro ?_ ?_ | intro _)
                  all_goals first | (show _ ≤ (_ : Int); omega) | (show _ < (_ : Int); omega) | assumption | skip
                · have d' := eq_false d
                  simp only [rg, go_sem, seval, Prod.fst, b2, d', T.enc_len, encL_len, spSameIV_md, spSameIV_pre, spSameIV_alts, spSameIV_res, spSameIV_out]
                  repeat' (first | with_reducible assumption | with_reducible refine And.intro ?_ ?_ | intro _)
                  all_goals first | (show _ ≤ (_ : Int); omega) | (show _ < (_ : Int); omega) | assumption | skip
end Go.Proofs.Pw
/- From what a law's arguments are told to be, to what is shown of its run. -/
namespace Go.Proofs.Pw
open Go.RowKit
set_option linter.unusedSectionVars false
/-- All blocks that are there. -/
def Old (w : World) (g : Nat) : Prop := g < w.heap.size
theorem cell_lt {w : World} {a : Addr} {v : Value} (h : w.cell? a = some v) : a.block < w.heap.size := by
  unfold World.cell? at h
  rcases Nat.lt_or_ge a.block w.heap.size with hlt | hge
  · exact hlt
  · rw [Array.getElem?_eq_none hge] at h; simp at h
theorem rep_ints {k : IntKind} {w : World} {a : Option Addr} {len cap : Nat} {zs : List Int}
    (h : (a = none ∧ len = 0 ∧ cap = 0 ∧ zs = []) ∨ ∃ x, a = some x ∧ len ≤ cap ∧ cap ≤ maxLen ∧ zs.length = cap ∧ (∀ i, i < zs.length → w.cell? (x.add i) = some (.int k (zs.getD i 0))) ∧ ∀ n ∈ zs, (Lit.int k n).wf = true) :
    Rep w (Old w) (.row 1 (ints k (zs.take len))) (.slice a len cap) ∧ (zs.take len).length = len ∧ ∀ n ∈ zs.take len, (Lit.int k n).wf = true := by
  rcases h with ⟨rfl, rfl, rfl, rfl⟩ | ⟨x, rfl, hl, hm, hz, hc, hw⟩
  · exact ⟨.nil .., rfl, by simp⟩
  · have hlen : (zs.take len).length = len := by simp; omega
    refine ⟨?_, hlen, fun n hn => hw n (List.mem_of_mem_take hn)⟩
    rcases Nat.eq_zero_or_pos len with h0 | h0
    · subst h0; exact .nil ..
    · have key : ∀ (i j : Nat) e c, (ints k (zs.take len))[i]? = some e → e[j]? = some c → j = 0 ∧ i < zs.length ∧ c = .int k (zs.getD i 0) := fun i j e c he hj => by
        simp only [ints, List.getElem?_map, Option.map_eq_some_iff] at he
        obtain ⟨n, hn, rfl⟩ := he
        rw [List.getElem?_take] at hn
        split at hn
        · cases j with
          | zero => simp at hj; subst hj; exact ⟨rfl, (List.getElem?_eq_some_iff.1 hn).1, by simp [hn]⟩
          | succ j => simp at hj
        · cases hn
      have hel : (ints k (zs.take len)).length = len := by rw [ints_len, hlen]
      have := Rep.row (w := w) (S := Old w) 1 (ints k (zs.take len)) x cap (fun i => .int k (zs.getD i 0)) (by omega) (by
        have := cell_lt (hc 0 (by omega)); rwa [add_block] at this) (fun i e he => by
          simp only [ints, List.getElem?_map, Option.map_eq_some_iff] at he
          obtain ⟨n, _, rfl⟩ := he; rfl) (fun i j e c he hj => by
          obtain ⟨rfl, h1, _⟩ := key i j e c he hj
          simpa using hc i h1) (fun i j e c he hj => by
          obtain ⟨rfl, h1, rfl⟩ := key i j e c he hj
          simpa using Rep.int k (zs.getD i 0))
      rwa [hel] at this
/-- A law that holds of what it is handed, run in whatever world. -/
theorem law_calls [Globs] {P : Program} {f : FuncId} {sp : Spec} (h : Sound P f sp) {args : List AV} (hp : sp.pre args) (ha : sp.alts = none) (hr : sp.res args = [.d (.one (.bool true))]) {W : World} {vs : List Value} (hG : Gl W (Old W))
    (hA : All3 (RepA W (Old W)) args vs (args.map fun _ => fun _ => False)) : Calls P f vs.toArray W fun e w' => e = .returned (.bool true) ∧ Below W.heap.size W w' := by
  refine (h args hp W (Old W) vs _ hG (fun _ h => h) (fun g hg => absurd hg Any_false) Apart_false hA).mono ?_
  rintro e w' ⟨r, o, hro, v, S', rfs, fps', rfl, g1, _, _, _, _, _, g8⟩
  obtain ⟨rfl, rfl⟩ := (Spec.may_none ha).1 hro
  rw [hr] at g1
  refine ⟨?_, ⟨g8.os, g8.tape, g8.output, g8.size, fun k hk => g8.block k hk Any_false⟩⟩
  cases rfs with
  | nil => exact absurd rfl g1.1
  | cons fp r => cases r with
    | nil =>
      obtain ⟨g1, _⟩ := g1
      cases g1; rfl
    | cons _ _ => exact absurd rfl g1.1
end Go.Proofs.Pw
/- Arguments with depth: what they read as, and that they read so still. -/
namespace Go.Proofs.Pw
open Go.RowKit Go.ChangeShapes Go.WideShapes
set_option linter.unusedSectionVars false
section
variable {H : Type} {enc : TypeId × Value → H} {P : Program} {W W' : World} {spare : Nat → Bool} {held : Bool}
theorem trodAll_below (hl : laidOutB P = true) (hb : Below W.heap.size W W') : ∀ {ts : List TypeId} {vs : List Value} {ds : List (DataW H)} {p : List MemPlace}, DataW.TrodAll enc P W 0 (fun _ => true) true ts vs ds p →
    (ts.all fun t => P.readableRec t && decide (t < P.types.size)) = true → (∀ x ∈ p, x.block < W.heap.size) → DataW.TrodAll enc P W' 0 (fun b => decide (b < W.heap.size)) true ts vs ds p := by
  intro ts
  induction ts with
  | nil =>
    intro vs ds p h _ _
    cases vs <;> cases ds <;> first | exact h | exact h.elim
  | cons t ts ih =>
    intro vs ds p h hr hp
    obtain ⟨v, vs', d, ds', p1, q, rfl, rfl, rfl, h1, h2⟩ := trodAll_cons h
    simp only [List.all_cons, Bool.and_eq_true, decide_eq_true_eq] at hr
    exact ⟨p1, q, Below.trod hl hr.1.1 hr.1.2 h1 hb (fun x hx => hp x (by simp [hx])), ih h2 hr.2 (fun x hx => hp x (by simp [hx])), rfl⟩
theorem trodVars_below (hl : laidOutB P = true) (hb : Below W.heap.size W W') : ∀ {ns : List String} {gs : List (DataW H)} {p : List MemPlace}, DataW.TrodVars enc P W (fun _ => true) ns gs p →
    (ns.all fun n => match P.globalNamed n with | some g => (match P.globals[g]? with | some x => P.readableRec x.type && decide (x.type < P.types.size) | none => false) | none => false) = true → (∀ x ∈ p, x.block < W.heap.size) →
    DataW.TrodVars enc P W' (fun b => decide (b < W.heap.size)) ns gs p := by
  intro ns
  induction ns with
  | nil =>
    intro gs p h _ _
    cases gs <;> first | exact h | exact h.elim
  | cons n ns ih =>
    intro gs p h hr hp
    cases gs with
    | nil => exact h.elim
    | cons d gs =>
      obtain ⟨g, t, cs, fuel, p1, q, hg, ht, hv, hd, h2, rfl⟩ := h
      simp only [List.all_cons, Bool.and_eq_true, hg] at hr
      obtain ⟨hr2, hr3⟩ := hr
      have hr1 : g < W.heap.size := by
        unfold World.var? at hv
        simp only [hg, Option.bind_some] at hv
        split at hv
        · rename_i h1; exact (Array.getElem?_eq_some_iff.1 h1).1
        · cases hv
      simp only [Option.map_eq_some_iff] at ht
      obtain ⟨x, hx, rfl⟩ := ht
      simp only [hx, Bool.and_eq_true, decide_eq_true_eq] at hr2
      have hk : DataW.Trod enc P W 0 (fun _ => true) true x.type (.agg cs) d p1 := ⟨fuel, hd⟩
      obtain ⟨fuel', hd'⟩ := Below.trod hl hr2.1 hr2.2 hk hb (fun y hy => hp y (by simp [hy]))
      exact ⟨g, x.type, cs, fuel', p1, q, hg, by rw [hx]; rfl, var?_below hb hg hr1 hv, hd', ih h2 hr3 (fun y hy => hp y (by simp [hy])), rfl⟩
/-- What is left behind a law that gives true, and has turned nothing that was there. -/
theorem law_post {f : Func} {s : ChangeSpec} {args : Array Value} {ds gs : List (DataW H)} {before : List MemPlace} {rt : TypeId} (hl : laidOutB P = true)
    (hW : DataW.Whole enc P f.params.toList s.vars false W args.toList ds gs before) (hrt : f.resultTypes.toList = [rt]) (hrb : P.underlying rt = some .bool) (hsz : f.resultTypes.size = 1)
    (hfn : s.fn H (ds ++ gs) = { results := [.lit (.bool true)], args := ds, vars := gs })
    (hp : (f.params.toList.all fun t => P.readableRec t && decide (t < P.types.size)) = true)
    (hv : (s.vars.all fun n => match P.globalNamed n with | some g => (match P.globals[g]? with | some x => P.readableRec x.type && decide (x.type < P.types.size) | none => false) | none => false) = true)
    (hb : Below W.heap.size W W') : s.post enc P f false true false false W args (.bool true) W' := by
  have hlt := hW.lt
  have hW' := hW
  obtain ⟨p, q, hA, hV, rfl, hfz, hnd⟩ := hW
  refine ⟨ds, gs, _, [], p, q, hW', ?_, ?_, ?_, hb.frame _, fun h => by cases h⟩
  · rw [hfn, hrt, hsz]
    exact trodAll_mk1 (shut_bool hrb _)
  · rw [hfn]; exact trodAll_below hl hb hA hp (fun x hx => hlt x (by simp [hx]))
  · rw [hfn]; exact trodVars_below hl hb hV hv (fun x hx => hlt x (by simp [hx]))
end
end Go.Proofs.Pw
/- A row of octets handed over. -/
namespace Go.Proofs.Pw
open Go.RowKit Go.ChangeShapes Go.WideShapes
set_option linter.unusedSectionVars false
section
variable {H : Type} {enc : TypeId × Value → H} {P : Program} {W : World}
theorem wf_u8 {n : Int} (h : (Lit.int .u8 n).wf = true) : 0 ≤ n ∧ n ≤ 255 := by
  simp only [Lit.wf, Bool.and_eq_true, decide_eq_true_eq] at h
  simp only [IntKind.min, IntKind.max, IntKind.signed, IntKind.bits] at h
  simp at h; omega
theorem read_bytes {held : Bool} {r : Reach} {base : Nat} {ts : List TypeId} {ds : List (DataW H)} {j : Nat} {t e : TypeId} {v : Value} {d : DataW H} {p : List MemPlace} (hu : P.underlying t = some (.slice e)) (he : P.underlying e = some (.int .u8)) (hc : P.cellsOf e = 1) (hby : 0 < P.bytesOf e)
    (hval : Value.okWide P W r base t v) (h : DataW.Trod enc P W 0 (fun _ => true) held t v d p) (hz : (DataW.weightsEach P ts ds).all (· ≤ reachBytes) = true) (ht : ts[j]? = some t) (hd : ds[j]? = some d) :
    ∃ l : List Int, RepA W (Old W) (.d (.one (.row 1 (ints .u8 l)))) v (fun _ => False) ∧ bytes l := by
  obtain ⟨a, len, cap, rfl⟩ := okWide_slice hu hval
  obtain ⟨fuel, h⟩ := h
  rcases open_ints hu he hc h with ⟨h1, h2⟩ | ⟨x, l, c, zs, hcs, _, hl, hm, hz', hx, hcell, hwz⟩
  · simp only [Value.cells, List.cons.injEq, and_true] at h1
    cases h1
    refine ⟨[], ⟨.nil .., fun _ h => h⟩, by simp, by unfold lenB; simp⟩
  · simp only [Value.cells, List.cons.injEq, and_true] at hcs
    cases hcs
    simp only [Prod.mk.injEq] at hx
    obtain ⟨rfl, rfl⟩ := hx
    obtain ⟨k1, k2, k3⟩ := rep_ints (k := .u8) (w := W) (a := some x) (len := len) (cap := cap) (zs := zs) (.inr ⟨x, rfl, hl, hm, by simpa using hz', hcell, hwz⟩)
    refine ⟨zs.take len, ⟨k1, fun _ h => h⟩, fun b hb => wf_u8 (k3 b hb), ?_⟩
    have k4 := sized_slice hz ht hd hu
    have k5 : (lits (H := H) .u8 (zs.take len)).length ≤ reachBytes := by
      refine Nat.le_trans (Nat.le_trans (Nat.le_add_right _ (lits (H := H) .u8 (zs.drop len)).length) ?_) k4
      exact Nat.le_mul_of_pos_right _ hby
    have := reachBytes_lt
    simp only [lits, List.length_map] at k5
    unfold lenB; omega
end
end Go.Proofs.Pw
