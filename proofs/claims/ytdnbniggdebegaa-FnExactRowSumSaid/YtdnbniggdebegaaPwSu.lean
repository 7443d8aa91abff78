/- All of a row added: both programs; a row flat, the reference's; the draw. -/
import Derived.Test.YtdnbniggdebegaaPwAd2
import Derived.Test.YtdnbniggdebegaaPwBy2
import Derived.Test.YtdnbniggdebegaaPwPlSum
set_option linter.unusedSimpArgs false
set_option linter.unusedVariables false
set_option linter.unusedSimpArgs false
set_option maxRecDepth 20000
namespace Go.Proofs.Pw
set_option linter.unusedSectionVars false
variable [Globs]
def x_RowSumI : X := (.seq (.reg [⟨some 1, none, .box (.t 0) (some 5)⟩, ⟨some 2, none, .alloc [(.c (.int .i64 0)), (.c (.int .i64 0)), (.c (.str ⟨#[]⟩)), (.z 1), (.z 5)]⟩, ⟨some 3, none, .mv (.k (.c (.bool false)))⟩] none [1, 2]) (.seq (.seq (.reg [⟨some 8, none, .load (.t 1) (some 5)⟩, ⟨some 9, none, .call 36 [(.t 8)]⟩, ⟨some 10, none, .not (.t 9)⟩] none [1, 2, 10]) (.cond (.t 10) (.seq (.reg [⟨some 11, none, .build [(.c (.int .i64 0)), (.c (.int .i64 0)), (.c (.str ⟨#[]⟩)), (.z 1), (.z 5)] []⟩, ⟨none, none, .st (.t 2) (.t 11) (some 5)⟩, ⟨some 3, none, .mv (.k (.c (.bool false)))⟩] none [2, 3]) .ret) .skip)) (.seq (.reg [⟨some 12, none, .build [(.c (.int .i64 0)), (.c (.int .i64 0)), (.c (.str ⟨#[]⟩)), (.z 1), (.z 5)] []⟩, ⟨some 4, none, .alloc [(.c (.int .i64 0)), (.c (.int .i64 0)), (.c (.str ⟨#[]⟩)), (.z 1), (.z 5)]⟩, ⟨none, none, .st (.t 4) (.t 12) (some 5)⟩, ⟨some 5, none, .mv (.k (.c (.bool true)))⟩] none [1, 2, 4]) (.seq (.seq (.reg [⟨some 13, none, .fa (.t 1) 4⟩, ⟨some 14, none, .load (.t 13) none⟩, ⟨some 15, none, .len (.t 14) false⟩, ⟨some 16, none, .mv (.k (.c (.int .i64 0)))⟩] none [2, 4, 14, 15, 16]) (.block 0 (.loop (.seq (.reg [⟨some 17, none, .bin false .lss (.t 16) (.t 15)⟩] none [2, 4, 14, 15, 16, 17]) (.seq (.cond (.t 17) .skip (.exit 0)) (.seq (.block 1 (.seq (.reg [⟨some 18, none, .ia (.t 14) (.t 16) 5⟩, ⟨some 19, none, .load (.t 18) (some 5)⟩, ⟨some 7, none, .alloc [(.c (.int .i64 0)), (.c (.int .i64 0)), (.c (.str ⟨#[]⟩)), (.z 1), (.z 5)]⟩, ⟨none, none, .st (.t 7) (.t 19) (some 5)⟩] none [2, 4, 7, 14, 15, 16]) (.seq (.reg [⟨some 21, none, .load (.t 4) (some 5)⟩, ⟨some 22, none, .load (.t 7) (some 5)⟩, ⟨some 23, none, .call 8 [(.t 21), (.t 22)]⟩, ⟨some 20, none, .mv (.t 23)⟩, ⟨some 24, none, .ext (.t 20) 0⟩, ⟨some 25, none, .ext (.t 20) 1⟩, ⟨none, none, .st (.t 4) (.t 24) (some 5)⟩, ⟨some 5, none, .mv (.t 25)⟩] none [2, 4, 5, 14, 15, 16]) (.seq (.reg [⟨some 26, none, .mv (.t 5)⟩, ⟨some 27, none, .not (.t 26)⟩] none [2, 4, 14, 15, 16, 27]) (.cond (.t 27) (.seq (.reg [⟨some 28, none, .build [(.c (.int .i64 0)), (.c (.int .i64 0)), (.c (.str ⟨#[]⟩)), (.z 1), (.z 5)] []⟩, ⟨none, none, .st (.t 2) (.t 28) (some 5)⟩, ⟨some 3, none, .mv (.k (.c (.bool false)))⟩] none [2, 3]) .ret) .skip))))) (.reg [⟨some 29, none, .bin false .add (.t 16) (.k (.c (.int .i64 1)))⟩, ⟨some 16, none, .mv (.t 29)⟩] none [2, 4, 14, 15, 16]))))))) (.seq (.reg [⟨some 30, none, .load (.t 4) (some 5)⟩, ⟨some 31, none, .call 23 [(.t 30), (.k (.c (.bool true)))]⟩, ⟨some 32, none, .ext (.t 31) 0⟩, ⟨some 33, none, .ext (.t 31) 1⟩, ⟨none, none, .st (.t 2) (.t 32) (some 5)⟩, ⟨some 3, none, .mv (.t 33)⟩] none [2, 3]) .ret)))))
theorem chk_RowSumI : chkX Go.Proofs.Try.prog 34 (Go.Proofs.Try.f13.body.getD .skip) x_RowSumI = true := by kernel_rfl
theorem rs_RowSumI : okRs Go.Proofs.Try.prog Go.Proofs.Try.f13.results.toList [.cell 2 (some 5), .tmp 3] = true := by kernel_rfl
theorem call_RowSumI : okCallee Go.Proofs.Try.prog 13 = true := by kernel_rfl
def x_RowSum : X := (.seq (.reg [⟨some 1, none, .box (.t 0) (some 5)⟩, ⟨some 2, none, .alloc [(.c (.int .i64 0)), (.c (.int .i64 0)), (.c (.str ⟨#[]⟩)), (.z 1), (.z 5)]⟩, ⟨some 3, none, .mv (.k (.c (.bool false)))⟩] none [1, 2]) (.seq (.seq (.reg [⟨some 8, none, .load (.t 1) (some 5)⟩, ⟨some 9, none, .call 35 [(.t 8)]⟩, ⟨some 10, none, .not (.t 9)⟩] none [1, 2, 10]) (.cond (.t 10) (.seq (.reg [⟨some 11, none, .build [(.c (.int .i64 0)), (.c (.int .i64 0)), (.c (.str ⟨#[]⟩)), (.z 1), (.z 5)] []⟩, ⟨none, none, .st (.t 2) (.t 11) (some 5)⟩, ⟨some 3, none, .mv (.k (.c (.bool false)))⟩] none [2, 3]) .ret) .skip)) (.seq (.reg [⟨some 12, none, .build [(.c (.int .i64 0)), (.c (.int .i64 0)), (.c (.str ⟨#[]⟩)), (.z 1), (.z 5)] []⟩, ⟨some 4, none, .alloc [(.c (.int .i64 0)), (.c (.int .i64 0)), (.c (.str ⟨#[]⟩)), (.z 1), (.z 5)]⟩, ⟨none, none, .st (.t 4) (.t 12) (some 5)⟩] none [1, 2, 4]) (.seq (.seq (.reg [⟨some 5, none, .mv (.k (.c (.int .i64 0)))⟩] none [1, 2, 4, 5]) (.block 0 (.loop (.seq (.seq (.reg [⟨some 13, none, .mv (.t 5)⟩, ⟨some 14, none, .fa (.t 1) 4⟩, ⟨some 15, none, .load (.t 14) none⟩, ⟨some 16, none, .len (.t 15) false⟩, ⟨some 17, none, .bin false .lss (.t 13) (.t 16)⟩] none [1, 2, 4, 5, 17]) (.cond (.t 17) .skip (.exit 0))) (.seq (.block 1 (.seq (.mix [⟨some 21, none, .load (.t 4) (some 5)⟩, ⟨some 22, none, .fa (.t 1) 4⟩, ⟨some 23, none, .load (.t 22) none⟩, ⟨some 24, none, .mv (.t 5)⟩, ⟨some 25, none, .ia (.t 23) (.t 24) 5⟩, ⟨some 26, none, .load (.t 25) (some 5)⟩, ⟨some 27, none, .call 6 [(.t 21), (.t 26)]⟩, ⟨some 20, none, .mv (.t 27)⟩, ⟨some 28, none, .ext (.t 20) 0⟩, ⟨some 29, none, .ext (.t 20) 1⟩, ⟨some 6, none, .alloc [(.c (.int .i64 0)), (.c (.int .i64 0)), (.c (.str ⟨#[]⟩)), (.z 1), (.z 5)]⟩, ⟨none, none, .st (.t 6) (.t 28) (some 5)⟩] [⟨some 7, none, .mv (.t 29)⟩] [[], [], [], [], [], [], [], [], [], [], [0, 1, 2, 3, 4, 5, 7, 8, 9], []] [1, 2, 4, 5, 6, 7]) (.seq (.seq (.reg [⟨some 30, none, .mv (.t 7)⟩, ⟨some 31, none, .not (.t 30)⟩] none [1, 2, 4, 5, 6, 31]) (.cond (.t 31) (.seq (.reg [⟨some 32, none, .build [(.c (.int .i64 0)), (.c (.int .i64 0)), (.c (.str ⟨#[]⟩)), (.z 1), (.z 5)] []⟩, ⟨none, none, .st (.t 2) (.t 32) (some 5)⟩, ⟨some 3, none, .mv (.k (.c (.bool false)))⟩] none [2, 3]) .ret) .skip)) (.reg [⟨some 33, none, .load (.t 6) (some 5)⟩, ⟨none, none, .st (.t 4) (.t 33) (some 5)⟩] none [1, 2, 4, 5])))) (.reg [⟨some 18, none, .mv (.t 5)⟩, ⟨some 19, none, .bin false .add (.t 18) (.k (.c (.int .i64 1)))⟩, ⟨some 5, none, .mv (.t 19)⟩] none [1, 2, 4, 5])))))) (.seq (.reg [⟨some 34, none, .load (.t 4) (some 5)⟩, ⟨some 35, none, .call 19 [(.t 34)]⟩, ⟨some 36, none, .ext (.t 35) 0⟩, ⟨some 37, none, .ext (.t 35) 1⟩, ⟨none, none, .st (.t 2) (.t 36) (some 5)⟩, ⟨some 3, none, .mv (.t 37)⟩] none [2, 3]) .ret)))))
theorem chk_RowSum : chkX Go.Proofs.Try.prog 38 (Go.Proofs.Try.f12.body.getD .skip) x_RowSum = true := by kernel_rfl
theorem rs_RowSum : okRs Go.Proofs.Try.prog Go.Proofs.Try.f12.results.toList [.cell 2 (some 5), .tmp 3] = true := by kernel_rfl
theorem call_RowSum : okCallee Go.Proofs.Try.prog 12 = true := by kernel_rfl
theorem fit_big {t : T} (h : okT t) : t.fit 140737488355328 := T.fit_mono (by decide) (okT_fit h)
theorem fit_two {t : T} (h : okT t) : t.fit 2000000 := T.fit_mono (by decide) (okT_fit h)
noncomputable def spSum  : Spec := Spec.of (ι := T) [false] (fun i => [.d (.agg i.enc)]) (fun i => i.fit 140737488355328 ∧ sizeT i ≤ 1048577) (fun i => [.d (.agg (sumT i).enc), .d (.one (.bool (decide (sumOk i))))]) (fun _ => [.gone])
theorem spSum_inj : ∀ i j : T, (fun (i : T) => ([.d (.agg i.enc)] : List AV)) i = (fun (i : T) => ([.d (.agg i.enc)] : List AV)) j → i = j := by
  intro v v' h
  simpa [strs_eq, T.enc_eq, encL_eq, F.enc_eq, encF_eq, Tk.enc_eq, encTk_eq, Gn.enc_eq, ints_eq, rdC_eq, and_assoc] using h
theorem spSum_md  : (spSum).md = [false] := rfl
theorem spSum_pre  (v : T) : (spSum).pre [.d (.agg v.enc)] = (v.fit 140737488355328 ∧ sizeT v ≤ 1048577) := Spec.of_pre' spSum_inj v
theorem spSum_alts  : (spSum).alts = none := rfl
theorem spSum_res  (v : T) : (spSum).res [.d (.agg v.enc)] = [.d (.agg (sumT v).enc), .d (.one (.bool (decide (sumOk v))))] := Spec.of_res spSum_inj v
theorem spSum_out  (v : T) : (spSum).out [.d (.agg v.enc)] = [.gone] := Spec.of_out spSum_inj v
theorem size_big {t : T} (h : okT t) : sizeT t ≤ 1048577 := by have := okT_size h; omega
set_option maxHeartbeats 4000000 in
theorem RowSum_sound : Sound Go.Proofs.Try.prog 12 spSum := by
  refine sound_fam (GOK.cons (l := [(6, spAdd), (19, spL2Told)]) call_l4Row l4Row_sound (GOK.cons call_PartAdd PartAdd_sound (GOK.cons call_l2Told l2Told_sound GOK.nil))) Go.Proofs.Try.func12 (c := Go.Proofs.Try.f12.body.getD .skip) rfl (n := 38) rfl chk_RowSum rs_RowSum (fun _ => by simp) ?_ ?_
  · exact spSum_inj
  · rintro v ⟨h1, h2⟩
    replace h1 : v.fit 140737488355328 := h1
    replace h2 : sizeT v ≤ 1048577 := h2
    by_cases c : rowT v
    rotate_left
    · have e1 : sumT v = T.zero := if_neg c
      have e2 : sumOk v = False := eq_false (fun h => c h.1)
      simp only [x_RowSum, rg, go_sem, seval, Prod.fst, T.enc_len, e1, e2, c, T.zero_enc, spL4Row_md, spL4Row_pre, spL4Row_alts, spL4Row_res, spL4Row_out]
      repeat' (first | with_reducible assumption | with_reducible refine And.intro ?_ ?_ | intro _)
      all_goals first | (show _ ≤ (_ : Int); omega) | assumption | skip
    obtain ⟨l, rfl⟩ : ∃ l, v = .mk 5 0 ⟨#[]⟩ [] l := ⟨_, rowT_is c⟩
    have o1 := c.1
    have c' : rowT (T.mk 5 0 ⟨#[]⟩ [] l) = True := eq_true c
    have e1 := sumT_row o1
    have e2 := sumOk_row o1
    have l1 : (l.length : Int) ≤ 140737488355328 := (T.fit_list h1).1
    simp only [x_RowSum, rg, go_sem, seval, Prod.fst, T.enc, foldT, foldT0, T.enc_len, encL_len, c', spL4Row_md, spL4Row_pre, spL4Row_alts, spL4Row_res, spL4Row_out]
    repeat' (first | with_reducible assumption | with_reducible refine And.intro ?_ ?_ | intro _)
    all_goals first | (show _ ≤ (_ : Int); omega) | assumption | skip
    refine pw_loop (ι := Nat × T) (fun i => l.length - i.1) (fun i => i.1 ≤ l.length ∧ okT i.2 ∧ sumO (l.drop i.1) i.2 = sumO l T.zero)
      (fun i => ⟨[(1, .q (.box 1 0)), (2, .q (.box 2 0)), (4, .q (.box 4 0)), (5, .q (.c (.int .i64 i.1)))],
        [(1, [.c (.int .i64 5), .c (.int .i64 0), .c (.str ⟨#[]⟩), .c (.row 1 (strs [])), .c (.row 5 (encL l))]), (2, [.c (.int .i64 0), .c (.int .i64 0), .c (.str ⟨#[]⟩), .z 1, .z 5]), (4, i.2.enc.map .c)], []⟩) (0, T.zero) ⟨Nat.zero_le _, okT_zero', rfl⟩ ?_ ?_
    · refine Le.bx ?_
      intro p hp
      simp only [List.mem_cons, List.not_mem_nil, or_false] at hp
      rcases hp with rfl | rfl | rfl
      · exact ⟨_, by simp, All2.qrefl _⟩
      · exact ⟨_, by simp, All2.qrefl _⟩
      · refine ⟨[.c (.int .i64 0), .c (.int .i64 0), .c (.str ⟨#[]⟩), .z 1, .z 5], by simp, ?_⟩
        exact .cons (.refl _) (.cons (.refl _) (.cons (.refl _) (.cons (.z _) (.cons (.z _) .nil))))
    · rintro ⟨i, s⟩ ⟨g1, g2, g3⟩
      simp only at g1 g2 g3
      rcases Nat.lt_or_ge i l.length with hlt | hge
      · obtain ⟨x, hx, hd, hmem⟩ := drop_at hlt
        have b1 : ((i : Int) < (l.length : Int)) = True := eq_true (by omega)
        have a1 := encL_at hx
        have ox := okT_elem o1 hmem
        rw [hd] at g3
        simp only [sumO] at g3
        by_cases k : addOk s x
        · rw [if_pos k] at g3
          simp only [rg, go_sem, seval, Prod.fst, b1, a1, k, T.enc_len, encL_len, spAdd_md, spAdd_pre, spAdd_alts, spAdd_res, spAdd_out]
          repeat' (first | with_reducible assumption | with_reducible refine And.intro ?_ ?_ | intro _)
          all_goals first | (show _ ≤ (_ : Int); omega) | (show _ < (_ : Int); omega) | assumption | exact fit_big g2 | exact fit_big ox | exact size_big g2 | exact size_big ox | exact Nat.le_of_eq (T.enc_len _) | skip
          exact ⟨(i + 1, addT s x), ⟨by show i + 1 ≤ _; omega, addT_ok s x, g3⟩, by show l.length - (i + 1) < _; omega, Le.sub (by simp) (by simp [T.enc_len]) (by simp)⟩
        · rw [if_neg k] at g3
          rw [← g3] at e1 e2
          simp only [Option.getD_none, Option.isSome_none, Bool.false_eq_true, iff_false] at e1 e2
          simp only [rg, go_sem, seval, Prod.fst, b1, a1, k, e1, e2, T.enc_len, encL_len, T.zero_enc, spAdd_md, spAdd_pre, spAdd_alts, spAdd_res, spAdd_out]
          repeat' (first | with_reducible assumption | with_reducible refine And.intro ?_ ?_ | intro _)
          all_goals first | (show _ ≤ (_ : Int); omega) | (show _ < (_ : Int); omega) | assumption | exact fit_big g2 | exact fit_big ox | exact size_big g2 | exact size_big ox | skip
      · obtain rfl : i = l.length := by omega
        have b1 : ((l.length : Int) < (l.length : Int)) = False := eq_false (by omega)
        rw [List.drop_length] at g3
        simp only [sumO] at g3
        rw [← g3] at e1 e2
        simp only [Option.getD_some, Option.isSome_some, iff_true] at e1 e2
        have e3 := toldT_ok g2
        have g2' := eq_true g2
        simp only [rg, go_sem, seval, Prod.fst, b1, e1, e2, e3, g2', T.enc_len, encL_len, spL2Told_md, spL2Told_pre, spL2Told_alts, spL2Told_res, spL2Told_out]
        repeat' (first | with_reducible assumption | with_reducible refine And.intro ?_ ?_ | intro _)
        all_goals first | (show _ ≤ (_ : Int); omega) | (show _ < (_ : Int); omega) | assumption | exact fit_two g2 | exact size_big g2 | skip
end Go.Proofs.Pw
