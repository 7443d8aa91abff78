/- Printed by mkx.py out of Su.pl: the same, with answers that nobody else holds. -/
import Derived.Test.YtdnbniggdebegaaPwXTold
import Derived.Test.YtdnbniggdebegaaPwSu
set_option linter.unusedSimpArgs false
set_option linter.unusedVariables false
set_option linter.unusedSimpArgs false
set_option maxRecDepth 20000
namespace Go.Proofs.Pw
set_option linter.unusedSectionVars false
variable [Globs]
noncomputable def spSumIX  : Spec := Spec.of (ι := T) [false] (fun i => [.d (.agg i.enc)]) (fun i => i.fit 140737488355328) (fun i => [.ag (agX (sumT i)), .d (.one (.bool (decide (sumOk i))))]) (fun _ => [.gone])
theorem spSumIX_inj : ∀ i j : T, (fun (i : T) => ([.d (.agg i.enc)] : List AV)) i = (fun (i : T) => ([.d (.agg i.enc)] : List AV)) j → i = j := by
  intro v v' h
  simpa [strs_eq, T.enc_eq, encL_eq, F.enc_eq, encF_eq, Tk.enc_eq, encTk_eq, Gn.enc_eq, ints_eq] using h
theorem spSumIX_md  : (spSumIX).md = [false] := rfl
theorem spSumIX_pre  (v : T) : (spSumIX).pre [.d (.agg v.enc)] = (v.fit 140737488355328) := Spec.of_pre' spSumIX_inj v
theorem spSumIX_alts  : (spSumIX).alts = none := rfl
theorem spSumIX_res  (v : T) : (spSumIX).res [.d (.agg v.enc)] = [.ag (agX (sumT v)), .d (.one (.bool (decide (sumOk v))))] := Spec.of_res spSumIX_inj v
theorem spSumIX_out  (v : T) : (spSumIX).out [.d (.agg v.enc)] = [.gone] := Spec.of_out spSumIX_inj v
set_option maxHeartbeats 4000000 in
theorem RowSumIX_sound : Sound Go.Proofs.Try.prog 13 spSumIX := by
  refine sound_fam (GOK.cons (l := [(8, spAddI), (23, spToldX)]) call_isRow isRow_sound (GOK.cons call_PartAddI PartAddI_sound (GOK.cons call_told toldX_sound GOK.nil))) Go.Proofs.Try.func13 (c := Go.Proofs.Try.f13.body.getD .skip) rfl (n := 34) rfl chk_RowSumI rs_RowSumI (fun _ => by simp) ?_ ?_
  · exact spSumIX_inj
  · rintro v h1
    change v.fit 140737488355328 at h1
    by_cases c : rowT v
    rotate_left
    · have e1 : sumT v = T.zero := if_neg c
      have e2 : sumOk v = False := eq_false (fun h => c h.1)
      simp only [x_RowSumI, agX_out, zk, zn, zs, zks, zl, strs_e, encLX_e, Bool.false_or, Bool.or_true, Bool.not_true, Bool.false_eq_true, Prod.fst, rg, go_sem, seval, Prod.fst, T.enc_len, e1, e2, c, spIsRow_md, spIsRow_pre, spIsRow_alts, spIsRow_res, spIsRow_out]
      repeat' (first | with_reducible assumption | with_reducible refine And.intro ?_ ?_ | intro _)
      all_goals first | (show _ ≤ (_ : Int); omega) | assumption | skip
    obtain ⟨l, rfl⟩ : ∃ l, v = .mk 5 0 ⟨#[]⟩ [] l := ⟨_, rowT_is c⟩
    have o1 := c.1
    have c' : rowT (T.mk 5 0 ⟨#[]⟩ [] l) = True := eq_true c
    have e1 := sumT_row o1
    have e2 := sumOk_row o1
    have l1 : (l.length : Int) ≤ 140737488355328 := (T.fit_list h1).1
    simp only [x_RowSumI, agX_out, zk, zn, zs, zks, zl, strs_e, encLX_e, Bool.false_or, Bool.or_true, Bool.not_true, Bool.false_eq_true, Prod.fst, rg, go_sem, seval, Prod.fst, T.enc, foldT, foldT0, T.enc_len, encL_len, c', spIsRow_md, spIsRow_pre, spIsRow_alts, spIsRow_res, spIsRow_out]
    repeat' (first | with_reducible assumption | with_reducible refine And.intro ?_ ?_ | intro _)
    all_goals first | (show _ ≤ (_ : Int); omega) | assumption | skip
    refine pw_loop (ι := Nat × T) (fun i => l.length - i.1) (fun i => i.1 ≤ l.length ∧ okT i.2 ∧ sumO (l.drop i.1) i.2 = sumO l T.zero)
      (fun i => ⟨[(2, .q (.box 2 0)), (4, .q (.box 4 0)), (14, .q (.c (.row 5 (encL l)))), (15, .q (.c (.int .i64 l.length))), (16, .q (.c (.int .i64 i.1)))],
        [(2, [.c (.int .i64 0), .c (.int .i64 0), .c (.str ⟨#[]⟩), .z 1, .z 5]), (4, i.2.enc.map .c)], []⟩) (0, T.zero) ⟨Nat.zero_le _, okT_zero', rfl⟩ ?_ ?_
    · refine Le.bx ?_
      intro p hp
      simp only [List.mem_cons, List.not_mem_nil, or_false] at hp
      rcases hp with rfl | rfl
      · exact ⟨_, by simp, All2.qrefl _⟩
      · refine ⟨[.c (.int .i64 0), .c (.int .i64 0), .c (.str ⟨#[]⟩), .z 1, .z 5], by simp, ?_⟩
        exact .cons (.refl _) (.cons (.refl _) (.cons (.refl _) (.cons (.z _) (.cons (.z _) .nil))))
    · rintro ⟨i, s⟩ ⟨g1, g2, g3⟩
      simp only at g1 g2 g3
      rcases Nat.lt_or_ge i l.length with hlt | hge
      · obtain ⟨x, hx, hd, hmem⟩ := drop_at hlt
        have b1 : ((i : Int) < (l.length : Int)) = True := eq_true (by omega)
        have a1 := encL_at hx
        have ox := okT_elem o1 hmem
        rw [hd] at g3
        simp only [sumO] at g3
        by_cases k : addOk s x
        · rw [if_pos k] at g3
          simp only [rg, go_sem, seval, Prod.fst, agX_out, zk, zn, zs, zks, zl, strs_e, encLX_e, Bool.false_or, Bool.or_true, Bool.not_true, Bool.false_eq_true, b1, a1, k, T.enc_len, encL_len, spAddI_md, spAddI_pre, spAddI_alts, spAddI_res, spAddI_out]
          repeat' (first | with_reducible assumption | with_reducible refine And.intro ?_ ?_ | intro _)
          all_goals first | (show _ ≤ (_ : Int); omega) | (show _ < (_ : Int); omega) | assumption | exact fit_big g2 | exact fit_big ox | exact Nat.le_of_eq (T.enc_len _) | skip
          exact ⟨(i + 1, addT s x), ⟨by show i + 1 ≤ _; omega, addT_ok s x, g3⟩, by show l.length - (i + 1) < _; omega, Le.sub (by simp) (by simp [T.enc_len]) (by simp)⟩
        · rw [if_neg k] at g3
          rw [← g3] at e1 e2
          simp only [Option.getD_none, Option.isSome_none, Bool.false_eq_true, iff_false] at e1 e2
          simp only [rg, go_sem, seval, Prod.fst, agX_out, zk, zn, zs, zks, zl, strs_e, encLX_e, Bool.false_or, Bool.or_true, Bool.not_true, Bool.false_eq_true, b1, a1, k, e1, e2, T.enc_len, encL_len, spAddI_md, spAddI_pre, spAddI_alts, spAddI_res, spAddI_out]
          repeat' (first | with_reducible assumption | with_reducible refine And.intro ?_ ?_ | intro _)
          all_goals first | (show _ ≤ (_ : Int); omega) | (show _ < (_ : Int); omega) | assumption | exact fit_big g2 | exact fit_big ox | skip
      · obtain rfl : i = l.length := by omega
        have b1 : ((l.length : Int) < (l.length : Int)) = False := eq_false (by omega)
        rw [List.drop_length] at g3
        simp only [sumO] at g3
        rw [← g3] at e1 e2
        simp only [Option.getD_some, Option.isSome_some, iff_true] at e1 e2
        have e3 := toldT_ok g2
        have g2' := eq_true g2
        simp only [rg, go_sem, seval, Prod.fst, agX_out, zk, zn, zs, zks, zl, strs_e, encLX_e, Bool.false_or, Bool.or_true, Bool.not_true, Bool.false_eq_true, b1, e1, e2, e3, g2', T.enc_len, encL_len, spToldX_md, spToldX_pre, spToldX_alts, spToldX_res, spToldX_out]
        repeat' (first | with_reducible assumption | with_reducible refine And.intro ?_ ?_ | intro _)
        all_goals first | (show _ ≤ (_ : Int); omega) | (show _ < (_ : Int); omega) | assumption | exact fit_two g2 | skip
end Go.Proofs.Pw
