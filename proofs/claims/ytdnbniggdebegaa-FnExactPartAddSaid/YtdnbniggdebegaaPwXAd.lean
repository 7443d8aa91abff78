/- Printed by mkx.py out of Ad.pl: the same, with answers that nobody else holds. -/
import Derived.Test.YtdnbniggdebegaaPwXTold
import Derived.Test.YtdnbniggdebegaaPwAd
set_option linter.unusedSimpArgs false
set_option linter.unusedVariables false
set_option linter.unusedSimpArgs false
set_option maxRecDepth 20000
namespace Go.Proofs.Pw
set_option linter.unusedSectionVars false
variable [Globs]
noncomputable def spAddIX  : Spec := Spec.of (ι := T × T) [false, false] (fun i => [.d (.agg i.1.enc), .d (.agg i.2.enc)]) (fun i => i.1.fit 140737488355328 ∧ i.2.fit 140737488355328) (fun i => [.ag (agX (addT i.1 i.2)), .d (.one (.bool (decide (addOk i.1 i.2))))]) (fun _ => [.gone, .gone])
theorem spAddIX_inj : ∀ i j : T × T, (fun (i : T × T) => ([.d (.agg i.1.enc), .d (.agg i.2.enc)] : List AV)) i = (fun (i : T × T) => ([.d (.agg i.1.enc), .d (.agg i.2.enc)] : List AV)) j → i = j := by
  rintro ⟨a, b⟩ ⟨a', b'⟩ h
  simp only [Prod.mk.injEq]
  simpa [strs_eq, T.enc_eq, encL_eq, F.enc_eq, encF_eq, Tk.enc_eq, encTk_eq, Gn.enc_eq, ints_eq] using h
theorem spAddIX_md  : (spAddIX).md = [false, false] := rfl
theorem spAddIX_pre  (a : T) (b : T) : (spAddIX).pre [.d (.agg a.enc), .d (.agg b.enc)] = (a.fit 140737488355328 ∧ b.fit 140737488355328) := Spec.of_pre' spAddIX_inj (a, b)
theorem spAddIX_alts  : (spAddIX).alts = none := rfl
theorem spAddIX_res  (a : T) (b : T) : (spAddIX).res [.d (.agg a.enc), .d (.agg b.enc)] = [.ag (agX (addT a b)), .d (.one (.bool (decide (addOk a b))))] := Spec.of_res spAddIX_inj (a, b)
theorem spAddIX_out  (a : T) (b : T) : (spAddIX).out [.d (.agg a.enc), .d (.agg b.enc)] = [.gone, .gone] := Spec.of_out spAddIX_inj (a, b)
set_option maxHeartbeats 4000000 in
theorem PartAddIX_sound : Sound Go.Proofs.Try.prog 8 spAddIX := by
  refine sound_fam (GOK.cons (l := [(23, spToldX), (24, spNum), (25, spStr), (26, spRow), (27, spConcat), (28, spPut)]) call_ValOkI valOkI_sound (GOK.cons call_told toldX_sound (GOK.cons call_num num_sound (GOK.cons call_str str_sound (GOK.cons call_row row_sound (GOK.cons call_Concat Concat_sound (GOK.cons call_put put_sound GOK.nil))))))) Go.Proofs.Try.func8 (c := Go.Proofs.Try.f8.body.getD .skip) rfl (n := 102) rfl chk_PartAddI rs_PartAddI (fun _ => by simp) ?_ ?_
  · exact spAddIX_inj
  · rintro ⟨a, b⟩ ⟨h1, h2⟩
    simp only at h1 h2
    have fa := T.enc_len a
    have fb := T.enc_len b
    by_cases oa : okT a
    rotate_left
    · have o1 : ((okI a 1 60).1 = true) = False := eq_false (fun h => oa ((okI_iff _).1 h))
      have e := addT_not (a := a) (b := b) (fun h => oa h.1)
      simp only [x_PartAddI, agX_out, zk, zn, zs, zks, zl, strs_e, encLX_e, Bool.false_or, Bool.or_true, Bool.not_true, Bool.false_eq_true, Prod.fst, rg, go_sem, seval, Prod.fst, fa, fb, o1, e.1, e.2, spValOkI_md, spValOkI_pre, spValOkI_alts, spValOkI_res, spValOkI_out]
      repeat' (first | with_reducible assumption | with_reducible refine And.intro ?_ ?_ | intro _)
      all_goals first | (show _ ≤ (_ : Int); omega) | assumption | skip
    by_cases ob : okT b
    rotate_left
    · have o1 : ((okI a 1 60).1 = true) = True := eq_true ((okI_iff _).2 oa)
      have o2 : ((okI b 1 60).1 = true) = False := eq_false (fun h => ob ((okI_iff _).1 h))
      have e := addT_not (a := a) (b := b) (fun h => ob h.2)
      simp only [x_PartAddI, agX_out, zk, zn, zs, zks, zl, strs_e, encLX_e, Bool.false_or, Bool.or_true, Bool.not_true, Bool.false_eq_true, Prod.fst, rg, go_sem, seval, Prod.fst, fa, fb, o1, o2, e.1, e.2, spValOkI_md, spValOkI_pre, spValOkI_alts, spValOkI_res, spValOkI_out]
      repeat' (first | with_reducible assumption | with_reducible refine And.intro ?_ ?_ | intro _)
      all_goals first | (show _ ≤ (_ : Int); omega) | assumption | skip
    have o1 : ((okI a 1 60).1 = true) = True := eq_true ((okI_iff _).2 oa)
    have o2 : ((okI b 1 60).1 = true) = True := eq_true ((okI_iff _).2 ob)
    have ga := okT_fit oa
    have gb := okT_fit ob
    have ga2 := T.fit_mono (B := 2000000) (by decide) ga
    have gb2 := T.fit_mono (B := 2000000) (by decide) gb
    obtain ⟨k, n, s, ks, l⟩ := a
    obtain ⟨k', n', s', ks', l'⟩ := b
    have ha := okT_head oa
    have hb := okT_head ob
    have oa' := eq_true oa
    have ob' := eq_true ob
    by_cases c0 : k = 0
    · have e := addT_some oa ob (t := .mk k' n' s' ks' l') (by simp only [addRaw, if_pos c0])
      have z0 : (k = 0) = True := eq_true c0
      simp only [x_PartAddI, agX_out, zk, zn, zs, zks, zl, strs_e, encLX_e, Bool.false_or, Bool.or_true, Bool.not_true, Bool.false_eq_true, Prod.fst, rg, go_sem, seval, Prod.fst, T.enc, foldT, foldT0, T.enc_len, o1, o2, z0, e.1, e.2, spValOkI_md, spValOkI_pre, spValOkI_alts, spValOkI_res, spValOkI_out, spToldX_md, spToldX_pre, spToldX_alts, spToldX_res, spToldX_out]
      repeat' (first | with_reducible assumption | with_reducible refine And.intro ?_ ?_ | intro _)
      all_goals first | (show _ ≤ (_ : Int); omega) | assumption | (unfold lenB; omega) | skip
    have z0 : (k = 0) = False := eq_false c0
    by_cases c1 : k' = 0
    · have e := addT_some oa ob (t := .mk k n s ks l) (by simp only [addRaw, if_neg c0, if_pos c1])
      have z1 : (k' = 0) = True := eq_true c1
      simp only [x_PartAddI, agX_out, zk, zn, zs, zks, zl, strs_e, encLX_e, Bool.false_or, Bool.or_true, Bool.not_true, Bool.false_eq_true, Prod.fst, rg, go_sem, seval, Prod.fst, T.enc, foldT, foldT0, T.enc_len, o1, o2, z0, z1, e.1, e.2, spValOkI_md, spValOkI_pre, spValOkI_alts, spValOkI_res, spValOkI_out, spToldX_md, spToldX_pre, spToldX_alts, spToldX_res, spToldX_out]
      repeat' (first | with_reducible assumption | with_reducible refine And.intro ?_ ?_ | intro _)
      all_goals first | (show _ ≤ (_ : Int); omega) | assumption | (unfold lenB; omega) | skip
    have z1 : (k' = 0) = False := eq_false c1
    by_cases c2 : k = k'
    rotate_left
    · have e := addT_none oa ob (by simp only [addRaw, if_neg c0, if_neg c1, ne_eq, c2, not_false_eq_true, if_true])
      have z2 : (k = k') = False := eq_false c2
      simp only [x_PartAddI, agX_out, zk, zn, zs, zks, zl, strs_e, encLX_e, Bool.false_or, Bool.or_true, Bool.not_true, Bool.false_eq_true, Prod.fst, rg, go_sem, seval, Prod.fst, T.enc, foldT, foldT0, T.enc_len, o1, o2, z0, z1, z2, e.1, e.2, spValOkI_md, spValOkI_pre, spValOkI_alts, spValOkI_res, spValOkI_out]
      repeat' (first | with_reducible assumption | with_reducible refine And.intro ?_ ?_ | intro _)
      all_goals first | (show _ ≤ (_ : Int); omega) | assumption | (unfold lenB; omega) | skip
    subst c2
    by_cases c3 : k = 3
    · subst c3
      have e := addT_some oa ob (t := .mk 3 (n + n') ⟨#[]⟩ [] []) (by simp [addRaw])
      have g : (T.mk 3 (n + n') ⟨#[]⟩ [] []).fit 2000000 := by
        refine ⟨by unfold i64; omega, by unfold i64; omega, by unfold lenB; decide, ⟨by unfold lenB; decide, by simp⟩, by unfold lenB; decide, trivial⟩
      simp only [x_PartAddI, agX_out, zk, zn, zs, zks, zl, strs_e, encLX_e, Bool.false_or, Bool.or_true, Bool.not_true, Bool.false_eq_true, Prod.fst, rg, go_sem, seval, Prod.fst, T.enc, foldT, foldT0, T.enc_len, o1, o2, e.1, e.2, spValOkI_md, spValOkI_pre, spValOkI_alts, spValOkI_res, spValOkI_out, spNum_md, spNum_pre, spNum_alts, spNum_res, spNum_out, spToldX_md, spToldX_pre, spToldX_alts, spToldX_res, spToldX_out]
      repeat' (first | with_reducible assumption | with_reducible refine And.intro ?_ ?_ | intro _)
      all_goals first | (show _ ≤ (_ : Int); omega) | assumption | (unfold lenB; omega) | skip
    have z3 : (k = 3) = False := eq_false c3
    by_cases c4 : k = 4
    · subst c4
      have e := addT_some oa ob (t := .mk 4 0 (s ++ s') [] []) (by simp [addRaw])
      have g : (T.mk 4 0 (s ++ s') [] []).fit 2000000 := by
        refine ⟨by unfold i64; omega, by unfold i64; omega, by unfold lenB; rw [ByteArray.size_append]; omega, ⟨by unfold lenB; decide, by simp⟩, by unfold lenB; decide, trivial⟩
      simp only [x_PartAddI, agX_out, zk, zn, zs, zks, zl, strs_e, encLX_e, Bool.false_or, Bool.or_true, Bool.not_true, Bool.false_eq_true, Prod.fst, rg, go_sem, seval, Prod.fst, T.enc, foldT, foldT0, T.enc_len, o1, o2, e.1, e.2, spValOkI_md, spValOkI_pre, spValOkI_alts, spValOkI_res, spValOkI_out, spStr_md, spStr_pre, spStr_alts, spStr_res, spStr_out, spToldX_md, spToldX_pre, spToldX_alts, spToldX_res, spToldX_out]
      repeat' (first | with_reducible assumption | with_reducible refine And.intro ?_ ?_ | intro _)
      all_goals first | (show _ ≤ (_ : Int); omega) | assumption | (unfold lenB; omega) | skip
    have z4 : (k = 4) = False := eq_false c4
    by_cases c5 : k = 5
    · subst c5
      have e := addT_some oa ob (t := .mk 5 0 ⟨#[]⟩ [] (l ++ l')) (by simp [addRaw])
      simp only [T.fit] at ga gb
      obtain ⟨_, _, _, _, l1, f1⟩ := ga
      obtain ⟨_, _, _, _, l2, f2⟩ := gb
      unfold lenB at l1 l2
      have g : (T.mk 5 0 ⟨#[]⟩ [] (l ++ l')).fit 2000000 := rowT_fit (by omega) (by unfold lenB; rw [List.length_append]; omega) (fitL_app (fitL_of fun t ht => T.fit_mono (by decide) (fitL_mem f1 t ht)) (fitL_of fun t ht => T.fit_mono (by decide) (fitL_mem f2 t ht)))
      simp only [x_PartAddI, agX_out, zk, zn, zs, zks, zl, strs_e, encLX_e, Bool.false_or, Bool.or_true, Bool.not_true, Bool.false_eq_true, Prod.fst, rg, go_sem, seval, Prod.fst, T.enc, foldT, foldT0, T.enc_len, o1, o2, e.1, e.2, spValOkI_md, spValOkI_pre, spValOkI_alts, spValOkI_res, spValOkI_out, spConcat_md, spConcat_pre, spConcat_alts, spConcat_res, spConcat_out, spRow_md, spRow_pre, spRow_alts, spRow_res, spRow_out, spToldX_md, spToldX_pre, spToldX_alts, spToldX_res, spToldX_out]
      repeat' (first | with_reducible assumption | with_reducible refine And.intro ?_ ?_ | intro _)
      all_goals first | (show _ ≤ (_ : Int); omega) | assumption | (unfold lenB; omega) | skip
    have z5 : (k = 5) = False := eq_false c5
    by_cases c6 : k = 6
    rotate_left
    · have z6 : (k = 6) = False := eq_false c6
      have e := addT_none oa ob (by simp [addRaw, c0, c3, c4, c5, c6])
      simp only [x_PartAddI, agX_out, zk, zn, zs, zks, zl, strs_e, encLX_e, Bool.false_or, Bool.or_true, Bool.not_true, Bool.false_eq_true, Prod.fst, rg, go_sem, seval, Prod.fst, T.enc, foldT, foldT0, T.enc_len, o1, o2, z0, z3, z4, z5, z6, e.1, e.2, spValOkI_md, spValOkI_pre, spValOkI_alts, spValOkI_res, spValOkI_out]
      repeat' (first | with_reducible assumption | with_reducible refine And.intro ?_ ?_ | intro _)
      all_goals first | (show _ ≤ (_ : Int); omega) | assumption | (unfold lenB; omega) | skip
    subst c6
    obtain ⟨rfl, rfl, e1, _⟩ := okT_map oa rfl
    obtain ⟨rfl, rfl, e2, _⟩ := okT_map ob rfl
    have G0 := good_map oa rfl
    have G1 := good_map ob rfl
    have e := addT_some oa ob (t := .mk 6 0 ⟨#[]⟩ (foldP ks' l' (ks, l)).1 (foldP ks' l' (ks, l)).2) (by simp [addRaw])
    have GF := good_fold G0 (ks := ks') (l := l') G1.ks G1.fit e2
    have few' := G1.few
    simp only at few'
    simp only [x_PartAddI, agX_out, zk, zn, zs, zks, zl, strs_e, encLX_e, Bool.false_or, Bool.or_true, Bool.not_true, Bool.false_eq_true, Prod.fst, rg, go_sem, seval, Prod.fst, T.enc, foldT, foldT0, T.enc_len, strs_len, o1, o2, spValOkI_md, spValOkI_pre, spValOkI_alts, spValOkI_res, spValOkI_out]
    repeat' (first | with_reducible assumption | with_reducible refine And.intro ?_ ?_ | intro _)
    all_goals first | (show _ ≤ (_ : Int); omega) | assumption | (unfold lenB; omega) | skip
    refine pw_loop (ι := Nat) (fun i => ks'.length - i) (fun i => i ≤ ks'.length)
      (fun i => ⟨[(3, .q (.box 3 0)), (4, .q (.box 4 0)), (6, .q (.box 6 0)), (81, .q (.c (.row 1 (strs ks')))), (82, .q (.c (.int .i64 ks'.length))), (83, .q (.c (.int .i64 i)))],
        [(3, [.c (.int .i64 6), .c (.int .i64 0), .c (.str ⟨#[]⟩), .c (.row 1 (strs ks')), .c (.row 5 (encL l'))]), (4, [.c (.int .i64 0), .c (.int .i64 0), .c (.str ⟨#[]⟩), .z 1, .z 5]),
          (6, [.c (.int .i64 6), .c (.int .i64 0), .c (.str ⟨#[]⟩), .c (.row 1 (strs (foldP (ks'.take i) (l'.take i) (ks, l)).1)), .c (.row 5 (encL (foldP (ks'.take i) (l'.take i) (ks, l)).2))])], []⟩) 0 (Nat.zero_le _) ?_ ?_
    · refine Le.sub ?_ ?_ ?_ <;> simp [foldP]
    · intro i hi
      have Gi := GF i hi
      rcases Nat.lt_or_ge i ks'.length with hlt | hge
      · obtain ⟨y, hy, _, _⟩ := drop_at hlt
        obtain ⟨t, ht, _, _⟩ := drop_at (l := l') (i := i) (by omega)
        have b1 : ((i : Int) < (ks'.length : Int)) = True := eq_true (by omega)
        have a1 := strs_at hy
        have a2 := encL_at ht
        have es := foldP_succ (ks, l) hy ht
        generalize foldP (ks'.take i) (l'.take i) (ks, l) = p at *
        obtain ⟨p1, p2⟩ := p
        have ep : putT (.mk 6 0 ⟨#[]⟩ p1 p2) y t = .mk 6 0 ⟨#[]⟩ (foldP (ks'.take (i + 1)) (l'.take (i + 1)) (ks, l)).1 (foldP (ks'.take (i + 1)) (l'.take (i + 1)) (ks, l)).2 := by rw [es]; rfl
        have Gf := Gi.few
        simp only at Gf
        have hi2 : i < l'.length := by omega
        simp only [rg, go_sem, seval, Prod.fst, agX_out, zk, zn, zs, zks, zl, strs_e, encLX_e, Bool.false_or, Bool.or_true, Bool.not_true, Bool.false_eq_true, b1, a1, a2, T.enc, foldT, T.enc_len, strs_len, encL_len, ep, spPut_md, spPut_pre, spPut_alts, spPut_res, spPut_out]
        repeat' (first | with_reducible assumption | with_reducible refine And.intro ?_ ?_ | intro _)
        all_goals first | (show _ ≤ (_ : Int); omega) | (show _ < (_ : Int); omega) | (show _ < (_ : Nat); omega) | exact Gi.asc | exact Gi.len | skip
        · show lenB 1000000 p1.length
          unfold lenB; omega
        exact ⟨i + 1, by omega, by omega, Le.refl _⟩
      · obtain rfl : i = ks'.length := by omega
        have b1 : ((ks'.length : Int) < (ks'.length : Int)) = False := eq_false (by omega)
        rw [List.take_length, show l'.take ks'.length = l' by rw [e2, List.take_length]]
        have g1 := GF ks'.length (Nat.le_refl _)
        rw [List.take_length, show l'.take ks'.length = l' by rw [e2, List.take_length]] at g1
        generalize foldP ks' l' (ks, l) = p at *
        obtain ⟨p1, p2⟩ := p
        have Gf := g1.few
        have Gl := g1.len
        simp only at Gf Gl e
        have g : (T.mk 6 0 ⟨#[]⟩ p1 p2).fit 2000000 := ⟨by unfold i64; omega, by unfold i64; omega, by unfold lenB; decide, ⟨by unfold lenB; omega, fun x hx => by have := g1.ks x hx; unfold lenB; omega⟩, by unfold lenB; omega, fitL_of fun t ht => T.fit_mono (by decide) (fitL_in g1.fit t ht)⟩
        simp only [rg, go_sem, seval, Prod.fst, agX_out, zk, zn, zs, zks, zl, strs_e, encLX_e, Bool.false_or, Bool.or_true, Bool.not_true, Bool.false_eq_true, b1, T.enc, foldT, T.enc_len, strs_len, encL_len, e.1, e.2, spToldX_md, spToldX_pre, spToldX_alts, spToldX_res, spToldX_out]
        repeat' (first | with_reducible assumption | with_reducible refine And.intro ?_ ?_ | intro _)
        all_goals first | (show _ ≤ (_ : Int); omega) | (show _ < (_ : Int); omega) | assumption | skip
end Go.Proofs.Pw
