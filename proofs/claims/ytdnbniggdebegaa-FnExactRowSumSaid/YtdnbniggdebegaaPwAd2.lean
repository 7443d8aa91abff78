/- Trees added: the reference's. -/
import Derived.Test.YtdnbniggdebegaaPwCl3
set_option linter.unusedSimpArgs false
set_option linter.unusedVariables false
set_option linter.unusedSimpArgs false
set_option maxRecDepth 20000
namespace Go.Proofs.Pw
set_option linter.unusedSectionVars false
variable [Globs]
noncomputable def spAdd  : Spec := Spec.of (ι := T × T) [false, false] (fun i => [.d (.agg i.1.enc), .d (.agg i.2.enc)]) (fun i => i.1.fit 140737488355328 ∧ i.2.fit 140737488355328 ∧ sizeT i.1 ≤ 1048577 ∧ sizeT i.2 ≤ 1048577) (fun i => [.d (.agg (addT i.1 i.2).enc), .d (.one (.bool (decide (addOk i.1 i.2))))]) (fun _ => [.gone, .gone])
theorem spAdd_inj : ∀ i j : T × T, (fun (i : T × T) => ([.d (.agg i.1.enc), .d (.agg i.2.enc)] : List AV)) i = (fun (i : T × T) => ([.d (.agg i.1.enc), .d (.agg i.2.enc)] : List AV)) j → i = j := by
  rintro ⟨a, b⟩ ⟨a', b'⟩ h
  simp only [Prod.mk.injEq]
  simpa [strs_eq, T.enc_eq, encL_eq, F.enc_eq, encF_eq, Tk.enc_eq, encTk_eq, Gn.enc_eq, ints_eq] using h
theorem spAdd_md  : (spAdd).md = [false, false] := rfl
theorem spAdd_pre  (a : T) (b : T) : (spAdd).pre [.d (.agg a.enc), .d (.agg b.enc)] = (a.fit 140737488355328 ∧ b.fit 140737488355328 ∧ sizeT a ≤ 1048577 ∧ sizeT b ≤ 1048577) := Spec.of_pre' spAdd_inj (a, b)
theorem spAdd_alts  : (spAdd).alts = none := rfl
theorem spAdd_res  (a : T) (b : T) : (spAdd).res [.d (.agg a.enc), .d (.agg b.enc)] = [.d (.agg (addT a b).enc), .d (.one (.bool (decide (addOk a b))))] := Spec.of_res spAdd_inj (a, b)
theorem spAdd_out  (a : T) (b : T) : (spAdd).out [.d (.agg a.enc), .d (.agg b.enc)] = [.gone, .gone] := Spec.of_out spAdd_inj (a, b)
set_option maxHeartbeats 4000000 in
theorem PartAdd_sound : Sound Go.Proofs.Try.prog 6 spAdd := by
  refine sound_fam (GOK.cons (l := [(17, spCopyAT), (19, spL2Told), (18, spL2Put)]) call_ValOk sOkT_sound (GOK.cons call_l1Copy copyAT_sound (GOK.cons call_l2Told l2Told_sound (GOK.cons call_l2Put l2Put_sound GOK.nil)))) Go.Proofs.Try.func6 (c := Go.Proofs.Try.f6.body.getD .skip) rfl (n := 91) rfl chk_PartAdd rs_PartAdd (fun _ => by simp) ?_ ?_
  · exact spAdd_inj
  · rintro ⟨a, b⟩ ⟨h1, h2, h3, h4⟩
    simp only at h1 h2 h3 h4
    have fa := T.enc_len a
    have fb := T.enc_len b
    by_cases oa : okT a
    rotate_left
    · have e := addT_not (a := a) (b := b) (fun h => oa h.1)
      simp only [x_PartAdd, rg, go_sem, seval, Prod.fst, fa, fb, oa, e.1, e.2, T.zero_enc, spOkT_md, spOkT_pre, spOkT_alts, spOkT_res, spOkT_out]
      repeat' (first | with_reducible assumption | with_reducible refine And.intro ?_ ?_ | intro _)
      all_goals first | (show _ ≤ (_ : Int); omega) | (show _ ≤ (_ : Nat); omega) | assumption | (unfold lenB; omega) | skip
    by_cases ob : okT b
    rotate_left
    · have e := addT_not (a := a) (b := b) (fun h => ob h.2)
      simp only [x_PartAdd, rg, go_sem, seval, Prod.fst, fa, fb, oa, ob, e.1, e.2, T.zero_enc, spOkT_md, spOkT_pre, spOkT_alts, spOkT_res, spOkT_out]
      repeat' (first | with_reducible assumption | with_reducible refine And.intro ?_ ?_ | intro _)
      all_goals first | (show _ ≤ (_ : Int); omega) | (show _ ≤ (_ : Nat); omega) | assumption | (unfold lenB; omega) | skip
    have ga := okT_fit oa
    have gb := okT_fit ob
    have sa := okT_size oa
    have sb := okT_size ob
    have ga2 := T.fit_mono (B := 2000000) (by decide) ga
    have gb2 := T.fit_mono (B := 2000000) (by decide) gb
    obtain ⟨k, n, s, ks, l⟩ := a
    obtain ⟨k', n', s', ks', l'⟩ := b
    have ha := okT_head oa
    have hb := okT_head ob
    have oa' := eq_true oa
    have ob' := eq_true ob
    by_cases c0 : k = 0
    · have e := addT_some oa ob (t := .mk k' n' s' ks' l') (by simp only [addRaw, if_pos c0])
      rw [toldT_ok ob] at e
      have z0 : (k = 0) = True := eq_true c0
      simp only [x_PartAdd, rg, go_sem, seval, Prod.fst, T.enc, agO, foldT, foldT0, T.enc_len, oa', ob', z0, e.1, e.2, spOkT_md, spOkT_pre, spOkT_alts, spOkT_res, spOkT_out, spCopyAT_md, spCopyAT_pre, spCopyAT_alts, spCopyAT_res, spCopyAT_out]
      repeat' (first | with_reducible assumption | with_reducible refine And.intro ?_ ?_ | intro _)
      all_goals first | (show _ ≤ (_ : Int); omega) | (show _ ≤ (_ : Nat); omega) | assumption | (unfold lenB; omega) | skip
    have z0 : (k = 0) = False := eq_false c0
    by_cases c1 : k' = 0
    · have e := addT_some oa ob (t := .mk k n s ks l) (by simp only [addRaw, if_neg c0, if_pos c1])
      rw [toldT_ok oa] at e
      have z1 : (k' = 0) = True := eq_true c1
      simp only [x_PartAdd, rg, go_sem, seval, Prod.fst, T.enc, agO, foldT, foldT0, T.enc_len, oa', ob', z0, z1, e.1, e.2, spOkT_md, spOkT_pre, spOkT_alts, spOkT_res, spOkT_out, spCopyAT_md, spCopyAT_pre, spCopyAT_alts, spCopyAT_res, spCopyAT_out]
      repeat' (first | with_reducible assumption | with_reducible refine And.intro ?_ ?_ | intro _)
      all_goals first | (show _ ≤ (_ : Int); omega) | (show _ ≤ (_ : Nat); omega) | assumption | (unfold lenB; omega) | skip
    have z1 : (k' = 0) = False := eq_false c1
    by_cases c2 : k = k'
    rotate_left
    · have e := addT_none oa ob (by simp only [addRaw, if_neg c0, if_neg c1, ne_eq, c2, not_false_eq_true, if_true])
      have z2 : (k = k') = False := eq_false c2
      simp only [x_PartAdd, rg, go_sem, seval, Prod.fst, T.enc, agO, foldT, foldT0, T.enc_len, oa', ob', z0, z1, z2, e.1, e.2, T.zero_enc, spOkT_md, spOkT_pre, spOkT_alts, spOkT_res, spOkT_out, spCopyAT_md, spCopyAT_pre, spCopyAT_alts, spCopyAT_res, spCopyAT_out]
      repeat' (first | with_reducible assumption | with_reducible refine And.intro ?_ ?_ | intro _)
      all_goals first | (show _ ≤ (_ : Int); omega) | (show _ ≤ (_ : Nat); omega) | assumption | (unfold lenB; omega) | skip
    subst c2
    by_cases c3 : k = 3
    · subst c3
      have e := addT_some oa ob (t := .mk 3 (n + n') ⟨#[]⟩ [] []) (by simp [addRaw])
      have g : (T.mk 3 (n + n') ⟨#[]⟩ [] []).fit 2000000 := by
        refine ⟨by unfold i64; omega, by unfold i64; omega, by unfold lenB; decide, ⟨by unfold lenB; decide, by simp⟩, by unfold lenB; decide, trivial⟩
      have gs : sizeT (T.mk 3 (n + n') ⟨#[]⟩ [] []) ≤ 1048577 := by simp only [sizeT, sizeL]; omega
      obtain ⟨rfl, rfl⟩ := okT_leaf oa (by omega)
      obtain rfl := ha.2.1.resolve_left (by omega)
      simp only [x_PartAdd, rg, go_sem, seval, Prod.fst, T.enc, agO, foldT, foldT0, T.enc_len, oa', ob', e.1, e.2, spOkT_md, spOkT_pre, spOkT_alts, spOkT_res, spOkT_out, spCopyAT_md, spCopyAT_pre, spCopyAT_alts, spCopyAT_res, spCopyAT_out, spL2Told_md, spL2Told_pre, spL2Told_alts, spL2Told_res, spL2Told_out]
      repeat' (first | with_reducible assumption | with_reducible refine And.intro ?_ ?_ | intro _)
      all_goals first | (show _ ≤ (_ : Int); omega) | (show _ ≤ (_ : Nat); omega) | assumption | (unfold lenB; omega) | skip
    have z3 : (k = 3) = False := eq_false c3
    by_cases c4 : k = 4
    · subst c4
      have e := addT_some oa ob (t := .mk 4 0 (s ++ s') [] []) (by simp [addRaw])
      have g : (T.mk 4 0 (s ++ s') [] []).fit 2000000 := by
        refine ⟨by unfold i64; omega, by unfold i64; omega, by unfold lenB; rw [ByteArray.size_append]; omega, ⟨by unfold lenB; decide, by simp⟩, by unfold lenB; decide, trivial⟩
      have gs : sizeT (T.mk 4 0 (s ++ s') [] []) ≤ 1048577 := by simp only [sizeT, sizeL]; omega
      obtain ⟨rfl, rfl⟩ := okT_leaf oa (by omega)
      obtain rfl := ha.1.resolve_left (by omega)
      simp only [x_PartAdd, rg, go_sem, seval, Prod.fst, T.enc, agO, foldT, foldT0, T.enc_len, oa', ob', e.1, e.2, spOkT_md, spOkT_pre, spOkT_alts, spOkT_res, spOkT_out, spCopyAT_md, spCopyAT_pre, spCopyAT_alts, spCopyAT_res, spCopyAT_out, spL2Told_md, spL2Told_pre, spL2Told_alts, spL2Told_res, spL2Told_out]
      repeat' (first | with_reducible assumption | with_reducible refine And.intro ?_ ?_ | intro _)
      all_goals first | (show _ ≤ (_ : Int); omega) | (show _ ≤ (_ : Nat); omega) | assumption | (unfold lenB; omega) | skip
    have z4 : (k = 4) = False := eq_false c4
    by_cases c5 : k = 5
    · subst c5
      have e := addT_some oa ob (t := .mk 5 0 ⟨#[]⟩ [] (l ++ l')) (by simp [addRaw])
      simp only [T.fit] at ga gb
      obtain ⟨_, _, _, _, l1, f1⟩ := ga
      obtain ⟨_, _, _, _, l2, f2⟩ := gb
      unfold lenB at l1 l2
      have g : (T.mk 5 0 ⟨#[]⟩ [] (l ++ l')).fit 2000000 := rowT_fit (by omega) (by unfold lenB; rw [List.length_append]; omega) (fitL_app (fitL_of fun t ht => T.fit_mono (by decide) (fitL_mem f1 t ht)) (fitL_of fun t ht => T.fit_mono (by decide) (fitL_mem f2 t ht)))
      simp only [sizeT] at sa sb
      have gs : sizeT (T.mk 5 0 ⟨#[]⟩ [] (l ++ l')) ≤ 1048577 := by simp only [sizeT]; rw [sizeL_app]; omega
      obtain rfl := ha.1.resolve_left (by omega)
      obtain rfl := ha.2.1.resolve_left (by omega)
      obtain rfl := ha.2.2.1.resolve_left (by omega)
      simp only [x_PartAdd, rg, go_sem, seval, Prod.fst, T.enc, agO, foldT, foldT0, T.enc_len, encL_len, encL_appL, oa', ob', e.1, e.2, spOkT_md, spOkT_pre, spOkT_alts, spOkT_res, spOkT_out, spCopyAT_md, spCopyAT_pre, spCopyAT_alts, spCopyAT_res, spCopyAT_out, spL2Told_md, spL2Told_pre, spL2Told_alts, spL2Told_res, spL2Told_out]
      repeat' (first | with_reducible assumption | with_reducible refine And.intro ?_ ?_ | intro _)
      all_goals first | (show _ ≤ (_ : Int); omega) | (show _ ≤ (_ : Nat); omega) | assumption | (unfold lenB; omega) | skip
    have z5 : (k = 5) = False := eq_false c5
    by_cases c6 : k = 6
    rotate_left
    · have z6 : (k = 6) = False := eq_false c6
      have e := addT_none oa ob (by simp [addRaw, c0, c3, c4, c5, c6])
      simp only [x_PartAdd, rg, go_sem, seval, Prod.fst, T.enc, agO, foldT, foldT0, T.enc_len, oa', ob', z0, z3, z4, z5, z6, e.1, e.2, T.zero_enc, spOkT_md, spOkT_pre, spOkT_alts, spOkT_res, spOkT_out, spCopyAT_md, spCopyAT_pre, spCopyAT_alts, spCopyAT_res, spCopyAT_out]
      repeat' (first | with_reducible assumption | with_reducible refine And.intro ?_ ?_ | intro _)
      all_goals first | (show _ ≤ (_ : Int); omega) | (show _ ≤ (_ : Nat); omega) | assumption | (unfold lenB; omega) | skip
    subst c6
    obtain ⟨rfl, rfl, e1, _⟩ := okT_map oa rfl
    obtain ⟨rfl, rfl, e2, _⟩ := okT_map ob rfl
    have G0 := good_map oa rfl
    have G1 := good_map ob rfl
    have e := addT_some oa ob (t := .mk 6 0 ⟨#[]⟩ (foldP ks' l' (ks, l)).1 (foldP ks' l' (ks, l)).2) (by simp [addRaw])
    have GF := good_fold G0 (ks := ks') (l := l') G1.ks G1.fit e2
    have few' := G1.few
    simp only at few'
    simp only [x_PartAdd, rg, go_sem, seval, Prod.fst, T.enc, agO, foldT, foldT0, T.enc_len, strs_len, oa', ob', spOkT_md, spOkT_pre, spOkT_alts, spOkT_res, spOkT_out, spCopyAT_md, spCopyAT_pre, spCopyAT_alts, spCopyAT_res, spCopyAT_out]
    repeat' (first | with_reducible assumption | with_reducible refine And.intro ?_ ?_ | intro _)
    all_goals first | (show _ ≤ (_ : Int); omega) | assumption | (unfold lenB; omega) | skip
    refine pw_loop (ι := Nat) (fun i => ks'.length - i) (fun i => i ≤ ks'.length)
      (fun i => ⟨[(3, .q (.box 3 0)), (4, .q (.box 4 0)), (6, .q (.box 6 0)), (7, .q (.c (.int .i64 i)))],
        [(3, [.c (.int .i64 6), .c (.int .i64 0), .c (.str ⟨#[]⟩), .c (.row 1 (strs ks')), .c (.row 5 (encL l'))]), (4, [.c (.int .i64 0), .c (.int .i64 0), .c (.str ⟨#[]⟩), .z 1, .z 5]),
          (6, [.c (.int .i64 6), .c (.int .i64 0), .c (.str ⟨#[]⟩), .c (.row 1 (strs (foldP (ks'.take i) (l'.take i) (ks, l)).1)), .c (.row 5 (encL (foldP (ks'.take i) (l'.take i) (ks, l)).2))])], []⟩) 0 (Nat.zero_le _) ?_ ?_
    · refine (Le.pub 3900003 _).trans ((Le.pub 3900004 _).trans ?_)
      refine Le.sub ?_ ?_ ?_ <;> simp [foldP, St.pub, St.map, PV.map, Q.pub, get?, del]
    · intro i hi
      have Gi := GF i hi
      rcases Nat.lt_or_ge i ks'.length with hlt | hge
      · obtain ⟨y, hy, _, _⟩ := drop_at hlt
        obtain ⟨t, ht, _, _⟩ := drop_at (l := l') (i := i) (by omega)
        have b1 : ((i : Int) < (ks'.length : Int)) = True := eq_true (by omega)
        have a1 := strs_at hy
        have a2 := encL_at ht
        have es := foldP_succ (ks, l) hy ht
        generalize foldP (ks'.take i) (l'.take i) (ks, l) = p at *
        obtain ⟨p1, p2⟩ := p
        have ep : putT (.mk 6 0 ⟨#[]⟩ p1 p2) y t = .mk 6 0 ⟨#[]⟩ (foldP (ks'.take (i + 1)) (l'.take (i + 1)) (ks, l)).1 (foldP (ks'.take (i + 1)) (l'.take (i + 1)) (ks, l)).2 := by rw [es]; rfl
        have Gf := Gi.few
        have Gl := Gi.len
        simp only at Gf Gl
        have hi2 : i < l'.length := by omega
        have g : (T.mk 6 0 ⟨#[]⟩ p1 p2).fit 140737488355328 := ⟨by unfold i64; omega, by unfold i64; omega, by unfold lenB; decide, ⟨by unfold lenB; omega, fun x hx => by have := Gi.ks x hx; unfold lenB; omega⟩, by unfold lenB; omega, fitL_of fun t ht => T.fit_mono (by decide) (fitL_in Gi.fit t ht)⟩
        have hk1 : lenB 1000000 (T.mk 6 0 ⟨#[]⟩ p1 p2).keys.length := by show lenB 1000000 p1.length; unfold lenB; omega
        have hk2 : (T.mk 6 0 ⟨#[]⟩ p1 p2).keys.length = (T.mk 6 0 ⟨#[]⟩ p1 p2).list.length := Gi.len
        simp only [rg, go_sem, seval, Prod.fst, b1, a1, a2, T.enc, foldT, T.enc_len, strs_len, encL_len, ep, spL2Put_md, spL2Put_pre, spL2Put_alts, spL2Put_res, spL2Put_out]
        repeat' (first | with_reducible assumption | with_reducible refine And.intro ?_ ?_ | intro _)
        all_goals first | (show _ ≤ (_ : Int); omega) | (show _ < (_ : Int); omega) | (show _ < (_ : Nat); omega) | assumption | skip
        exact ⟨i + 1, by omega, by omega, Le.refl _⟩
      · obtain rfl : i = ks'.length := by omega
        have b1 : ((ks'.length : Int) < (ks'.length : Int)) = False := eq_false (by omega)
        rw [List.take_length, show l'.take ks'.length = l' by rw [e2, List.take_length]]
        have g1 := GF ks'.length (Nat.le_refl _)
        rw [List.take_length, show l'.take ks'.length = l' by rw [e2, List.take_length]] at g1
        generalize foldP ks' l' (ks, l) = p at *
        obtain ⟨p1, p2⟩ := p
        have Gf := g1.few
        have Gl := g1.len
        have Gs := g1.size
        simp only at Gf Gl Gs e
        simp only [sizeT] at sb
        have g : (T.mk 6 0 ⟨#[]⟩ p1 p2).fit 2000000 := ⟨by unfold i64; omega, by unfold i64; omega, by unfold lenB; decide, ⟨by unfold lenB; omega, fun x hx => by have := g1.ks x hx; unfold lenB; omega⟩, by unfold lenB; omega, fitL_of fun t ht => T.fit_mono (by decide) (fitL_in g1.fit t ht)⟩
        have gs : sizeT (T.mk 6 0 ⟨#[]⟩ p1 p2) ≤ 1048577 := by simp only [sizeT]; omega
        simp only [rg, go_sem, seval, Prod.fst, b1, T.enc, foldT, T.enc_len, strs_len, encL_len, e.1, e.2, spL2Told_md, spL2Told_pre, spL2Told_alts, spL2Told_res, spL2Told_out]
        repeat' (first | with_reducible assumption | with_reducible refine And.intro ?_ ?_ | intro _)
        all_goals first | (show _ ≤ (_ : Int); omega) | (show _ < (_ : Int); omega) | assumption | skip
end Go.Proofs.Pw
