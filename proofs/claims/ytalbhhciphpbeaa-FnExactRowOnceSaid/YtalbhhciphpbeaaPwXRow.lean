/- Printed by mkx.py: the least, each once, in order: rows of any length; answers that nobody else holds. -/
import Derived.Test.YtalbhhciphpbeaaPwXTold
import Derived.Test.YtalbhhciphpbeaaPwXSo4
import Derived.Test.YtalbhhciphpbeaaPwRwL
import Derived.Test.YtalbhhciphpbeaaPwOn
import Derived.Test.YtalbhhciphpbeaaPwPlOk
set_option linter.unusedSimpArgs false
set_option linter.unusedVariables false
set_option linter.unusedSimpArgs false
set_option maxRecDepth 20000
namespace Go.Proofs.Pw
set_option linter.unusedSectionVars false
variable [Globs]
theorem len_size (l : List T) : (l.length : Int) ≤ sizeL l := by
  induction l with
  | nil => simp [sizeL]
  | cons t l ih => obtain ⟨k, n, s, ks, l'⟩ := t; have := sizeL_nn l'; simp only [sizeL, sizeT, List.length_cons]; omega
theorem row_len {v : T} (h : rowT v) : v.list.length < 100 := by
  obtain ⟨k, n, s, ks, l⟩ := v
  have h1 := okT_size h.1
  have h2 := len_size l
  simp only [sizeT] at h1
  show l.length < 100
  omega
noncomputable def spOnceIX  : Spec := Spec.of (ι := T) [false] (fun i => [.d (.agg i.enc)]) (fun i => i.fit 140737488355328) (fun i => [.ag (agX (onceT i)), .d (.one (.bool (decide (rowT i))))]) (fun _ => [.gone])
theorem spOnceIX_inj : ∀ i j : T, (fun (i : T) => ([.d (.agg i.enc)] : List AV)) i = (fun (i : T) => ([.d (.agg i.enc)] : List AV)) j → i = j := by
  intro v v' h
  simpa [strs_eq, T.enc_eq, encL_eq, F.enc_eq, encF_eq, Tk.enc_eq, encTk_eq, Gn.enc_eq, ints_eq] using h
theorem spOnceIX_md  : (spOnceIX).md = [false] := rfl
theorem spOnceIX_pre  (v : T) : (spOnceIX).pre [.d (.agg v.enc)] = (v.fit 140737488355328) := Spec.of_pre' spOnceIX_inj v
theorem spOnceIX_alts  : (spOnceIX).alts = none := rfl
theorem spOnceIX_res  (v : T) : (spOnceIX).res [.d (.agg v.enc)] = [.ag (agX (onceT v)), .d (.one (.bool (decide (rowT v))))] := Spec.of_res spOnceIX_inj v
theorem spOnceIX_out  (v : T) : (spOnceIX).out [.d (.agg v.enc)] = [.gone] := Spec.of_out spOnceIX_inj v
set_option maxHeartbeats 4000000 in
theorem RowOnceIX_sound : Sound Go.Proofs.Try.prog 17 spOnceIX := by
  refine sound_fam (GOK.cons (l := [(31, spOrderedG), (30, spRow), (29, spToldX), (39, spComp)]) call_isRow isRow_sound (GOK.cons call_ordered orderedG_sound (GOK.cons call_row row_sound (GOK.cons call_told toldX_sound (GOK.cons call_Comp Comp_sound GOK.nil))))) Go.Proofs.Try.func17 (c := Go.Proofs.Try.f17.body.getD .skip) rfl (n := 16) rfl chk_RowOnceI rs_RowOnceI (fun _ => by simp) ?_ ?_
  · exact spOnceIX_inj
  · rintro v hv
    change v.fit 140737488355328 at hv
    by_cases cc : rowT v
    rotate_left
    · have f3 := T.enc_len v
      have e1 : onceT v = T.zero := if_neg cc
      simp only [x_RowOnceI, agX_out, zk, zn, zs, zks, zl, strs_e, encLX_e, Bool.false_or, Bool.or_true, Bool.not_true, Bool.false_eq_true, Prod.fst, rg, go_sem, seval, Prod.fst, f3, e1, cc, spIsRow_md, spIsRow_pre, spIsRow_alts, spIsRow_res, spIsRow_out]
      repeat' (first | with_reducible assumption | with_reducible refine And.intro ?_ ?_ | intro _)
      all_goals first | omega | assumption | exact T.zero_enc | skip
    have h1 : v.fit 1000000 := T.fit_mono (by decide) (okT_fit cc.1)
    have h2 : v.list.length < 100 := row_len cc
    have f3 := T.enc_len v
    have v2 : v.fit 140737488355328 := T.fit_mono (by decide) h1
    by_cases c : rowT v
    · obtain ⟨l, rfl⟩ : ∃ l, v = .mk 5 0 ⟨#[]⟩ [] l := ⟨_, rowT_is c⟩
      have o1 := c.1
      have e1 := onceT_row o1
      have o2 := once_ok o1
      have e2 := toldT_ok o2
      have e3 : onc (sortC cmpT l) = onceL l := rfl
      have l1 := onceL_len l
      have l2 : l.length < 100 := h2
      have g1 := (T.fit_list v2).2
      have g2 : fitL 140737488355328 (sortC cmpT l) := fitL_perm g1 (sortC_perm cmpT_is l)
      have g3 : (sortC cmpT l).length = l.length := (sortC_perm cmpT_is l).length_eq
      have g4 : (T.mk 5 0 ⟨#[]⟩ [] (onceL l)).fit 2000000 := rowT_fit (by omega) (by unfold lenB; omega) (onceL_fit (fitL_of fun t ht => T.fit_mono (by decide) (fitL_mem (T.fit_list h1).2 t ht)))
      have f4 := T.enc_len (.mk 5 0 ⟨#[]⟩ [] (onceL l))
      simp only [x_RowOnceI, agX_out, zk, zn, zs, zks, zl, strs_e, encLX_e, Bool.false_or, Bool.or_true, Bool.not_true, Bool.false_eq_true, Prod.fst, rg, go_sem, seval, T.enc, foldT, foldT0, e1, e2, e3, c, o2, f4, encL_len, spIsRow_md, spIsRow_pre, spIsRow_alts, spIsRow_res, spIsRow_out, spOrderedG_md, spOrderedG_pre, spOrderedG_alts, spOrderedG_res, spOrderedG_out, spComp_md, spComp_pre, spComp_alts, spComp_res, spComp_out, spRow_md, spRow_pre, spRow_alts, spRow_res, spRow_out, spToldX_md, spToldX_pre, spToldX_alts, spToldX_res, spToldX_out]
      repeat' (first | with_reducible assumption | with_reducible refine And.intro ?_ ?_ | intro _)
      all_goals first | omega | assumption | (unfold lenB; omega) | skip
    · have e1 := onceT_not c
      simp only [x_RowOnceI, agX_out, zk, zn, zs, zks, zl, strs_e, encLX_e, Bool.false_or, Bool.or_true, Bool.not_true, Bool.false_eq_true, Prod.fst, rg, go_sem, seval, f3, e1, c, spIsRow_md, spIsRow_pre, spIsRow_alts, spIsRow_res, spIsRow_out]
      repeat' (first | with_reducible assumption | with_reducible refine And.intro ?_ ?_ | intro _)
      all_goals first | omega | assumption | exact T.zero_enc | skip

noncomputable def spOnceG  : Spec := Spec.of (ι := T) [false] (fun i => [.d (.agg i.enc)]) (fun i => i.fit 140737488355328 ∧ sizeT i ≤ 1048577) (fun i => [.d (.agg (onceT i).enc), .d (.one (.bool (decide (rowT i))))]) (fun _ => [.gone])
theorem spOnceG_inj : ∀ i j : T, (fun (i : T) => ([.d (.agg i.enc)] : List AV)) i = (fun (i : T) => ([.d (.agg i.enc)] : List AV)) j → i = j := by
  intro v v' h
  simpa [strs_eq, T.enc_eq, encL_eq, F.enc_eq, encF_eq, Tk.enc_eq, encTk_eq, Gn.enc_eq, ints_eq] using h
theorem spOnceG_md  : (spOnceG).md = [false] := rfl
theorem spOnceG_pre  (v : T) : (spOnceG).pre [.d (.agg v.enc)] = (v.fit 140737488355328 ∧ sizeT v ≤ 1048577) := Spec.of_pre' spOnceG_inj v
theorem spOnceG_alts  : (spOnceG).alts = none := rfl
theorem spOnceG_res  (v : T) : (spOnceG).res [.d (.agg v.enc)] = [.d (.agg (onceT v).enc), .d (.one (.bool (decide (rowT v))))] := Spec.of_res spOnceG_inj v
theorem spOnceG_out  (v : T) : (spOnceG).out [.d (.agg v.enc)] = [.gone] := Spec.of_out spOnceG_inj v
set_option maxHeartbeats 4000000 in
theorem RowOnceG_sound : Sound Go.Proofs.Try.prog 16 spOnceG := by
  refine sound_fam (GOK.cons (l := [(24, spL4Of), (38, spL4Once), (23, spL2Told)]) call_l4Row l4Row_sound (GOK.cons call_l4Of l4Of_sound (GOK.cons call_l4Once l4Once_sound (GOK.cons call_l2Told l2Told_sound GOK.nil)))) Go.Proofs.Try.func16 (c := Go.Proofs.Try.f16.body.getD .skip) rfl (n := 15) rfl chk_RowOnce rs_RowOnce (fun _ => by simp) ?_ ?_
  · exact spOnceG_inj
  · rintro v ⟨hv, hz⟩
    replace hv : v.fit 140737488355328 := hv
    replace hz : sizeT v ≤ 1048577 := hz
    by_cases cc : rowT v
    rotate_left
    · have f3 := T.enc_len v
      have e1 : onceT v = T.zero := if_neg cc
      simp only [x_RowOnce, rg, go_sem, seval, Prod.fst, f3, e1, cc, spL4Row_md, spL4Row_pre, spL4Row_alts, spL4Row_res, spL4Row_out]
      repeat' (first | with_reducible assumption | with_reducible refine And.intro ?_ ?_ | intro _)
      all_goals first | omega | assumption | exact T.zero_enc | skip
    have h1 : v.fit 1000000 := T.fit_mono (by decide) (okT_fit cc.1)
    have h2 : sizeT v ≤ 1000000 := by have := okT_size cc.1; omega
    have f3 := T.enc_len v
    have v2 : v.fit 140737488355328 := T.fit_mono (by decide) h1
    by_cases c : rowT v
    · obtain ⟨l, rfl⟩ : ∃ l, v = .mk 5 0 ⟨#[]⟩ [] l := ⟨_, rowT_is c⟩
      have o1 := c.1
      have e1 := onceT_row o1
      have o2 := once_ok o1
      have e2 := toldT_ok o2
      have l1 := onceL_len l
      have l3 : (l.length : Int) ≤ 1000000 := (T.fit_list h1).1
      have l4 := onceL_size l
      simp only [sizeT] at h2
      have g1 := (T.fit_list v2).2
      have g4 : (T.mk 5 0 ⟨#[]⟩ [] (onceL l)).fit 2000000 := rowT_fit (by omega) (by unfold lenB; omega) (onceL_fit (fitL_of fun t ht => T.fit_mono (by decide) (fitL_mem (T.fit_list h1).2 t ht)))
      have f4 := T.enc_len (.mk 5 0 ⟨#[]⟩ [] (onceL l))
      simp only [x_RowOnce, rg, go_sem, seval, T.enc, foldT, foldT0, e1, e2, c, o2, f4, encL_len, spL4Row_md, spL4Row_pre, spL4Row_alts, spL4Row_res, spL4Row_out, spL4Once_md, spL4Once_pre, spL4Once_alts, spL4Once_res, spL4Once_out, spL4Of_md, spL4Of_pre, spL4Of_alts, spL4Of_res, spL4Of_out, spL2Told_md, spL2Told_pre, spL2Told_alts, spL2Told_res, spL2Told_out]
      repeat' (first | with_reducible assumption | with_reducible refine And.intro ?_ ?_ | intro _)
      all_goals first | omega | assumption | (simp only [sizeT]; omega) | (unfold lenB; omega) | skip
    · have e1 := onceT_not c
      simp only [x_RowOnce, rg, go_sem, seval, f3, e1, c, spL4Row_md, spL4Row_pre, spL4Row_alts, spL4Row_res, spL4Row_out]
      repeat' (first | with_reducible assumption | with_reducible refine And.intro ?_ ?_ | intro _)
      all_goals first | omega | assumption | exact T.zero_enc | skip

end Go.Proofs.Pw
