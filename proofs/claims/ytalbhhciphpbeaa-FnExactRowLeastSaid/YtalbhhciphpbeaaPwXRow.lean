/- Printed by mkx.py: the least, each once, in order: rows of any length; answers that nobody else holds. -/
import Derived.Test.YtalbhhciphpbeaaPwXTold
import Derived.Test.YtalbhhciphpbeaaPwXSo4
import Derived.Test.YtalbhhciphpbeaaPwRwL
import Derived.Test.YtalbhhciphpbeaaPwOn
import Derived.Test.YtalbhhciphpbeaaPwPlOk
set_option linter.unusedSimpArgs false
set_option linter.unusedVariables false
set_option linter.unusedSimpArgs false
set_option maxRecDepth 20000
namespace Go.Proofs.Pw
set_option linter.unusedSectionVars false
variable [Globs]
theorem len_size (l : List T) : (l.length : Int) ≤ sizeL l := by
  induction l with
  | nil => simp [sizeL]
  | cons t l ih => obtain ⟨k, n, s, ks, l'⟩ := t; have := sizeL_nn l'; simp only [sizeL, sizeT, List.length_cons]; omega
theorem row_len {v : T} (h : rowT v) : v.list.length < 100 := by
  obtain ⟨k, n, s, ks, l⟩ := v
  have h1 := okT_size h.1
  have h2 := len_size l
  simp only [sizeT] at h1
  show l.length < 100
  omega
noncomputable def spLeastIX  : Spec := Spec.of (ι := T) [false] (fun i => [.d (.agg i.enc)]) (fun i => i.fit 140737488355328) (fun i => [.ag (agX (leastT i)), .d (.one (.bool (decide (leastOk i))))]) (fun _ => [.gone])
theorem spLeastIX_inj : ∀ i j : T, (fun (i : T) => ([.d (.agg i.enc)] : List AV)) i = (fun (i : T) => ([.d (.agg i.enc)] : List AV)) j → i = j := by
  intro v v' h
  simpa [strs_eq, T.enc_eq, encL_eq, F.enc_eq, encF_eq, Tk.enc_eq, encTk_eq, Gn.enc_eq, ints_eq] using h
theorem spLeastIX_md  : (spLeastIX).md = [false] := rfl
theorem spLeastIX_pre  (v : T) : (spLeastIX).pre [.d (.agg v.enc)] = (v.fit 140737488355328) := Spec.of_pre' spLeastIX_inj v
theorem spLeastIX_alts  : (spLeastIX).alts = none := rfl
theorem spLeastIX_res  (v : T) : (spLeastIX).res [.d (.agg v.enc)] = [.ag (agX (leastT v)), .d (.one (.bool (decide (leastOk v))))] := Spec.of_res spLeastIX_inj v
theorem spLeastIX_out  (v : T) : (spLeastIX).out [.d (.agg v.enc)] = [.gone] := Spec.of_out spLeastIX_inj v
set_option maxHeartbeats 4000000 in
theorem RowLeastIX_sound : Sound Go.Proofs.Try.prog 15 spLeastIX := by
  refine sound_fam (GOK.cons (l := [(31, spOrderedG), (29, spToldX)]) call_isRow isRow_sound (GOK.cons call_ordered orderedG_sound (GOK.cons call_told toldX_sound GOK.nil))) Go.Proofs.Try.func15 (c := Go.Proofs.Try.f15.body.getD .skip) rfl (n := 21) rfl chk_RowLeastI rs_RowLeastI (fun _ => by simp) ?_ ?_
  · exact spLeastIX_inj
  · rintro v hv
    change v.fit 140737488355328 at hv
    by_cases cc : rowT v
    rotate_left
    · have f3 := T.enc_len v
      have e1 : leastT v = T.zero := if_neg cc
      have e2 : leastOk v = False := eq_false (fun h => cc h.1)
      simp only [x_RowLeastI, agX_out, zk, zn, zs, zks, zl, strs_e, encLX_e, Bool.false_or, Bool.or_true, Bool.not_true, Bool.false_eq_true, Prod.fst, rg, go_sem, seval, Prod.fst, f3, e1, e2, cc, spIsRow_md, spIsRow_pre, spIsRow_alts, spIsRow_res, spIsRow_out]
      repeat' (first | with_reducible assumption | with_reducible refine And.intro ?_ ?_ | intro _)
      all_goals first | omega | assumption | exact T.zero_enc | skip
    have h1 : v.fit 1000000 := T.fit_mono (by decide) (okT_fit cc.1)
    have h2 : v.list.length < 100 := row_len cc
    have f3 := T.enc_len v
    obtain ⟨k, n, s, ks, l⟩ := v
    have g1 : (T.mk k n s ks l).fit 140737488355328 := T.fit_mono (by decide) h1
    have g2 := (T.fit_list h1).2
    have g3 := (T.fit_list g1).2
    simp only [T.list] at h2
    by_cases c : rowT (.mk k n s ks l)
    · cases l with
      | nil =>
        have e : leastT (T.mk k n s ks []) = T.zero := by simp [leastT, c, T.list, sortC, toldT, okT_zero]
        have e' : leastOk (T.mk k n s ks []) = True := eq_true ⟨c, by simpa [T.list, sortC] using okT_zero⟩
        have b1 : (((0 : Nat) : Int) = 0) = True := by simp
        simp only [x_RowLeastI, agX_out, zk, zn, zs, zks, zl, strs_e, encLX_e, Bool.false_or, Bool.or_true, Bool.not_true, Bool.false_eq_true, Prod.fst, rg, go_sem, seval, T.enc, foldT, encL_len, b1, e, e', c, spIsRow_md, spIsRow_pre, spIsRow_alts, spIsRow_res, spIsRow_out, spOrderedG_md, spOrderedG_pre, spOrderedG_alts, spOrderedG_res, spOrderedG_out, spToldX_md, spToldX_pre, spToldX_alts, spToldX_res, spToldX_out]
        repeat' (first | with_reducible assumption | with_reducible refine And.intro ?_ ?_ | intro _); all_goals first | omega | assumption | exact T.zero_enc | skip
      | cons x l =>
        obtain ⟨y, r, hy⟩ : ∃ y r, sortC cmpT (x :: l) = y :: r := by
          cases h : sortC cmpT (x :: l) with
          | nil => have := (sortC_perm cmpT_is (x :: l)).length_eq; rw [h] at this; simp at this
          | cons y r => exact ⟨y, r, rfl⟩
        have hmem : y ∈ x :: l := (sortC_perm cmpT_is (x :: l)).mem_iff.1 (by rw [hy]; simp)
        have e : leastT (T.mk k n s ks (x :: l)) = toldT true y := by simp [leastT, c, T.list, hy]
        have e' : leastOk (T.mk k n s ks (x :: l)) = okT y := propext ⟨fun h => by simpa [T.list, hy] using h.2, fun h => ⟨c, by simpa [T.list, hy] using h⟩⟩
        have f4 := T.enc_len y
        have f5 := T.fit_mono (B := 2000000) (by decide) (fitL_mem g2 y hmem)
        have a1 : (encL (y :: r)).getD 0 [] = y.enc := rfl
        have f6 := T.enc_len (toldT true y)
        have b1 : (((l.length + 1 : Nat) : Int) = 0) = False := eq_false (by omega)
        simp only [x_RowLeastI, agX_out, zk, zn, zs, zks, zl, strs_e, encLX_e, Bool.false_or, Bool.or_true, Bool.not_true, Bool.false_eq_true, Prod.fst, rg, go_sem, seval, T.enc, foldT, encL_len, b1, e, e', c, hy, a1, f4, f6, spIsRow_md, spIsRow_pre, spIsRow_alts, spIsRow_res, spIsRow_out, spOrderedG_md, spOrderedG_pre, spOrderedG_alts, spOrderedG_res, spOrderedG_out, spToldX_md, spToldX_pre, spToldX_alts, spToldX_res, spToldX_out]
        simp only [List.length_cons] at h2
        repeat' (first | with_reducible assumption | with_reducible refine And.intro ?_ ?_ | intro _)
        all_goals first | omega | assumption | (unfold lenB; omega) | skip
    · have e : leastT (T.mk k n s ks l) = T.zero := by simp [leastT, c]
      have e' : leastOk (T.mk k n s ks l) = False := eq_false (fun h => c h.1)
      simp only [x_RowLeastI, agX_out, zk, zn, zs, zks, zl, strs_e, encLX_e, Bool.false_or, Bool.or_true, Bool.not_true, Bool.false_eq_true, Prod.fst, rg, go_sem, seval, T.enc, foldT, e, e', c, spIsRow_md, spIsRow_pre, spIsRow_alts, spIsRow_res, spIsRow_out, spOrderedG_md, spOrderedG_pre, spOrderedG_alts, spOrderedG_res, spOrderedG_out, spToldX_md, spToldX_pre, spToldX_alts, spToldX_res, spToldX_out]
      repeat' (first | with_reducible assumption | with_reducible refine And.intro ?_ ?_ | intro _); all_goals first | omega | assumption | exact T.zero_enc | skip

noncomputable def spLeastG  : Spec := Spec.of (ι := T) [false] (fun i => [.d (.agg i.enc)]) (fun i => i.fit 140737488355328 ∧ sizeT i ≤ 1048577) (fun i => [.d (.agg (leastT i).enc), .d (.one (.bool (decide (leastOk i))))]) (fun _ => [.gone])
theorem spLeastG_inj : ∀ i j : T, (fun (i : T) => ([.d (.agg i.enc)] : List AV)) i = (fun (i : T) => ([.d (.agg i.enc)] : List AV)) j → i = j := by
  intro v v' h
  simpa [strs_eq, T.enc_eq, encL_eq, F.enc_eq, encF_eq, Tk.enc_eq, encTk_eq, Gn.enc_eq, ints_eq] using h
theorem spLeastG_md  : (spLeastG).md = [false] := rfl
theorem spLeastG_pre  (v : T) : (spLeastG).pre [.d (.agg v.enc)] = (v.fit 140737488355328 ∧ sizeT v ≤ 1048577) := Spec.of_pre' spLeastG_inj v
theorem spLeastG_alts  : (spLeastG).alts = none := rfl
theorem spLeastG_res  (v : T) : (spLeastG).res [.d (.agg v.enc)] = [.d (.agg (leastT v).enc), .d (.one (.bool (decide (leastOk v))))] := Spec.of_res spLeastG_inj v
theorem spLeastG_out  (v : T) : (spLeastG).out [.d (.agg v.enc)] = [.gone] := Spec.of_out spLeastG_inj v
set_option maxHeartbeats 4000000 in
theorem RowLeastG_sound : Sound Go.Proofs.Try.prog 14 spLeastG := by
  refine sound_fam (GOK.cons (l := [(25, spL4Sort), (23, spL2Told)]) call_l4Row l4Row_sound (GOK.cons call_l4Sort l4Sort_sound (GOK.cons call_l2Told l2Told_sound GOK.nil))) Go.Proofs.Try.func14 (c := Go.Proofs.Try.f14.body.getD .skip) rfl (n := 21) rfl chk_RowLeast rs_RowLeast (fun _ => by simp) ?_ ?_
  · exact spLeastG_inj
  · rintro v ⟨hv, hz⟩
    replace hv : v.fit 140737488355328 := hv
    replace hz : sizeT v ≤ 1048577 := hz
    by_cases cc : rowT v
    rotate_left
    · have f3 := T.enc_len v
      have e1 : leastT v = T.zero := if_neg cc
      have e2 : leastOk v = False := eq_false (fun h => cc h.1)
      simp only [x_RowLeast, rg, go_sem, seval, Prod.fst, f3, e1, e2, cc, spL4Row_md, spL4Row_pre, spL4Row_alts, spL4Row_res, spL4Row_out]
      repeat' (first | with_reducible assumption | with_reducible refine And.intro ?_ ?_ | intro _)
      all_goals first | omega | assumption | exact T.zero_enc | skip
    have h1 : v.fit 1000000 := T.fit_mono (by decide) (okT_fit cc.1)
    have h2 : sizeT v ≤ 1000000 := by have := okT_size cc.1; omega
    have f3 := T.enc_len v
    obtain ⟨k, n, s, ks, l⟩ := v
    have g1 : (T.mk k n s ks l).fit 140737488355328 := T.fit_mono (by decide) h1
    have g2 := (T.fit_list h1).2
    have g3 := (T.fit_list g1).2
    have g4 : lenB 1000000 l.length := (T.fit_list h1).1
    by_cases c : rowT (.mk k n s ks l)
    · cases l with
      | nil =>
        have e : leastT (T.mk k n s ks []) = T.zero := by simp [leastT, c, T.list, sortC, toldT, okT_zero]
        have e' : leastOk (T.mk k n s ks []) = True := eq_true ⟨c, by simpa [T.list, sortC] using okT_zero⟩
        have b1 : (((0 : Nat) : Int) = 0) = True := by simp
        simp only [x_RowLeast, rg, go_sem, seval, T.enc, foldT, encL_len, b1, e, e', c, spL4Row_md, spL4Row_pre, spL4Row_alts, spL4Row_res, spL4Row_out, spL4Sort_md, spL4Sort_pre, spL4Sort_alts, spL4Sort_res, spL4Sort_out, spL2Told_md, spL2Told_pre, spL2Told_alts, spL2Told_res, spL2Told_out]
        exact ⟨⟨g1, by omega⟩, fun _ => T.zero_enc⟩
      | cons x l =>
        obtain ⟨y, r, hy⟩ : ∃ y r, sortC cmpT (x :: l) = y :: r := by
          cases h : sortC cmpT (x :: l) with
          | nil => have := (sortC_perm cmpT_is (x :: l)).length_eq; rw [h] at this; simp at this
          | cons y r => exact ⟨y, r, rfl⟩
        have hmem : y ∈ x :: l := (sortC_perm cmpT_is (x :: l)).mem_iff.1 (by rw [hy]; simp)
        have e : leastT (T.mk k n s ks (x :: l)) = toldT true y := by simp [leastT, c, T.list, hy]
        have e' : leastOk (T.mk k n s ks (x :: l)) = okT y := propext ⟨fun h => by simpa [T.list, hy] using h.2, fun h => ⟨c, by simpa [T.list, hy] using h⟩⟩
        have f4 := T.enc_len y
        have f5 := T.fit_mono (B := 2000000) (by decide) (fitL_mem g2 y hmem)
        have f7 : sizeT y ≤ 1048577 := by have := sizeT_mem (k := k) (n := n) (s := s) (ks := ks) hmem; omega
        have a1 : (encL (y :: r)).getD 0 [] = y.enc := rfl
        have f6 := T.enc_len (toldT true y)
        have b1 : (((l.length + 1 : Nat) : Int) = 0) = False := eq_false (by omega)
        simp only [x_RowLeast, rg, go_sem, seval, T.enc, foldT, encL_len, b1, e, e', c, hy, a1, f4, f6, spL4Row_md, spL4Row_pre, spL4Row_alts, spL4Row_res, spL4Row_out, spL4Sort_md, spL4Sort_pre, spL4Sort_alts, spL4Sort_res, spL4Sort_out, spL2Told_md, spL2Told_pre, spL2Told_alts, spL2Told_res, spL2Told_out]
        simp only [List.length_cons] at g4
        repeat' (first | with_reducible assumption | with_reducible refine And.intro ?_ ?_ | intro _)
        all_goals first | omega | skip
    · have e : leastT (T.mk k n s ks l) = T.zero := by simp [leastT, c]
      have e' : leastOk (T.mk k n s ks l) = False := eq_false (fun h => c h.1)
      simp only [x_RowLeast, rg, go_sem, seval, T.enc, foldT, e, e', c, spL4Row_md, spL4Row_pre, spL4Row_alts, spL4Row_res, spL4Row_out, spL4Sort_md, spL4Sort_pre, spL4Sort_alts, spL4Sort_res, spL4Sort_out, spL2Told_md, spL2Told_pre, spL2Told_alts, spL2Told_res, spL2Told_out]
      exact ⟨⟨g1, by omega⟩, fun _ => T.zero_enc⟩

end Go.Proofs.Pw
