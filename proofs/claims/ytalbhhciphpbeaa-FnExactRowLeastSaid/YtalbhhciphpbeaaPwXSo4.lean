/- The stable sort, for rows of any length. -/
import Derived.Test.YtalbhhciphpbeaaPwXSo3
import Derived.Test.YtalbhhciphpbeaaPwPlSort2
set_option linter.unusedSimpArgs false
set_option linter.unusedVariables false
set_option linter.unusedSimpArgs false
set_option maxRecDepth 20000
namespace Go.Proofs.Pw
set_option linter.unusedSectionVars false
variable [Globs]
noncomputable def spStabG  : Spec := Spec.of (ι := (List T) × Int) [true, false, false] (fun i => [.own 5 (encL i.1), .d (.one (.int .i64 i.2)), .d (.one (.fn 53))]) (fun i => lenB 1000000 i.1.length ∧ fitL 140737488355328 i.1 ∧ i.2 = i.1.length) (fun _ => []) (fun i => [.own 5 (encL (sortC cmpT i.1)), .gone, .gone])
theorem spStabG_inj : ∀ i j : (List T) × Int, (fun (i : (List T) × Int) => ([.own 5 (encL i.1), .d (.one (.int .i64 i.2)), .d (.one (.fn 53))] : List AV)) i = (fun (i : (List T) × Int) => ([.own 5 (encL i.1), .d (.one (.int .i64 i.2)), .d (.one (.fn 53))] : List AV)) j → i = j := by
  rintro ⟨l, b⟩ ⟨l', b'⟩ h
  simp only [Prod.mk.injEq]
  simpa [strs_eq, T.enc_eq, encL_eq, F.enc_eq, encF_eq, Tk.enc_eq, encTk_eq, Gn.enc_eq, ints_eq] using h
theorem spStabG_md  : (spStabG).md = [true, false, false] := rfl
theorem spStabG_pre  (l : List T) (b : Int) : (spStabG).pre [.own 5 (encL l), .d (.one (.int .i64 b)), .d (.one (.fn 53))] = (lenB 1000000 l.length ∧ fitL 140737488355328 l ∧ b = l.length) := Spec.of_pre' spStabG_inj (l, b)
theorem spStabG_alts  : (spStabG).alts = none := rfl
theorem spStabG_res  (l : List T) (b : Int) : (spStabG).res [.own 5 (encL l), .d (.one (.int .i64 b)), .d (.one (.fn 53))] = [] := Spec.of_res spStabG_inj (l, b)
theorem spStabG_out  (l : List T) (b : Int) : (spStabG).out [.own 5 (encL l), .d (.one (.int .i64 b)), .d (.one (.fn 53))] = [.own 5 (encL (sortC cmpT l)), .gone, .gone] := Spec.of_out spStabG_inj (l, b)
set_option maxHeartbeats 4000000 in
theorem stabG_sound : Sound Go.Proofs.Try.prog 63 spStabG := by
  refine sound_fam (GOK.cons (l := [(75, spSymG)]) call_insS insG_sound (GOK.cons call_symM symG_sound GOK.nil)) Go.Proofs.Try.func63 (c := Go.Proofs.Try.f63.body.getD .skip) rfl (n := 63) rfl chk_stab rs_stab (fun _ => by simp) ?_ ?_
  · exact spStabG_inj
  · rintro ⟨l, b⟩ ⟨h1, h2, h3⟩
    simp only [lenB] at h1 h2 h3
    subst h3
    simp only [x_stab, rg, go_sem, seval, Prod.fst]
    repeat' (first | with_reducible assumption | with_reducible refine And.intro ?_ ?_ | intro _)
    all_goals first | omega | skip
    refine pw_loop (ι := List T × List T) (fun z => z.2.length) (fun z => FC 20 z.1 ∧ (z.1 ++ z.2).Perm l)
      (fun z => ⟨[(0, .q (.own 1000000063)), (1, .q (.c (.int .i64 l.length))), (2, .q (.c (.fn 53))), (6, .q (.c (.int .i64 20))), (7, .q (.c (.int .i64 z.1.length))), (8, .q (.c (.int .i64 (z.1.length + 20))))], [], [(1000000063, 5, encL (z.1 ++ z.2))]⟩) ([], l) ⟨.nil, List.Perm.refl _⟩ (Le.of_eq (by simp)) ?_
    rintro ⟨L, S⟩ ⟨g1, g2⟩
    simp only at g1 g2
    have gl := g2.length_eq
    rw [List.length_append] at gl
    have f1 : fitL 140737488355328 (L ++ S) := fitL_perm h2 g2
    by_cases c1 : L.length + 20 ≤ l.length
    · have b1 : ((L.length : Int) + 20 ≤ (l.length : Int)) = True := eq_true (by omega)
      obtain ⟨c, S', rfl, k1⟩ := split_at (l := S) (a := 20) (by omega)
      rw [List.length_append] at gl
      have e1 : ((L.length : Int) + 20).toNat = L.length + 20 := by omega
      have e2 := srtSeg_at (A := L) (X := c) (C := S') (a := L.length) (b := L.length + 20) rfl (by omega)
      have e3 : L ++ (c ++ S') = L ++ c ++ S' := by simp
      rw [e3] at f1
      have hp := sortC_perm cmpT_is c
      have hpl := hp.length_eq
      simp only [rg, go_sem, seval, Prod.fst, b1, e1, e2, e3, Int.toNat_natCast, spInsG_md, spInsG_pre, spInsG_alts, spInsG_res, spInsG_out, lenB]
      repeat' (first | with_reducible assumption | with_reducible refine And.intro ?_ ?_ | intro _)
      all_goals first | omega | assumption | (simp only [List.length_append]; omega) | skip
      refine ⟨(L ++ sortC cmpT c, S'), ⟨.snoc g1 (by omega) (sortC_srt cmpT_is _), ?_⟩, by show S'.length < (c ++ S').length; rw [List.length_append]; omega, Le.of_eq ?_⟩
      · refine List.Perm.trans ?_ g2
        show (L ++ sortC cmpT c ++ S').Perm (L ++ (c ++ S'))
        rw [List.append_assoc]
        exact List.Perm.append_left _ (List.Perm.append_right _ hp)
      · have e4 : (L ++ sortC cmpT c).length = L.length + 20 := by rw [List.length_append]; omega
        simp [e4]
    · have b1 : ((L.length : Int) + 20 ≤ (l.length : Int)) = False := eq_false (by omega)
      have e2 := srtSeg_at (A := L) (X := S) (C := []) (a := L.length) (b := l.length) rfl (by omega)
      rw [List.append_nil, List.append_nil] at e2
      have hp := sortC_perm cmpT_is S
      have hpl := hp.length_eq
      have K0 : Ck 20 (L ++ sortC cmpT S) := g1.app (.last (by omega) (sortC_srt cmpT_is _))
      have P0 : (L ++ sortC cmpT S).Perm l := (List.Perm.append_left _ hp).trans g2
      simp only [rg, go_sem, seval, Prod.fst, b1, e2, Int.toNat_natCast, spInsG_md, spInsG_pre, spInsG_alts, spInsG_res, spInsG_out, lenB]
      repeat' (first | with_reducible assumption | with_reducible refine And.intro ?_ ?_ | intro _)
      all_goals first | omega | assumption | (simp only [List.length_append]; omega) | skip
      refine pw_loop (ι := Nat × List T) (fun z => l.length - z.1) (fun z => 20 ≤ z.1 ∧ z.1 ≤ 2000000 ∧ Ck z.1 z.2 ∧ z.2.Perm l)
        (fun z => ⟨[(0, .q (.own 1000000063)), (1, .q (.c (.int .i64 l.length))), (2, .q (.c (.fn 53))), (6, .q (.c (.int .i64 z.1)))], [], [(1000000063, 5, encL z.2)]⟩) (20, L ++ sortC cmpT S) ⟨Nat.le_refl _, by omega, K0, P0⟩ (Le.of_eq (by simp)) ?_
      clear g1 g2 gl f1 c1 b1 e2 hp hpl K0 P0
      rintro ⟨bs, M⟩ ⟨g1, g2, g3, g4⟩
      simp only at g1 g2 g3 g4
      have gl := g4.length_eq
      by_cases c2 : bs < l.length
      · have b2 : ((bs : Int) < (l.length : Int)) = True := eq_true (by omega)
        simp only [rg, go_sem, seval, Prod.fst, b2]
        repeat' (first | with_reducible assumption | with_reducible refine And.intro ?_ ?_ | intro _)
        all_goals first | omega | skip
        refine pw_loop (ι := List T × List T) (fun z => z.2.length) (fun z => FC (2 * bs) z.1 ∧ Ck bs z.2 ∧ (z.1 ++ z.2).Perm l)
          (fun z => ⟨[(0, .q (.own 1000000063)), (1, .q (.c (.int .i64 l.length))), (2, .q (.c (.fn 53))), (6, .q (.c (.int .i64 bs))), (7, .q (.c (.int .i64 z.1.length))), (8, .q (.c (.int .i64 (z.1.length + 2 * bs))))], [], [(1000000063, 5, encL (z.1 ++ z.2))]⟩) ([], M) ⟨.nil, g3, g4⟩ (Le.of_eq (by simp)) ?_
        rintro ⟨L, S⟩ ⟨k1, k2, k3⟩
        simp only at k1 k2 k3
        have kl := k3.length_eq
        rw [List.length_append] at kl
        have f1 : fitL 140737488355328 (L ++ S) := fitL_perm h2 k3
        have e1 : ((L.length : Int) + (bs : Int)).toNat = L.length + bs := by omega
        have e5 : ((L.length : Int) + 2 * (bs : Int)).toNat = L.length + 2 * bs := by omega
        by_cases c3 : L.length + 2 * bs ≤ l.length
        · have b3 : ((L.length : Int) + 2 * (bs : Int) ≤ (l.length : Int)) = True := eq_true (by omega)
          obtain ⟨c, S1, rfl, n1, s1, r1⟩ := k2.split (by omega)
          rw [List.length_append] at kl
          obtain ⟨d, S', rfl, n2, s2, r2⟩ := r1.split (by omega)
          rw [List.length_append] at kl
          have e2 := srtSeg_at (A := L) (X := c ++ d) (C := S') (a := L.length) (b := L.length + 2 * bs) rfl (by rw [List.length_append]; omega)
          have e3 : L ++ (c ++ (d ++ S')) = L ++ (c ++ d) ++ S' := by simp
          rw [e3] at f1
          have w1 : Srt cmpT (((L ++ (c ++ d) ++ S').drop L.length).take (L.length + bs - L.length)) := by
            rw [show L ++ (c ++ d) ++ S' = L ++ c ++ (d ++ S') by simp, slice_at rfl (by omega)]; exact s1
          have w2 : Srt cmpT (((L ++ (c ++ d) ++ S').drop (L.length + bs)).take (L.length + 2 * bs - (L.length + bs))) := by
            rw [show L ++ (c ++ d) ++ S' = (L ++ c) ++ d ++ S' by simp, slice_at (by rw [List.length_append]; omega) (by rw [List.length_append]; omega)]; exact s2
          have hp := sortC_perm cmpT_is (c ++ d)
          have hpl := hp.length_eq
          rw [List.length_append] at hpl
          simp only [rg, go_sem, seval, Prod.fst, b3, e1, e2, e3, e5, Int.toNat_natCast, spSymG_md, spSymG_pre, spSymG_alts, spSymG_res, spSymG_out, lenB]
          repeat' (first | with_reducible assumption | with_reducible refine And.intro ?_ ?_ | intro _)
          all_goals first | omega | assumption | (simp only [List.length_append]; omega) | skip
          refine ⟨(L ++ sortC cmpT (c ++ d), S'), ⟨.snoc k1 (by omega) (sortC_srt cmpT_is _), r2, ?_⟩, by show S'.length < (c ++ (d ++ S')).length; simp only [List.length_append]; omega, Le.of_eq ?_⟩
          · refine List.Perm.trans ?_ k3
            show (L ++ sortC cmpT (c ++ d) ++ S').Perm (L ++ (c ++ (d ++ S')))
            rw [e3]
            exact List.Perm.append_right _ (List.Perm.append_left _ hp)
          · have e4 : (L ++ sortC cmpT (c ++ d)).length = L.length + 2 * bs := by rw [List.length_append]; omega
            simp [e4]
        · have b3 : ((L.length : Int) + 2 * (bs : Int) ≤ (l.length : Int)) = False := eq_false (by omega)
          by_cases c4 : L.length + bs < l.length
          · have b4 : ((L.length : Int) + (bs : Int) < (l.length : Int)) = True := eq_true (by omega)
            obtain ⟨c, r, rfl, n1, s1, r1⟩ := k2.split (by omega)
            rw [List.length_append] at kl
            have s2 := r1.short (by omega)
            have e2 := srtSeg_at (A := L) (X := c ++ r) (C := []) (a := L.length) (b := l.length) rfl (by rw [List.length_append]; omega)
            rw [List.append_nil, List.append_nil] at e2
            have w1 : Srt cmpT (((L ++ (c ++ r)).drop L.length).take (L.length + bs - L.length)) := by
              rw [show L ++ (c ++ r) = L ++ c ++ r by simp, slice_at rfl (by omega)]; exact s1
            have w2 : Srt cmpT (((L ++ (c ++ r)).drop (L.length + bs)).take (l.length - (L.length + bs))) := by
              rw [show L ++ (c ++ r) = (L ++ c) ++ r ++ [] by simp, slice_at (by rw [List.length_append]; omega) (by rw [List.length_append]; omega)]; exact s2
            have hp := sortC_perm cmpT_is (c ++ r)
            have hpl := hp.length_eq
            rw [List.length_append] at hpl
            simp only [rg, go_sem, seval, Prod.fst, b3, b4, e1, e2, Int.toNat_natCast, spSymG_md, spSymG_pre, spSymG_alts, spSymG_res, spSymG_out, lenB]
            repeat' (first | with_reducible assumption | with_reducible refine And.intro ?_ ?_ | intro _)
            all_goals first | omega | assumption | (simp only [List.length_append]; omega) | skip
            refine ⟨(bs * 2, L ++ sortC cmpT (c ++ r)), ⟨by omega, by omega, ?_, ?_⟩, by show l.length - bs * 2 < l.length - bs; omega, Le.of_eq (by simp)⟩
            · rw [Nat.mul_comm]; exact k1.app (.last (by omega) (sortC_srt cmpT_is _))
            · exact (List.Perm.append_left _ hp).trans k3
          · have b4 : ((L.length : Int) + (bs : Int) < (l.length : Int)) = False := eq_false (by omega)
            simp only [rg, go_sem, seval, Prod.fst, b3, b4]
            repeat' (first | with_reducible assumption | with_reducible refine And.intro ?_ ?_ | intro _)
            all_goals first | omega | assumption | skip
            refine ⟨(bs * 2, L ++ S), ⟨by omega, by omega, ?_, k3⟩, by show l.length - bs * 2 < l.length - bs; omega, Le.of_eq (by simp)⟩
            rw [Nat.mul_comm]; exact k1.app (.last (by omega) (k2.short (by omega)))
      · have b2 : ((bs : Int) < (l.length : Int)) = False := eq_false (by omega)
        have e : M = sortC cmpT l := sortC_uniq cmpT_is (g3.short (by omega)) g4
        subst e
        simp only [rg, go_sem, seval, Prod.fst, b2]
noncomputable def spSortStG  : Spec := Spec.of (ι := (List T)) [true, false] (fun i => [.own 5 (encL i), .d (.one (.fn 53))]) (fun i => lenB 1000000 i.length ∧ fitL 140737488355328 i) (fun _ => []) (fun i => [.own 5 (encL (sortC cmpT i)), .gone])
theorem spSortStG_inj : ∀ i j : (List T), (fun (i : (List T)) => ([.own 5 (encL i), .d (.one (.fn 53))] : List AV)) i = (fun (i : (List T)) => ([.own 5 (encL i), .d (.one (.fn 53))] : List AV)) j → i = j := by
  intro l l' h
  simpa [strs_eq, T.enc_eq, encL_eq, F.enc_eq, encF_eq, Tk.enc_eq, encTk_eq, Gn.enc_eq, ints_eq] using h
theorem spSortStG_md  : (spSortStG).md = [true, false] := rfl
theorem spSortStG_pre  (l : List T) : (spSortStG).pre [.own 5 (encL l), .d (.one (.fn 53))] = (lenB 1000000 l.length ∧ fitL 140737488355328 l) := Spec.of_pre' spSortStG_inj l
theorem spSortStG_alts  : (spSortStG).alts = none := rfl
theorem spSortStG_res  (l : List T) : (spSortStG).res [.own 5 (encL l), .d (.one (.fn 53))] = [] := Spec.of_res spSortStG_inj l
theorem spSortStG_out  (l : List T) : (spSortStG).out [.own 5 (encL l), .d (.one (.fn 53))] = [.own 5 (encL (sortC cmpT l)), .gone] := Spec.of_out spSortStG_inj l
theorem SortStG_sound : Sound Go.Proofs.Try.prog 52 spSortStG := by
  refine sound_fam (GOK.cons call_stab stabG_sound GOK.nil) Go.Proofs.Try.func52 (c := Go.Proofs.Try.f52.body.getD .skip) rfl (n := 9) rfl chk_SortSt rs_SortSt (fun _ => by simp) ?_ ?_
  · exact spSortStG_inj
  · rintro l ⟨h1, h2⟩
    simp only [x_SortSt, rg, go_sem, seval, encL_len, spStabG_md, spStabG_pre, spStabG_alts, spStabG_res, spStabG_out]
    repeat' (first | with_reducible assumption | with_reducible refine And.intro ?_ ?_ | intro _)
    all_goals first | omega | assumption | skip
noncomputable def spOrderedG  : Spec := Spec.of (ι := (List T)) [false] (fun i => [.d (.one (.row 5 (encL i)))]) (fun i => lenB 1000000 i.length ∧ fitL 140737488355328 i) (fun i => [.own 5 (encL (sortC cmpT i))]) (fun _ => [.gone])
theorem spOrderedG_inj : ∀ i j : (List T), (fun (i : (List T)) => ([.d (.one (.row 5 (encL i)))] : List AV)) i = (fun (i : (List T)) => ([.d (.one (.row 5 (encL i)))] : List AV)) j → i = j := by
  intro l l' h
  simpa [strs_eq, T.enc_eq, encL_eq, F.enc_eq, encF_eq, Tk.enc_eq, encTk_eq, Gn.enc_eq, ints_eq] using h
theorem spOrderedG_md  : (spOrderedG).md = [false] := rfl
theorem spOrderedG_pre  (l : List T) : (spOrderedG).pre [.d (.one (.row 5 (encL l)))] = (lenB 1000000 l.length ∧ fitL 140737488355328 l) := Spec.of_pre' spOrderedG_inj l
theorem spOrderedG_alts  : (spOrderedG).alts = none := rfl
theorem spOrderedG_res  (l : List T) : (spOrderedG).res [.d (.one (.row 5 (encL l)))] = [.own 5 (encL (sortC cmpT l))] := Spec.of_res spOrderedG_inj l
theorem spOrderedG_out  (l : List T) : (spOrderedG).out [.d (.one (.row 5 (encL l)))] = [.gone] := Spec.of_out spOrderedG_inj l
theorem orderedG_sound : Sound Go.Proofs.Try.prog 31 spOrderedG := by
  refine sound_fam (GOK.cons (l := [(52, spSortStG)]) call_CloneV CloneV_sound (GOK.cons call_SortSt SortStG_sound GOK.nil)) Go.Proofs.Try.func31 (c := Go.Proofs.Try.f31.body.getD .skip) rfl (n := 9) rfl chk_ordered rs_ordered (fun _ => by simp) ?_ ?_
  · exact spOrderedG_inj
  · rintro l ⟨h1, h2⟩
    simp only [x_ordered, rg, go_sem, seval, encL_len, spCloneV_md, spCloneV_pre, spCloneV_alts, spCloneV_res, spCloneV_out, spSortStG_md, spSortStG_pre, spSortStG_alts, spSortStG_res, spSortStG_out]
    repeat' (first | with_reducible assumption | with_reducible refine And.intro ?_ ?_ | intro _)
    all_goals first | omega | assumption | skip
end Go.Proofs.Pw
