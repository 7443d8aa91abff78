/- Rows in order: the stable sort of short rows; the specification's. -/
import Derived.Test.YtiimmibdlhgkfaaPwSo
set_option linter.unusedSimpArgs false
set_option linter.unusedVariables false
set_option linter.unusedSimpArgs false
set_option maxRecDepth 20000
namespace Go.Proofs.Pw
set_option linter.unusedSectionVars false
variable [Globs]
noncomputable def spStab  : Spec := Spec.of (ι := (List T) × Int) [true, false, false] (fun i => [.own 5 (encL i.1), .d (.one (.int .i64 i.2)), .d (.one (.fn 17))]) (fun i => i.1.length < 20 ∧ fitL 140737488355328 i.1 ∧ i.2 = i.1.length) (fun _ => []) (fun i => [.own 5 (encL (sortC cmpT i.1)), .gone, .gone])
theorem spStab_inj : ∀ i j : (List T) × Int, (fun (i : (List T) × Int) => ([.own 5 (encL i.1), .d (.one (.int .i64 i.2)), .d (.one (.fn 17))] : List AV)) i = (fun (i : (List T) × Int) => ([.own 5 (encL i.1), .d (.one (.int .i64 i.2)), .d (.one (.fn 17))] : List AV)) j → i = j := by
  rintro ⟨l, b⟩ ⟨l', b'⟩ h
  simp only [Prod.mk.injEq]
  simpa [strs_eq, T.enc_eq, encL_eq, F.enc_eq, encF_eq, Tk.enc_eq, encTk_eq, Gn.enc_eq, ints_eq] using h
theorem spStab_md  : (spStab).md = [true, false, false] := rfl
theorem spStab_pre  (l : List T) (b : Int) : (spStab).pre [.own 5 (encL l), .d (.one (.int .i64 b)), .d (.one (.fn 17))] = (l.length < 20 ∧ fitL 140737488355328 l ∧ b = l.length) := Spec.of_pre' spStab_inj (l, b)
theorem spStab_alts  : (spStab).alts = none := rfl
theorem spStab_res  (l : List T) (b : Int) : (spStab).res [.own 5 (encL l), .d (.one (.int .i64 b)), .d (.one (.fn 17))] = [] := Spec.of_res spStab_inj (l, b)
theorem spStab_out  (l : List T) (b : Int) : (spStab).out [.own 5 (encL l), .d (.one (.int .i64 b)), .d (.one (.fn 17))] = [.own 5 (encL (sortC cmpT l)), .gone, .gone] := Spec.of_out spStab_inj (l, b)
theorem stab_sound : Sound Go.Proofs.Try.prog 153 spStab := by
  refine sound_fam (GOK.cons call_insS insS_sound GOK.nil) Go.Proofs.Try.func153 (c := Go.Proofs.Try.f153.body.getD .skip) rfl (n := 63) rfl chk_stab rs_stab (fun _ => by simp) ?_ ?_
  · exact spStab_inj
  · rintro ⟨l, b⟩ ⟨h1, h2, h3⟩
    simp only at h3 h2 h1; subst h3
    have b1 : ((20 : Int) ≤ (l.length : Int)) = False := eq_false (by omega)
    have b2 : ((20 : Int) < (l.length : Int)) = False := eq_false (by omega)
    simp only [x_stab, rg, seval]
    refine pw_loop (ι := Unit) (fun _ => 0) (fun _ => True)
      (fun _ => ⟨[(0, .q (.own 1000000063)), (1, .q (.c (.int .i64 l.length))), (2, .q (.c (.fn 17))), (6, .q (.c (.int .i64 20))), (7, .q (.c (.int .i64 0))), (8, .q (.c (.int .i64 20)))], [], [(1000000063, 5, encL l)]⟩) () trivial (Le.refl _) ?_
    intro _ _
    simp only [rg, seval, b1, spIns_md, spIns_pre, spIns_alts, spIns_res, spIns_out]
    repeat' (first | with_reducible assumption | with_reducible refine And.intro ?_ ?_ | intro _)
    all_goals first | omega | skip
    · unfold lenB; omega
    · refine pw_loop (ι := Unit) (fun _ => 0) (fun _ => True)
        (fun _ => ⟨[(0, .q (.own 1000000063)), (1, .q (.c (.int .i64 l.length))), (2, .q (.c (.fn 17))), (6, .q (.c (.int .i64 20)))], [], [(1000000063, 5, encL (sortC cmpT l))]⟩) () trivial (Le.refl _) ?_
      intro _ _
      simp only [rg, seval, b2]
noncomputable def spSortSt  : Spec := Spec.of (ι := (List T)) [true, false] (fun i => [.own 5 (encL i), .d (.one (.fn 17))]) (fun i => i.length < 20 ∧ fitL 140737488355328 i) (fun _ => []) (fun i => [.own 5 (encL (sortC cmpT i)), .gone])
theorem spSortSt_inj : ∀ i j : (List T), (fun (i : (List T)) => ([.own 5 (encL i), .d (.one (.fn 17))] : List AV)) i = (fun (i : (List T)) => ([.own 5 (encL i), .d (.one (.fn 17))] : List AV)) j → i = j := by
  intro l l' h
  simpa [strs_eq, T.enc_eq, encL_eq, F.enc_eq, encF_eq, Tk.enc_eq, encTk_eq, Gn.enc_eq, ints_eq] using h
theorem spSortSt_md  : (spSortSt).md = [true, false] := rfl
theorem spSortSt_pre  (l : List T) : (spSortSt).pre [.own 5 (encL l), .d (.one (.fn 17))] = (l.length < 20 ∧ fitL 140737488355328 l) := Spec.of_pre' spSortSt_inj l
theorem spSortSt_alts  : (spSortSt).alts = none := rfl
theorem spSortSt_res  (l : List T) : (spSortSt).res [.own 5 (encL l), .d (.one (.fn 17))] = [] := Spec.of_res spSortSt_inj l
theorem spSortSt_out  (l : List T) : (spSortSt).out [.own 5 (encL l), .d (.one (.fn 17))] = [.own 5 (encL (sortC cmpT l)), .gone] := Spec.of_out spSortSt_inj l
theorem SortSt_sound : Sound Go.Proofs.Try.prog 114 spSortSt := by
  refine sound_fam (GOK.cons call_stab stab_sound GOK.nil) Go.Proofs.Try.func114 (c := Go.Proofs.Try.f114.body.getD .skip) rfl (n := 9) rfl chk_SortSt rs_SortSt (fun _ => by simp) ?_ ?_
  · exact spSortSt_inj
  · rintro l ⟨h1, h2⟩
    simp only [x_SortSt, rg, seval, encL_len, spStab_md, spStab_pre, spStab_alts, spStab_res, spStab_out]
    repeat' (first | with_reducible assumption | with_reducible refine And.intro ?_ ?_ | intro _)
    all_goals first | omega | skip
noncomputable def spOrdered  : Spec := Spec.of (ι := (List T)) [false] (fun i => [.d (.one (.row 5 (encL i)))]) (fun i => i.length < 20 ∧ fitL 140737488355328 i) (fun i => [.own 5 (encL (sortC cmpT i))]) (fun _ => [.gone])
theorem spOrdered_inj : ∀ i j : (List T), (fun (i : (List T)) => ([.d (.one (.row 5 (encL i)))] : List AV)) i = (fun (i : (List T)) => ([.d (.one (.row 5 (encL i)))] : List AV)) j → i = j := by
  intro l l' h
  simpa [strs_eq, T.enc_eq, encL_eq, F.enc_eq, encF_eq, Tk.enc_eq, encTk_eq, Gn.enc_eq, ints_eq] using h
theorem spOrdered_md  : (spOrdered).md = [false] := rfl
theorem spOrdered_pre  (l : List T) : (spOrdered).pre [.d (.one (.row 5 (encL l)))] = (l.length < 20 ∧ fitL 140737488355328 l) := Spec.of_pre' spOrdered_inj l
theorem spOrdered_alts  : (spOrdered).alts = none := rfl
theorem spOrdered_res  (l : List T) : (spOrdered).res [.d (.one (.row 5 (encL l)))] = [.own 5 (encL (sortC cmpT l))] := Spec.of_res spOrdered_inj l
theorem spOrdered_out  (l : List T) : (spOrdered).out [.d (.one (.row 5 (encL l)))] = [.gone] := Spec.of_out spOrdered_inj l
theorem ordered_sound : Sound Go.Proofs.Try.prog 55 spOrdered := by
  refine sound_fam (GOK.cons (l := [(114, spSortSt)]) call_CloneV CloneV_sound (GOK.cons call_SortSt SortSt_sound GOK.nil)) Go.Proofs.Try.func55 (c := Go.Proofs.Try.f55.body.getD .skip) rfl (n := 9) rfl chk_ordered rs_ordered (fun _ => by simp) ?_ ?_
  · exact spOrdered_inj
  · rintro l ⟨h1, h2⟩
    simp only [x_ordered, rg, seval, encL_len, spCloneV_md, spCloneV_pre, spCloneV_alts, spCloneV_res, spCloneV_out, spSortSt_md, spSortSt_pre, spSortSt_alts, spSortSt_res, spSortSt_out]
    repeat' (first | with_reducible assumption | with_reducible refine And.intro ?_ ?_ | intro _)
    all_goals first | omega | skip
    · unfold lenB; omega
theorem encL_dropL (l : List T) (k : Nat) : (encL l).drop k = encL (l.drop k) := by rw [encL_map, encL_map, List.map_drop]
theorem encL_takeL (l : List T) (k : Nat) : (encL l).take k = encL (l.take k) := by rw [encL_map, encL_map, List.map_take]
theorem encL_appL (a b : List T) : encL a ++ encL b = encL (a ++ b) := (encL_app a b).symm
theorem encL_one (t : T) : [t.enc] = encL [t] := by simp [encL]
theorem fitL_of {B : Int} : ∀ {l : List T}, (∀ t ∈ l, t.fit B) → fitL B l
  | [], _ => trivial
  | t :: l, h => ⟨h t (by simp), fitL_of (fun t ht => h t (by simp [ht]))⟩
end Go.Proofs.Pw
