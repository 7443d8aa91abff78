/- What is told is nobody else's. -/
import Derived.Test.YtalbhhciphpbeaaPwCl2
import Derived.Test.YtalbhhciphpbeaaPwXCl
import Derived.Test.YtalbhhciphpbeaaPwPlMk
set_option linter.unusedSimpArgs false
set_option linter.unusedVariables false
set_option linter.unusedSimpArgs false
set_option maxRecDepth 20000
namespace Go.Proofs.Pw
set_option linter.unusedSectionVars false
theorem agX_out (t : T) : agX t = [.c (.int .i64 t.kind), .c (.int .i64 t.n), .c (.str t.s), .o 1 (strs t.keys), .o 5 (encLX t.list)] := by cases t; rfl
theorem foldE (t : T) : DV.agg [C.int .i64 t.kind, C.int .i64 t.n, C.str t.s, C.row 1 (strs t.keys), C.row 5 (encL t.list)] = DV.agg t.enc := by cases t; rfl
theorem zk : T.zero.kind = 0 := rfl
theorem zn : T.zero.n = 0 := rfl
theorem zs : T.zero.s = ⟨#[]⟩ := rfl
theorem zks : T.zero.keys = [] := rfl
theorem zl : T.zero.list = [] := rfl
theorem strs_e : strs [] = [] := rfl
theorem encLX_e : encLX [] = [] := rfl
variable [Globs]
noncomputable def spToldX  : Spec := Spec.of (ι := T × Bool) [false, false] (fun i => [.d (.agg i.1.enc), .d (.one (.bool i.2))]) (fun i => i.1.fit 2000000) (fun i => [.ag (agX (toldT i.2 i.1)), .d (.one (.bool (decide (i.2 = true ∧ okT i.1))))]) (fun _ => [.gone, .gone])
theorem spToldX_inj : ∀ i j : T × Bool, (fun (i : T × Bool) => ([.d (.agg i.1.enc), .d (.one (.bool i.2))] : List AV)) i = (fun (i : T × Bool) => ([.d (.agg i.1.enc), .d (.one (.bool i.2))] : List AV)) j → i = j := by
  rintro ⟨t, b⟩ ⟨t', b'⟩ h
  simp only [Prod.mk.injEq]
  simpa [strs_eq, T.enc_eq, encL_eq, F.enc_eq, encF_eq, Tk.enc_eq, encTk_eq, Gn.enc_eq, ints_eq] using h
theorem spToldX_md  : (spToldX).md = [false, false] := rfl
theorem spToldX_pre  (t : T) (b : Bool) : (spToldX).pre [.d (.agg t.enc), .d (.one (.bool b))] = (t.fit 2000000) := Spec.of_pre' spToldX_inj (t, b)
theorem spToldX_alts  : (spToldX).alts = none := rfl
theorem spToldX_res  (t : T) (b : Bool) : (spToldX).res [.d (.agg t.enc), .d (.one (.bool b))] = [.ag (agX (toldT b t)), .d (.one (.bool (decide (b = true ∧ okT t))))] := Spec.of_res spToldX_inj (t, b)
theorem spToldX_out  (t : T) (b : Bool) : (spToldX).out [.d (.agg t.enc), .d (.one (.bool b))] = [.gone, .gone] := Spec.of_out spToldX_inj (t, b)
theorem toldX_sound : Sound Go.Proofs.Try.prog 29 spToldX := by
  refine sound_fam (GOK.cons (l := [(50, spCloneXT)]) call_ValOkI valOkI_sound (GOK.cons call_clone cloneXT_sound GOK.nil)) Go.Proofs.Try.func29 (c := Go.Proofs.Try.f29.body.getD .skip) rfl (n := 16) rfl chk_told rs_told (fun _ => by simp) ?_ ?_
  · exact spToldX_inj
  · rintro ⟨t, b⟩ h1
    change t.fit 2000000 at h1
    have f1 : t.fit 140737488355328 := T.fit_mono (by decide) h1
    have f3 := T.enc_len t
    have f4 := okI_iff t
    cases b with
    | false =>
      simp only [x_told, rg, go_sem, seval, Prod.fst, toldT, f3, f4, agX_out, zk, zn, zs, zks, zl, strs_e, encLX_e, spValOkI_md, spValOkI_pre, spValOkI_alts, spValOkI_res, spValOkI_out, spCloneXT_md, spCloneXT_pre, spCloneXT_alts, spCloneXT_res, spCloneXT_out, Bool.false_or, Bool.or_true, Bool.not_true, Bool.false_eq_true, false_and]
      repeat' (first | with_reducible assumption | with_reducible refine And.intro ?_ ?_ | intro _)
    | true =>
      by_cases c : okT t
      · simp only [x_told, rg, go_sem, seval, Prod.fst, toldT, f3, f4, c, agX_out, spValOkI_md, spValOkI_pre, spValOkI_alts, spValOkI_res, spValOkI_out, spCloneXT_md, spCloneXT_pre, spCloneXT_alts, spCloneXT_res, spCloneXT_out, Bool.false_or, Bool.or_true, Bool.not_true, Bool.false_eq_true]
        repeat' (first | with_reducible assumption | with_reducible refine And.intro ?_ ?_ | intro _)
      · simp only [x_told, rg, go_sem, seval, Prod.fst, toldT, f3, f4, c, agX_out, zk, zn, zs, zks, zl, strs_e, encLX_e, spValOkI_md, spValOkI_pre, spValOkI_alts, spValOkI_res, spValOkI_out, spCloneXT_md, spCloneXT_pre, spCloneXT_alts, spCloneXT_res, spCloneXT_out, Bool.false_or, Bool.or_true, Bool.not_true, Bool.false_eq_true]
        repeat' (first | with_reducible assumption | with_reducible refine And.intro ?_ ?_ | intro _)
end Go.Proofs.Pw
