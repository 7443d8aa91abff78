/- The order of trees: the program's functions. -/
import Derived.Test.YtdnbniggdebegaaPwOdS
set_option linter.unusedSimpArgs false
set_option linter.unusedVariables false
set_option linter.unusedSimpArgs false
set_option maxRecDepth 20000
namespace Go.Proofs.Pw
set_option linter.unusedSectionVars false
variable [Globs]
def x_nanS : X := (.seq (.reg [⟨some 2, none, .mv (.k (.c (.bool false)))⟩] none [0]) (.seq (.reg [⟨some 3, none, .mv (.t 0)⟩, ⟨some 4, none, .mv (.t 0)⟩, ⟨some 5, none, .bin false .neq (.t 3) (.t 4)⟩, ⟨some 2, none, .mv (.t 5)⟩] none [2]) .ret))
theorem chk_nanS : chkX Go.Proofs.Try.prog 6 (Go.Proofs.Try.f58.body.getD .skip) x_nanS = true := by kernel_rfl
theorem rs_nanS : okRs Go.Proofs.Try.prog Go.Proofs.Try.f58.results.toList [.tmp 2] = true := by kernel_rfl
theorem call_nanS : okCallee Go.Proofs.Try.prog 58 = true := by kernel_rfl
noncomputable def spNanS  : Spec := Spec.of (ι := ByteArray) [false] (fun i => [.d (.one (.str i))]) (fun _ => True) (fun _ => [.d (.one (.bool false))]) (fun _ => [.gone])
theorem spNanS_inj : ∀ i j : ByteArray, (fun (i : ByteArray) => ([.d (.one (.str i))] : List AV)) i = (fun (i : ByteArray) => ([.d (.one (.str i))] : List AV)) j → i = j := by
  intro a a' h
  simpa [strs_eq, T.enc_eq, encL_eq, F.enc_eq, encF_eq, Tk.enc_eq, encTk_eq, Gn.enc_eq, ints_eq] using h
theorem spNanS_md  : (spNanS).md = [false] := rfl
theorem spNanS_pre  (a : ByteArray) : (spNanS).pre [.d (.one (.str a))] = (True) := Spec.of_pre' spNanS_inj a
theorem spNanS_alts  : (spNanS).alts = none := rfl
theorem spNanS_res  (a : ByteArray) : (spNanS).res [.d (.one (.str a))] = [.d (.one (.bool false))] := Spec.of_res spNanS_inj a
theorem spNanS_out  (a : ByteArray) : (spNanS).out [.d (.one (.str a))] = [.gone] := Spec.of_out spNanS_inj a
theorem nanS_sound : Sound Go.Proofs.Try.prog 58 spNanS := by
  refine sound_fam GOK.nil Go.Proofs.Try.func58 (c := Go.Proofs.Try.f58.body.getD .skip) rfl (n := 6) rfl chk_nanS rs_nanS (fun _ => by simp) ?_ ?_
  · exact spNanS_inj
  · intro a _
    simp [x_nanS, rg, go_sem, seval]
end Go.Proofs.Pw
