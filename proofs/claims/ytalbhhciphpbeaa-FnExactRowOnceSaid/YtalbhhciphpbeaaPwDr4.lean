/- Drawing: rows; the draws of single trees and rows. -/
import Derived.Test.YtalbhhciphpbeaaPwDr3
set_option linter.unusedSimpArgs false
set_option linter.unusedVariables false
set_option linter.unusedSimpArgs false
set_option maxRecDepth 20000
namespace Go.Proofs.Pw
set_option linter.unusedSectionVars false
variable [Globs]
def x_l4Of : X := (.seq (.reg [⟨some 2, none, .alloc [(.c (.int .i64 0)), (.c (.int .i64 0)), (.c (.str ⟨#[]⟩)), (.z 1), (.z 5)]⟩] none [0, 2]) (.seq (.reg [⟨some 3, none, .mv (.t 0)⟩, ⟨some 4, none, .build [(.c (.int .i64 0)), (.c (.int .i64 0)), (.c (.str ⟨#[]⟩)), (.z 1), (.z 5)] [(0, (.k (.c (.int .i64 5))), none), (4, (.t 3), none)]⟩, ⟨none, none, .st (.t 2) (.t 4) (some 5)⟩] none [2]) .ret))
theorem chk_l4Of : chkX Go.Proofs.Try.prog 5 (Go.Proofs.Try.f24.body.getD .skip) x_l4Of = true := by kernel_rfl
theorem rs_l4Of : okRs Go.Proofs.Try.prog Go.Proofs.Try.f24.results.toList [.cell 2 (some 5)] = true := by kernel_rfl
theorem call_l4Of : okCallee Go.Proofs.Try.prog 24 = true := by kernel_rfl
noncomputable def spL4Of  : Spec := Spec.of (ι := (List T)) [false] (fun i => [.d (.one (.row 5 (encL i)))]) (fun _ => True) (fun i => [.d (.agg (T.mk 5 0 ⟨#[]⟩ [] i).enc)]) (fun _ => [.gone])
theorem spL4Of_inj : ∀ i j : (List T), (fun (i : (List T)) => ([.d (.one (.row 5 (encL i)))] : List AV)) i = (fun (i : (List T)) => ([.d (.one (.row 5 (encL i)))] : List AV)) j → i = j := by
  intro l l' h
  simpa [strs_eq, T.enc_eq, encL_eq, F.enc_eq, encF_eq, Tk.enc_eq, encTk_eq, Gn.enc_eq, ints_eq, rdC_eq, and_assoc] using h
theorem spL4Of_md  : (spL4Of).md = [false] := rfl
theorem spL4Of_pre  (l : List T) : (spL4Of).pre [.d (.one (.row 5 (encL l)))] = (True) := Spec.of_pre' spL4Of_inj l
theorem spL4Of_alts  : (spL4Of).alts = none := rfl
theorem spL4Of_res  (l : List T) : (spL4Of).res [.d (.one (.row 5 (encL l)))] = [.d (.agg (T.mk 5 0 ⟨#[]⟩ [] l).enc)] := Spec.of_res spL4Of_inj l
theorem spL4Of_out  (l : List T) : (spL4Of).out [.d (.one (.row 5 (encL l)))] = [.gone] := Spec.of_out spL4Of_inj l
theorem l4Of_sound : Sound Go.Proofs.Try.prog 24 spL4Of := by
  refine sound_fam GOK.nil Go.Proofs.Try.func24 (c := Go.Proofs.Try.f24.body.getD .skip) rfl (n := 5) rfl chk_l4Of rs_l4Of (fun _ => by simp) ?_ ?_
  · exact spL4Of_inj
  · intro l _
    simp only [x_l4Of, rg, go_sem, seval, T.enc, strs]
end Go.Proofs.Pw
