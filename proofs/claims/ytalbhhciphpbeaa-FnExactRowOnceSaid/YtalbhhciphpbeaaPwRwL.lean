/- Rows: the least, a piece. -/
import Derived.Test.YtalbhhciphpbeaaPwSo2
set_option linter.unusedSimpArgs false
set_option linter.unusedVariables false
set_option linter.unusedSimpArgs false
set_option maxRecDepth 20000
namespace Go.Proofs.Pw
set_option linter.unusedSectionVars false
variable [Globs]
def x_row : X := (.seq (.reg [⟨some 2, none, .alloc [(.c (.int .i64 0)), (.c (.int .i64 0)), (.c (.str ⟨#[]⟩)), (.z 1), (.z 5)]⟩] none [0, 2]) (.seq (.reg [⟨some 3, none, .mv (.t 0)⟩, ⟨some 4, none, .build [(.c (.int .i64 0)), (.c (.int .i64 0)), (.c (.str ⟨#[]⟩)), (.z 1), (.z 5)] [(0, (.k (.c (.int .i64 5))), none), (4, (.t 3), none)]⟩, ⟨none, none, .st (.t 2) (.t 4) (some 5)⟩] none [2]) .ret))
theorem chk_row : chkX Go.Proofs.Try.prog 5 (Go.Proofs.Try.f30.body.getD .skip) x_row = true := by kernel_rfl
theorem rs_row : okRs Go.Proofs.Try.prog Go.Proofs.Try.f30.results.toList [.cell 2 (some 5)] = true := by kernel_rfl
theorem call_row : okCallee Go.Proofs.Try.prog 30 = true := by kernel_rfl
def leastOk (v : T) : Prop := rowT v ∧ okT ((sortC cmpT v.list).headD T.zero)
noncomputable instance (t : T) : Decidable (leastOk t) := Classical.propDecidable _
theorem okT_zero : okT T.zero := ⟨by simp [T.zero, formT, formL, okS_nil], by simp [T.zero, manyT, manyL]⟩
theorem T.fit_list {B : Int} {k n : Int} {s : ByteArray} {ks : List ByteArray} {l : List T} (h : (T.mk k n s ks l).fit B) : lenB B l.length ∧ fitL B l := h.2.2.2.2
noncomputable def spRow  : Spec := Spec.of (ι := (List T)) [false] (fun i => [.d (.one (.row 5 (encL i)))]) (fun _ => True) (fun i => [.d (.agg (T.mk 5 0 ⟨#[]⟩ [] i).enc)]) (fun _ => [.gone])
theorem spRow_inj : ∀ i j : (List T), (fun (i : (List T)) => ([.d (.one (.row 5 (encL i)))] : List AV)) i = (fun (i : (List T)) => ([.d (.one (.row 5 (encL i)))] : List AV)) j → i = j := by
  intro l l' h
  simpa [strs_eq, T.enc_eq, encL_eq, F.enc_eq, encF_eq, Tk.enc_eq, encTk_eq, Gn.enc_eq, ints_eq] using h
theorem spRow_md  : (spRow).md = [false] := rfl
theorem spRow_pre  (l : List T) : (spRow).pre [.d (.one (.row 5 (encL l)))] = (True) := Spec.of_pre' spRow_inj l
theorem spRow_alts  : (spRow).alts = none := rfl
theorem spRow_res  (l : List T) : (spRow).res [.d (.one (.row 5 (encL l)))] = [.d (.agg (T.mk 5 0 ⟨#[]⟩ [] l).enc)] := Spec.of_res spRow_inj l
theorem spRow_out  (l : List T) : (spRow).out [.d (.one (.row 5 (encL l)))] = [.gone] := Spec.of_out spRow_inj l
theorem row_sound : Sound Go.Proofs.Try.prog 30 spRow := by
  refine sound_fam GOK.nil Go.Proofs.Try.func30 (c := Go.Proofs.Try.f30.body.getD .skip) rfl (n := 5) rfl chk_row rs_row (fun _ => by simp) ?_ ?_
  · exact spRow_inj
  · intro l _
    simp only [x_row, rg, go_sem, seval, T.enc, strs]
end Go.Proofs.Pw
