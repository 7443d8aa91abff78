/- The order of trees: the program's functions. -/
import Derived.Test.YtaldfcjengfibaaPwT11
set_option linter.unusedSimpArgs false
set_option linter.unusedVariables false
set_option linter.unusedSimpArgs false
set_option maxRecDepth 20000
namespace Go.Proofs.Pw
set_option linter.unusedSectionVars false
variable [Globs]
def x_nanS : X := (.seq (.reg [⟨some 2, none, .mv (.k (.c (.bool false)))⟩] none [0]) (.seq (.reg [⟨some 3, none, .mv (.t 0)⟩, ⟨some 4, none, .mv (.t 0)⟩, ⟨some 5, none, .bin false .neq (.t 3) (.t 4)⟩, ⟨some 2, none, .mv (.t 5)⟩] none [2]) .ret))
theorem chk_nanS : chkX Go.Proofs.Try.prog 6 (Go.Proofs.Try.f79.body.getD .skip) x_nanS = true := by kernel_rfl
theorem rs_nanS : okRs Go.Proofs.Try.prog Go.Proofs.Try.f79.results.toList [.tmp 2] = true := by kernel_rfl
theorem call_nanS : okCallee Go.Proofs.Try.prog 79 = true := by kernel_rfl
noncomputable def spNanS  : Spec := Spec.of (ι := ByteArray) [false] (fun i => [.d (.one (.str i))]) (fun _ => True) (fun _ => [.d (.one (.bool false))]) (fun _ => [.gone])
theorem spNanS_inj : ∀ i j : ByteArray, (fun (i : ByteArray) => ([.d (.one (.str i))] : List AV)) i = (fun (i : ByteArray) => ([.d (.one (.str i))] : List AV)) j → i = j := by
  intro a a' h
  simpa [strs_eq, T.enc_eq, encL_eq, F.enc_eq, encF_eq, Tk.enc_eq, encTk_eq, Gn.enc_eq, ints_eq] using h
theorem spNanS_md  : (spNanS).md = [false] := rfl
theorem spNanS_pre  (a : ByteArray) : (spNanS).pre [.d (.one (.str a))] = (True) := Spec.of_pre' spNanS_inj a
theorem spNanS_alts  : (spNanS).alts = none := rfl
theorem spNanS_res  (a : ByteArray) : (spNanS).res [.d (.one (.str a))] = [.d (.one (.bool false))] := Spec.of_res spNanS_inj a
theorem spNanS_out  (a : ByteArray) : (spNanS).out [.d (.one (.str a))] = [.gone] := Spec.of_out spNanS_inj a
theorem nanS_sound : Sound Go.Proofs.Try.prog 79 spNanS := by
  refine sound_fam GOK.nil Go.Proofs.Try.func79 (c := Go.Proofs.Try.f79.body.getD .skip) rfl (n := 6) rfl chk_nanS rs_nanS (fun _ => by simp) ?_ ?_
  · exact spNanS_inj
  · intro a _
    simp [x_nanS, rg, go_sem, seval]
end Go.Proofs.Pw
/- Rows in order: the program's functions. -/
set_option linter.unusedSimpArgs false
set_option maxRecDepth 20000
namespace Go.Proofs.Pw
set_option linter.unusedSectionVars false
variable [Globs]
def x_CloneV : X := (.seq (.reg [⟨some 2, none, .mv (.k (.z 5))⟩] none [0]) (.seq (.seq (.reg [⟨some 3, none, .mv (.t 0)⟩, ⟨some 4, none, .isn (.t 3)⟩] none [0, 4]) (.cond (.t 4) (.seq (.reg [⟨some 2, none, .mv (.k (.z 5))⟩] none [2]) .ret) .skip)) (.seq (.reg [⟨some 5, none, .bsl 5 []⟩, ⟨some 6, none, .mv (.t 0)⟩, ⟨some 7, none, .app (.t 5) (.t 6) 5 80 []⟩, ⟨some 2, none, .mv (.t 7)⟩] none [2]) .ret)))
theorem chk_CloneV : chkX Go.Proofs.Try.prog 8 (Go.Proofs.Try.f41.body.getD .skip) x_CloneV = true := by kernel_rfl
theorem rs_CloneV : okRs Go.Proofs.Try.prog Go.Proofs.Try.f41.results.toList [.tmp 2] = true := by kernel_rfl
theorem call_CloneV : okCallee Go.Proofs.Try.prog 41 = true := by kernel_rfl
theorem encL_set (l : List T) (i : Nat) (t : T) : (encL l).set i t.enc = encL (l.set i t) := by
  rw [encL_map, encL_map, List.map_set]
theorem encL_nil_iff {l : List T} : (encL l).isEmpty = true ↔ l = [] := by
  cases l <;> simp [encL]
theorem T.enc_drop5 (t : T) : t.enc.drop 5 = [] := List.drop_of_length_le (by rw [T.enc_len]; exact Nat.le_refl _)
noncomputable def spCloneV  : Spec := Spec.of (ι := (List T)) [false] (fun i => [.d (.one (.row 5 (encL i)))]) (fun i => lenB 1000000 i.length) (fun i => [.own 5 (encL i)]) (fun _ => [.gone])
theorem spCloneV_inj : ∀ i j : (List T), (fun (i : (List T)) => ([.d (.one (.row 5 (encL i)))] : List AV)) i = (fun (i : (List T)) => ([.d (.one (.row 5 (encL i)))] : List AV)) j → i = j := by
  intro l l' h
  simpa [strs_eq, T.enc_eq, encL_eq, F.enc_eq, encF_eq, Tk.enc_eq, encTk_eq, Gn.enc_eq, ints_eq] using h
theorem spCloneV_md  : (spCloneV).md = [false] := rfl
theorem spCloneV_pre  (l : List T) : (spCloneV).pre [.d (.one (.row 5 (encL l)))] = (lenB 1000000 l.length) := Spec.of_pre' spCloneV_inj l
theorem spCloneV_alts  : (spCloneV).alts = none := rfl
theorem spCloneV_res  (l : List T) : (spCloneV).res [.d (.one (.row 5 (encL l)))] = [.own 5 (encL l)] := Spec.of_res spCloneV_inj l
theorem spCloneV_out  (l : List T) : (spCloneV).out [.d (.one (.row 5 (encL l)))] = [.gone] := Spec.of_out spCloneV_inj l
theorem CloneV_sound : Sound Go.Proofs.Try.prog 41 spCloneV := by
  refine sound_fam GOK.nil Go.Proofs.Try.func41 (c := Go.Proofs.Try.f41.body.getD .skip) rfl (n := 8) rfl chk_CloneV rs_CloneV (fun _ => by simp) ?_ ?_
  · exact spCloneV_inj
  · intro l h1
    simp only [lenB] at h1
    simp only [x_CloneV, rg, go_sem, seval, encL_len]
    repeat' (first | with_reducible assumption | with_reducible refine And.intro ?_ ?_ | intro _)
    all_goals first | omega | skip
    rename_i h
    rw [encL_nil_iff] at h
    rw [h]; rfl
end Go.Proofs.Pw
/- Rows in order: the stable sort of short rows; the specification's. -/
set_option linter.unusedSimpArgs false
set_option maxRecDepth 20000
namespace Go.Proofs.Pw
set_option linter.unusedSectionVars false
variable [Globs]
theorem encL_dropL (l : List T) (k : Nat) : (encL l).drop k = encL (l.drop k) := by rw [encL_map, encL_map, List.map_drop]
theorem encL_takeL (l : List T) (k : Nat) : (encL l).take k = encL (l.take k) := by rw [encL_map, encL_map, List.map_take]
theorem encL_appL (a b : List T) : encL a ++ encL b = encL (a ++ b) := (encL_app a b).symm
theorem encL_one (t : T) : [t.enc] = encL [t] := by simp [encL]
theorem fitL_of {B : Int} : ∀ {l : List T}, (∀ t ∈ l, t.fit B) → fitL B l
  | [], _ => trivial
  | t :: l, h => ⟨h t (by simp), fitL_of (fun t ht => h t (by simp [ht]))⟩
end Go.Proofs.Pw
