/- Rows in order: the program's functions. -/
import Derived.Test.YtalbhhciphpbeaaPwCl2
import Derived.Test.YtalbhhciphpbeaaPwOdI
set_option linter.unusedSimpArgs false
set_option linter.unusedVariables false
set_option linter.unusedSimpArgs false
set_option maxRecDepth 20000
namespace Go.Proofs.Pw
set_option linter.unusedSectionVars false
variable [Globs]
def x_CloneV : X := (.seq (.reg [⟨some 2, none, .mv (.k (.z 5))⟩] none [0]) (.seq (.seq (.reg [⟨some 3, none, .mv (.t 0)⟩, ⟨some 4, none, .isn (.t 3)⟩] none [0, 4]) (.cond (.t 4) (.seq (.reg [⟨some 2, none, .mv (.k (.z 5))⟩] none [2]) .ret) .skip)) (.seq (.reg [⟨some 5, none, .bsl 5 []⟩, ⟨some 6, none, .mv (.t 0)⟩, ⟨some 7, none, .app (.t 5) (.t 6) 5 80 []⟩, ⟨some 2, none, .mv (.t 7)⟩] none [2]) .ret)))
theorem chk_CloneV : chkX Go.Proofs.Try.prog 8 (Go.Proofs.Try.f51.body.getD .skip) x_CloneV = true := by kernel_rfl
theorem rs_CloneV : okRs Go.Proofs.Try.prog Go.Proofs.Try.f51.results.toList [.tmp 2] = true := by kernel_rfl
theorem call_CloneV : okCallee Go.Proofs.Try.prog 51 = true := by kernel_rfl
def x_insS : X := (.seq (.reg [⟨some 10, none, .mv (.t 1)⟩, ⟨some 11, none, .bin false .add (.t 10) (.k (.c (.int .i64 1)))⟩, ⟨some 8, none, .mv (.t 11)⟩] none [0, 1, 2, 3, 8]) (.block 0 (.loop (.seq (.seq (.reg [⟨some 12, none, .mv (.t 8)⟩, ⟨some 13, none, .mv (.t 2)⟩, ⟨some 14, none, .bin false .lss (.t 12) (.t 13)⟩] none [0, 1, 2, 3, 8, 14]) (.cond (.t 14) .skip (.exit 0))) (.seq (.block 1 (.seq (.reg [⟨some 17, none, .mv (.t 8)⟩, ⟨some 9, none, .mv (.t 17)⟩] none [0, 1, 2, 3, 8, 9]) (.block 2 (.loop (.seq (.seq (.reg [⟨some 18, none, .mv (.t 9)⟩, ⟨some 19, none, .mv (.t 1)⟩, ⟨some 20, none, .bin false .gtr (.t 18) (.t 19)⟩, ⟨some 21, none, .mv (.t 20)⟩, ⟨some 22, some (21, true), .mv (.t 3)⟩, ⟨some 23, some (21, true), .mv (.t 0)⟩, ⟨some 24, some (21, true), .mv (.t 9)⟩, ⟨some 25, some (21, true), .ia (.t 23) (.t 24) 5⟩, ⟨some 26, some (21, true), .load (.t 25) (some 5)⟩, ⟨some 27, some (21, true), .mv (.t 0)⟩, ⟨some 28, some (21, true), .mv (.t 9)⟩, ⟨some 29, some (21, true), .bin false .sub (.t 28) (.k (.c (.int .i64 1)))⟩, ⟨some 30, some (21, true), .ia (.t 27) (.t 29) 5⟩, ⟨some 31, some (21, true), .load (.t 30) (some 5)⟩, ⟨some 32, some (21, true), .calli (.t 22) [(.t 26), (.t 31)]⟩, ⟨some 33, some (21, true), .bin false .lss (.t 32) (.k (.c (.int .i64 0)))⟩, ⟨some 34, none, .pick (.t 21) (.t 33) (.k (.c (.bool false)))⟩] (some 14) [0, 1, 2, 3, 8, 9, 34]) (.cond (.t 34) .skip (.exit 2))) (.seq (.block 3 (.mix [⟨some 37, none, .mv (.t 0)⟩, ⟨some 38, none, .mv (.t 9)⟩, ⟨some 39, none, .mv (.t 0)⟩, ⟨some 40, none, .mv (.t 9)⟩, ⟨some 41, none, .bin false .sub (.t 40) (.k (.c (.int .i64 1)))⟩, ⟨some 42, none, .mv (.t 0)⟩, ⟨some 43, none, .mv (.t 9)⟩, ⟨some 44, none, .bin false .sub (.t 43) (.k (.c (.int .i64 1)))⟩, ⟨some 45, none, .ia (.t 42) (.t 44) 5⟩, ⟨some 46, none, .load (.t 45) (some 5)⟩, ⟨some 47, none, .mv (.t 0)⟩, ⟨some 48, none, .mv (.t 9)⟩, ⟨some 49, none, .ia (.t 47) (.t 48) 5⟩, ⟨some 50, none, .load (.t 49) (some 5)⟩, ⟨some 51, none, .ia (.t 37) (.t 38) 5⟩, ⟨none, none, .st (.t 51) (.t 46) (some 5)⟩] [⟨some 52, none, .ia (.t 39) (.t 41) 5⟩, ⟨none, none, .st (.t 52) (.t 50) (some 5)⟩] [[], [], [], [], [], [], [], [], [], [], [], [], [], [], [], []] [0, 1, 2, 3, 8, 9])) (.reg [⟨some 35, none, .mv (.t 9)⟩, ⟨some 36, none, .bin false .sub (.t 35) (.k (.c (.int .i64 1)))⟩, ⟨some 9, none, .mv (.t 36)⟩] none [0, 1, 2, 3, 8, 9]))))))) (.reg [⟨some 15, none, .mv (.t 8)⟩, ⟨some 16, none, .bin false .add (.t 15) (.k (.c (.int .i64 1)))⟩, ⟨some 8, none, .mv (.t 16)⟩] none [0, 1, 2, 3, 8]))))))
theorem chk_insS : chkX Go.Proofs.Try.prog 53 (Go.Proofs.Try.f74.body.getD .skip) x_insS = true := by kernel_rfl
theorem rs_insS : okRs Go.Proofs.Try.prog Go.Proofs.Try.f74.results.toList [] = true := by kernel_rfl
theorem call_insS : okCallee Go.Proofs.Try.prog 74 = true := by kernel_rfl
def x_stab : X := (.seq (.reg [⟨some 6, none, .mv (.k (.c (.int .i64 20)))⟩] none [0, 1, 2, 6]) (.seq (.reg [⟨some 10, none, .mv (.t 6)⟩, ⟨some 7, none, .mv (.k (.c (.int .i64 0)))⟩, ⟨some 8, none, .mv (.t 10)⟩] none [0, 1, 2, 6, 7, 8]) (.seq (.block 0 (.loop (.seq (.seq (.reg [⟨some 11, none, .mv (.t 8)⟩, ⟨some 12, none, .mv (.t 1)⟩, ⟨some 13, none, .bin false .leq (.t 11) (.t 12)⟩] none [0, 1, 2, 6, 7, 8, 13]) (.cond (.t 13) .skip (.exit 0))) (.block 1 (.seq (.reg [⟨some 14, none, .mv (.t 0)⟩, ⟨some 15, none, .mv (.t 7)⟩, ⟨some 16, none, .mv (.t 8)⟩, ⟨some 17, none, .mv (.t 2)⟩, ⟨some 18, none, .call 74 [(.t 14), (.t 15), (.t 16), (.t 17)]⟩] none [0, 1, 2, 6, 8]) (.seq (.reg [⟨some 19, none, .mv (.t 8)⟩, ⟨some 7, none, .mv (.t 19)⟩] none [0, 1, 2, 6, 7, 8]) (.reg [⟨some 20, none, .mv (.t 8)⟩, ⟨some 21, none, .mv (.t 6)⟩, ⟨some 22, none, .bin false .add (.t 20) (.t 21)⟩, ⟨some 8, none, .mv (.t 22)⟩] none [0, 1, 2, 6, 7, 8]))))))) (.seq (.reg [⟨some 23, none, .mv (.t 0)⟩, ⟨some 24, none, .mv (.t 7)⟩, ⟨some 25, none, .mv (.t 1)⟩, ⟨some 26, none, .mv (.t 2)⟩, ⟨some 27, none, .call 74 [(.t 23), (.t 24), (.t 25), (.t 26)]⟩] none [0, 1, 2, 6]) (.block 2 (.loop (.seq (.seq (.reg [⟨some 28, none, .mv (.t 6)⟩, ⟨some 29, none, .mv (.t 1)⟩, ⟨some 30, none, .bin false .lss (.t 28) (.t 29)⟩] none [0, 1, 2, 6, 30]) (.cond (.t 30) .skip (.exit 2))) (.block 3 (.seq (.reg [⟨some 31, none, .mv (.t 6)⟩, ⟨some 32, none, .bin false .mul (.k (.c (.int .i64 2))) (.t 31)⟩, ⟨some 7, none, .mv (.k (.c (.int .i64 0)))⟩, ⟨some 8, none, .mv (.t 32)⟩] none [0, 1, 2, 6, 7, 8]) (.seq (.block 4 (.loop (.seq (.seq (.reg [⟨some 33, none, .mv (.t 8)⟩, ⟨some 34, none, .mv (.t 1)⟩, ⟨some 35, none, .bin false .leq (.t 33) (.t 34)⟩] none [0, 1, 2, 6, 7, 8, 35]) (.cond (.t 35) .skip (.exit 4))) (.block 5 (.seq (.reg [⟨some 36, none, .mv (.t 0)⟩, ⟨some 37, none, .mv (.t 7)⟩, ⟨some 38, none, .mv (.t 7)⟩, ⟨some 39, none, .mv (.t 6)⟩, ⟨some 40, none, .bin false .add (.t 38) (.t 39)⟩, ⟨some 41, none, .mv (.t 8)⟩, ⟨some 42, none, .mv (.t 2)⟩, ⟨some 43, none, .call 75 [(.t 36), (.t 37), (.t 40), (.t 41), (.t 42)]⟩] none [0, 1, 2, 6, 8]) (.seq (.reg [⟨some 44, none, .mv (.t 8)⟩, ⟨some 7, none, .mv (.t 44)⟩] none [0, 1, 2, 6, 7, 8]) (.reg [⟨some 45, none, .mv (.t 8)⟩, ⟨some 46, none, .mv (.t 6)⟩, ⟨some 47, none, .bin false .mul (.k (.c (.int .i64 2))) (.t 46)⟩, ⟨some 48, none, .bin false .add (.t 45) (.t 47)⟩, ⟨some 8, none, .mv (.t 48)⟩] none [0, 1, 2, 6, 7, 8]))))))) (.seq (.seq (.reg [⟨some 49, none, .mv (.t 7)⟩, ⟨some 50, none, .mv (.t 6)⟩, ⟨some 51, none, .bin false .add (.t 49) (.t 50)⟩, ⟨some 9, none, .mv (.t 51)⟩] none [0, 1, 2, 6, 7, 9]) (.seq (.reg [⟨some 52, none, .mv (.t 9)⟩, ⟨some 53, none, .mv (.t 1)⟩, ⟨some 54, none, .bin false .lss (.t 52) (.t 53)⟩] none [0, 1, 2, 6, 7, 9, 54]) (.cond (.t 54) (.reg [⟨some 55, none, .mv (.t 0)⟩, ⟨some 56, none, .mv (.t 7)⟩, ⟨some 57, none, .mv (.t 9)⟩, ⟨some 58, none, .mv (.t 1)⟩, ⟨some 59, none, .mv (.t 2)⟩, ⟨some 60, none, .call 75 [(.t 55), (.t 56), (.t 57), (.t 58), (.t 59)]⟩] none [0, 1, 2, 6]) .skip))) (.reg [⟨some 61, none, .mv (.t 6)⟩, ⟨some 62, none, .bin false .mul (.t 61) (.k (.c (.int .i64 2)))⟩, ⟨some 6, none, .mv (.t 62)⟩] none [0, 1, 2, 6]))))))))))))
theorem chk_stab : chkX Go.Proofs.Try.prog 63 (Go.Proofs.Try.f63.body.getD .skip) x_stab = true := by kernel_rfl
theorem rs_stab : okRs Go.Proofs.Try.prog Go.Proofs.Try.f63.results.toList [] = true := by kernel_rfl
theorem call_stab : okCallee Go.Proofs.Try.prog 63 = true := by kernel_rfl
def x_SortSt : X := (.reg [⟨some 4, none, .mv (.t 0)⟩, ⟨some 5, none, .mv (.t 0)⟩, ⟨some 6, none, .len (.t 5) false⟩, ⟨some 7, none, .mv (.t 1)⟩, ⟨some 8, none, .call 63 [(.t 4), (.t 6), (.t 7)]⟩] none [])
theorem chk_SortSt : chkX Go.Proofs.Try.prog 9 (Go.Proofs.Try.f52.body.getD .skip) x_SortSt = true := by kernel_rfl
theorem rs_SortSt : okRs Go.Proofs.Try.prog Go.Proofs.Try.f52.results.toList [] = true := by kernel_rfl
theorem call_SortSt : okCallee Go.Proofs.Try.prog 52 = true := by kernel_rfl
def x_ordered : X := (.seq (.reg [⟨some 2, none, .mv (.k (.z 5))⟩] none [0]) (.seq (.reg [⟨some 4, none, .mv (.t 0)⟩, ⟨some 5, none, .call 51 [(.t 4)]⟩, ⟨some 3, none, .mv (.t 5)⟩] none [3]) (.seq (.reg [⟨some 6, none, .mv (.t 3)⟩, ⟨some 7, none, .call 52 [(.t 6), (.k (.c (.fn 53)))]⟩] none [3]) (.seq (.reg [⟨some 8, none, .mv (.t 3)⟩, ⟨some 2, none, .mv (.t 8)⟩] none [2]) .ret))))
theorem chk_ordered : chkX Go.Proofs.Try.prog 9 (Go.Proofs.Try.f31.body.getD .skip) x_ordered = true := by kernel_rfl
theorem rs_ordered : okRs Go.Proofs.Try.prog Go.Proofs.Try.f31.results.toList [.tmp 2] = true := by kernel_rfl
theorem call_ordered : okCallee Go.Proofs.Try.prog 31 = true := by kernel_rfl
theorem encL_set (l : List T) (i : Nat) (t : T) : (encL l).set i t.enc = encL (l.set i t) := by
  rw [encL_map, encL_map, List.map_set]
theorem encL_nil_iff {l : List T} : (encL l).isEmpty = true ↔ l = [] := by
  cases l <;> simp [encL]
theorem T.enc_drop5 (t : T) : t.enc.drop 5 = [] := List.drop_of_length_le (by rw [T.enc_len]; exact Nat.le_refl _)
noncomputable def spCloneV  : Spec := Spec.of (ι := (List T)) [false] (fun i => [.d (.one (.row 5 (encL i)))]) (fun i => lenB 1000000 i.length) (fun i => [.own 5 (encL i)]) (fun _ => [.gone])
theorem spCloneV_inj : ∀ i j : (List T), (fun (i : (List T)) => ([.d (.one (.row 5 (encL i)))] : List AV)) i = (fun (i : (List T)) => ([.d (.one (.row 5 (encL i)))] : List AV)) j → i = j := by
  intro l l' h
  simpa [strs_eq, T.enc_eq, encL_eq, F.enc_eq, encF_eq, Tk.enc_eq, encTk_eq, Gn.enc_eq, ints_eq] using h
theorem spCloneV_md  : (spCloneV).md = [false] := rfl
theorem spCloneV_pre  (l : List T) : (spCloneV).pre [.d (.one (.row 5 (encL l)))] = (lenB 1000000 l.length) := Spec.of_pre' spCloneV_inj l
theorem spCloneV_alts  : (spCloneV).alts = none := rfl
theorem spCloneV_res  (l : List T) : (spCloneV).res [.d (.one (.row 5 (encL l)))] = [.own 5 (encL l)] := Spec.of_res spCloneV_inj l
theorem spCloneV_out  (l : List T) : (spCloneV).out [.d (.one (.row 5 (encL l)))] = [.gone] := Spec.of_out spCloneV_inj l
theorem CloneV_sound : Sound Go.Proofs.Try.prog 51 spCloneV := by
  refine sound_fam GOK.nil Go.Proofs.Try.func51 (c := Go.Proofs.Try.f51.body.getD .skip) rfl (n := 8) rfl chk_CloneV rs_CloneV (fun _ => by simp) ?_ ?_
  · exact spCloneV_inj
  · intro l h1
    simp only [lenB] at h1
    simp only [x_CloneV, rg, go_sem, seval, encL_len]
    repeat' (first | with_reducible assumption | with_reducible refine And.intro ?_ ?_ | intro _)
    all_goals first | omega | skip
    rename_i h
    rw [encL_nil_iff] at h
    rw [h]; rfl
theorem sort_step {S A B : List T} {x : T} (hS : Srt cmpT S) (hAB : A ++ B = S) (hB : ∀ b ∈ B, cmpT x b ≤ 0) (hA : ∀ a ∈ A, cmpT a x ≤ 0) {l : List T} (hp : S.Perm l) : A ++ x :: B = sortC cmpT (l ++ [x]) := by
  refine sortC_uniq cmpT_is ?_ ?_
  · subst hAB
    rw [Srt, List.pairwise_append] at hS ⊢
    refine ⟨hS.1, List.pairwise_cons.2 ⟨hB, hS.2.1⟩, fun a ha b hb => ?_⟩
    rcases List.mem_cons.1 hb with rfl | hb
    · exact hA a ha
    · exact hS.2.2 a ha b hb
  · subst hAB
    exact List.perm_middle.trans ((List.Perm.cons x hp).trans (List.perm_append_comm (l₁ := [x]) (l₂ := l)))
theorem swap_set {α : Type} (A B D : List α) (x y : α) : ((A ++ [y] ++ x :: B ++ D).set (A.length + 1) y).set A.length x = A ++ x :: (y :: B) ++ D := by
  induction A with
  | nil => simp
  | cons a A ih => simp
end Go.Proofs.Pw
