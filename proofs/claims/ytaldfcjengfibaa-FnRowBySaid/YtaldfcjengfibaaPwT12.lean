/- The order of trees: the program's functions. -/
import Derived.Test.YtaldfcjengfibaaPwT11
set_option linter.unusedSimpArgs false
set_option linter.unusedVariables false
set_option linter.unusedSimpArgs false
set_option maxRecDepth 20000
namespace Go.Proofs.Pw
set_option linter.unusedSectionVars false
variable [Globs]
def x_cmpOr : X := (.seq (.reg [⟨some 2, none, .mv (.k (.c (.int .i64 0)))⟩] none [0]) (.seq (.reg [⟨some 3, none, .mv (.k (.c (.int .i64 0)))⟩] none [0, 3]) (.seq (.seq (.reg [⟨some 6, none, .mv (.t 0)⟩, ⟨some 7, none, .len (.t 6) false⟩, ⟨some 8, none, .mv (.k (.c (.int .i64 0)))⟩] none [3, 6, 7, 8]) (.block 0 (.loop (.seq (.reg [⟨some 9, none, .bin false .lss (.t 8) (.t 7)⟩] none [3, 6, 7, 8, 9]) (.seq (.cond (.t 9) .skip (.exit 0)) (.seq (.block 1 (.seq (.reg [⟨some 10, none, .ia (.t 6) (.t 8) 1⟩, ⟨some 11, none, .load (.t 10) none⟩, ⟨some 5, none, .mv (.t 11)⟩] none [3, 5, 6, 7, 8]) (.seq (.reg [⟨some 12, none, .mv (.t 5)⟩, ⟨some 13, none, .mv (.t 3)⟩, ⟨some 14, none, .bin false .neq (.t 12) (.t 13)⟩] none [3, 5, 6, 7, 8, 14]) (.cond (.t 14) (.seq (.reg [⟨some 15, none, .mv (.t 5)⟩, ⟨some 2, none, .mv (.t 15)⟩] none [2]) .ret) .skip)))) (.reg [⟨some 16, none, .bin false .add (.t 8) (.k (.c (.int .i64 1)))⟩, ⟨some 8, none, .mv (.t 16)⟩] none [3, 6, 7, 8]))))))) (.seq (.reg [⟨some 17, none, .mv (.t 3)⟩, ⟨some 2, none, .mv (.t 17)⟩] none [2]) .ret))))
theorem chk_cmpOr : chkX Go.Proofs.Try.prog 18 (Go.Proofs.Try.f56.body.getD .skip) x_cmpOr = true := by kernel_rfl
theorem rs_cmpOr : okRs Go.Proofs.Try.prog Go.Proofs.Try.f56.results.toList [.tmp 2] = true := by kernel_rfl
theorem call_cmpOr : okCallee Go.Proofs.Try.prog 56 = true := by kernel_rfl
def x_nanI : X := (.seq (.reg [⟨some 2, none, .mv (.k (.c (.bool false)))⟩] none [0]) (.seq (.reg [⟨some 3, none, .mv (.t 0)⟩, ⟨some 4, none, .mv (.t 0)⟩, ⟨some 5, none, .bin false .neq (.t 3) (.t 4)⟩, ⟨some 2, none, .mv (.t 5)⟩] none [2]) .ret))
theorem chk_nanI : chkX Go.Proofs.Try.prog 6 (Go.Proofs.Try.f78.body.getD .skip) x_nanI = true := by kernel_rfl
theorem rs_nanI : okRs Go.Proofs.Try.prog Go.Proofs.Try.f78.results.toList [.tmp 2] = true := by kernel_rfl
theorem call_nanI : okCallee Go.Proofs.Try.prog 78 = true := by kernel_rfl
def x_cmpI : X := (.seq (.reg [⟨some 4, none, .mv (.k (.c (.int .i64 0)))⟩] none [0, 1]) (.seq (.reg [⟨some 7, none, .mv (.t 0)⟩, ⟨some 8, none, .call 78 [(.t 7)]⟩, ⟨some 5, none, .mv (.t 8)⟩] none [0, 1, 5]) (.seq (.reg [⟨some 9, none, .mv (.t 1)⟩, ⟨some 10, none, .call 78 [(.t 9)]⟩, ⟨some 6, none, .mv (.t 10)⟩] none [0, 1, 5, 6]) (.seq (.seq (.reg [⟨some 11, none, .mv (.t 5)⟩] none [0, 1, 6, 11]) (.cond (.t 11) (.seq (.seq (.reg [⟨some 12, none, .mv (.t 6)⟩] none [12]) (.cond (.t 12) (.seq (.reg [⟨some 4, none, .mv (.k (.c (.int .i64 0)))⟩] none [4]) .ret) .skip)) (.seq (.reg [⟨some 4, none, .mv (.k (.c (.int .i64 (-1))))⟩] none [4]) .ret)) .skip)) (.seq (.seq (.reg [⟨some 13, none, .mv (.t 6)⟩] none [0, 1, 13]) (.cond (.t 13) (.seq (.reg [⟨some 4, none, .mv (.k (.c (.int .i64 1)))⟩] none [4]) .ret) .skip)) (.seq (.seq (.reg [⟨some 14, none, .mv (.t 0)⟩, ⟨some 15, none, .mv (.t 1)⟩, ⟨some 16, none, .bin false .lss (.t 14) (.t 15)⟩] none [0, 1, 16]) (.cond (.t 16) (.seq (.reg [⟨some 4, none, .mv (.k (.c (.int .i64 (-1))))⟩] none [4]) .ret) .skip)) (.seq (.seq (.reg [⟨some 17, none, .mv (.t 0)⟩, ⟨some 18, none, .mv (.t 1)⟩, ⟨some 19, none, .bin false .gtr (.t 17) (.t 18)⟩] none [19]) (.cond (.t 19) (.seq (.reg [⟨some 4, none, .mv (.k (.c (.int .i64 1)))⟩] none [4]) .ret) .skip)) (.seq (.reg [⟨some 4, none, .mv (.k (.c (.int .i64 0)))⟩] none [4]) .ret))))))))
theorem chk_cmpI : chkX Go.Proofs.Try.prog 20 (Go.Proofs.Try.f57.body.getD .skip) x_cmpI = true := by kernel_rfl
theorem rs_cmpI : okRs Go.Proofs.Try.prog Go.Proofs.Try.f57.results.toList [.tmp 4] = true := by kernel_rfl
theorem call_cmpI : okCallee Go.Proofs.Try.prog 57 = true := by kernel_rfl
def x_nanS : X := (.seq (.reg [⟨some 2, none, .mv (.k (.c (.bool false)))⟩] none [0]) (.seq (.reg [⟨some 3, none, .mv (.t 0)⟩, ⟨some 4, none, .mv (.t 0)⟩, ⟨some 5, none, .bin false .neq (.t 3) (.t 4)⟩, ⟨some 2, none, .mv (.t 5)⟩] none [2]) .ret))
theorem chk_nanS : chkX Go.Proofs.Try.prog 6 (Go.Proofs.Try.f79.body.getD .skip) x_nanS = true := by kernel_rfl
theorem rs_nanS : okRs Go.Proofs.Try.prog Go.Proofs.Try.f79.results.toList [.tmp 2] = true := by kernel_rfl
theorem call_nanS : okCallee Go.Proofs.Try.prog 79 = true := by kernel_rfl
def x_cmpS : X := (.seq (.reg [⟨some 4, none, .mv (.k (.c (.int .i64 0)))⟩] none [0, 1]) (.seq (.reg [⟨some 7, none, .mv (.t 0)⟩, ⟨some 8, none, .call 79 [(.t 7)]⟩, ⟨some 5, none, .mv (.t 8)⟩] none [0, 1, 5]) (.seq (.reg [⟨some 9, none, .mv (.t 1)⟩, ⟨some 10, none, .call 79 [(.t 9)]⟩, ⟨some 6, none, .mv (.t 10)⟩] none [0, 1, 5, 6]) (.seq (.seq (.reg [⟨some 11, none, .mv (.t 5)⟩] none [0, 1, 6, 11]) (.cond (.t 11) (.seq (.seq (.reg [⟨some 12, none, .mv (.t 6)⟩] none [12]) (.cond (.t 12) (.seq (.reg [⟨some 4, none, .mv (.k (.c (.int .i64 0)))⟩] none [4]) .ret) .skip)) (.seq (.reg [⟨some 4, none, .mv (.k (.c (.int .i64 (-1))))⟩] none [4]) .ret)) .skip)) (.seq (.seq (.reg [⟨some 13, none, .mv (.t 6)⟩] none [0, 1, 13]) (.cond (.t 13) (.seq (.reg [⟨some 4, none, .mv (.k (.c (.int .i64 1)))⟩] none [4]) .ret) .skip)) (.seq (.seq (.reg [⟨some 14, none, .mv (.t 0)⟩, ⟨some 15, none, .mv (.t 1)⟩, ⟨some 16, none, .bin false .lss (.t 14) (.t 15)⟩] none [0, 1, 16]) (.cond (.t 16) (.seq (.reg [⟨some 4, none, .mv (.k (.c (.int .i64 (-1))))⟩] none [4]) .ret) .skip)) (.seq (.seq (.reg [⟨some 17, none, .mv (.t 0)⟩, ⟨some 18, none, .mv (.t 1)⟩, ⟨some 19, none, .bin false .gtr (.t 17) (.t 18)⟩] none [19]) (.cond (.t 19) (.seq (.reg [⟨some 4, none, .mv (.k (.c (.int .i64 1)))⟩] none [4]) .ret) .skip)) (.seq (.reg [⟨some 4, none, .mv (.k (.c (.int .i64 0)))⟩] none [4]) .ret))))))))
theorem chk_cmpS : chkX Go.Proofs.Try.prog 20 (Go.Proofs.Try.f58.body.getD .skip) x_cmpS = true := by kernel_rfl
theorem rs_cmpS : okRs Go.Proofs.Try.prog Go.Proofs.Try.f58.results.toList [.tmp 4] = true := by kernel_rfl
theorem call_cmpS : okCallee Go.Proofs.Try.prog 58 = true := by kernel_rfl
def x_cmpLS : X := (.seq (.reg [⟨some 4, none, .mv (.k (.c (.int .i64 0)))⟩] none [0, 1]) (.seq (.seq (.reg [⟨some 9, none, .mv (.t 0)⟩, ⟨some 10, none, .len (.t 9) false⟩, ⟨some 11, none, .mv (.k (.c (.int .i64 0)))⟩] none [0, 1, 9, 10, 11]) (.block 0 (.loop (.seq (.reg [⟨some 12, none, .bin false .lss (.t 11) (.t 10)⟩] none [0, 1, 9, 10, 11, 12]) (.seq (.cond (.t 12) .skip (.exit 0)) (.seq (.block 1 (.seq (.reg [⟨some 13, none, .mv (.t 11)⟩, ⟨some 14, none, .ia (.t 9) (.t 11) 1⟩, ⟨some 15, none, .load (.t 14) none⟩, ⟨some 5, none, .mv (.t 13)⟩, ⟨some 6, none, .mv (.t 15)⟩] none [0, 1, 5, 6, 9, 10, 11]) (.seq (.seq (.reg [⟨some 16, none, .mv (.t 5)⟩, ⟨some 17, none, .mv (.t 1)⟩, ⟨some 18, none, .len (.t 17) false⟩, ⟨some 19, none, .bin false .geq (.t 16) (.t 18)⟩] none [0, 1, 5, 6, 9, 10, 11, 19]) (.cond (.t 19) (.seq (.reg [⟨some 4, none, .mv (.k (.c (.int .i64 1)))⟩] none [4]) .ret) .skip)) (.seq (.reg [⟨some 20, none, .mv (.t 1)⟩, ⟨some 21, none, .mv (.t 5)⟩, ⟨some 22, none, .ia (.t 20) (.t 21) 1⟩, ⟨some 23, none, .load (.t 22) none⟩, ⟨some 7, none, .mv (.t 23)⟩] none [0, 1, 6, 7, 9, 10, 11]) (.seq (.reg [⟨some 24, none, .mv (.t 6)⟩, ⟨some 25, none, .mv (.t 7)⟩, ⟨some 26, none, .call 58 [(.t 24), (.t 25)]⟩, ⟨some 8, none, .mv (.t 26)⟩] none [0, 1, 8, 9, 10, 11]) (.seq (.reg [⟨some 27, none, .mv (.t 8)⟩, ⟨some 28, none, .bin false .neq (.t 27) (.k (.c (.int .i64 0)))⟩] none [0, 1, 8, 9, 10, 11, 28]) (.cond (.t 28) (.seq (.reg [⟨some 29, none, .mv (.t 8)⟩, ⟨some 4, none, .mv (.t 29)⟩] none [4]) .ret) .skip))))))) (.reg [⟨some 30, none, .bin false .add (.t 11) (.k (.c (.int .i64 1)))⟩, ⟨some 11, none, .mv (.t 30)⟩] none [0, 1, 9, 10, 11]))))))) (.seq (.seq (.reg [⟨some 31, none, .mv (.t 0)⟩, ⟨some 32, none, .len (.t 31) false⟩, ⟨some 33, none, .mv (.t 1)⟩, ⟨some 34, none, .len (.t 33) false⟩, ⟨some 35, none, .bin false .lss (.t 32) (.t 34)⟩] none [35]) (.cond (.t 35) (.seq (.reg [⟨some 4, none, .mv (.k (.c (.int .i64 (-1))))⟩] none [4]) .ret) .skip)) (.seq (.reg [⟨some 4, none, .mv (.k (.c (.int .i64 0)))⟩] none [4]) .ret))))
theorem chk_cmpLS : chkX Go.Proofs.Try.prog 36 (Go.Proofs.Try.f59.body.getD .skip) x_cmpLS = true := by kernel_rfl
theorem rs_cmpLS : okRs Go.Proofs.Try.prog Go.Proofs.Try.f59.results.toList [.tmp 4] = true := by kernel_rfl
theorem call_cmpLS : okCallee Go.Proofs.Try.prog 59 = true := by kernel_rfl
def x_cmpF : X := (.seq (.reg [⟨some 6, none, .mv (.k (.c (.int .i64 0)))⟩] none [0, 1, 2]) (.seq (.seq (.reg [⟨some 11, none, .mv (.t 0)⟩, ⟨some 12, none, .len (.t 11) false⟩, ⟨some 13, none, .mv (.k (.c (.int .i64 0)))⟩] none [0, 1, 2, 11, 12, 13]) (.block 0 (.loop (.seq (.reg [⟨some 14, none, .bin false .lss (.t 13) (.t 12)⟩] none [0, 1, 2, 11, 12, 13, 14]) (.seq (.cond (.t 14) .skip (.exit 0)) (.seq (.block 1 (.seq (.reg [⟨some 15, none, .mv (.t 13)⟩, ⟨some 16, none, .ia (.t 11) (.t 13) 5⟩, ⟨some 17, none, .load (.t 16) (some 5)⟩, ⟨some 8, none, .alloc [(.c (.int .i64 0)), (.c (.int .i64 0)), (.c (.str ⟨#[]⟩)), (.z 1), (.z 5)]⟩, ⟨some 7, none, .mv (.t 15)⟩, ⟨none, none, .st (.t 8) (.t 17) (some 5)⟩] none [0, 1, 2, 7, 8, 11, 12, 13]) (.seq (.seq (.reg [⟨some 18, none, .mv (.t 7)⟩, ⟨some 19, none, .mv (.t 1)⟩, ⟨some 20, none, .len (.t 19) false⟩, ⟨some 21, none, .bin false .geq (.t 18) (.t 20)⟩] none [0, 1, 2, 7, 8, 11, 12, 13, 21]) (.cond (.t 21) (.seq (.reg [⟨some 6, none, .mv (.k (.c (.int .i64 1)))⟩] none [6]) .ret) .skip)) (.seq (.reg [⟨some 22, none, .mv (.t 1)⟩, ⟨some 23, none, .mv (.t 7)⟩, ⟨some 24, none, .ia (.t 22) (.t 23) 5⟩, ⟨some 25, none, .load (.t 24) (some 5)⟩, ⟨some 9, none, .alloc [(.c (.int .i64 0)), (.c (.int .i64 0)), (.c (.str ⟨#[]⟩)), (.z 1), (.z 5)]⟩, ⟨none, none, .st (.t 9) (.t 25) (some 5)⟩] none [0, 1, 2, 8, 9, 11, 12, 13]) (.seq (.reg [⟨some 26, none, .mv (.t 2)⟩, ⟨some 27, none, .load (.t 8) (some 5)⟩, ⟨some 28, none, .load (.t 9) (some 5)⟩, ⟨some 29, none, .calli (.t 26) [(.t 27), (.t 28)]⟩, ⟨some 10, none, .mv (.t 29)⟩] none [0, 1, 2, 10, 11, 12, 13]) (.seq (.reg [⟨some 30, none, .mv (.t 10)⟩, ⟨some 31, none, .bin false .neq (.t 30) (.k (.c (.int .i64 0)))⟩] none [0, 1, 2, 10, 11, 12, 13, 31]) (.cond (.t 31) (.seq (.reg [⟨some 32, none, .mv (.t 10)⟩, ⟨some 6, none, .mv (.t 32)⟩] none [6]) .ret) .skip))))))) (.reg [⟨some 33, none, .bin false .add (.t 13) (.k (.c (.int .i64 1)))⟩, ⟨some 13, none, .mv (.t 33)⟩] none [0, 1, 2, 11, 12, 13]))))))) (.seq (.seq (.reg [⟨some 34, none, .mv (.t 0)⟩, ⟨some 35, none, .len (.t 34) false⟩, ⟨some 36, none, .mv (.t 1)⟩, ⟨some 37, none, .len (.t 36) false⟩, ⟨some 38, none, .bin false .lss (.t 35) (.t 37)⟩] none [38]) (.cond (.t 38) (.seq (.reg [⟨some 6, none, .mv (.k (.c (.int .i64 (-1))))⟩] none [6]) .ret) .skip)) (.seq (.reg [⟨some 6, none, .mv (.k (.c (.int .i64 0)))⟩] none [6]) .ret))))
theorem chk_cmpF : chkX Go.Proofs.Try.prog 39 (Go.Proofs.Try.f60.body.getD .skip) x_cmpF = true := by kernel_rfl
theorem rs_cmpF : okRs Go.Proofs.Try.prog Go.Proofs.Try.f60.results.toList [.tmp 6] = true := by kernel_rfl
theorem call_cmpF : okCallee Go.Proofs.Try.prog 60 = true := by kernel_rfl
def x_ValOrderI : X := (.seq (.reg [⟨some 2, none, .box (.t 0) (some 5)⟩, ⟨some 3, none, .box (.t 1) (some 5)⟩, ⟨some 4, none, .mv (.k (.c (.int .i64 0)))⟩] none [2, 3]) (.seq (.reg [⟨some 5, none, .fa (.t 2) 0⟩, ⟨some 6, none, .load (.t 5) none⟩, ⟨some 7, none, .fa (.t 3) 0⟩, ⟨some 8, none, .load (.t 7) none⟩, ⟨some 9, none, .call 57 [(.t 6), (.t 8)]⟩, ⟨some 10, none, .fa (.t 2) 1⟩, ⟨some 11, none, .load (.t 10) none⟩, ⟨some 12, none, .fa (.t 3) 1⟩, ⟨some 13, none, .load (.t 12) none⟩, ⟨some 14, none, .call 57 [(.t 11), (.t 13)]⟩, ⟨some 15, none, .fa (.t 2) 2⟩, ⟨some 16, none, .load (.t 15) none⟩, ⟨some 17, none, .fa (.t 3) 2⟩, ⟨some 18, none, .load (.t 17) none⟩, ⟨some 19, none, .call 58 [(.t 16), (.t 18)]⟩, ⟨some 20, none, .fa (.t 2) 3⟩, ⟨some 21, none, .load (.t 20) none⟩, ⟨some 22, none, .fa (.t 3) 3⟩, ⟨some 23, none, .load (.t 22) none⟩, ⟨some 24, none, .call 59 [(.t 21), (.t 23)]⟩, ⟨some 25, none, .fa (.t 2) 4⟩, ⟨some 26, none, .load (.t 25) none⟩, ⟨some 27, none, .fa (.t 3) 4⟩, ⟨some 28, none, .load (.t 27) none⟩, ⟨some 29, none, .call 60 [(.t 26), (.t 28), (.k (.c (.fn 22)))]⟩, ⟨some 30, none, .bsl 1 [((.t 9), none), ((.t 14), none), ((.t 19), none), ((.t 24), none), ((.t 29), none)]⟩, ⟨some 31, none, .call 56 [(.t 30)]⟩, ⟨some 4, none, .mv (.t 31)⟩] (some 24) [4]) .ret))
theorem chk_ValOrderI : chkX Go.Proofs.Try.prog 32 (Go.Proofs.Try.f22.body.getD .skip) x_ValOrderI = true := by kernel_rfl
theorem rs_ValOrderI : okRs Go.Proofs.Try.prog Go.Proofs.Try.f22.results.toList [.tmp 4] = true := by kernel_rfl
theorem call_ValOrderI : okCallee Go.Proofs.Try.prog 22 = true := by kernel_rfl
def orI : List Int → Int
  | [] => 0
  | a :: l => if a ≠ 0 then a else orI l
noncomputable def spOr  : Spec := Spec.of (ι := (List Int)) [false] (fun i => [.d (.one (.row 1 (ints .i64 i)))]) (fun i => lenB 140737488355328 i.length) (fun i => [.d (.one (.int .i64 (orI i)))]) (fun _ => [.gone])
theorem spOr_inj : ∀ i j : (List Int), (fun (i : (List Int)) => ([.d (.one (.row 1 (ints .i64 i)))] : List AV)) i = (fun (i : (List Int)) => ([.d (.one (.row 1 (ints .i64 i)))] : List AV)) j → i = j := by
  intro l l' h
  simpa [strs_eq, T.enc_eq, encL_eq, F.enc_eq, encF_eq, Tk.enc_eq, encTk_eq, Gn.enc_eq, ints_eq] using h
theorem spOr_md  : (spOr).md = [false] := rfl
theorem spOr_pre  (l : List Int) : (spOr).pre [.d (.one (.row 1 (ints .i64 l)))] = (lenB 140737488355328 l.length) := Spec.of_pre' spOr_inj l
theorem spOr_alts  : (spOr).alts = none := rfl
theorem spOr_res  (l : List Int) : (spOr).res [.d (.one (.row 1 (ints .i64 l)))] = [.d (.one (.int .i64 (orI l)))] := Spec.of_res spOr_inj l
theorem spOr_out  (l : List Int) : (spOr).out [.d (.one (.row 1 (ints .i64 l)))] = [.gone] := Spec.of_out spOr_inj l
theorem cmpOr_sound : Sound Go.Proofs.Try.prog 56 spOr := by
  refine sound_fam GOK.nil Go.Proofs.Try.func56 (c := Go.Proofs.Try.f56.body.getD .skip) rfl (n := 18) rfl chk_cmpOr rs_cmpOr (fun _ => by simp) ?_ ?_
  · exact spOr_inj
  · intro l h1
    simp only [lenB] at h1
    simp only [x_cmpOr, rg, go_sem, seval, ints_len]
    refine pw_loop (ι := Nat) (fun i => l.length - i) (fun i => i ≤ l.length ∧ orI l = orI (l.drop i))
      (fun i => ⟨[(3, .q (.c (.int .i64 0))), (6, .q (.c (.row 1 (ints .i64 l)))), (7, .q (.c (.int .i64 l.length))), (8, .q (.c (.int .i64 i)))], [], []⟩) 0 ⟨Nat.zero_le _, rfl⟩ (Le.refl _) ?_
    rintro i ⟨g1, g2⟩
    rcases Nat.lt_or_ge i l.length with hlt | hge
    · obtain ⟨x, hx, hd, _⟩ := drop_at hlt
      have a1 := ints_at (k := .i64) hx
      have a2 : ((i : Int) < (l.length : Int)) = True := eq_true (by omega)
      rw [hd] at g2
      simp only [go_sem, seval, rg, a1, a2, ints_len]
      repeat' (first | with_reducible assumption | with_reducible refine And.intro ?_ ?_ | intro _)
      all_goals first | omega | skip
      · rename_i hne
        rw [g2]; simp only [orI]; rw [if_pos hne]
      · rename_i hne _
        exact ⟨i + 1, ⟨by omega, by rw [g2]; simp only [orI]; rw [if_neg hne]⟩, by omega, Le.refl _⟩
    · have a2 : ((i : Int) < (l.length : Int)) = False := eq_false (by omega)
      rw [List.drop_of_length_le hge] at g2
      simp only [go_sem, seval, rg, a2, g2, orI]
noncomputable def spNanI  : Spec := Spec.of (ι := Int) [false] (fun i => [.d (.one (.int .i64 i))]) (fun _ => True) (fun _ => [.d (.one (.bool false))]) (fun _ => [.gone])
theorem spNanI_inj : ∀ i j : Int, (fun (i : Int) => ([.d (.one (.int .i64 i))] : List AV)) i = (fun (i : Int) => ([.d (.one (.int .i64 i))] : List AV)) j → i = j := by
  intro a a' h
  simpa [strs_eq, T.enc_eq, encL_eq, F.enc_eq, encF_eq, Tk.enc_eq, encTk_eq, Gn.enc_eq, ints_eq] using h
theorem spNanI_md  : (spNanI).md = [false] := rfl
theorem spNanI_pre  (a : Int) : (spNanI).pre [.d (.one (.int .i64 a))] = (True) := Spec.of_pre' spNanI_inj a
theorem spNanI_alts  : (spNanI).alts = none := rfl
theorem spNanI_res  (a : Int) : (spNanI).res [.d (.one (.int .i64 a))] = [.d (.one (.bool false))] := Spec.of_res spNanI_inj a
theorem spNanI_out  (a : Int) : (spNanI).out [.d (.one (.int .i64 a))] = [.gone] := Spec.of_out spNanI_inj a
theorem nanI_sound : Sound Go.Proofs.Try.prog 78 spNanI := by
  refine sound_fam GOK.nil Go.Proofs.Try.func78 (c := Go.Proofs.Try.f78.body.getD .skip) rfl (n := 6) rfl chk_nanI rs_nanI (fun _ => by simp) ?_ ?_
  · exact spNanI_inj
  · intro a _
    simp [x_nanI, rg, go_sem, seval]
noncomputable def spNanS  : Spec := Spec.of (ι := ByteArray) [false] (fun i => [.d (.one (.str i))]) (fun _ => True) (fun _ => [.d (.one (.bool false))]) (fun _ => [.gone])
theorem spNanS_inj : ∀ i j : ByteArray, (fun (i : ByteArray) => ([.d (.one (.str i))] : List AV)) i = (fun (i : ByteArray) => ([.d (.one (.str i))] : List AV)) j → i = j := by
  intro a a' h
  simpa [strs_eq, T.enc_eq, encL_eq, F.enc_eq, encF_eq, Tk.enc_eq, encTk_eq, Gn.enc_eq, ints_eq] using h
theorem spNanS_md  : (spNanS).md = [false] := rfl
theorem spNanS_pre  (a : ByteArray) : (spNanS).pre [.d (.one (.str a))] = (True) := Spec.of_pre' spNanS_inj a
theorem spNanS_alts  : (spNanS).alts = none := rfl
theorem spNanS_res  (a : ByteArray) : (spNanS).res [.d (.one (.str a))] = [.d (.one (.bool false))] := Spec.of_res spNanS_inj a
theorem spNanS_out  (a : ByteArray) : (spNanS).out [.d (.one (.str a))] = [.gone] := Spec.of_out spNanS_inj a
theorem nanS_sound : Sound Go.Proofs.Try.prog 79 spNanS := by
  refine sound_fam GOK.nil Go.Proofs.Try.func79 (c := Go.Proofs.Try.f79.body.getD .skip) rfl (n := 6) rfl chk_nanS rs_nanS (fun _ => by simp) ?_ ?_
  · exact spNanS_inj
  · intro a _
    simp [x_nanS, rg, go_sem, seval]
noncomputable def spCmpI  : Spec := Spec.of (ι := Int × Int) [false, false] (fun i => [.d (.one (.int .i64 i.1)), .d (.one (.int .i64 i.2))]) (fun _ => True) (fun i => [.d (.one (.int .i64 (cmpI i.1 i.2)))]) (fun _ => [.gone, .gone])
theorem spCmpI_inj : ∀ i j : Int × Int, (fun (i : Int × Int) => ([.d (.one (.int .i64 i.1)), .d (.one (.int .i64 i.2))] : List AV)) i = (fun (i : Int × Int) => ([.d (.one (.int .i64 i.1)), .d (.one (.int .i64 i.2))] : List AV)) j → i = j := by
  rintro ⟨a, b⟩ ⟨a', b'⟩ h
  simp only [Prod.mk.injEq]
  simpa [strs_eq, T.enc_eq, encL_eq, F.enc_eq, encF_eq, Tk.enc_eq, encTk_eq, Gn.enc_eq, ints_eq] using h
theorem spCmpI_md  : (spCmpI).md = [false, false] := rfl
theorem spCmpI_pre  (a : Int) (b : Int) : (spCmpI).pre [.d (.one (.int .i64 a)), .d (.one (.int .i64 b))] = (True) := Spec.of_pre' spCmpI_inj (a, b)
theorem spCmpI_alts  : (spCmpI).alts = none := rfl
theorem spCmpI_res  (a : Int) (b : Int) : (spCmpI).res [.d (.one (.int .i64 a)), .d (.one (.int .i64 b))] = [.d (.one (.int .i64 (cmpI a b)))] := Spec.of_res spCmpI_inj (a, b)
theorem spCmpI_out  (a : Int) (b : Int) : (spCmpI).out [.d (.one (.int .i64 a)), .d (.one (.int .i64 b))] = [.gone, .gone] := Spec.of_out spCmpI_inj (a, b)
theorem cmpI_sound : Sound Go.Proofs.Try.prog 57 spCmpI := by
  refine sound_fam (GOK.cons call_nanI nanI_sound GOK.nil) Go.Proofs.Try.func57 (c := Go.Proofs.Try.f57.body.getD .skip) rfl (n := 20) rfl chk_cmpI rs_cmpI (fun _ => by simp) ?_ ?_
  · exact spCmpI_inj
  · rintro ⟨a, b⟩ _
    simp only [x_cmpI, rg, go_sem, seval, spNanI_md, spNanI_pre, spNanI_alts, spNanI_res, spNanI_out, cmpI]
    repeat' (first | with_reducible assumption | with_reducible refine And.intro ?_ ?_ | intro _)
    all_goals (repeat' split) <;> omega
noncomputable def spCmpS  : Spec := Spec.of (ι := ByteArray × ByteArray) [false, false] (fun i => [.d (.one (.str i.1)), .d (.one (.str i.2))]) (fun _ => True) (fun i => [.d (.one (.int .i64 (cmpS i.1 i.2)))]) (fun _ => [.gone, .gone])
theorem spCmpS_inj : ∀ i j : ByteArray × ByteArray, (fun (i : ByteArray × ByteArray) => ([.d (.one (.str i.1)), .d (.one (.str i.2))] : List AV)) i = (fun (i : ByteArray × ByteArray) => ([.d (.one (.str i.1)), .d (.one (.str i.2))] : List AV)) j → i = j := by
  rintro ⟨a, b⟩ ⟨a', b'⟩ h
  simp only [Prod.mk.injEq]
  simpa [strs_eq, T.enc_eq, encL_eq, F.enc_eq, encF_eq, Tk.enc_eq, encTk_eq, Gn.enc_eq, ints_eq] using h
theorem spCmpS_md  : (spCmpS).md = [false, false] := rfl
theorem spCmpS_pre  (a : ByteArray) (b : ByteArray) : (spCmpS).pre [.d (.one (.str a)), .d (.one (.str b))] = (True) := Spec.of_pre' spCmpS_inj (a, b)
theorem spCmpS_alts  : (spCmpS).alts = none := rfl
theorem spCmpS_res  (a : ByteArray) (b : ByteArray) : (spCmpS).res [.d (.one (.str a)), .d (.one (.str b))] = [.d (.one (.int .i64 (cmpS a b)))] := Spec.of_res spCmpS_inj (a, b)
theorem spCmpS_out  (a : ByteArray) (b : ByteArray) : (spCmpS).out [.d (.one (.str a)), .d (.one (.str b))] = [.gone, .gone] := Spec.of_out spCmpS_inj (a, b)
theorem cmpS_sound : Sound Go.Proofs.Try.prog 58 spCmpS := by
  refine sound_fam (GOK.cons call_nanS nanS_sound GOK.nil) Go.Proofs.Try.func58 (c := Go.Proofs.Try.f58.body.getD .skip) rfl (n := 20) rfl chk_cmpS rs_cmpS (fun _ => by simp) ?_ ?_
  · exact spCmpS_inj
  · rintro ⟨a, b⟩ _
    simp only [x_cmpS, rg, go_sem, seval, spNanS_md, spNanS_pre, spNanS_alts, spNanS_res, spNanS_out, cmpS]
    repeat' (first | with_reducible assumption | with_reducible refine And.intro ?_ ?_ | intro _)
    · rename_i h
      rw [if_pos h]
    · rename_i h k
      rw [if_neg h, if_pos]
      rcases sl_or a b with h' | h' | h'
      · exact absurd h' h
      · exact absurd (.inr h') k
      · exact h'
    · rename_i h k
      rw [if_neg h, if_neg]
      intro h'
      exact k (fun hh => (sl_tri a b).2 h' hh)
theorem cmpL_more {α : Type} {f : α → α → Int} {a b : List α} {i : Nat} (h1 : i < a.length) (h2 : ¬ i < b.length) : cmpL f (a.drop i) (b.drop i) = 1 := by
  have e : b.drop i = [] := List.drop_of_length_le (by omega)
  rw [List.drop_eq_getElem_cons h1, e]; rfl
theorem cmpL_less {α : Type} {f : α → α → Int} {a b : List α} {i : Nat} (h1 : ¬ i < a.length) (h2 : i < b.length) : cmpL f (a.drop i) (b.drop i) = -1 := by
  have e : a.drop i = [] := List.drop_of_length_le (by omega)
  rw [List.drop_eq_getElem_cons h2, e]; rfl
theorem cmpL_same {α : Type} {f : α → α → Int} {a b : List α} {i : Nat} (h1 : ¬ i < a.length) (h2 : ¬ i < b.length) : cmpL f (a.drop i) (b.drop i) = 0 := by
  have e : a.drop i = [] := List.drop_of_length_le (by omega)
  have e' : b.drop i = [] := List.drop_of_length_le (by omega)
  rw [e, e']; rfl
noncomputable def spCmpLS  : Spec := Spec.of (ι := (List ByteArray) × (List ByteArray)) [false, false] (fun i => [.d (.one (.row 1 (strs i.1))), .d (.one (.row 1 (strs i.2)))]) (fun i => lenB 140737488355328 i.1.length ∧ lenB 140737488355328 i.2.length) (fun i => [.d (.one (.int .i64 (cmpL cmpS i.1 i.2)))]) (fun _ => [.gone, .gone])
theorem spCmpLS_inj : ∀ i j : (List ByteArray) × (List ByteArray), (fun (i : (List ByteArray) × (List ByteArray)) => ([.d (.one (.row 1 (strs i.1))), .d (.one (.row 1 (strs i.2)))] : List AV)) i = (fun (i : (List ByteArray) × (List ByteArray)) => ([.d (.one (.row 1 (strs i.1))), .d (.one (.row 1 (strs i.2)))] : List AV)) j → i = j := by
  rintro ⟨a, b⟩ ⟨a', b'⟩ h
  simp only [Prod.mk.injEq]
  simpa [strs_eq, T.enc_eq, encL_eq, F.enc_eq, encF_eq, Tk.enc_eq, encTk_eq, Gn.enc_eq, ints_eq] using h
theorem spCmpLS_md  : (spCmpLS).md = [false, false] := rfl
theorem spCmpLS_pre  (a : List ByteArray) (b : List ByteArray) : (spCmpLS).pre [.d (.one (.row 1 (strs a))), .d (.one (.row 1 (strs b)))] = (lenB 140737488355328 a.length ∧ lenB 140737488355328 b.length) := Spec.of_pre' spCmpLS_inj (a, b)
theorem spCmpLS_alts  : (spCmpLS).alts = none := rfl
theorem spCmpLS_res  (a : List ByteArray) (b : List ByteArray) : (spCmpLS).res [.d (.one (.row 1 (strs a))), .d (.one (.row 1 (strs b)))] = [.d (.one (.int .i64 (cmpL cmpS a b)))] := Spec.of_res spCmpLS_inj (a, b)
theorem spCmpLS_out  (a : List ByteArray) (b : List ByteArray) : (spCmpLS).out [.d (.one (.row 1 (strs a))), .d (.one (.row 1 (strs b)))] = [.gone, .gone] := Spec.of_out spCmpLS_inj (a, b)
theorem cmpLS_sound : Sound Go.Proofs.Try.prog 59 spCmpLS := by
  refine sound_fam (GOK.cons call_cmpS cmpS_sound GOK.nil) Go.Proofs.Try.func59 (c := Go.Proofs.Try.f59.body.getD .skip) rfl (n := 36) rfl chk_cmpLS rs_cmpLS (fun _ => by simp) ?_ ?_
  · exact spCmpLS_inj
  · rintro ⟨a, b⟩ ⟨h1, h2⟩
    simp only [lenB] at h1 h2
    simp only [x_cmpLS, rg, go_sem, seval, strs_len]
    refine pw_loop (ι := Nat) (fun i => a.length - i) (fun i => i ≤ a.length ∧ i ≤ b.length ∧ cmpL cmpS a b = cmpL cmpS (a.drop i) (b.drop i))
      (fun i => ⟨[(0, .q (.c (.row 1 (strs a)))), (1, .q (.c (.row 1 (strs b)))), (9, .q (.c (.row 1 (strs a)))), (10, .q (.c (.int .i64 a.length))), (11, .q (.c (.int .i64 i)))], [], []⟩) 0 ⟨Nat.zero_le _, Nat.zero_le _, rfl⟩ (Le.refl _) ?_
    rintro i ⟨g1, g2, g3⟩
    by_cases c1 : i < a.length
    · obtain ⟨x, hx, _, _⟩ := drop_at c1
      have a1 := strs_at hx
      have a3 : ((i : Int) < (a.length : Int)) = True := eq_true (by omega)
      by_cases c2 : i < b.length
      · obtain ⟨y, hy, _, _⟩ := drop_at c2
        have a2 := strs_at hy
        have a4 : ((b.length : Int) ≤ (i : Int)) = False := eq_false (by omega)
        have a5 : ((i : Int) < (b.length : Int)) = True := eq_true (by omega)
        have a6 : ((i : Int) ≥ (b.length : Int)) = False := eq_false (by omega)
        rw [cmpL_drop hx hy] at g3
        simp only [go_sem, seval, rg, a1, a2, a3, a4, a5, a6, strs_len, spCmpS_md, spCmpS_pre, spCmpS_alts, spCmpS_res, spCmpS_out]
        repeat' (first | with_reducible assumption | with_reducible refine And.intro ?_ ?_ | intro _)
        all_goals first | omega | skip
        · rename_i hne
          rw [g3]; unfold thenI; rw [if_neg hne]
        · rename_i hne _
          exact ⟨i + 1, ⟨by omega, by omega, by rw [g3]; unfold thenI; rw [if_pos (Classical.not_not.1 hne)]⟩, by omega, Le.refl _⟩
      · have a4 : ((b.length : Int) ≤ (i : Int)) = True := eq_true (by omega)
        have a6 : ((i : Int) ≥ (b.length : Int)) = True := eq_true (by omega)
        rw [cmpL_more c1 c2] at g3
        simp only [go_sem, seval, rg, a1, a3, a4, a6, strs_len, g3]
        repeat' (first | with_reducible assumption | with_reducible refine And.intro ?_ ?_ | intro _)
        all_goals first | omega | skip
    · have a3 : ((i : Int) < (a.length : Int)) = False := eq_false (by omega)
      by_cases c2 : i < b.length
      · have a5 : ((a.length : Int) < (b.length : Int)) = True := eq_true (by omega)
        rw [cmpL_less c1 c2] at g3
        simp only [go_sem, seval, rg, a3, a5, strs_len, g3]
        try repeat' (first | with_reducible assumption | with_reducible refine And.intro ?_ ?_ | intro _)
      · have a5 : ((a.length : Int) < (b.length : Int)) = False := eq_false (by omega)
        rw [cmpL_same c1 c2] at g3
        simp only [go_sem, seval, rg, a3, a5, strs_len, g3]
        try repeat' (first | with_reducible assumption | with_reducible refine And.intro ?_ ?_ | intro _)
noncomputable def spOrdI (k:Nat) : Spec := Spec.of (ι := T × T) [false, false] (fun i => [.d (.agg i.1.enc), .d (.agg i.2.enc)]) (fun i => (i.1.fit 140737488355328 ∧ i.2.fit 140737488355328) ∧ SizeOf.sizeOf i.1 < k) (fun i => [.d (.one (.int .i64 (cmpT i.1 i.2)))]) (fun _ => [.gone, .gone])
theorem spOrdI_inj : ∀ i j : T × T, (fun (i : T × T) => ([.d (.agg i.1.enc), .d (.agg i.2.enc)] : List AV)) i = (fun (i : T × T) => ([.d (.agg i.1.enc), .d (.agg i.2.enc)] : List AV)) j → i = j := by
  rintro ⟨a, b⟩ ⟨a', b'⟩ h
  simp only [Prod.mk.injEq]
  simpa [strs_eq, T.enc_eq, encL_eq, F.enc_eq, encF_eq, Tk.enc_eq, encTk_eq, Gn.enc_eq, ints_eq] using h
theorem spOrdI_md (k:Nat) : (spOrdI k).md = [false, false] := rfl
theorem spOrdI_pre (k:Nat) (a : T) (b : T) : (spOrdI k).pre [.d (.agg a.enc), .d (.agg b.enc)] = ((a.fit 140737488355328 ∧ b.fit 140737488355328) ∧ SizeOf.sizeOf a < k) := Spec.of_pre' spOrdI_inj (a, b)
theorem spOrdI_alts (k:Nat) : (spOrdI k).alts = none := rfl
theorem spOrdI_res (k:Nat) (a : T) (b : T) : (spOrdI k).res [.d (.agg a.enc), .d (.agg b.enc)] = [.d (.one (.int .i64 (cmpT a b)))] := Spec.of_res spOrdI_inj (a, b)
theorem spOrdI_out (k:Nat) (a : T) (b : T) : (spOrdI k).out [.d (.agg a.enc), .d (.agg b.enc)] = [.gone, .gone] := Spec.of_out spOrdI_inj (a, b)
noncomputable def spCmpF (k:Nat) : Spec := Spec.of (ι := (List T) × (List T)) [false, false, false] (fun i => [.d (.one (.row 5 (encL i.1))), .d (.one (.row 5 (encL i.2))), .d (.one (.fn 22))]) (fun i => (lenB 140737488355328 i.1.length ∧ fitL 140737488355328 i.1 ∧ lenB 140737488355328 i.2.length ∧ fitL 140737488355328 i.2) ∧ SizeOf.sizeOf i.1 < k) (fun i => [.d (.one (.int .i64 (cmpTL i.1 i.2)))]) (fun _ => [.gone, .gone, .gone])
theorem spCmpF_inj : ∀ i j : (List T) × (List T), (fun (i : (List T) × (List T)) => ([.d (.one (.row 5 (encL i.1))), .d (.one (.row 5 (encL i.2))), .d (.one (.fn 22))] : List AV)) i = (fun (i : (List T) × (List T)) => ([.d (.one (.row 5 (encL i.1))), .d (.one (.row 5 (encL i.2))), .d (.one (.fn 22))] : List AV)) j → i = j := by
  rintro ⟨a, b⟩ ⟨a', b'⟩ h
  simp only [Prod.mk.injEq]
  simpa [strs_eq, T.enc_eq, encL_eq, F.enc_eq, encF_eq, Tk.enc_eq, encTk_eq, Gn.enc_eq, ints_eq] using h
theorem spCmpF_md (k:Nat) : (spCmpF k).md = [false, false, false] := rfl
theorem spCmpF_pre (k:Nat) (a : List T) (b : List T) : (spCmpF k).pre [.d (.one (.row 5 (encL a))), .d (.one (.row 5 (encL b))), .d (.one (.fn 22))] = ((lenB 140737488355328 a.length ∧ fitL 140737488355328 a ∧ lenB 140737488355328 b.length ∧ fitL 140737488355328 b) ∧ SizeOf.sizeOf a < k) := Spec.of_pre' spCmpF_inj (a, b)
theorem spCmpF_alts (k:Nat) : (spCmpF k).alts = none := rfl
theorem spCmpF_res (k:Nat) (a : List T) (b : List T) : (spCmpF k).res [.d (.one (.row 5 (encL a))), .d (.one (.row 5 (encL b))), .d (.one (.fn 22))] = [.d (.one (.int .i64 (cmpTL a b)))] := Spec.of_res spCmpF_inj (a, b)
theorem spCmpF_out (k:Nat) (a : List T) (b : List T) : (spCmpF k).out [.d (.one (.row 5 (encL a))), .d (.one (.row 5 (encL b))), .d (.one (.fn 22))] = [.gone, .gone, .gone] := Spec.of_out spCmpF_inj (a, b)
theorem cmpF_sound (k : Nat) (hS : Sound Go.Proofs.Try.prog 22 (spOrdI k)) : Sound Go.Proofs.Try.prog 60 (spCmpF k) := by
  refine sound_fam (GOK.cons call_ValOrderI hS GOK.nil) Go.Proofs.Try.func60 (c := Go.Proofs.Try.f60.body.getD .skip) rfl (n := 39) rfl chk_cmpF rs_cmpF (fun _ => by simp) ?_ ?_
  · exact spCmpF_inj
  · rintro ⟨a, b⟩ ⟨⟨h1, h3, h2, h4⟩, h5⟩
    simp only [lenB] at h1 h2
    simp only at h3 h4 h5
    simp only [x_cmpF, rg, go_sem, seval, encL_len, cmpTL_eq]
    refine pw_loop (ι := Nat) (fun i => a.length - i) (fun i => i ≤ a.length ∧ i ≤ b.length ∧ cmpL cmpT a b = cmpL cmpT (a.drop i) (b.drop i))
      (fun i => ⟨[(0, .q (.c (.row 5 (encL a)))), (1, .q (.c (.row 5 (encL b)))), (2, .q (.c (.fn 22))), (11, .q (.c (.row 5 (encL a)))), (12, .q (.c (.int .i64 a.length))), (13, .q (.c (.int .i64 i)))], [], []⟩) 0 ⟨Nat.zero_le _, Nat.zero_le _, rfl⟩ (Le.refl _) ?_
    rintro i ⟨g1, g2, g3⟩
    by_cases c1 : i < a.length
    · obtain ⟨x, hx, _, mx⟩ := drop_at c1
      have a1 := encL_at hx
      have a3 : ((i : Int) < (a.length : Int)) = True := eq_true (by omega)
      have e1 := size_mem mx
      have f1 := fitL_mem h3 x mx
      have f3 := T.enc_len x
      by_cases c2 : i < b.length
      · obtain ⟨y, hy, _, my⟩ := drop_at c2
        have a2 := encL_at hy
        have f2 := fitL_mem h4 y my
        have f4 := T.enc_len y
        have a4 : ((b.length : Int) ≤ (i : Int)) = False := eq_false (by omega)
        have a5 : ((i : Int) < (b.length : Int)) = True := eq_true (by omega)
        have a6 : ((i : Int) ≥ (b.length : Int)) = False := eq_false (by omega)
        rw [cmpL_drop hx hy] at g3
        simp only [go_sem, seval, rg, a1, a2, a3, a4, a5, a6, f3, f4, encL_len, spOrdI_md, spOrdI_pre, spOrdI_alts, spOrdI_res, spOrdI_out]
        repeat' (first | with_reducible assumption | with_reducible refine And.intro ?_ ?_ | intro _)
        all_goals first | omega | skip
        · rename_i hne
          rw [g3]; unfold thenI; rw [if_neg hne]
        · rename_i hne _
          exact ⟨i + 1, ⟨by omega, by omega, by rw [g3]; unfold thenI; rw [if_pos (Classical.not_not.1 hne)]⟩, by omega, Le.sub (by simp) (by simp) (by simp)⟩
      · have a4 : ((b.length : Int) ≤ (i : Int)) = True := eq_true (by omega)
        have a6 : ((i : Int) ≥ (b.length : Int)) = True := eq_true (by omega)
        rw [cmpL_more c1 c2] at g3
        simp only [go_sem, seval, rg, a1, a3, a4, a6, f3, encL_len, g3]
        repeat' (first | with_reducible assumption | with_reducible refine And.intro ?_ ?_ | intro _)
        all_goals first | omega | skip
    · have a3 : ((i : Int) < (a.length : Int)) = False := eq_false (by omega)
      by_cases c2 : i < b.length
      · have a5 : ((a.length : Int) < (b.length : Int)) = True := eq_true (by omega)
        rw [cmpL_less c1 c2] at g3
        simp only [go_sem, seval, rg, a3, a5, encL_len, g3]
        try repeat' (first | with_reducible assumption | with_reducible refine And.intro ?_ ?_ | intro _)
      · have a5 : ((a.length : Int) < (b.length : Int)) = False := eq_false (by omega)
        rw [cmpL_same c1 c2] at g3
        simp only [go_sem, seval, rg, a3, a5, encL_len, g3]
        try repeat' (first | with_reducible assumption | with_reducible refine And.intro ?_ ?_ | intro _)
theorem ints5l (a b c d e : Int) : [[C.int .i64 a], [C.int .i64 b], [C.int .i64 c], [C.int .i64 d], [C.int .i64 e]] = ints .i64 [a, b, c, d, e] := rfl
theorem ValOrderI_sound (k : Nat) (hS : Sound Go.Proofs.Try.prog 60 (spCmpF k)) : Sound Go.Proofs.Try.prog 22 (spOrdI (k + 1)) := by
  refine sound_fam (GOK.cons (l := [(57, spCmpI), (58, spCmpS), (59, spCmpLS), (60, spCmpF k)]) call_cmpOr cmpOr_sound (GOK.cons call_cmpI cmpI_sound (GOK.cons call_cmpS cmpS_sound (GOK.cons call_cmpLS cmpLS_sound (GOK.cons call_cmpF hS GOK.nil))))) Go.Proofs.Try.func22 (c := Go.Proofs.Try.f22.body.getD .skip) rfl (n := 32) rfl chk_ValOrderI rs_ValOrderI (fun _ => by simp) ?_ ?_
  · exact spOrdI_inj
  · rintro ⟨a, b⟩ ⟨⟨h1, h2⟩, h3⟩
    obtain ⟨ka, na, sa, xs, la⟩ := a
    obtain ⟨kb, nb, sb, ys, lb⟩ := b
    simp only [T.fit, strsFit] at h1 h2
    obtain ⟨_, _, _, ⟨f1, _⟩, f2, f3⟩ := h1
    obtain ⟨_, _, _, ⟨f4, _⟩, f5, f6⟩ := h2
    have e3 : SizeOf.sizeOf la < k := by have e : SizeOf.sizeOf (T.mk ka na sa xs la) < k + 1 := h3
                                         rw [T.mk.sizeOf_spec] at e; omega
    simp only [x_ValOrderI, T.enc, go_sem, seval, rg, ints5l, spCmpI_md, spCmpI_pre, spCmpI_alts, spCmpI_res, spCmpI_out, spCmpS_md, spCmpS_pre, spCmpS_alts, spCmpS_res, spCmpS_out, spCmpLS_md, spCmpLS_pre, spCmpLS_alts, spCmpLS_res, spCmpLS_out, spCmpF_md, spCmpF_pre, spCmpF_alts, spCmpF_res, spCmpF_out, spOr_md, spOr_pre, spOr_alts, spOr_res, spOr_out]
    repeat' (first | with_reducible assumption | with_reducible refine And.intro ?_ ?_ | intro _)
    all_goals first | omega | assumption | skip
    · unfold lenB; omega
    · simp only [cmpT, orI, thenI]
      (repeat' split) <;> simp_all
theorem ordI_all (k : Nat) : Sound Go.Proofs.Try.prog 22 (spOrdI k) := by
  induction k with
  | zero => exact Sound.none
  | succ k ih => exact ValOrderI_sound k (cmpF_sound k ih)
noncomputable def spOrdIV  : Spec := Spec.of (ι := T × T) [false, false] (fun i => [.d (.agg i.1.enc), .d (.agg i.2.enc)]) (fun i => i.1.fit 140737488355328 ∧ i.2.fit 140737488355328) (fun i => [.d (.one (.int .i64 (cmpT i.1 i.2)))]) (fun _ => [.gone, .gone])
theorem spOrdIV_inj : ∀ i j : T × T, (fun (i : T × T) => ([.d (.agg i.1.enc), .d (.agg i.2.enc)] : List AV)) i = (fun (i : T × T) => ([.d (.agg i.1.enc), .d (.agg i.2.enc)] : List AV)) j → i = j := by
  rintro ⟨a, b⟩ ⟨a', b'⟩ h
  simp only [Prod.mk.injEq]
  simpa [strs_eq, T.enc_eq, encL_eq, F.enc_eq, encF_eq, Tk.enc_eq, encTk_eq, Gn.enc_eq, ints_eq] using h
theorem spOrdIV_md  : (spOrdIV).md = [false, false] := rfl
theorem spOrdIV_pre  (a : T) (b : T) : (spOrdIV).pre [.d (.agg a.enc), .d (.agg b.enc)] = (a.fit 140737488355328 ∧ b.fit 140737488355328) := Spec.of_pre' spOrdIV_inj (a, b)
theorem spOrdIV_alts  : (spOrdIV).alts = none := rfl
theorem spOrdIV_res  (a : T) (b : T) : (spOrdIV).res [.d (.agg a.enc), .d (.agg b.enc)] = [.d (.one (.int .i64 (cmpT a b)))] := Spec.of_res spOrdIV_inj (a, b)
theorem spOrdIV_out  (a : T) (b : T) : (spOrdIV).out [.d (.agg a.enc), .d (.agg b.enc)] = [.gone, .gone] := Spec.of_out spOrdIV_inj (a, b)
theorem spOrdIV_all  (a : T) (b : T) (F : List AV → List AV → Prop) : (spOrdIV).all [.d (.agg a.enc), .d (.agg b.enc)] F = F [.d (.one (.int .i64 (cmpT a b)))] [.gone, .gone] := by rw [Spec.all_fn rfl, spOrdIV_res, spOrdIV_out]
theorem spOrdIV_ne  (a : T) (b : T) : (spOrdIV).ne [.d (.agg a.enc), .d (.agg b.enc)] = True := Spec.ne_fn rfl _
theorem ordIV_sound : Sound Go.Proofs.Try.prog 22 spOrdIV := Sound.all (μ := fun i => SizeOf.sizeOf i.1) ordI_all
end Go.Proofs.Pw
/- Rows in order: the program's functions. -/
set_option linter.unusedSimpArgs false
set_option maxRecDepth 20000
namespace Go.Proofs.Pw
set_option linter.unusedSectionVars false
variable [Globs]
def x_CloneV : X := (.seq (.reg [⟨some 2, none, .mv (.k (.z 5))⟩] none [0]) (.seq (.seq (.reg [⟨some 3, none, .mv (.t 0)⟩, ⟨some 4, none, .isn (.t 3)⟩] none [0, 4]) (.cond (.t 4) (.seq (.reg [⟨some 2, none, .mv (.k (.z 5))⟩] none [2]) .ret) .skip)) (.seq (.reg [⟨some 5, none, .bsl 5 []⟩, ⟨some 6, none, .mv (.t 0)⟩, ⟨some 7, none, .app (.t 5) (.t 6) 5 80 []⟩, ⟨some 2, none, .mv (.t 7)⟩] none [2]) .ret)))
theorem chk_CloneV : chkX Go.Proofs.Try.prog 8 (Go.Proofs.Try.f41.body.getD .skip) x_CloneV = true := by kernel_rfl
theorem rs_CloneV : okRs Go.Proofs.Try.prog Go.Proofs.Try.f41.results.toList [.tmp 2] = true := by kernel_rfl
theorem call_CloneV : okCallee Go.Proofs.Try.prog 41 = true := by kernel_rfl
def x_insS : X := (.seq (.reg [⟨some 10, none, .mv (.t 1)⟩, ⟨some 11, none, .bin false .add (.t 10) (.k (.c (.int .i64 1)))⟩, ⟨some 8, none, .mv (.t 11)⟩] none [0, 1, 2, 3, 8]) (.block 0 (.loop (.seq (.seq (.reg [⟨some 12, none, .mv (.t 8)⟩, ⟨some 13, none, .mv (.t 2)⟩, ⟨some 14, none, .bin false .lss (.t 12) (.t 13)⟩] none [0, 1, 2, 3, 8, 14]) (.cond (.t 14) .skip (.exit 0))) (.seq (.block 1 (.seq (.reg [⟨some 17, none, .mv (.t 8)⟩, ⟨some 9, none, .mv (.t 17)⟩] none [0, 1, 2, 3, 8, 9]) (.block 2 (.loop (.seq (.seq (.reg [⟨some 18, none, .mv (.t 9)⟩, ⟨some 19, none, .mv (.t 1)⟩, ⟨some 20, none, .bin false .gtr (.t 18) (.t 19)⟩, ⟨some 21, none, .mv (.t 20)⟩, ⟨some 22, some (21, true), .mv (.t 3)⟩, ⟨some 23, some (21, true), .mv (.t 0)⟩, ⟨some 24, some (21, true), .mv (.t 9)⟩, ⟨some 25, some (21, true), .ia (.t 23) (.t 24) 5⟩, ⟨some 26, some (21, true), .load (.t 25) (some 5)⟩, ⟨some 27, some (21, true), .mv (.t 0)⟩, ⟨some 28, some (21, true), .mv (.t 9)⟩, ⟨some 29, some (21, true), .bin false .sub (.t 28) (.k (.c (.int .i64 1)))⟩, ⟨some 30, some (21, true), .ia (.t 27) (.t 29) 5⟩, ⟨some 31, some (21, true), .load (.t 30) (some 5)⟩, ⟨some 32, some (21, true), .calli (.t 22) [(.t 26), (.t 31)]⟩, ⟨some 33, some (21, true), .bin false .lss (.t 32) (.k (.c (.int .i64 0)))⟩, ⟨some 34, none, .pick (.t 21) (.t 33) (.k (.c (.bool false)))⟩] (some 14) [0, 1, 2, 3, 8, 9, 34]) (.cond (.t 34) .skip (.exit 2))) (.seq (.block 3 (.mix [⟨some 37, none, .mv (.t 0)⟩, ⟨some 38, none, .mv (.t 9)⟩, ⟨some 39, none, .mv (.t 0)⟩, ⟨some 40, none, .mv (.t 9)⟩, ⟨some 41, none, .bin false .sub (.t 40) (.k (.c (.int .i64 1)))⟩, ⟨some 42, none, .mv (.t 0)⟩, ⟨some 43, none, .mv (.t 9)⟩, ⟨some 44, none, .bin false .sub (.t 43) (.k (.c (.int .i64 1)))⟩, ⟨some 45, none, .ia (.t 42) (.t 44) 5⟩, ⟨some 46, none, .load (.t 45) (some 5)⟩, ⟨some 47, none, .mv (.t 0)⟩, ⟨some 48, none, .mv (.t 9)⟩, ⟨some 49, none, .ia (.t 47) (.t 48) 5⟩, ⟨some 50, none, .load (.t 49) (some 5)⟩, ⟨some 51, none, .ia (.t 37) (.t 38) 5⟩, ⟨none, none, .st (.t 51) (.t 46) (some 5)⟩] [⟨some 52, none, .ia (.t 39) (.t 41) 5⟩, ⟨none, none, .st (.t 52) (.t 50) (some 5)⟩] [[], [], [], [], [], [], [], [], [], [], [], [], [], [], [], []] [0, 1, 2, 3, 8, 9])) (.reg [⟨some 35, none, .mv (.t 9)⟩, ⟨some 36, none, .bin false .sub (.t 35) (.k (.c (.int .i64 1)))⟩, ⟨some 9, none, .mv (.t 36)⟩] none [0, 1, 2, 3, 8, 9]))))))) (.reg [⟨some 15, none, .mv (.t 8)⟩, ⟨some 16, none, .bin false .add (.t 15) (.k (.c (.int .i64 1)))⟩, ⟨some 8, none, .mv (.t 16)⟩] none [0, 1, 2, 3, 8]))))))
theorem chk_insS : chkX Go.Proofs.Try.prog 53 (Go.Proofs.Try.f95.body.getD .skip) x_insS = true := by kernel_rfl
theorem rs_insS : okRs Go.Proofs.Try.prog Go.Proofs.Try.f95.results.toList [] = true := by kernel_rfl
theorem call_insS : okCallee Go.Proofs.Try.prog 95 = true := by kernel_rfl
def x_stab : X := (.seq (.reg [⟨some 6, none, .mv (.k (.c (.int .i64 20)))⟩] none [0, 1, 2, 6]) (.seq (.reg [⟨some 10, none, .mv (.t 6)⟩, ⟨some 7, none, .mv (.k (.c (.int .i64 0)))⟩, ⟨some 8, none, .mv (.t 10)⟩] none [0, 1, 2, 6, 7, 8]) (.seq (.block 0 (.loop (.seq (.seq (.reg [⟨some 11, none, .mv (.t 8)⟩, ⟨some 12, none, .mv (.t 1)⟩, ⟨some 13, none, .bin false .leq (.t 11) (.t 12)⟩] none [0, 1, 2, 6, 7, 8, 13]) (.cond (.t 13) .skip (.exit 0))) (.block 1 (.seq (.reg [⟨some 14, none, .mv (.t 0)⟩, ⟨some 15, none, .mv (.t 7)⟩, ⟨some 16, none, .mv (.t 8)⟩, ⟨some 17, none, .mv (.t 2)⟩, ⟨some 18, none, .call 95 [(.t 14), (.t 15), (.t 16), (.t 17)]⟩] none [0, 1, 2, 6, 8]) (.seq (.reg [⟨some 19, none, .mv (.t 8)⟩, ⟨some 7, none, .mv (.t 19)⟩] none [0, 1, 2, 6, 7, 8]) (.reg [⟨some 20, none, .mv (.t 8)⟩, ⟨some 21, none, .mv (.t 6)⟩, ⟨some 22, none, .bin false .add (.t 20) (.t 21)⟩, ⟨some 8, none, .mv (.t 22)⟩] none [0, 1, 2, 6, 7, 8]))))))) (.seq (.reg [⟨some 23, none, .mv (.t 0)⟩, ⟨some 24, none, .mv (.t 7)⟩, ⟨some 25, none, .mv (.t 1)⟩, ⟨some 26, none, .mv (.t 2)⟩, ⟨some 27, none, .call 95 [(.t 23), (.t 24), (.t 25), (.t 26)]⟩] none [0, 1, 2, 6]) (.block 2 (.loop (.seq (.seq (.reg [⟨some 28, none, .mv (.t 6)⟩, ⟨some 29, none, .mv (.t 1)⟩, ⟨some 30, none, .bin false .lss (.t 28) (.t 29)⟩] none [0, 1, 2, 6, 30]) (.cond (.t 30) .skip (.exit 2))) (.block 3 (.seq (.reg [⟨some 31, none, .mv (.t 6)⟩, ⟨some 32, none, .bin false .mul (.k (.c (.int .i64 2))) (.t 31)⟩, ⟨some 7, none, .mv (.k (.c (.int .i64 0)))⟩, ⟨some 8, none, .mv (.t 32)⟩] none [0, 1, 2, 6, 7, 8]) (.seq (.block 4 (.loop (.seq (.seq (.reg [⟨some 33, none, .mv (.t 8)⟩, ⟨some 34, none, .mv (.t 1)⟩, ⟨some 35, none, .bin false .leq (.t 33) (.t 34)⟩] none [0, 1, 2, 6, 7, 8, 35]) (.cond (.t 35) .skip (.exit 4))) (.block 5 (.seq (.reg [⟨some 36, none, .mv (.t 0)⟩, ⟨some 37, none, .mv (.t 7)⟩, ⟨some 38, none, .mv (.t 7)⟩, ⟨some 39, none, .mv (.t 6)⟩, ⟨some 40, none, .bin false .add (.t 38) (.t 39)⟩, ⟨some 41, none, .mv (.t 8)⟩, ⟨some 42, none, .mv (.t 2)⟩, ⟨some 43, none, .call 96 [(.t 36), (.t 37), (.t 40), (.t 41), (.t 42)]⟩] none [0, 1, 2, 6, 8]) (.seq (.reg [⟨some 44, none, .mv (.t 8)⟩, ⟨some 7, none, .mv (.t 44)⟩] none [0, 1, 2, 6, 7, 8]) (.reg [⟨some 45, none, .mv (.t 8)⟩, ⟨some 46, none, .mv (.t 6)⟩, ⟨some 47, none, .bin false .mul (.k (.c (.int .i64 2))) (.t 46)⟩, ⟨some 48, none, .bin false .add (.t 45) (.t 47)⟩, ⟨some 8, none, .mv (.t 48)⟩] none [0, 1, 2, 6, 7, 8]))))))) (.seq (.seq (.reg [⟨some 49, none, .mv (.t 7)⟩, ⟨some 50, none, .mv (.t 6)⟩, ⟨some 51, none, .bin false .add (.t 49) (.t 50)⟩, ⟨some 9, none, .mv (.t 51)⟩] none [0, 1, 2, 6, 7, 9]) (.seq (.reg [⟨some 52, none, .mv (.t 9)⟩, ⟨some 53, none, .mv (.t 1)⟩, ⟨some 54, none, .bin false .lss (.t 52) (.t 53)⟩] none [0, 1, 2, 6, 7, 9, 54]) (.cond (.t 54) (.reg [⟨some 55, none, .mv (.t 0)⟩, ⟨some 56, none, .mv (.t 7)⟩, ⟨some 57, none, .mv (.t 9)⟩, ⟨some 58, none, .mv (.t 1)⟩, ⟨some 59, none, .mv (.t 2)⟩, ⟨some 60, none, .call 96 [(.t 55), (.t 56), (.t 57), (.t 58), (.t 59)]⟩] none [0, 1, 2, 6]) .skip))) (.reg [⟨some 61, none, .mv (.t 6)⟩, ⟨some 62, none, .bin false .mul (.t 61) (.k (.c (.int .i64 2)))⟩, ⟨some 6, none, .mv (.t 62)⟩] none [0, 1, 2, 6]))))))))))))
theorem chk_stab : chkX Go.Proofs.Try.prog 63 (Go.Proofs.Try.f90.body.getD .skip) x_stab = true := by kernel_rfl
theorem rs_stab : okRs Go.Proofs.Try.prog Go.Proofs.Try.f90.results.toList [] = true := by kernel_rfl
theorem call_stab : okCallee Go.Proofs.Try.prog 90 = true := by kernel_rfl
def x_SortSt : X := (.reg [⟨some 4, none, .mv (.t 0)⟩, ⟨some 5, none, .mv (.t 0)⟩, ⟨some 6, none, .len (.t 5) false⟩, ⟨some 7, none, .mv (.t 1)⟩, ⟨some 8, none, .call 90 [(.t 4), (.t 6), (.t 7)]⟩] none [])
theorem chk_SortSt : chkX Go.Proofs.Try.prog 9 (Go.Proofs.Try.f73.body.getD .skip) x_SortSt = true := by kernel_rfl
theorem rs_SortSt : okRs Go.Proofs.Try.prog Go.Proofs.Try.f73.results.toList [] = true := by kernel_rfl
theorem call_SortSt : okCallee Go.Proofs.Try.prog 73 = true := by kernel_rfl
def x_ordered : X := (.seq (.reg [⟨some 2, none, .mv (.k (.z 5))⟩] none [0]) (.seq (.reg [⟨some 4, none, .mv (.t 0)⟩, ⟨some 5, none, .call 41 [(.t 4)]⟩, ⟨some 3, none, .mv (.t 5)⟩] none [3]) (.seq (.reg [⟨some 6, none, .mv (.t 3)⟩, ⟨some 7, none, .call 73 [(.t 6), (.k (.c (.fn 22)))]⟩] none [3]) (.seq (.reg [⟨some 8, none, .mv (.t 3)⟩, ⟨some 2, none, .mv (.t 8)⟩] none [2]) .ret))))
theorem chk_ordered : chkX Go.Proofs.Try.prog 9 (Go.Proofs.Try.f43.body.getD .skip) x_ordered = true := by kernel_rfl
theorem rs_ordered : okRs Go.Proofs.Try.prog Go.Proofs.Try.f43.results.toList [.tmp 2] = true := by kernel_rfl
theorem call_ordered : okCallee Go.Proofs.Try.prog 43 = true := by kernel_rfl
theorem encL_set (l : List T) (i : Nat) (t : T) : (encL l).set i t.enc = encL (l.set i t) := by
  rw [encL_map, encL_map, List.map_set]
theorem encL_nil_iff {l : List T} : (encL l).isEmpty = true ↔ l = [] := by
  cases l <;> simp [encL]
theorem T.enc_drop5 (t : T) : t.enc.drop 5 = [] := List.drop_of_length_le (by rw [T.enc_len]; exact Nat.le_refl _)
noncomputable def spCloneV  : Spec := Spec.of (ι := (List T)) [false] (fun i => [.d (.one (.row 5 (encL i)))]) (fun i => lenB 1000000 i.length) (fun i => [.own 5 (encL i)]) (fun _ => [.gone])
theorem spCloneV_inj : ∀ i j : (List T), (fun (i : (List T)) => ([.d (.one (.row 5 (encL i)))] : List AV)) i = (fun (i : (List T)) => ([.d (.one (.row 5 (encL i)))] : List AV)) j → i = j := by
  intro l l' h
  simpa [strs_eq, T.enc_eq, encL_eq, F.enc_eq, encF_eq, Tk.enc_eq, encTk_eq, Gn.enc_eq, ints_eq] using h
theorem spCloneV_md  : (spCloneV).md = [false] := rfl
theorem spCloneV_pre  (l : List T) : (spCloneV).pre [.d (.one (.row 5 (encL l)))] = (lenB 1000000 l.length) := Spec.of_pre' spCloneV_inj l
theorem spCloneV_alts  : (spCloneV).alts = none := rfl
theorem spCloneV_res  (l : List T) : (spCloneV).res [.d (.one (.row 5 (encL l)))] = [.own 5 (encL l)] := Spec.of_res spCloneV_inj l
theorem spCloneV_out  (l : List T) : (spCloneV).out [.d (.one (.row 5 (encL l)))] = [.gone] := Spec.of_out spCloneV_inj l
theorem CloneV_sound : Sound Go.Proofs.Try.prog 41 spCloneV := by
  refine sound_fam GOK.nil Go.Proofs.Try.func41 (c := Go.Proofs.Try.f41.body.getD .skip) rfl (n := 8) rfl chk_CloneV rs_CloneV (fun _ => by simp) ?_ ?_
  · exact spCloneV_inj
  · intro l h1
    simp only [lenB] at h1
    simp only [x_CloneV, rg, go_sem, seval, encL_len]
    repeat' (first | with_reducible assumption | with_reducible refine And.intro ?_ ?_ | intro _)
    all_goals first | omega | skip
    rename_i h
    rw [encL_nil_iff] at h
    rw [h]; rfl
theorem sort_step {S A B : List T} {x : T} (hS : Srt cmpT S) (hAB : A ++ B = S) (hB : ∀ b ∈ B, cmpT x b ≤ 0) (hA : ∀ a ∈ A, cmpT a x ≤ 0) {l : List T} (hp : S.Perm l) : A ++ x :: B = sortC cmpT (l ++ [x]) := by
  refine sortC_uniq cmpT_is ?_ ?_
  · subst hAB
    rw [Srt, List.pairwise_append] at hS ⊢
    refine ⟨hS.1, List.pairwise_cons.2 ⟨hB, hS.2.1⟩, fun a ha b hb => ?_⟩
    rcases List.mem_cons.1 hb with rfl | hb
    · exact hA a ha
    · exact hS.2.2 a ha b hb
  · subst hAB
    exact List.perm_middle.trans ((List.Perm.cons x hp).trans (List.perm_append_comm (l₁ := [x]) (l₂ := l)))
theorem swap_set {α : Type} (A B D : List α) (x y : α) : ((A ++ [y] ++ x :: B ++ D).set (A.length + 1) y).set A.length x = A ++ x :: (y :: B) ++ D := by
  induction A with
  | nil => simp
  | cons a A ih => simp
noncomputable def spIns  : Spec := Spec.of (ι := (List T) × Int) [true, false, false, false] (fun i => [.own 5 (encL i.1), .d (.one (.int .i64 0)), .d (.one (.int .i64 i.2)), .d (.one (.fn 22))]) (fun i => lenB 1000000 i.1.length ∧ fitL 140737488355328 i.1 ∧ i.2 = i.1.length) (fun _ => []) (fun i => [.own 5 (encL (sortC cmpT i.1)), .gone, .gone, .gone])
theorem spIns_inj : ∀ i j : (List T) × Int, (fun (i : (List T) × Int) => ([.own 5 (encL i.1), .d (.one (.int .i64 0)), .d (.one (.int .i64 i.2)), .d (.one (.fn 22))] : List AV)) i = (fun (i : (List T) × Int) => ([.own 5 (encL i.1), .d (.one (.int .i64 0)), .d (.one (.int .i64 i.2)), .d (.one (.fn 22))] : List AV)) j → i = j := by
  rintro ⟨l, b⟩ ⟨l', b'⟩ h
  simp only [Prod.mk.injEq]
  simpa [strs_eq, T.enc_eq, encL_eq, F.enc_eq, encF_eq, Tk.enc_eq, encTk_eq, Gn.enc_eq, ints_eq] using h
theorem spIns_md  : (spIns).md = [true, false, false, false] := rfl
theorem spIns_pre  (l : List T) (b : Int) : (spIns).pre [.own 5 (encL l), .d (.one (.int .i64 0)), .d (.one (.int .i64 b)), .d (.one (.fn 22))] = (lenB 1000000 l.length ∧ fitL 140737488355328 l ∧ b = l.length) := Spec.of_pre' spIns_inj (l, b)
theorem spIns_alts  : (spIns).alts = none := rfl
theorem spIns_res  (l : List T) (b : Int) : (spIns).res [.own 5 (encL l), .d (.one (.int .i64 0)), .d (.one (.int .i64 b)), .d (.one (.fn 22))] = [] := Spec.of_res spIns_inj (l, b)
theorem spIns_out  (l : List T) (b : Int) : (spIns).out [.own 5 (encL l), .d (.one (.int .i64 0)), .d (.one (.int .i64 b)), .d (.one (.fn 22))] = [.own 5 (encL (sortC cmpT l)), .gone, .gone, .gone] := Spec.of_out spIns_inj (l, b)
set_option maxHeartbeats 2000000 in
theorem insS_sound : Sound Go.Proofs.Try.prog 95 spIns := by
  refine sound_fam (GOK.cons call_ValOrderI ordIV_sound GOK.nil) Go.Proofs.Try.func95 (c := Go.Proofs.Try.f95.body.getD .skip) rfl (n := 53) rfl chk_insS rs_insS (fun _ => by simp) ?_ ?_
  · exact spIns_inj
  · rintro ⟨l, b⟩ ⟨h1, h2, h3⟩
    simp only at h3 h2; subst h3
    simp only [lenB] at h1
    simp only [x_insS, rg, go_sem, seval, Prod.fst]
    repeat' (first | with_reducible assumption | with_reducible refine And.intro ?_ ?_ | intro _)
    all_goals first | omega | skip
    refine pw_loop (ι := Nat) (fun i => l.length - i) (fun i => 1 ≤ i ∧ (i ≤ l.length ∨ i = 1))
      (fun i => ⟨[(0, .q (.own 1000000053)), (1, .q (.c (.int .i64 0))), (2, .q (.c (.int .i64 l.length))), (3, .q (.c (.fn 22))), (8, .q (.c (.int .i64 i)))], [], [(1000000053, 5, encL (sortC cmpT (l.take i) ++ l.drop i))]⟩) 1 ⟨Nat.le_refl _, .inr rfl⟩ ?_ ?_
    · refine Le.of_eq ?_
      cases l with
      | nil => simp [sortC, encL]
      | cons x l => simp [sortC, insC, encL]
    · rintro i ⟨g1, g2⟩
      rcases Nat.lt_or_ge i l.length with hlt | hge
      · obtain ⟨x, hx, hd, hmem⟩ := drop_at hlt
        have b1 : ((i : Int) < (l.length : Int)) = True := eq_true (by omega)
        simp only [rg, go_sem, seval, Prod.fst, b1]
        repeat' (first | with_reducible assumption | with_reducible refine And.intro ?_ ?_ | intro _)
        all_goals first | omega | skip
        refine pw_loop (ι := Nat × List T × List T) (fun z => z.1) (fun z => z.2.1.length = z.1 ∧ z.2.1 ++ z.2.2 = sortC cmpT (l.take i) ∧ ∀ b ∈ z.2.2, cmpT x b ≤ 0)
          (fun z => ⟨[(0, .q (.own 1000000053)), (1, .q (.c (.int .i64 0))), (2, .q (.c (.int .i64 l.length))), (3, .q (.c (.fn 22))), (8, .q (.c (.int .i64 i))), (9, .q (.c (.int .i64 z.1)))], [], [(1000000053, 5, encL (z.2.1 ++ x :: z.2.2 ++ l.drop (i + 1)))]⟩) (i, sortC cmpT (l.take i), []) ⟨?_, by simp, by simp⟩ ?_ ?_
        · rw [(sortC_perm cmpT_is _).length_eq]; simp; omega
        · exact Le.of_eq (by rw [hd]; simp)
        · rintro ⟨j, A, B⟩ ⟨c1, c2, c3⟩
          simp only at c1 c2 c3
          cases j with
          | zero =>
            have hA := List.eq_nil_of_length_eq_zero c1
            subst hA
            have b2 : (((0 : Nat) : Int) > 0) = False := eq_false (by omega)
            have b3 : (((0 : Nat) : Int) - 1).toNat = 0 := by omega
            have b4 : (x :: (B ++ l.drop (i + 1)))[0]? = some x := by simp
            have a4 := encL_at b4
            have f0 := T.enc_len x
            have f2 := fitL_mem h2 x hmem
            simp only [rg, go_sem, seval, Prod.fst, b2, b3, a4, f0, encL_len, spOrdIV_md, spOrdIV_pre, spOrdIV_alts, spOrdIV_res, spOrdIV_out, spOrdIV_md, spOrdIV_pre, spOrdIV_ne, ↓spOrdIV_all, spOrdIV_all]
            have e : sortC cmpT (l.take (i + 1)) = x :: B := by
              rw [List.take_add_one, hx]
              exact (sort_step (A := []) (sortC_srt cmpT_is _) c2 c3 (by simp) (sortC_perm cmpT_is _)).symm
            refine ⟨by omega, fun _ => ⟨i + 1, ⟨by omega, .inl (by omega)⟩, by omega, Le.of_eq ?_⟩⟩
            simp [e]
          | succ j =>
            obtain ⟨A, y, rfl⟩ : ∃ A' y, A = A' ++ [y] := ⟨A.dropLast, A.getLast (by intro e; rw [e] at c1; simp at c1), (List.dropLast_concat_getLast _).symm⟩
            have c4 : A.length = j := by simp at c1; omega
            have hm : ∀ t ∈ A ++ [y] ++ x :: B ++ l.drop (i + 1), t ∈ l := fun t ht => by
              simp only [List.append_assoc, List.cons_append, List.nil_append, List.mem_append, List.mem_cons] at ht
              have c5 : ∀ t ∈ A ++ [y] ++ B, t ∈ l := fun t ht => by
                rw [c2] at ht
                exact List.mem_of_mem_take ((sortC_perm cmpT_is _).mem_iff.1 ht)
              simp only [List.append_assoc, List.cons_append, List.nil_append, List.mem_append, List.mem_cons] at c5
              rcases ht with ht | rfl | rfl | ht | ht
              · exact c5 t (.inl ht)
              · exact c5 _ (.inr (.inl rfl))
              · exact hmem
              · exact c5 t (.inr (.inr ht))
              · exact List.mem_of_mem_drop ht
            have f0 := T.enc_len x
            have f1 := T.enc_len y
            have b2 : (((j + 1 : Nat) : Int) > 0) = True := eq_true (by omega)
            have b3 : (((j + 1 : Nat) : Int) - 1).toNat = j := by omega
            have b4 : (A ++ [y] ++ x :: B ++ l.drop (i + 1))[j + 1]? = some x := by
              rw [List.append_assoc, List.getElem?_append_right (by simp; omega)]; simp [c4]
            have b5 : (A ++ [y] ++ x :: B ++ l.drop (i + 1))[j]? = some y := by
              rw [List.append_assoc, List.append_assoc, List.getElem?_append_right (by omega)]; simp [c4]
            have a4 := encL_at b4
            have a5 := encL_at b5
            have b6 : ((A ++ [y] ++ x :: B ++ l.drop (i + 1)).set (j + 1) y)[j]? = some y := by rw [List.getElem?_set_ne (by omega)]; exact b5
            have a6 := encL_at b6
            have f2 := fitL_mem h2 x hmem
            have f3 := fitL_mem h2 y (hm y (by simp))
            have hj : j + 1 ≤ i := by
              have := (sortC_perm cmpT_is (l.take i)).length_eq
              rw [← c2] at this
              simp at this; omega
            have hlen : (A ++ [y] ++ x :: B ++ l.drop (i + 1)).length = l.length := by
              have := (sortC_perm cmpT_is (l.take i)).length_eq
              rw [← c2] at this
              simp at this ⊢; omega
            simp only [rg, go_sem, seval, Prod.fst, b2, b3, a4, a5, a6, f0, f1, encL_set, T.enc_drop5, encL_len, hlen, List.length_set, spOrdIV_md, spOrdIV_pre, spOrdIV_alts, spOrdIV_res, spOrdIV_out, spOrdIV_md, spOrdIV_pre, spOrdIV_ne, ↓spOrdIV_all, spOrdIV_all]
            repeat' (first | with_reducible assumption | with_reducible refine And.intro ?_ ?_ | intro _)
            all_goals first | omega | skip
            · refine ⟨(j, A, y :: B), ⟨c4, by rw [← c2]; simp, ?_⟩, by show j < j + 1; omega, Le.of_eq ?_⟩
              · intro b hb
                rcases List.mem_cons.1 hb with rfl | hb
                · omega
                · exact c3 b hb
              · have e := swap_set A B (l.drop (i + 1)) x y
                rw [c4] at e
                simp only [e]
                simp
            · have e : sortC cmpT (l.take (i + 1)) = (A ++ [y]) ++ x :: B := by
                rw [List.take_add_one, hx]
                refine (sort_step (sortC_srt cmpT_is _) c2 c3 (fun a ha => ?_) (sortC_perm cmpT_is _)).symm
                have hy : cmpT y x ≤ 0 := by have := cmpT_is.anti x y; omega
                have hs : Srt cmpT (A ++ [y] ++ B) := by rw [c2]; exact sortC_srt cmpT_is _
                rw [Srt, List.pairwise_append, List.pairwise_append] at hs
                rcases List.mem_append.1 ha with ha | ha
                · exact cmpT_is.le_trans (hs.1.2.2 a ha y (by simp)) hy
                · simp at ha; subst ha; exact hy
              refine ⟨i + 1, ⟨by omega, .inl (by omega)⟩, by omega, Le.of_eq ?_⟩
              simp [e]
      · have b1 : ((i : Int) < (l.length : Int)) = False := eq_false (by omega)
        have e : sortC cmpT (l.take i) ++ l.drop i = sortC cmpT l := by
          rw [List.take_of_length_le hge, List.drop_of_length_le hge, List.append_nil]
        simp only [rg, go_sem, seval, Prod.fst, b1, e]

end Go.Proofs.Pw
/- Rows in order: the stable sort of short rows; the specification's. -/
set_option linter.unusedSimpArgs false
set_option maxRecDepth 20000
namespace Go.Proofs.Pw
set_option linter.unusedSectionVars false
variable [Globs]
def x_l4Put : X := (.gh (.seq (.reg [⟨some 3, none, .box (.t 1) (some 5)⟩, ⟨some 4, none, .mv (.k (.z 5))⟩] none [0, 3]) (.seq (.reg [⟨some 5, none, .mv (.k (.c (.int .i64 0)))⟩] none [0, 3, 5]) (.seq (.block 0 (.loop (.seq (.seq (.reg [⟨some 7, none, .mv (.t 5)⟩, ⟨some 8, none, .mv (.t 0)⟩, ⟨some 9, none, .len (.t 8) false⟩, ⟨some 10, none, .bin false .lss (.t 7) (.t 9)⟩, ⟨some 11, none, .mv (.t 10)⟩, ⟨some 12, some (11, true), .mv (.t 0)⟩, ⟨some 13, some (11, true), .mv (.t 5)⟩, ⟨some 14, some (11, true), .ia (.t 12) (.t 13) 5⟩, ⟨some 15, some (11, true), .load (.t 14) (some 5)⟩, ⟨some 16, some (11, true), .load (.t 3) (some 5)⟩, ⟨some 17, some (11, true), .call 97 [(.t 15), (.t 16)]⟩, ⟨some 18, some (11, true), .bin false .leq (.t 17) (.k (.c (.int .i64 0)))⟩, ⟨some 19, none, .pick (.t 11) (.t 18) (.k (.c (.bool false)))⟩] (some 10) [0, 3, 5, 19]) (.cond (.t 19) .skip (.exit 0))) (.block 1 (.reg [⟨some 20, none, .mv (.t 5)⟩, ⟨some 21, none, .bin false .add (.t 20) (.k (.c (.int .i64 1)))⟩, ⟨some 5, none, .mv (.t 21)⟩] none [0, 3, 5]))))) (.seq (.reg [⟨some 22, none, .bsl 5 []⟩, ⟨some 23, none, .mv (.t 0)⟩, ⟨some 24, none, .mv (.t 5)⟩, ⟨some 25, none, .sub (.t 23) (some (.t 24)) none 5⟩, ⟨some 26, none, .app (.t 22) (.t 25) 5 80 []⟩, ⟨some 6, none, .mv (.t 26)⟩] none [0, 3, 5, 6]) (.seq (.mix [⟨some 27, none, .mv (.t 0)⟩, ⟨some 28, none, .mv (.t 5)⟩, ⟨some 29, none, .sub (.t 27) none (some (.t 28)) 5⟩, ⟨some 30, none, .load (.t 3) (some 5)⟩, ⟨some 31, none, .bsl 5 [((.t 30), (some 5))]⟩, ⟨some 32, none, .app (.t 29) (.t 31) 5 80 [29, 27, 0]⟩, ⟨some 33, none, .mv (.t 6)⟩] [⟨some 34, none, .app (.t 32) (.t 33) 5 80 []⟩, ⟨some 4, none, .mv (.t 34)⟩] [[], [], [], [], [], [], [5]] [4]) (.gh .ret)))))))
theorem chk_l4Put : chkX Go.Proofs.Try.prog 35 (Go.Proofs.Try.f91.body.getD .skip) x_l4Put = true := by kernel_rfl
theorem rs_l4Put : okRs Go.Proofs.Try.prog Go.Proofs.Try.f91.results.toList [.tmp 4] = true := by kernel_rfl
theorem call_l4Put : okCallee Go.Proofs.Try.prog 91 = true := by kernel_rfl
def x_l4Sort : X := (.seq (.reg [⟨some 2, none, .mv (.k (.z 5))⟩] none [0]) (.seq (.reg [⟨some 5, none, .bsl 5 []⟩, ⟨some 3, none, .mv (.t 5)⟩] none [0, 3]) (.seq (.seq (.reg [⟨some 4, none, .mv (.k (.c (.int .i64 0)))⟩] none [0, 3, 4]) (.block 0 (.loop (.seq (.seq (.reg [⟨some 6, none, .mv (.t 4)⟩, ⟨some 7, none, .mv (.t 0)⟩, ⟨some 8, none, .len (.t 7) false⟩, ⟨some 9, none, .bin false .lss (.t 6) (.t 8)⟩] none [0, 3, 4, 9]) (.cond (.t 9) .skip (.exit 0))) (.seq (.block 1 (.reg [⟨some 12, none, .mv (.t 3)⟩, ⟨some 13, none, .mv (.t 0)⟩, ⟨some 14, none, .mv (.t 4)⟩, ⟨some 15, none, .ia (.t 13) (.t 14) 5⟩, ⟨some 16, none, .load (.t 15) (some 5)⟩, ⟨some 17, none, .call 91 [(.t 12), (.t 16)]⟩, ⟨some 3, none, .mv (.t 17)⟩] none [0, 3, 4])) (.reg [⟨some 10, none, .mv (.t 4)⟩, ⟨some 11, none, .bin false .add (.t 10) (.k (.c (.int .i64 1)))⟩, ⟨some 4, none, .mv (.t 11)⟩] none [0, 3, 4])))))) (.seq (.reg [⟨some 18, none, .mv (.t 3)⟩, ⟨some 2, none, .mv (.t 18)⟩] none [2]) .ret))))
theorem chk_l4Sort : chkX Go.Proofs.Try.prog 19 (Go.Proofs.Try.f77.body.getD .skip) x_l4Sort = true := by kernel_rfl
theorem rs_l4Sort : okRs Go.Proofs.Try.prog Go.Proofs.Try.f77.results.toList [.tmp 2] = true := by kernel_rfl
theorem call_l4Sort : okCallee Go.Proofs.Try.prog 77 = true := by kernel_rfl
noncomputable def spStab  : Spec := Spec.of (ι := (List T) × Int) [true, false, false] (fun i => [.own 5 (encL i.1), .d (.one (.int .i64 i.2)), .d (.one (.fn 22))]) (fun i => i.1.length < 20 ∧ fitL 140737488355328 i.1 ∧ i.2 = i.1.length) (fun _ => []) (fun i => [.own 5 (encL (sortC cmpT i.1)), .gone, .gone])
theorem spStab_inj : ∀ i j : (List T) × Int, (fun (i : (List T) × Int) => ([.own 5 (encL i.1), .d (.one (.int .i64 i.2)), .d (.one (.fn 22))] : List AV)) i = (fun (i : (List T) × Int) => ([.own 5 (encL i.1), .d (.one (.int .i64 i.2)), .d (.one (.fn 22))] : List AV)) j → i = j := by
  rintro ⟨l, b⟩ ⟨l', b'⟩ h
  simp only [Prod.mk.injEq]
  simpa [strs_eq, T.enc_eq, encL_eq, F.enc_eq, encF_eq, Tk.enc_eq, encTk_eq, Gn.enc_eq, ints_eq] using h
theorem spStab_md  : (spStab).md = [true, false, false] := rfl
theorem spStab_pre  (l : List T) (b : Int) : (spStab).pre [.own 5 (encL l), .d (.one (.int .i64 b)), .d (.one (.fn 22))] = (l.length < 20 ∧ fitL 140737488355328 l ∧ b = l.length) := Spec.of_pre' spStab_inj (l, b)
theorem spStab_alts  : (spStab).alts = none := rfl
theorem spStab_res  (l : List T) (b : Int) : (spStab).res [.own 5 (encL l), .d (.one (.int .i64 b)), .d (.one (.fn 22))] = [] := Spec.of_res spStab_inj (l, b)
theorem spStab_out  (l : List T) (b : Int) : (spStab).out [.own 5 (encL l), .d (.one (.int .i64 b)), .d (.one (.fn 22))] = [.own 5 (encL (sortC cmpT l)), .gone, .gone] := Spec.of_out spStab_inj (l, b)
theorem stab_sound : Sound Go.Proofs.Try.prog 90 spStab := by
  refine sound_fam (GOK.cons call_insS insS_sound GOK.nil) Go.Proofs.Try.func90 (c := Go.Proofs.Try.f90.body.getD .skip) rfl (n := 63) rfl chk_stab rs_stab (fun _ => by simp) ?_ ?_
  · exact spStab_inj
  · rintro ⟨l, b⟩ ⟨h1, h2, h3⟩
    simp only at h3 h2 h1; subst h3
    have b1 : ((20 : Int) ≤ (l.length : Int)) = False := eq_false (by omega)
    have b2 : ((20 : Int) < (l.length : Int)) = False := eq_false (by omega)
    simp only [x_stab, rg, go_sem, seval]
    refine pw_loop (ι := Unit) (fun _ => 0) (fun _ => True)
      (fun _ => ⟨[(0, .q (.own 1000000063)), (1, .q (.c (.int .i64 l.length))), (2, .q (.c (.fn 22))), (6, .q (.c (.int .i64 20))), (7, .q (.c (.int .i64 0))), (8, .q (.c (.int .i64 20)))], [], [(1000000063, 5, encL l)]⟩) () trivial (Le.refl _) ?_
    intro _ _
    simp only [rg, go_sem, seval, b1, spIns_md, spIns_pre, spIns_alts, spIns_res, spIns_out]
    repeat' (first | with_reducible assumption | with_reducible refine And.intro ?_ ?_ | intro _)
    all_goals first | omega | skip
    · unfold lenB; omega
    · refine pw_loop (ι := Unit) (fun _ => 0) (fun _ => True)
        (fun _ => ⟨[(0, .q (.own 1000000063)), (1, .q (.c (.int .i64 l.length))), (2, .q (.c (.fn 22))), (6, .q (.c (.int .i64 20)))], [], [(1000000063, 5, encL (sortC cmpT l))]⟩) () trivial (Le.refl _) ?_
      intro _ _
      simp only [rg, go_sem, seval, b2]
noncomputable def spSortSt  : Spec := Spec.of (ι := (List T)) [true, false] (fun i => [.own 5 (encL i), .d (.one (.fn 22))]) (fun i => i.length < 20 ∧ fitL 140737488355328 i) (fun _ => []) (fun i => [.own 5 (encL (sortC cmpT i)), .gone])
theorem spSortSt_inj : ∀ i j : (List T), (fun (i : (List T)) => ([.own 5 (encL i), .d (.one (.fn 22))] : List AV)) i = (fun (i : (List T)) => ([.own 5 (encL i), .d (.one (.fn 22))] : List AV)) j → i = j := by
  intro l l' h
  simpa [strs_eq, T.enc_eq, encL_eq, F.enc_eq, encF_eq, Tk.enc_eq, encTk_eq, Gn.enc_eq, ints_eq] using h
theorem spSortSt_md  : (spSortSt).md = [true, false] := rfl
theorem spSortSt_pre  (l : List T) : (spSortSt).pre [.own 5 (encL l), .d (.one (.fn 22))] = (l.length < 20 ∧ fitL 140737488355328 l) := Spec.of_pre' spSortSt_inj l
theorem spSortSt_alts  : (spSortSt).alts = none := rfl
theorem spSortSt_res  (l : List T) : (spSortSt).res [.own 5 (encL l), .d (.one (.fn 22))] = [] := Spec.of_res spSortSt_inj l
theorem spSortSt_out  (l : List T) : (spSortSt).out [.own 5 (encL l), .d (.one (.fn 22))] = [.own 5 (encL (sortC cmpT l)), .gone] := Spec.of_out spSortSt_inj l
theorem SortSt_sound : Sound Go.Proofs.Try.prog 73 spSortSt := by
  refine sound_fam (GOK.cons call_stab stab_sound GOK.nil) Go.Proofs.Try.func73 (c := Go.Proofs.Try.f73.body.getD .skip) rfl (n := 9) rfl chk_SortSt rs_SortSt (fun _ => by simp) ?_ ?_
  · exact spSortSt_inj
  · rintro l ⟨h1, h2⟩
    simp only [x_SortSt, rg, go_sem, seval, encL_len, spStab_md, spStab_pre, spStab_alts, spStab_res, spStab_out]
    repeat' (first | with_reducible assumption | with_reducible refine And.intro ?_ ?_ | intro _)
    all_goals first | omega | skip
noncomputable def spOrdered  : Spec := Spec.of (ι := (List T)) [false] (fun i => [.d (.one (.row 5 (encL i)))]) (fun i => i.length < 20 ∧ fitL 140737488355328 i) (fun i => [.own 5 (encL (sortC cmpT i))]) (fun _ => [.gone])
theorem spOrdered_inj : ∀ i j : (List T), (fun (i : (List T)) => ([.d (.one (.row 5 (encL i)))] : List AV)) i = (fun (i : (List T)) => ([.d (.one (.row 5 (encL i)))] : List AV)) j → i = j := by
  intro l l' h
  simpa [strs_eq, T.enc_eq, encL_eq, F.enc_eq, encF_eq, Tk.enc_eq, encTk_eq, Gn.enc_eq, ints_eq] using h
theorem spOrdered_md  : (spOrdered).md = [false] := rfl
theorem spOrdered_pre  (l : List T) : (spOrdered).pre [.d (.one (.row 5 (encL l)))] = (l.length < 20 ∧ fitL 140737488355328 l) := Spec.of_pre' spOrdered_inj l
theorem spOrdered_alts  : (spOrdered).alts = none := rfl
theorem spOrdered_res  (l : List T) : (spOrdered).res [.d (.one (.row 5 (encL l)))] = [.own 5 (encL (sortC cmpT l))] := Spec.of_res spOrdered_inj l
theorem spOrdered_out  (l : List T) : (spOrdered).out [.d (.one (.row 5 (encL l)))] = [.gone] := Spec.of_out spOrdered_inj l
theorem ordered_sound : Sound Go.Proofs.Try.prog 43 spOrdered := by
  refine sound_fam (GOK.cons (l := [(73, spSortSt)]) call_CloneV CloneV_sound (GOK.cons call_SortSt SortSt_sound GOK.nil)) Go.Proofs.Try.func43 (c := Go.Proofs.Try.f43.body.getD .skip) rfl (n := 9) rfl chk_ordered rs_ordered (fun _ => by simp) ?_ ?_
  · exact spOrdered_inj
  · rintro l ⟨h1, h2⟩
    simp only [x_ordered, rg, go_sem, seval, encL_len, spCloneV_md, spCloneV_pre, spCloneV_alts, spCloneV_res, spCloneV_out, spSortSt_md, spSortSt_pre, spSortSt_alts, spSortSt_res, spSortSt_out]
    repeat' (first | with_reducible assumption | with_reducible refine And.intro ?_ ?_ | intro _)
    all_goals first | omega | skip
    · unfold lenB; omega
noncomputable def spOrdD : Spec := Spec.of (ι := Option T × T) [false, false] (fun i => match i.1 with | some a => [.d (.agg a.enc), .d (.agg i.2.enc)] | none => [.d (.agg []), .d (.agg i.2.enc)]) (fun i => match i.1 with | some a => a.fit 140737488355328 ∧ i.2.fit 140737488355328 | none => False) (fun i => match i.1 with | some a => [.d (.one (.int .i64 (cmpT a i.2)))] | none => [.d (.one (.int .i64 0))]) (fun _ => [.gone, .gone])
theorem spOrdD_inj : ∀ i j : Option T × T, (fun i : Option T × T => (match i.1 with | some a => [.d (.agg a.enc), .d (.agg i.2.enc)] | none => [.d (.agg []), .d (.agg i.2.enc)] : List AV)) i = (fun i : Option T × T => (match i.1 with | some a => [.d (.agg a.enc), .d (.agg i.2.enc)] | none => [.d (.agg []), .d (.agg i.2.enc)] : List AV)) j → i = j := by
  rintro ⟨a, b⟩ ⟨a', b'⟩ h
  cases a <;> cases a' <;> simp [T.enc_eq] at h ⊢
  · exact h
  · rename_i t; have := T.enc_len t; rw [h.1] at this; simp at this
  · rename_i t; have := T.enc_len t; rw [h.1] at this; simp at this
  · exact h
theorem spOrdD_md : spOrdD.md = [false, false] := rfl
theorem spOrdD_alts : spOrdD.alts = none := rfl
theorem spOrdD_pre (a b : T) : spOrdD.pre [.d (.agg a.enc), .d (.agg b.enc)] = (a.fit 140737488355328 ∧ b.fit 140737488355328) := Spec.of_pre' spOrdD_inj (some a, b)
theorem spOrdD_res (a b : T) : spOrdD.res [.d (.agg a.enc), .d (.agg b.enc)] = [.d (.one (.int .i64 (cmpT a b)))] := Spec.of_res spOrdD_inj (some a, b)
theorem spOrdD_out (a b : T) : spOrdD.out [.d (.agg a.enc), .d (.agg b.enc)] = [.gone, .gone] := Spec.of_out spOrdD_inj (some a, b)
theorem spOrdD_pre0 (b : T) : spOrdD.pre [.d (.agg []), .d (.agg b.enc)] = False := Spec.of_pre' spOrdD_inj (none, b)
theorem spOrdD_res0 (b : T) : spOrdD.res [.d (.agg []), .d (.agg b.enc)] = [.d (.one (.int .i64 0))] := Spec.of_res spOrdD_inj (none, b)
theorem spOrdD_out0 (b : T) : spOrdD.out [.d (.agg []), .d (.agg b.enc)] = [.gone, .gone] := Spec.of_out spOrdD_inj (none, b)
theorem ordD_sound : Sound Go.Proofs.Try.prog 97 spOrdD := by
  rintro _ ⟨⟨a, b⟩, rfl, hi⟩
  cases a with
  | none => exact hi.elim
  | some a =>
    intro w S vs fps h1 h2 h3 h4 h5
    have := ordV_sound [.d (.agg a.enc), .d (.agg b.enc)] (by rw [spOrdV_pre]; exact hi) w S vs fps h1 h2 h3 h4 h5
    refine this.mono ?_
    rintro e w' ⟨r, o, hro, h⟩
    refine ⟨r, o, ?_, h⟩
    rw [Spec.may_none rfl] at hro ⊢
    rw [spOrdV_res, spOrdV_out] at hro
    show r = spOrdD.res [.d (.agg a.enc), .d (.agg b.enc)] ∧ o = spOrdD.out [.d (.agg a.enc), .d (.agg b.enc)]
    rw [spOrdD_res, spOrdD_out]
    exact hro
theorem encL_dropL (l : List T) (k : Nat) : (encL l).drop k = encL (l.drop k) := by rw [encL_map, encL_map, List.map_drop]
theorem encL_takeL (l : List T) (k : Nat) : (encL l).take k = encL (l.take k) := by rw [encL_map, encL_map, List.map_take]
theorem encL_appL (a b : List T) : encL a ++ encL b = encL (a ++ b) := (encL_app a b).symm
theorem encL_one (t : T) : [t.enc] = encL [t] := by simp [encL]
theorem insC_drop {v : T} {l : List T} {k : Nat} {x : T} (h : l[k]? = some x) (hle : cmpT x v ≤ 0) : l.take k ++ insC cmpT v (l.drop k) = l.take (k + 1) ++ insC cmpT v (l.drop (k + 1)) := by
  have hlt := (List.getElem?_eq_some_iff.1 h).1
  have e : l.drop k = x :: l.drop (k + 1) := by
    rw [List.drop_eq_getElem_cons hlt]; congr 1; exact (List.getElem?_eq_some_iff.1 h).2
  rw [e]
  simp only [insC]
  rw [if_pos hle, List.take_add_one, h]; simp
theorem insC_stop {v : T} {l : List T} {k : Nat} {x : T} (h : l[k]? = some x) (hle : ¬ cmpT x v ≤ 0) : insC cmpT v (l.drop k) = v :: l.drop k := by
  have hlt := (List.getElem?_eq_some_iff.1 h).1
  have e : l.drop k = x :: l.drop (k + 1) := by
    rw [List.drop_eq_getElem_cons hlt]; congr 1; exact (List.getElem?_eq_some_iff.1 h).2
  rw [e]
  simp only [insC]
  rw [if_neg hle]
noncomputable def spL4Put  : Spec := Spec.of (ι := (List T) × T) [true, false] (fun i => [.own 5 (encL i.1), .d (.agg i.2.enc)]) (fun i => lenB 1000000 i.1.length ∧ fitL 140737488355328 i.1 ∧ i.2.fit 140737488355328) (fun i => [.own 5 (encL (insC cmpT i.2 i.1))]) (fun _ => [.gone, .gone])
theorem spL4Put_inj : ∀ i j : (List T) × T, (fun (i : (List T) × T) => ([.own 5 (encL i.1), .d (.agg i.2.enc)] : List AV)) i = (fun (i : (List T) × T) => ([.own 5 (encL i.1), .d (.agg i.2.enc)] : List AV)) j → i = j := by
  rintro ⟨l, v⟩ ⟨l', v'⟩ h
  simp only [Prod.mk.injEq]
  simpa [strs_eq, T.enc_eq, encL_eq, F.enc_eq, encF_eq, Tk.enc_eq, encTk_eq, Gn.enc_eq, ints_eq] using h
theorem spL4Put_md  : (spL4Put).md = [true, false] := rfl
theorem spL4Put_pre  (l : List T) (v : T) : (spL4Put).pre [.own 5 (encL l), .d (.agg v.enc)] = (lenB 1000000 l.length ∧ fitL 140737488355328 l ∧ v.fit 140737488355328) := Spec.of_pre' spL4Put_inj (l, v)
theorem spL4Put_alts  : (spL4Put).alts = none := rfl
theorem spL4Put_res  (l : List T) (v : T) : (spL4Put).res [.own 5 (encL l), .d (.agg v.enc)] = [.own 5 (encL (insC cmpT v l))] := Spec.of_res spL4Put_inj (l, v)
theorem spL4Put_out  (l : List T) (v : T) : (spL4Put).out [.own 5 (encL l), .d (.agg v.enc)] = [.gone, .gone] := Spec.of_out spL4Put_inj (l, v)
set_option maxHeartbeats 2000000 in
theorem l4Put_sound : Sound Go.Proofs.Try.prog 91 spL4Put := by
  refine sound_fam (GOK.cons call_ValOrder ordD_sound GOK.nil) Go.Proofs.Try.func91 (c := Go.Proofs.Try.f91.body.getD .skip) rfl (n := 35) rfl chk_l4Put rs_l4Put (fun _ => by simp) ?_ ?_
  · exact spL4Put_inj
  · rintro ⟨l, v⟩ ⟨h1, h2, h3⟩
    simp only [lenB] at h1 h2 h3
    have f1 := T.enc_len v
    simp only [x_l4Put]
    refine gh_le (Le.move (t := 0) (r := 1000000035) (d := 77) (sz := 5) (es := encL l) rfl rfl (by decide)) ?_
    simp only [rg, go_sem, seval, Prod.fst, f1]
    refine pw_loop (ι := Nat) (fun k => l.length - k) (fun k => k ≤ l.length ∧ insC cmpT v l = l.take k ++ insC cmpT v (l.drop k))
      (fun k => ⟨[(0, .q (.own 77)), (3, .q (.box 3 0)), (5, .q (.c (.int .i64 k)))], [(3, v.enc.map .c)], [(77, 5, encL l)]⟩) 0 ⟨Nat.zero_le _, rfl⟩ ?_ ?_
    · exact Le.refl _
    · rintro k ⟨g1, g2⟩
      rcases Nat.lt_or_ge k l.length with hlt | hge
      · obtain ⟨x, hx, hd, hmem⟩ := drop_at hlt
        have b1 : ((k : Int) < (l.length : Int)) = True := eq_true (by omega)
        have a1 := encL_at hx
        have f2 := T.enc_len x
        have f3 := fitL_mem h2 x hmem
        have e1 : k + (l.length - k) = l.length := by omega
        have e2 : (k + 1 ≤ l.length) = True := eq_true (by omega)
        have e3 : l.take l.length = l := List.take_length
        have e4 : (k + 1 + (l.length - k) ≤ min k l.length + 1 + (l.length - (k + 1))) = False := eq_false (by omega)
        have e5 : (k + 1 ≤ min k l.length + 1 + (l.length - (k + 1))) = True := eq_true (by omega)
        simp only [rg, go_sem, seval, Prod.fst, b1, e1, e2, e3, e4, e5, a1, f1, f2, encL_len, encL_dropL, encL_takeL, encL_appL, encL_one, Int.toNat_zero, Nat.sub_zero, Nat.zero_add, List.isEmpty_cons, Bool.false_eq_true, List.mem_cons, List.not_mem_nil, List.length_drop, List.length_append, List.length_take, spOrdD_md, spOrdD_alts, spOrdD_pre, spOrdD_res, spOrdD_out]
        repeat' (first | with_reducible assumption | with_reducible refine And.intro ?_ ?_ | intro _)
        all_goals first | omega | skip
        · exact ⟨k + 1, ⟨by omega, by rw [g2, insC_drop hx (by assumption)]⟩, by omega, Le.refl _⟩
        · have e6 : (l.take k ++ [v] ++ l.drop (k + 1)).take (k + 1) = l.take k ++ [v] := List.take_left' (by simp; omega)
          have e7 : insC cmpT v l = l.take k ++ [v] ++ l.drop k := by rw [g2, insC_stop hx (by assumption)]; simp
          refine gh_skip ?_
          simp only [rg, go_sem, seval, e6, e7, encL_appL]
      · obtain rfl : k = l.length := by omega
        have b1 : ((l.length : Int) < (l.length : Int)) = False := eq_false (by omega)
        have a1 : (encL l).getD l.length [] = [] := by simp [List.getD, List.getElem?_eq_none (show (encL l).length ≤ l.length by rw [encL_len]; exact hge)]
        have e1 : l.length + (l.length - l.length) = l.length := by omega
        have e2 : (l.length + 1 ≤ l.length) = False := eq_false (by omega)
        have e3 : l.take l.length = l := List.take_length
        have e4 : l.drop l.length = [] := List.drop_length
        simp only [rg, go_sem, seval, Prod.fst, b1, a1, e1, e2, e3, e4, f1, encL_len, encL_dropL, encL_takeL, encL_appL, encL_one, Int.toNat_zero, Nat.sub_zero, Nat.zero_add, List.isEmpty_cons, Bool.false_eq_true, List.mem_cons, List.not_mem_nil, List.length_drop, List.length_append, List.length_take, spOrdD_md, spOrdD_alts, spOrdD_pre0, spOrdD_res0, spOrdD_out0]
        repeat' (first | with_reducible assumption | with_reducible refine And.intro ?_ ?_ | intro _)
        all_goals first | omega | skip
        have e7 : insC cmpT v l = l ++ [v] := by rw [g2, e3, e4]; rfl
        refine gh_skip ?_
        simp only [rg, go_sem, seval, e7]
theorem sortC_snoc {α : Type} (f : α → α → Int) (l : List α) (x : α) : sortC f (l ++ [x]) = insC f x (sortC f l) := by simp [sortC]
theorem fitL_of {B : Int} : ∀ {l : List T}, (∀ t ∈ l, t.fit B) → fitL B l
  | [], _ => trivial
  | t :: l, h => ⟨h t (by simp), fitL_of (fun t ht => h t (by simp [ht]))⟩
theorem fitL_perm {B : Int} {a b : List T} (h : fitL B a) (hp : b.Perm a) : fitL B b := fitL_of fun t ht => fitL_mem h t (hp.mem_iff.1 ht)
noncomputable def spL4Sort  : Spec := Spec.of (ι := (List T)) [false] (fun i => [.d (.one (.row 5 (encL i)))]) (fun i => lenB 1000000 i.length ∧ fitL 140737488355328 i) (fun i => [.own 5 (encL (sortC cmpT i))]) (fun _ => [.gone])
theorem spL4Sort_inj : ∀ i j : (List T), (fun (i : (List T)) => ([.d (.one (.row 5 (encL i)))] : List AV)) i = (fun (i : (List T)) => ([.d (.one (.row 5 (encL i)))] : List AV)) j → i = j := by
  intro l l' h
  simpa [strs_eq, T.enc_eq, encL_eq, F.enc_eq, encF_eq, Tk.enc_eq, encTk_eq, Gn.enc_eq, ints_eq] using h
theorem spL4Sort_md  : (spL4Sort).md = [false] := rfl
theorem spL4Sort_pre  (l : List T) : (spL4Sort).pre [.d (.one (.row 5 (encL l)))] = (lenB 1000000 l.length ∧ fitL 140737488355328 l) := Spec.of_pre' spL4Sort_inj l
theorem spL4Sort_alts  : (spL4Sort).alts = none := rfl
theorem spL4Sort_res  (l : List T) : (spL4Sort).res [.d (.one (.row 5 (encL l)))] = [.own 5 (encL (sortC cmpT l))] := Spec.of_res spL4Sort_inj l
theorem spL4Sort_out  (l : List T) : (spL4Sort).out [.d (.one (.row 5 (encL l)))] = [.gone] := Spec.of_out spL4Sort_inj l
theorem l4Sort_sound : Sound Go.Proofs.Try.prog 77 spL4Sort := by
  refine sound_fam (GOK.cons call_l4Put l4Put_sound GOK.nil) Go.Proofs.Try.func77 (c := Go.Proofs.Try.f77.body.getD .skip) rfl (n := 19) rfl chk_l4Sort rs_l4Sort (fun _ => by simp) ?_ ?_
  · exact spL4Sort_inj
  · rintro l ⟨h1, h2⟩
    simp only [lenB] at h1
    simp only [x_l4Sort, rg, go_sem, seval]
    refine pw_loop (ι := Nat) (fun i => l.length - i) (fun i => i ≤ l.length)
      (fun i => ⟨[(0, .q (.c (.row 5 (encL l)))), (3, .q (.own 17)), (4, .q (.c (.int .i64 i)))], [], [(17, 5, encL (sortC cmpT (l.take i)))]⟩) 0 (Nat.zero_le _) ?_ ?_
    · refine Le.own (t := 3) (d := 17) (sz := 5) (by decide) (by simp) (by simp [Q.killO]) ?_
      simp [PV.map, Q.killO]
    · intro i hi
      rcases Nat.lt_or_ge i l.length with hlt | hge
      · obtain ⟨x, hx, _, hmem⟩ := drop_at hlt
        have b1 : ((i : Int) < (l.length : Int)) = True := eq_true (by omega)
        have a1 := encL_at hx
        have f1 := T.enc_len x
        have f2 := fitL_mem h2 x hmem
        have f3 : fitL 140737488355328 (sortC cmpT (l.take i)) := fitL_of fun t ht => fitL_mem h2 t (List.mem_of_mem_take ((sortC_perm cmpT_is _).mem_iff.1 ht))
        have f4 : (sortC cmpT (l.take i)).length = i := by rw [(sortC_perm cmpT_is _).length_eq]; simp; omega
        simp only [rg, go_sem, seval, b1, a1, f1, encL_len, spL4Put_md, spL4Put_pre, spL4Put_alts, spL4Put_res, spL4Put_out]
        repeat' (first | with_reducible assumption | with_reducible refine And.intro ?_ ?_ | intro _)
        all_goals first | omega | skip
        · unfold lenB; omega
        · refine ⟨i + 1, by omega, by omega, ?_⟩
          have e : l.take (i + 1) = l.take i ++ [x] := by rw [List.take_add_one, hx]; rfl
          rw [e, sortC_snoc]
          exact Le.refl _
      · have b1 : ((i : Int) < (l.length : Int)) = False := eq_false (by omega)
        have e1 : l.take i = l := List.take_of_length_le hge
        simp only [rg, go_sem, seval, b1, e1, encL_len]
end Go.Proofs.Pw
