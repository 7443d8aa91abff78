/- Rows one behind the other in a new row. -/
import Derived.Test.YtdnbniggdebegaaPwBk
set_option linter.unusedSimpArgs false
set_option linter.unusedVariables false
set_option linter.unusedSimpArgs false
set_option maxRecDepth 20000
namespace Go.Proofs.Pw
set_option linter.unusedSectionVars false
variable [Globs]
def x_Grow : X := (.gh (.seq (.reg [⟨some 4, none, .mv (.k (.z 5))⟩] none [0, 1]) (.seq (.seq (.reg [⟨some 5, none, .mv (.t 1)⟩, ⟨some 6, none, .bin false .lss (.t 5) (.k (.c (.int .i64 0)))⟩] none [0, 1, 6]) (.cond (.t 6) .bad .skip)) (.seq (.seq (.reg [⟨some 8, none, .mv (.t 1)⟩, ⟨some 9, none, .mv (.t 0)⟩, ⟨some 10, none, .cap (.t 9)⟩, ⟨some 11, none, .mv (.t 0)⟩, ⟨some 12, none, .len (.t 11) false⟩, ⟨some 13, none, .bin false .sub (.t 10) (.t 12)⟩, ⟨some 14, none, .bin false .sub (.t 8) (.t 13)⟩, ⟨some 1, none, .mv (.t 14)⟩] none [0, 1]) (.seq (.reg [⟨some 15, none, .mv (.t 1)⟩, ⟨some 16, none, .bin false .gtr (.t 15) (.k (.c (.int .i64 0)))⟩] none [0, 1, 16]) (.cond (.t 16) (.reg [⟨some 17, none, .mv (.t 0)⟩, ⟨some 18, none, .mv (.t 0)⟩, ⟨some 19, none, .cap (.t 18)⟩, ⟨some 20, none, .sub (.t 17) none (some (.t 19)) 5⟩, ⟨some 21, none, .mv (.t 1)⟩, ⟨some 22, none, .apn (.t 20) (.t 21) [(.int .i64 0), (.int .i64 0), (.str ⟨#[]⟩), (.row 1 []), (.row 5 [])] 80⟩, ⟨some 23, none, .mv (.t 0)⟩, ⟨some 24, none, .len (.t 23) false⟩, ⟨some 25, none, .sub (.t 22) none (some (.t 24)) 5⟩, ⟨some 0, none, .mv (.t 25)⟩] none [0]) .skip))) (.seq (.reg [⟨some 26, none, .mv (.t 0)⟩, ⟨some 4, none, .mv (.t 26)⟩] none [4]) (.gh .ret))))))
theorem chk_Grow : chkX Go.Proofs.Try.prog 27 (Go.Proofs.Try.f41.body.getD .skip) x_Grow = true := by kernel_rfl
theorem rs_Grow : okRs Go.Proofs.Try.prog Go.Proofs.Try.f41.results.toList [.tmp 4] = true := by kernel_rfl
theorem call_Grow : okCallee Go.Proofs.Try.prog 41 = true := by kernel_rfl
def x_Concat : X := (.seq (.reg [⟨some 2, none, .mv (.k (.z 5))⟩] none [0]) (.seq (.reg [⟨some 3, none, .mv (.k (.c (.int .i64 0)))⟩] none [0, 3]) (.seq (.seq (.reg [⟨some 9, none, .mv (.t 0)⟩, ⟨some 10, none, .len (.t 9) false⟩, ⟨some 11, none, .mv (.k (.c (.int .i64 0)))⟩] none [0, 3, 9, 10, 11]) (.block 0 (.loop (.seq (.reg [⟨some 12, none, .bin false .lss (.t 11) (.t 10)⟩] none [0, 3, 9, 10, 11, 12]) (.seq (.cond (.t 12) .skip (.exit 0)) (.seq (.block 1 (.seq (.reg [⟨some 13, none, .ia (.t 9) (.t 11) 1⟩, ⟨some 14, none, .load (.t 13) none⟩, ⟨some 5, none, .mv (.t 14)⟩] none [0, 3, 5, 9, 10, 11]) (.seq (.reg [⟨some 15, none, .mv (.t 3)⟩, ⟨some 16, none, .mv (.t 5)⟩, ⟨some 17, none, .len (.t 16) false⟩, ⟨some 18, none, .bin false .add (.t 15) (.t 17)⟩, ⟨some 3, none, .mv (.t 18)⟩] none [0, 3, 9, 10, 11]) (.seq (.reg [⟨some 19, none, .mv (.t 3)⟩, ⟨some 20, none, .bin false .lss (.t 19) (.k (.c (.int .i64 0)))⟩] none [0, 3, 9, 10, 11, 20]) (.cond (.t 20) .bad .skip))))) (.reg [⟨some 22, none, .bin false .add (.t 11) (.k (.c (.int .i64 1)))⟩, ⟨some 11, none, .mv (.t 22)⟩] none [0, 3, 9, 10, 11]))))))) (.seq (.reg [⟨some 23, none, .mv (.t 3)⟩, ⟨some 24, none, .call 41 [(.k (.c (.zz 5))), (.t 23)]⟩, ⟨some 6, none, .mv (.t 24)⟩] none [0, 6]) (.seq (.seq (.reg [⟨some 25, none, .mv (.t 0)⟩, ⟨some 26, none, .len (.t 25) false⟩, ⟨some 27, none, .mv (.k (.c (.int .i64 0)))⟩] none [6, 25, 26, 27]) (.block 2 (.loop (.seq (.reg [⟨some 28, none, .bin false .lss (.t 27) (.t 26)⟩] none [6, 25, 26, 27, 28]) (.seq (.cond (.t 28) .skip (.exit 2)) (.seq (.block 3 (.seq (.reg [⟨some 29, none, .ia (.t 25) (.t 27) 1⟩, ⟨some 30, none, .load (.t 29) none⟩, ⟨some 8, none, .mv (.t 30)⟩] none [6, 8, 25, 26, 27]) (.reg [⟨some 31, none, .mv (.t 6)⟩, ⟨some 32, none, .mv (.t 8)⟩, ⟨some 33, none, .app (.t 31) (.t 32) 5 80 []⟩, ⟨some 6, none, .mv (.t 33)⟩] none [6, 25, 26, 27]))) (.reg [⟨some 34, none, .bin false .add (.t 27) (.k (.c (.int .i64 1)))⟩, ⟨some 27, none, .mv (.t 34)⟩] none [6, 25, 26, 27]))))))) (.seq (.reg [⟨some 35, none, .mv (.t 6)⟩, ⟨some 2, none, .mv (.t 35)⟩] none [2]) .ret))))))
theorem chk_Concat : chkX Go.Proofs.Try.prog 36 (Go.Proofs.Try.f27.body.getD .skip) x_Concat = true := by kernel_rfl
theorem rs_Concat : okRs Go.Proofs.Try.prog Go.Proofs.Try.f27.results.toList [.tmp 2] = true := by kernel_rfl
theorem call_Concat : okCallee Go.Proofs.Try.prog 27 = true := by kernel_rfl
noncomputable def spGrow  : Spec := Spec.of (ι := Nat) [false, false] (fun i => [.d (.one (.zz 5)), .d (.one (.int .i64 i))]) (fun i => i ≤ 2000002) (fun _ => [.own 5 []]) (fun _ => [.gone, .gone])
theorem spGrow_inj : ∀ i j : Nat, (fun (i : Nat) => ([.d (.one (.zz 5)), .d (.one (.int .i64 i))] : List AV)) i = (fun (i : Nat) => ([.d (.one (.zz 5)), .d (.one (.int .i64 i))] : List AV)) j → i = j := by
  intro n n' h
  simpa [strs_eq, T.enc_eq, encL_eq, F.enc_eq, encF_eq, Tk.enc_eq, encTk_eq, Gn.enc_eq, ints_eq, Int.natCast_inj] using h
theorem spGrow_md  : (spGrow).md = [false, false] := rfl
theorem spGrow_pre  (n : Nat) : (spGrow).pre [.d (.one (.zz 5)), .d (.one (.int .i64 n))] = (n ≤ 2000002) := Spec.of_pre' spGrow_inj n
theorem spGrow_alts  : (spGrow).alts = none := rfl
theorem spGrow_res  (n : Nat) : (spGrow).res [.d (.one (.zz 5)), .d (.one (.int .i64 n))] = [.own 5 []] := Spec.of_res spGrow_inj n
theorem spGrow_out  (n : Nat) : (spGrow).out [.d (.one (.zz 5)), .d (.one (.int .i64 n))] = [.gone, .gone] := Spec.of_out spGrow_inj n
theorem Grow_sound : Sound Go.Proofs.Try.prog 41 spGrow := by
  refine sound_fam GOK.nil Go.Proofs.Try.func41 (c := Go.Proofs.Try.f41.body.getD .skip) rfl (n := 27) rfl chk_Grow rs_Grow (fun _ => by simp) ?_ ?_
  · exact spGrow_inj
  · rintro n h1
    change n ≤ 2000002 at h1
    simp only [x_Grow]
    refine gh_skip ?_
    have b1 : ((n : Int) < 0) = False := eq_false (by omega)
    simp only [rg, go_sem, seval, Prod.fst, b1]
    repeat' (first | with_reducible assumption | with_reducible refine And.intro ?_ ?_ | intro _)
    all_goals first | (show _ ≤ (_ : Int); omega) | (show _ < (_ : Int); omega) | skip
    · refine gh_le (Le.cut (t := 4) (r := 22) (d := 77) (sz := 5) (n := 0) rfl rfl (Nat.zero_le _) (by decide)) ?_
      simp only [rg, go_sem, seval, Prod.fst, List.take_zero]
    · refine gh_le (Le.own (tm' := [(4, .q (.own 77))]) (t := 4) (d := 77) (sz := 5) (by decide) (by simp) (by simp) (by simp)) ?_
      simp only [rg, go_sem, seval, Prod.fst]
def cLen (a b : List T) : Nat → Int
  | 0 => 0
  | 1 => a.length
  | _ => a.length + b.length
def cCat (a b : List T) : Nat → List (List C)
  | 0 => []
  | 1 => encL a
  | _ => encL a ++ encL b
noncomputable def spConcat  : Spec := Spec.of (ι := (List T) × (List T)) [false] (fun i => [.d (.one (.row 1 [[.row 5 (encL i.1)], [.row 5 (encL i.2)]]))]) (fun i => lenB 1000000 i.1.length ∧ lenB 1000000 i.2.length) (fun i => [.own 5 (encL (i.1 ++ i.2))]) (fun _ => [.gone])
theorem spConcat_inj : ∀ i j : (List T) × (List T), (fun (i : (List T) × (List T)) => ([.d (.one (.row 1 [[.row 5 (encL i.1)], [.row 5 (encL i.2)]]))] : List AV)) i = (fun (i : (List T) × (List T)) => ([.d (.one (.row 1 [[.row 5 (encL i.1)], [.row 5 (encL i.2)]]))] : List AV)) j → i = j := by
  rintro ⟨a, b⟩ ⟨a', b'⟩ h
  simp only [Prod.mk.injEq]
  simpa [strs_eq, T.enc_eq, encL_eq, F.enc_eq, encF_eq, Tk.enc_eq, encTk_eq, Gn.enc_eq, ints_eq, Int.natCast_inj] using h
theorem spConcat_md  : (spConcat).md = [false] := rfl
theorem spConcat_pre  (a : List T) (b : List T) : (spConcat).pre [.d (.one (.row 1 [[.row 5 (encL a)], [.row 5 (encL b)]]))] = (lenB 1000000 a.length ∧ lenB 1000000 b.length) := Spec.of_pre' spConcat_inj (a, b)
theorem spConcat_alts  : (spConcat).alts = none := rfl
theorem spConcat_res  (a : List T) (b : List T) : (spConcat).res [.d (.one (.row 1 [[.row 5 (encL a)], [.row 5 (encL b)]]))] = [.own 5 (encL (a ++ b))] := Spec.of_res spConcat_inj (a, b)
theorem spConcat_out  (a : List T) (b : List T) : (spConcat).out [.d (.one (.row 1 [[.row 5 (encL a)], [.row 5 (encL b)]]))] = [.gone] := Spec.of_out spConcat_inj (a, b)
theorem Concat_sound : Sound Go.Proofs.Try.prog 27 spConcat := by
  refine sound_fam (GOK.cons (l := []) call_Grow Grow_sound GOK.nil) Go.Proofs.Try.func27 (c := Go.Proofs.Try.f27.body.getD .skip) rfl (n := 36) rfl chk_Concat rs_Concat (fun _ => by simp) ?_ ?_
  · exact spConcat_inj
  · rintro ⟨a, b⟩ ⟨h1, h2⟩
    simp only [lenB] at h1 h2
    simp only [x_Concat, rg, go_sem, seval, Prod.fst]
    repeat' (first | with_reducible assumption | with_reducible refine And.intro ?_ ?_ | intro _)
    all_goals first | (show _ ≤ (_ : Int); omega) | (show _ < (_ : Int); omega) | skip
    refine pw_loop (ι := Nat) (fun i => 2 - i) (fun i => i ≤ 2)
      (fun i => ⟨[(0, .q (.c (.row 1 [[.row 5 (encL a)], [.row 5 (encL b)]]))), (3, .q (.c (.int .i64 (cLen a b i)))), (9, .q (.c (.row 1 [[.row 5 (encL a)], [.row 5 (encL b)]]))), (10, .q (.c (.int .i64 2))), (11, .q (.c (.int .i64 i)))], [], []⟩) 0 (Nat.zero_le _) (Le.refl _) ?_
    intro i hi
    have hi' : i = 0 ∨ i = 1 ∨ i = 2 := by omega
    have c0 : cLen a b 0 = 0 := rfl
    have c1 : cLen a b 1 = a.length := rfl
    have c2 : cLen a b 2 = a.length + b.length := rfl
    have n1 : ((a.length : Int) < 0) = False := eq_false (by omega)
    have n2 : ((a.length : Int) + b.length < 0) = False := eq_false (by omega)
    rcases hi' with rfl | rfl | rfl
    · simp only [rg, go_sem, seval, Prod.fst, encL_len, c0, n1, Int.zero_add]
      repeat' (first | with_reducible assumption | with_reducible refine And.intro ?_ ?_ | intro _)
      all_goals first | (show _ ≤ (_ : Int); omega) | (show _ < (_ : Int); omega) | skip
      exact ⟨1, by omega, by omega, Le.refl _⟩
    · simp only [rg, go_sem, seval, Prod.fst, encL_len, c1, n2]
      repeat' (first | with_reducible assumption | with_reducible refine And.intro ?_ ?_ | intro _)
      all_goals first | (show _ ≤ (_ : Int); omega) | (show _ < (_ : Int); omega) | skip
      exact ⟨2, by omega, by omega, Le.refl _⟩
    · have c2' : cLen a b 2 = ((a.length + b.length : Nat) : Int) := by rw [c2]; omega
      simp only [rg, go_sem, seval, Prod.fst, encL_len, c2', spGrow_md, spGrow_pre, spGrow_alts, spGrow_res, spGrow_out]
      repeat' (first | with_reducible assumption | with_reducible refine And.intro ?_ ?_ | intro _)
      all_goals first | (show a.length + b.length ≤ 2000002; omega) | (show _ ≤ (_ : Int); omega) | (show _ < (_ : Int); omega) | (show _ ≤ (_ : Nat); omega) | skip
      refine pw_loop (ι := Nat) (fun i => 2 - i) (fun i => i ≤ 2)
        (fun i => ⟨[(6, .q (.own 24)), (25, .q (.c (.row 1 [[.row 5 (encL a)], [.row 5 (encL b)]]))), (26, .q (.c (.int .i64 2))), (27, .q (.c (.int .i64 i)))], [], [(24, 5, cCat a b i)]⟩) 0 (Nat.zero_le _) (Le.refl _) ?_
      intro i hi
      have hi' : i = 0 ∨ i = 1 ∨ i = 2 := by omega
      have c0 : cCat a b 0 = [] := rfl
      have c1 : cCat a b 1 = encL a := rfl
      have c2 : cCat a b 2 = encL a ++ encL b := rfl
      rcases hi' with rfl | rfl | rfl
      · simp only [rg, go_sem, seval, Prod.fst, encL_len, c0]
        repeat' (first | with_reducible assumption | with_reducible refine And.intro ?_ ?_ | intro _)
        all_goals first | (show _ ≤ (_ : Int); omega) | (show _ < (_ : Int); omega) | (show _ ≤ (_ : Nat); omega) | skip
        exact ⟨1, by omega, by omega, Le.refl _⟩
      · simp only [rg, go_sem, seval, Prod.fst, encL_len, c1]
        repeat' (first | with_reducible assumption | with_reducible refine And.intro ?_ ?_ | intro _)
        all_goals first | (show _ ≤ (_ : Int); omega) | (show _ < (_ : Int); omega) | (show _ ≤ (_ : Nat); omega) | skip
        exact ⟨2, by omega, by omega, Le.refl _⟩
      · simp only [rg, go_sem, seval, Prod.fst, encL_len, c2, encL_appL]
        repeat' (first | with_reducible assumption | with_reducible refine And.intro ?_ ?_ | intro _)
        all_goals first | (show _ ≤ (_ : Int); omega) | (show _ < (_ : Int); omega) | (show _ ≤ (_ : Nat); omega) | skip
end Go.Proofs.Pw
