/- Rows: each tree once; whether a tree is there. -/
import Derived.Test.YtaldfcjengfibaaPwT13
import Derived.Test.YtaldfcjengfibaaPwT14
set_option linter.unusedSimpArgs false
set_option linter.unusedVariables false
set_option linter.unusedSimpArgs false
set_option maxRecDepth 20000
namespace Go.Proofs.Pw
set_option linter.unusedSectionVars false
variable [Globs]
noncomputable instance (x : T) (l : List T) : Decidable (x ∈ l) := Classical.propDecidable _
theorem rowT_fit {B : Int} (h0 : 0 ≤ B) {l : List T} (h1 : lenB B l.length) (h2 : fitL B l) : (T.mk 5 0 ⟨#[]⟩ [] l).fit B :=
  ⟨by unfold i64; omega, by unfold i64; omega, by unfold lenB; exact h0, ⟨by unfold lenB; exact h0, by simp⟩, h1, h2⟩
end Go.Proofs.Pw
/- Rows turned round. -/
set_option linter.unusedSimpArgs false
set_option maxRecDepth 20000
namespace Go.Proofs.Pw
set_option linter.unusedSectionVars false
variable [Globs]
theorem getD_some {l : List T} {k : Nat} (hk : k < l.length) : l[k]? = some (l.getD k T.zero) := by simp [List.getD_eq_getElem?_getD, hk]
end Go.Proofs.Pw
/- Rows one behind the other in a new row. -/
set_option linter.unusedSimpArgs false
set_option maxRecDepth 20000
namespace Go.Proofs.Pw
set_option linter.unusedSectionVars false
variable [Globs]
def x_Grow : X := (.gh (.seq (.reg [⟨some 4, none, .mv (.k (.z 5))⟩] none [0, 1]) (.seq (.seq (.reg [⟨some 5, none, .mv (.t 1)⟩, ⟨some 6, none, .bin false .lss (.t 5) (.k (.c (.int .i64 0)))⟩] none [0, 1, 6]) (.cond (.t 6) .bad .skip)) (.seq (.seq (.reg [⟨some 8, none, .mv (.t 1)⟩, ⟨some 9, none, .mv (.t 0)⟩, ⟨some 10, none, .cap (.t 9)⟩, ⟨some 11, none, .mv (.t 0)⟩, ⟨some 12, none, .len (.t 11) false⟩, ⟨some 13, none, .bin false .sub (.t 10) (.t 12)⟩, ⟨some 14, none, .bin false .sub (.t 8) (.t 13)⟩, ⟨some 1, none, .mv (.t 14)⟩] none [0, 1]) (.seq (.reg [⟨some 15, none, .mv (.t 1)⟩, ⟨some 16, none, .bin false .gtr (.t 15) (.k (.c (.int .i64 0)))⟩] none [0, 1, 16]) (.cond (.t 16) (.reg [⟨some 17, none, .mv (.t 0)⟩, ⟨some 18, none, .mv (.t 0)⟩, ⟨some 19, none, .cap (.t 18)⟩, ⟨some 20, none, .sub (.t 17) none (some (.t 19)) 5⟩, ⟨some 21, none, .mv (.t 1)⟩, ⟨some 22, none, .apn (.t 20) (.t 21) [(.int .i64 0), (.int .i64 0), (.str ⟨#[]⟩), (.row 1 []), (.row 5 [])] 80⟩, ⟨some 23, none, .mv (.t 0)⟩, ⟨some 24, none, .len (.t 23) false⟩, ⟨some 25, none, .sub (.t 22) none (some (.t 24)) 5⟩, ⟨some 0, none, .mv (.t 25)⟩] none [0]) .skip))) (.seq (.reg [⟨some 26, none, .mv (.t 0)⟩, ⟨some 4, none, .mv (.t 26)⟩] none [4]) (.gh .ret))))))
theorem chk_Grow : chkX Go.Proofs.Try.prog 27 (Go.Proofs.Try.f68.body.getD .skip) x_Grow = true := by kernel_rfl
theorem rs_Grow : okRs Go.Proofs.Try.prog Go.Proofs.Try.f68.results.toList [.tmp 4] = true := by kernel_rfl
theorem call_Grow : okCallee Go.Proofs.Try.prog 68 = true := by kernel_rfl
def x_Concat : X := (.seq (.reg [⟨some 2, none, .mv (.k (.z 5))⟩] none [0]) (.seq (.reg [⟨some 3, none, .mv (.k (.c (.int .i64 0)))⟩] none [0, 3]) (.seq (.seq (.reg [⟨some 9, none, .mv (.t 0)⟩, ⟨some 10, none, .len (.t 9) false⟩, ⟨some 11, none, .mv (.k (.c (.int .i64 0)))⟩] none [0, 3, 9, 10, 11]) (.block 0 (.loop (.seq (.reg [⟨some 12, none, .bin false .lss (.t 11) (.t 10)⟩] none [0, 3, 9, 10, 11, 12]) (.seq (.cond (.t 12) .skip (.exit 0)) (.seq (.block 1 (.seq (.reg [⟨some 13, none, .ia (.t 9) (.t 11) 1⟩, ⟨some 14, none, .load (.t 13) none⟩, ⟨some 5, none, .mv (.t 14)⟩] none [0, 3, 5, 9, 10, 11]) (.seq (.reg [⟨some 15, none, .mv (.t 3)⟩, ⟨some 16, none, .mv (.t 5)⟩, ⟨some 17, none, .len (.t 16) false⟩, ⟨some 18, none, .bin false .add (.t 15) (.t 17)⟩, ⟨some 3, none, .mv (.t 18)⟩] none [0, 3, 9, 10, 11]) (.seq (.reg [⟨some 19, none, .mv (.t 3)⟩, ⟨some 20, none, .bin false .lss (.t 19) (.k (.c (.int .i64 0)))⟩] none [0, 3, 9, 10, 11, 20]) (.cond (.t 20) .bad .skip))))) (.reg [⟨some 22, none, .bin false .add (.t 11) (.k (.c (.int .i64 1)))⟩, ⟨some 11, none, .mv (.t 22)⟩] none [0, 3, 9, 10, 11]))))))) (.seq (.reg [⟨some 23, none, .mv (.t 3)⟩, ⟨some 24, none, .call 68 [(.k (.c (.zz 5))), (.t 23)]⟩, ⟨some 6, none, .mv (.t 24)⟩] none [0, 6]) (.seq (.seq (.reg [⟨some 25, none, .mv (.t 0)⟩, ⟨some 26, none, .len (.t 25) false⟩, ⟨some 27, none, .mv (.k (.c (.int .i64 0)))⟩] none [6, 25, 26, 27]) (.block 2 (.loop (.seq (.reg [⟨some 28, none, .bin false .lss (.t 27) (.t 26)⟩] none [6, 25, 26, 27, 28]) (.seq (.cond (.t 28) .skip (.exit 2)) (.seq (.block 3 (.seq (.reg [⟨some 29, none, .ia (.t 25) (.t 27) 1⟩, ⟨some 30, none, .load (.t 29) none⟩, ⟨some 8, none, .mv (.t 30)⟩] none [6, 8, 25, 26, 27]) (.reg [⟨some 31, none, .mv (.t 6)⟩, ⟨some 32, none, .mv (.t 8)⟩, ⟨some 33, none, .app (.t 31) (.t 32) 5 80 []⟩, ⟨some 6, none, .mv (.t 33)⟩] none [6, 25, 26, 27]))) (.reg [⟨some 34, none, .bin false .add (.t 27) (.k (.c (.int .i64 1)))⟩, ⟨some 27, none, .mv (.t 34)⟩] none [6, 25, 26, 27]))))))) (.seq (.reg [⟨some 35, none, .mv (.t 6)⟩, ⟨some 2, none, .mv (.t 35)⟩] none [2]) .ret))))))
theorem chk_Concat : chkX Go.Proofs.Try.prog 36 (Go.Proofs.Try.f39.body.getD .skip) x_Concat = true := by kernel_rfl
theorem rs_Concat : okRs Go.Proofs.Try.prog Go.Proofs.Try.f39.results.toList [.tmp 2] = true := by kernel_rfl
theorem call_Concat : okCallee Go.Proofs.Try.prog 39 = true := by kernel_rfl
noncomputable def spGrow  : Spec := Spec.of (ι := Nat) [false, false] (fun i => [.d (.one (.zz 5)), .d (.one (.int .i64 i))]) (fun i => i ≤ 2000002) (fun _ => [.own 5 []]) (fun _ => [.gone, .gone])
theorem spGrow_inj : ∀ i j : Nat, (fun (i : Nat) => ([.d (.one (.zz 5)), .d (.one (.int .i64 i))] : List AV)) i = (fun (i : Nat) => ([.d (.one (.zz 5)), .d (.one (.int .i64 i))] : List AV)) j → i = j := by
  intro n n' h
  simpa [strs_eq, T.enc_eq, encL_eq, F.enc_eq, encF_eq, Tk.enc_eq, encTk_eq, Gn.enc_eq, ints_eq, Int.natCast_inj] using h
theorem spGrow_md  : (spGrow).md = [false, false] := rfl
theorem spGrow_pre  (n : Nat) : (spGrow).pre [.d (.one (.zz 5)), .d (.one (.int .i64 n))] = (n ≤ 2000002) := Spec.of_pre' spGrow_inj n
theorem spGrow_alts  : (spGrow).alts = none := rfl
theorem spGrow_res  (n : Nat) : (spGrow).res [.d (.one (.zz 5)), .d (.one (.int .i64 n))] = [.own 5 []] := Spec.of_res spGrow_inj n
theorem spGrow_out  (n : Nat) : (spGrow).out [.d (.one (.zz 5)), .d (.one (.int .i64 n))] = [.gone, .gone] := Spec.of_out spGrow_inj n
theorem Grow_sound : Sound Go.Proofs.Try.prog 68 spGrow := by
  refine sound_fam GOK.nil Go.Proofs.Try.func68 (c := Go.Proofs.Try.f68.body.getD .skip) rfl (n := 27) rfl chk_Grow rs_Grow (fun _ => by simp) ?_ ?_
  · exact spGrow_inj
  · rintro n h1
    change n ≤ 2000002 at h1
    simp only [x_Grow]
    refine gh_skip ?_
    have b1 : ((n : Int) < 0) = False := eq_false (by omega)
    simp only [rg, go_sem, seval, Prod.fst, b1]
    repeat' (first | with_reducible assumption | with_reducible refine And.intro ?_ ?_ | intro _)
    all_goals first | (show _ ≤ (_ : Int); omega) | (show _ < (_ : Int); omega) | skip
    · refine gh_le (Le.cut (t := 4) (r := 22) (d := 77) (sz := 5) (n := 0) rfl rfl (Nat.zero_le _) (by decide)) ?_
      simp only [rg, go_sem, seval, Prod.fst, List.take_zero]
    · refine gh_le (Le.own (tm' := [(4, .q (.own 77))]) (t := 4) (d := 77) (sz := 5) (by decide) (by simp) (by simp) (by simp)) ?_
      simp only [rg, go_sem, seval, Prod.fst]
def cLen (a b : List T) : Nat → Int
  | 0 => 0
  | 1 => a.length
  | _ => a.length + b.length
def cCat (a b : List T) : Nat → List (List C)
  | 0 => []
  | 1 => encL a
  | _ => encL a ++ encL b
noncomputable def spConcat  : Spec := Spec.of (ι := (List T) × (List T)) [false] (fun i => [.d (.one (.row 1 [[.row 5 (encL i.1)], [.row 5 (encL i.2)]]))]) (fun i => lenB 1000000 i.1.length ∧ lenB 1000000 i.2.length) (fun i => [.own 5 (encL (i.1 ++ i.2))]) (fun _ => [.gone])
theorem spConcat_inj : ∀ i j : (List T) × (List T), (fun (i : (List T) × (List T)) => ([.d (.one (.row 1 [[.row 5 (encL i.1)], [.row 5 (encL i.2)]]))] : List AV)) i = (fun (i : (List T) × (List T)) => ([.d (.one (.row 1 [[.row 5 (encL i.1)], [.row 5 (encL i.2)]]))] : List AV)) j → i = j := by
  rintro ⟨a, b⟩ ⟨a', b'⟩ h
  simp only [Prod.mk.injEq]
  simpa [strs_eq, T.enc_eq, encL_eq, F.enc_eq, encF_eq, Tk.enc_eq, encTk_eq, Gn.enc_eq, ints_eq, Int.natCast_inj] using h
theorem spConcat_md  : (spConcat).md = [false] := rfl
theorem spConcat_pre  (a : List T) (b : List T) : (spConcat).pre [.d (.one (.row 1 [[.row 5 (encL a)], [.row 5 (encL b)]]))] = (lenB 1000000 a.length ∧ lenB 1000000 b.length) := Spec.of_pre' spConcat_inj (a, b)
theorem spConcat_alts  : (spConcat).alts = none := rfl
theorem spConcat_res  (a : List T) (b : List T) : (spConcat).res [.d (.one (.row 1 [[.row 5 (encL a)], [.row 5 (encL b)]]))] = [.own 5 (encL (a ++ b))] := Spec.of_res spConcat_inj (a, b)
theorem spConcat_out  (a : List T) (b : List T) : (spConcat).out [.d (.one (.row 1 [[.row 5 (encL a)], [.row 5 (encL b)]]))] = [.gone] := Spec.of_out spConcat_inj (a, b)
theorem Concat_sound : Sound Go.Proofs.Try.prog 39 spConcat := by
  refine sound_fam (GOK.cons (l := []) call_Grow Grow_sound GOK.nil) Go.Proofs.Try.func39 (c := Go.Proofs.Try.f39.body.getD .skip) rfl (n := 36) rfl chk_Concat rs_Concat (fun _ => by simp) ?_ ?_
  · exact spConcat_inj
  · rintro ⟨a, b⟩ ⟨h1, h2⟩
    simp only [lenB] at h1 h2
    simp only [x_Concat, rg, go_sem, seval, Prod.fst]
    repeat' (first | with_reducible assumption | with_reducible refine And.intro ?_ ?_ | intro _)
    all_goals first | (show _ ≤ (_ : Int); omega) | (show _ < (_ : Int); omega) | skip
    refine pw_loop (ι := Nat) (fun i => 2 - i) (fun i => i ≤ 2)
      (fun i => ⟨[(0, .q (.c (.row 1 [[.row 5 (encL a)], [.row 5 (encL b)]]))), (3, .q (.c (.int .i64 (cLen a b i)))), (9, .q (.c (.row 1 [[.row 5 (encL a)], [.row 5 (encL b)]]))), (10, .q (.c (.int .i64 2))), (11, .q (.c (.int .i64 i)))], [], []⟩) 0 (Nat.zero_le _) (Le.refl _) ?_
    intro i hi
    have hi' : i = 0 ∨ i = 1 ∨ i = 2 := by omega
    have c0 : cLen a b 0 = 0 := rfl
    have c1 : cLen a b 1 = a.length := rfl
    have c2 : cLen a b 2 = a.length + b.length := rfl
    have n1 : ((a.length : Int) < 0) = False := eq_false (by omega)
    have n2 : ((a.length : Int) + b.length < 0) = False := eq_false (by omega)
    rcases hi' with rfl | rfl | rfl
    · simp only [rg, go_sem, seval, Prod.fst, encL_len, c0, n1, Int.zero_add]
      repeat' (first | with_reducible assumption | with_reducible refine And.intro ?_ ?_ | intro _)
      all_goals first | (show _ ≤ (_ : Int); omega) | (show _ < (_ : Int); omega) | skip
      exact ⟨1, by omega, by omega, Le.refl _⟩
    · simp only [rg, go_sem, seval, Prod.fst, encL_len, c1, n2]
      repeat' (first | with_reducible assumption | with_reducible refine And.intro ?_ ?_ | intro _)
      all_goals first | (show _ ≤ (_ : Int); omega) | (show _ < (_ : Int); omega) | skip
      exact ⟨2, by omega, by omega, Le.refl _⟩
    · have c2' : cLen a b 2 = ((a.length + b.length : Nat) : Int) := by rw [c2]; omega
      simp only [rg, go_sem, seval, Prod.fst, encL_len, c2', spGrow_md, spGrow_pre, spGrow_alts, spGrow_res, spGrow_out]
      repeat' (first | with_reducible assumption | with_reducible refine And.intro ?_ ?_ | intro _)
      all_goals first | (show a.length + b.length ≤ 2000002; omega) | (show _ ≤ (_ : Int); omega) | (show _ < (_ : Int); omega) | (show _ ≤ (_ : Nat); omega) | skip
      refine pw_loop (ι := Nat) (fun i => 2 - i) (fun i => i ≤ 2)
        (fun i => ⟨[(6, .q (.own 24)), (25, .q (.c (.row 1 [[.row 5 (encL a)], [.row 5 (encL b)]]))), (26, .q (.c (.int .i64 2))), (27, .q (.c (.int .i64 i)))], [], [(24, 5, cCat a b i)]⟩) 0 (Nat.zero_le _) (Le.refl _) ?_
      intro i hi
      have hi' : i = 0 ∨ i = 1 ∨ i = 2 := by omega
      have c0 : cCat a b 0 = [] := rfl
      have c1 : cCat a b 1 = encL a := rfl
      have c2 : cCat a b 2 = encL a ++ encL b := rfl
      rcases hi' with rfl | rfl | rfl
      · simp only [rg, go_sem, seval, Prod.fst, encL_len, c0]
        repeat' (first | with_reducible assumption | with_reducible refine And.intro ?_ ?_ | intro _)
        all_goals first | (show _ ≤ (_ : Int); omega) | (show _ < (_ : Int); omega) | (show _ ≤ (_ : Nat); omega) | skip
        exact ⟨1, by omega, by omega, Le.refl _⟩
      · simp only [rg, go_sem, seval, Prod.fst, encL_len, c1]
        repeat' (first | with_reducible assumption | with_reducible refine And.intro ?_ ?_ | intro _)
        all_goals first | (show _ ≤ (_ : Int); omega) | (show _ < (_ : Int); omega) | (show _ ≤ (_ : Nat); omega) | skip
        exact ⟨2, by omega, by omega, Le.refl _⟩
      · simp only [rg, go_sem, seval, Prod.fst, encL_len, c2, encL_appL]
        repeat' (first | with_reducible assumption | with_reducible refine And.intro ?_ ?_ | intro _)
        all_goals first | (show _ ≤ (_ : Int); omega) | (show _ < (_ : Int); omega) | (show _ ≤ (_ : Nat); omega) | skip
end Go.Proofs.Pw
/- slices.Insert. -/
set_option linter.unusedSimpArgs false
set_option maxRecDepth 20000
namespace Go.Proofs.Pw
set_option linter.unusedSectionVars false
variable [Globs]
def x_InsS : X := (.gh (.seq (.reg [⟨some 6, none, .mv (.k (.z 1))⟩] none [0, 1, 2]) (.seq (.reg [⟨some 10, none, .mv (.t 0)⟩, ⟨some 11, none, .mv (.t 1)⟩, ⟨some 12, none, .sub (.t 10) (some (.t 11)) none 1⟩] none [0, 1, 2]) (.seq (.reg [⟨some 13, none, .mv (.t 2)⟩, ⟨some 14, none, .len (.t 13) false⟩, ⟨some 7, none, .mv (.t 14)⟩] none [0, 1, 2, 7]) (.seq (.seq (.reg [⟨some 15, none, .mv (.t 7)⟩, ⟨some 16, none, .bin false .eql (.t 15) (.k (.c (.int .i64 0)))⟩] none [0, 1, 2, 7, 16]) (.cond (.t 16) (.seq (.reg [⟨some 17, none, .mv (.t 0)⟩, ⟨some 6, none, .mv (.t 17)⟩] none [6]) (.gh .ret)) .skip)) (.seq (.reg [⟨some 18, none, .mv (.t 0)⟩, ⟨some 19, none, .len (.t 18) false⟩, ⟨some 8, none, .mv (.t 19)⟩] none [0, 1, 2, 7, 8]) (.seq (.seq (.reg [⟨some 20, none, .mv (.t 1)⟩, ⟨some 21, none, .mv (.t 8)⟩, ⟨some 22, none, .bin false .eql (.t 20) (.t 21)⟩] none [0, 1, 2, 7, 8, 22]) (.cond (.t 22) (.seq (.reg [⟨some 23, none, .mv (.t 0)⟩, ⟨some 24, none, .mv (.t 2)⟩, ⟨some 25, none, .app (.t 23) (.t 24) 1 16 []⟩, ⟨some 6, none, .mv (.t 25)⟩] none [6]) (.gh .ret)) .skip)) (.seq (.seq (.reg [⟨some 26, none, .mv (.t 8)⟩, ⟨some 27, none, .mv (.t 7)⟩, ⟨some 28, none, .bin false .add (.t 26) (.t 27)⟩, ⟨some 29, none, .mv (.t 0)⟩, ⟨some 30, none, .capr (.t 29)⟩, ⟨some 31, none, .bin false .gtr (.t 28) (.t 30)⟩] none [0, 1, 2, 7, 8, 31]) (.cond (.t 31) (.seq (.reg [⟨some 32, none, .mv (.t 0)⟩, ⟨some 33, none, .mv (.t 1)⟩, ⟨some 34, none, .sub (.t 32) none (some (.t 33)) 1⟩, ⟨some 35, none, .mv (.t 8)⟩, ⟨some 36, none, .mv (.t 7)⟩, ⟨some 37, none, .bin false .add (.t 35) (.t 36)⟩, ⟨some 38, none, .mv (.t 1)⟩, ⟨some 39, none, .bin false .sub (.t 37) (.t 38)⟩, ⟨some 40, none, .apn (.t 34) (.t 39) [(.str ⟨#[]⟩)] 16⟩, ⟨some 9, none, .mv (.t 40)⟩] none [0, 1, 2, 7, 9]) (.seq (.reg [⟨some 41, none, .mv (.t 9)⟩, ⟨some 42, none, .mv (.t 1)⟩, ⟨some 43, none, .sub (.t 41) (some (.t 42)) none 1⟩, ⟨some 44, none, .mv (.t 2)⟩, ⟨some 45, none, .cpy (.t 43) (.t 44) 1⟩] none [0, 1, 7, 9]) (.seq (.reg [⟨some 46, none, .mv (.t 9)⟩, ⟨some 47, none, .mv (.t 1)⟩, ⟨some 48, none, .mv (.t 7)⟩, ⟨some 49, none, .bin false .add (.t 47) (.t 48)⟩, ⟨some 50, none, .sub (.t 46) (some (.t 49)) none 1⟩, ⟨some 51, none, .mv (.t 0)⟩, ⟨some 52, none, .mv (.t 1)⟩, ⟨some 53, none, .sub (.t 51) (some (.t 52)) none 1⟩, ⟨some 54, none, .cpy (.t 50) (.t 53) 1⟩] (some 8) [9]) (.seq (.reg [⟨some 55, none, .mv (.t 9)⟩, ⟨some 6, none, .mv (.t 55)⟩] none [6]) (.gh .ret))))) .skip)) (.seq (.reg [⟨some 56, none, .mv (.t 0)⟩, ⟨some 57, none, .mv (.t 8)⟩, ⟨some 58, none, .mv (.t 7)⟩, ⟨some 59, none, .bin false .add (.t 57) (.t 58)⟩, ⟨some 60, none, .sub (.t 56) none (some (.t 59)) 1⟩, ⟨some 0, none, .mv (.t 60)⟩] none [0, 1, 2, 7, 8]) (.seq (.seq (.reg [⟨some 61, none, .mv (.t 2)⟩, ⟨some 62, none, .mv (.t 0)⟩, ⟨some 63, none, .mv (.t 1)⟩, ⟨some 64, none, .mv (.t 7)⟩, ⟨some 65, none, .bin false .add (.t 63) (.t 64)⟩, ⟨some 66, none, .sub (.t 62) (some (.t 65)) none 1⟩, ⟨some 67, none, .ovl (.t 61) (.t 66)⟩, ⟨some 68, none, .not (.t 67)⟩] none [0, 1, 2, 7, 8, 68]) (.cond (.t 68) (.seq (.reg [⟨some 69, none, .mv (.t 0)⟩, ⟨some 70, none, .mv (.t 1)⟩, ⟨some 71, none, .mv (.t 7)⟩, ⟨some 72, none, .bin false .add (.t 70) (.t 71)⟩, ⟨some 73, none, .sub (.t 69) (some (.t 72)) none 1⟩, ⟨some 74, none, .mv (.t 0)⟩, ⟨some 75, none, .mv (.t 1)⟩, ⟨some 76, none, .sub (.t 74) (some (.t 75)) none 1⟩, ⟨some 77, none, .cpy (.t 73) (.t 76) 1⟩] (some 8) [0, 1, 2]) (.seq (.reg [⟨some 78, none, .mv (.t 0)⟩, ⟨some 79, none, .mv (.t 1)⟩, ⟨some 80, none, .sub (.t 78) (some (.t 79)) none 1⟩, ⟨some 81, none, .mv (.t 2)⟩, ⟨some 82, none, .cpy (.t 80) (.t 81) 1⟩] none [0]) (.seq (.reg [⟨some 83, none, .mv (.t 0)⟩, ⟨some 6, none, .mv (.t 83)⟩] none [6]) (.gh .ret)))) .skip)) (.seq (.reg [⟨some 84, none, .mv (.t 0)⟩, ⟨some 85, none, .mv (.t 8)⟩, ⟨some 86, none, .sub (.t 84) (some (.t 85)) none 1⟩, ⟨some 87, none, .mv (.t 2)⟩, ⟨some 88, none, .cpy (.t 86) (.t 87) 1⟩] none [0, 1, 7]) (.seq (.reg [⟨some 89, none, .mv (.t 0)⟩, ⟨some 90, none, .mv (.t 1)⟩, ⟨some 91, none, .sub (.t 89) (some (.t 90)) none 1⟩, ⟨some 92, none, .mv (.t 7)⟩, ⟨some 93, none, .call 87 [(.t 91), (.t 92)]⟩] none [0]) (.seq (.reg [⟨some 94, none, .mv (.t 0)⟩, ⟨some 6, none, .mv (.t 94)⟩] none [6]) (.gh .ret))))))))))))))
theorem chk_InsS : chkX Go.Proofs.Try.prog 95 (Go.Proofs.Try.f71.body.getD .skip) x_InsS = true := by kernel_rfl
theorem rs_InsS : okRs Go.Proofs.Try.prog Go.Proofs.Try.f71.results.toList [.tmp 6] = true := by kernel_rfl
theorem call_InsS : okCallee Go.Proofs.Try.prog 71 = true := by kernel_rfl
def x_InsV : X := (.gh (.seq (.reg [⟨some 6, none, .mv (.k (.z 5))⟩] none [0, 1, 2]) (.seq (.reg [⟨some 10, none, .mv (.t 0)⟩, ⟨some 11, none, .mv (.t 1)⟩, ⟨some 12, none, .sub (.t 10) (some (.t 11)) none 5⟩] none [0, 1, 2]) (.seq (.reg [⟨some 13, none, .mv (.t 2)⟩, ⟨some 14, none, .len (.t 13) false⟩, ⟨some 7, none, .mv (.t 14)⟩] none [0, 1, 2, 7]) (.seq (.seq (.reg [⟨some 15, none, .mv (.t 7)⟩, ⟨some 16, none, .bin false .eql (.t 15) (.k (.c (.int .i64 0)))⟩] none [0, 1, 2, 7, 16]) (.cond (.t 16) (.seq (.reg [⟨some 17, none, .mv (.t 0)⟩, ⟨some 6, none, .mv (.t 17)⟩] none [6]) (.gh .ret)) .skip)) (.seq (.reg [⟨some 18, none, .mv (.t 0)⟩, ⟨some 19, none, .len (.t 18) false⟩, ⟨some 8, none, .mv (.t 19)⟩] none [0, 1, 2, 7, 8]) (.seq (.seq (.reg [⟨some 20, none, .mv (.t 1)⟩, ⟨some 21, none, .mv (.t 8)⟩, ⟨some 22, none, .bin false .eql (.t 20) (.t 21)⟩] none [0, 1, 2, 7, 8, 22]) (.cond (.t 22) (.seq (.reg [⟨some 23, none, .mv (.t 0)⟩, ⟨some 24, none, .mv (.t 2)⟩, ⟨some 25, none, .app (.t 23) (.t 24) 5 80 []⟩, ⟨some 6, none, .mv (.t 25)⟩] none [6]) (.gh .ret)) .skip)) (.seq (.seq (.reg [⟨some 26, none, .mv (.t 8)⟩, ⟨some 27, none, .mv (.t 7)⟩, ⟨some 28, none, .bin false .add (.t 26) (.t 27)⟩, ⟨some 29, none, .mv (.t 0)⟩, ⟨some 30, none, .capr (.t 29)⟩, ⟨some 31, none, .bin false .gtr (.t 28) (.t 30)⟩] none [0, 1, 2, 7, 8, 31]) (.cond (.t 31) (.seq (.reg [⟨some 32, none, .mv (.t 0)⟩, ⟨some 33, none, .mv (.t 1)⟩, ⟨some 34, none, .sub (.t 32) none (some (.t 33)) 5⟩, ⟨some 35, none, .mv (.t 8)⟩, ⟨some 36, none, .mv (.t 7)⟩, ⟨some 37, none, .bin false .add (.t 35) (.t 36)⟩, ⟨some 38, none, .mv (.t 1)⟩, ⟨some 39, none, .bin false .sub (.t 37) (.t 38)⟩, ⟨some 40, none, .apn (.t 34) (.t 39) [(.int .i64 0), (.int .i64 0), (.str ⟨#[]⟩), (.row 1 []), (.row 5 [])] 80⟩, ⟨some 9, none, .mv (.t 40)⟩] none [0, 1, 2, 7, 9]) (.seq (.reg [⟨some 41, none, .mv (.t 9)⟩, ⟨some 42, none, .mv (.t 1)⟩, ⟨some 43, none, .sub (.t 41) (some (.t 42)) none 5⟩, ⟨some 44, none, .mv (.t 2)⟩, ⟨some 45, none, .cpy (.t 43) (.t 44) 5⟩] none [0, 1, 7, 9]) (.seq (.reg [⟨some 46, none, .mv (.t 9)⟩, ⟨some 47, none, .mv (.t 1)⟩, ⟨some 48, none, .mv (.t 7)⟩, ⟨some 49, none, .bin false .add (.t 47) (.t 48)⟩, ⟨some 50, none, .sub (.t 46) (some (.t 49)) none 5⟩, ⟨some 51, none, .mv (.t 0)⟩, ⟨some 52, none, .mv (.t 1)⟩, ⟨some 53, none, .sub (.t 51) (some (.t 52)) none 5⟩, ⟨some 54, none, .cpy (.t 50) (.t 53) 5⟩] (some 8) [9]) (.seq (.reg [⟨some 55, none, .mv (.t 9)⟩, ⟨some 6, none, .mv (.t 55)⟩] none [6]) (.gh .ret))))) .skip)) (.seq (.reg [⟨some 56, none, .mv (.t 0)⟩, ⟨some 57, none, .mv (.t 8)⟩, ⟨some 58, none, .mv (.t 7)⟩, ⟨some 59, none, .bin false .add (.t 57) (.t 58)⟩, ⟨some 60, none, .sub (.t 56) none (some (.t 59)) 5⟩, ⟨some 0, none, .mv (.t 60)⟩] none [0, 1, 2, 7, 8]) (.seq (.seq (.reg [⟨some 61, none, .mv (.t 2)⟩, ⟨some 62, none, .mv (.t 0)⟩, ⟨some 63, none, .mv (.t 1)⟩, ⟨some 64, none, .mv (.t 7)⟩, ⟨some 65, none, .bin false .add (.t 63) (.t 64)⟩, ⟨some 66, none, .sub (.t 62) (some (.t 65)) none 5⟩, ⟨some 67, none, .ovl (.t 61) (.t 66)⟩, ⟨some 68, none, .not (.t 67)⟩] none [0, 1, 2, 7, 8, 68]) (.cond (.t 68) (.seq (.reg [⟨some 69, none, .mv (.t 0)⟩, ⟨some 70, none, .mv (.t 1)⟩, ⟨some 71, none, .mv (.t 7)⟩, ⟨some 72, none, .bin false .add (.t 70) (.t 71)⟩, ⟨some 73, none, .sub (.t 69) (some (.t 72)) none 5⟩, ⟨some 74, none, .mv (.t 0)⟩, ⟨some 75, none, .mv (.t 1)⟩, ⟨some 76, none, .sub (.t 74) (some (.t 75)) none 5⟩, ⟨some 77, none, .cpy (.t 73) (.t 76) 5⟩] (some 8) [0, 1, 2]) (.seq (.reg [⟨some 78, none, .mv (.t 0)⟩, ⟨some 79, none, .mv (.t 1)⟩, ⟨some 80, none, .sub (.t 78) (some (.t 79)) none 5⟩, ⟨some 81, none, .mv (.t 2)⟩, ⟨some 82, none, .cpy (.t 80) (.t 81) 5⟩] none [0]) (.seq (.reg [⟨some 83, none, .mv (.t 0)⟩, ⟨some 6, none, .mv (.t 83)⟩] none [6]) (.gh .ret)))) .skip)) (.seq (.reg [⟨some 84, none, .mv (.t 0)⟩, ⟨some 85, none, .mv (.t 8)⟩, ⟨some 86, none, .sub (.t 84) (some (.t 85)) none 5⟩, ⟨some 87, none, .mv (.t 2)⟩, ⟨some 88, none, .cpy (.t 86) (.t 87) 5⟩] none [0, 1, 7]) (.seq (.reg [⟨some 89, none, .mv (.t 0)⟩, ⟨some 90, none, .mv (.t 1)⟩, ⟨some 91, none, .sub (.t 89) (some (.t 90)) none 5⟩, ⟨some 92, none, .mv (.t 7)⟩, ⟨some 93, none, .call 89 [(.t 91), (.t 92)]⟩] none [0]) (.seq (.reg [⟨some 94, none, .mv (.t 0)⟩, ⟨some 6, none, .mv (.t 94)⟩] none [6]) (.gh .ret))))))))))))))
theorem chk_InsV : chkX Go.Proofs.Try.prog 95 (Go.Proofs.Try.f72.body.getD .skip) x_InsV = true := by kernel_rfl
theorem rs_InsV : okRs Go.Proofs.Try.prog Go.Proofs.Try.f72.results.toList [.tmp 6] = true := by kernel_rfl
theorem call_InsV : okCallee Go.Proofs.Try.prog 72 = true := by kernel_rfl
noncomputable def spInsS  : Spec := Spec.of (ι := (List ByteArray) × Nat × ByteArray) [true, false, false] (fun i => [.own 1 (strs i.1), .d (.one (.int .i64 i.2.1)), .d (.one (.row 1 (strs [i.2.2])))]) (fun i => i.2.1 ≤ i.1.length ∧ lenB 1000000 i.1.length) (fun i => [.own 1 (strs (i.1.take i.2.1 ++ i.2.2 :: i.1.drop i.2.1))]) (fun _ => [.gone, .gone, .gone])
theorem spInsS_inj : ∀ i j : (List ByteArray) × Nat × ByteArray, (fun (i : (List ByteArray) × Nat × ByteArray) => ([.own 1 (strs i.1), .d (.one (.int .i64 i.2.1)), .d (.one (.row 1 (strs [i.2.2])))] : List AV)) i = (fun (i : (List ByteArray) × Nat × ByteArray) => ([.own 1 (strs i.1), .d (.one (.int .i64 i.2.1)), .d (.one (.row 1 (strs [i.2.2])))] : List AV)) j → i = j := by
  rintro ⟨ks, i, s⟩ ⟨ks', i', s'⟩ h
  simp only [Prod.mk.injEq]
  simpa [strs_eq, T.enc_eq, encL_eq, F.enc_eq, encF_eq, Tk.enc_eq, encTk_eq, Gn.enc_eq, ints_eq, Int.natCast_inj] using h
theorem spInsS_md  : (spInsS).md = [true, false, false] := rfl
theorem spInsS_pre  (ks : List ByteArray) (i : Nat) (s : ByteArray) : (spInsS).pre [.own 1 (strs ks), .d (.one (.int .i64 i)), .d (.one (.row 1 (strs [s])))] = (i ≤ ks.length ∧ lenB 1000000 ks.length) := Spec.of_pre' spInsS_inj (ks, i, s)
theorem spInsS_alts  : (spInsS).alts = none := rfl
theorem spInsS_res  (ks : List ByteArray) (i : Nat) (s : ByteArray) : (spInsS).res [.own 1 (strs ks), .d (.one (.int .i64 i)), .d (.one (.row 1 (strs [s])))] = [.own 1 (strs (ks.take i ++ s :: ks.drop i))] := Spec.of_res spInsS_inj (ks, i, s)
theorem spInsS_out  (ks : List ByteArray) (i : Nat) (s : ByteArray) : (spInsS).out [.own 1 (strs ks), .d (.one (.int .i64 i)), .d (.one (.row 1 (strs [s])))] = [.gone, .gone, .gone] := Spec.of_out spInsS_inj (ks, i, s)
theorem InsS_sound : Sound Go.Proofs.Try.prog 71 spInsS := by
  refine sound_fam GOK.nil Go.Proofs.Try.func71 (c := Go.Proofs.Try.f71.body.getD .skip) rfl (n := 95) rfl chk_InsS rs_InsS (fun _ => by simp) ?_ ?_
  · exact spInsS_inj
  · rintro ⟨ks, i, s⟩ ⟨h1, h2⟩
    simp only [lenB] at h1 h2
    simp only [x_InsS]
    refine gh_skip ?_
    have sl : (strs ks).length = ks.length := by simp [strs]
    have s1 : (strs [s]).length = 1 := rfl
    by_cases c : i = ks.length
    · have b1 : ((i : Int) = (ks.length : Int)) = True := eq_true (by omega)
      have e1 : strs ks ++ strs [s] = strs (ks.take i ++ s :: ks.drop i) := by rw [c, List.take_length, List.drop_length]; simp [strs]
      simp only [rg, go_sem, seval, Prod.fst, sl, s1, b1]
      repeat' (first | with_reducible assumption | with_reducible refine And.intro ?_ ?_ | intro _)
      all_goals first | (show _ ≤ (_ : Int); omega) | (show _ < (_ : Int); omega) | (show _ ≤ (_ : Nat); omega) | skip
      refine gh_skip ?_
      simp only [rg, go_sem, seval, Prod.fst, e1]
    · have b1 : ((i : Int) = (ks.length : Int)) = False := eq_false (by omega)
      simp only [rg, go_sem, seval, Prod.fst, sl, s1, b1, capR, Q.toVc]
      repeat' (first | with_reducible assumption | with_reducible refine And.intro ?_ ?_ | intro _)
      all_goals first | (show _ ≤ (_ : Int); omega) | (show _ < (_ : Int); omega) | (show False; omega) | skip
      · -- no room: a new row
        have e2 : ((ks.length : Int) + 1 - i).toNat = ks.length + 1 - i := by omega
        rw [e2] at *
        obtain ⟨A, hA⟩ : ∃ A, List.take i (strs ks) ++ List.replicate (ks.length + 1 - i) [C.str ⟨#[]⟩] = A := ⟨_, rfl⟩
        have hAl : A.length = ks.length + 1 := by rw [← hA, List.length_append, List.length_take, List.length_replicate, sl]; omega
        rw [hA, hAl] at *
        omega
      · have e2 : ((ks.length : Int) + 1 - i).toNat = ks.length + 1 - i := by omega
        rw [e2] at *
        obtain ⟨A, hA⟩ : ∃ A, List.take i (strs ks) ++ List.replicate (ks.length + 1 - i) [C.str ⟨#[]⟩] = A := ⟨_, rfl⟩
        have hAl : A.length = ks.length + 1 := by rw [← hA, List.length_append, List.length_take, List.length_replicate, sl]; omega
        have hAt : A.take i = (strs ks).take i := by rw [← hA]; exact List.take_left' (by rw [List.length_take, sl]; omega)
        rw [hA]
        clear hA
        obtain ⟨B, hB⟩ : ∃ B, List.take i A ++ List.take 1 (strs [s]) ++ List.drop (i + 1) A = B := ⟨_, rfl⟩
        have hBl : B.length = ks.length + 1 := by rw [← hB]; simp only [List.length_append, List.length_take, List.length_drop, hAl, s1]; omega
        have hD : List.take (i + 1) B ++ List.take (ks.length - i) (List.drop i (strs ks)) ++ List.drop (i + 1 + (ks.length - i)) B = strs (ks.take i ++ s :: ks.drop i) := by
          rw [List.drop_of_length_le (l := B) (by omega), List.append_nil, List.take_of_length_le (l := List.drop i (strs ks)) (by rw [List.length_drop, sl]; omega), ← hB, hAt]
          rw [List.take_left' (by simp only [List.length_append, List.length_take, s1, sl]; omega)]
          simp [strs, List.map_take, List.map_drop]
        have m1 : min (ks.length + 1 - i) 1 = 1 := by omega
        have m3 : (i + 1 ≤ ks.length + 1) = True := eq_true (by omega)
        have m4 : (i + 1 + (ks.length - i) ≤ ks.length + 1) = True := eq_true (by omega)
        have m5 : ((i : Int) + 1).toNat = i + 1 := by omega
        simp only [rg, go_sem, seval, Prod.fst, Q.vwOf, PV.srcB, hAl, hB, hBl, hD, m1, m3, m4, m5, sl, s1, Nat.min_self]
        repeat' (first | with_reducible assumption | with_reducible refine And.intro ?_ ?_ | intro _)
        all_goals first | (show _ ≤ (_ : Int); omega) | (show _ < (_ : Int); omega) | (show _ ≤ (_ : Nat); omega) | (show False; omega) | skip
        · rw [List.length_drop, sl]; exact Nat.le_refl _
        refine gh_skip ?_
        simp only [rg, go_sem, seval, Prod.fst]
      · -- room: in place
        have e2 : ((ks.length : Int) + 1).toNat = ks.length + 1 := by omega
        obtain ⟨B, hB⟩ : ∃ B, List.take (i + 1) (strs ks) ++ List.take (ks.length - i) (List.drop i (strs ks)) = B := ⟨_, rfl⟩
        have hBl : B.length = ks.length + 1 := by rw [← hB]; simp only [List.length_append, List.length_take, List.length_drop, sl]; omega
        have hD : List.take i B ++ List.take 1 (strs [s]) ++ List.drop (i + 1) B = strs (ks.take i ++ s :: ks.drop i) := by
          rw [← hB, List.drop_left' (by rw [List.length_take, sl]; omega), List.take_append_of_le_length (by rw [List.length_take, sl]; omega), List.take_take, Nat.min_eq_left (by omega), List.take_of_length_le (l := List.drop i (strs ks)) (by rw [List.length_drop, sl]; exact Nat.le_refl _)]
          simp [strs, List.map_take, List.map_drop]
        have m1 : min (ks.length - i) (ks.length + 1 - i) = ks.length - i := by omega
        have m2 : min (ks.length + 1 - i) 1 = 1 := by omega
        have m3 : (i + 1 + (ks.length - i) ≤ ks.length) = False := eq_false (by omega)
        have m4 : (i + 1 ≤ ks.length + 1) = True := eq_true (by omega)
        have m5 : ((i : Int) + 1).toNat = i + 1 := by omega
        have m6 : (30 < 1000000000) = True := by decide
        simp only [rg, go_sem, seval, Prod.fst, Q.vwOf, PV.srcB, Q.killW, hB, hBl, hD, e2, m1, m2, m3, m4, m5, m6, sl, s1]
        repeat' (first | with_reducible assumption | with_reducible refine And.intro ?_ ?_ | intro _)
        all_goals first | (show _ ≤ (_ : Int); omega) | (show _ < (_ : Int); omega) | (show _ ≤ (_ : Nat); omega) | (show False; omega) | skip
        · rw [List.length_drop, sl]; exact Nat.le_refl _
        have hL : (strs (ks.take i ++ s :: ks.drop i)).length = ks.length + 1 := by rw [← hD]; simp only [List.length_append, List.length_take, List.length_drop, hBl, s1]; omega
        have hT : (strs (ks.take i ++ s :: ks.drop i)).take (ks.length + 1) = strs (ks.take i ++ s :: ks.drop i) := List.take_of_length_le (Nat.le_of_eq hL)
        refine gh_le (Le.cutC (t := 6) (r := 30) (d := 77) (sz := 1) (n := ks.length + 1) rfl rfl (by rw [hL]; exact Nat.le_refl _) (by decide)) ?_
        simp only [rg, go_sem, seval, Prod.fst, hT]
noncomputable def spInsV  : Spec := Spec.of (ι := (List T) × Nat × T) [true, false, false] (fun i => [.own 5 (encL i.1), .d (.one (.int .i64 i.2.1)), .d (.one (.row 5 (encL [i.2.2])))]) (fun i => i.2.1 ≤ i.1.length ∧ lenB 1000000 i.1.length) (fun i => [.own 5 (encL (i.1.take i.2.1 ++ i.2.2 :: i.1.drop i.2.1))]) (fun _ => [.gone, .gone, .gone])
theorem spInsV_inj : ∀ i j : (List T) × Nat × T, (fun (i : (List T) × Nat × T) => ([.own 5 (encL i.1), .d (.one (.int .i64 i.2.1)), .d (.one (.row 5 (encL [i.2.2])))] : List AV)) i = (fun (i : (List T) × Nat × T) => ([.own 5 (encL i.1), .d (.one (.int .i64 i.2.1)), .d (.one (.row 5 (encL [i.2.2])))] : List AV)) j → i = j := by
  rintro ⟨ks, i, s⟩ ⟨ks', i', s'⟩ h
  simp only [Prod.mk.injEq]
  simpa [strs_eq, T.enc_eq, encL_eq, F.enc_eq, encF_eq, Tk.enc_eq, encTk_eq, Gn.enc_eq, ints_eq, Int.natCast_inj] using h
theorem spInsV_md  : (spInsV).md = [true, false, false] := rfl
theorem spInsV_pre  (ks : List T) (i : Nat) (s : T) : (spInsV).pre [.own 5 (encL ks), .d (.one (.int .i64 i)), .d (.one (.row 5 (encL [s])))] = (i ≤ ks.length ∧ lenB 1000000 ks.length) := Spec.of_pre' spInsV_inj (ks, i, s)
theorem spInsV_alts  : (spInsV).alts = none := rfl
theorem spInsV_res  (ks : List T) (i : Nat) (s : T) : (spInsV).res [.own 5 (encL ks), .d (.one (.int .i64 i)), .d (.one (.row 5 (encL [s])))] = [.own 5 (encL (ks.take i ++ s :: ks.drop i))] := Spec.of_res spInsV_inj (ks, i, s)
theorem spInsV_out  (ks : List T) (i : Nat) (s : T) : (spInsV).out [.own 5 (encL ks), .d (.one (.int .i64 i)), .d (.one (.row 5 (encL [s])))] = [.gone, .gone, .gone] := Spec.of_out spInsV_inj (ks, i, s)
theorem InsV_sound : Sound Go.Proofs.Try.prog 72 spInsV := by
  refine sound_fam GOK.nil Go.Proofs.Try.func72 (c := Go.Proofs.Try.f72.body.getD .skip) rfl (n := 95) rfl chk_InsV rs_InsV (fun _ => by simp) ?_ ?_
  · exact spInsV_inj
  · rintro ⟨ks, i, s⟩ ⟨h1, h2⟩
    simp only [lenB] at h1 h2
    simp only [x_InsV]
    refine gh_skip ?_
    have sl : (encL ks).length = ks.length := encL_len ks
    have s1 : (encL [s]).length = 1 := rfl
    by_cases c : i = ks.length
    · have b1 : ((i : Int) = (ks.length : Int)) = True := eq_true (by omega)
      have e1 : encL ks ++ encL [s] = encL (ks.take i ++ s :: ks.drop i) := by rw [c, List.take_length, List.drop_length]; simp [encL_map]
      simp only [rg, go_sem, seval, Prod.fst, sl, s1, b1]
      repeat' (first | with_reducible assumption | with_reducible refine And.intro ?_ ?_ | intro _)
      all_goals first | (show _ ≤ (_ : Int); omega) | (show _ < (_ : Int); omega) | (show _ ≤ (_ : Nat); omega) | skip
      refine gh_skip ?_
      simp only [rg, go_sem, seval, Prod.fst, e1]
    · have b1 : ((i : Int) = (ks.length : Int)) = False := eq_false (by omega)
      simp only [rg, go_sem, seval, Prod.fst, sl, s1, b1, capR, Q.toVc]
      repeat' (first | with_reducible assumption | with_reducible refine And.intro ?_ ?_ | intro _)
      all_goals first | (show _ ≤ (_ : Int); omega) | (show _ < (_ : Int); omega) | (show False; omega) | skip
      · -- no room: a new row
        have e2 : ((ks.length : Int) + 1 - i).toNat = ks.length + 1 - i := by omega
        rw [e2] at *
        obtain ⟨A, hA⟩ : ∃ A, List.take i (encL ks) ++ List.replicate (ks.length + 1 - i) [C.int .i64 0, C.int .i64 0, C.str ⟨#[]⟩, C.row 1 [], C.row 5 []] = A := ⟨_, rfl⟩
        have hAl : A.length = ks.length + 1 := by rw [← hA, List.length_append, List.length_take, List.length_replicate, sl]; omega
        rw [hA, hAl] at *
        omega
      · have e2 : ((ks.length : Int) + 1 - i).toNat = ks.length + 1 - i := by omega
        rw [e2] at *
        obtain ⟨A, hA⟩ : ∃ A, List.take i (encL ks) ++ List.replicate (ks.length + 1 - i) [C.int .i64 0, C.int .i64 0, C.str ⟨#[]⟩, C.row 1 [], C.row 5 []] = A := ⟨_, rfl⟩
        have hAl : A.length = ks.length + 1 := by rw [← hA, List.length_append, List.length_take, List.length_replicate, sl]; omega
        have hAt : A.take i = (encL ks).take i := by rw [← hA]; exact List.take_left' (by rw [List.length_take, sl]; omega)
        rw [hA]
        clear hA
        obtain ⟨B, hB⟩ : ∃ B, List.take i A ++ List.take 1 (encL [s]) ++ List.drop (i + 1) A = B := ⟨_, rfl⟩
        have hBl : B.length = ks.length + 1 := by rw [← hB]; simp only [List.length_append, List.length_take, List.length_drop, hAl, s1]; omega
        have hD : List.take (i + 1) B ++ List.take (ks.length - i) (List.drop i (encL ks)) ++ List.drop (i + 1 + (ks.length - i)) B = encL (ks.take i ++ s :: ks.drop i) := by
          rw [List.drop_of_length_le (l := B) (by omega), List.append_nil, List.take_of_length_le (l := List.drop i (encL ks)) (by rw [List.length_drop, sl]; omega), ← hB, hAt]
          rw [List.take_left' (by simp only [List.length_append, List.length_take, s1, sl]; omega)]
          simp [encL_map, List.map_take, List.map_drop]
        have m1 : min (ks.length + 1 - i) 1 = 1 := by omega
        have m3 : (i + 1 ≤ ks.length + 1) = True := eq_true (by omega)
        have m4 : (i + 1 + (ks.length - i) ≤ ks.length + 1) = True := eq_true (by omega)
        have m5 : ((i : Int) + 1).toNat = i + 1 := by omega
        simp only [rg, go_sem, seval, Prod.fst, Q.vwOf, PV.srcB, hAl, hB, hBl, hD, m1, m3, m4, m5, sl, s1, Nat.min_self]
        repeat' (first | with_reducible assumption | with_reducible refine And.intro ?_ ?_ | intro _)
        all_goals first | (show _ ≤ (_ : Int); omega) | (show _ < (_ : Int); omega) | (show _ ≤ (_ : Nat); omega) | (show False; omega) | skip
        · rw [List.length_drop, sl]; exact Nat.le_refl _
        refine gh_skip ?_
        simp only [rg, go_sem, seval, Prod.fst]
      · -- room: in place
        have e2 : ((ks.length : Int) + 1).toNat = ks.length + 1 := by omega
        obtain ⟨B, hB⟩ : ∃ B, List.take (i + 1) (encL ks) ++ List.take (ks.length - i) (List.drop i (encL ks)) = B := ⟨_, rfl⟩
        have hBl : B.length = ks.length + 1 := by rw [← hB]; simp only [List.length_append, List.length_take, List.length_drop, sl]; omega
        have hD : List.take i B ++ List.take 1 (encL [s]) ++ List.drop (i + 1) B = encL (ks.take i ++ s :: ks.drop i) := by
          rw [← hB, List.drop_left' (by rw [List.length_take, sl]; omega), List.take_append_of_le_length (by rw [List.length_take, sl]; omega), List.take_take, Nat.min_eq_left (by omega), List.take_of_length_le (l := List.drop i (encL ks)) (by rw [List.length_drop, sl]; exact Nat.le_refl _)]
          simp [encL_map, List.map_take, List.map_drop]
        have m1 : min (ks.length - i) (ks.length + 1 - i) = ks.length - i := by omega
        have m2 : min (ks.length + 1 - i) 1 = 1 := by omega
        have m3 : (i + 1 + (ks.length - i) ≤ ks.length) = False := eq_false (by omega)
        have m4 : (i + 1 ≤ ks.length + 1) = True := eq_true (by omega)
        have m5 : ((i : Int) + 1).toNat = i + 1 := by omega
        have m6 : (30 < 1000000000) = True := by decide
        simp only [rg, go_sem, seval, Prod.fst, Q.vwOf, PV.srcB, Q.killW, hB, hBl, hD, e2, m1, m2, m3, m4, m5, m6, sl, s1]
        repeat' (first | with_reducible assumption | with_reducible refine And.intro ?_ ?_ | intro _)
        all_goals first | (show _ ≤ (_ : Int); omega) | (show _ < (_ : Int); omega) | (show _ ≤ (_ : Nat); omega) | (show False; omega) | skip
        · rw [List.length_drop, sl]; exact Nat.le_refl _
        have hL : (encL (ks.take i ++ s :: ks.drop i)).length = ks.length + 1 := by rw [← hD]; simp only [List.length_append, List.length_take, List.length_drop, hBl, s1]; omega
        have hT : (encL (ks.take i ++ s :: ks.drop i)).take (ks.length + 1) = encL (ks.take i ++ s :: ks.drop i) := List.take_of_length_le (Nat.le_of_eq hL)
        refine gh_le (Le.cutC (t := 6) (r := 30) (d := 77) (sz := 5) (n := ks.length + 1) rfl rfl (by rw [hL]; exact Nat.le_refl _) (by decide)) ?_
        simp only [rg, go_sem, seval, Prod.fst, hT]
end Go.Proofs.Pw
