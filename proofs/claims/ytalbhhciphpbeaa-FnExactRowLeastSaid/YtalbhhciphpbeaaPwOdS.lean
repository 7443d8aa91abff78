/- The order of trees: the specification's functions. -/
import Derived.Test.YtalbhhciphpbeaaPwD
import Derived.Test.YtalbhhciphpbeaaProg
import Derived.KernelRfl
set_option linter.unusedSimpArgs false
set_option linter.unusedVariables false
set_option linter.unusedSimpArgs false
set_option maxRecDepth 20000
namespace Go.Proofs.Pw
set_option linter.unusedSectionVars false
variable [Globs]
def x_l1Texts : X := (.seq (.reg [⟨some 4, none, .mv (.k (.c (.int .i64 0)))⟩] none [0, 1]) (.seq (.seq (.reg [⟨some 5, none, .mv (.t 0)⟩, ⟨some 6, none, .mv (.t 1)⟩, ⟨some 7, none, .bin false .lss (.t 5) (.t 6)⟩] none [0, 1, 7]) (.cond (.t 7) (.seq (.reg [⟨some 4, none, .mv (.k (.c (.int .i64 (-1))))⟩] none [4]) .ret) .skip)) (.seq (.seq (.reg [⟨some 8, none, .mv (.t 0)⟩, ⟨some 9, none, .mv (.t 1)⟩, ⟨some 10, none, .bin false .gtr (.t 8) (.t 9)⟩] none [10]) (.cond (.t 10) (.seq (.reg [⟨some 4, none, .mv (.k (.c (.int .i64 1)))⟩] none [4]) .ret) .skip)) (.seq (.reg [⟨some 4, none, .mv (.k (.c (.int .i64 0)))⟩] none [4]) .ret))))
theorem chk_l1Texts : chkX Go.Proofs.Try.prog 11 (Go.Proofs.Try.f70.body.getD .skip) x_l1Texts = true := by kernel_rfl
theorem rs_l1Texts : okRs Go.Proofs.Try.prog Go.Proofs.Try.f70.results.toList [.tmp 4] = true := by kernel_rfl
theorem call_l1Texts : okCallee Go.Proofs.Try.prog 70 = true := by kernel_rfl
def x_l1Max : X := (.seq (.reg [⟨some 4, none, .mv (.k (.c (.int .i64 0)))⟩] none [0, 1]) (.seq (.seq (.reg [⟨some 5, none, .mv (.t 0)⟩, ⟨some 6, none, .mv (.t 1)⟩, ⟨some 7, none, .bin false .gtr (.t 5) (.t 6)⟩] none [0, 1, 7]) (.cond (.t 7) (.seq (.reg [⟨some 8, none, .mv (.t 0)⟩, ⟨some 4, none, .mv (.t 8)⟩] none [4]) .ret) .skip)) (.seq (.reg [⟨some 9, none, .mv (.t 1)⟩, ⟨some 4, none, .mv (.t 9)⟩] none [4]) .ret)))
theorem chk_l1Max : chkX Go.Proofs.Try.prog 10 (Go.Proofs.Try.f78.body.getD .skip) x_l1Max = true := by kernel_rfl
theorem rs_l1Max : okRs Go.Proofs.Try.prog Go.Proofs.Try.f78.results.toList [.tmp 4] = true := by kernel_rfl
theorem call_l1Max : okCallee Go.Proofs.Try.prog 78 = true := by kernel_rfl
def x_l1Min : X := (.seq (.reg [⟨some 4, none, .mv (.k (.c (.int .i64 0)))⟩] none [0, 1]) (.seq (.seq (.reg [⟨some 5, none, .mv (.t 0)⟩, ⟨some 6, none, .mv (.t 1)⟩, ⟨some 7, none, .bin false .lss (.t 5) (.t 6)⟩] none [0, 1, 7]) (.cond (.t 7) (.seq (.reg [⟨some 8, none, .mv (.t 0)⟩, ⟨some 4, none, .mv (.t 8)⟩] none [4]) .ret) .skip)) (.seq (.reg [⟨some 9, none, .mv (.t 1)⟩, ⟨some 4, none, .mv (.t 9)⟩] none [4]) .ret)))
theorem chk_l1Min : chkX Go.Proofs.Try.prog 10 (Go.Proofs.Try.f79.body.getD .skip) x_l1Min = true := by kernel_rfl
theorem rs_l1Min : okRs Go.Proofs.Try.prog Go.Proofs.Try.f79.results.toList [.tmp 4] = true := by kernel_rfl
theorem call_l1Min : okCallee Go.Proofs.Try.prog 79 = true := by kernel_rfl
noncomputable def spMax  : Spec := Spec.of (ι := Int × Int) [false, false] (fun i => [.d (.one (.int .i64 i.1)), .d (.one (.int .i64 i.2))]) (fun _ => True) (fun i => [.d (.one (.int .i64 (if i.2 < i.1 then i.1 else i.2)))]) (fun _ => [.gone, .gone])
theorem spMax_inj : ∀ i j : Int × Int, (fun (i : Int × Int) => ([.d (.one (.int .i64 i.1)), .d (.one (.int .i64 i.2))] : List AV)) i = (fun (i : Int × Int) => ([.d (.one (.int .i64 i.1)), .d (.one (.int .i64 i.2))] : List AV)) j → i = j := by
  rintro ⟨a, b⟩ ⟨a', b'⟩ h
  simp only [Prod.mk.injEq]
  simpa [strs_eq, T.enc_eq, encL_eq, F.enc_eq, encF_eq, Tk.enc_eq, encTk_eq, Gn.enc_eq, ints_eq] using h
theorem spMax_md  : (spMax).md = [false, false] := rfl
theorem spMax_pre  (a : Int) (b : Int) : (spMax).pre [.d (.one (.int .i64 a)), .d (.one (.int .i64 b))] = (True) := Spec.of_pre' spMax_inj (a, b)
theorem spMax_alts  : (spMax).alts = none := rfl
theorem spMax_res  (a : Int) (b : Int) : (spMax).res [.d (.one (.int .i64 a)), .d (.one (.int .i64 b))] = [.d (.one (.int .i64 (if b < a then a else b)))] := Spec.of_res spMax_inj (a, b)
theorem spMax_out  (a : Int) (b : Int) : (spMax).out [.d (.one (.int .i64 a)), .d (.one (.int .i64 b))] = [.gone, .gone] := Spec.of_out spMax_inj (a, b)
theorem l1Max_sound : Sound Go.Proofs.Try.prog 78 spMax := by
  refine sound_fam GOK.nil Go.Proofs.Try.func78 (c := Go.Proofs.Try.f78.body.getD .skip) rfl (n := 10) rfl chk_l1Max rs_l1Max (fun _ => by simp) ?_ ?_
  · exact spMax_inj
  · rintro ⟨a, b⟩ _
    by_cases c : b < a
    · have a1 : (b < a) = True := eq_true c
      simp only [x_l1Max, rg, go_sem, seval, a1]
      try repeat' (first | with_reducible assumption | with_reducible refine And.intro ?_ ?_ | intro _)
    · have a1 : (b < a) = False := eq_false c
      simp only [x_l1Max, rg, go_sem, seval, a1]
      try repeat' (first | with_reducible assumption | with_reducible refine And.intro ?_ ?_ | intro _)
noncomputable def spMin  : Spec := Spec.of (ι := Int × Int) [false, false] (fun i => [.d (.one (.int .i64 i.1)), .d (.one (.int .i64 i.2))]) (fun _ => True) (fun i => [.d (.one (.int .i64 (if i.1 < i.2 then i.1 else i.2)))]) (fun _ => [.gone, .gone])
theorem spMin_inj : ∀ i j : Int × Int, (fun (i : Int × Int) => ([.d (.one (.int .i64 i.1)), .d (.one (.int .i64 i.2))] : List AV)) i = (fun (i : Int × Int) => ([.d (.one (.int .i64 i.1)), .d (.one (.int .i64 i.2))] : List AV)) j → i = j := by
  rintro ⟨a, b⟩ ⟨a', b'⟩ h
  simp only [Prod.mk.injEq]
  simpa [strs_eq, T.enc_eq, encL_eq, F.enc_eq, encF_eq, Tk.enc_eq, encTk_eq, Gn.enc_eq, ints_eq] using h
theorem spMin_md  : (spMin).md = [false, false] := rfl
theorem spMin_pre  (a : Int) (b : Int) : (spMin).pre [.d (.one (.int .i64 a)), .d (.one (.int .i64 b))] = (True) := Spec.of_pre' spMin_inj (a, b)
theorem spMin_alts  : (spMin).alts = none := rfl
theorem spMin_res  (a : Int) (b : Int) : (spMin).res [.d (.one (.int .i64 a)), .d (.one (.int .i64 b))] = [.d (.one (.int .i64 (if a < b then a else b)))] := Spec.of_res spMin_inj (a, b)
theorem spMin_out  (a : Int) (b : Int) : (spMin).out [.d (.one (.int .i64 a)), .d (.one (.int .i64 b))] = [.gone, .gone] := Spec.of_out spMin_inj (a, b)
theorem l1Min_sound : Sound Go.Proofs.Try.prog 79 spMin := by
  refine sound_fam GOK.nil Go.Proofs.Try.func79 (c := Go.Proofs.Try.f79.body.getD .skip) rfl (n := 10) rfl chk_l1Min rs_l1Min (fun _ => by simp) ?_ ?_
  · exact spMin_inj
  · rintro ⟨a, b⟩ _
    by_cases c : a < b
    · have a1 : (a < b) = True := eq_true c
      simp only [x_l1Min, rg, go_sem, seval, a1]
      try repeat' (first | with_reducible assumption | with_reducible refine And.intro ?_ ?_ | intro _)
    · have a1 : (a < b) = False := eq_false c
      simp only [x_l1Min, rg, go_sem, seval, a1]
      try repeat' (first | with_reducible assumption | with_reducible refine And.intro ?_ ?_ | intro _)
noncomputable def spTexts  : Spec := Spec.of (ι := ByteArray × ByteArray) [false, false] (fun i => [.d (.one (.str i.1)), .d (.one (.str i.2))]) (fun _ => True) (fun i => [.d (.one (.int .i64 (cmpS i.1 i.2)))]) (fun _ => [.gone, .gone])
theorem spTexts_inj : ∀ i j : ByteArray × ByteArray, (fun (i : ByteArray × ByteArray) => ([.d (.one (.str i.1)), .d (.one (.str i.2))] : List AV)) i = (fun (i : ByteArray × ByteArray) => ([.d (.one (.str i.1)), .d (.one (.str i.2))] : List AV)) j → i = j := by
  rintro ⟨a, b⟩ ⟨a', b'⟩ h
  simp only [Prod.mk.injEq]
  simpa [strs_eq, T.enc_eq, encL_eq, F.enc_eq, encF_eq, Tk.enc_eq, encTk_eq, Gn.enc_eq, ints_eq] using h
theorem spTexts_md  : (spTexts).md = [false, false] := rfl
theorem spTexts_pre  (a : ByteArray) (b : ByteArray) : (spTexts).pre [.d (.one (.str a)), .d (.one (.str b))] = (True) := Spec.of_pre' spTexts_inj (a, b)
theorem spTexts_alts  : (spTexts).alts = none := rfl
theorem spTexts_res  (a : ByteArray) (b : ByteArray) : (spTexts).res [.d (.one (.str a)), .d (.one (.str b))] = [.d (.one (.int .i64 (cmpS a b)))] := Spec.of_res spTexts_inj (a, b)
theorem spTexts_out  (a : ByteArray) (b : ByteArray) : (spTexts).out [.d (.one (.str a)), .d (.one (.str b))] = [.gone, .gone] := Spec.of_out spTexts_inj (a, b)
theorem l1Texts_sound : Sound Go.Proofs.Try.prog 70 spTexts := by
  refine sound_fam GOK.nil Go.Proofs.Try.func70 (c := Go.Proofs.Try.f70.body.getD .skip) rfl (n := 11) rfl chk_l1Texts rs_l1Texts (fun _ => by simp) ?_ ?_
  · exact spTexts_inj
  · rintro ⟨a, b⟩ _
    simp only [x_l1Texts, rg, go_sem, seval, cmpS]
    repeat' (first | with_reducible assumption | with_reducible refine And.intro ?_ ?_ | intro _)
    · rename_i h
      rw [if_pos h]
    · rename_i h k
      rw [if_neg h, if_pos]
      rcases sl_or a b with h' | h' | h'
      · exact absurd h' h
      · exact absurd (.inr h') k
      · exact h'
    · rename_i h k
      rw [if_neg h, if_neg]
      intro h'
      exact k (fun hh => (sl_tri a b).2 h' hh)
def x_l1Lists : X := (.seq (.reg [⟨some 4, none, .mv (.k (.c (.int .i64 0)))⟩] none [0, 1]) (.seq (.seq (.reg [⟨some 5, none, .mv (.k (.c (.int .i64 0)))⟩] none [0, 1, 5]) (.block 0 (.loop (.seq (.seq (.reg [⟨some 7, none, .mv (.t 5)⟩, ⟨some 8, none, .mv (.t 0)⟩, ⟨some 9, none, .len (.t 8) false⟩, ⟨some 10, none, .bin false .lss (.t 7) (.t 9)⟩, ⟨some 11, none, .mv (.t 10)⟩, ⟨some 12, some (11, true), .mv (.t 5)⟩, ⟨some 13, some (11, true), .mv (.t 1)⟩, ⟨some 14, some (11, true), .len (.t 13) false⟩, ⟨some 15, some (11, true), .bin false .lss (.t 12) (.t 14)⟩, ⟨some 16, none, .pick (.t 11) (.t 15) (.k (.c (.bool false)))⟩] none [0, 1, 5, 16]) (.cond (.t 16) .skip (.exit 0))) (.seq (.block 1 (.seq (.reg [⟨some 19, none, .mv (.t 0)⟩, ⟨some 20, none, .mv (.t 5)⟩, ⟨some 21, none, .ia (.t 19) (.t 20) 1⟩, ⟨some 22, none, .load (.t 21) none⟩, ⟨some 23, none, .mv (.t 1)⟩, ⟨some 24, none, .mv (.t 5)⟩, ⟨some 25, none, .ia (.t 23) (.t 24) 1⟩, ⟨some 26, none, .load (.t 25) none⟩, ⟨some 27, none, .call 70 [(.t 22), (.t 26)]⟩, ⟨some 6, none, .mv (.t 27)⟩] (some 8) [0, 1, 5, 6]) (.seq (.reg [⟨some 28, none, .mv (.t 6)⟩, ⟨some 29, none, .bin false .neq (.t 28) (.k (.c (.int .i64 0)))⟩] none [0, 1, 5, 6, 29]) (.cond (.t 29) (.seq (.reg [⟨some 30, none, .mv (.t 6)⟩, ⟨some 4, none, .mv (.t 30)⟩] none [4]) .ret) .skip)))) (.reg [⟨some 17, none, .mv (.t 5)⟩, ⟨some 18, none, .bin false .add (.t 17) (.k (.c (.int .i64 1)))⟩, ⟨some 5, none, .mv (.t 18)⟩] none [0, 1, 5])))))) (.seq (.reg [⟨some 31, none, .mv (.t 0)⟩, ⟨some 32, none, .len (.t 31) false⟩, ⟨some 33, none, .mv (.t 1)⟩, ⟨some 34, none, .len (.t 33) false⟩, ⟨some 35, none, .bin false .sub (.t 32) (.t 34)⟩, ⟨some 36, none, .call 79 [(.k (.c (.int .i64 1))), (.t 35)]⟩, ⟨some 37, none, .call 78 [(.k (.c (.int .i64 (-1)))), (.t 36)]⟩, ⟨some 4, none, .mv (.t 37)⟩] none [4]) .ret)))
theorem chk_l1Lists : chkX Go.Proofs.Try.prog 38 (Go.Proofs.Try.f71.body.getD .skip) x_l1Lists = true := by kernel_rfl
theorem rs_l1Lists : okRs Go.Proofs.Try.prog Go.Proofs.Try.f71.results.toList [.tmp 4] = true := by kernel_rfl
theorem call_l1Lists : okCallee Go.Proofs.Try.prog 71 = true := by kernel_rfl
theorem cmpL_drop {α : Type} {f : α → α → Int} {a b : List α} {i : Nat} {x y : α} (hx : a[i]? = some x) (hy : b[i]? = some y) : cmpL f (a.drop i) (b.drop i) = thenI (f x y) (cmpL f (a.drop (i + 1)) (b.drop (i + 1))) := by
  obtain ⟨h1, rfl⟩ := List.getElem?_eq_some_iff.1 hx
  obtain ⟨h2, rfl⟩ := List.getElem?_eq_some_iff.1 hy
  rw [List.drop_eq_getElem_cons h1, List.drop_eq_getElem_cons h2]
  rfl
theorem cmpL_end {α : Type} {f : α → α → Int} {a b : List α} {i : Nat} (hi : i ≤ a.length) (hj : i ≤ b.length) (h : ¬ (i < a.length ∧ i < b.length)) : cmpL f (a.drop i) (b.drop i) = (if (if (1 : Int) < (a.length : Int) - b.length then 1 else (a.length : Int) - b.length) < -1 then -1 else (if (1 : Int) < (a.length : Int) - b.length then 1 else (a.length : Int) - b.length)) := by
  by_cases h1 : i < a.length
  · have h2 : b.length = i := by omega
    have e : b.drop i = [] := List.drop_of_length_le (by omega)
    rw [List.drop_eq_getElem_cons h1, e]
    show (1 : Int) = _
    (repeat' split) <;> omega
  · have e : a.drop i = [] := List.drop_of_length_le (by omega)
    rw [e]
    by_cases h3 : i < b.length
    · rw [List.drop_eq_getElem_cons h3]
      show (-1 : Int) = _
      (repeat' split) <;> omega
    · have e' : b.drop i = [] := List.drop_of_length_le (by omega)
      rw [e']
      show (0 : Int) = _
      (repeat' split) <;> omega
noncomputable def spLists  : Spec := Spec.of (ι := (List ByteArray) × (List ByteArray)) [false, false] (fun i => [.d (.one (.row 1 (strs i.1))), .d (.one (.row 1 (strs i.2)))]) (fun i => lenB 140737488355328 i.1.length ∧ lenB 140737488355328 i.2.length) (fun i => [.d (.one (.int .i64 (cmpL cmpS i.1 i.2)))]) (fun _ => [.gone, .gone])
theorem spLists_inj : ∀ i j : (List ByteArray) × (List ByteArray), (fun (i : (List ByteArray) × (List ByteArray)) => ([.d (.one (.row 1 (strs i.1))), .d (.one (.row 1 (strs i.2)))] : List AV)) i = (fun (i : (List ByteArray) × (List ByteArray)) => ([.d (.one (.row 1 (strs i.1))), .d (.one (.row 1 (strs i.2)))] : List AV)) j → i = j := by
  rintro ⟨a, b⟩ ⟨a', b'⟩ h
  simp only [Prod.mk.injEq]
  simpa [strs_eq, T.enc_eq, encL_eq, F.enc_eq, encF_eq, Tk.enc_eq, encTk_eq, Gn.enc_eq, ints_eq] using h
theorem spLists_md  : (spLists).md = [false, false] := rfl
theorem spLists_pre  (a : List ByteArray) (b : List ByteArray) : (spLists).pre [.d (.one (.row 1 (strs a))), .d (.one (.row 1 (strs b)))] = (lenB 140737488355328 a.length ∧ lenB 140737488355328 b.length) := Spec.of_pre' spLists_inj (a, b)
theorem spLists_alts  : (spLists).alts = none := rfl
theorem spLists_res  (a : List ByteArray) (b : List ByteArray) : (spLists).res [.d (.one (.row 1 (strs a))), .d (.one (.row 1 (strs b)))] = [.d (.one (.int .i64 (cmpL cmpS a b)))] := Spec.of_res spLists_inj (a, b)
theorem spLists_out  (a : List ByteArray) (b : List ByteArray) : (spLists).out [.d (.one (.row 1 (strs a))), .d (.one (.row 1 (strs b)))] = [.gone, .gone] := Spec.of_out spLists_inj (a, b)
theorem l1Lists_sound : Sound Go.Proofs.Try.prog 71 spLists := by
  refine sound_fam (GOK.cons (l := [(78, spMax), (70, spTexts)]) call_l1Min l1Min_sound (GOK.cons call_l1Max l1Max_sound (GOK.cons call_l1Texts l1Texts_sound GOK.nil))) Go.Proofs.Try.func71 (c := Go.Proofs.Try.f71.body.getD .skip) rfl (n := 38) rfl chk_l1Lists rs_l1Lists (fun _ => by simp) ?_ ?_
  · exact spLists_inj
  · rintro ⟨a, b⟩ ⟨h1, h2⟩
    simp only [lenB] at h1 h2
    simp only [x_l1Lists, rg, go_sem, seval]
    refine pw_loop (ι := Nat) (fun i => a.length - i) (fun i => i ≤ a.length ∧ i ≤ b.length ∧ cmpL cmpS a b = cmpL cmpS (a.drop i) (b.drop i))
      (fun i => ⟨[(0, .q (.c (.row 1 (strs a)))), (1, .q (.c (.row 1 (strs b)))), (5, .q (.c (.int .i64 i)))], [], []⟩) 0 ⟨Nat.zero_le _, Nat.zero_le _, rfl⟩ (Le.refl _) ?_
    rintro i ⟨g1, g2, g3⟩
    by_cases c : i < a.length ∧ i < b.length
    · obtain ⟨x, hx, _, _⟩ := drop_at c.1
      obtain ⟨y, hy, _, _⟩ := drop_at c.2
      have a1 := strs_at hx
      have a2 := strs_at hy
      have a3 : ((i : Int) < (a.length : Int)) = True := eq_true (by omega)
      have a4 : ((i : Int) < (b.length : Int)) = True := eq_true (by omega)
      rw [cmpL_drop hx hy] at g3
      simp only [go_sem, seval, rg, a1, a2, a3, a4, strs_len, spTexts_md, spTexts_pre, spTexts_alts, spTexts_res, spTexts_out]
      repeat' (first | with_reducible assumption | with_reducible refine And.intro ?_ ?_ | intro _)
      all_goals first | omega | skip
      · rename_i hne
        rw [g3]; unfold thenI; rw [if_neg hne]
      · rename_i hne _
        exact ⟨i + 1, ⟨by omega, by omega, by rw [g3]; unfold thenI; rw [if_pos (Classical.not_not.1 hne)]⟩, by omega, Le.refl _⟩
    · rw [cmpL_end g1 g2 c] at g3
      by_cases c1 : i < a.length
      · have a3 : ((i : Int) < (a.length : Int)) = True := eq_true (by omega)
        have a4 : ((i : Int) < (b.length : Int)) = False := eq_false (by omega)
        simp only [go_sem, seval, rg, a3, a4, strs_len, spMin_md, spMin_pre, spMin_alts, spMin_res, spMin_out, spMax_md, spMax_pre, spMax_alts, spMax_res, spMax_out, g3]
        repeat' (first | with_reducible assumption | with_reducible refine And.intro ?_ ?_ | intro _)
        all_goals first | omega | skip
      · have a3 : ((i : Int) < (a.length : Int)) = False := eq_false (by omega)
        simp only [go_sem, seval, rg, a3, strs_len, spMin_md, spMin_pre, spMin_alts, spMin_res, spMin_out, spMax_md, spMax_pre, spMax_alts, spMax_res, spMax_out, g3]
        repeat' (first | with_reducible assumption | with_reducible refine And.intro ?_ ?_ | intro _)
        all_goals first | omega | skip
def x_l1Rows : X := (.seq (.reg [⟨some 4, none, .mv (.k (.c (.int .i64 0)))⟩] none [0, 1]) (.seq (.seq (.reg [⟨some 5, none, .mv (.k (.c (.int .i64 0)))⟩] none [0, 1, 5]) (.block 0 (.loop (.seq (.seq (.reg [⟨some 7, none, .mv (.t 5)⟩, ⟨some 8, none, .mv (.t 0)⟩, ⟨some 9, none, .len (.t 8) false⟩, ⟨some 10, none, .bin false .lss (.t 7) (.t 9)⟩, ⟨some 11, none, .mv (.t 10)⟩, ⟨some 12, some (11, true), .mv (.t 5)⟩, ⟨some 13, some (11, true), .mv (.t 1)⟩, ⟨some 14, some (11, true), .len (.t 13) false⟩, ⟨some 15, some (11, true), .bin false .lss (.t 12) (.t 14)⟩, ⟨some 16, none, .pick (.t 11) (.t 15) (.k (.c (.bool false)))⟩] none [0, 1, 5, 16]) (.cond (.t 16) .skip (.exit 0))) (.seq (.block 1 (.seq (.reg [⟨some 19, none, .mv (.t 0)⟩, ⟨some 20, none, .mv (.t 5)⟩, ⟨some 21, none, .ia (.t 19) (.t 20) 5⟩, ⟨some 22, none, .load (.t 21) (some 5)⟩, ⟨some 23, none, .mv (.t 1)⟩, ⟨some 24, none, .mv (.t 5)⟩, ⟨some 25, none, .ia (.t 23) (.t 24) 5⟩, ⟨some 26, none, .load (.t 25) (some 5)⟩, ⟨some 27, none, .call 61 [(.t 22), (.t 26)]⟩, ⟨some 6, none, .mv (.t 27)⟩] (some 8) [0, 1, 5, 6]) (.seq (.reg [⟨some 28, none, .mv (.t 6)⟩, ⟨some 29, none, .bin false .neq (.t 28) (.k (.c (.int .i64 0)))⟩] none [0, 1, 5, 6, 29]) (.cond (.t 29) (.seq (.reg [⟨some 30, none, .mv (.t 6)⟩, ⟨some 4, none, .mv (.t 30)⟩] none [4]) .ret) .skip)))) (.reg [⟨some 17, none, .mv (.t 5)⟩, ⟨some 18, none, .bin false .add (.t 17) (.k (.c (.int .i64 1)))⟩, ⟨some 5, none, .mv (.t 18)⟩] none [0, 1, 5])))))) (.seq (.reg [⟨some 31, none, .mv (.t 0)⟩, ⟨some 32, none, .len (.t 31) false⟩, ⟨some 33, none, .mv (.t 1)⟩, ⟨some 34, none, .len (.t 33) false⟩, ⟨some 35, none, .bin false .sub (.t 32) (.t 34)⟩, ⟨some 36, none, .call 79 [(.k (.c (.int .i64 1))), (.t 35)]⟩, ⟨some 37, none, .call 78 [(.k (.c (.int .i64 (-1)))), (.t 36)]⟩, ⟨some 4, none, .mv (.t 37)⟩] none [4]) .ret)))
theorem chk_l1Rows : chkX Go.Proofs.Try.prog 38 (Go.Proofs.Try.f72.body.getD .skip) x_l1Rows = true := by kernel_rfl
theorem rs_l1Rows : okRs Go.Proofs.Try.prog Go.Proofs.Try.f72.results.toList [.tmp 4] = true := by kernel_rfl
theorem call_l1Rows : okCallee Go.Proofs.Try.prog 72 = true := by kernel_rfl
def x_ValOrder : X := (.seq (.reg [⟨some 2, none, .box (.t 0) (some 5)⟩, ⟨some 3, none, .box (.t 1) (some 5)⟩, ⟨some 4, none, .mv (.k (.c (.int .i64 0)))⟩] none [2, 3]) (.seq (.block 0 (.seq (.reg [⟨some 7, none, .fa (.t 2) 0⟩, ⟨some 8, none, .load (.t 7) none⟩, ⟨some 9, none, .fa (.t 3) 0⟩, ⟨some 10, none, .load (.t 9) none⟩, ⟨some 11, none, .bin false .lss (.t 8) (.t 10)⟩, ⟨some 6, none, .mv (.t 11)⟩] none [2, 3, 6]) (.cond (.t 6) (.seq (.reg [⟨some 4, none, .mv (.k (.c (.int .i64 (-1))))⟩] none [4]) .ret) (.seq (.reg [⟨some 13, none, .fa (.t 2) 0⟩, ⟨some 14, none, .load (.t 13) none⟩, ⟨some 15, none, .fa (.t 3) 0⟩, ⟨some 16, none, .load (.t 15) none⟩, ⟨some 17, none, .bin false .gtr (.t 14) (.t 16)⟩, ⟨some 12, none, .mv (.t 17)⟩] none [2, 3, 12]) (.cond (.t 12) (.seq (.reg [⟨some 4, none, .mv (.k (.c (.int .i64 1)))⟩] none [4]) .ret) (.seq (.reg [⟨some 19, none, .fa (.t 2) 1⟩, ⟨some 20, none, .load (.t 19) none⟩, ⟨some 21, none, .fa (.t 3) 1⟩, ⟨some 22, none, .load (.t 21) none⟩, ⟨some 23, none, .bin false .lss (.t 20) (.t 22)⟩, ⟨some 18, none, .mv (.t 23)⟩] none [2, 3, 18]) (.cond (.t 18) (.seq (.reg [⟨some 4, none, .mv (.k (.c (.int .i64 (-1))))⟩] none [4]) .ret) (.seq (.reg [⟨some 25, none, .fa (.t 2) 1⟩, ⟨some 26, none, .load (.t 25) none⟩, ⟨some 27, none, .fa (.t 3) 1⟩, ⟨some 28, none, .load (.t 27) none⟩, ⟨some 29, none, .bin false .gtr (.t 26) (.t 28)⟩, ⟨some 24, none, .mv (.t 29)⟩] none [2, 3, 24]) (.cond (.t 24) (.seq (.reg [⟨some 4, none, .mv (.k (.c (.int .i64 1)))⟩] none [4]) .ret) (.seq (.reg [⟨some 31, none, .fa (.t 2) 2⟩, ⟨some 32, none, .load (.t 31) none⟩, ⟨some 33, none, .fa (.t 3) 2⟩, ⟨some 34, none, .load (.t 33) none⟩, ⟨some 35, none, .bin false .neq (.t 32) (.t 34)⟩, ⟨some 30, none, .mv (.t 35)⟩] none [2, 3, 30]) (.cond (.t 30) (.seq (.reg [⟨some 36, none, .fa (.t 2) 2⟩, ⟨some 37, none, .load (.t 36) none⟩, ⟨some 38, none, .fa (.t 3) 2⟩, ⟨some 39, none, .load (.t 38) none⟩, ⟨some 40, none, .call 70 [(.t 37), (.t 39)]⟩, ⟨some 4, none, .mv (.t 40)⟩] none [4]) .ret) .skip))))))))))) (.seq (.reg [⟨some 41, none, .fa (.t 2) 3⟩, ⟨some 42, none, .load (.t 41) none⟩, ⟨some 43, none, .fa (.t 3) 3⟩, ⟨some 44, none, .load (.t 43) none⟩, ⟨some 45, none, .call 71 [(.t 42), (.t 44)]⟩, ⟨some 5, none, .mv (.t 45)⟩] none [2, 3, 5]) (.seq (.seq (.reg [⟨some 46, none, .mv (.t 5)⟩, ⟨some 47, none, .bin false .neq (.t 46) (.k (.c (.int .i64 0)))⟩] none [2, 3, 5, 47]) (.cond (.t 47) (.seq (.reg [⟨some 48, none, .mv (.t 5)⟩, ⟨some 4, none, .mv (.t 48)⟩] none [4]) .ret) .skip)) (.seq (.reg [⟨some 49, none, .fa (.t 2) 4⟩, ⟨some 50, none, .load (.t 49) none⟩, ⟨some 51, none, .fa (.t 3) 4⟩, ⟨some 52, none, .load (.t 51) none⟩, ⟨some 53, none, .call 72 [(.t 50), (.t 52)]⟩, ⟨some 4, none, .mv (.t 53)⟩] none [4]) .ret)))))
theorem chk_ValOrder : chkX Go.Proofs.Try.prog 54 (Go.Proofs.Try.f61.body.getD .skip) x_ValOrder = true := by kernel_rfl
theorem rs_ValOrder : okRs Go.Proofs.Try.prog Go.Proofs.Try.f61.results.toList [.tmp 4] = true := by kernel_rfl
theorem call_ValOrder : okCallee Go.Proofs.Try.prog 61 = true := by kernel_rfl
theorem cmpTL_eq : ∀ (a b : List T), cmpTL a b = cmpL cmpT a b
  | [], [] => rfl
  | [], _ :: _ => rfl
  | _ :: _, [] => rfl
  | a :: x, b :: y => by simp only [cmpTL, cmpL, cmpTL_eq x y]
noncomputable def spOrd (k:Nat) : Spec := Spec.of (ι := T × T) [false, false] (fun i => [.d (.agg i.1.enc), .d (.agg i.2.enc)]) (fun i => (i.1.fit 140737488355328 ∧ i.2.fit 140737488355328) ∧ SizeOf.sizeOf i.1 < k) (fun i => [.d (.one (.int .i64 (cmpT i.1 i.2)))]) (fun _ => [.gone, .gone])
theorem spOrd_inj : ∀ i j : T × T, (fun (i : T × T) => ([.d (.agg i.1.enc), .d (.agg i.2.enc)] : List AV)) i = (fun (i : T × T) => ([.d (.agg i.1.enc), .d (.agg i.2.enc)] : List AV)) j → i = j := by
  rintro ⟨a, b⟩ ⟨a', b'⟩ h
  simp only [Prod.mk.injEq]
  simpa [strs_eq, T.enc_eq, encL_eq, F.enc_eq, encF_eq, Tk.enc_eq, encTk_eq, Gn.enc_eq, ints_eq] using h
theorem spOrd_md (k:Nat) : (spOrd k).md = [false, false] := rfl
theorem spOrd_pre (k:Nat) (a : T) (b : T) : (spOrd k).pre [.d (.agg a.enc), .d (.agg b.enc)] = ((a.fit 140737488355328 ∧ b.fit 140737488355328) ∧ SizeOf.sizeOf a < k) := Spec.of_pre' spOrd_inj (a, b)
theorem spOrd_alts (k:Nat) : (spOrd k).alts = none := rfl
theorem spOrd_res (k:Nat) (a : T) (b : T) : (spOrd k).res [.d (.agg a.enc), .d (.agg b.enc)] = [.d (.one (.int .i64 (cmpT a b)))] := Spec.of_res spOrd_inj (a, b)
theorem spOrd_out (k:Nat) (a : T) (b : T) : (spOrd k).out [.d (.agg a.enc), .d (.agg b.enc)] = [.gone, .gone] := Spec.of_out spOrd_inj (a, b)
noncomputable def spRows (k:Nat) : Spec := Spec.of (ι := (List T) × (List T)) [false, false] (fun i => [.d (.one (.row 5 (encL i.1))), .d (.one (.row 5 (encL i.2)))]) (fun i => ((lenB 140737488355328 i.1.length ∧ fitL 140737488355328 i.1) ∧ lenB 140737488355328 i.2.length ∧ fitL 140737488355328 i.2) ∧ SizeOf.sizeOf i.1 < k) (fun i => [.d (.one (.int .i64 (cmpTL i.1 i.2)))]) (fun _ => [.gone, .gone])
theorem spRows_inj : ∀ i j : (List T) × (List T), (fun (i : (List T) × (List T)) => ([.d (.one (.row 5 (encL i.1))), .d (.one (.row 5 (encL i.2)))] : List AV)) i = (fun (i : (List T) × (List T)) => ([.d (.one (.row 5 (encL i.1))), .d (.one (.row 5 (encL i.2)))] : List AV)) j → i = j := by
  rintro ⟨a, b⟩ ⟨a', b'⟩ h
  simp only [Prod.mk.injEq]
  simpa [strs_eq, T.enc_eq, encL_eq, F.enc_eq, encF_eq, Tk.enc_eq, encTk_eq, Gn.enc_eq, ints_eq] using h
theorem spRows_md (k:Nat) : (spRows k).md = [false, false] := rfl
theorem spRows_pre (k:Nat) (a : List T) (b : List T) : (spRows k).pre [.d (.one (.row 5 (encL a))), .d (.one (.row 5 (encL b)))] = (((lenB 140737488355328 a.length ∧ fitL 140737488355328 a) ∧ lenB 140737488355328 b.length ∧ fitL 140737488355328 b) ∧ SizeOf.sizeOf a < k) := Spec.of_pre' spRows_inj (a, b)
theorem spRows_alts (k:Nat) : (spRows k).alts = none := rfl
theorem spRows_res (k:Nat) (a : List T) (b : List T) : (spRows k).res [.d (.one (.row 5 (encL a))), .d (.one (.row 5 (encL b)))] = [.d (.one (.int .i64 (cmpTL a b)))] := Spec.of_res spRows_inj (a, b)
theorem spRows_out (k:Nat) (a : List T) (b : List T) : (spRows k).out [.d (.one (.row 5 (encL a))), .d (.one (.row 5 (encL b)))] = [.gone, .gone] := Spec.of_out spRows_inj (a, b)
theorem l1Rows_sound (k : Nat) (hS : Sound Go.Proofs.Try.prog 61 (spOrd k)) : Sound Go.Proofs.Try.prog 72 (spRows k) := by
  refine sound_fam (GOK.cons (l := [(78, spMax), (61, spOrd k)]) call_l1Min l1Min_sound (GOK.cons call_l1Max l1Max_sound (GOK.cons call_ValOrder hS GOK.nil))) Go.Proofs.Try.func72 (c := Go.Proofs.Try.f72.body.getD .skip) rfl (n := 38) rfl chk_l1Rows rs_l1Rows (fun _ => by simp) ?_ ?_
  · exact spRows_inj
  · rintro ⟨a, b⟩ ⟨⟨⟨h1, h3⟩, h2, h4⟩, h5⟩
    simp only [lenB] at h1 h2
    simp only at h3 h4 h5
    simp only [x_l1Rows, rg, go_sem, seval, cmpTL_eq]
    refine pw_loop (ι := Nat) (fun i => a.length - i) (fun i => i ≤ a.length ∧ i ≤ b.length ∧ cmpL cmpT a b = cmpL cmpT (a.drop i) (b.drop i))
      (fun i => ⟨[(0, .q (.c (.row 5 (encL a)))), (1, .q (.c (.row 5 (encL b)))), (5, .q (.c (.int .i64 i)))], [], []⟩) 0 ⟨Nat.zero_le _, Nat.zero_le _, rfl⟩ (Le.refl _) ?_
    rintro i ⟨g1, g2, g3⟩
    by_cases c : i < a.length ∧ i < b.length
    · obtain ⟨x, hx, _, mx⟩ := drop_at c.1
      obtain ⟨y, hy, _, my⟩ := drop_at c.2
      have a1 := encL_at hx
      have a2 := encL_at hy
      have a3 : ((i : Int) < (a.length : Int)) = True := eq_true (by omega)
      have a4 : ((i : Int) < (b.length : Int)) = True := eq_true (by omega)
      have e1 := size_mem mx
      have f1 := fitL_mem h3 x mx
      have f2 := fitL_mem h4 y my
      have f3 := T.enc_len x
      have f4 := T.enc_len y
      rw [cmpL_drop hx hy] at g3
      simp only [go_sem, seval, rg, a1, a2, a3, a4, f3, f4, encL_len, spOrd_md, spOrd_pre, spOrd_alts, spOrd_res, spOrd_out]
      repeat' (first | with_reducible assumption | with_reducible refine And.intro ?_ ?_ | intro _)
      all_goals first | omega | skip
      · rename_i hne
        rw [g3]; unfold thenI; rw [if_neg hne]
      · rename_i hne _
        exact ⟨i + 1, ⟨by omega, by omega, by rw [g3]; unfold thenI; rw [if_pos (Classical.not_not.1 hne)]⟩, by omega, Le.refl _⟩
    · rw [cmpL_end g1 g2 c] at g3
      by_cases c1 : i < a.length
      · have a3 : ((i : Int) < (a.length : Int)) = True := eq_true (by omega)
        have a4 : ((i : Int) < (b.length : Int)) = False := eq_false (by omega)
        simp only [go_sem, seval, rg, a3, a4, encL_len, spMin_md, spMin_pre, spMin_alts, spMin_res, spMin_out, spMax_md, spMax_pre, spMax_alts, spMax_res, spMax_out, g3]
        repeat' (first | with_reducible assumption | with_reducible refine And.intro ?_ ?_ | intro _)
        all_goals first | omega | skip
      · have a3 : ((i : Int) < (a.length : Int)) = False := eq_false (by omega)
        simp only [go_sem, seval, rg, a3, encL_len, spMin_md, spMin_pre, spMin_alts, spMin_res, spMin_out, spMax_md, spMax_pre, spMax_alts, spMax_res, spMax_out, g3]
        repeat' (first | with_reducible assumption | with_reducible refine And.intro ?_ ?_ | intro _)
        all_goals first | omega | skip
theorem ValOrder_sound (k : Nat) (hS : Sound Go.Proofs.Try.prog 72 (spRows k)) : Sound Go.Proofs.Try.prog 61 (spOrd (k + 1)) := by
  refine sound_fam (GOK.cons (l := [(71, spLists), (72, spRows k)]) call_l1Texts l1Texts_sound (GOK.cons call_l1Lists l1Lists_sound (GOK.cons call_l1Rows hS GOK.nil))) Go.Proofs.Try.func61 (c := Go.Proofs.Try.f61.body.getD .skip) rfl (n := 54) rfl chk_ValOrder rs_ValOrder (fun _ => by simp) ?_ ?_
  · exact spOrd_inj
  · rintro ⟨a, b⟩ ⟨⟨h1, h2⟩, h3⟩
    obtain ⟨ka, na, sa, xs, la⟩ := a
    obtain ⟨kb, nb, sb, ys, lb⟩ := b
    simp only [T.fit, strsFit] at h1 h2
    obtain ⟨_, _, _, ⟨f1, _⟩, f2, f3⟩ := h1
    obtain ⟨_, _, _, ⟨f4, _⟩, f5, f6⟩ := h2
    have e3 : SizeOf.sizeOf la < k := by have e : SizeOf.sizeOf (T.mk ka na sa xs la) < k + 1 := h3
                                         rw [T.mk.sizeOf_spec] at e; omega
    have hs : cmpS sa sb = 0 ↔ sa = sb := cmpS_is.eq sa sb
    simp only [x_ValOrder, T.enc, go_sem, seval, rg, spTexts_md, spTexts_pre, spTexts_alts, spTexts_res, spTexts_out, spLists_md, spLists_pre, spLists_alts, spLists_res, spLists_out, spRows_md, spRows_pre, spRows_alts, spRows_res, spRows_out, cmpT, cmpI, thenI]
    repeat' (first | with_reducible assumption | with_reducible refine And.intro ?_ ?_ | intro _)
    all_goals first | omega | assumption | skip
    all_goals simp_all
    all_goals first | omega | grind
theorem ord_sound : ∀ k, Sound Go.Proofs.Try.prog 61 (spOrd k) := fun k => Nat.rec Sound.none (fun k ih => ValOrder_sound k (l1Rows_sound k ih)) k
noncomputable def spOrdV  : Spec := Spec.of (ι := T × T) [false, false] (fun i => [.d (.agg i.1.enc), .d (.agg i.2.enc)]) (fun i => i.1.fit 140737488355328 ∧ i.2.fit 140737488355328) (fun i => [.d (.one (.int .i64 (cmpT i.1 i.2)))]) (fun _ => [.gone, .gone])
theorem spOrdV_inj : ∀ i j : T × T, (fun (i : T × T) => ([.d (.agg i.1.enc), .d (.agg i.2.enc)] : List AV)) i = (fun (i : T × T) => ([.d (.agg i.1.enc), .d (.agg i.2.enc)] : List AV)) j → i = j := by
  rintro ⟨a, b⟩ ⟨a', b'⟩ h
  simp only [Prod.mk.injEq]
  simpa [strs_eq, T.enc_eq, encL_eq, F.enc_eq, encF_eq, Tk.enc_eq, encTk_eq, Gn.enc_eq, ints_eq] using h
theorem spOrdV_pre  (a : T) (b : T) : (spOrdV).pre [.d (.agg a.enc), .d (.agg b.enc)] = (a.fit 140737488355328 ∧ b.fit 140737488355328) := Spec.of_pre' spOrdV_inj (a, b)
theorem spOrdV_res  (a : T) (b : T) : (spOrdV).res [.d (.agg a.enc), .d (.agg b.enc)] = [.d (.one (.int .i64 (cmpT a b)))] := Spec.of_res spOrdV_inj (a, b)
theorem spOrdV_out  (a : T) (b : T) : (spOrdV).out [.d (.agg a.enc), .d (.agg b.enc)] = [.gone, .gone] := Spec.of_out spOrdV_inj (a, b)
theorem ordV_sound : Sound Go.Proofs.Try.prog 61 spOrdV := Sound.all (μ := fun i => SizeOf.sizeOf i.1) ord_sound
end Go.Proofs.Pw
