/- Drawing: numbers, items of a list, trees without parts. -/
import Derived.Test.YtkngbnefhelepaaPwT10
import Derived.Test.YtkngbnefhelepaaProg
import Derived.KernelRfl
import Derived.Test.YtkngbnefhelepaaPwT12
import Derived.Test.YtkngbnefhelepaaPwT14
set_option linter.unusedSimpArgs false
set_option linter.unusedVariables false
set_option linter.unusedSimpArgs false
set_option maxRecDepth 20000
namespace Go.Proofs.Pw
set_option linter.unusedSectionVars false
variable [Globs]
end Go.Proofs.Pw
/- Drawing: trees. -/
set_option linter.unusedSimpArgs false
set_option maxRecDepth 20000
namespace Go.Proofs.Pw
set_option linter.unusedSectionVars false
variable [Globs]
end Go.Proofs.Pw
/- Drawing: a tree, one in twelve bent. -/
set_option linter.unusedSimpArgs false
set_option maxRecDepth 20000
namespace Go.Proofs.Pw
set_option linter.unusedSectionVars false
variable [Globs]
/-- A tree of so many parts at most, bent perhaps. -/
def drW (m : Int) (t : T) : Prop := t.fit 100000 ∧ sizeT t ≤ m ∧ topT 7 t
theorem drW.fit {m : Int} {t : T} (h : drW m t) : t.fit 140737488355328 := T.fit_mono (by decide) h.1
theorem drW.mono {m n : Int} (hmn : m ≤ n) {t : T} (h : drW m t) : drW n t := ⟨h.1, Int.le_trans h.2.1 hmn, h.2.2⟩
theorem drT.w {m : Int} {t : T} (h : drT m t) : drW m t := ⟨T.fit_mono (by decide) h.1, h.2.1, by obtain ⟨k, n, s, ks, l⟩ := t; exact ⟨Nat.le_succ_of_le h.2.2.1, Nat.le_succ_of_le h.2.2.2⟩⟩
end Go.Proofs.Pw
/- Drawing: rows; the draws of single trees and rows. -/
set_option linter.unusedSimpArgs false
set_option maxRecDepth 20000
namespace Go.Proofs.Pw
set_option linter.unusedSectionVars false
variable [Globs]
end Go.Proofs.Pw
/- Rows: each tree once; whether a tree is there. -/
set_option linter.unusedSimpArgs false
set_option maxRecDepth 20000
namespace Go.Proofs.Pw
set_option linter.unusedSectionVars false
variable [Globs]
noncomputable instance (x : T) (l : List T) : Decidable (x ∈ l) := Classical.propDecidable _
theorem rowT_fit {B : Int} (h0 : 0 ≤ B) {l : List T} (h1 : lenB B l.length) (h2 : fitL B l) : (T.mk 5 0 ⟨#[]⟩ [] l).fit B :=
  ⟨by unfold i64; omega, by unfold i64; omega, by unfold lenB; exact h0, ⟨by unfold lenB; exact h0, by simp⟩, h1, h2⟩
end Go.Proofs.Pw
/- Parts under a key; rows grouped by them; rows put together. -/
set_option linter.unusedSimpArgs false
set_option maxRecDepth 20000
namespace Go.Proofs.Pw
set_option linter.unusedSectionVars false
variable [Globs]
def x_IdxS : X := (.seq (.reg [⟨some 4, none, .mv (.k (.c (.int .i64 0)))⟩] none [0, 1]) (.seq (.seq (.reg [⟨some 6, none, .mv (.t 0)⟩, ⟨some 7, none, .len (.t 6) false⟩, ⟨some 8, none, .mv (.k (.c (.int .i64 0)))⟩] none [0, 1, 7, 8]) (.block 0 (.loop (.seq (.reg [⟨some 9, none, .bin false .lss (.t 8) (.t 7)⟩] none [0, 1, 7, 8, 9]) (.seq (.cond (.t 9) .skip (.exit 0)) (.seq (.block 1 (.seq (.reg [⟨some 10, none, .mv (.t 8)⟩, ⟨some 5, none, .mv (.t 10)⟩] none [0, 1, 5, 7, 8]) (.seq (.reg [⟨some 11, none, .mv (.t 1)⟩, ⟨some 12, none, .mv (.t 0)⟩, ⟨some 13, none, .mv (.t 5)⟩, ⟨some 14, none, .ia (.t 12) (.t 13) 1⟩, ⟨some 15, none, .load (.t 14) none⟩, ⟨some 16, none, .bin false .eql (.t 11) (.t 15)⟩] none [0, 1, 5, 7, 8, 16]) (.cond (.t 16) (.seq (.reg [⟨some 17, none, .mv (.t 5)⟩, ⟨some 4, none, .mv (.t 17)⟩] none [4]) .ret) .skip)))) (.reg [⟨some 18, none, .bin false .add (.t 8) (.k (.c (.int .i64 1)))⟩, ⟨some 8, none, .mv (.t 18)⟩] none [0, 1, 7, 8]))))))) (.seq (.reg [⟨some 4, none, .mv (.k (.c (.int .i64 (-1))))⟩] none [4]) .ret)))
theorem chk_IdxS : chkX Go.Proofs.Try.prog 19 (Go.Proofs.Try.f64.body.getD .skip) x_IdxS = true := by kernel_rfl
theorem rs_IdxS : okRs Go.Proofs.Try.prog Go.Proofs.Try.f64.results.toList [.tmp 4] = true := by kernel_rfl
theorem call_IdxS : okCallee Go.Proofs.Try.prog 64 = true := by kernel_rfl
def x_l2Key : X := (.seq (.reg [⟨some 2, none, .box (.t 0) (some 5)⟩, ⟨some 4, none, .mv (.k (.c (.int .i64 0)))⟩] none [1, 2]) (.seq (.seq (.reg [⟨some 5, none, .mv (.k (.c (.int .i64 0)))⟩] none [1, 2, 5]) (.block 0 (.loop (.seq (.seq (.reg [⟨some 6, none, .mv (.t 5)⟩, ⟨some 7, none, .fa (.t 2) 3⟩, ⟨some 8, none, .load (.t 7) none⟩, ⟨some 9, none, .len (.t 8) false⟩, ⟨some 10, none, .bin false .lss (.t 6) (.t 9)⟩] none [1, 2, 5, 10]) (.cond (.t 10) .skip (.exit 0))) (.seq (.block 1 (.seq (.reg [⟨some 13, none, .fa (.t 2) 3⟩, ⟨some 14, none, .load (.t 13) none⟩, ⟨some 15, none, .mv (.t 5)⟩, ⟨some 16, none, .ia (.t 14) (.t 15) 1⟩, ⟨some 17, none, .load (.t 16) none⟩, ⟨some 18, none, .mv (.t 1)⟩, ⟨some 19, none, .bin false .eql (.t 17) (.t 18)⟩] none [1, 2, 5, 19]) (.cond (.t 19) (.seq (.reg [⟨some 20, none, .mv (.t 5)⟩, ⟨some 4, none, .mv (.t 20)⟩] none [4]) .ret) .skip))) (.reg [⟨some 11, none, .mv (.t 5)⟩, ⟨some 12, none, .bin false .add (.t 11) (.k (.c (.int .i64 1)))⟩, ⟨some 5, none, .mv (.t 12)⟩] none [1, 2, 5])))))) (.seq (.reg [⟨some 4, none, .mv (.k (.c (.int .i64 (-1))))⟩] none [4]) .ret)))
theorem chk_l2Key : chkX Go.Proofs.Try.prog 21 (Go.Proofs.Try.f62.body.getD .skip) x_l2Key = true := by kernel_rfl
theorem rs_l2Key : okRs Go.Proofs.Try.prog Go.Proofs.Try.f62.results.toList [.tmp 4] = true := by kernel_rfl
theorem call_l2Key : okCallee Go.Proofs.Try.prog 62 = true := by kernel_rfl
def x_get : X := (.seq (.reg [⟨some 2, none, .box (.t 0) (some 5)⟩, ⟨some 4, none, .alloc [(.c (.int .i64 0)), (.c (.int .i64 0)), (.c (.str ⟨#[]⟩)), (.z 1), (.z 5)]⟩, ⟨some 5, none, .mv (.k (.c (.bool false)))⟩] none [1, 2, 4]) (.seq (.seq (.reg [⟨some 7, none, .fa (.t 2) 0⟩, ⟨some 8, none, .load (.t 7) none⟩, ⟨some 9, none, .bin false .eql (.t 8) (.k (.c (.int .i64 6)))⟩] none [1, 2, 4, 9]) (.cond (.t 9) (.seq (.reg [⟨some 10, none, .fa (.t 2) 3⟩, ⟨some 11, none, .load (.t 10) none⟩, ⟨some 12, none, .mv (.t 1)⟩, ⟨some 13, none, .call 64 [(.t 11), (.t 12)]⟩, ⟨some 6, none, .mv (.t 13)⟩] none [2, 4, 6]) (.seq (.reg [⟨some 14, none, .mv (.t 6)⟩, ⟨some 15, none, .bin false .geq (.t 14) (.k (.c (.int .i64 0)))⟩] none [2, 4, 6, 15]) (.cond (.t 15) (.seq (.reg [⟨some 16, none, .fa (.t 2) 4⟩, ⟨some 17, none, .load (.t 16) none⟩, ⟨some 18, none, .mv (.t 6)⟩, ⟨some 19, none, .ia (.t 17) (.t 18) 5⟩, ⟨some 20, none, .load (.t 19) (some 5)⟩, ⟨none, none, .st (.t 4) (.t 20) (some 5)⟩, ⟨some 5, none, .mv (.k (.c (.bool true)))⟩] none [4, 5]) .ret) .skip))) .skip)) (.seq (.mix [⟨some 21, none, .build [(.c (.int .i64 0)), (.c (.int .i64 0)), (.c (.str ⟨#[]⟩)), (.z 1), (.z 5)] []⟩, ⟨some 22, none, .fa (.t 2) 0⟩, ⟨some 23, none, .load (.t 22) none⟩, ⟨some 24, none, .bin false .eql (.t 23) (.k (.c (.int .i64 6)))⟩, ⟨some 25, none, .mv (.t 24)⟩, ⟨some 26, some (25, false), .fa (.t 2) 0⟩, ⟨some 27, some (25, false), .load (.t 26) none⟩, ⟨some 28, some (25, false), .bin false .eql (.t 27) (.k (.c (.int .i64 0)))⟩, ⟨some 29, none, .pick (.t 25) (.k (.c (.bool true))) (.t 28)⟩, ⟨none, none, .st (.t 4) (.t 21) (some 5)⟩] [⟨some 5, none, .mv (.t 29)⟩] [[], [], [], [], [], [], [], [], [], [6]] [4, 5]) .ret)))
theorem chk_get : chkX Go.Proofs.Try.prog 30 (Go.Proofs.Try.f57.body.getD .skip) x_get = true := by kernel_rfl
theorem rs_get : okRs Go.Proofs.Try.prog Go.Proofs.Try.f57.results.toList [.cell 4 (some 5), .tmp 5] = true := by kernel_rfl
theorem call_get : okCallee Go.Proofs.Try.prog 57 = true := by kernel_rfl
def x_l2Get : X := (.seq (.reg [⟨some 2, none, .box (.t 0) (some 5)⟩, ⟨some 4, none, .alloc [(.c (.int .i64 0)), (.c (.int .i64 0)), (.c (.str ⟨#[]⟩)), (.z 1), (.z 5)]⟩, ⟨some 5, none, .mv (.k (.c (.bool false)))⟩] none [1, 2, 4]) (.seq (.seq (.reg [⟨some 7, none, .fa (.t 2) 0⟩, ⟨some 8, none, .load (.t 7) none⟩, ⟨some 9, none, .bin false .eql (.t 8) (.k (.c (.int .i64 0)))⟩] none [1, 2, 4, 9]) (.cond (.t 9) (.seq (.reg [⟨some 10, none, .load (.t 2) (some 5)⟩, ⟨none, none, .st (.t 4) (.t 10) (some 5)⟩, ⟨some 5, none, .mv (.k (.c (.bool true)))⟩] none [4, 5]) .ret) .skip)) (.seq (.seq (.reg [⟨some 11, none, .fa (.t 2) 0⟩, ⟨some 12, none, .load (.t 11) none⟩, ⟨some 13, none, .bin false .neq (.t 12) (.k (.c (.int .i64 6)))⟩] none [1, 2, 4, 13]) (.cond (.t 13) (.seq (.reg [⟨some 14, none, .build [(.c (.int .i64 0)), (.c (.int .i64 0)), (.c (.str ⟨#[]⟩)), (.z 1), (.z 5)] []⟩, ⟨none, none, .st (.t 4) (.t 14) (some 5)⟩, ⟨some 5, none, .mv (.k (.c (.bool false)))⟩] none [4, 5]) .ret) .skip)) (.seq (.reg [⟨some 15, none, .load (.t 2) (some 5)⟩, ⟨some 16, none, .mv (.t 1)⟩, ⟨some 17, none, .call 62 [(.t 15), (.t 16)]⟩, ⟨some 6, none, .mv (.t 17)⟩] none [2, 4, 6]) (.seq (.seq (.reg [⟨some 18, none, .mv (.t 6)⟩, ⟨some 19, none, .bin false .lss (.t 18) (.k (.c (.int .i64 0)))⟩] none [2, 4, 6, 19]) (.cond (.t 19) (.seq (.reg [⟨some 20, none, .build [(.c (.int .i64 0)), (.c (.int .i64 0)), (.c (.str ⟨#[]⟩)), (.z 1), (.z 5)] []⟩, ⟨none, none, .st (.t 4) (.t 20) (some 5)⟩, ⟨some 5, none, .mv (.k (.c (.bool true)))⟩] none [4, 5]) .ret) .skip)) (.seq (.reg [⟨some 21, none, .fa (.t 2) 4⟩, ⟨some 22, none, .load (.t 21) none⟩, ⟨some 23, none, .mv (.t 6)⟩, ⟨some 24, none, .ia (.t 22) (.t 23) 5⟩, ⟨some 25, none, .load (.t 24) (some 5)⟩, ⟨none, none, .st (.t 4) (.t 25) (some 5)⟩, ⟨some 5, none, .mv (.k (.c (.bool true)))⟩] none [4, 5]) .ret))))))
theorem chk_l2Get : chkX Go.Proofs.Try.prog 26 (Go.Proofs.Try.f53.body.getD .skip) x_l2Get = true := by kernel_rfl
theorem rs_l2Get : okRs Go.Proofs.Try.prog Go.Proofs.Try.f53.results.toList [.cell 4 (some 5), .tmp 5] = true := by kernel_rfl
theorem call_l2Get : okCallee Go.Proofs.Try.prog 53 = true := by kernel_rfl
noncomputable def spIdxS  : Spec := Spec.of (ι := (List ByteArray) × ByteArray) [false, false] (fun i => [.d (.one (.row 1 (strs i.1))), .d (.one (.str i.2))]) (fun i => lenB 140737488355328 i.1.length) (fun i => [.d (.one (.int .i64 (idxS i.2 0 i.1)))]) (fun _ => [.gone, .gone])
theorem spIdxS_inj : ∀ i j : (List ByteArray) × ByteArray, (fun (i : (List ByteArray) × ByteArray) => ([.d (.one (.row 1 (strs i.1))), .d (.one (.str i.2))] : List AV)) i = (fun (i : (List ByteArray) × ByteArray) => ([.d (.one (.row 1 (strs i.1))), .d (.one (.str i.2))] : List AV)) j → i = j := by
  rintro ⟨l, x⟩ ⟨l', x'⟩ h
  simp only [Prod.mk.injEq]
  simpa [strs_eq, T.enc_eq, encL_eq, F.enc_eq, encF_eq, Tk.enc_eq, encTk_eq, Gn.enc_eq, ints_eq] using h
theorem spIdxS_md  : (spIdxS).md = [false, false] := rfl
theorem spIdxS_pre  (l : List ByteArray) (x : ByteArray) : (spIdxS).pre [.d (.one (.row 1 (strs l))), .d (.one (.str x))] = (lenB 140737488355328 l.length) := Spec.of_pre' spIdxS_inj (l, x)
theorem spIdxS_alts  : (spIdxS).alts = none := rfl
theorem spIdxS_res  (l : List ByteArray) (x : ByteArray) : (spIdxS).res [.d (.one (.row 1 (strs l))), .d (.one (.str x))] = [.d (.one (.int .i64 (idxS x 0 l)))] := Spec.of_res spIdxS_inj (l, x)
theorem spIdxS_out  (l : List ByteArray) (x : ByteArray) : (spIdxS).out [.d (.one (.row 1 (strs l))), .d (.one (.str x))] = [.gone, .gone] := Spec.of_out spIdxS_inj (l, x)
theorem IdxS_sound : Sound Go.Proofs.Try.prog 64 spIdxS := by
  refine sound_fam GOK.nil Go.Proofs.Try.func64 (c := Go.Proofs.Try.f64.body.getD .skip) rfl (n := 19) rfl chk_IdxS rs_IdxS (fun _ => by simp) ?_ ?_
  · exact spIdxS_inj
  · rintro ⟨l, x⟩ h2
    simp only [lenB] at h2
    simp only [x_IdxS, rg, go_sem, seval]
    repeat' (first | with_reducible assumption | with_reducible refine And.intro ?_ ?_ | intro _)
    all_goals first | omega | assumption | skip
    refine pw_loop (ι := Nat) (fun i => l.length - i) (fun i => i ≤ l.length ∧ idxS x i (l.drop i) = idxS x 0 l)
      (fun i => ⟨[(0, .q (.c (.row 1 (strs l)))), (1, .q (.c (.str x))), (7, .q (.c (.int .i64 l.length))), (8, .q (.c (.int .i64 i)))], [], []⟩) 0 ⟨Nat.zero_le _, rfl⟩ (Le.refl _) ?_
    rintro i ⟨g1, g2⟩
    rcases Nat.lt_or_ge i l.length with hlt | hge
    · obtain ⟨y, hy, hd, hmem⟩ := drop_at hlt
      have b1 : ((i : Int) < (l.length : Int)) = True := eq_true (by omega)
      have a1 := strs_at hy
      rw [hd, idxS] at g2
      simp only [rg, go_sem, seval, b1, a1]
      repeat' (first | with_reducible assumption | with_reducible refine And.intro ?_ ?_ | intro _)
      all_goals first | omega | assumption | skip
      · have h : x = y := by assumption
        rw [← g2, if_pos h]
      · have h : ¬ x = y := by assumption
        rw [if_neg h] at g2
        exact ⟨i + 1, ⟨by omega, g2⟩, by omega, Le.refl _⟩
    · obtain rfl : i = l.length := by omega
      have b1 : ((l.length : Int) < (l.length : Int)) = False := eq_false (by omega)
      rw [List.drop_length, idxS] at g2
      simp only [rg, go_sem, seval, b1, ← g2]
noncomputable def spL2Key  : Spec := Spec.of (ι := T × ByteArray) [false, false] (fun i => [.d (.agg i.1.enc), .d (.one (.str i.2))]) (fun i => i.1.fit 140737488355328) (fun i => [.d (.one (.int .i64 (idxS i.2 0 i.1.keys)))]) (fun _ => [.gone, .gone])
theorem spL2Key_inj : ∀ i j : T × ByteArray, (fun (i : T × ByteArray) => ([.d (.agg i.1.enc), .d (.one (.str i.2))] : List AV)) i = (fun (i : T × ByteArray) => ([.d (.agg i.1.enc), .d (.one (.str i.2))] : List AV)) j → i = j := by
  rintro ⟨v, x⟩ ⟨v', x'⟩ h
  simp only [Prod.mk.injEq]
  simpa [strs_eq, T.enc_eq, encL_eq, F.enc_eq, encF_eq, Tk.enc_eq, encTk_eq, Gn.enc_eq, ints_eq] using h
theorem spL2Key_md  : (spL2Key).md = [false, false] := rfl
theorem spL2Key_pre  (v : T) (x : ByteArray) : (spL2Key).pre [.d (.agg v.enc), .d (.one (.str x))] = (v.fit 140737488355328) := Spec.of_pre' spL2Key_inj (v, x)
theorem spL2Key_alts  : (spL2Key).alts = none := rfl
theorem spL2Key_res  (v : T) (x : ByteArray) : (spL2Key).res [.d (.agg v.enc), .d (.one (.str x))] = [.d (.one (.int .i64 (idxS x 0 v.keys)))] := Spec.of_res spL2Key_inj (v, x)
theorem spL2Key_out  (v : T) (x : ByteArray) : (spL2Key).out [.d (.agg v.enc), .d (.one (.str x))] = [.gone, .gone] := Spec.of_out spL2Key_inj (v, x)
theorem l2Key_sound : Sound Go.Proofs.Try.prog 62 spL2Key := by
  refine sound_fam GOK.nil Go.Proofs.Try.func62 (c := Go.Proofs.Try.f62.body.getD .skip) rfl (n := 21) rfl chk_l2Key rs_l2Key (fun _ => by simp) ?_ ?_
  · exact spL2Key_inj
  · rintro ⟨v, x⟩ h2
    obtain ⟨k, n, s, l, li⟩ := v
    have h3 : (l.length : Int) ≤ 140737488355328 := h2.2.2.2.1.1
    simp only [x_l2Key, rg, go_sem, seval, T.enc, T.keys]
    refine pw_loop (ι := Nat) (fun i => l.length - i) (fun i => i ≤ l.length ∧ idxS x i (l.drop i) = idxS x 0 l)
      (fun i => ⟨[(1, .q (.c (.str x))), (2, .q (.box 2 0)), (5, .q (.c (.int .i64 i)))], [(2, [.c (.int .i64 k), .c (.int .i64 n), .c (.str s), .c (.row 1 (strs l)), .c (.row 5 (encL li))])], []⟩) 0 ⟨Nat.zero_le _, rfl⟩ (Le.refl _) ?_
    rintro i ⟨g1, g2⟩
    rcases Nat.lt_or_ge i l.length with hlt | hge
    · obtain ⟨y, hy, hd, hmem⟩ := drop_at hlt
      have b1 : ((i : Int) < (l.length : Int)) = True := eq_true (by omega)
      have a1 := strs_at hy
      rw [hd, idxS] at g2
      simp only [rg, go_sem, seval, b1, a1]
      repeat' (first | with_reducible assumption | with_reducible refine And.intro ?_ ?_ | intro _)
      all_goals first | omega | assumption | skip
      · have h : y = x := by assumption
        rw [← g2, if_pos h.symm]
      · have h : ¬ y = x := by assumption
        rw [if_neg (fun e => h e.symm)] at g2
        exact ⟨i + 1, ⟨by omega, g2⟩, by omega, Le.refl _⟩
    · obtain rfl : i = l.length := by omega
      have b1 : ((l.length : Int) < (l.length : Int)) = False := eq_false (by omega)
      rw [List.drop_length, idxS] at g2
      simp only [rg, go_sem, seval, b1, ← g2]
noncomputable def spGet  : Spec := Spec.of (ι := T × ByteArray) [false, false] (fun i => [.d (.agg i.1.enc), .d (.one (.str i.2))]) (fun i => i.1.fit 140737488355328 ∧ okT i.1) (fun i => [.d (.agg (getT i.2 i.1).enc), .d (.one (.bool (decide (getOk i.1))))]) (fun _ => [.gone, .gone])
theorem spGet_inj : ∀ i j : T × ByteArray, (fun (i : T × ByteArray) => ([.d (.agg i.1.enc), .d (.one (.str i.2))] : List AV)) i = (fun (i : T × ByteArray) => ([.d (.agg i.1.enc), .d (.one (.str i.2))] : List AV)) j → i = j := by
  rintro ⟨v, x⟩ ⟨v', x'⟩ h
  simp only [Prod.mk.injEq]
  simpa [strs_eq, T.enc_eq, encL_eq, F.enc_eq, encF_eq, Tk.enc_eq, encTk_eq, Gn.enc_eq, ints_eq] using h
theorem spGet_md  : (spGet).md = [false, false] := rfl
theorem spGet_pre  (v : T) (x : ByteArray) : (spGet).pre [.d (.agg v.enc), .d (.one (.str x))] = (v.fit 140737488355328 ∧ okT v) := Spec.of_pre' spGet_inj (v, x)
theorem spGet_alts  : (spGet).alts = none := rfl
theorem spGet_res  (v : T) (x : ByteArray) : (spGet).res [.d (.agg v.enc), .d (.one (.str x))] = [.d (.agg (getT x v).enc), .d (.one (.bool (decide (getOk v))))] := Spec.of_res spGet_inj (v, x)
theorem spGet_out  (v : T) (x : ByteArray) : (spGet).out [.d (.agg v.enc), .d (.one (.str x))] = [.gone, .gone] := Spec.of_out spGet_inj (v, x)
theorem get_sound : Sound Go.Proofs.Try.prog 57 spGet := by
  refine sound_fam (GOK.cons call_IdxS IdxS_sound GOK.nil) Go.Proofs.Try.func57 (c := Go.Proofs.Try.f57.body.getD .skip) rfl (n := 30) rfl chk_get rs_get (fun _ => by simp) ?_ ?_
  · exact spGet_inj
  · rintro ⟨v, x⟩ ⟨h2, h4⟩
    obtain ⟨k, n, s, l, li⟩ := v
    have h3 : (l.length : Int) ≤ 140737488355328 := h2.2.2.2.1.1
    have hr := idxS_rng (x := x) (l := l) (i := 0)
    by_cases c : k = 6
    · subst c
      have hl : l.length = li.length := okT_keys h4 rfl
      have eo : getOk (T.mk 6 n s l li) = True := eq_true (.inl rfl)
      by_cases d : 0 ≤ idxS x 0 l
      · have b1 : (idxS x 0 l ≥ 0) = True := eq_true d
        obtain ⟨y, hy, _, hmem⟩ := drop_at (l := li) (i := (idxS x 0 l).toNat) (by omega)
        have a1 := encL_at hy
        have f1 := T.enc_len y
        have e : getT x (T.mk 6 n s l li) = y := by
          unfold getT; rw [if_pos ⟨rfl, d⟩]; simp [T.list, T.keys, List.getD_eq_getElem?_getD, hy]
        simp only [x_get, rg, go_sem, seval, Prod.fst, T.enc, e, eo, b1, a1, f1, encL_len, spIdxS_md, spIdxS_pre, spIdxS_alts, spIdxS_res, spIdxS_out]
        repeat' (first | with_reducible assumption | with_reducible refine And.intro ?_ ?_ | intro _)
        all_goals first | omega | assumption | skip
      · have b1 : (idxS x 0 l ≥ 0) = False := eq_false d
        have e : getT x (T.mk 6 n s l li) = T.zero := by
          unfold getT; rw [if_neg (fun h => d h.2)]
        simp only [x_get, rg, go_sem, seval, Prod.fst, T.enc, e, eo, b1, spIdxS_md, spIdxS_pre, spIdxS_alts, spIdxS_res, spIdxS_out]
        repeat' (first | with_reducible assumption | with_reducible refine And.intro ?_ ?_ | intro _)
        all_goals first | omega | assumption | exact T.zero_enc | skip
    · have e : getT x (T.mk k n s l li) = T.zero := by
        unfold getT; rw [if_neg (fun h => c h.1)]
      have b0 : (k = 6) = False := eq_false c
      have eo : getOk (T.mk k n s l li) = (k = 0) := propext ⟨fun h => h.resolve_left c, .inr⟩
      simp only [x_get, rg, go_sem, seval, Prod.fst, T.enc, e, eo, b0]
      repeat' (first | with_reducible assumption | with_reducible refine And.intro ?_ ?_ | intro _)
      all_goals first | omega | assumption | exact T.zero_enc | skip
noncomputable def spL2Get  : Spec := Spec.of (ι := T × ByteArray) [false, false] (fun i => [.d (.agg i.1.enc), .d (.one (.str i.2))]) (fun i => i.1.fit 140737488355328 ∧ okT i.1) (fun i => [.d (.agg (getT i.2 i.1).enc), .d (.one (.bool (decide (getOk i.1))))]) (fun _ => [.gone, .gone])
theorem spL2Get_inj : ∀ i j : T × ByteArray, (fun (i : T × ByteArray) => ([.d (.agg i.1.enc), .d (.one (.str i.2))] : List AV)) i = (fun (i : T × ByteArray) => ([.d (.agg i.1.enc), .d (.one (.str i.2))] : List AV)) j → i = j := by
  rintro ⟨v, x⟩ ⟨v', x'⟩ h
  simp only [Prod.mk.injEq]
  simpa [strs_eq, T.enc_eq, encL_eq, F.enc_eq, encF_eq, Tk.enc_eq, encTk_eq, Gn.enc_eq, ints_eq] using h
theorem spL2Get_md  : (spL2Get).md = [false, false] := rfl
theorem spL2Get_pre  (v : T) (x : ByteArray) : (spL2Get).pre [.d (.agg v.enc), .d (.one (.str x))] = (v.fit 140737488355328 ∧ okT v) := Spec.of_pre' spL2Get_inj (v, x)
theorem spL2Get_alts  : (spL2Get).alts = none := rfl
theorem spL2Get_res  (v : T) (x : ByteArray) : (spL2Get).res [.d (.agg v.enc), .d (.one (.str x))] = [.d (.agg (getT x v).enc), .d (.one (.bool (decide (getOk v))))] := Spec.of_res spL2Get_inj (v, x)
theorem spL2Get_out  (v : T) (x : ByteArray) : (spL2Get).out [.d (.agg v.enc), .d (.one (.str x))] = [.gone, .gone] := Spec.of_out spL2Get_inj (v, x)
theorem l2Get_sound : Sound Go.Proofs.Try.prog 53 spL2Get := by
  refine sound_fam (GOK.cons call_l2Key l2Key_sound GOK.nil) Go.Proofs.Try.func53 (c := Go.Proofs.Try.f53.body.getD .skip) rfl (n := 26) rfl chk_l2Get rs_l2Get (fun _ => by simp) ?_ ?_
  · exact spL2Get_inj
  · rintro ⟨v, x⟩ ⟨h2, h4⟩
    obtain ⟨k, n, s, l, li⟩ := v
    have f0 := T.enc_len (T.mk k n s l li)
    have h3 : (l.length : Int) ≤ 140737488355328 := h2.2.2.2.1.1
    have hr := idxS_rng (x := x) (l := l) (i := 0)
    by_cases c : k = 6
    · subst c
      have hl : l.length = li.length := okT_keys h4 rfl
      have eo : getOk (T.mk 6 n s l li) = True := eq_true (.inl rfl)
      by_cases d : 0 ≤ idxS x 0 l
      · have b1 : (idxS x 0 l < 0) = False := eq_false (by omega)
        obtain ⟨y, hy, _, hmem⟩ := drop_at (l := li) (i := (idxS x 0 l).toNat) (by omega)
        have a1 := encL_at hy
        have f1 := T.enc_len y
        have e : getT x (T.mk 6 n s l li) = y := by
          unfold getT; rw [if_pos ⟨rfl, d⟩]; simp [T.list, T.keys, List.getD_eq_getElem?_getD, hy]
        simp only [x_l2Get, rg, go_sem, seval, Prod.fst, T.enc, foldT, T.keys, e, eo, b1, a1, f1, encL_len, spL2Key_md, spL2Key_pre, spL2Key_alts, spL2Key_res, spL2Key_out]
        repeat' (first | with_reducible assumption | with_reducible refine And.intro ?_ ?_ | intro _)
        all_goals first | omega | assumption | skip
      · have b1 : (idxS x 0 l < 0) = True := eq_true (by omega)
        have e : getT x (T.mk 6 n s l li) = T.zero := by
          unfold getT; rw [if_neg (fun h => d h.2)]
        simp only [x_l2Get, rg, go_sem, seval, Prod.fst, T.enc, foldT, T.keys, e, eo, b1, spL2Key_md, spL2Key_pre, spL2Key_alts, spL2Key_res, spL2Key_out]
        repeat' (first | with_reducible assumption | with_reducible refine And.intro ?_ ?_ | intro _)
        all_goals first | omega | assumption | exact T.zero_enc | skip
    · have b0 : (k = 6) = False := eq_false c
      by_cases d : k = 0
      · have hz := okT_none h4 d
        rw [hz]
        have e : getT x T.zero = T.zero := by
          unfold getT; rw [if_neg (fun h => absurd h.1 (by decide))]
        have eo : getOk T.zero = True := eq_true (.inr rfl)
        have z1 : T.zero = T.mk 0 0 ⟨#[]⟩ [] [] := rfl
        simp only [x_l2Get, rg, go_sem, seval, Prod.fst, e, eo]
        simp only [z1, T.enc, rg, go_sem, seval, Prod.fst]
        repeat' (first | with_reducible assumption | with_reducible refine And.intro ?_ ?_ | intro _)
        all_goals first | omega | assumption | exact T.zero_enc | skip
      · have e : getT x (T.mk k n s l li) = T.zero := by
          unfold getT; rw [if_neg (fun h => c h.1)]
        have b1 : (k = 0) = False := eq_false d
        have eo : getOk (T.mk k n s l li) = False := eq_false (fun h => h.elim c d)
        simp only [x_l2Get, rg, go_sem, seval, Prod.fst, T.enc, e, eo, b0, b1]
        repeat' (first | with_reducible assumption | with_reducible refine And.intro ?_ ?_ | intro _)
        all_goals first | omega | assumption | exact T.zero_enc | skip
end Go.Proofs.Pw
