/- Rows: each tree once; whether a tree is there. -/
import Derived.Test.YtaldfcjengfibaaPwT13
import Derived.Test.YtaldfcjengfibaaPwT14
import Derived.Test.YtaldfcjengfibaaPwT9
import Derived.ProofKit
import Derived.ChangeOld
import Derived.Below
import Derived.Carry
import Derived.SizedLaws
import Derived.ChangeArms
import Derived.ChangeVars
import Derived.WalkSmall
set_option linter.unusedSimpArgs false
set_option linter.unusedVariables false
set_option linter.unusedSimpArgs false
set_option maxRecDepth 20000
namespace Go.Proofs.Pw
set_option linter.unusedSectionVars false
variable [Globs]
noncomputable instance (x : T) (l : List T) : Decidable (x ∈ l) := Classical.propDecidable _
theorem sizeL_perm {a b : List T} (h : a.Perm b) : sizeL a = sizeL b := by
  induction h with
  | nil => rfl
  | cons x _ ih => simp only [sizeL, ih]
  | swap x y l => simp only [sizeL]; omega
  | trans _ _ h1 h2 => exact h1.trans h2
theorem rowT_fit {B : Int} (h0 : 0 ≤ B) {l : List T} (h1 : lenB B l.length) (h2 : fitL B l) : (T.mk 5 0 ⟨#[]⟩ [] l).fit B :=
  ⟨by unfold i64; omega, by unfold i64; omega, by unfold lenB; exact h0, ⟨by unfold lenB; exact h0, by simp⟩, h1, h2⟩
end Go.Proofs.Pw
/- Rows turned round. -/
set_option linter.unusedSimpArgs false
set_option maxRecDepth 20000
namespace Go.Proofs.Pw
set_option linter.unusedSectionVars false
variable [Globs]
def x_Rev : X := (.seq (.reg [⟨some 4, none, .mv (.t 0)⟩, ⟨some 5, none, .len (.t 4) false⟩, ⟨some 6, none, .bin false .sub (.t 5) (.k (.c (.int .i64 1)))⟩, ⟨some 2, none, .mv (.k (.c (.int .i64 0)))⟩, ⟨some 3, none, .mv (.t 6)⟩] none [0, 2, 3]) (.block 0 (.loop (.seq (.seq (.reg [⟨some 7, none, .mv (.t 2)⟩, ⟨some 8, none, .mv (.t 3)⟩, ⟨some 9, none, .bin false .lss (.t 7) (.t 8)⟩] none [0, 2, 3, 9]) (.cond (.t 9) .skip (.exit 0))) (.seq (.block 1 (.mix [⟨some 14, none, .mv (.t 0)⟩, ⟨some 15, none, .mv (.t 2)⟩, ⟨some 16, none, .mv (.t 0)⟩, ⟨some 17, none, .mv (.t 3)⟩, ⟨some 18, none, .mv (.t 0)⟩, ⟨some 19, none, .mv (.t 3)⟩, ⟨some 20, none, .ia (.t 18) (.t 19) 5⟩, ⟨some 21, none, .load (.t 20) (some 5)⟩, ⟨some 22, none, .mv (.t 0)⟩, ⟨some 23, none, .mv (.t 2)⟩, ⟨some 24, none, .ia (.t 22) (.t 23) 5⟩, ⟨some 25, none, .load (.t 24) (some 5)⟩, ⟨some 26, none, .ia (.t 14) (.t 15) 5⟩, ⟨none, none, .st (.t 26) (.t 21) (some 5)⟩] [⟨some 27, none, .ia (.t 16) (.t 17) 5⟩, ⟨none, none, .st (.t 27) (.t 25) (some 5)⟩] [[], [], [], [], [], [], [], [], [], [], [], [], [], []] [0, 2, 3])) (.reg [⟨some 10, none, .mv (.t 2)⟩, ⟨some 11, none, .bin false .add (.t 10) (.k (.c (.int .i64 1)))⟩, ⟨some 12, none, .mv (.t 3)⟩, ⟨some 13, none, .bin false .sub (.t 12) (.k (.c (.int .i64 1)))⟩, ⟨some 2, none, .mv (.t 11)⟩, ⟨some 3, none, .mv (.t 13)⟩] none [0, 2, 3]))))))
theorem chk_Rev : chkX Go.Proofs.Try.prog 28 (Go.Proofs.Try.f42.body.getD .skip) x_Rev = true := by kernel_rfl
theorem rs_Rev : okRs Go.Proofs.Try.prog Go.Proofs.Try.f42.results.toList [] = true := by kernel_rfl
theorem call_Rev : okCallee Go.Proofs.Try.prog 42 = true := by kernel_rfl
def x_RowBackI : X := (.seq (.reg [⟨some 1, none, .box (.t 0) (some 5)⟩, ⟨some 2, none, .alloc [(.c (.int .i64 0)), (.c (.int .i64 0)), (.c (.str ⟨#[]⟩)), (.z 1), (.z 5)]⟩, ⟨some 3, none, .mv (.k (.c (.bool false)))⟩] none [1, 2]) (.seq (.seq (.reg [⟨some 5, none, .load (.t 1) (some 5)⟩, ⟨some 6, none, .call 27 [(.t 5)]⟩, ⟨some 7, none, .not (.t 6)⟩] none [1, 2, 7]) (.cond (.t 7) (.seq (.reg [⟨some 8, none, .build [(.c (.int .i64 0)), (.c (.int .i64 0)), (.c (.str ⟨#[]⟩)), (.z 1), (.z 5)] []⟩, ⟨none, none, .st (.t 2) (.t 8) (some 5)⟩, ⟨some 3, none, .mv (.k (.c (.bool false)))⟩] none [2, 3]) .ret) .skip)) (.seq (.reg [⟨some 9, none, .fa (.t 1) 4⟩, ⟨some 10, none, .load (.t 9) none⟩, ⟨some 11, none, .call 41 [(.t 10)]⟩, ⟨some 4, none, .mv (.t 11)⟩] none [2, 4]) (.seq (.reg [⟨some 12, none, .mv (.t 4)⟩, ⟨some 13, none, .call 42 [(.t 12)]⟩] none [2, 4]) (.seq (.reg [⟨some 14, none, .mv (.t 4)⟩, ⟨some 15, none, .call 32 [(.t 14)]⟩, ⟨some 16, none, .call 28 [(.t 15), (.k (.c (.bool true)))]⟩, ⟨some 17, none, .ext (.t 16) 0⟩, ⟨some 18, none, .ext (.t 16) 1⟩, ⟨none, none, .st (.t 2) (.t 17) (some 5)⟩, ⟨some 3, none, .mv (.t 18)⟩] none [2, 3]) .ret)))))
theorem chk_RowBackI : chkX Go.Proofs.Try.prog 19 (Go.Proofs.Try.f15.body.getD .skip) x_RowBackI = true := by kernel_rfl
theorem rs_RowBackI : okRs Go.Proofs.Try.prog Go.Proofs.Try.f15.results.toList [.cell 2 (some 5), .tmp 3] = true := by kernel_rfl
theorem call_RowBackI : okCallee Go.Proofs.Try.prog 15 = true := by kernel_rfl
def x_RowBack : X := (.seq (.reg [⟨some 1, none, .box (.t 0) (some 5)⟩, ⟨some 2, none, .alloc [(.c (.int .i64 0)), (.c (.int .i64 0)), (.c (.str ⟨#[]⟩)), (.z 1), (.z 5)]⟩, ⟨some 3, none, .mv (.k (.c (.bool false)))⟩] none [1, 2]) (.seq (.seq (.reg [⟨some 6, none, .load (.t 1) (some 5)⟩, ⟨some 7, none, .call 29 [(.t 6)]⟩, ⟨some 8, none, .not (.t 7)⟩] none [1, 2, 8]) (.cond (.t 8) (.seq (.reg [⟨some 9, none, .build [(.c (.int .i64 0)), (.c (.int .i64 0)), (.c (.str ⟨#[]⟩)), (.z 1), (.z 5)] []⟩, ⟨none, none, .st (.t 2) (.t 9) (some 5)⟩, ⟨some 3, none, .mv (.k (.c (.bool false)))⟩] none [2, 3]) .ret) .skip)) (.seq (.reg [⟨some 10, none, .bsl 5 []⟩, ⟨some 4, none, .mv (.t 10)⟩] none [1, 2, 4]) (.seq (.seq (.reg [⟨some 11, none, .fa (.t 1) 4⟩, ⟨some 12, none, .load (.t 11) none⟩, ⟨some 13, none, .len (.t 12) false⟩, ⟨some 14, none, .bin false .sub (.t 13) (.k (.c (.int .i64 1)))⟩, ⟨some 5, none, .mv (.t 14)⟩] none [1, 2, 4, 5]) (.block 0 (.loop (.seq (.seq (.reg [⟨some 15, none, .mv (.t 5)⟩, ⟨some 16, none, .bin false .geq (.t 15) (.k (.c (.int .i64 0)))⟩] none [1, 2, 4, 5, 16]) (.cond (.t 16) .skip (.exit 0))) (.seq (.block 1 (.reg [⟨some 19, none, .mv (.t 4)⟩, ⟨some 20, none, .fa (.t 1) 4⟩, ⟨some 21, none, .load (.t 20) none⟩, ⟨some 22, none, .mv (.t 5)⟩, ⟨some 23, none, .ia (.t 21) (.t 22) 5⟩, ⟨some 24, none, .load (.t 23) (some 5)⟩, ⟨some 25, none, .bsl 5 [((.t 24), (some 5))]⟩, ⟨some 26, none, .app (.t 19) (.t 25) 5 80 []⟩, ⟨some 4, none, .mv (.t 26)⟩] none [1, 2, 4, 5])) (.reg [⟨some 17, none, .mv (.t 5)⟩, ⟨some 18, none, .bin false .sub (.t 17) (.k (.c (.int .i64 1)))⟩, ⟨some 5, none, .mv (.t 18)⟩] none [1, 2, 4, 5])))))) (.seq (.reg [⟨some 27, none, .mv (.t 4)⟩, ⟨some 28, none, .call 26 [(.t 27)]⟩, ⟨some 29, none, .call 31 [(.t 28)]⟩, ⟨some 30, none, .ext (.t 29) 0⟩, ⟨some 31, none, .ext (.t 29) 1⟩, ⟨none, none, .st (.t 2) (.t 30) (some 5)⟩, ⟨some 3, none, .mv (.t 31)⟩] none [2, 3]) .ret)))))
theorem chk_RowBack : chkX Go.Proofs.Try.prog 32 (Go.Proofs.Try.f16.body.getD .skip) x_RowBack = true := by kernel_rfl
theorem rs_RowBack : okRs Go.Proofs.Try.prog Go.Proofs.Try.f16.results.toList [.cell 2 (some 5), .tmp 3] = true := by kernel_rfl
theorem call_RowBack : okCallee Go.Proofs.Try.prog 16 = true := by kernel_rfl
/-- The outer i on both sides changed over. -/
def swp (l : List T) (i : Nat) : List T := (List.range l.length).map fun k => if k < i ∨ l.length - 1 - i < k then l.getD (l.length - 1 - k) T.zero else l.getD k T.zero
theorem swp_len (l : List T) (i : Nat) : (swp l i).length = l.length := by simp [swp]
theorem swp_at {l : List T} {i k : Nat} (hk : k < l.length) : (swp l i)[k]? = some (if k < i ∨ l.length - 1 - i < k then l.getD (l.length - 1 - k) T.zero else l.getD k T.zero) := by
  simp [swp, hk]
theorem getD_some {l : List T} {k : Nat} (hk : k < l.length) : l[k]? = some (l.getD k T.zero) := by simp [List.getD_eq_getElem?_getD, hk]
theorem swp_zero (l : List T) : swp l 0 = l := by
  refine List.ext_getElem? fun k => ?_
  rcases Nat.lt_or_ge k l.length with hk | hk
  · rw [swp_at hk, if_neg (by omega), getD_some hk]
  · rw [List.getElem?_eq_none (by rw [swp_len]; exact hk), List.getElem?_eq_none hk]
theorem swp_step {l : List T} {i : Nat} (h : i < l.length - 1 - i) : ((swp l i).set i (l.getD (l.length - 1 - i) T.zero)).set (l.length - 1 - i) (l.getD i T.zero) = swp l (i + 1) := by
  refine List.ext_getElem? fun k => ?_
  rcases Nat.lt_or_ge k l.length with hk | hk
  · rw [swp_at hk]
    by_cases h1 : k = l.length - 1 - i
    · rw [if_pos (by omega), h1, List.getElem?_set_self (by rw [List.length_set, swp_len]; omega), show l.length - 1 - (l.length - 1 - i) = i by omega]
    · rw [List.getElem?_set_ne (by omega)]
      by_cases h2 : k = i
      · rw [if_pos (by omega), h2, List.getElem?_set_self (by rw [swp_len]; omega)]
      · rw [List.getElem?_set_ne (by omega), swp_at hk]
        by_cases h3 : k < i ∨ l.length - 1 - i < k
        · rw [if_pos h3, if_pos (by omega)]
        · rw [if_neg h3, if_neg (by omega)]
  · rw [List.getElem?_eq_none (by rw [List.length_set, List.length_set, swp_len]; exact hk), List.getElem?_eq_none (by rw [swp_len]; exact hk)]
theorem swp_end {l : List T} {i : Nat} (h : ¬ (i : Int) < (l.length : Int) - 1 - i) : swp l i = l.reverse := by
  refine List.ext_getElem? fun k => ?_
  rcases Nat.lt_or_ge k l.length with hk | hk
  · rw [swp_at hk, List.getElem?_reverse hk, getD_some (by omega)]
    by_cases h3 : k < i ∨ l.length - 1 - i < k
    · rw [if_pos h3]
    · rw [if_neg h3, show l.length - 1 - k = k by omega]
  · rw [List.getElem?_eq_none (by rw [swp_len]; exact hk), List.getElem?_eq_none (by rw [List.length_reverse]; exact hk)]
noncomputable def spRev  : Spec := Spec.of (ι := (List T)) [true] (fun i => [.own 5 (encL i)]) (fun i => lenB 1000000 i.length) (fun _ => []) (fun i => [.own 5 (encL i.reverse)])
theorem spRev_inj : ∀ i j : (List T), (fun (i : (List T)) => ([.own 5 (encL i)] : List AV)) i = (fun (i : (List T)) => ([.own 5 (encL i)] : List AV)) j → i = j := by
  intro l l' h
  simpa [strs_eq, T.enc_eq, encL_eq, F.enc_eq, encF_eq, Tk.enc_eq, encTk_eq, Gn.enc_eq, ints_eq] using h
theorem spRev_md  : (spRev).md = [true] := rfl
theorem spRev_pre  (l : List T) : (spRev).pre [.own 5 (encL l)] = (lenB 1000000 l.length) := Spec.of_pre' spRev_inj l
theorem spRev_alts  : (spRev).alts = none := rfl
theorem spRev_res  (l : List T) : (spRev).res [.own 5 (encL l)] = [] := Spec.of_res spRev_inj l
theorem spRev_out  (l : List T) : (spRev).out [.own 5 (encL l)] = [.own 5 (encL l.reverse)] := Spec.of_out spRev_inj l
theorem Rev_sound : Sound Go.Proofs.Try.prog 42 spRev := by
  refine sound_fam GOK.nil Go.Proofs.Try.func42 (c := Go.Proofs.Try.f42.body.getD .skip) rfl (n := 28) rfl chk_Rev rs_Rev (fun _ => by simp) ?_ ?_
  · exact spRev_inj
  · rintro l h1
    simp only [lenB] at h1
    simp only [x_Rev, rg, go_sem, seval, Prod.fst, encL_len]
    repeat' (first | with_reducible assumption | with_reducible refine And.intro ?_ ?_ | intro _)
    all_goals first | (show _ ≤ (_ : Int); omega) | skip
    refine pw_loop (ι := Nat) (fun i => l.length - i) (fun i => i = 0 ∨ 2 * i ≤ l.length)
      (fun i => ⟨[(0, .q (.own 1000000028)), (2, .q (.c (.int .i64 i))), (3, .q (.c (.int .i64 ((l.length : Int) - 1 - i))))], [], [(1000000028, 5, encL (swp l i))]⟩) 0 (.inl rfl) ?_ ?_
    · refine Le.of_eq ?_
      simp [swp_zero]
    · intro i hi
      by_cases c : (i : Int) < (l.length : Int) - 1 - i
      · have b1 : ((i : Int) < (l.length : Int) - 1 - i) = True := eq_true c
        have b2 : ((l.length : Int) - 1 - i).toNat = l.length - 1 - i := by omega
        have a1 := encL_at ((swp_at (l := l) (i := i) (k := i) (by omega)).trans (by rw [if_neg (by omega)]))
        have a2 := encL_at ((swp_at (l := l) (i := i) (k := l.length - 1 - i) (by omega)).trans (by rw [if_neg (by omega)]))
        have f1 := T.enc_len (l.getD i T.zero)
        have f2 := T.enc_len (l.getD (l.length - 1 - i) T.zero)
        have sl := swp_len l i
        have b3 := swp_step (l := l) (i := i) (by omega)
        have a3 : ((swp l i).set i (l.getD (l.length - 1 - i) T.zero))[l.length - 1 - i]? = some (l.getD (l.length - 1 - i) T.zero) := by
          rw [List.getElem?_set_ne (by omega), swp_at (by omega), if_neg (by omega)]
        have a4 := encL_at a3
        have sl2 : ((swp l i).set i (l.getD (l.length - 1 - i) T.zero)).length = l.length := by rw [List.length_set, sl]
        simp only [rg, go_sem, seval, Prod.fst, b1, b2, a1, a2, a4, f1, f2, sl, sl2, T.enc_drop5, encL_set, List.append_nil, encL_len]
        repeat' (first | with_reducible assumption | with_reducible refine And.intro ?_ ?_ | intro _)
        all_goals first | (show _ ≤ (_ : Int); omega) | (show _ < (_ : Int); omega) | (show _ < (_ : Nat); omega) | skip
        refine ⟨i + 1, .inr (by omega), by omega, ?_⟩
        rw [b3, show (l.length : Int) - 1 - i - 1 = (l.length : Int) - 1 - ((i + 1 : Nat) : Int) by omega]
        exact Le.refl _
      · have b1 : ((i : Int) < (l.length : Int) - 1 - i) = False := eq_false c
        have e := swp_end c
        simp only [rg, go_sem, seval, Prod.fst, b1, e]
        repeat' (first | with_reducible assumption | with_reducible refine And.intro ?_ ?_ | intro _)
        all_goals first | (show _ ≤ (_ : Int); omega) | rfl | skip
open Classical in
noncomputable def backT (v : T) : T := if rowT v then .mk 5 0 ⟨#[]⟩ [] v.list.reverse else T.zero
theorem backT_row {l : List T} (h : okT (.mk 5 0 ⟨#[]⟩ [] l)) : backT (.mk 5 0 ⟨#[]⟩ [] l) = .mk 5 0 ⟨#[]⟩ [] l.reverse := if_pos (rowT_row.2 h)
theorem backT_not {v : T} (h : ¬ rowT v) : backT v = T.zero := if_neg h
theorem back_ok {l : List T} (h : okT (.mk 5 0 ⟨#[]⟩ [] l)) : okT (.mk 5 0 ⟨#[]⟩ [] l.reverse) := okT_row_perm h (List.reverse_perm l)
theorem rev_fit {B : Int} {l : List T} (h : fitL B l) : fitL B l.reverse := fitL_of fun t ht => fitL_mem h t (by simpa using ht)
noncomputable def spBackI  : Spec := Spec.of (ι := T) [false] (fun i => [.d (.agg i.enc)]) (fun i => i.fit 1000000) (fun i => [.d (.agg (backT i).enc), .d (.one (.bool (decide (rowT i))))]) (fun _ => [.gone])
theorem spBackI_inj : ∀ i j : T, (fun (i : T) => ([.d (.agg i.enc)] : List AV)) i = (fun (i : T) => ([.d (.agg i.enc)] : List AV)) j → i = j := by
  intro v v' h
  simpa [strs_eq, T.enc_eq, encL_eq, F.enc_eq, encF_eq, Tk.enc_eq, encTk_eq, Gn.enc_eq, ints_eq] using h
theorem spBackI_md  : (spBackI).md = [false] := rfl
theorem spBackI_pre  (v : T) : (spBackI).pre [.d (.agg v.enc)] = (v.fit 1000000) := Spec.of_pre' spBackI_inj v
theorem spBackI_alts  : (spBackI).alts = none := rfl
theorem spBackI_res  (v : T) : (spBackI).res [.d (.agg v.enc)] = [.d (.agg (backT v).enc), .d (.one (.bool (decide (rowT v))))] := Spec.of_res spBackI_inj v
theorem spBackI_out  (v : T) : (spBackI).out [.d (.agg v.enc)] = [.gone] := Spec.of_out spBackI_inj v
theorem RowBackI_sound : Sound Go.Proofs.Try.prog 15 spBackI := by
  refine sound_fam (GOK.cons (l := [(41, spCloneV), (42, spRev), (32, spRow), (28, spTold)]) call_isRow isRow_sound (GOK.cons call_CloneV CloneV_sound (GOK.cons call_Rev Rev_sound (GOK.cons call_row row_sound (GOK.cons call_told told_sound GOK.nil))))) Go.Proofs.Try.func15 (c := Go.Proofs.Try.f15.body.getD .skip) rfl (n := 19) rfl chk_RowBackI rs_RowBackI (fun _ => by simp) ?_ ?_
  · exact spBackI_inj
  · rintro v h1
    change v.fit 1000000 at h1
    have f3 := T.enc_len v
    have v2 : v.fit 140737488355328 := T.fit_mono (by decide) h1
    by_cases c : rowT v
    · obtain ⟨l, rfl⟩ : ∃ l, v = .mk 5 0 ⟨#[]⟩ [] l := ⟨_, rowT_is c⟩
      have o1 := c.1
      have e1 := backT_row o1
      have o2 := back_ok o1
      have e2 := toldT_ok o2
      have l1 : (l.length : Int) ≤ 1000000 := (T.fit_list h1).1
      have l2 : (l.reverse.length : Int) ≤ 1000000 := by simpa using l1
      have g4 : (T.mk 5 0 ⟨#[]⟩ [] l.reverse).fit 2000000 := rowT_fit (by omega) (by unfold lenB; omega) (rev_fit (fitL_of fun t ht => T.fit_mono (by decide) (fitL_mem (T.fit_list h1).2 t ht)))
      have f4 := T.enc_len (.mk 5 0 ⟨#[]⟩ [] l.reverse)
      simp only [x_RowBackI, rg, go_sem, seval, T.enc, foldT, foldT0, e1, e2, c, o2, f4, encL_len, spIsRow_md, spIsRow_pre, spIsRow_alts, spIsRow_res, spIsRow_out, spCloneV_md, spCloneV_pre, spCloneV_alts, spCloneV_res, spCloneV_out, spRev_md, spRev_pre, spRev_alts, spRev_res, spRev_out, spRow_md, spRow_pre, spRow_alts, spRow_res, spRow_out, spTold_md, spTold_pre, spTold_alts, spTold_res, spTold_out]
      repeat' (first | with_reducible assumption | with_reducible refine And.intro ?_ ?_ | intro _)
      all_goals first | (show _ ≤ (_ : Int); omega) | assumption | (unfold lenB; omega) | skip
    · have e1 := backT_not c
      simp only [x_RowBackI, rg, go_sem, seval, f3, e1, c, spIsRow_md, spIsRow_pre, spIsRow_alts, spIsRow_res, spIsRow_out]
      repeat' (first | with_reducible assumption | with_reducible refine And.intro ?_ ?_ | intro _)
      all_goals first | omega | assumption | exact T.zero_enc | skip
theorem rev_take {l : List T} {m : Nat} {x : T} (hm : m < l.length) (hx : l[l.length - 1 - m]? = some x) : l.reverse.take (m + 1) = l.reverse.take m ++ [x] := take_snoc (by rw [List.getElem?_reverse hm]; exact hx)
noncomputable def spBack  : Spec := Spec.of (ι := T) [false] (fun i => [.d (.agg i.enc)]) (fun i => i.fit 1000000 ∧ sizeT i ≤ 1000000) (fun i => [.d (.agg (backT i).enc), .d (.one (.bool (decide (rowT i))))]) (fun _ => [.gone])
theorem spBack_inj : ∀ i j : T, (fun (i : T) => ([.d (.agg i.enc)] : List AV)) i = (fun (i : T) => ([.d (.agg i.enc)] : List AV)) j → i = j := by
  intro v v' h
  simpa [strs_eq, T.enc_eq, encL_eq, F.enc_eq, encF_eq, Tk.enc_eq, encTk_eq, Gn.enc_eq, ints_eq] using h
theorem spBack_md  : (spBack).md = [false] := rfl
theorem spBack_pre  (v : T) : (spBack).pre [.d (.agg v.enc)] = (v.fit 1000000 ∧ sizeT v ≤ 1000000) := Spec.of_pre' spBack_inj v
theorem spBack_alts  : (spBack).alts = none := rfl
theorem spBack_res  (v : T) : (spBack).res [.d (.agg v.enc)] = [.d (.agg (backT v).enc), .d (.one (.bool (decide (rowT v))))] := Spec.of_res spBack_inj v
theorem spBack_out  (v : T) : (spBack).out [.d (.agg v.enc)] = [.gone] := Spec.of_out spBack_inj v
theorem RowBack_sound : Sound Go.Proofs.Try.prog 16 spBack := by
  refine sound_fam (GOK.cons (l := [(26, spL4Of), (31, spL2Told)]) call_l4Row l4Row_sound (GOK.cons call_l4Of l4Of_sound (GOK.cons call_l2Told l2Told_sound GOK.nil))) Go.Proofs.Try.func16 (c := Go.Proofs.Try.f16.body.getD .skip) rfl (n := 32) rfl chk_RowBack rs_RowBack (fun _ => by simp) ?_ ?_
  · exact spBack_inj
  · rintro v ⟨h1, h2⟩
    have h2' : sizeT v ≤ 1000000 := h2
    have f3 := T.enc_len v
    have v2 : v.fit 140737488355328 := T.fit_mono (by decide) h1
    by_cases c : rowT v
    · obtain ⟨l, rfl⟩ : ∃ l, v = .mk 5 0 ⟨#[]⟩ [] l := ⟨_, rowT_is c⟩
      have o1 := c.1
      have c' : rowT (T.mk 5 0 ⟨#[]⟩ [] l) = True := eq_true c
      have e1 := backT_row o1
      have o2 := back_ok o1
      have e2 := toldT_ok o2
      have l1 : (l.length : Int) ≤ 1000000 := (T.fit_list h1).1
      have l2 : (l.reverse.length : Int) ≤ 1000000 := by simpa using l1
      have g4 : (T.mk 5 0 ⟨#[]⟩ [] l.reverse).fit 2000000 := rowT_fit (by omega) (by unfold lenB; omega) (rev_fit (fitL_of fun t ht => T.fit_mono (by decide) (fitL_mem (T.fit_list h1).2 t ht)))
      have sz : sizeL l.reverse = sizeL l := sizeL_perm (List.reverse_perm l)
      simp only [sizeT] at h2
      have f4 := T.enc_len (.mk 5 0 ⟨#[]⟩ [] l.reverse)
      simp only [x_RowBack, rg, go_sem, seval, T.enc, foldT, foldT0, e1, c', encL_len, spL4Row_md, spL4Row_pre, spL4Row_alts, spL4Row_res, spL4Row_out]
      repeat' (first | with_reducible assumption | with_reducible refine And.intro ?_ ?_ | intro _)
      all_goals first | (show _ ≤ (_ : Int); omega) | assumption | (unfold lenB; omega) | (show sizeT (T.mk _ _ _ _ _) ≤ _; simp only [sizeT]; omega) | skip
      refine pw_loop (ι := Nat) (fun m => l.length - m) (fun m => m ≤ l.length)
        (fun m => ⟨[(1, .q (.box 1 0)), (2, .q (.box 2 0)), (4, .q (.own 201)), (5, .q (.c (.int .i64 ((l.length : Int) - 1 - m))))], [(1, [.c (.int .i64 5), .c (.int .i64 0), .c (.str ⟨#[]⟩), .c (.row 1 (strs [])), .c (.row 5 (encL l))]), (2, [.c (.int .i64 0), .c (.int .i64 0), .c (.str ⟨#[]⟩), .z 1, .z 5])], [(201, 5, encL (l.reverse.take m))]⟩) 0 (Nat.zero_le _) ?_ ?_
      · refine Le.own (t := 4) (d := 201) (sz := 5) (by decide) (by simp) (by simp [Q.killO]) ?_
        simp [PV.map, Q.killO]
      · intro m hm
        have ml : (l.reverse.take m).length = m := by rw [List.length_take, List.length_reverse]; omega
        rcases Nat.lt_or_ge m l.length with hlt | hge
        · obtain ⟨x, hx, _, hmem⟩ := drop_at (l := l) (i := l.length - 1 - m) (by omega)
          have b1 : ((l.length : Int) - 1 - m ≥ 0) = True := eq_true (by omega)
          have b2 : ((l.length : Int) - 1 - m).toNat = l.length - 1 - m := by omega
          have a1 := encL_at hx
          have f1 := T.enc_len x
          have e := rev_take hlt hx
          simp only [rg, go_sem, seval, Prod.fst, b1, b2, a1, f1, ml, encL_len, encL_appL, encL_one]
          repeat' (first | with_reducible assumption | with_reducible refine And.intro ?_ ?_ | intro _)
          all_goals first | (show _ ≤ (_ : Int); omega) | (show _ < (_ : Int); omega) | (show _ < (_ : Nat); omega) | (show _ ≤ (_ : Nat); omega) | skip
          refine ⟨m + 1, by omega, by omega, ?_⟩
          rw [e, show (l.length : Int) - 1 - m - 1 = (l.length : Int) - 1 - ((m + 1 : Nat) : Int) by omega]
          exact Le.refl _
        · obtain rfl : m = l.length := by omega
          have b1 : ((l.length : Int) - 1 - l.length ≥ 0) = False := eq_false (by omega)
          have e : l.reverse.take l.length = l.reverse := List.take_of_length_le (by simp)
          have o2' : okT (T.mk 5 0 ⟨#[]⟩ [] l.reverse) = True := eq_true o2
          simp only [rg, go_sem, seval, Prod.fst, b1, e, e2, f4, o2', encL_len, spL4Of_md, spL4Of_pre, spL4Of_alts, spL4Of_res, spL4Of_out, spL2Told_md, spL2Told_pre, spL2Told_alts, spL2Told_res, spL2Told_out]
          repeat' (first | with_reducible assumption | with_reducible refine And.intro ?_ ?_ | intro _)
          all_goals first | (show _ ≤ (_ : Int); omega) | assumption | (simp only [sizeT]; omega) | skip
    · have e1 := backT_not c
      simp only [x_RowBack, rg, go_sem, seval, f3, e1, c, spL4Row_md, spL4Row_pre, spL4Row_alts, spL4Row_res, spL4Row_out]
      repeat' (first | with_reducible assumption | with_reducible refine And.intro ?_ ?_ | intro _)
      all_goals first | omega | assumption | exact T.zero_enc | skip
end Go.Proofs.Pw
/- Rows one behind the other in a new row. -/
set_option linter.unusedSimpArgs false
set_option maxRecDepth 20000
namespace Go.Proofs.Pw
set_option linter.unusedSectionVars false
variable [Globs]
def x_Grow : X := (.gh (.seq (.reg [⟨some 4, none, .mv (.k (.z 5))⟩] none [0, 1]) (.seq (.seq (.reg [⟨some 5, none, .mv (.t 1)⟩, ⟨some 6, none, .bin false .lss (.t 5) (.k (.c (.int .i64 0)))⟩] none [0, 1, 6]) (.cond (.t 6) .bad .skip)) (.seq (.seq (.reg [⟨some 8, none, .mv (.t 1)⟩, ⟨some 9, none, .mv (.t 0)⟩, ⟨some 10, none, .cap (.t 9)⟩, ⟨some 11, none, .mv (.t 0)⟩, ⟨some 12, none, .len (.t 11) false⟩, ⟨some 13, none, .bin false .sub (.t 10) (.t 12)⟩, ⟨some 14, none, .bin false .sub (.t 8) (.t 13)⟩, ⟨some 1, none, .mv (.t 14)⟩] none [0, 1]) (.seq (.reg [⟨some 15, none, .mv (.t 1)⟩, ⟨some 16, none, .bin false .gtr (.t 15) (.k (.c (.int .i64 0)))⟩] none [0, 1, 16]) (.cond (.t 16) (.reg [⟨some 17, none, .mv (.t 0)⟩, ⟨some 18, none, .mv (.t 0)⟩, ⟨some 19, none, .cap (.t 18)⟩, ⟨some 20, none, .sub (.t 17) none (some (.t 19)) 5⟩, ⟨some 21, none, .mv (.t 1)⟩, ⟨some 22, none, .apn (.t 20) (.t 21) [(.int .i64 0), (.int .i64 0), (.str ⟨#[]⟩), (.row 1 []), (.row 5 [])] 80⟩, ⟨some 23, none, .mv (.t 0)⟩, ⟨some 24, none, .len (.t 23) false⟩, ⟨some 25, none, .sub (.t 22) none (some (.t 24)) 5⟩, ⟨some 0, none, .mv (.t 25)⟩] none [0]) .skip))) (.seq (.reg [⟨some 26, none, .mv (.t 0)⟩, ⟨some 4, none, .mv (.t 26)⟩] none [4]) (.gh .ret))))))
theorem chk_Grow : chkX Go.Proofs.Try.prog 27 (Go.Proofs.Try.f68.body.getD .skip) x_Grow = true := by kernel_rfl
theorem rs_Grow : okRs Go.Proofs.Try.prog Go.Proofs.Try.f68.results.toList [.tmp 4] = true := by kernel_rfl
theorem call_Grow : okCallee Go.Proofs.Try.prog 68 = true := by kernel_rfl
def x_Concat : X := (.seq (.reg [⟨some 2, none, .mv (.k (.z 5))⟩] none [0]) (.seq (.reg [⟨some 3, none, .mv (.k (.c (.int .i64 0)))⟩] none [0, 3]) (.seq (.seq (.reg [⟨some 9, none, .mv (.t 0)⟩, ⟨some 10, none, .len (.t 9) false⟩, ⟨some 11, none, .mv (.k (.c (.int .i64 0)))⟩] none [0, 3, 9, 10, 11]) (.block 0 (.loop (.seq (.reg [⟨some 12, none, .bin false .lss (.t 11) (.t 10)⟩] none [0, 3, 9, 10, 11, 12]) (.seq (.cond (.t 12) .skip (.exit 0)) (.seq (.block 1 (.seq (.reg [⟨some 13, none, .ia (.t 9) (.t 11) 1⟩, ⟨some 14, none, .load (.t 13) none⟩, ⟨some 5, none, .mv (.t 14)⟩] none [0, 3, 5, 9, 10, 11]) (.seq (.reg [⟨some 15, none, .mv (.t 3)⟩, ⟨some 16, none, .mv (.t 5)⟩, ⟨some 17, none, .len (.t 16) false⟩, ⟨some 18, none, .bin false .add (.t 15) (.t 17)⟩, ⟨some 3, none, .mv (.t 18)⟩] none [0, 3, 9, 10, 11]) (.seq (.reg [⟨some 19, none, .mv (.t 3)⟩, ⟨some 20, none, .bin false .lss (.t 19) (.k (.c (.int .i64 0)))⟩] none [0, 3, 9, 10, 11, 20]) (.cond (.t 20) .bad .skip))))) (.reg [⟨some 22, none, .bin false .add (.t 11) (.k (.c (.int .i64 1)))⟩, ⟨some 11, none, .mv (.t 22)⟩] none [0, 3, 9, 10, 11]))))))) (.seq (.reg [⟨some 23, none, .mv (.t 3)⟩, ⟨some 24, none, .call 68 [(.k (.c (.zz 5))), (.t 23)]⟩, ⟨some 6, none, .mv (.t 24)⟩] none [0, 6]) (.seq (.seq (.reg [⟨some 25, none, .mv (.t 0)⟩, ⟨some 26, none, .len (.t 25) false⟩, ⟨some 27, none, .mv (.k (.c (.int .i64 0)))⟩] none [6, 25, 26, 27]) (.block 2 (.loop (.seq (.reg [⟨some 28, none, .bin false .lss (.t 27) (.t 26)⟩] none [6, 25, 26, 27, 28]) (.seq (.cond (.t 28) .skip (.exit 2)) (.seq (.block 3 (.seq (.reg [⟨some 29, none, .ia (.t 25) (.t 27) 1⟩, ⟨some 30, none, .load (.t 29) none⟩, ⟨some 8, none, .mv (.t 30)⟩] none [6, 8, 25, 26, 27]) (.reg [⟨some 31, none, .mv (.t 6)⟩, ⟨some 32, none, .mv (.t 8)⟩, ⟨some 33, none, .app (.t 31) (.t 32) 5 80 []⟩, ⟨some 6, none, .mv (.t 33)⟩] none [6, 25, 26, 27]))) (.reg [⟨some 34, none, .bin false .add (.t 27) (.k (.c (.int .i64 1)))⟩, ⟨some 27, none, .mv (.t 34)⟩] none [6, 25, 26, 27]))))))) (.seq (.reg [⟨some 35, none, .mv (.t 6)⟩, ⟨some 2, none, .mv (.t 35)⟩] none [2]) .ret))))))
theorem chk_Concat : chkX Go.Proofs.Try.prog 36 (Go.Proofs.Try.f39.body.getD .skip) x_Concat = true := by kernel_rfl
theorem rs_Concat : okRs Go.Proofs.Try.prog Go.Proofs.Try.f39.results.toList [.tmp 2] = true := by kernel_rfl
theorem call_Concat : okCallee Go.Proofs.Try.prog 39 = true := by kernel_rfl
noncomputable def spGrow  : Spec := Spec.of (ι := Nat) [false, false] (fun i => [.d (.one (.zz 5)), .d (.one (.int .i64 i))]) (fun i => i ≤ 2000002) (fun _ => [.own 5 []]) (fun _ => [.gone, .gone])
theorem spGrow_inj : ∀ i j : Nat, (fun (i : Nat) => ([.d (.one (.zz 5)), .d (.one (.int .i64 i))] : List AV)) i = (fun (i : Nat) => ([.d (.one (.zz 5)), .d (.one (.int .i64 i))] : List AV)) j → i = j := by
  intro n n' h
  simpa [strs_eq, T.enc_eq, encL_eq, F.enc_eq, encF_eq, Tk.enc_eq, encTk_eq, Gn.enc_eq, ints_eq, Int.natCast_inj] using h
theorem spGrow_md  : (spGrow).md = [false, false] := rfl
theorem spGrow_pre  (n : Nat) : (spGrow).pre [.d (.one (.zz 5)), .d (.one (.int .i64 n))] = (n ≤ 2000002) := Spec.of_pre' spGrow_inj n
theorem spGrow_alts  : (spGrow).alts = none := rfl
theorem spGrow_res  (n : Nat) : (spGrow).res [.d (.one (.zz 5)), .d (.one (.int .i64 n))] = [.own 5 []] := Spec.of_res spGrow_inj n
theorem spGrow_out  (n : Nat) : (spGrow).out [.d (.one (.zz 5)), .d (.one (.int .i64 n))] = [.gone, .gone] := Spec.of_out spGrow_inj n
theorem Grow_sound : Sound Go.Proofs.Try.prog 68 spGrow := by
  refine sound_fam GOK.nil Go.Proofs.Try.func68 (c := Go.Proofs.Try.f68.body.getD .skip) rfl (n := 27) rfl chk_Grow rs_Grow (fun _ => by simp) ?_ ?_
  · exact spGrow_inj
  · rintro n h1
    change n ≤ 2000002 at h1
    simp only [x_Grow]
    refine gh_skip ?_
    have b1 : ((n : Int) < 0) = False := eq_false (by omega)
    simp only [rg, go_sem, seval, Prod.fst, b1]
    repeat' (first | with_reducible assumption | with_reducible refine And.intro ?_ ?_ | intro _)
    all_goals first | (show _ ≤ (_ : Int); omega) | (show _ < (_ : Int); omega) | skip
    · refine gh_le (Le.cut (t := 4) (r := 22) (d := 77) (sz := 5) (n := 0) rfl rfl (Nat.zero_le _) (by decide)) ?_
      simp only [rg, go_sem, seval, Prod.fst, List.take_zero]
    · refine gh_le (Le.own (tm' := [(4, .q (.own 77))]) (t := 4) (d := 77) (sz := 5) (by decide) (by simp) (by simp) (by simp)) ?_
      simp only [rg, go_sem, seval, Prod.fst]
def cLen (a b : List T) : Nat → Int
  | 0 => 0
  | 1 => a.length
  | _ => a.length + b.length
def cCat (a b : List T) : Nat → List (List C)
  | 0 => []
  | 1 => encL a
  | _ => encL a ++ encL b
noncomputable def spConcat  : Spec := Spec.of (ι := (List T) × (List T)) [false] (fun i => [.d (.one (.row 1 [[.row 5 (encL i.1)], [.row 5 (encL i.2)]]))]) (fun i => lenB 1000000 i.1.length ∧ lenB 1000000 i.2.length) (fun i => [.own 5 (encL (i.1 ++ i.2))]) (fun _ => [.gone])
theorem spConcat_inj : ∀ i j : (List T) × (List T), (fun (i : (List T) × (List T)) => ([.d (.one (.row 1 [[.row 5 (encL i.1)], [.row 5 (encL i.2)]]))] : List AV)) i = (fun (i : (List T) × (List T)) => ([.d (.one (.row 1 [[.row 5 (encL i.1)], [.row 5 (encL i.2)]]))] : List AV)) j → i = j := by
  rintro ⟨a, b⟩ ⟨a', b'⟩ h
  simp only [Prod.mk.injEq]
  simpa [strs_eq, T.enc_eq, encL_eq, F.enc_eq, encF_eq, Tk.enc_eq, encTk_eq, Gn.enc_eq, ints_eq, Int.natCast_inj] using h
theorem spConcat_md  : (spConcat).md = [false] := rfl
theorem spConcat_pre  (a : List T) (b : List T) : (spConcat).pre [.d (.one (.row 1 [[.row 5 (encL a)], [.row 5 (encL b)]]))] = (lenB 1000000 a.length ∧ lenB 1000000 b.length) := Spec.of_pre' spConcat_inj (a, b)
theorem spConcat_alts  : (spConcat).alts = none := rfl
theorem spConcat_res  (a : List T) (b : List T) : (spConcat).res [.d (.one (.row 1 [[.row 5 (encL a)], [.row 5 (encL b)]]))] = [.own 5 (encL (a ++ b))] := Spec.of_res spConcat_inj (a, b)
theorem spConcat_out  (a : List T) (b : List T) : (spConcat).out [.d (.one (.row 1 [[.row 5 (encL a)], [.row 5 (encL b)]]))] = [.gone] := Spec.of_out spConcat_inj (a, b)
theorem Concat_sound : Sound Go.Proofs.Try.prog 39 spConcat := by
  refine sound_fam (GOK.cons (l := []) call_Grow Grow_sound GOK.nil) Go.Proofs.Try.func39 (c := Go.Proofs.Try.f39.body.getD .skip) rfl (n := 36) rfl chk_Concat rs_Concat (fun _ => by simp) ?_ ?_
  · exact spConcat_inj
  · rintro ⟨a, b⟩ ⟨h1, h2⟩
    simp only [lenB] at h1 h2
    simp only [x_Concat, rg, go_sem, seval, Prod.fst]
    repeat' (first | with_reducible assumption | with_reducible refine And.intro ?_ ?_ | intro _)
    all_goals first | (show _ ≤ (_ : Int); omega) | (show _ < (_ : Int); omega) | skip
    refine pw_loop (ι := Nat) (fun i => 2 - i) (fun i => i ≤ 2)
      (fun i => ⟨[(0, .q (.c (.row 1 [[.row 5 (encL a)], [.row 5 (encL b)]]))), (3, .q (.c (.int .i64 (cLen a b i)))), (9, .q (.c (.row 1 [[.row 5 (encL a)], [.row 5 (encL b)]]))), (10, .q (.c (.int .i64 2))), (11, .q (.c (.int .i64 i)))], [], []⟩) 0 (Nat.zero_le _) (Le.refl _) ?_
    intro i hi
    have hi' : i = 0 ∨ i = 1 ∨ i = 2 := by omega
    have c0 : cLen a b 0 = 0 := rfl
    have c1 : cLen a b 1 = a.length := rfl
    have c2 : cLen a b 2 = a.length + b.length := rfl
    have n1 : ((a.length : Int) < 0) = False := eq_false (by omega)
    have n2 : ((a.length : Int) + b.length < 0) = False := eq_false (by omega)
    rcases hi' with rfl | rfl | rfl
    · simp only [rg, go_sem, seval, Prod.fst, encL_len, c0, n1, Int.zero_add]
      repeat' (first | with_reducible assumption | with_reducible refine And.intro ?_ ?_ | intro _)
      all_goals first | (show _ ≤ (_ : Int); omega) | (show _ < (_ : Int); omega) | skip
      exact ⟨1, by omega, by omega, Le.refl _⟩
    · simp only [rg, go_sem, seval, Prod.fst, encL_len, c1, n2]
      repeat' (first | with_reducible assumption | with_reducible refine And.intro ?_ ?_ | intro _)
      all_goals first | (show _ ≤ (_ : Int); omega) | (show _ < (_ : Int); omega) | skip
      exact ⟨2, by omega, by omega, Le.refl _⟩
    · have c2' : cLen a b 2 = ((a.length + b.length : Nat) : Int) := by rw [c2]; omega
      simp only [rg, go_sem, seval, Prod.fst, encL_len, c2', spGrow_md, spGrow_pre, spGrow_alts, spGrow_res, spGrow_out]
      repeat' (first | with_reducible assumption | with_reducible refine And.intro ?_ ?_ | intro _)
      all_goals first | (show a.length + b.length ≤ 2000002; omega) | (show _ ≤ (_ : Int); omega) | (show _ < (_ : Int); omega) | (show _ ≤ (_ : Nat); omega) | skip
      refine pw_loop (ι := Nat) (fun i => 2 - i) (fun i => i ≤ 2)
        (fun i => ⟨[(6, .q (.own 24)), (25, .q (.c (.row 1 [[.row 5 (encL a)], [.row 5 (encL b)]]))), (26, .q (.c (.int .i64 2))), (27, .q (.c (.int .i64 i)))], [], [(24, 5, cCat a b i)]⟩) 0 (Nat.zero_le _) (Le.refl _) ?_
      intro i hi
      have hi' : i = 0 ∨ i = 1 ∨ i = 2 := by omega
      have c0 : cCat a b 0 = [] := rfl
      have c1 : cCat a b 1 = encL a := rfl
      have c2 : cCat a b 2 = encL a ++ encL b := rfl
      rcases hi' with rfl | rfl | rfl
      · simp only [rg, go_sem, seval, Prod.fst, encL_len, c0]
        repeat' (first | with_reducible assumption | with_reducible refine And.intro ?_ ?_ | intro _)
        all_goals first | (show _ ≤ (_ : Int); omega) | (show _ < (_ : Int); omega) | (show _ ≤ (_ : Nat); omega) | skip
        exact ⟨1, by omega, by omega, Le.refl _⟩
      · simp only [rg, go_sem, seval, Prod.fst, encL_len, c1]
        repeat' (first | with_reducible assumption | with_reducible refine And.intro ?_ ?_ | intro _)
        all_goals first | (show _ ≤ (_ : Int); omega) | (show _ < (_ : Int); omega) | (show _ ≤ (_ : Nat); omega) | skip
        exact ⟨2, by omega, by omega, Le.refl _⟩
      · simp only [rg, go_sem, seval, Prod.fst, encL_len, c2, encL_appL]
        repeat' (first | with_reducible assumption | with_reducible refine And.intro ?_ ?_ | intro _)
        all_goals first | (show _ ≤ (_ : Int); omega) | (show _ < (_ : Int); omega) | (show _ ≤ (_ : Nat); omega) | skip
end Go.Proofs.Pw
/- PartAdd of rows. -/
set_option linter.unusedSimpArgs false
set_option maxRecDepth 20000
namespace Go.Proofs.Pw
set_option linter.unusedSectionVars false
variable [Globs]
def x_PartAddI : X := (.seq (.reg [⟨some 2, none, .box (.t 0) (some 5)⟩, ⟨some 3, none, .box (.t 1) (some 5)⟩, ⟨some 4, none, .alloc [(.c (.int .i64 0)), (.c (.int .i64 0)), (.c (.str ⟨#[]⟩)), (.z 1), (.z 5)]⟩, ⟨some 5, none, .mv (.k (.c (.bool false)))⟩] none [2, 3, 4]) (.seq (.seq (.reg [⟨some 9, none, .load (.t 2) (some 5)⟩, ⟨some 10, none, .call 35 [(.t 9)]⟩, ⟨some 11, none, .not (.t 10)⟩, ⟨some 12, none, .mv (.t 11)⟩, ⟨some 13, some (12, false), .load (.t 3) (some 5)⟩, ⟨some 14, some (12, false), .call 35 [(.t 13)]⟩, ⟨some 15, some (12, false), .not (.t 14)⟩, ⟨some 16, none, .pick (.t 12) (.k (.c (.bool true))) (.t 15)⟩] none [2, 3, 4, 16]) (.cond (.t 16) (.seq (.reg [⟨some 17, none, .build [(.c (.int .i64 0)), (.c (.int .i64 0)), (.c (.str ⟨#[]⟩)), (.z 1), (.z 5)] []⟩, ⟨none, none, .st (.t 4) (.t 17) (some 5)⟩, ⟨some 5, none, .mv (.k (.c (.bool false)))⟩] none [4, 5]) .ret) .skip)) (.seq (.block 0 (.seq (.reg [⟨some 19, none, .fa (.t 2) 0⟩, ⟨some 20, none, .load (.t 19) none⟩, ⟨some 21, none, .bin false .eql (.t 20) (.k (.c (.int .i64 0)))⟩, ⟨some 18, none, .mv (.t 21)⟩] none [2, 3, 4, 18]) (.cond (.t 18) (.seq (.reg [⟨some 22, none, .load (.t 3) (some 5)⟩, ⟨some 23, none, .call 28 [(.t 22), (.k (.c (.bool true)))]⟩, ⟨some 24, none, .ext (.t 23) 0⟩, ⟨some 25, none, .ext (.t 23) 1⟩, ⟨none, none, .st (.t 4) (.t 24) (some 5)⟩, ⟨some 5, none, .mv (.t 25)⟩] none [4, 5]) .ret) (.seq (.reg [⟨some 27, none, .fa (.t 3) 0⟩, ⟨some 28, none, .load (.t 27) none⟩, ⟨some 29, none, .bin false .eql (.t 28) (.k (.c (.int .i64 0)))⟩, ⟨some 26, none, .mv (.t 29)⟩] none [2, 3, 4, 26]) (.cond (.t 26) (.seq (.reg [⟨some 30, none, .load (.t 2) (some 5)⟩, ⟨some 31, none, .call 28 [(.t 30), (.k (.c (.bool true)))]⟩, ⟨some 32, none, .ext (.t 31) 0⟩, ⟨some 33, none, .ext (.t 31) 1⟩, ⟨none, none, .st (.t 4) (.t 32) (some 5)⟩, ⟨some 5, none, .mv (.t 33)⟩] none [4, 5]) .ret) (.seq (.reg [⟨some 35, none, .fa (.t 2) 0⟩, ⟨some 36, none, .load (.t 35) none⟩, ⟨some 37, none, .fa (.t 3) 0⟩, ⟨some 38, none, .load (.t 37) none⟩, ⟨some 39, none, .bin false .neq (.t 36) (.t 38)⟩, ⟨some 34, none, .mv (.t 39)⟩] none [2, 3, 4, 34]) (.cond (.t 34) (.seq (.reg [⟨some 40, none, .build [(.c (.int .i64 0)), (.c (.int .i64 0)), (.c (.str ⟨#[]⟩)), (.z 1), (.z 5)] []⟩, ⟨none, none, .st (.t 4) (.t 40) (some 5)⟩, ⟨some 5, none, .mv (.k (.c (.bool false)))⟩] none [4, 5]) .ret) .skip))))))) (.seq (.seq (.reg [⟨some 41, none, .fa (.t 2) 0⟩, ⟨some 42, none, .load (.t 41) none⟩] none [2, 3, 4, 42]) (.block 1 (.seq (.reg [⟨some 44, none, .bin false .eql (.t 42) (.k (.c (.int .i64 3)))⟩, ⟨some 43, none, .mv (.t 44)⟩] none [2, 3, 4, 42, 43]) (.cond (.t 43) (.seq (.reg [⟨some 45, none, .fa (.t 2) 1⟩, ⟨some 46, none, .load (.t 45) none⟩, ⟨some 47, none, .fa (.t 3) 1⟩, ⟨some 48, none, .load (.t 47) none⟩, ⟨some 49, none, .bin false .add (.t 46) (.t 48)⟩, ⟨some 50, none, .call 38 [(.t 49)]⟩, ⟨some 51, none, .call 28 [(.t 50), (.k (.c (.bool true)))]⟩, ⟨some 52, none, .ext (.t 51) 0⟩, ⟨some 53, none, .ext (.t 51) 1⟩, ⟨none, none, .st (.t 4) (.t 52) (some 5)⟩, ⟨some 5, none, .mv (.t 53)⟩] none [4, 5]) .ret) (.seq (.reg [⟨some 55, none, .bin false .eql (.t 42) (.k (.c (.int .i64 4)))⟩, ⟨some 54, none, .mv (.t 55)⟩] none [2, 3, 4, 42, 54]) (.cond (.t 54) (.seq (.reg [⟨some 56, none, .fa (.t 2) 2⟩, ⟨some 57, none, .load (.t 56) none⟩, ⟨some 58, none, .fa (.t 3) 2⟩, ⟨some 59, none, .load (.t 58) none⟩, ⟨some 60, none, .bin false .add (.t 57) (.t 59)⟩, ⟨some 61, none, .call 37 [(.t 60)]⟩, ⟨some 62, none, .call 28 [(.t 61), (.k (.c (.bool true)))]⟩, ⟨some 63, none, .ext (.t 62) 0⟩, ⟨some 64, none, .ext (.t 62) 1⟩, ⟨none, none, .st (.t 4) (.t 63) (some 5)⟩, ⟨some 5, none, .mv (.t 64)⟩] none [4, 5]) .ret) (.seq (.reg [⟨some 66, none, .bin false .eql (.t 42) (.k (.c (.int .i64 5)))⟩, ⟨some 65, none, .mv (.t 66)⟩] none [2, 3, 4, 42, 65]) (.cond (.t 65) (.seq (.reg [⟨some 67, none, .fa (.t 2) 4⟩, ⟨some 68, none, .load (.t 67) none⟩, ⟨some 69, none, .fa (.t 3) 4⟩, ⟨some 70, none, .load (.t 69) none⟩, ⟨some 71, none, .bsl 1 [((.t 68), none), ((.t 70), none)]⟩, ⟨some 72, none, .call 39 [(.t 71)]⟩, ⟨some 73, none, .call 32 [(.t 72)]⟩, ⟨some 74, none, .call 28 [(.t 73), (.k (.c (.bool true)))]⟩, ⟨some 75, none, .ext (.t 74) 0⟩, ⟨some 76, none, .ext (.t 74) 1⟩, ⟨none, none, .st (.t 4) (.t 75) (some 5)⟩, ⟨some 5, none, .mv (.t 76)⟩] none [4, 5]) .ret) (.seq (.reg [⟨some 78, none, .bin false .eql (.t 42) (.k (.c (.int .i64 6)))⟩, ⟨some 77, none, .mv (.t 78)⟩] none [2, 3, 4, 77]) (.cond (.t 77) (.seq (.reg [⟨some 79, none, .load (.t 2) (some 5)⟩, ⟨some 6, none, .alloc [(.c (.int .i64 0)), (.c (.int .i64 0)), (.c (.str ⟨#[]⟩)), (.z 1), (.z 5)]⟩, ⟨none, none, .st (.t 6) (.t 79) (some 5)⟩] none [3, 4, 6]) (.seq (.seq (.reg [⟨some 80, none, .fa (.t 3) 3⟩, ⟨some 81, none, .load (.t 80) none⟩, ⟨some 82, none, .len (.t 81) false⟩, ⟨some 83, none, .mv (.k (.c (.int .i64 0)))⟩] none [3, 4, 6, 81, 82, 83]) (.block 2 (.loop (.seq (.reg [⟨some 84, none, .bin false .lss (.t 83) (.t 82)⟩] none [3, 4, 6, 81, 82, 83, 84]) (.seq (.cond (.t 84) .skip (.exit 2)) (.seq (.block 3 (.seq (.reg [⟨some 85, none, .mv (.t 83)⟩, ⟨some 86, none, .ia (.t 81) (.t 83) 1⟩, ⟨some 87, none, .load (.t 86) none⟩, ⟨some 7, none, .mv (.t 85)⟩, ⟨some 8, none, .mv (.t 87)⟩] none [3, 4, 6, 7, 8, 81, 82, 83]) (.reg [⟨some 88, none, .load (.t 6) (some 5)⟩, ⟨some 89, none, .mv (.t 8)⟩, ⟨some 90, none, .fa (.t 3) 4⟩, ⟨some 91, none, .load (.t 90) none⟩, ⟨some 92, none, .mv (.t 7)⟩, ⟨some 93, none, .ia (.t 91) (.t 92) 5⟩, ⟨some 94, none, .load (.t 93) (some 5)⟩, ⟨some 95, none, .call 40 [(.t 88), (.t 89), (.t 94)]⟩, ⟨none, none, .st (.t 6) (.t 95) (some 5)⟩] (some 7) [3, 4, 6, 81, 82, 83]))) (.reg [⟨some 96, none, .bin false .add (.t 83) (.k (.c (.int .i64 1)))⟩, ⟨some 83, none, .mv (.t 96)⟩] none [3, 4, 6, 81, 82, 83]))))))) (.seq (.reg [⟨some 97, none, .load (.t 6) (some 5)⟩, ⟨some 98, none, .call 28 [(.t 97), (.k (.c (.bool true)))]⟩, ⟨some 99, none, .ext (.t 98) 0⟩, ⟨some 100, none, .ext (.t 98) 1⟩, ⟨none, none, .st (.t 4) (.t 99) (some 5)⟩, ⟨some 5, none, .mv (.t 100)⟩] none [4, 5]) .ret))) .skip)))))))))) (.seq (.reg [⟨some 101, none, .build [(.c (.int .i64 0)), (.c (.int .i64 0)), (.c (.str ⟨#[]⟩)), (.z 1), (.z 5)] []⟩, ⟨none, none, .st (.t 4) (.t 101) (some 5)⟩, ⟨some 5, none, .mv (.k (.c (.bool false)))⟩] none [4, 5]) .ret)))))
theorem chk_PartAddI : chkX Go.Proofs.Try.prog 102 (Go.Proofs.Try.f13.body.getD .skip) x_PartAddI = true := by kernel_rfl
theorem rs_PartAddI : okRs Go.Proofs.Try.prog Go.Proofs.Try.f13.results.toList [.cell 4 (some 5), .tmp 5] = true := by kernel_rfl
theorem call_PartAddI : okCallee Go.Proofs.Try.prog 13 = true := by kernel_rfl
noncomputable def spAddR  : Spec := Spec.of (ι := (List T) × (List T)) [false, false] (fun i => [.d (.agg (T.mk 5 0 ⟨#[]⟩ [] i.1).enc), .d (.agg (T.mk 5 0 ⟨#[]⟩ [] i.2).enc)]) (fun i => ((T.mk 5 0 ⟨#[]⟩ [] i.1).fit 1000000 ∧ okT (T.mk 5 0 ⟨#[]⟩ [] i.1)) ∧ (T.mk 5 0 ⟨#[]⟩ [] i.2).fit 1000000 ∧ okT (T.mk 5 0 ⟨#[]⟩ [] i.2)) (fun i => [.d (.agg (toldT true (T.mk 5 0 ⟨#[]⟩ [] (i.1 ++ i.2))).enc), .d (.one (.bool (decide (okT (T.mk 5 0 ⟨#[]⟩ [] (i.1 ++ i.2))))))]) (fun _ => [.gone, .gone])
theorem spAddR_inj : ∀ i j : (List T) × (List T), (fun (i : (List T) × (List T)) => ([.d (.agg (T.mk 5 0 ⟨#[]⟩ [] i.1).enc), .d (.agg (T.mk 5 0 ⟨#[]⟩ [] i.2).enc)] : List AV)) i = (fun (i : (List T) × (List T)) => ([.d (.agg (T.mk 5 0 ⟨#[]⟩ [] i.1).enc), .d (.agg (T.mk 5 0 ⟨#[]⟩ [] i.2).enc)] : List AV)) j → i = j := by
  rintro ⟨a, b⟩ ⟨a', b'⟩ h
  simp only [Prod.mk.injEq]
  simpa [strs_eq, T.enc_eq, encL_eq, F.enc_eq, encF_eq, Tk.enc_eq, encTk_eq, Gn.enc_eq, ints_eq] using h
theorem spAddR_md  : (spAddR).md = [false, false] := rfl
theorem spAddR_pre  (a : List T) (b : List T) : (spAddR).pre [.d (.agg (T.mk 5 0 ⟨#[]⟩ [] a).enc), .d (.agg (T.mk 5 0 ⟨#[]⟩ [] b).enc)] = (((T.mk 5 0 ⟨#[]⟩ [] a).fit 1000000 ∧ okT (T.mk 5 0 ⟨#[]⟩ [] a)) ∧ (T.mk 5 0 ⟨#[]⟩ [] b).fit 1000000 ∧ okT (T.mk 5 0 ⟨#[]⟩ [] b)) := Spec.of_pre' spAddR_inj (a, b)
theorem spAddR_alts  : (spAddR).alts = none := rfl
theorem spAddR_res  (a : List T) (b : List T) : (spAddR).res [.d (.agg (T.mk 5 0 ⟨#[]⟩ [] a).enc), .d (.agg (T.mk 5 0 ⟨#[]⟩ [] b).enc)] = [.d (.agg (toldT true (T.mk 5 0 ⟨#[]⟩ [] (a ++ b))).enc), .d (.one (.bool (decide (okT (T.mk 5 0 ⟨#[]⟩ [] (a ++ b))))))] := Spec.of_res spAddR_inj (a, b)
theorem spAddR_out  (a : List T) (b : List T) : (spAddR).out [.d (.agg (T.mk 5 0 ⟨#[]⟩ [] a).enc), .d (.agg (T.mk 5 0 ⟨#[]⟩ [] b).enc)] = [.gone, .gone] := Spec.of_out spAddR_inj (a, b)
set_option maxHeartbeats 4000000 in
theorem PartAddR_sound : Sound Go.Proofs.Try.prog 13 spAddR := by
  refine sound_fam (GOK.cons (l := [(28, spTold), (32, spRow), (39, spConcat)]) call_ValOkI valOkI_sound (GOK.cons call_told told_sound (GOK.cons call_row row_sound (GOK.cons call_Concat Concat_sound GOK.nil)))) Go.Proofs.Try.func13 (c := Go.Proofs.Try.f13.body.getD .skip) rfl (n := 102) rfl chk_PartAddI rs_PartAddI (fun _ => by simp) ?_ ?_
  · exact spAddR_inj
  · rintro ⟨a, b⟩ ⟨⟨h1, h2⟩, h3, h4⟩
    simp only at h1 h2 h3 h4
    have f1 := T.enc_len (T.mk 5 0 ⟨#[]⟩ [] a)
    have f2 := T.enc_len (T.mk 5 0 ⟨#[]⟩ [] b)
    have f3 := T.enc_len (T.mk 5 0 ⟨#[]⟩ [] (a ++ b))
    have f4 := T.enc_len (toldT true (T.mk 5 0 ⟨#[]⟩ [] (a ++ b)))
    have g1 := T.fit_mono (B := 140737488355328) (by decide) h1
    have g2 := T.fit_mono (B := 140737488355328) (by decide) h3
    have o1 := (okI_iff _).2 h2
    have o2 := (okI_iff _).2 h4
    have l1 : (a.length : Int) ≤ 1000000 := (T.fit_list h1).1
    have l2 : (b.length : Int) ≤ 1000000 := (T.fit_list h3).1
    have g3 : (T.mk 5 0 ⟨#[]⟩ [] (a ++ b)).fit 2000000 := rowT_fit (by omega) (by unfold lenB; rw [List.length_append]; omega) (fitL_app (fitL_of fun t ht => T.fit_mono (by decide) (fitL_mem (T.fit_list h1).2 t ht)) (fitL_of fun t ht => T.fit_mono (by decide) (fitL_mem (T.fit_list h3).2 t ht)))
    simp only [x_PartAddI, rg, go_sem, seval, Prod.fst, T.enc, foldT, foldT0, f1, f2, f3, f4, o1, o2, encL_len, spValOkI_md, spValOkI_pre, spValOkI_alts, spValOkI_res, spValOkI_out, spConcat_md, spConcat_pre, spConcat_alts, spConcat_res, spConcat_out, spRow_md, spRow_pre, spRow_alts, spRow_res, spRow_out, spTold_md, spTold_pre, spTold_alts, spTold_res, spTold_out]
    repeat' (first | with_reducible assumption | with_reducible refine And.intro ?_ ?_ | intro _)
    all_goals first | (show _ ≤ (_ : Int); omega) | assumption | (unfold lenB; omega) | skip
end Go.Proofs.Pw
/- What a law is told of a row of octets. -/
namespace Go.Proofs.Pw
def bytes (bs : List Int) : Prop := (∀ b ∈ bs, 0 ≤ b ∧ b ≤ 255) ∧ lenB 140737488355328 bs.length
end Go.Proofs.Pw
/- FnRowBack: the law, run. -/
set_option linter.unusedSimpArgs false
set_option maxRecDepth 20000
namespace Go.Proofs.Pw
set_option linter.unusedSectionVars false
variable [Globs]
def x_DrawRowBack : X := (.seq (.reg [⟨some 2, none, .alloc [(.c (.int .i64 0)), (.c (.int .i64 0)), (.c (.str ⟨#[]⟩)), (.z 1), (.z 5)]⟩] none [0, 2]) (.seq (.reg [⟨some 3, none, .mv (.t 0)⟩, ⟨some 4, none, .call 23 [(.t 3)]⟩, ⟨some 5, none, .callr 25 [(.t 4)]⟩, ⟨none, none, .st (.t 2) (.t 5) (some 5)⟩] none [2]) .ret))
theorem chk_DrawRowBack : chkX Go.Proofs.Try.prog 6 (Go.Proofs.Try.f14.body.getD .skip) x_DrawRowBack = true := by kernel_rfl
theorem rs_DrawRowBack : okRs Go.Proofs.Try.prog Go.Proofs.Try.f14.results.toList [.cell 2 (some 5)] = true := by kernel_rfl
theorem call_DrawRowBack : okCallee Go.Proofs.Try.prog 14 = true := by kernel_rfl
def x_lawRK : X := (.seq (.reg [⟨some 4, none, .mv (.k (.c (.bool false)))⟩] none [0, 1]) (.seq (.seq (.reg [⟨some 25, none, .mv (.t 0)⟩, ⟨some 26, none, .len (.t 25) false⟩, ⟨some 27, none, .bin false .gtr (.t 26) (.k (.c (.int .i64 1048576)))⟩, ⟨some 28, none, .mv (.t 27)⟩, ⟨some 29, some (28, false), .mv (.t 1)⟩, ⟨some 30, some (28, false), .len (.t 29) false⟩, ⟨some 31, some (28, false), .bin false .gtr (.t 30) (.k (.c (.int .i64 1048576)))⟩, ⟨some 32, none, .pick (.t 28) (.k (.c (.bool true))) (.t 31)⟩] none [0, 1, 32]) (.cond (.t 32) (.seq (.reg [⟨some 4, none, .mv (.k (.c (.bool true)))⟩] none [4]) .ret) .skip)) (.seq (.reg [⟨some 33, none, .mv (.t 0)⟩, ⟨some 34, none, .callr 14 [(.t 33)]⟩, ⟨some 5, none, .alloc [(.c (.int .i64 0)), (.c (.int .i64 0)), (.c (.str ⟨#[]⟩)), (.z 1), (.z 5)]⟩, ⟨none, none, .st (.t 5) (.t 34) (some 5)⟩] none [1, 5]) (.seq (.reg [⟨some 36, none, .load (.t 5) (some 5)⟩, ⟨some 37, none, .call 15 [(.t 36)]⟩, ⟨some 35, none, .mv (.t 37)⟩, ⟨some 38, none, .ext (.t 35) 0⟩, ⟨some 39, none, .ext (.t 35) 1⟩, ⟨some 6, none, .alloc [(.c (.int .i64 0)), (.c (.int .i64 0)), (.c (.str ⟨#[]⟩)), (.z 1), (.z 5)]⟩, ⟨none, none, .st (.t 6) (.t 38) (some 5)⟩, ⟨some 7, none, .mv (.t 39)⟩] none [1, 5, 6, 7]) (.seq (.reg [⟨some 41, none, .load (.t 5) (some 5)⟩, ⟨some 42, none, .call 16 [(.t 41)]⟩, ⟨some 40, none, .mv (.t 42)⟩, ⟨some 43, none, .ext (.t 40) 0⟩, ⟨some 44, none, .ext (.t 40) 1⟩, ⟨some 8, none, .alloc [(.c (.int .i64 0)), (.c (.int .i64 0)), (.c (.str ⟨#[]⟩)), (.z 1), (.z 5)]⟩, ⟨none, none, .st (.t 8) (.t 43) (some 5)⟩, ⟨some 9, none, .mv (.t 44)⟩] none [1, 5, 6, 7, 8, 9]) (.seq (.seq (.reg [⟨some 45, none, .mv (.t 7)⟩, ⟨some 46, none, .mv (.t 9)⟩, ⟨some 47, none, .bin true .neq (.t 45) (.t 46)⟩, ⟨some 48, none, .mv (.t 47)⟩, ⟨some 49, some (48, false), .load (.t 6) (some 5)⟩, ⟨some 50, some (48, false), .load (.t 8) (some 5)⟩, ⟨some 51, some (48, false), .call 11 [(.t 49), (.t 50)]⟩, ⟨some 52, some (48, false), .not (.t 51)⟩, ⟨some 53, none, .pick (.t 48) (.k (.c (.bool true))) (.t 52)⟩, ⟨some 54, none, .mv (.t 53)⟩, ⟨some 55, some (54, false), .mv (.t 7)⟩, ⟨some 56, some (54, false), .not (.t 55)⟩, ⟨some 57, none, .pick (.t 54) (.k (.c (.bool true))) (.t 56)⟩] none [1, 5, 6, 7, 8, 9, 57]) (.cond (.t 57) (.seq (.reg [⟨some 58, none, .mv (.t 7)⟩, ⟨some 59, none, .mv (.t 9)⟩, ⟨some 60, none, .bin true .eql (.t 58) (.t 59)⟩, ⟨some 61, none, .mv (.t 60)⟩, ⟨some 62, some (61, true), .load (.t 6) (some 5)⟩, ⟨some 63, some (61, true), .load (.t 8) (some 5)⟩, ⟨some 64, some (61, true), .call 11 [(.t 62), (.t 63)]⟩, ⟨some 65, none, .pick (.t 61) (.t 64) (.k (.c (.bool false)))⟩, ⟨some 4, none, .mv (.t 65)⟩] none [4]) .ret) .skip)) (.seq (.reg [⟨some 66, none, .mv (.t 1)⟩, ⟨some 67, none, .len (.t 66) false⟩, ⟨some 68, none, .fa (.t 5) 4⟩, ⟨some 69, none, .load (.t 68) none⟩, ⟨some 70, none, .len (.t 69) false⟩, ⟨some 71, none, .bin false .add (.t 70) (.k (.c (.int .i64 1)))⟩, ⟨some 72, none, .bin false .rem (.t 67) (.t 71)⟩, ⟨some 10, none, .mv (.t 72)⟩] none [5, 6, 10]) (.seq (.reg [⟨some 74, none, .load (.t 5) (some 5)⟩, ⟨some 75, none, .mv (.t 10)⟩, ⟨some 76, none, .call 12 [(.t 74), (.k (.c (.int .i64 0))), (.t 75)]⟩, ⟨some 73, none, .mv (.t 76)⟩, ⟨some 77, none, .ext (.t 73) 0⟩, ⟨some 78, none, .ext (.t 73) 1⟩, ⟨some 11, none, .alloc [(.c (.int .i64 0)), (.c (.int .i64 0)), (.c (.str ⟨#[]⟩)), (.z 1), (.z 5)]⟩, ⟨none, none, .st (.t 11) (.t 77) (some 5)⟩, ⟨some 12, none, .mv (.t 78)⟩] none [5, 6, 10, 11, 12]) (.seq (.reg [⟨some 80, none, .load (.t 5) (some 5)⟩, ⟨some 81, none, .mv (.t 10)⟩, ⟨some 82, none, .fa (.t 5) 4⟩, ⟨some 83, none, .load (.t 82) none⟩, ⟨some 84, none, .len (.t 83) false⟩, ⟨some 85, none, .call 12 [(.t 80), (.t 81), (.t 84)]⟩, ⟨some 79, none, .mv (.t 85)⟩, ⟨some 86, none, .ext (.t 79) 0⟩, ⟨some 87, none, .ext (.t 79) 1⟩, ⟨some 13, none, .alloc [(.c (.int .i64 0)), (.c (.int .i64 0)), (.c (.str ⟨#[]⟩)), (.z 1), (.z 5)]⟩, ⟨none, none, .st (.t 13) (.t 86) (some 5)⟩, ⟨some 14, none, .mv (.t 87)⟩] none [5, 6, 11, 12, 13, 14]) (.seq (.reg [⟨some 89, none, .load (.t 11) (some 5)⟩, ⟨some 90, none, .call 15 [(.t 89)]⟩, ⟨some 88, none, .mv (.t 90)⟩, ⟨some 91, none, .ext (.t 88) 0⟩, ⟨some 92, none, .ext (.t 88) 1⟩, ⟨some 15, none, .alloc [(.c (.int .i64 0)), (.c (.int .i64 0)), (.c (.str ⟨#[]⟩)), (.z 1), (.z 5)]⟩, ⟨none, none, .st (.t 15) (.t 91) (some 5)⟩, ⟨some 16, none, .mv (.t 92)⟩] none [5, 6, 12, 13, 14, 15, 16]) (.seq (.reg [⟨some 94, none, .load (.t 13) (some 5)⟩, ⟨some 95, none, .call 15 [(.t 94)]⟩, ⟨some 93, none, .mv (.t 95)⟩, ⟨some 96, none, .ext (.t 93) 0⟩, ⟨some 97, none, .ext (.t 93) 1⟩, ⟨some 17, none, .alloc [(.c (.int .i64 0)), (.c (.int .i64 0)), (.c (.str ⟨#[]⟩)), (.z 1), (.z 5)]⟩, ⟨none, none, .st (.t 17) (.t 96) (some 5)⟩, ⟨some 18, none, .mv (.t 97)⟩] none [5, 6, 12, 14, 15, 16, 17, 18]) (.seq (.reg [⟨some 99, none, .load (.t 17) (some 5)⟩, ⟨some 100, none, .load (.t 15) (some 5)⟩, ⟨some 101, none, .call 13 [(.t 99), (.t 100)]⟩, ⟨some 98, none, .mv (.t 101)⟩, ⟨some 102, none, .ext (.t 98) 0⟩, ⟨some 103, none, .ext (.t 98) 1⟩, ⟨some 19, none, .alloc [(.c (.int .i64 0)), (.c (.int .i64 0)), (.c (.str ⟨#[]⟩)), (.z 1), (.z 5)]⟩, ⟨none, none, .st (.t 19) (.t 102) (some 5)⟩, ⟨some 20, none, .mv (.t 103)⟩] none [5, 6, 12, 14, 16, 18, 19, 20]) (.seq (.reg [⟨some 105, none, .load (.t 5) (some 5)⟩, ⟨some 106, none, .call 17 [(.t 105)]⟩, ⟨some 104, none, .mv (.t 106)⟩, ⟨some 107, none, .ext (.t 104) 0⟩, ⟨some 108, none, .ext (.t 104) 1⟩, ⟨some 21, none, .alloc [(.c (.int .i64 0)), (.c (.int .i64 0)), (.c (.str ⟨#[]⟩)), (.z 1), (.z 5)]⟩, ⟨none, none, .st (.t 21) (.t 107) (some 5)⟩, ⟨some 22, none, .mv (.t 108)⟩] none [6, 12, 14, 16, 18, 19, 20, 21, 22]) (.seq (.reg [⟨some 110, none, .load (.t 6) (some 5)⟩, ⟨some 111, none, .call 17 [(.t 110)]⟩, ⟨some 109, none, .mv (.t 111)⟩, ⟨some 112, none, .ext (.t 109) 0⟩, ⟨some 113, none, .ext (.t 109) 1⟩, ⟨some 23, none, .alloc [(.c (.int .i64 0)), (.c (.int .i64 0)), (.c (.str ⟨#[]⟩)), (.z 1), (.z 5)]⟩, ⟨none, none, .st (.t 23) (.t 112) (some 5)⟩, ⟨some 24, none, .mv (.t 113)⟩] none [6, 12, 14, 16, 18, 19, 20, 21, 22, 23, 24]) (.seq (.reg [⟨some 114, none, .mv (.t 12)⟩, ⟨some 115, none, .mv (.t 114)⟩, ⟨some 116, some (115, true), .mv (.t 14)⟩, ⟨some 117, none, .pick (.t 115) (.t 116) (.k (.c (.bool false)))⟩, ⟨some 118, none, .mv (.t 117)⟩, ⟨some 119, some (118, true), .mv (.t 16)⟩, ⟨some 120, none, .pick (.t 118) (.t 119) (.k (.c (.bool false)))⟩, ⟨some 121, none, .mv (.t 120)⟩, ⟨some 122, some (121, true), .mv (.t 18)⟩, ⟨some 123, none, .pick (.t 121) (.t 122) (.k (.c (.bool false)))⟩, ⟨some 124, none, .mv (.t 123)⟩, ⟨some 125, some (124, true), .mv (.t 20)⟩, ⟨some 126, none, .pick (.t 124) (.t 125) (.k (.c (.bool false)))⟩, ⟨some 127, none, .mv (.t 126)⟩, ⟨some 128, some (127, true), .load (.t 19) (some 5)⟩, ⟨some 129, some (127, true), .load (.t 6) (some 5)⟩, ⟨some 130, some (127, true), .call 11 [(.t 128), (.t 129)]⟩, ⟨some 131, none, .pick (.t 127) (.t 130) (.k (.c (.bool false)))⟩, ⟨some 132, none, .mv (.t 131)⟩, ⟨some 133, some (132, true), .mv (.t 22)⟩, ⟨some 134, none, .pick (.t 132) (.t 133) (.k (.c (.bool false)))⟩, ⟨some 135, none, .mv (.t 134)⟩, ⟨some 136, some (135, true), .mv (.t 24)⟩, ⟨some 137, none, .pick (.t 135) (.t 136) (.k (.c (.bool false)))⟩, ⟨some 138, none, .mv (.t 137)⟩, ⟨some 139, some (138, true), .load (.t 21) (some 5)⟩, ⟨some 140, some (138, true), .load (.t 23) (some 5)⟩, ⟨some 141, some (138, true), .call 11 [(.t 139), (.t 140)]⟩, ⟨some 142, none, .pick (.t 138) (.t 141) (.k (.c (.bool false)))⟩, ⟨some 4, none, .mv (.t 142)⟩] none [4]) .ret)))))))))))))))
theorem chk_lawRK : chkX Go.Proofs.Try.prog 143 (Go.Proofs.Try.f4.body.getD .skip) x_lawRK = true := by kernel_rfl
theorem rs_lawRK : okRs Go.Proofs.Try.prog Go.Proofs.Try.f4.results.toList [.tmp 4] = true := by kernel_rfl
theorem DrawRowBack_sound : Sound Go.Proofs.Try.prog 14 spDRow := by
  refine sound_famR (GOK.cons (l := [(25, spRowDraw)]) call_l11Open l11Open_sound (GOK.cons call_l4RowDraw l4RowDraw_sound GOK.nil)) Go.Proofs.Try.func14 (c := Go.Proofs.Try.f14.body.getD .skip) rfl (n := 6) rfl chk_DrawRowBack rs_DrawRowBack (fun _ => by simp) ?_
  · rintro bs ⟨hb, h1⟩
    have hy := byt_take hb
    simp only [x_DrawRowBack, rg, go_sem, seval, Prod.fst, T.enc_len, spOpen_md, spOpen_pre, spOpen_alts, spOpen_res, spOpen_out, spRowDraw_md, spRowDraw_pre, spRowDraw_ne, ↓spRowDraw_all, spRowDraw_all]
    repeat' (first | with_reducible assumption | with_reducible refine And.intro ?_ ?_ | intro _)
    all_goals first | omega | skip
    rename_i k n s ks l q hd
    exact ⟨(k, n, s, ks, l), hd.1.mono (by decide), rfl⟩
theorem cut_take {l : List T} {k : Nat} (h : k ≤ l.length) : cutL 0 k l = l.take k := by
  have e1 : (edge l.length 0).toNat = 0 := by unfold edge; split <;> omega
  have e2 : (edge2 l.length 0 k).toNat = k := by unfold edge2 edge; repeat' split
                                                 all_goals omega
  unfold cutL; rw [e1, e2, List.drop_zero]
theorem cut_drop {l : List T} {k : Nat} (h : k ≤ l.length) : cutL k l.length l = l.drop k := by
  have e1 : (edge l.length k).toNat = k := by unfold edge; split <;> omega
  have e2 : (edge2 l.length k l.length).toNat = l.length := by unfold edge2 edge; repeat' split
                                                               all_goals omega
  unfold cutL; rw [e1, e2, List.take_length]
theorem sort_rev (l : List T) : sortC cmpT l.reverse = sortC cmpT l := sortC_uniq cmpT_is (sortC_srt cmpT_is _) ((sortC_perm cmpT_is _).trans (List.reverse_perm l))
noncomputable def spLawRK  : Spec := Spec.of (ι := (List Int) × (List Int)) [false, false] (fun i => [.d (.one (.row 1 (ints .u8 i.1))), .d (.one (.row 1 (ints .u8 i.2)))]) (fun i => bytes i.1 ∧ bytes i.2) (fun _ => [.d (.one (.bool true))]) (fun _ => [.gone, .gone])
theorem spLawRK_inj : ∀ i j : (List Int) × (List Int), (fun (i : (List Int) × (List Int)) => ([.d (.one (.row 1 (ints .u8 i.1))), .d (.one (.row 1 (ints .u8 i.2)))] : List AV)) i = (fun (i : (List Int) × (List Int)) => ([.d (.one (.row 1 (ints .u8 i.1))), .d (.one (.row 1 (ints .u8 i.2)))] : List AV)) j → i = j := by
  rintro ⟨a, b⟩ ⟨a', b'⟩ h
  simp only [Prod.mk.injEq]
  simpa [strs_eq, T.enc_eq, encL_eq, F.enc_eq, encF_eq, Tk.enc_eq, encTk_eq, Gn.enc_eq, ints_eq] using h
theorem spLawRK_pre  (a : List Int) (b : List Int) : (spLawRK).pre [.d (.one (.row 1 (ints .u8 a))), .d (.one (.row 1 (ints .u8 b)))] = (bytes a ∧ bytes b) := Spec.of_pre' spLawRK_inj (a, b)
theorem spLawRK_res  (a : List Int) (b : List Int) : (spLawRK).res [.d (.one (.row 1 (ints .u8 a))), .d (.one (.row 1 (ints .u8 b)))] = [.d (.one (.bool true))] := Spec.of_res spLawRK_inj (a, b)
set_option maxHeartbeats 4000000 in
theorem lawRK_sound : Sound Go.Proofs.Try.prog 4 spLawRK := by
  refine sound_fam (GOK.cons (l := [(17, spLeastI), (15, spBackI), (16, spBack), (12, spCutI), (13, spAddR), (11, spSameIV)]) call_DrawRowBack DrawRowBack_sound (GOK.cons call_RowLeastI RowLeastI_sound (GOK.cons call_RowBackI RowBackI_sound (GOK.cons call_RowBack RowBack_sound (GOK.cons call_RowCutI RowCutI_sound (GOK.cons call_PartAddI PartAddR_sound (GOK.cons call_ValSameI sameIV_sound GOK.nil))))))) Go.Proofs.Try.func4 (c := Go.Proofs.Try.f4.body.getD .skip) rfl (n := 143) rfl chk_lawRK rs_lawRK (fun _ => by simp) ?_ ?_
  · exact spLawRK_inj
  · rintro ⟨a, b⟩ ⟨h1, h2⟩
    simp only [bytes, lenB] at h1 h2
    simp only [x_lawRK, rg, go_sem, seval, Prod.fst, ints_len, T.enc_len, spDRow_md, spDRow_pre, ↓spDRow_all, spDRow_all]
    repeat' (first | with_reducible assumption | with_reducible refine And.intro ?_ ?_ | intro _)
    all_goals first | omega | skip
    · exact (h1.1 _ (by assumption)).1
    · exact (h1.1 _ (by assumption)).2
    · unfold lenB; omega
    rename_i k n s ks l hv
    generalize hve : (T.mk k n s ks l) = v at *
    clear hve
    have f1 := T.enc_len v
    have f3 := T.enc_len T.zero
    have v1 : v.fit 1000000 := T.fit_mono (by decide) hv.1
    have v2 : v.fit 140737488355328 := hv.fit
    have v3 := hv.2.1
    have v4 : v.list.length < 20 := by obtain ⟨k, n, s, ks, l⟩ := v; have := hv.2.2.1; simp only [T.list]; omega
    by_cases c : rowT v
    · obtain ⟨l, rfl⟩ : ∃ l, v = .mk 5 0 ⟨#[]⟩ [] l := ⟨_, rowT_is c⟩
      have o1 := c.1
      have c' : rowT (T.mk 5 0 ⟨#[]⟩ [] l) = True := eq_true c
      have l4 : l.length < 20 := v4
      obtain ⟨K, hK⟩ : ∃ K : Nat, (b.length : Int).tmod ((l.length : Int) + 1) = K := ⟨((b.length : Int).tmod ((l.length : Int) + 1)).toNat, by
        have := Int.tmod_nonneg ((l.length : Int) + 1) (show (0 : Int) ≤ b.length by omega); omega⟩
      have hKl : K ≤ l.length := by
        have := Int.tmod_lt_of_pos (b.length : Int) (show (0 : Int) < (l.length : Int) + 1 by omega); omega
      have fit1 : ∀ x : List T, x.length < 20 → (∀ t ∈ x, t ∈ l) → (T.mk 5 0 ⟨#[]⟩ [] x).fit 1000000 := fun x hx hm => rowT_fit (by omega) (by unfold lenB; omega) (fitL_of fun t ht => fitL_mem (T.fit_list v1).2 t (hm t ht))
      have kp1 := cut_take hKl
      have kp2 := cut_drop hKl
      have op : okT (.mk 5 0 ⟨#[]⟩ [] (l.take K)) := okT_row_sub o1 (List.take_sublist _ _)
      have oq : okT (.mk 5 0 ⟨#[]⟩ [] (l.drop K)) := okT_row_sub o1 (List.drop_sublist _ _)
      have ob := back_ok o1
      have obp := back_ok op
      have obq := back_ok oq
      have e0 := backT_row o1
      have e1 := backT_row op
      have e2 := backT_row oq
      have t1 := toldT_ok op
      have t2 := toldT_ok oq
      have t3 := toldT_ok ob
      have cat : (l.drop K).reverse ++ (l.take K).reverse = l.reverse := by rw [← List.reverse_append, List.take_append_drop]
      have m1 := leastT_row o1
      have m2 := leastT_row ob
      rw [sort_rev] at m2
      have y1 : ((sortC cmpT l).headD T.zero).fit 140737488355328 := head_fit (T.fit_list v2).2
      generalize (sortC cmpT l).headD T.zero = y at *
      have n1 : leastOk (.mk 5 0 ⟨#[]⟩ [] l) = True := eq_true (leastOk_row.2 o1)
      have n2 : leastOk (.mk 5 0 ⟨#[]⟩ [] l.reverse) = True := eq_true (leastOk_row.2 ob)
      have r1 : rowT (T.mk 5 0 ⟨#[]⟩ [] (l.take K)) = True := eq_true (rowT_row.2 op)
      have r2 : rowT (T.mk 5 0 ⟨#[]⟩ [] (l.drop K)) = True := eq_true (rowT_row.2 oq)
      have op' := eq_true op
      have oq' := eq_true oq
      have ob' := eq_true ob
      have F1 := fit1 (l.take K) (by rw [List.length_take]; omega) (fun t ht => List.mem_of_mem_take ht)
      have F2 := fit1 (l.drop K) (by rw [List.length_drop]; omega) (fun t ht => List.mem_of_mem_drop ht)
      have F3 := fit1 (l.take K).reverse (by rw [List.length_reverse, List.length_take]; omega) (fun t ht => List.mem_of_mem_take (by simpa using ht))
      have F4 := fit1 (l.drop K).reverse (by rw [List.length_reverse, List.length_drop]; omega) (fun t ht => List.mem_of_mem_drop (by simpa using ht))
      have F5 := fit1 l.reverse (by rw [List.length_reverse]; omega) (fun t ht => by simpa using ht)
      have F6 := T.fit_mono (B := 140737488355328) (by decide) F5
      have l5 : (T.mk 5 0 ⟨#[]⟩ [] l.reverse).list.length < 20 := by simp only [T.list, List.length_reverse]; omega
      have f2 := T.enc_len (.mk 5 0 ⟨#[]⟩ [] l.reverse)
      have f4 := T.enc_len (.mk 5 0 ⟨#[]⟩ [] (l.take K))
      have f5 := T.enc_len (.mk 5 0 ⟨#[]⟩ [] (l.drop K))
      have f6 := T.enc_len (.mk 5 0 ⟨#[]⟩ [] (l.take K).reverse)
      have f7 := T.enc_len (.mk 5 0 ⟨#[]⟩ [] (l.drop K).reverse)
      have f8 := T.enc_len y
      simp only [rg, go_sem, seval, Prod.fst, f1, f2, f4, f5, f6, f7, f8, e0, e1, e2, t1, t2, t3, c', m1, m2, n1, n2, r1, r2, op', oq', ob', hK, kp1, kp2, cat, ints_len, T.enc, T.enc_dropQ, foldT, foldT0, encL_len, spLeastI_md, spLeastI_pre, spLeastI_alts, spLeastI_res, spLeastI_out, spBackI_md, spBackI_pre, spBackI_alts, spBackI_res, spBackI_out, spBack_md, spBack_pre, spBack_alts, spBack_res, spBack_out, spCutI_md, spCutI_pre, spCutI_alts, spCutI_res, spCutI_out, spAddR_md, spAddR_pre, spAddR_alts, spAddR_res, spAddR_out, spSameIV_md, spSameIV_pre, spSameIV_alts, spSameIV_res, spSameIV_out]
      repeat' (first | with_reducible assumption | with_reducible refine And.intro ?_ ?_ | intro _)
      all_goals first | (show _ ≤ (_ : Int); omega) | (show _ < (_ : Int); omega) | (show False; omega) | assumption | skip
    · have e1 := backT_not c
      simp only [rg, go_sem, seval, Prod.fst, f1, f3, e1, c, spBackI_md, spBackI_pre, spBackI_alts, spBackI_res, spBackI_out, spBack_md, spBack_pre, spBack_alts, spBack_res, spBack_out, spSameIV_md, spSameIV_pre, spSameIV_alts, spSameIV_res, spSameIV_out]
      repeat' (first | with_reducible assumption | with_reducible refine And.intro ?_ ?_ | intro _)
      all_goals first | omega | assumption | exact T.zero_fit | skip
end Go.Proofs.Pw
/- From what a law's arguments are told to be, to what is shown of its run. -/
namespace Go.Proofs.Pw
open Go.RowKit
set_option linter.unusedSectionVars false
/-- All blocks that are there. -/
def Old (w : World) (g : Nat) : Prop := g < w.heap.size
theorem cell_lt {w : World} {a : Addr} {v : Value} (h : w.cell? a = some v) : a.block < w.heap.size := by
  unfold World.cell? at h
  rcases Nat.lt_or_ge a.block w.heap.size with hlt | hge
  · exact hlt
  · rw [Array.getElem?_eq_none hge] at h; simp at h
theorem rep_ints {k : IntKind} {w : World} {a : Option Addr} {len cap : Nat} {zs : List Int}
    (h : (a = none ∧ len = 0 ∧ cap = 0 ∧ zs = []) ∨ ∃ x, a = some x ∧ len ≤ cap ∧ cap ≤ maxLen ∧ zs.length = cap ∧ (∀ i, i < zs.length → w.cell? (x.add i) = some (.int k (zs.getD i 0))) ∧ ∀ n ∈ zs, (Lit.int k n).wf = true) :
    Rep w (Old w) (.row 1 (ints k (zs.take len))) (.slice a len cap) ∧ (zs.take len).length = len ∧ ∀ n ∈ zs.take len, (Lit.int k n).wf = true := by
  rcases h with ⟨rfl, rfl, rfl, rfl⟩ | ⟨x, rfl, hl, hm, hz, hc, hw⟩
  · exact ⟨.nil .., rfl, by simp⟩
  · have hlen : (zs.take len).length = len := by simp; omega
    refine ⟨?_, hlen, fun n hn => hw n (List.mem_of_mem_take hn)⟩
    rcases Nat.eq_zero_or_pos len with h0 | h0
    · subst h0; exact .nil ..
    · have key : ∀ (i j : Nat) e c, (ints k (zs.take len))[i]? = some e → e[j]? = some c → j = 0 ∧ i < zs.length ∧ c = .int k (zs.getD i 0) := fun i j e c he hj => by
        simp only [ints, List.getElem?_map, Option.map_eq_some_iff] at he
        obtain ⟨n, hn, rfl⟩ := he
        rw [List.getElem?_take] at hn
        split at hn
        · cases j with
          | zero => simp at hj; subst hj; exact ⟨rfl, (List.getElem?_eq_some_iff.1 hn).1, by simp [hn]⟩
          | succ j => simp at hj
        · cases hn
      have hel : (ints k (zs.take len)).length = len := by rw [ints_len, hlen]
      have := Rep.row (w := w) (S := Old w) 1 (ints k (zs.take len)) x cap (fun i => .int k (zs.getD i 0)) (by omega) (by
        have := cell_lt (hc 0 (by omega)); rwa [add_block] at this) (fun i e he => by
          simp only [ints, List.getElem?_map, Option.map_eq_some_iff] at he
          obtain ⟨n, _, rfl⟩ := he; rfl) (fun i j e c he hj => by
          obtain ⟨rfl, h1, _⟩ := key i j e c he hj
          simpa using hc i h1) (fun i j e c he hj => by
          obtain ⟨rfl, h1, rfl⟩ := key i j e c he hj
          simpa using Rep.int k (zs.getD i 0))
      rwa [hel] at this
/-- A law that holds of what it is handed, run in whatever world. -/
theorem law_calls [Globs] {P : Program} {f : FuncId} {sp : Spec} (h : Sound P f sp) {args : List AV} (hp : sp.pre args) (ha : sp.alts = none) (hr : sp.res args = [.d (.one (.bool true))]) {W : World} {vs : List Value} (hG : Gl W (Old W))
    (hA : All3 (RepA W (Old W)) args vs (args.map fun _ => fun _ => False)) : Calls P f vs.toArray W fun e w' => e = .returned (.bool true) ∧ Below W.heap.size W w' := by
  refine (h args hp W (Old W) vs _ hG (fun _ h => h) (fun g hg => absurd hg Any_false) Apart_false hA).mono ?_
  rintro e w' ⟨r, o, hro, v, S', rfs, fps', rfl, g1, _, _, _, _, _, g8⟩
  obtain ⟨rfl, rfl⟩ := (Spec.may_none ha).1 hro
  rw [hr] at g1
  refine ⟨?_, ⟨g8.os, g8.tape, g8.output, g8.size, fun k hk => g8.block k hk Any_false⟩⟩
  cases rfs with
  | nil => exact absurd rfl g1.1
  | cons fp r => cases r with
    | nil =>
      obtain ⟨g1, _⟩ := g1
      cases g1; rfl
    | cons _ _ => exact absurd rfl g1.1
end Go.Proofs.Pw
/- Arguments with depth: what they read as, and that they read so still. -/
namespace Go.Proofs.Pw
open Go.RowKit Go.ChangeShapes Go.WideShapes
set_option linter.unusedSectionVars false
section
variable {H : Type} {enc : TypeId × Value → H} {P : Program} {W W' : World} {spare : Nat → Bool} {held : Bool}
theorem trodAll_below (hl : laidOutB P = true) (hb : Below W.heap.size W W') : ∀ {ts : List TypeId} {vs : List Value} {ds : List (DataW H)} {p : List MemPlace}, DataW.TrodAll enc P W 0 (fun _ => true) true ts vs ds p →
    (ts.all fun t => P.readableRec t && decide (t < P.types.size)) = true → (∀ x ∈ p, x.block < W.heap.size) → DataW.TrodAll enc P W' 0 (fun b => decide (b < W.heap.size)) true ts vs ds p := by
  intro ts
  induction ts with
  | nil =>
    intro vs ds p h _ _
    cases vs <;> cases ds <;> first | exact h | exact h.elim
  | cons t ts ih =>
    intro vs ds p h hr hp
    obtain ⟨v, vs', d, ds', p1, q, rfl, rfl, rfl, h1, h2⟩ := trodAll_cons h
    simp only [List.all_cons, Bool.and_eq_true, decide_eq_true_eq] at hr
    exact ⟨p1, q, Below.trod hl hr.1.1 hr.1.2 h1 hb (fun x hx => hp x (by simp [hx])), ih h2 hr.2 (fun x hx => hp x (by simp [hx])), rfl⟩
theorem trodVars_below (hl : laidOutB P = true) (hb : Below W.heap.size W W') : ∀ {ns : List String} {gs : List (DataW H)} {p : List MemPlace}, DataW.TrodVars enc P W (fun _ => true) ns gs p →
    (ns.all fun n => match P.globalNamed n with | some g => (match P.globals[g]? with | some x => P.readableRec x.type && decide (x.type < P.types.size) | none => false) | none => false) = true → (∀ x ∈ p, x.block < W.heap.size) →
    DataW.TrodVars enc P W' (fun b => decide (b < W.heap.size)) ns gs p := by
  intro ns
  induction ns with
  | nil =>
    intro gs p h _ _
    cases gs <;> first | exact h | exact h.elim
  | cons n ns ih =>
    intro gs p h hr hp
    cases gs with
    | nil => exact h.elim
    | cons d gs =>
      obtain ⟨g, t, cs, fuel, p1, q, hg, ht, hv, hd, h2, rfl⟩ := h
      simp only [List.all_cons, Bool.and_eq_true, hg] at hr
      obtain ⟨hr2, hr3⟩ := hr
      have hr1 : g < W.heap.size := by
        unfold World.var? at hv
        simp only [hg, Option.bind_some] at hv
        split at hv
        · rename_i h1; exact (Array.getElem?_eq_some_iff.1 h1).1
        · cases hv
      simp only [Option.map_eq_some_iff] at ht
      obtain ⟨x, hx, rfl⟩ := ht
      simp only [hx, Bool.and_eq_true, decide_eq_true_eq] at hr2
      have hk : DataW.Trod enc P W 0 (fun _ => true) true x.type (.agg cs) d p1 := ⟨fuel, hd⟩
      obtain ⟨fuel', hd'⟩ := Below.trod hl hr2.1 hr2.2 hk hb (fun y hy => hp y (by simp [hy]))
      exact ⟨g, x.type, cs, fuel', p1, q, hg, by rw [hx]; rfl, var?_below hb hg hr1 hv, hd', ih h2 hr3 (fun y hy => hp y (by simp [hy])), rfl⟩
/-- What is left behind a law that gives true, and has turned nothing that was there. -/
theorem law_post {f : Func} {s : ChangeSpec} {args : Array Value} {ds gs : List (DataW H)} {before : List MemPlace} {rt : TypeId} (hl : laidOutB P = true)
    (hW : DataW.Whole enc P f.params.toList s.vars false W args.toList ds gs before) (hrt : f.resultTypes.toList = [rt]) (hrb : P.underlying rt = some .bool) (hsz : f.resultTypes.size = 1)
    (hfn : s.fn H (ds ++ gs) = { results := [.lit (.bool true)], args := ds, vars := gs })
    (hp : (f.params.toList.all fun t => P.readableRec t && decide (t < P.types.size)) = true)
    (hv : (s.vars.all fun n => match P.globalNamed n with | some g => (match P.globals[g]? with | some x => P.readableRec x.type && decide (x.type < P.types.size) | none => false) | none => false) = true)
    (hb : Below W.heap.size W W') : s.post enc P f false true false false W args (.bool true) W' := by
  have hlt := hW.lt
  have hW' := hW
  obtain ⟨p, q, hA, hV, rfl, hfz, hnd⟩ := hW
  refine ⟨ds, gs, _, [], p, q, hW', ?_, ?_, ?_, hb.frame _, fun h => by cases h⟩
  · rw [hfn, hrt, hsz]
    exact trodAll_mk1 (shut_bool hrb _)
  · rw [hfn]; exact trodAll_below hl hb hA hp (fun x hx => hlt x (by simp [hx]))
  · rw [hfn]; exact trodVars_below hl hb hV hv (fun x hx => hlt x (by simp [hx]))
end
end Go.Proofs.Pw
